/- window's Put: contract. -/
import Derived.Test.YtcfohdkdppiekaaWAll
namespace Go.Proofs.Ytcfohdkdppiekaa
open Go Go.RowKit Go.Proofs
/-- three cells of a ring -/
def set3 (cs : List Value) (j : Nat) (a b c : Value) : List Value := ((cs.set (j * 3) a).set (j * 3 + 1) b).set (j * 3 + 2) c
theorem set3_len (cs : List Value) (j : Nat) (a b c : Value) : (set3 cs j a b c).length = cs.length := by simp [set3]
theorem set3_other (cs : List Value) (j k i : Nat) (a b c : Value) (h : k ≠ j) (hi : i < 3) : (set3 cs j a b c)[3 * k + i]? = cs[3 * k + i]? := by
  unfold set3
  rw [List.getElem?_set_ne (by omega), List.getElem?_set_ne (by omega), List.getElem?_set_ne (by omega)]
theorem set3_same0 (cs : List Value) (j : Nat) (a b c : Value) (h : 3 * j + 2 < cs.length) : (set3 cs j a b c)[3 * j]? = some a := by
  unfold set3
  rw [List.getElem?_set_ne (by omega), List.getElem?_set_ne (by omega), Nat.mul_comm 3 j, List.getElem?_set_self (by omega)]
theorem set3_same1 (cs : List Value) (j : Nat) (a b c : Value) (h : 3 * j + 2 < cs.length) : (set3 cs j a b c)[3 * j + 1]? = some b := by
  unfold set3
  rw [List.getElem?_set_ne (by omega), Nat.mul_comm 3 j, List.getElem?_set_self (by simp; omega)]
theorem set3_same2 (cs : List Value) (j : Nat) (a b c : Value) (h : 3 * j + 2 < cs.length) : (set3 cs j a b c)[3 * j + 2]? = some c := by
  unfold set3
  rw [Nat.mul_comm 3 j, List.getElem?_set_self (by simp; omega)]
theorem WinC.put {cs : List Value} {p : Nat} {L : List Iv} (h : WinC cs p L) (hl : L.length < 32) (x : Iv) :
    WinC (set3 cs ((p + L.length) % 32) (.int .u64 (x.1 : Int)) (.int .u64 (x.2.1 : Int)) (.string ⟨x.2.2.toArray⟩)) p (L ++ [x]) := by
  have hlen := h.len
  have hj : 3 * ((p + L.length) % 32) + 2 < cs.length := by omega
  refine ⟨by rw [set3_len]; exact hlen, h.hp, ?_, ?_, ?_⟩ <;>
  · intro i y hy
    rcases Nat.lt_or_ge i L.length with hi | hi
    · rw [List.getElem?_append_left hi] at hy
      have := set3_other cs ((p + L.length) % 32) ((p + i) % 32)
      first
        | (rw [show 3 * ((p + i) % 32) = 3 * ((p + i) % 32) + 0 from rfl, set3_other _ _ _ _ _ _ _ (by omega) (by omega)]; exact h.at0 i y hy)
        | (rw [set3_other _ _ _ _ _ _ _ (by omega) (by omega)]; exact h.at1 i y hy)
        | (rw [set3_other _ _ _ _ _ _ _ (by omega) (by omega)]; exact h.at2 i y hy)
    · rw [List.getElem?_append_right hi] at hy
      obtain rfl : i = L.length := by
        have := (List.getElem?_eq_some_iff.1 hy).1
        simp at this; omega
      obtain rfl : x = y := by simpa using hy
      first
        | exact set3_same0 _ _ _ _ _ hj
        | exact set3_same1 _ _ _ _ _ hj
        | exact set3_same2 _ _ _ _ _ hj
theorem WinC.drop {cs : List Value} {p : Nat} {L : List Iv} (h : WinC cs p L) (hl : L.length ≤ 32) (a b c : Value) : WinC (set3 cs p a b c) ((p + 1) % 32) (L.drop 1) := by
  have hp := h.hp
  have hlen := h.len
  refine ⟨by rw [set3_len]; exact hlen, by omega, ?_, ?_, ?_⟩ <;>
  · intro i y hy
    rw [List.getElem?_drop] at hy
    have hi := (List.getElem?_eq_some_iff.1 hy).1
    have e : ((p + 1) % 32 + i) % 32 = (p + (1 + i)) % 32 := by omega
    rw [e]
    first
      | (rw [show 3 * ((p + (1 + i)) % 32) = 3 * ((p + (1 + i)) % 32) + 0 from rfl, set3_other _ _ _ _ _ _ _ (by omega) (by omega)]; exact h.at0 _ y hy)
      | (rw [set3_other _ _ _ _ _ _ _ (by omega) (by omega)]; exact h.at1 _ y hy)
      | (rw [set3_other _ _ _ _ _ _ _ (by omega) (by omega)]; exact h.at2 _ y hy)
theorem arr_set3 {w : World} {g : Nat} {T : TypeId} {cs t : List Value} (h : arr w g T (cs ++ t)) (j : Nat) (hj : j * 3 + 2 < cs.length) (a b c : Value) :
    arr (((w.setCell ⟨g, j * 3, none⟩ a).setCell ⟨g, j * 3 + 1, none⟩ b).setCell ⟨g, j * 3 + 2, none⟩ c) g T (set3 cs j a b c ++ t) := by
  have := ((h.set (j * 3) a).set (j * 3 + 1) b).set (j * 3 + 2) c
  rw [List.set_append_left _ _ (by omega), List.set_append_left _ _ (by simp; omega), List.set_append_left _ _ (by simp; omega)] at this
  exact this
theorem arr_tail {w : World} {g : Nat} {T : TypeId} {cs : List Value} {a b c : Value} (hl : cs.length = 96) (h : arr w g T (cs ++ [a, b, c])) (v : Value) :
    arr (w.setCell ⟨g, 96, none⟩ v) g T (cs ++ [v, b, c]) ∧ arr (w.setCell ⟨g, 97, none⟩ v) g T (cs ++ [a, v, c]) := by
  have h1 := h.set 96 v
  have h2 := h.set 97 v
  rw [List.set_append_right _ _ (by omega), hl] at h1 h2
  exact ⟨h1, h2⟩
/-- Next's answer -/
theorem wnext_any (g most : Nat) (L : List Iv) (w : World) (h : isW w g most L) :
    ∃ (n : Nat) (b : Bool), ((b = false ∧ nxr L = none) ∨ (b = true ∧ nxr L = some n)) ∧ Calls Try.prog 59 #[.pointer (some ⟨g, 0, none⟩)] w fun e w' => e = .returned (.tuple #[.int .u64 (n : Int), .bool b]) ∧ Below w.heap.size w w' := by
  cases hx : L.getLast? with
  | none =>
    obtain rfl : L = [] := by simpa using hx
    refine ⟨0, false, Or.inl ⟨rfl, rfl⟩, (wnext_none g most w h).mono ?_⟩
    rintro e w' ⟨rfl, rfl⟩
    exact ⟨rfl, Below.refl _ _⟩
  | some x =>
    refine ⟨x.2.1 + 1, true, Or.inr ⟨rfl, by simp [nxr, hx]⟩, wnext_some g most L x hx w h⟩
set_option maxRecDepth 100000 in
set_option maxHeartbeats 1000000 in
theorem wput_arg (g most : Nat) (L : List Iv) (f l : Nat) (r : List UInt8) (hr : r.length ≤ 9223372036854775807) (hf : f < 18446744073709551616) (hl : l < 18446744073709551616) (hno : ¬ ivOk f l r) (w : World) (h : isW w g most L) :
    Calls Try.prog 54 #[.pointer (some ⟨g, 0, none⟩), .int .u64 (f : Int), .int .u64 (l : Int), .string ⟨r.toArray⟩] w fun e w' => e = .returned (.int .i64 2) ∧ Below w.heap.size w w' := by
  obtain ⟨n, b, -, hcall⟩ := wnext_any g most L w h
  have HC := hid hcall
  have HNO := hid hno
  clear h hcall hno
  by_cases h1 : r.length = 32
  · have h1' : (r.length : Int) = 32 := by omega
    by_cases h2 : l < f
    · have h2' : (l : Int) < (f : Int) := by omega
      go_enter Try.func54, Try.ntmps54
      go_wp2_with fail
      refine HC.out.mono ?_
      rintro e w1 ⟨rfl, b1⟩
      have B1 := hid b1
      clear b1 HC
      go_wp2
      go_ret
      exact ⟨rfl, B1.out⟩
    · have h2' : ¬ (l : Int) < (f : Int) := by omega
      have h2'' : (f : Int) ≤ (l : Int) := by omega
      by_cases h3 : l - f < 64
      · have h4 : l = 18446744073709551615 := by
          have := HNO.out
          unfold ivOk at this
          omega
        subst h4
        have h3' : ¬ 64 ≤ (18446744073709551615 : Int) - (f : Int) := by omega
        have h5' : ¬ (18446744073709551615 : Int) < (f : Int) := by omega
        clear h3 h2 h2' h2'' hl
        go_enter Try.func54, Try.ntmps54
        go_wp2_with fail
        refine HC.out.mono ?_
        rintro e w1 ⟨rfl, b1⟩
        have B1 := hid b1
        clear b1 HC
        go_wp2
        go_ret
        exact ⟨rfl, B1.out⟩
      · have h3' : 64 ≤ (l : Int) - (f : Int) := by omega
        go_enter Try.func54, Try.ntmps54
        go_wp2_with fail
        refine HC.out.mono ?_
        rintro e w1 ⟨rfl, b1⟩
        have B1 := hid b1
        clear b1 HC
        go_wp2
        go_ret
        exact ⟨rfl, B1.out⟩
  · have h1' : ¬ (r.length : Int) = 32 := by omega
    go_enter Try.func54, Try.ntmps54
    go_wp2_with fail
    refine HC.out.mono ?_
    rintro e w1 ⟨rfl, b1⟩
    have B1 := hid b1
    clear b1 HC
    go_wp2
    go_ret
    exact ⟨rfl, B1.out⟩
set_option maxRecDepth 100000 in
set_option maxHeartbeats 1000000 in
theorem wput_next (g most : Nat) (L : List Iv) (f l : Nat) (r : List UInt8) (hf : f < 18446744073709551616) (hok : ivOk f l r) (n : Nat) (hn : nxr L = some n) (hne : n ≠ f) (w : World) (h : isW w g most L) :
    Calls Try.prog 54 #[.pointer (some ⟨g, 0, none⟩), .int .u64 (f : Int), .int .u64 (l : Int), .string ⟨r.toArray⟩] w fun e w' => e = .returned (.int .i64 17) ∧ Below w.heap.size w w' := by
  obtain ⟨n', b, hb, hcall⟩ := wnext_any g most L w h
  obtain ⟨rfl, hn'⟩ : b = true ∧ nxr L = some n' := by
    rcases hb with ⟨_, h1⟩ | h1
    · rw [hn] at h1; cases h1
    · exact h1
  obtain rfl : n = n' := by rw [hn] at hn'; exact Option.some.inj hn'
  have HC := hid hcall
  obtain ⟨k1, k2, k3, k4⟩ := hok
  have h1' : (r.length : Int) = 32 := by omega
  have h2' : ¬ (l : Int) < (f : Int) := by omega
  have h3' : ¬ 64 ≤ (l : Int) - (f : Int) := by omega
  have h4' : ¬ (l : Int) = 18446744073709551615 := by omega
  have h2 : ¬ l < f := by omega
  have h4 : ((l : Int) == 18446744073709551615) = false := by simpa using h4'
  have h5' : ¬ (f : Int) = (n : Int) := by omega
  clear h hcall hn hn' hb
  go_enter Try.func54, Try.ntmps54
  go_wp2_with fail
  refine HC.out.mono ?_
  rintro e w1 ⟨rfl, b1⟩
  have B1 := hid b1
  clear b1 HC
  go_wp2
  go_ret
  exact ⟨rfl, B1.out⟩
theorem win_done {w : World} {g most q m : Nat} {L L3 : List Iv} {x : Iv} {cs : List Value} (h1 : L.length ≤ most) (h2 : 1 ≤ most) (h3 : most ≤ 32) (hk : Cont L) (he : putE L x.1 x.2.1 x.2.2 = 0) (hp : putL most L x = L3 ++ [x]) (hm : m = L3.length)
    (hc : WinC cs q (L3 ++ [x])) (ha : arr w g 156 (cs ++ [.int .i64 (q : Int), .int .i64 ((m : Int) + 1), .int .i64 (most : Int)])) : isW w g most (putL most L x) := by
  have hl : (putL most L x).length = m + 1 := by rw [hp, hm]; simp
  refine ⟨cs, q, by rw [hp]; exact hc, (putL_len most L x h1 h2).1, h2, h3, hk.put he, ?_⟩
  rw [hl]; exact ha
set_option maxRecDepth 100000 in
set_option maxHeartbeats 4000000 in
theorem wput_ok (g most : Nat) (L : List Iv) (f l : Nat) (r : List UInt8) (hf : f < 18446744073709551616) (hok : ivOk f l r) (hn : nxr L = none ∨ nxr L = some f) (w : World) (h : isW w g most L) :
    Calls Try.prog 54 #[.pointer (some ⟨g, 0, none⟩), .int .u64 (f : Int), .int .u64 (l : Int), .string ⟨r.toArray⟩] w fun e w' => e = .returned (.int .i64 0) ∧ isW w' g most (putL most L (f, l, r)) ∧ w.grownBy w' (some g) := by
  obtain ⟨n, b, hb, hcall⟩ := wnext_any g most L w h
  have HC := hid hcall
  have HOK := hid hok
  obtain ⟨k1, k2, k3, k4⟩ := hok
  have h1' : (r.length : Int) = 32 := by omega
  have h2' : ¬ (l : Int) < (f : Int) := by omega
  have h3' : ¬ 64 ≤ (l : Int) - (f : Int) := by omega
  have h4' : ¬ (l : Int) = 18446744073709551615 := by omega
  have h2 : ¬ l < f := by omega
  have h4 : ((l : Int) == 18446744073709551615) = false := by simpa using h4'
  have hb' : b = false ∨ (b = true ∧ f = n) := by
    rcases hb with ⟨h1, _⟩ | ⟨h1, h2⟩
    · exact Or.inl h1
    · rcases hn with hn | hn
      · rw [hn] at h2; cases h2
      · rw [hn] at h2; exact Or.inr ⟨h1, Option.some.inj h2⟩
  have H := hid h
  have HN := hid hn
  clear h hcall hn hb
  have HE : Hid (putE L f l r = 0) := by
    unfold putE
    rw [if_neg (fun h => h HOK.out), if_pos HN.out]; exact rfl
  rcases hb' with rfl | ⟨rfl, rfl⟩
  all_goals
    go_enter Try.func54, Try.ntmps54
    go_wp2_with fail
    refine HC.out.mono ?_
    rintro e w1 ⟨rfl, b1⟩
    have B1 := hid b1
    have H1 := hid (H.out.keep b1)
    clear b1 HC
    go_wp2_with fail
    obtain ⟨cs, p, hc, hm, h1, h32, hk, ha⟩ := H1.out
    obtain ⟨cp, cn, cm⟩ := win_cell hc.len ha
    have lg := ha.lt
    have hp := hc.hp
    have HC := hid hc
    have HK := hid hk
    have HA := hid ha
    clear hc hk ha
    by_cases hfull : L.length = most
    · have hfull' : (L.length : Int) = (most : Int) := by omega
      refine wp_region_sq (fun W' => W' = w1.drew) [(true, 0), (true, 1), (true, 2), (true, 3), (true, 4), (true, 5), (true, 6), (true, 7)] 8 rfl (by kernel_rfl) (by kernel_rfl) (by kernel_rfl) (by decide) rfl (by kernel_rfl) rfl ?_
      refine sq_soft rfl (by kernel_rfl) (fun W hW => (by subst hW; go_simp; try rfl)) ?_; go_frame
      refine sq_soft rfl (by kernel_rfl) (fun W hW => (by subst hW; go_simp; try rfl)) ?_; go_frame
      refine sq_soft rfl (by kernel_rfl) (fun W hW => (by subst hW; go_simp; try rfl)) ?_; go_frame
      refine sq_soft rfl (by kernel_rfl) (fun W hW => (by subst hW; go_simp; try rfl)) ?_; go_frame
      refine sq_soft rfl (by kernel_rfl) (fun W hW => (by subst hW; go_simp; try rfl)) ?_; go_frame
      refine sq_soft rfl (by kernel_rfl) (fun W hW => (by subst hW; go_simp; try rfl)) ?_; go_frame
      refine sq_soft rfl (by kernel_rfl) (fun W hW => (by subst hW; go_simp; try rfl)) ?_; go_frame
      refine sq_soft rfl (by kernel_rfl) (fun W hW => (by subst hW; go_simp; try rfl)) ?_; go_frame
      refine sched_done ?_
      go_wp2_with fail
      have hpI : (p : Int) < 32 := by omega
      obtain ⟨v0, e0⟩ : ∃ v, w1.cell? ⟨g, p * 3, none⟩ = some v := ⟨_, HA.out.cell (p * 3) _ (by rw [List.getElem?_append_left (by rw [HC.out.len]; omega)]; exact List.getElem?_eq_getElem (by rw [HC.out.len]; omega))⟩
      obtain ⟨v1, e1⟩ : ∃ v, w1.cell? ⟨g, p * 3 + 1, none⟩ = some v := ⟨_, HA.out.cell (p * 3 + 1) _ (by rw [List.getElem?_append_left (by rw [HC.out.len]; omega)]; exact List.getElem?_eq_getElem (by rw [HC.out.len]; omega))⟩
      obtain ⟨v2, e2⟩ : ∃ v, w1.cell? ⟨g, p * 3 + 2, none⟩ = some v := ⟨_, HA.out.cell (p * 3 + 2) _ (by rw [List.getElem?_append_left (by rw [HC.out.len]; omega)]; exact List.getElem?_eq_getElem (by rw [HC.out.len]; omega))⟩
      have f0 := HA.out.free (p * 3)
      have f1 := HA.out.free (p * 3 + 1)
      have f2 := HA.out.free (p * 3 + 2)
      refine wp_region_sq (fun W' => W' = w1.drew.drew) [(true, 0), (true, 1), (true, 2), (true, 3), (true, 4), (true, 5), (true, 6), (true, 7), (true, 8)] 9 rfl (by kernel_rfl) (by kernel_rfl) (by kernel_rfl) (by decide) rfl (by kernel_rfl) rfl ?_
      refine sq_soft rfl (by kernel_rfl) (fun W hW => (by subst hW; go_simp; try rfl)) ?_; go_frame
      refine sq_soft rfl (by kernel_rfl) (fun W hW => (by subst hW; go_simp; try rfl)) ?_; go_frame
      refine sq_soft rfl (by kernel_rfl) (fun W hW => (by subst hW; go_simp; try rfl)) ?_; go_frame
      refine sq_soft rfl (by kernel_rfl) (fun W hW => (by subst hW; go_simp; try rfl)) ?_; go_frame
      refine sq_soft rfl (by kernel_rfl) (fun W hW => (by subst hW; go_simp; try rfl)) ?_; go_frame
      refine sq_soft rfl (by kernel_rfl) (fun W hW => (by subst hW; go_simp; try rfl)) ?_; go_frame
      refine sq_soft rfl (by kernel_rfl) (fun W hW => (by subst hW; go_simp; try rfl)) ?_; go_frame
      refine sq_soft rfl (by kernel_rfl) (fun W hW => (by subst hW; go_simp; try rfl)) ?_; go_frame
      refine sq_soft rfl (by kernel_rfl) (fun W hW => (by subst hW; go_simp; try rfl)) ?_; go_frame
      refine sched_done ?_
      go_wp2_with fail
      refine (wplace_eq g 1 p (by omega) hp _ (by go_simp) (by go_simp)).mono ?_
      rintro e w2 ⟨rfl, hw2⟩
      have A2 : arr w2 g 156 (set3 cs p (.int .u64 0) (.int .u64 0) (.string ⟨#[]⟩) ++ [.int .i64 (p : Int), .int .i64 (L.length : Int), .int .i64 (most : Int)]) := by rw [hw2]; exact ((arr_set3 HA.out p (by rw [HC.out.len]; omega) _ _ _).drew).drew
      have G2 : w.grownBy w2 (some g) := by rw [hw2]; exact grown_drew (grown_drew (grown_set (grown_set (grown_set (grown_below B1.out) _ _) _ _) _ _))
      have C2 := hid (HC.out.drop (by omega) (.int .u64 0) (.int .u64 0) (.string ⟨#[]⟩))
      have HG2 := hid G2
      have HA2 := hid A2
      obtain ⟨cp, cn, cm⟩ := win_cell (by rw [set3_len]; exact HC.out.len) A2
      have lg2 := A2.lt
      have f96 := A2.free 96
      have f97 := A2.free 97
      obtain ⟨q, hq⟩ : ∃ q, q = (p + 1) % 32 := ⟨_, rfl⟩
      obtain ⟨m, hm3e⟩ : ∃ m, m = (L.drop 1).length := ⟨_, rfl⟩
      have hdl : (L.drop 1).length = L.length - 1 := by simp
      have hmI : (most : Int) - 1 = (m : Int) := by omega
      have hqI : ((p : Int) + 1) % 32 = (q : Int) := by omega
      have hm3 : m < 32 := by omega
      have HM3 := hid hm3e
      have HQ := hid hq
      rw [← hq] at C2
      have C3 := C2
      clear hw2 e0 e1 e2 f0 f1 f2 A2 G2 lg cm hq hm3e hdl C2
      go_wp2_with fail
      have A3 := hid (arr_tail (by rw [set3_len]; exact HC.out.len) (arr_tail (by rw [set3_len]; exact HC.out.len) HA2.out (.int .i64 (q : Int))).1 (.int .i64 (m : Int))).2
      have G3 := hid (grown_set (grown_set HG2.out 96 (.int .i64 (q : Int))) 97 (.int .i64 (m : Int)))
      generalize World.setCell (World.setCell w2 ⟨g, 96, none⟩ (.int .i64 (q : Int))) ⟨g, 97, none⟩ (.int .i64 (m : Int)) = w3 at A3 G3 ⊢
      clear cp cn cm lg2 f96 f97 hqI hmI
      have HP : Hid (putL most L (f, l, r) = L.drop 1 ++ [(f, l, r)]) := if_pos hfull
      obtain ⟨cp3, cn3, cm3⟩ := win_cell C3.out.len A3.out
      have lg3 := A3.out.lt
      have hq3 := C3.out.hp
      obtain ⟨j, hj⟩ : ∃ j, j = (q + m) % 32 := ⟨_, rfl⟩
      have hj32 : j < 32 := by omega
      have HJ := hid hj
      have hjI : (j : Int) < 32 := by omega
      clear hj
      obtain ⟨v0, e0⟩ : ∃ v, w3.cell? ⟨g, j * 3, none⟩ = some v := ⟨_, A3.out.cell (j * 3) _ (by rw [List.getElem?_append_left (by rw [C3.out.len]; omega)]; exact List.getElem?_eq_getElem (by rw [C3.out.len]; omega))⟩
      obtain ⟨v1, e1⟩ : ∃ v, w3.cell? ⟨g, j * 3 + 1, none⟩ = some v := ⟨_, A3.out.cell (j * 3 + 1) _ (by rw [List.getElem?_append_left (by rw [C3.out.len]; omega)]; exact List.getElem?_eq_getElem (by rw [C3.out.len]; omega))⟩
      obtain ⟨v2, e2⟩ : ∃ v, w3.cell? ⟨g, j * 3 + 2, none⟩ = some v := ⟨_, A3.out.cell (j * 3 + 2) _ (by rw [List.getElem?_append_left (by rw [C3.out.len]; omega)]; exact List.getElem?_eq_getElem (by rw [C3.out.len]; omega))⟩
      have f0 := A3.out.free (j * 3)
      have f1 := A3.out.free (j * 3 + 1)
      have f2 := A3.out.free (j * 3 + 2)
      have f97 := A3.out.free 97
      refine wp_region_sq (fun W' => W' = w3.drew) [(true, 0), (true, 1), (true, 2), (true, 3), (true, 4), (true, 5), (true, 7), (true, 8), (true, 9), (true, 10), (true, 11), (true, 12), (true, 13), (false, 6), (true, 14)] 15 rfl (by kernel_rfl) (by kernel_rfl) (by kernel_rfl) (by decide) rfl (by kernel_rfl) rfl ?_
      refine sq_soft rfl (by kernel_rfl) (fun W hW => (by subst hW; go_simp; try rfl)) ?_; go_frame
      refine sq_soft rfl (by kernel_rfl) (fun W hW => (by subst hW; go_simp; try rfl)) ?_; go_frame
      refine sq_soft rfl (by kernel_rfl) (fun W hW => (by subst hW; go_simp; try rfl)) ?_; go_frame
      refine sq_soft rfl (by kernel_rfl) (fun W hW => (by subst hW; go_simp; try rfl)) ?_; go_frame
      refine sq_soft rfl (by kernel_rfl) (fun W hW => (by subst hW; go_simp; try rfl)) ?_; go_frame
      refine sq_soft rfl (by kernel_rfl) (fun W hW => (by subst hW; go_simp; try rfl)) ?_; go_frame
      refine sq_soft rfl (by kernel_rfl) (fun W hW => (by subst hW; go_simp; try rfl)) ?_; go_frame
      refine sq_soft rfl (by kernel_rfl) (fun W hW => (by subst hW; go_simp; try rfl)) ?_; go_frame
      refine sq_soft rfl (by kernel_rfl) (fun W hW => (by subst hW; go_simp; try rfl)) ?_; go_frame
      refine sq_soft rfl (by kernel_rfl) (fun W hW => (by subst hW; go_simp; try rfl)) ?_; go_frame
      refine sq_soft rfl (by kernel_rfl) (fun W hW => (by subst hW; go_simp; try rfl)) ?_; go_frame
      refine sq_soft rfl (by kernel_rfl) (fun W hW => (by subst hW; go_simp; try rfl)) ?_; go_frame
      refine sq_soft rfl (by kernel_rfl) (fun W hW => (by subst hW; go_simp; try rfl)) ?_; go_frame
      refine sq_op rfl (by kernel_rfl) ?_
      go_simp
      refine (wplace_eq g m q (by omega) hq3 w3.drew cp3 lg3).mono ?_
      rintro e w4 ⟨rfl, hw4⟩
      subst w4
      refine ⟨rfl, ?_⟩
      rw [← HJ.out]
      try go_frame
      refine sq_soft rfl (by kernel_rfl) (fun W hW => (by subst hW; go_simp; try rfl)) ?_; go_frame
      refine sched_done ?_
      go_wp2
      go_ret
      have hl3 := C3.out.len
      have A4 := arr_set3 A3.out j (by rw [hl3]; omega) (.int .u64 (f : Int)) (.int .u64 (l : Int)) (.string ⟨r.toArray⟩)
      have A5 := (arr_tail (by rw [set3_len]; exact hl3) A4 (.int .i64 ((m : Int) + 1))).2.drew
      have C5 := C3.out.put (by rw [← HM3.out]; exact hm3) (f, l, r)
      rw [← HM3.out, ← HJ.out] at C5
      have G5 := grown_drew (grown_set (grown_set (grown_set (grown_set G3.out (j * 3) (.int .u64 (f : Int))) (j * 3 + 1) (.int .u64 (l : Int))) (j * 3 + 2) (.string ⟨r.toArray⟩)) 97 (.int .i64 ((m : Int) + 1)))
      exact ⟨rfl, win_done hm h1 h32 HK.out HE.out HP.out HM3.out C5 A5, G5⟩
    · have hfull' : ¬ (L.length : Int) = (most : Int) := by omega
      have hfull2 : ((L.length : Int) == (most : Int)) = false := by simpa using hfull'
      refine wp_region_sq (fun W' => W' = w1.drew) [(true, 0), (true, 1), (true, 2), (true, 3), (true, 4), (true, 5), (true, 6), (true, 7)] 8 rfl (by kernel_rfl) (by kernel_rfl) (by kernel_rfl) (by decide) rfl (by kernel_rfl) rfl ?_
      refine sq_soft rfl (by kernel_rfl) (fun W hW => (by subst hW; go_simp; try rfl)) ?_; go_frame
      refine sq_soft rfl (by kernel_rfl) (fun W hW => (by subst hW; go_simp; try rfl)) ?_; go_frame
      refine sq_soft rfl (by kernel_rfl) (fun W hW => (by subst hW; go_simp; try rfl)) ?_; go_frame
      refine sq_soft rfl (by kernel_rfl) (fun W hW => (by subst hW; go_simp; try rfl)) ?_; go_frame
      refine sq_soft rfl (by kernel_rfl) (fun W hW => (by subst hW; go_simp; try rfl)) ?_; go_frame
      refine sq_soft rfl (by kernel_rfl) (fun W hW => (by subst hW; go_simp; try rfl)) ?_; go_frame
      refine sq_soft rfl (by kernel_rfl) (fun W hW => (by subst hW; go_simp; try rfl)) ?_; go_frame
      refine sq_soft rfl (by kernel_rfl) (fun W hW => (by subst hW; go_simp; try rfl)) ?_; go_frame
      refine sched_done ?_
      obtain ⟨m, hm3e⟩ : ∃ m, m = L.length := ⟨_, rfl⟩
      have hm3 : m < 32 := by omega
      have HM3 := hid hm3e
      have C3 := HC
      go_wp2_with fail
      have A3 := hid (HA.out.drew)
      rw [← hm3e] at A3
      have G3 := hid (grown_drew (grown_below (g := g) B1.out))
      generalize World.drew w1 = w3 at A3 G3 ⊢
      clear cp cn cm hm3e lg hp
      have HP : Hid (putL most L (f, l, r) = L ++ [(f, l, r)]) := if_neg hfull
      obtain ⟨cp3, cn3, cm3⟩ := win_cell C3.out.len A3.out
      have lg3 := A3.out.lt
      have hq3 := C3.out.hp
      obtain ⟨j, hj⟩ : ∃ j, j = (p + m) % 32 := ⟨_, rfl⟩
      have hj32 : j < 32 := by omega
      have HJ := hid hj
      have hjI : (j : Int) < 32 := by omega
      clear hj
      obtain ⟨v0, e0⟩ : ∃ v, w3.cell? ⟨g, j * 3, none⟩ = some v := ⟨_, A3.out.cell (j * 3) _ (by rw [List.getElem?_append_left (by rw [C3.out.len]; omega)]; exact List.getElem?_eq_getElem (by rw [C3.out.len]; omega))⟩
      obtain ⟨v1, e1⟩ : ∃ v, w3.cell? ⟨g, j * 3 + 1, none⟩ = some v := ⟨_, A3.out.cell (j * 3 + 1) _ (by rw [List.getElem?_append_left (by rw [C3.out.len]; omega)]; exact List.getElem?_eq_getElem (by rw [C3.out.len]; omega))⟩
      obtain ⟨v2, e2⟩ : ∃ v, w3.cell? ⟨g, j * 3 + 2, none⟩ = some v := ⟨_, A3.out.cell (j * 3 + 2) _ (by rw [List.getElem?_append_left (by rw [C3.out.len]; omega)]; exact List.getElem?_eq_getElem (by rw [C3.out.len]; omega))⟩
      have f0 := A3.out.free (j * 3)
      have f1 := A3.out.free (j * 3 + 1)
      have f2 := A3.out.free (j * 3 + 2)
      have f97 := A3.out.free 97
      refine wp_region_sq (fun W' => W' = w3.drew) [(true, 0), (true, 1), (true, 2), (true, 3), (true, 4), (true, 5), (true, 7), (true, 8), (true, 9), (true, 10), (true, 11), (true, 12), (true, 13), (false, 6), (true, 14)] 15 rfl (by kernel_rfl) (by kernel_rfl) (by kernel_rfl) (by decide) rfl (by kernel_rfl) rfl ?_
      refine sq_soft rfl (by kernel_rfl) (fun W hW => (by subst hW; go_simp; try rfl)) ?_; go_frame
      refine sq_soft rfl (by kernel_rfl) (fun W hW => (by subst hW; go_simp; try rfl)) ?_; go_frame
      refine sq_soft rfl (by kernel_rfl) (fun W hW => (by subst hW; go_simp; try rfl)) ?_; go_frame
      refine sq_soft rfl (by kernel_rfl) (fun W hW => (by subst hW; go_simp; try rfl)) ?_; go_frame
      refine sq_soft rfl (by kernel_rfl) (fun W hW => (by subst hW; go_simp; try rfl)) ?_; go_frame
      refine sq_soft rfl (by kernel_rfl) (fun W hW => (by subst hW; go_simp; try rfl)) ?_; go_frame
      refine sq_soft rfl (by kernel_rfl) (fun W hW => (by subst hW; go_simp; try rfl)) ?_; go_frame
      refine sq_soft rfl (by kernel_rfl) (fun W hW => (by subst hW; go_simp; try rfl)) ?_; go_frame
      refine sq_soft rfl (by kernel_rfl) (fun W hW => (by subst hW; go_simp; try rfl)) ?_; go_frame
      refine sq_soft rfl (by kernel_rfl) (fun W hW => (by subst hW; go_simp; try rfl)) ?_; go_frame
      refine sq_soft rfl (by kernel_rfl) (fun W hW => (by subst hW; go_simp; try rfl)) ?_; go_frame
      refine sq_soft rfl (by kernel_rfl) (fun W hW => (by subst hW; go_simp; try rfl)) ?_; go_frame
      refine sq_soft rfl (by kernel_rfl) (fun W hW => (by subst hW; go_simp; try rfl)) ?_; go_frame
      refine sq_op rfl (by kernel_rfl) ?_
      go_simp
      refine (wplace_eq g m p (by omega) hq3 w3.drew cp3 lg3).mono ?_
      rintro e w4 ⟨rfl, hw4⟩
      subst w4
      refine ⟨rfl, ?_⟩
      rw [← HJ.out]
      try go_frame
      refine sq_soft rfl (by kernel_rfl) (fun W hW => (by subst hW; go_simp; try rfl)) ?_; go_frame
      refine sched_done ?_
      go_wp2
      go_ret
      have hl3 := C3.out.len
      have A4 := arr_set3 A3.out j (by rw [hl3]; omega) (.int .u64 (f : Int)) (.int .u64 (l : Int)) (.string ⟨r.toArray⟩)
      have A5 := (arr_tail (by rw [set3_len]; exact hl3) A4 (.int .i64 ((m : Int) + 1))).2.drew
      have C5 := C3.out.put (by rw [← HM3.out]; exact hm3) (f, l, r)
      rw [← HM3.out, ← HJ.out] at C5
      have G5 := grown_drew (grown_set (grown_set (grown_set (grown_set G3.out (j * 3) (.int .u64 (f : Int))) (j * 3 + 1) (.int .u64 (l : Int))) (j * 3 + 2) (.string ⟨r.toArray⟩)) 97 (.int .i64 ((m : Int) + 1)))
      exact ⟨rfl, win_done hm h1 h32 HK.out HE.out HP.out HM3.out C5 A5, G5⟩
end Go.Proofs.Ytcfohdkdppiekaa
