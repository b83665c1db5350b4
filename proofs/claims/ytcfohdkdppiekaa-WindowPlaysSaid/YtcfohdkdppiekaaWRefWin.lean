/- The document's window: Next, Put: contracts. -/
import Derived.Test.YtcfohdkdppiekaaWWorks24
import Derived.Test.YtcfohdkdppiekaaRowAt
namespace Go.Proofs.Ytcfohdkdppiekaa
open Go Go.RowKit Go.Proofs
/-- intervals as cells -/
def ivc (L : List Iv) : List Value := (L.map ivCells).flatten
theorem ivc_len (L : List Iv) : (ivc L).length = L.length * 3 := by
  induction L with
  | nil => rfl
  | cons x L ih =>
    unfold ivc at *
    rw [List.map_cons, List.flatten_cons, List.length_append, ih]
    simp [ivCells]; omega
theorem ivc_app (L M : List Iv) : ivc (L ++ M) = ivc L ++ ivc M := by simp [ivc]
theorem ivc_at (L : List Iv) (i j : Nat) (x : Iv) (hi : L[i]? = some x) (hj : j < 3) : (ivc L)[i * 3 + j]? = (ivCells x)[j]? := by
  have hlt := (List.getElem?_eq_some_iff.1 hi).1
  have e : L = L.take i ++ x :: L.drop (i + 1) := by
    rw [← List.take_append_drop i L]
    congr 1
    · simp [List.take_append_drop]
    · rw [List.take_append_drop, List.drop_eq_getElem_cons hlt]
      congr 1
      have := List.getElem?_eq_getElem hlt
      rw [hi] at this
      exact (Option.some.inj this).symm
  have hl : (ivc (L.take i)).length = i * 3 := by rw [ivc_len, List.length_take, Nat.min_eq_left (by omega)]
  rw [e, ivc_app, List.getElem?_append_right (by omega), hl, show i * 3 + j - i * 3 = j by omega]
  unfold ivc
  rw [List.map_cons, List.flatten_cons, List.getElem?_append_left (by simpa [ivCells] using hj)]
theorem ivc_drop (L : List Iv) : ivc (L.drop 1) = (ivc L).drop 3 := by
  cases L with
  | nil => rfl
  | cons x L => rfl
def isR (w : World) (base g most : Nat) (L : List Iv) : Prop :=
  ∃ v, arr w g 69 [.int .i64 (most : Int), v] ∧ rowAt w base 63 3 v L.length (ivc L) ∧ base ≤ g
theorem isR.keep {w w' : World} {base g most : Nat} {L : List Iv} (h : isR w base g most L) (hb : Below w.heap.size w w') : isR w' base g most L := by
  obtain ⟨v, h1, h2, h3⟩ := h
  exact ⟨v, h1.keep hb, h2.keep hb, h3⟩
theorem isR.kept {w w' : World} {base g b most : Nat} {L : List Iv} (h : isR w base g most L) (hg : w.grownBy w' (some b)) (hb : b < base) : isR w' base g most L := by
  obtain ⟨v, h1, h2, h3⟩ := h
  refine ⟨v, h1.kept hg (by omega), h2.kept hg (Or.inr fun e => ?_), h3⟩
  have := (h2.block b e).1
  omega
/-- a cell of the list -/
theorem isR.cells {w : World} {base most : Nat} {L : List Iv} {v : Value} (h : rowAt w base 63 3 v L.length (ivc L)) (hl : 0 < L.length) :
    ∃ b off cap, v = .slice (some ⟨b, off, none⟩) L.length cap ∧ L.length ≤ cap ∧ cap ≤ 9223372036854775807 ∧ b < w.heap.size ∧ ∀ i x, L[i]? = some x → w.cell? ⟨b, off + i * 3, none⟩ = some (.int .u64 (x.1 : Int)) ∧ w.cell? ⟨b, off + i * 3 + 1, none⟩ = some (.int .u64 (x.2.1 : Int)) ∧ w.cell? ⟨b, off + i * 3 + 2, none⟩ = some (.string ⟨x.2.2.toArray⟩) := by
  obtain ⟨b, off, cap, hv, hc, _, hlt, hx, hcm⟩ := h.at hl
  have hmx : maxLen = 9223372036854775807 := by decide
  refine ⟨b, off, cap, hv, hc, by omega, hlt, fun i x hi => ⟨?_, ?_, ?_⟩⟩
  · have := hx (i * 3 + 0) _ ((ivc_at L i 0 x hi (by omega)).trans rfl)
    exact this
  · have := hx (i * 3 + 1) _ ((ivc_at L i 1 x hi (by omega)).trans rfl)
    rw [Nat.add_assoc]; exact this
  · have := hx (i * 3 + 2) _ ((ivc_at L i 2 x hi (by omega)).trans rfl)
    rw [Nat.add_assoc]; exact this
set_option maxRecDepth 100000 in
theorem rnew_any (n : Nat) (h1 : 1 ≤ n) (h2 : n ≤ 32) (w : World) :
    Calls Try.prog 50 #[.int .i64 (n : Int)] w fun e w' => e = .returned (.pointer (some ⟨w.heap.size, 0, none⟩)) ∧ isR w' w.heap.size w.heap.size n [] ∧ Below w.heap.size w w' := by
  have k1 : ¬ (n : Int) < 1 := by omega
  have k2 : (n : Int) ≤ 32 := by omega
  go_enter Try.func50, Try.ntmps50
  go_wp2
  go_ret
  exact ⟨rfl, ⟨_, arr.new _ _ [_, _], rowAt.nil _ _ _ _, Nat.le_refl _⟩, (Below.refl _ _).alloc (Nat.le_refl _) _⟩
set_option maxRecDepth 100000 in
theorem rnext_none (base g most : Nat) (w : World) (h : isR w base g most []) :
    Calls Try.prog 52 #[.pointer (some ⟨g, 0, none⟩)] w fun e w' => e = .returned (.tuple #[.int .u64 0, .bool false]) ∧ w' = w := by
  obtain ⟨v, h1, h2, h3⟩ := h
  obtain ⟨A, c, rfl, hc⟩ := h2.form
  have c1 := h1.cell 1 _ rfl
  have lg := h1.lt
  clear h1 h2
  go_enter Try.func52, Try.ntmps52
  go_wp2
  go_ret2
  exact ⟨rfl, rfl⟩
set_option maxRecDepth 100000 in
set_option maxHeartbeats 1000000 in
theorem rnext_some (base g most : Nat) (L : List Iv) (x : Iv) (hx : L.getLast? = some x) (hk : x.2.1 < 18446744073709551615) (w : World) (h : isR w base g most L) :
    Calls Try.prog 52 #[.pointer (some ⟨g, 0, none⟩)] w fun e w' => e = .returned (.tuple #[.int .u64 ((x.2.1 + 1 : Nat) : Int), .bool true]) ∧ Below w.heap.size w w' := by
  obtain ⟨v, h1, h2, h3⟩ := h
  obtain ⟨n, hn⟩ : ∃ n, L.length = n + 1 := by
    cases L with
    | nil => simp at hx
    | cons a l => exact ⟨l.length, rfl⟩
  have hxn : L[n]? = some x := by rw [← hx, List.getLast?_eq_getElem?, hn]; rfl
  obtain ⟨b, off, cap, rfl, hc, hcm, lb, hcell⟩ := isR.cells (most := most) h2 (by omega)
  have hn63 : n < 9223372036854775807 := by omega
  obtain ⟨-, cx, -⟩ := hcell n x hxn
  rw [hn] at h1 hc
  have c1 := h1.cell 1 _ rfl
  have lg := h1.lt
  have hnI : ((n : Int) + 1) - 1 = (n : Int) := by omega
  have hnn1 : (n : Int) < (n : Int) + 1 := by omega
  have hwn : IntKind.i64.wrap (n : Int) = (n : Int) := by rw [IntKind.wrap_i64]; omega
  obtain ⟨l, hlx⟩ : ∃ l, l = x.2.1 := ⟨_, rfl⟩
  rw [← hlx] at cx hk
  rw [← hlx]
  have hwl : IntKind.u64.wrap ((l : Int) + 1) = ((l + 1 : Nat) : Int) := by rw [IntKind.wrap_u64]; omega
  clear hcell h1 h2 hx hxn hlx
  go_enter Try.func52, Try.ntmps52
  go_wp2_with fail
  refine wp_region_sq (fun W' => W' = w.drew) [(true, 0), (true, 1), (true, 2), (true, 3), (true, 4), (true, 5), (true, 6), (true, 7), (true, 8), (true, 9), (true, 10), (true, 11), (true, 12), (true, 13)] 14 rfl (by kernel_rfl) (by kernel_rfl) (by kernel_rfl) (by decide) rfl (by kernel_rfl) rfl ?_
  refine sq_soft rfl (by kernel_rfl) (fun W hW => (by subst hW; go_simp; try rfl)) ?_; go_frame
  refine sq_soft rfl (by kernel_rfl) (fun W hW => (by subst hW; go_simp; try rfl)) ?_; go_frame
  refine sq_soft rfl (by kernel_rfl) (fun W hW => (by subst hW; go_simp; try rfl)) ?_; go_frame
  refine sq_soft rfl (by kernel_rfl) (fun W hW => (by subst hW; go_simp; try rfl)) ?_; go_frame
  refine sq_soft rfl (by kernel_rfl) (fun W hW => (by subst hW; go_simp; try rfl)) ?_; go_frame
  refine sq_soft rfl (by kernel_rfl) (fun W hW => (by subst hW; go_simp; try rfl)) ?_; go_frame
  refine sq_soft rfl (by kernel_rfl) (fun W hW => (by subst hW; go_simp; try rfl)) ?_; go_frame
  refine sq_soft rfl (by kernel_rfl) (fun W hW => (by subst hW; go_simp; try rfl)) ?_; go_frame
  refine sq_soft rfl (by kernel_rfl) (fun W hW => (by subst hW; go_simp; try rfl)) ?_; go_frame
  refine sq_soft rfl (by kernel_rfl) (fun W hW => (by subst hW; go_simp; try rfl)) ?_; go_frame
  refine sq_soft rfl (by kernel_rfl) (fun W hW => (by subst hW; go_simp; try rfl)) ?_; go_frame
  refine sq_soft rfl (by kernel_rfl) (fun W hW => (by subst hW; go_simp; try rfl)) ?_; go_frame
  refine sq_soft rfl (by kernel_rfl) (fun W hW => (by subst hW; go_simp; try rfl)) ?_; go_frame
  refine sq_soft rfl (by kernel_rfl) (fun W hW => (by subst hW; go_simp; try rfl)) ?_; go_frame
  refine sched_done ?_
  go_wp2
  go_ret2
  exact ⟨rfl, (Below.refl _ _).drew⟩
/-- Next's answer -/
theorem rnext_any (base g most : Nat) (L : List Iv) (hc : Cont L) (w : World) (h : isR w base g most L) :
    ∃ (n : Nat) (b : Bool), ((b = false ∧ nxr L = none ∧ n = 0) ∨ (b = true ∧ nxr L = some n)) ∧ n < 18446744073709551616 ∧ Calls Try.prog 52 #[.pointer (some ⟨g, 0, none⟩)] w fun e w' => e = .returned (.tuple #[.int .u64 (n : Int), .bool b]) ∧ Below w.heap.size w w' := by
  cases hx : L.getLast? with
  | none =>
    obtain rfl : L = [] := by simpa using hx
    refine ⟨0, false, Or.inl ⟨rfl, rfl, rfl⟩, by omega, (rnext_none base g most w h).mono ?_⟩
    rintro e w' ⟨rfl, rfl⟩
    exact ⟨rfl, Below.refl _ _⟩
  | some x =>
    have hk := (hc.ok x (List.mem_of_getLast? hx)).2.2.2
    exact ⟨x.2.1 + 1, true, Or.inr ⟨rfl, by simp [nxr, hx]⟩, by omega, rnext_some base g most L x hx hk w h⟩
theorem info_iv : (Try.prog.info? 63).map (fun i => (i.zero, i.size, i.bytes)) = some (some (.agg #[.int .u64 0, .int .u64 0, .string ByteArray.empty]), 3, 32) := by kernel_rfl
set_option maxRecDepth 100000 in
set_option maxHeartbeats 1000000 in
theorem rput_arg (base g most : Nat) (L : List Iv) (f l : Nat) (r : List UInt8) (hr : r.length ≤ 9223372036854775807) (hf : f < 18446744073709551616) (hl : l < 18446744073709551616) (hno : ¬ ivOk f l r) (w : World) :
    Calls Try.prog 56 #[.pointer (some ⟨g, 0, none⟩), .int .u64 (f : Int), .int .u64 (l : Int), .string ⟨r.toArray⟩] w fun e w' => e = .returned (.int .i64 2) ∧ w' = w := by
  have HNO := hid hno
  clear hno
  by_cases h1 : r.length = 32
  · have h1' : (r.length : Int) = 32 := by omega
    by_cases h2 : l < f
    · have h2' : (l : Int) < (f : Int) := by omega
      go_enter Try.func56, Try.ntmps56
      go_wp2
      go_ret
      exact ⟨rfl, rfl⟩
    · have h2' : ¬ (l : Int) < (f : Int) := by omega
      have h2'' : (f : Int) ≤ (l : Int) := by omega
      by_cases h3 : l - f < 64
      · have h4 : l = 18446744073709551615 := by
          have := HNO.out
          unfold ivOk at this
          omega
        subst h4
        have h3' : ¬ 64 ≤ (18446744073709551615 : Int) - (f : Int) := by omega
        have h5' : ¬ (18446744073709551615 : Int) < (f : Int) := by omega
        clear h3 h2 h2' h2'' hl
        go_enter Try.func56, Try.ntmps56
        go_wp2
        go_ret
        exact ⟨rfl, rfl⟩
      · have h3' : 64 ≤ (l : Int) - (f : Int) := by omega
        go_enter Try.func56, Try.ntmps56
        go_wp2
        go_ret
        exact ⟨rfl, rfl⟩
  · have h1' : ¬ (r.length : Int) = 32 := by omega
    go_enter Try.func56, Try.ntmps56
    go_wp2
    go_ret
    exact ⟨rfl, rfl⟩
set_option maxRecDepth 100000 in
set_option maxHeartbeats 1000000 in
theorem rput_next (base g most : Nat) (L : List Iv) (hc : Cont L) (f l : Nat) (r : List UInt8) (hf : f < 18446744073709551616) (hok : ivOk f l r) (n : Nat) (hn : nxr L = some n) (hne : n ≠ f) (w : World) (h : isR w base g most L) :
    Calls Try.prog 56 #[.pointer (some ⟨g, 0, none⟩), .int .u64 (f : Int), .int .u64 (l : Int), .string ⟨r.toArray⟩] w fun e w' => e = .returned (.int .i64 17) ∧ Below w.heap.size w w' := by
  obtain ⟨n', b, hb, -, hcall⟩ := rnext_any base g most L hc w h
  obtain ⟨rfl, hn'⟩ : b = true ∧ nxr L = some n' := by
    rcases hb with ⟨_, h1, _⟩ | h1
    · rw [hn] at h1; cases h1
    · exact h1
  obtain rfl : n = n' := by rw [hn] at hn'; exact Option.some.inj hn'
  have HC := hid hcall
  obtain ⟨k1, k2, k3, k4⟩ := hok
  have h1' : (r.length : Int) = 32 := by omega
  have h2' : ¬ (l : Int) < (f : Int) := by omega
  have h3' : ¬ 64 ≤ (l : Int) - (f : Int) := by omega
  have h4' : ¬ (l : Int) = 18446744073709551615 := by omega
  have h2 : ¬ l < f := by omega
  have h4 : ((l : Int) == 18446744073709551615) = false := by simpa using h4'
  have h5' : ¬ (f : Int) = (n : Int) := by omega
  clear h hcall hn hn' hb hc
  go_enter Try.func56, Try.ntmps56
  go_wp2_with fail
  refine HC.out.mono ?_
  rintro e w1 ⟨rfl, b1⟩
  have B1 := hid b1
  clear b1 HC
  go_wp2
  go_ret
  exact ⟨rfl, B1.out⟩
set_option maxRecDepth 100000 in
set_option maxHeartbeats 4000000 in
theorem rput_ok (base g most : Nat) (L : List Iv) (hcc : Cont L) (hlm : L.length ≤ most) (hm1 : 1 ≤ most) (hm32 : most ≤ 32) (f l : Nat) (r : List UInt8) (hf : f < 18446744073709551616) (hok : ivOk f l r) (hn : nxr L = none ∨ nxr L = some f) (w : World) (hbw : base ≤ w.heap.size) (h : isR w base g most L) :
    Calls Try.prog 56 #[.pointer (some ⟨g, 0, none⟩), .int .u64 (f : Int), .int .u64 (l : Int), .string ⟨r.toArray⟩] w fun e w' => e = .returned (.int .i64 0) ∧ isR w' base g most (putL most L (f, l, r)) ∧ Below base w w' := by
  obtain ⟨n, b, hb, -, hcall⟩ := rnext_any base g most L hcc w h
  have HC := hid hcall
  obtain ⟨k1, k2, k3, k4⟩ := hok
  have h1' : (r.length : Int) = 32 := by omega
  have h2' : ¬ (l : Int) < (f : Int) := by omega
  have h3' : ¬ 64 ≤ (l : Int) - (f : Int) := by omega
  have h4' : ¬ (l : Int) = 18446744073709551615 := by omega
  have h2 : ¬ l < f := by omega
  have h4 : ((l : Int) == 18446744073709551615) = false := by simpa using h4'
  have hb' : b = false ∨ (b = true ∧ f = n) := by
    rcases hb with ⟨h1, _⟩ | ⟨h1, h2⟩
    · exact Or.inl h1
    · rcases hn with hn | hn
      · rw [hn] at h2; cases h2
      · rw [hn] at h2; exact Or.inr ⟨h1, Option.some.inj h2⟩
  have H := hid h
  clear h hcall hn hb hcc
  obtain ⟨i0, hi, hz0, hz1, hz2⟩ := info_parts info_iv
  rcases hb' with rfl | ⟨rfl, rfl⟩
  all_goals
    go_enter Try.func56, Try.ntmps56
    go_wp2_with fail
    refine HC.out.mono ?_
    rintro e w1 ⟨rfl, b1⟩
    have B1 := hid (b1.mono hbw)
    obtain ⟨v, a1, r1, h3⟩ := H.out.keep b1
    obtain ⟨A, c, rfl, hlc⟩ := r1.form
    have c1 := a1.cell 1 _ rfl
    have lg := a1.lt
    have A1 := hid a1
    have R1 := hid r1
    have HB1 := hid (Nat.le_trans hbw b1.size)
    have hal : Below w1.heap.size w1 (w1.alloc (.cells #[.int .u64 (f : Int), .int .u64 (l : Int), .string ⟨r.toArray⟩] 63)) := (Below.refl _ _).alloc (Nat.le_refl _) _
    have A2 := hid (a1.keep hal)
    have R2 := hid (r1.keep hal)
    have N2 := hid (arr.new w1 63 (ivCells (f, l, r)))
    have B2 := hid (B1.out.trans (hal.mono HB1.out))
    have HB2 := hid (Nat.le_trans HB1.out hal.size)
    clear b1 HC a1 r1 hal
    go_wp2_with (refine wpList_append_at rfl _ _ 67 rfl i0 (.agg #[.int .u64 0, .int .u64 0, .string ByteArray.empty]) 32 Try.underlying67 hi hz0 hz1 hz2 rfl (by decide) rfl R2.out ⟨w1.heap.size, 0, none⟩ 1 1 (ivCells (f, l, r)) rfl rfl (by intro j u hj; have e : (⟨w1.heap.size, 0, none⟩ : Addr).add j = ⟨w1.heap.size, j, none⟩ := (by unfold Addr.add; split <;> simp_all); rw [e]; exact N2.out.cell j u hj) (by intro u hu; simp [ivCells] at hu; rcases hu with rfl | rfl | rfl <;> rfl) (by omega) (by decide) HB2.out ?_; intro v' w3 hr3 hg3 ho3; obtain ⟨b, off, c', rfl, hlc', hbb, hbl, -, hcm⟩ := hr3.at (by omega); have a3 := arr_rowAt A2.out R2.out hg3 (by decide); have c3 := a3.cell 1 _ rfl; have f3 := a3.free 1; have l3 := a3.lt; have A3 := hid a3; have R3 := hid hr3; have G3 := hid hg3; clear a3 hr3 hg3 ho3)
    have B3 := hid ((B2.out.grown G3.out HB2.out (fun k hk => (R2.out.block k hk).1)).setCell (p := ⟨g, 1, none⟩) h3 (.slice (some ⟨b, off, none⟩) (L.length + 1) c'))
    have A4 := hid (A3.out.set 1 (.slice (some ⟨b, off, none⟩) (L.length + 1) c'))
    have R4 := hid (R3.out.set A3.out (by decide) 1 (.slice (some ⟨b, off, none⟩) (L.length + 1) c'))
    generalize World.setCell w3 ⟨g, 1, none⟩ (.slice (some ⟨b, off, none⟩) (L.length + 1) c') = w4 at B3 A4 R4 ⊢
    have c40 := A4.out.cell 0 _ rfl
    have c41 := A4.out.cell 1 _ rfl
    have f41 := A4.out.free 1
    have l4 := A4.out.lt
    clear A1 R1 A2 R2 N2 B2 B1 HB2 A3 R3 G3 c1 lg c3 f3 l3 hbl H
    by_cases hfull : L.length = most
    · have hgt : ((most : Int) < (L.length : Int) + 1) := by omega
      have hc1 : ¬ c' = 1 := by omega
      have hn1 : ¬ ((L.length : Int) + 1 < 1) := by omega
      refine wp_region_sq (fun W' => W' = w4.drew) [(true, 0), (true, 1), (true, 2), (true, 3), (true, 4), (true, 5), (true, 6), (true, 7), (true, 8)] 9 rfl (by kernel_rfl) (by kernel_rfl) (by kernel_rfl) (by decide) rfl (by kernel_rfl) rfl ?_
      refine sq_soft rfl (by kernel_rfl) (fun W hW => (by subst hW; go_simp; try rfl)) ?_; go_frame
      refine sq_soft rfl (by kernel_rfl) (fun W hW => (by subst hW; go_simp; try rfl)) ?_; go_frame
      refine sq_soft rfl (by kernel_rfl) (fun W hW => (by subst hW; go_simp; try rfl)) ?_; go_frame
      refine sq_soft rfl (by kernel_rfl) (fun W hW => (by subst hW; go_simp; try rfl)) ?_; go_frame
      refine sq_soft rfl (by kernel_rfl) (fun W hW => (by subst hW; go_simp; try rfl)) ?_; go_frame
      refine sq_soft rfl (by kernel_rfl) (fun W hW => (by subst hW; go_simp; try rfl)) ?_; go_frame
      refine sq_soft rfl (by kernel_rfl) (fun W hW => (by subst hW; go_simp; try rfl)) ?_; go_frame
      refine sq_soft rfl (by kernel_rfl) (fun W hW => (by subst hW; go_simp; try rfl)) ?_; go_frame
      refine sq_soft rfl (by kernel_rfl) (fun W hW => (by subst hW; go_simp; try rfl)) ?_; go_frame
      refine sched_done ?_
      go_wp2
      go_ret
      have e : putL most L (f, l, r) = L.drop 1 ++ [(f, l, r)] := if_pos hfull
      have e1 : L.drop 1 ++ [(f, l, r)] = (L ++ [(f, l, r)]).drop 1 := by rw [List.drop_append_of_le_length (by omega)]
      have e2 : ((L ++ [(f, l, r)]).drop 1).length = most := by simp; omega
      have R5 := (R4.out.drop).set A4.out (by decide) 1 (.slice (some ⟨b, off + 3, none⟩) most (c' - 1))
      have A5 := A4.out.set 1 (.slice (some ⟨b, off + 3, none⟩) most (c' - 1))
      have B5 := B3.out.setCell (p := ⟨g, 1, none⟩) h3 (.slice (some ⟨b, off + 3, none⟩) most (c' - 1))
      rw [hfull] at R5
      rw [e, e1]
      exact ⟨rfl, ⟨_, A5.drew, by rw [e2, ivc_drop, ivc_app]; exact R5.keep (Below.refl _ _).drew, h3⟩, B5.drew⟩
    · have hgt : ¬ ((most : Int) < (L.length : Int) + 1) := by omega
      refine wp_region_sq (fun W' => W' = w4.drew) [(true, 0), (true, 1), (true, 2), (true, 3), (true, 4), (true, 5), (true, 6), (true, 7), (true, 8)] 9 rfl (by kernel_rfl) (by kernel_rfl) (by kernel_rfl) (by decide) rfl (by kernel_rfl) rfl ?_
      refine sq_soft rfl (by kernel_rfl) (fun W hW => (by subst hW; go_simp; try rfl)) ?_; go_frame
      refine sq_soft rfl (by kernel_rfl) (fun W hW => (by subst hW; go_simp; try rfl)) ?_; go_frame
      refine sq_soft rfl (by kernel_rfl) (fun W hW => (by subst hW; go_simp; try rfl)) ?_; go_frame
      refine sq_soft rfl (by kernel_rfl) (fun W hW => (by subst hW; go_simp; try rfl)) ?_; go_frame
      refine sq_soft rfl (by kernel_rfl) (fun W hW => (by subst hW; go_simp; try rfl)) ?_; go_frame
      refine sq_soft rfl (by kernel_rfl) (fun W hW => (by subst hW; go_simp; try rfl)) ?_; go_frame
      refine sq_soft rfl (by kernel_rfl) (fun W hW => (by subst hW; go_simp; try rfl)) ?_; go_frame
      refine sq_soft rfl (by kernel_rfl) (fun W hW => (by subst hW; go_simp; try rfl)) ?_; go_frame
      refine sq_soft rfl (by kernel_rfl) (fun W hW => (by subst hW; go_simp; try rfl)) ?_; go_frame
      refine sched_done ?_
      go_wp2
      go_ret
      have e : putL most L (f, l, r) = L ++ [(f, l, r)] := if_neg hfull
      have e2 : (L ++ [(f, l, r)]).length = L.length + 1 := by simp
      rw [e]
      exact ⟨rfl, ⟨_, A4.out.drew, by rw [e2, ivc_app]; exact R4.out.keep (Below.refl _ _).drew, h3⟩, B3.out.drew⟩
/-- Put, whatever is given -/
theorem rput_any (base g most : Nat) (L : List Iv) (hcc : Cont L) (hlm : L.length ≤ most) (hm1 : 1 ≤ most) (hm32 : most ≤ 32) (f l : Nat) (r : List UInt8) (hr : r.length ≤ 9223372036854775807) (hf : f < 18446744073709551616) (hl : l < 18446744073709551616) (w : World) (hbw : base ≤ w.heap.size) (h : isR w base g most L) :
    Calls Try.prog 56 #[.pointer (some ⟨g, 0, none⟩), .int .u64 (f : Int), .int .u64 (l : Int), .string ⟨r.toArray⟩] w fun e w' => e = .returned (.int .i64 (putE L f l r : Nat)) ∧ isR w' base g most (if putE L f l r = 0 then putL most L (f, l, r) else L) ∧ Below base w w' := by
  by_cases hok : ivOk f l r
  · by_cases hn : nxr L = none ∨ nxr L = some f
    · have e : putE L f l r = 0 := by unfold putE; rw [if_neg (fun h => h hok), if_pos hn]
      refine (rput_ok base g most L hcc hlm hm1 hm32 f l r hf hok hn w hbw h).mono ?_
      rintro e' w' ⟨rfl, h1, h2⟩
      rw [e, if_pos rfl]
      exact ⟨rfl, h1, h2⟩
    · have e : putE L f l r = 17 := by unfold putE; rw [if_neg (fun h => h hok), if_neg hn]
      obtain ⟨n, hnn⟩ : ∃ n, nxr L = some n := by
        cases hx : nxr L with
        | none => exact absurd (Or.inl hx) hn
        | some n => exact ⟨n, rfl⟩
      refine (rput_next base g most L hcc f l r hf hok n hnn (fun e => hn (Or.inr (by rw [hnn, e]))) w h).mono ?_
      rintro e' w' ⟨rfl, h1⟩
      rw [e, if_neg (by decide)]
      exact ⟨rfl, h.keep h1, h1.mono hbw⟩
  · have e : putE L f l r = 2 := by unfold putE; rw [if_pos hok]
    refine (rput_arg base g most L f l r hr hf hl hok w).mono ?_
    rintro e' w' ⟨rfl, rfl⟩
    rw [e, if_neg (by decide)]
    exact ⟨rfl, h, Below.refl _ _⟩
end Go.Proofs.Ytcfohdkdppiekaa
