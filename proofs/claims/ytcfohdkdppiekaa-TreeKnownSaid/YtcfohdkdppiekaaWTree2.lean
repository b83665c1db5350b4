/- What is asked of a tree: its root, depth, length, places: contracts. -/
import Derived.Test.YtcfohdkdppiekaaWTree
namespace Go.Proofs.Ytcfohdkdppiekaa
open Go Go.RowKit Go.Proofs
attribute [local go_sem] Oper.semAt_some
theorem troot_any (g : Nat) (L : List (List UInt8)) (w : World) (h : isTree w g L) : Calls Try.prog 89 #[.pointer (some ⟨g, 0, none⟩)] w fun e w' => e = .returned (.string ⟨(td L (dp L.length) (dp L.length) 0).toArray⟩) ∧ w' = w := by
  obtain ⟨p, h1, h2, h3, h4⟩ := h
  have h5 := h4.top
  clear h2 h3 h4
  go_enter Try.func89, Try.ntmps89
  go_wp2
  go_ret
  exact ⟨rfl, rfl⟩
theorem tdepth_any (g : Nat) (L : List (List UInt8)) (w : World) (h : isTree w g L) : Calls Try.prog 91 #[.pointer (some ⟨g, 0, none⟩)] w fun e w' => e = .returned (.int .i64 (dp L.length : Nat)) ∧ w' = w := by
  obtain ⟨p, h1, h2, h3, h4⟩ := h
  clear h1 h3 h4
  go_enter Try.func91, Try.ntmps91
  go_wp2
  go_ret
  exact ⟨rfl, rfl⟩
theorem tlen_any (g : Nat) (L : List (List UInt8)) (w : World) (h : isTree w g L) : Calls Try.prog 93 #[.pointer (some ⟨g, 0, none⟩)] w fun e w' => e = .returned (.int .i64 (L.length : Nat)) ∧ w' = w := by
  obtain ⟨p, h1, h2, h3, h4⟩ := h
  clear h1 h2 h4
  go_enter Try.func93, Try.ntmps93
  go_wp2
  go_ret
  exact ⟨rfl, rfl⟩
theorem troot_nil (w : World) : Calls Try.prog 89 #[.pointer none] w fun e w' => e = .returned (.string ⟨#[]⟩) ∧ w' = w := by
  go_enter Try.func89, Try.ntmps89
  go_wp2
  go_ret
  exact ⟨rfl, rfl⟩
theorem tdepth_nil (w : World) : Calls Try.prog 91 #[.pointer none] w fun e w' => e = .returned (.int .i64 (-1)) ∧ w' = w := by
  go_enter Try.func91, Try.ntmps91
  go_wp2
  go_ret
  exact ⟨rfl, rfl⟩
theorem tlen_nil (w : World) : Calls Try.prog 93 #[.pointer none] w fun e w' => e = .returned (.int .i64 0) ∧ w' = w := by
  go_enter Try.func93, Try.ntmps93
  go_wp2
  go_ret
  exact ⟨rfl, rfl⟩
theorem tat_nil (l k : Int) (w : World) : Calls Try.prog 94 #[.pointer none, .int .i64 l, .int .u64 k] w fun e w' => e = .returned (.tuple #[.string ⟨#[]⟩, .bool false]) ∧ w' = w := by
  go_enter Try.func94, Try.ntmps94
  go_wp2
  go_ret2
  exact ⟨rfl, rfl⟩
theorem and_one (x : Nat) (hx : x < 18446744073709551616) : bits .and .u64 (x : Int) 1 = ((x % 2 : Nat) : Int) := by
  rw [show (1 : Int) = ((1 : Nat) : Int) from rfl, u64_and_nat x 1 hx (by decide), Nat.and_one_is_mod]
theorem div_pow_int (k i : Nat) : (k : Int) / 2 ^ i = ((k / 2 ^ i : Nat) : Int) := by simp
theorem tat_out (g : Nat) (L : List (List UInt8)) (hL : L.length ≤ 65536) (level : Int) (k : Nat) (hlv : -9223372036854775808 ≤ level ∧ level ≤ 9223372036854775807) (hk : k < 18446744073709551616) (hn : ¬ inTree L level k) (w : World) (h : isTree w g L) :
    Calls Try.prog 94 #[.pointer (some ⟨g, 0, none⟩), .int .i64 level, .int .u64 (k : Int)] w fun e w' => e = .returned (.tuple #[.string ⟨#[]⟩, .bool false]) ∧ w' = w := by
  obtain ⟨p, h1, h2, h3, h4⟩ := h
  clear h1 h3 h4
  obtain ⟨D, hD⟩ : ∃ D, D = dp L.length := ⟨_, rfl⟩
  rw [← hD] at h2
  have hD16 : D ≤ 16 := by rw [hD]; exact dp_16 _ hL
  unfold inTree at hn
  rw [← hD] at hn
  clear hD
  by_cases hl0 : level < 0
  · clear hn
    go_enter Try.func94, Try.ntmps94
    go_wp2
    go_ret2
    exact ⟨rfl, rfl⟩
  · by_cases hlD : (D : Int) < level
    · clear hn
      have hl1 : 0 ≤ level := by omega
      go_enter Try.func94, Try.ntmps94
      go_wp2
      go_ret2
      exact ⟨rfl, rfl⟩
    · obtain ⟨lv, rfl⟩ : ∃ lv : Nat, level = (lv : Int) := ⟨level.toNat, by omega⟩
      obtain ⟨m, hm⟩ : ∃ m, m = D - lv := ⟨_, rfl⟩
      have hmI : (D : Int) - (lv : Int) = (m : Int) := by omega
      have hm16 : m ≤ 16 := by omega
      obtain ⟨q, hq⟩ : ∃ q, q = k / 2 ^ m := ⟨_, rfl⟩
      have hqI : (k : Int) / 2 ^ m = (q : Int) := by rw [hq]; exact div_pow_int k m
      have hq0 : ¬ (q : Int) = 0 := by
        intro e
        apply hn
        refine ⟨by omega, by omega, ?_⟩
        rw [Int.toNat_natCast, ← hm]
        have e2 : k / 2 ^ m = 0 := by omega
        rw [Nat.div_eq_zero_iff] at e2
        rcases e2 with e2 | e2
        · exact absurd e2 (Nat.ne_of_gt (Nat.two_pow_pos m))
        · exact e2
      clear hn hq hm
      go_enter Try.func94, Try.ntmps94
      go_wp2
      go_ret2
      exact ⟨rfl, rfl⟩
set_option maxRecDepth 100000 in
set_option maxHeartbeats 1000000 in
theorem tat_in (g : Nat) (L : List (List UInt8)) (hL : L.length ≤ 65536) (lv : Nat) (k : Nat) (hlD : lv ≤ dp L.length) (hkD : k < 2 ^ (dp L.length - lv)) (w : World) (h : isTree w g L) :
    Calls Try.prog 94 #[.pointer (some ⟨g, 0, none⟩), .int .i64 (lv : Int), .int .u64 (k : Int)] w fun e w' => e = .returned (.tuple #[.string ⟨(td L (dp L.length) lv k).toArray⟩, .bool true]) ∧ Below w.heap.size w w' := by
  obtain ⟨p, h1, h2, h3, h4⟩ := h
  clear h3
  obtain ⟨D, hD⟩ : ∃ D, D = dp L.length := ⟨_, rfl⟩
  rw [← hD] at h2 h4 hlD hkD
  rw [← hD]
  have hD16 : D ≤ 16 := by rw [hD]; exact dp_16 _ hL
  clear hD
  have hlDI : (lv : Int) ≤ (D : Int) := by omega
  obtain ⟨m, hm⟩ : ∃ m, m = D - lv := ⟨_, rfl⟩
  rw [← hm] at hkD
  have hmI : (D : Int) - (lv : Int) = (m : Int) := by omega
  have hm16 : m ≤ 16 := by omega
  have hk16 : k < 65536 := Nat.lt_of_lt_of_le hkD (Nat.pow_le_pow_right (by decide) hm16)
  have hq0 : (k : Int) / 2 ^ m = 0 := by rw [div_pow_int, Nat.div_eq_of_lt hkD]; rfl
  have hlm : lv + m = D := by omega
  have T0 : Hid (isT w (td L D) (lv + m) (k / 2 ^ m) p) := hid (by rw [hlm, Nat.div_eq_of_lt hkD]; exact h4)
  have hd0 : ¬ ((lv : Int) < 0) := by omega
  have hd1 : ¬ ((D : Int) < (lv : Int)) := by omega
  have hd2 : ¬ (D < lv) := by omega
  clear h4 hkD hm
  go_enter Try.func94, Try.ntmps94
  go_wp2
  clear h1 h2 hq0 hlDI hmI
  go_loopw [8, 9] (fun pv i wr => ∃ j pp : Nat, j ≤ m ∧ i = .int .i64 ((j : Int) - 1) ∧ pv = .pointer (some ⟨pp, 0, none⟩) ∧ isT wr (td L D) (lv + j) (k / 2 ^ j) pp ∧ Below w.heap.size w wr) (fun _ i _ => (intOf i + 1).toNat)
  case atStart => exact ⟨m, p, Nat.le_refl _, rfl, rfl, T0.out, Below.refl _ _⟩
  case round =>
    obtain ⟨j, pp, hjm, rfl, rfl, ht, hbel⟩ := hrel
    have HB := hid hbel
    clear hbel
    cases j with
    | zero =>
      have h5 := ht.top
      rw [Nat.add_zero, Nat.pow_zero, Nat.div_one] at h5
      clear ht
      go_wp2
      go_ret2
      exact ⟨rfl, HB.out⟩
    | succ i =>
      have hi : ((i + 1 : Nat) : Int) - 1 = (i : Int) := by omega
      rw [hi]
      have hi16 : i ≤ 16 := by omega
      obtain ⟨x, hx⟩ : ∃ x, x = k / 2 ^ i := ⟨_, rfl⟩
      have hxI : (k : Int) / 2 ^ i = (x : Int) := by rw [hx]; exact div_pow_int k i
      have hx16 : x < 65536 := by rw [hx]; exact Nat.lt_of_le_of_lt (Nat.div_le_self _ _) hk16
      obtain ⟨b, hb⟩ : ∃ b, b = x % 2 := ⟨_, rfl⟩
      have hbI : bits .and .u64 (x : Int) 1 = (b : Int) := by rw [hb]; exact and_one x (by omega)
      have hb2 : b < 2 := by omega
      have hbi2 : (b : Int) < 2 := by omega
      obtain ⟨r, hr, hrT⟩ := isT.kid (l := lv + i) ht b hb2
      have e : 2 * (k / 2 ^ (i + 1)) + b = x := by rw [Nat.pow_succ, ← Nat.div_div_eq_div_mul, ← hx, hb]; omega
      rw [e, hx] at hrT
      have T1 := hid hrT
      clear hrT hb hx e ht hi
      go_wp2_with fail
      refine wp_region_sq (fun X => X = wr.drew) [(true, 0), (true, 1), (true, 2), (true, 3), (true, 4), (true, 5), (true, 6), (true, 7), (true, 8)] 9 rfl (by kernel_rfl) (by kernel_rfl) (by kernel_rfl) (by decide) rfl (by kernel_rfl) rfl ?_
      iterate 9 (refine sq_soft rfl (by kernel_rfl) (fun W hW => (by subst hW; go_simp; try rfl)) ?_; go_frame)
      refine sched_done ?_
      go_wp2
      go_roundw
      case rel => exact ⟨i, r, by omega, by go_num, rfl, T1.out.keep (Below.refl wr.heap.size wr).drew, HB.out.drew⟩
      case measure => simp [intOf]
/-- whatever is asked -/
theorem tat_any (g : Nat) (L : List (List UInt8)) (hL : L.length ≤ 65536) (level : Int) (k : Nat) (hlv : -9223372036854775808 ≤ level ∧ level ≤ 9223372036854775807) (hk : k < 18446744073709551616) (w : World) (h : isTree w g L) :
    Calls Try.prog 94 #[.pointer (some ⟨g, 0, none⟩), .int .i64 level, .int .u64 (k : Int)] w fun e w' => e = .returned (.tuple #[.string ⟨(atOf L level k).toArray⟩, .bool (decide (inTree L level k))]) ∧ Below w.heap.size w w' := by
  by_cases hin : inTree L level k
  · rw [atOf_in hin, decide_eq_true hin]
    obtain ⟨h0, h1, h2⟩ := hin
    obtain ⟨lv, rfl⟩ : ∃ lv : Nat, level = (lv : Int) := ⟨level.toNat, by omega⟩
    exact tat_in g L hL lv k (by omega) h2 w h
  · rw [atOf_out hin, decide_eq_false hin]
    refine (tat_out g L hL level k hlv hk hin w h).mono ?_
    rintro e w' ⟨rfl, rfl⟩
    exact ⟨rfl, Below.refl _ _⟩
end Go.Proofs.Ytcfohdkdppiekaa
