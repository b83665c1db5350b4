/- The document's trees: Build, Root, At, With: contracts. -/
import Derived.Test.YtcfohdkdppiekaaWRefTree
namespace Go.Proofs.Ytcfohdkdppiekaa
open Go Go.RowKit Go.Proofs
attribute [local go_sem] Oper.semAt_some
theorem rtroot_any (g : Nat) (L : List (List UInt8)) (hL : L.length ≤ 65536) (ht : ∀ s ∈ L, s.length ≤ 1000000) (w : World) (h : isRT w g L) :
    Calls Try.prog 90 #[.pointer (some ⟨g, 0, none⟩)] w (Texts w (td L (dp L.length) (dp L.length) 0)) := by
  have HD := hid (rdg_any g L hL ht (dp L.length) 0 w (Nat.le_refl _) (Nat.two_pow_pos _) h)
  go_enter Try.func90, Try.ntmps90
  go_wp2_with fail
  refine (rtdepth_any g L hL w h).mono ?_
  rintro e w1 ⟨rfl, hw⟩
  subst w1
  go_wp2_with fail
  refine (show Calls Try.prog 140 #[.pointer (some ⟨g, 0, none⟩), .int .i64 (dp L.length : Nat), .int .u64 0] w _ from HD.out).mono ?_
  rintro e w1 ⟨rfl, b1⟩
  go_wp2
  go_ret
  exact ⟨rfl, b1⟩
set_option maxRecDepth 100000 in
set_option maxHeartbeats 1000000 in
theorem rtat_out (g : Nat) (L : List (List UInt8)) (hL : L.length ≤ 65536) (level : Int) (k : Nat) (hlv : -9223372036854775808 ≤ level ∧ level ≤ 9223372036854775807) (hk : k < 18446744073709551616) (hn : ¬ inTree L level k) (w : World) (h : isRT w g L) :
    Calls Try.prog 95 #[.pointer (some ⟨g, 0, none⟩), .int .i64 level, .int .u64 (k : Int)] w fun e w' => e = .returned (.tuple #[.string ⟨#[]⟩, .bool false]) ∧ w' = w := by
  have HDC := hid (rtdepth_any g L hL w h)
  obtain ⟨D, hD⟩ : ∃ D, D = dp L.length := ⟨_, rfl⟩
  rw [← hD] at HDC
  have hD16 : D ≤ 16 := by rw [hD]; exact dp_16 _ hL
  unfold inTree at hn
  rw [← hD] at hn
  clear hD h
  by_cases hl0 : level < 0
  · clear hn
    go_enter Try.func95, Try.ntmps95
    go_wp2_with fail
    refine HDC.out.mono ?_
    rintro e w1 ⟨rfl, hw⟩
    subst w1
    go_wp2
    go_ret2
    exact ⟨rfl, rfl⟩
  · by_cases hlD : (D : Int) < level
    · clear hn
      have hl1 : 0 ≤ level := by omega
      go_enter Try.func95, Try.ntmps95
      go_wp2_with fail
      refine HDC.out.mono ?_
      rintro e w1 ⟨rfl, hw⟩
      subst w1
      go_wp2
      go_ret2
      exact ⟨rfl, rfl⟩
    · obtain ⟨lv, rfl⟩ : ∃ lv : Nat, level = (lv : Int) := ⟨level.toNat, by omega⟩
      obtain ⟨m, hm⟩ : ∃ m, m = D - lv := ⟨_, rfl⟩
      have hmI : (D : Int) - (lv : Int) = (m : Int) := by omega
      have hm16 : m ≤ 16 := by omega
      obtain ⟨P, hP⟩ : ∃ P, P = 2 ^ m := ⟨_, rfl⟩
      have hPI : (2 : Int) ^ m = (P : Int) := by rw [hP]; exact pow_int m
      have hP16 : P ≤ 65536 := by rw [hP]; exact pow_le16 hm16
      have hPw : IntKind.u64.wrap (P : Int) = (P : Int) := by rw [IntKind.wrap_u64]; omega
      have hPk : (P : Int) ≤ (k : Int) := by
        have : ¬ k < P := fun e => hn ⟨by omega, by omega, by rw [Int.toNat_natCast, ← hm, ← hP]; exact e⟩
        omega
      clear hn hP hm
      go_enter Try.func95, Try.ntmps95
      go_wp2_with fail
      refine HDC.out.mono ?_
      rintro e w1 ⟨rfl, hw⟩
      subst w1
      go_wp2
      go_ret2
      exact ⟨rfl, rfl⟩
set_option maxRecDepth 100000 in
set_option maxHeartbeats 1000000 in
theorem rtat_in (g : Nat) (L : List (List UInt8)) (hL : L.length ≤ 65536) (ht : ∀ s ∈ L, s.length ≤ 1000000) (lv : Nat) (k : Nat) (hlD : lv ≤ dp L.length) (hkD : k < 2 ^ (dp L.length - lv)) (w : World) (h : isRT w g L) :
    Calls Try.prog 95 #[.pointer (some ⟨g, 0, none⟩), .int .i64 (lv : Int), .int .u64 (k : Int)] w fun e w' => e = .returned (.tuple #[.string ⟨(td L (dp L.length) lv k).toArray⟩, .bool true]) ∧ Below w.heap.size w w' := by
  have HDC := hid (rtdepth_any g L hL w h)
  have HDG := hid (rdg_any g L hL ht lv k w hlD hkD h)
  obtain ⟨D, hD⟩ : ∃ D, D = dp L.length := ⟨_, rfl⟩
  rw [← hD] at HDC HDG hlD hkD ⊢
  have hD16 : D ≤ 16 := by rw [hD]; exact dp_16 _ hL
  obtain ⟨m, hm⟩ : ∃ m, m = D - lv := ⟨_, rfl⟩
  rw [← hm] at hkD
  have hmI : (D : Int) - (lv : Int) = (m : Int) := by omega
  have hm16 : m ≤ 16 := by omega
  obtain ⟨P, hP⟩ : ∃ P, P = 2 ^ m := ⟨_, rfl⟩
  have hPI : (2 : Int) ^ m = (P : Int) := by rw [hP]; exact pow_int m
  have hP16 : P ≤ 65536 := by rw [hP]; exact pow_le16 hm16
  have hPw : IntKind.u64.wrap (P : Int) = (P : Int) := by rw [IntKind.wrap_u64]; omega
  have hPk : ¬ (P : Int) ≤ (k : Int) := by omega
  have hPk2 : ¬ P ≤ k := by omega
  have hd0 : ¬ ((lv : Int) < 0) := by omega
  have hd1 : ¬ ((D : Int) < (lv : Int)) := by omega
  have hd2 : ¬ (D < lv) := by omega
  clear hD hkD hP hm
  go_enter Try.func95, Try.ntmps95
  go_wp2_with fail
  refine HDC.out.mono ?_
  rintro e w1 ⟨rfl, hw⟩
  subst w1
  go_wp2_with fail
  refine HDG.out.mono ?_
  rintro e w1 ⟨rfl, b1⟩
  go_wp2
  go_ret2
  exact ⟨rfl, b1⟩
/-- whatever is asked -/
theorem rtat_any (g : Nat) (L : List (List UInt8)) (hL : L.length ≤ 65536) (ht : ∀ s ∈ L, s.length ≤ 1000000) (level : Int) (k : Nat) (hlv : -9223372036854775808 ≤ level ∧ level ≤ 9223372036854775807) (hk : k < 18446744073709551616) (w : World) (h : isRT w g L) :
    Calls Try.prog 95 #[.pointer (some ⟨g, 0, none⟩), .int .i64 level, .int .u64 (k : Int)] w fun e w' => e = .returned (.tuple #[.string ⟨(atOf L level k).toArray⟩, .bool (decide (inTree L level k))]) ∧ Below w.heap.size w w' := by
  by_cases hin : inTree L level k
  · rw [atOf_in hin, decide_eq_true hin]
    obtain ⟨h0, h1, h2⟩ := hin
    obtain ⟨lv, rfl⟩ : ∃ lv : Nat, level = (lv : Int) := ⟨level.toNat, by omega⟩
    exact rtat_in g L hL ht lv k (by omega) h2 w h
  · rw [atOf_out hin, decide_eq_false hin]
    refine (rtat_out g L hL level k hlv hk hin w h).mono ?_
    rintro e w' ⟨rfl, rfl⟩
    exact ⟨rfl, Below.refl _ _⟩
/-- a tree of the document is given, whose list is its own -/
def BuiltR (w : World) (L : List (List UInt8)) (e : Ending) (w' : World) : Prop := ∃ g v, e = .returned (.tuple #[.pointer (some ⟨g, 0, none⟩), .int .i64 0]) ∧ arr w' g 193 [v] ∧ ownS w' (g + 1) v L ∧ w.heap.size ≤ g ∧ Below w.heap.size w w'
set_option maxRecDepth 100000 in
set_option maxHeartbeats 1000000 in
theorem rtbuild_any (L : List (List UInt8)) (hL : L.length ≤ 65536) (v : Value) (w : World) (hv : strsAt w w.heap.size v L) : Calls Try.prog 88 #[v] w (BuiltR w L) := by
  have HV := hid hv
  obtain ⟨⟨A, c, rfl, hlc, hc, hx⟩, -⟩ := hv
  have hl0 : ¬ (65536 : Int) < (L.length : Int) := by omega
  have hl1 : ¬ 65536 < L.length := by omega
  clear hx
  obtain ⟨g, hg⟩ : ∃ g, g = w.heap.size := ⟨_, rfl⟩
  obtain ⟨w1, hw1⟩ : ∃ w1, w1 = w.alloc (.cells #[.slice none 0 0] 193) := ⟨_, rfl⟩
  have hb1 : Below w.heap.size w w1 := by rw [hw1]; exact (Below.refl _ _).alloc (Nat.le_refl _) _
  have ha1 : arr w1 g 193 [.slice none 0 0] := by rw [hw1]; exact arr.newAt _ _ [.slice none 0 0] _ hg
  have hs1 : w1.heap.size = g + 1 := by rw [hw1, hg]; simp
  have V1 := hid (HV.out.keep' hb1)
  have O1 := hid (ownS.nil w1 (g + 1))
  have B1 := hid hb1
  have A1 := hid ha1
  have S1 := hid hs1
  have HW1 := hid hw1
  have HG := hid hg
  clear hb1 ha1 hs1 hw1 hg
  go_enter Try.func88, Try.ntmps88
  go_wp2_with ((at_builtin; rw [← HW1.out, ← HG.out]; go_must (refine wpList_appendS rfl _ _ rfl (g + 1) _ _ [] L rfl O1.out _ rfl V1.out (by simp; omega) (by rw [S1.out]; exact Nat.le_refl _) ?_); intro v2 w2 ho2 hg2; rw [List.nil_append] at ho2; obtain ⟨A2, c2, rfl⟩ := row_form ho2; have O2 := hid ho2; have R2 := hid (arr_row A1.out O1.out hg2 (by decide)); have B2 := hid (B1.out.grown hg2 B1.out.size (fun k hk => by cases hk)); clear ho2 hg2; have c0 := R2.out.cell 0 _ rfl; have f0 := R2.out.free 0; have l0 := R2.out.lt))
  have O3 := hid (row_set O2.out R2.out (by decide) 0 (.slice A2 L.length c2))
  have A3 := hid (R2.out.set 0 (.slice A2 L.length c2))
  have B3 := hid (B2.out.setCell (p := ⟨g, 0, none⟩) (by rw [HG.out]; exact Nat.le_refl _) (.slice A2 L.length c2))
  go_ret2
  exact ⟨g, _, rfl, A3.out, O3.out, by rw [HG.out]; exact Nat.le_refl _, B3.out⟩
/-- a tree of the document is given -/
def BuiltRT (w : World) (L : List (List UInt8)) (e : Ending) (w' : World) : Prop := ∃ g, e = .returned (.tuple #[.pointer (some ⟨g, 0, none⟩), .int .i64 0]) ∧ isRT w' g L ∧ Below w.heap.size w w'
theorem rtbuild_rt (L : List (List UInt8)) (hL : L.length ≤ 65536) (ht : ∀ s ∈ L, s.length ≤ 1000000) (v : Value) (w : World) (hv : strsAt w w.heap.size v L) : Calls Try.prog 88 #[v] w (BuiltRT w L) := by
  refine (rtbuild_any L hL v w hv).mono ?_
  rintro e w' ⟨g, v', he, ha, ho, hg, hb⟩
  exact ⟨g, he, ⟨v', ha.cell 0 _ rfl, ho.strs fun s hs => by have := ht s hs; omega⟩, hb⟩
set_option maxRecDepth 100000 in
set_option maxHeartbeats 1000000 in
theorem rtwith_arg (g : Nat) (L : List (List UInt8)) (hL : L.length ≤ 65536) (i : Nat) (hi : L.length ≤ i) (hi2 : i < 18446744073709551616) (s : List UInt8) (w : World) (h : isRT w g L) :
    Calls Try.prog 98 #[.pointer (some ⟨g, 0, none⟩), .int .u64 (i : Int), .string ⟨s.toArray⟩] w fun e w' => e = .returned (.tuple #[.pointer none, .int .i64 2]) ∧ Below w.heap.size w w' := by
  obtain ⟨v, h1, ⟨A, c, rfl, hlc, hc, hx⟩, -⟩ := h
  have hiI : (L.length : Int) ≤ (i : Int) := by omega
  have hLw : IntKind.u64.wrap (L.length : Int) = (L.length : Int) := by rw [IntKind.wrap_u64]; omega
  clear hx
  go_enter Try.func98, Try.ntmps98
  go_wp2
  go_ret2
  exact ⟨rfl, Below.refl _ _⟩
set_option maxRecDepth 100000 in
set_option maxHeartbeats 1000000 in
theorem rtwith_any (g : Nat) (L : List (List UInt8)) (hL : L.length ≤ 65536) (ht : ∀ s ∈ L, s.length ≤ 1000000) (i : Nat) (hi : i < L.length) (s : List UInt8) (hs : s.length ≤ 1000000) (w : World) (h : isRT w g L) :
    Calls Try.prog 98 #[.pointer (some ⟨g, 0, none⟩), .int .u64 (i : Int), .string ⟨s.toArray⟩] w (BuiltRT w (L.set i s)) := by
  obtain ⟨v, h1, hv⟩ := h
  have HB := hid (rtbuild_any L hL v w hv)
  obtain ⟨⟨A, c, rfl, hlc, hc, hx⟩, -⟩ := hv
  have hiI : ¬ (L.length : Int) ≤ (i : Int) := by omega
  have hiI2 : (i : Int) < (L.length : Int) := by omega
  have hLw : IntKind.u64.wrap (L.length : Int) = (L.length : Int) := by rw [IntKind.wrap_u64]; omega
  have HT := hid ht
  clear hx ht
  go_enter Try.func98, Try.ntmps98
  go_wp2_with fail
  refine HB.out.mono ?_
  rintro e w1 ⟨u, v1, rfl, a1, o1, hu, b1⟩
  obtain ⟨b, cap, rfl, hub, t1⟩ := ownS_txt o1 (by omega)
  have hcap : L.length ≤ cap := t1.cap
  have c0 := a1.cell 0 _ rfl
  have l0 := a1.lt
  have c1 := t1.cells i hi
  have f1 := t1.free i
  have l1 := t1.lt
  have A1 := hid a1
  have T1 := hid t1
  have B1 := hid b1
  have HWB := hid (show w.heap.size ≤ b by omega)
  have HUB := hid (show u ≠ b by omega)
  clear a1 o1 t1 b1 hu hub h1
  go_wp2
  go_ret2
  have T2 := T1.out.set i hi s
  have A2 := A1.out.other ⟨b, i, none⟩ (by exact Ne.symm HUB.out) (.string ⟨s.toArray⟩)
  have B2 := B1.out.setCell (p := ⟨b, i, none⟩) HWB.out (.string ⟨s.toArray⟩)
  have hts : ∀ x ∈ L.set i s, x.length ≤ 9223372036854775807 := by
    intro x hx
    rcases List.mem_or_eq_of_mem_set hx with h | h
    · have := HT.out x h; omega
    · rw [h]; omega
  have S2 := T2.strs hts
  rw [List.length_set] at S2
  exact ⟨u, rfl, ⟨_, A2.cell 0 _ rfl, S2⟩, B2⟩
end Go.Proofs.Ytcfohdkdppiekaa
