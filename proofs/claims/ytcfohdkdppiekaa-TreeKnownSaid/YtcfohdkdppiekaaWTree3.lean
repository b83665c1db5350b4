/- A tree is built: contract. -/
import Derived.Test.YtcfohdkdppiekaaWTree2
namespace Go.Proofs.Ytcfohdkdppiekaa
open Go Go.RowKit Go.Proofs
attribute [local go_sem] Oper.semAt_some
/-- what the closure that builds has captured -/
structure AtEnv (w : World) (L : List (List UInt8)) (D ab db eb nb : Nat) : Prop where
  at_ : w.cell? ⟨ab, 0, none⟩ = some (.func (.func 137) #[] #[.pointer (some ⟨ab, 0, none⟩), .pointer (some ⟨db, 0, none⟩), .pointer (some ⟨eb, 0, none⟩), .pointer (some ⟨nb, 0, none⟩)])
  depth : w.cell? ⟨db, 0, none⟩ = some (.int .i64 (D : Int))
  els : ∃ v, w.cell? ⟨eb, 0, none⟩ = some v ∧ strsAt w w.heap.size v L
  none_ : ∃ np, w.cell? ⟨nb, 0, none⟩ = some (.pointer (some ⟨np, 0, none⟩)) ∧ w.cell? ⟨np, 0, none⟩ = some (.string ⟨noned.toArray⟩)
theorem AtEnv.keep {w w' : World} {L : List (List UInt8)} {D ab db eb nb : Nat} (h : AtEnv w L D ab db eb nb) (hb : Below w.heap.size w w') : AtEnv w' L D ab db eb nb := by
  obtain ⟨h1, h2, ⟨v, h3, h4⟩, np, h5, h6⟩ := h
  exact ⟨keep_cell hb h1, keep_cell hb h2, ⟨v, keep_cell hb h3, h4.keep' hb⟩, np, keep_cell hb h5, keep_cell hb h6⟩
theorem pow_le16 {n : Nat} (h : n ≤ 16) : 2 ^ n ≤ 65536 := Nat.pow_le_pow_right (n := 2) (by decide) h
/-- a part of a tree is given -/
def Parts (w : World) (d : Nat → Nat → List UInt8) (l k : Nat) (e : Ending) (w' : World) : Prop := ∃ p, e = .returned (.pointer (some ⟨p, 0, none⟩)) ∧ isT w' d l k p ∧ Below w.heap.size w w'
set_option maxRecDepth 100000 in
set_option maxHeartbeats 1000000 in
theorem bat_zero (L : List (List UInt8)) (hL : L.length ≤ 65536) (ht : ∀ s ∈ L, s.length ≤ 1000000) (D ab db eb nb : Nat) (hD : D ≤ 16) (k : Nat) (w : World) (hk : k < 2 ^ D) (h : AtEnv w L D ab db eb nb) :
    Calls Try.prog 137 #[.int .i64 0, .int .u64 (k : Int), .pointer (some ⟨ab, 0, none⟩), .pointer (some ⟨db, 0, none⟩), .pointer (some ⟨eb, 0, none⟩), .pointer (some ⟨nb, 0, none⟩)] w (Parts w (td L D) 0 k) := by
  obtain ⟨h1, h2, ⟨v, h3, h4⟩, np, h5, h6⟩ := h
  obtain ⟨⟨A, c, rfl, hlc, hc, hx⟩, -⟩ := h4
  have HX := hid hx
  have HT := hid ht
  obtain ⟨i, hi⟩ : ∃ i, i = rv D k := ⟨_, rfl⟩
  have hi16 : i < 65536 := by rw [hi]; exact Nat.lt_of_lt_of_le (rv_lt D k) (pow_le16 hD)
  have HI := hid hi
  have HK := hid hk
  clear hx ht h1 hi hk
  by_cases hil : i < L.length
  · have hilI : (i : Int) < (L.length : Int) := by omega
    obtain ⟨a, rfl, hab, hcell⟩ := HX.out i hil
    have hak : (a.add i).block < w.heap.size := by rw [block_add]; exact hab
    obtain ⟨s, hs⟩ : ∃ s, s = L.getD i [] := ⟨_, rfl⟩
    rw [← hs] at hcell
    have hsl : s.length ≤ 1000000 := by rw [hs]; exact HT.out _ (by rw [List.getD_eq_getElem?_getD, List.getElem?_eq_getElem hil]; exact List.getElem_mem hil)
    have HS := hid hs
    clear hs h5 h6
    go_enter Try.func137, Try.ntmps137
    go_wp2_with fail
    refine (element_at k D hD HK.out w).mono ?_
    rintro e w1 ⟨rfl, hw⟩
    subst w1
    rw [← HI.out]
    go_wp2_with fail
    refine (tleaf_any s hsl w).mono ?_
    rintro e w1 ⟨p, rfl, hp, hb⟩
    go_wp2
    go_ret
    refine ⟨p, rfl, ?_, hb⟩
    show w1.cell? _ = _
    rw [hp, td_leafN L D k (by rw [← HI.out]; exact hil), ← HI.out, ← HS.out]
  · have hilI : ¬ (i : Int) < (L.length : Int) := by omega
    go_enter Try.func137, Try.ntmps137
    go_wp2_with fail
    refine (element_at k D hD HK.out w).mono ?_
    rintro e w1 ⟨rfl, hw⟩
    subst w1
    rw [← HI.out]
    go_wp2
    go_ret
    refine ⟨np, rfl, ?_, Below.refl _ _⟩
    show w.cell? _ = _
    rw [h6, td_noneN L D k (by rw [← HI.out]; exact hil)]
set_option maxRecDepth 100000 in
set_option maxHeartbeats 1000000 in
theorem bat_any (L : List (List UInt8)) (hL : L.length ≤ 65536) (ht : ∀ s ∈ L, s.length ≤ 1000000) (D ab db eb nb : Nat) (hD : D ≤ 16) : ∀ (l k : Nat) (w : World), l ≤ D → k < 2 ^ (D - l) → AtEnv w L D ab db eb nb →
    Calls Try.prog 137 #[.int .i64 (l : Int), .int .u64 (k : Int), .pointer (some ⟨ab, 0, none⟩), .pointer (some ⟨db, 0, none⟩), .pointer (some ⟨eb, 0, none⟩), .pointer (some ⟨nb, 0, none⟩)] w (Parts w (td L D) l k) := by
  intro l
  induction l with
  | zero => exact fun k w _ hk h => bat_zero L hL ht D ab db eb nb hD k w (by simpa using hk) h
  | succ l ih =>
    intro k w hl hk h
    have hk16 : k < 65536 := Nat.lt_of_lt_of_le hk (pow_le16 (by omega))
    have e2 : 2 ^ (D - l) = 2 * 2 ^ (D - (l + 1)) := by rw [← Nat.pow_succ']; congr 1; omega
    obtain ⟨x, hx⟩ : ∃ x, x = 2 * k := ⟨_, rfl⟩
    obtain ⟨y, hy⟩ : ∃ y, y = 2 * k + 1 := ⟨_, rfl⟩
    have hxI : 2 * (k : Int) = (x : Int) := by omega
    have hyI : (x : Int) + 1 = (y : Int) := by omega
    have hx17 : x < 131072 := by omega
    have hlI : ((l + 1 : Nat) : Int) - 1 = (l : Int) := by omega
    have hl0 : (0 : Int) < ((l + 1 : Nat) : Int) := by omega
    have hl16 : l ≤ 16 := by omega
    have IHX := hid (fun (W : World) (hW : AtEnv W L D ab db eb nb) => ih x W (by omega) (by omega) hW)
    have IHY := hid (fun (W : World) (hW : AtEnv W L D ab db eb nb) => ih y W (by omega) (by omega) hW)
    have HXX := hid hx
    have HYY := hid hy
    have HE := hid h
    have HK := hid fun (X : World) (hX : Below w.heap.size w X) => (h.keep hX).at_
    obtain ⟨n, hn⟩ : ∃ n : Int, n = ((l + 1 : Nat) : Int) := ⟨_, rfl⟩
    rw [← hn] at hlI hl0 ⊢
    have hn16 : n ≤ 17 := by omega
    have hw1 : IntKind.i64.wrap (l : Int) = (l : Int) := by rw [IntKind.wrap_i64]; omega
    have hw2 : IntKind.u64.wrap (x : Int) = (x : Int) := by rw [IntKind.wrap_u64]; omega
    have hw3 : IntKind.u64.wrap (y : Int) = (y : Int) := by rw [IntKind.wrap_u64]; omega
    clear ih hx hy e2 hk hl h hn
    go_enter Try.func137, Try.ntmps137
    go_wp2_with fail
    have B0 := hid (Below.refl w.heap.size w).drew
    refine wp_region_sq (fun X => X.cell? ⟨ab, 0, none⟩ = some (.func (.func 137) #[] #[.pointer (some ⟨ab, 0, none⟩), .pointer (some ⟨db, 0, none⟩), .pointer (some ⟨eb, 0, none⟩), .pointer (some ⟨nb, 0, none⟩)])) [(true, 0), (true, 1), (true, 2), (true, 3), (true, 4), (true, 6), (true, 7), (true, 8), (true, 9), (true, 10), (true, 11), (false, 5), (false, 12), (false, 13)] 14 rfl (by kernel_rfl) (by kernel_rfl) (by kernel_rfl) (by decide) rfl (by kernel_rfl) (HK.out _ B0.out) ?_
    generalize World.drew w = w0 at B0 ⊢
    iterate 11 (refine sq_soft rfl (by kernel_rfl) (fun W hW => (by go_simp; try rfl)) ?_; go_frame)
    refine sq_op rfl (by kernel_rfl) ?_
    go_simp
    refine (IHX.out w0 (HE.out.keep B0.out)).mono ?_
    rintro e w1 ⟨p1, rfl, t1, b1⟩
    have B1 := hid (below_all B0.out b1)
    have T1 := hid t1
    refine ⟨HK.out _ B1.out, ?_⟩
    clear t1 b1
    try go_frame
    refine sq_op rfl (by kernel_rfl) ?_
    go_simp
    refine (IHY.out w1 (HE.out.keep B1.out)).mono ?_
    rintro e w2 ⟨p2, rfl, t2, b2⟩
    have B2 := hid (below_all B1.out b2)
    have T2 := hid t2
    have T3 := hid (T1.out.keep b2)
    refine ⟨HK.out _ B2.out, ?_⟩
    clear t2 b2
    try go_frame
    refine sq_op rfl (by kernel_rfl) ?_
    go_simp
    refine (over_any _ _ (td_len L D l x) (td_len L D l y) p1 p2 w2 T3.out.top T2.out.top).mono ?_
    rintro e w3 ⟨r, rfl, c0, c1, c2, b3⟩
    have B3 := hid (below_all B2.out b3)
    have T4 := hid (T3.out.keep b3)
    have T5 := hid (T2.out.keep b3)
    refine ⟨HK.out _ B3.out, ?_⟩
    have HC := hid (And.intro c0 (And.intro c1 c2))
    clear c0 c1 c2 b3
    try go_frame
    refine sched_done ?_
    go_wp2
    go_ret
    obtain ⟨c0, c1, c2⟩ := HC.out
    have t4 := T4.out
    have t5 := T5.out
    rw [HXX.out] at t4 c0
    rw [HYY.out] at t5 c0
    exact ⟨r, rfl, isT.mk c0 c1 c2 t4 t5, B3.out⟩
end Go.Proofs.Ytcfohdkdppiekaa
