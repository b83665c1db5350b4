/- A tree with another element: contract of With. -/
import Derived.Test.YtcfohdkdppiekaaWTree4
namespace Go.Proofs.Ytcfohdkdppiekaa
open Go Go.RowKit Go.Proofs
attribute [local go_sem] Oper.semAt_some
theorem cell_set_other (w : World) (g off p i : Nat) (v : Value) (h : p ≠ g) : (w.setCell ⟨g, off, none⟩ v).cell? ⟨p, i, none⟩ = w.cell? ⟨p, i, none⟩ :=
  World.cell?_of_block (w := w) (a := ⟨p, i, none⟩) (Below.heap_setCell _ _ _ _ h)
/-- a store into a block that holds pointers leaves trees alone -/
theorem isT.other {w : World} {d : Nat → Nat → List UInt8} {g off : Nat} {v : Value} {q : Option Addr} (hg : w.cell? ⟨g, 0, none⟩ = some (.pointer q)) : ∀ {l k p : Nat}, isT w d l k p → isT (w.setCell ⟨g, off, none⟩ v) d l k p := by
  intro l
  induction l with
  | zero =>
    intro k p h
    have hne : p ≠ g := by
      rintro rfl
      have h' : w.cell? ⟨p, 0, none⟩ = _ := h
      rw [hg] at h'; cases h'
    show World.cell? _ _ = _
    rw [cell_set_other _ _ _ _ _ _ hne]; exact h
  | succ l ih =>
    rintro k p ⟨h0, p1, p2, h1, h2, t1, t2⟩
    have hne : p ≠ g := by
      rintro rfl
      rw [hg] at h0; cases h0
    exact ⟨by rw [cell_set_other _ _ _ _ _ _ hne]; exact h0, p1, p2, by rw [cell_set_other _ _ _ _ _ _ hne]; exact h1, by rw [cell_set_other _ _ _ _ _ _ hne]; exact h2, ih t1, ih t2⟩
/-- what the closure that makes anew has captured -/
structure WithEnv (w : World) (s : List UInt8) (K xb kb fb : Nat) : Prop where
  el : w.cell? ⟨xb, 0, none⟩ = some (.string ⟨s.toArray⟩)
  k : w.cell? ⟨kb, 0, none⟩ = some (.int .u64 (K : Int))
  fn : w.cell? ⟨fb, 0, none⟩ = some (.func (.func 143) #[] #[.pointer (some ⟨xb, 0, none⟩), .pointer (some ⟨kb, 0, none⟩), .pointer (some ⟨fb, 0, none⟩)])
theorem WithEnv.keep {w w' : World} {s : List UInt8} {K xb kb fb : Nat} (h : WithEnv w s K xb kb fb) (hb : Below w.heap.size w w') : WithEnv w' s K xb kb fb :=
  ⟨keep_cell hb h.el, keep_cell hb h.k, keep_cell hb h.fn⟩
theorem two_cells {w : World} {g o : Nat} {a b : Value} (h0 : w.cell? ⟨g, o, none⟩ = some a) (h1 : w.cell? ⟨g, o + 1, none⟩ = some b) : ∀ j v, [a, b][j]? = some v → w.cell? ⟨g, o + j, none⟩ = some v := by
  intro j v hj
  match j with
  | 0 => simp at hj; subst hj; exact h0
  | 1 => simp at hj; subst hj; exact h1
  | j + 2 => simp at hj
set_option maxRecDepth 100000 in
set_option maxHeartbeats 1000000 in
theorem anew_any (L : List (List UInt8)) (s : List UInt8) (hs : s.length ≤ 1000000) (i D K xb kb fb : Nat) (hD : D ≤ 16) (hi : i < L.length) (hL : L.length ≤ 2 ^ D) (hK : K = rv D i) : ∀ (l p : Nat) (w : World), l ≤ D → WithEnv w s K xb kb fb → isT w (td L D) l (K / 2 ^ l) p →
    Calls Try.prog 143 #[.pointer (some ⟨p, 0, none⟩), .int .i64 (l : Int), .pointer (some ⟨xb, 0, none⟩), .pointer (some ⟨kb, 0, none⟩), .pointer (some ⟨fb, 0, none⟩)] w (Parts w (td (L.set i s) D) l (K / 2 ^ l)) := by
  intro l
  induction l with
  | zero =>
    intro p w _ h _
    have h1 := h.el
    have HH := hid (td_on0 L s i D hi hL)
    rw [← hK] at HH
    clear h hi hL hK hD
    go_enter Try.func143, Try.ntmps143
    go_wp2_with fail
    refine (tleaf_any s hs w).mono ?_
    rintro e w1 ⟨r, rfl, hr, hb⟩
    go_wp2
    go_ret
    refine ⟨r, rfl, ?_, hb⟩
    show w1.cell? _ = _
    rw [Nat.pow_zero, Nat.div_one, HH.out]
    exact hr
  | succ l ih =>
    intro p w hl h hT
    have hK16 : K < 65536 := by rw [hK]; exact Nat.lt_of_lt_of_le (rv_lt D i) (pow_le16 hD)
    have hl16 : l ≤ 16 := by omega
    obtain ⟨x, hx⟩ : ∃ x, x = K / 2 ^ l := ⟨_, rfl⟩
    have hxI : (K : Int) / 2 ^ l = (x : Int) := by rw [hx]; exact div_pow_int K l
    have hx16 : x < 65536 := by rw [hx]; exact Nat.lt_of_le_of_lt (Nat.div_le_self _ _) hK16
    obtain ⟨y, hy⟩ : ∃ y, y = K / 2 ^ (l + 1) := ⟨_, rfl⟩
    have hyx : y = x / 2 := by rw [hy, hx, Nat.pow_succ, Nat.div_div_eq_div_mul]
    have hxl : x < 2 ^ (D - l) := by rw [hx, hK]; exact way_lt D i l (by omega)
    rw [← hy] at hT
    obtain ⟨h0, p1, p2, h1, h2, t1, t2⟩ := hT
    have H12 := hid (two_cells (o := 1) h1 h2)
    have hlw : IntKind.i64.wrap (l : Int) = (l : Int) := by rw [IntKind.wrap_i64]; omega
    have hlI : ((l + 1 : Nat) : Int) - 1 = (l : Int) := by omega
    have hl0 : ¬ ((l + 1 : Nat) : Int) = 0 := by omega
    obtain ⟨n, hn⟩ : ∃ n : Int, n = ((l + 1 : Nat) : Int) := ⟨_, rfl⟩
    have hpw := cell_lt h0
    rw [← hn] at hlI hl0 ⊢
    have hn17 : n ≤ 17 := by omega
    rw [← hy]
    have IH := hid (fun (q : Nat) (W : World) (hW : WithEnv W s K xb kb fb) (ht : isT W (td L D) l x q) => ih q W (by omega) hW (by rw [← hx]; exact ht))
    rw [← hx] at IH
    have HOFF := hid (fun (k q : Nat) (W : World) (hk : k < 2 ^ (D - l)) (hne : k ≠ x) (ht : isT W (td L D) l k q) => isT.off (s := s) hi hL (by omega) hk (by rw [← hK, ← hx]; exact hne) ht)
    have e2 : 2 ^ (D - l) = 2 * 2 ^ (D - (l + 1)) := by rw [← Nat.pow_succ']; congr 1; omega
    have hyl : 2 * y + 1 < 2 ^ (D - l) := by
      have : y < 2 ^ (D - (l + 1)) := by rw [hy, hK]; exact way_lt D i (l + 1) hl
      omega
    have hk1 := h.k
    have hkb := cell_lt hk1
    have E0 := hid h
    have T1 := hid t1
    have T2 := hid t2
    have HYL := hid hyl
    have HYX := hid hyx
    clear ih hx hy hi hL hK hD h t1 t2 h0 h1 h2 hn hl hxl e2 hyl hyx
    rcases Nat.mod_two_eq_zero_or_one x with hb | hb
    · have hbI : bits .and .u64 (x : Int) 1 = 0 := by rw [and_one x (by omega), hb]; rfl
      have hxy : x = 2 * y := by have := HYX.out; omega
      have HXY := hid hxy
      have TS : Hid (isT w (td L D) l x p1) := hid (by rw [hxy]; exact T1.out)
      have TO : Hid (isT w (td (L.set i s) D) l (2 * y + 1) p2) := hid (HOFF.out _ _ _ (by have := HYL.out; omega) (by omega) T2.out)
      clear hb hxy
      go_enter Try.func143, Try.ntmps143
      go_wp2_with (refine wpList_load_part rfl 184 _ rfl p 1 rfl [.pointer (some ⟨p1, 0, none⟩), .pointer (some ⟨p2, 0, none⟩)] _ H12.out Try.underlying184 rfl (by kernel_rfl) ?_)
      obtain ⟨G, hG⟩ : ∃ G, G = w.heap.size := ⟨_, rfl⟩
      rw [← hG]
      obtain ⟨W1, hW1⟩ : ∃ W1, W1 = w.alloc (.cells #[.pointer (some ⟨p1, 0, none⟩), .pointer (some ⟨p2, 0, none⟩)] 184) := ⟨_, rfl⟩
      have hb1 : Below w.heap.size w W1 := by rw [hW1]; exact (Below.refl _ _).alloc (Nat.le_refl _) _
      have ha1 : arr W1 G 184 [.pointer (some ⟨p1, 0, none⟩), .pointer (some ⟨p2, 0, none⟩)] := by rw [hW1]; exact arr.newAt _ _ [.pointer (some ⟨p1, 0, none⟩), .pointer (some ⟨p2, 0, none⟩)] _ hG
      rw [← hW1]
      have B1 := hid hb1
      have A1 := hid ha1
      have HG := hid hG
      have HK : Hid (∀ X, Below W1.heap.size W1 X → X.cell? ⟨fb, 0, none⟩ = some (.func (.func 143) #[] #[.pointer (some ⟨xb, 0, none⟩), .pointer (some ⟨kb, 0, none⟩), .pointer (some ⟨fb, 0, none⟩)]) ∧ arr X G 184 [.pointer (some ⟨p1, 0, none⟩), .pointer (some ⟨p2, 0, none⟩)]) := hid fun X hX => ⟨((E0.out.keep B1.out).keep hX).fn, A1.out.keep hX⟩
      clear hG hW1 hb1 ha1 hk1 hkb
      have B2 := hid (Below.refl W1.heap.size W1).drew
      refine wp_region_sq (fun X => X.cell? ⟨fb, 0, none⟩ = some (.func (.func 143) #[] #[.pointer (some ⟨xb, 0, none⟩), .pointer (some ⟨kb, 0, none⟩), .pointer (some ⟨fb, 0, none⟩)]) ∧ arr X G 184 [.pointer (some ⟨p1, 0, none⟩), .pointer (some ⟨p2, 0, none⟩)]) [(true, 0), (true, 1), (true, 2), (true, 3), (true, 4), (true, 5), (true, 6), (false, 7), (true, 8)] 9 rfl (by kernel_rfl) (by kernel_rfl) (by kernel_rfl) (by decide) rfl (by kernel_rfl) (HK.out _ B2.out) ?_
      generalize World.drew W1 = W2 at B2 ⊢
      iterate 7 (refine sq_soft rfl (by kernel_rfl) (fun W hW => (by obtain ⟨hW1, hW2⟩ := hW; have hW3 := hW2.cell 0 _ rfl; go_simp; try rfl)) ?_; go_frame)
      refine sq_op rfl (by kernel_rfl) ?_
      go_simp
      refine (IH.out p1 W2 ((E0.out.keep B1.out).keep B2.out) ((TS.out.keep B1.out).keep B2.out)).mono ?_
      rintro e W3 ⟨r, rfl, t3, b3⟩
      have B3 := hid (below_all B2.out b3)
      have T3 := hid t3
      refine ⟨HK.out _ B3.out, ?_⟩
      clear t3 b3
      try go_frame
      refine sq_soft rfl (by kernel_rfl) (fun W hW => (by obtain ⟨hW1, hW2⟩ := hW; go_simp; try rfl)) ?_; go_frame
      refine sched_done ?_
      have A3 := hid (HK.out _ B3.out).2
      have c0 := A3.out.cell 0 _ rfl
      have c1 := A3.out.cell 1 _ rfl
      have f0 := A3.out.free 0
      have f1 := A3.out.free 1
      have lg := A3.out.lt
      go_wp2_with fail
      have B4 : Hid (Below w.heap.size w (W3.setCell ⟨G, 0, none⟩ (.pointer (some ⟨r, 0, none⟩)))) := hid ((below_all B1.out B3.out).setCell (p := ⟨G, 0, none⟩) (by rw [HG.out]; exact Nat.le_refl _) _)
      have T4 := hid (T3.out.other (off := 0) (v := .pointer (some ⟨r, 0, none⟩)) c0)
      have T5 := hid (TO.out.keep B4.out)
      generalize W3.setCell ⟨G, 0, none⟩ (.pointer (some ⟨r, 0, none⟩)) = W4 at B4 T4 T5 ⊢
      clear c0 c1 f0 f1 lg
      refine (over_any _ _ (td_len _ D l _) (td_len _ D l _) r p2 W4 T4.out.top T5.out.top).mono ?_
      rintro e W5 ⟨q, rfl, d0, d1, d2, b5⟩
      have B5 := hid (below_all B4.out b5)
      have T6 := hid (T4.out.keep b5)
      have T7 := hid (T5.out.keep b5)
      have HC := hid (And.intro d0 (And.intro d1 d2))
      clear d0 d1 d2 b5
      go_wp2
      go_ret
      obtain ⟨d0, d1, d2⟩ := HC.out
      have t6 := T6.out
      rw [HXY.out] at t6 d0
      exact ⟨q, rfl, isT.mk d0 d1 d2 t6 T7.out, B5.out⟩
    · have hbI : bits .and .u64 (x : Int) 1 = 1 := by rw [and_one x (by omega), hb]; rfl
      have hxy : x = 2 * y + 1 := by have := HYX.out; omega
      have HXY := hid hxy
      have TS : Hid (isT w (td L D) l x p2) := hid (by rw [hxy]; exact T2.out)
      have TO : Hid (isT w (td (L.set i s) D) l (2 * y) p1) := hid (HOFF.out _ _ _ (by have := HYL.out; omega) (by omega) T1.out)
      clear hb hxy
      go_enter Try.func143, Try.ntmps143
      go_wp2_with (refine wpList_load_part rfl 184 _ rfl p 1 rfl [.pointer (some ⟨p1, 0, none⟩), .pointer (some ⟨p2, 0, none⟩)] _ H12.out Try.underlying184 rfl (by kernel_rfl) ?_)
      obtain ⟨G, hG⟩ : ∃ G, G = w.heap.size := ⟨_, rfl⟩
      rw [← hG]
      obtain ⟨W1, hW1⟩ : ∃ W1, W1 = w.alloc (.cells #[.pointer (some ⟨p1, 0, none⟩), .pointer (some ⟨p2, 0, none⟩)] 184) := ⟨_, rfl⟩
      have hb1 : Below w.heap.size w W1 := by rw [hW1]; exact (Below.refl _ _).alloc (Nat.le_refl _) _
      have ha1 : arr W1 G 184 [.pointer (some ⟨p1, 0, none⟩), .pointer (some ⟨p2, 0, none⟩)] := by rw [hW1]; exact arr.newAt _ _ [.pointer (some ⟨p1, 0, none⟩), .pointer (some ⟨p2, 0, none⟩)] _ hG
      rw [← hW1]
      have B1 := hid hb1
      have A1 := hid ha1
      have HG := hid hG
      have HK : Hid (∀ X, Below W1.heap.size W1 X → X.cell? ⟨fb, 0, none⟩ = some (.func (.func 143) #[] #[.pointer (some ⟨xb, 0, none⟩), .pointer (some ⟨kb, 0, none⟩), .pointer (some ⟨fb, 0, none⟩)]) ∧ arr X G 184 [.pointer (some ⟨p1, 0, none⟩), .pointer (some ⟨p2, 0, none⟩)]) := hid fun X hX => ⟨((E0.out.keep B1.out).keep hX).fn, A1.out.keep hX⟩
      clear hG hW1 hb1 ha1 hk1 hkb
      have B2 := hid (Below.refl W1.heap.size W1).drew
      refine wp_region_sq (fun X => X.cell? ⟨fb, 0, none⟩ = some (.func (.func 143) #[] #[.pointer (some ⟨xb, 0, none⟩), .pointer (some ⟨kb, 0, none⟩), .pointer (some ⟨fb, 0, none⟩)]) ∧ arr X G 184 [.pointer (some ⟨p1, 0, none⟩), .pointer (some ⟨p2, 0, none⟩)]) [(true, 0), (true, 1), (true, 2), (true, 3), (true, 4), (true, 5), (true, 6), (false, 7), (true, 8)] 9 rfl (by kernel_rfl) (by kernel_rfl) (by kernel_rfl) (by decide) rfl (by kernel_rfl) (HK.out _ B2.out) ?_
      generalize World.drew W1 = W2 at B2 ⊢
      iterate 7 (refine sq_soft rfl (by kernel_rfl) (fun W hW => (by obtain ⟨hW1, hW2⟩ := hW; have hW3 := hW2.cell 1 _ rfl; go_simp; try rfl)) ?_; go_frame)
      refine sq_op rfl (by kernel_rfl) ?_
      go_simp
      refine (IH.out p2 W2 ((E0.out.keep B1.out).keep B2.out) ((TS.out.keep B1.out).keep B2.out)).mono ?_
      rintro e W3 ⟨r, rfl, t3, b3⟩
      have B3 := hid (below_all B2.out b3)
      have T3 := hid t3
      refine ⟨HK.out _ B3.out, ?_⟩
      clear t3 b3
      try go_frame
      refine sq_soft rfl (by kernel_rfl) (fun W hW => (by obtain ⟨hW1, hW2⟩ := hW; go_simp; try rfl)) ?_; go_frame
      refine sched_done ?_
      have A3 := hid (HK.out _ B3.out).2
      have c0 := A3.out.cell 0 _ rfl
      have c1 := A3.out.cell 1 _ rfl
      have f0 := A3.out.free 0
      have f1 := A3.out.free 1
      have lg := A3.out.lt
      go_wp2_with fail
      have B4 : Hid (Below w.heap.size w (W3.setCell ⟨G, 1, none⟩ (.pointer (some ⟨r, 0, none⟩)))) := hid ((below_all B1.out B3.out).setCell (p := ⟨G, 1, none⟩) (by rw [HG.out]; exact Nat.le_refl _) _)
      have T4 := hid (T3.out.other (off := 1) (v := .pointer (some ⟨r, 0, none⟩)) c0)
      have T5 := hid (TO.out.keep B4.out)
      generalize W3.setCell ⟨G, 1, none⟩ (.pointer (some ⟨r, 0, none⟩)) = W4 at B4 T4 T5 ⊢
      clear c0 c1 f0 f1 lg
      refine (over_any _ _ (td_len _ D l _) (td_len _ D l _) p1 r W4 T5.out.top T4.out.top).mono ?_
      rintro e W5 ⟨q, rfl, d0, d1, d2, b5⟩
      have B5 := hid (below_all B4.out b5)
      have T6 := hid (T4.out.keep b5)
      have T7 := hid (T5.out.keep b5)
      have HC := hid (And.intro d0 (And.intro d1 d2))
      clear d0 d1 d2 b5
      go_wp2
      go_ret
      obtain ⟨d0, d1, d2⟩ := HC.out
      have t6 := T6.out
      rw [HXY.out] at t6 d0
      exact ⟨q, rfl, isT.mk d0 d1 d2 T7.out t6, B5.out⟩
end Go.Proofs.Ytcfohdkdppiekaa
