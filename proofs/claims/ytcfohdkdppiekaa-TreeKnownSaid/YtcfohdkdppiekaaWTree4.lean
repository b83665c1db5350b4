/- A tree is built; a tree with another element: contracts of Build, With. -/
import Derived.Test.YtcfohdkdppiekaaWTree3
import Derived.Laws.EntriesVeiled
namespace Go.Proofs.Ytcfohdkdppiekaa
open Go Go.RowKit Go.Proofs
attribute [local go_sem] Oper.semAt_some
/-- a tree is given -/
def Built (w : World) (L : List (List UInt8)) (e : Ending) (w' : World) : Prop := ∃ g, e = .returned (.tuple #[.pointer (some ⟨g, 0, none⟩), .int .i64 0]) ∧ isTree w' g L ∧ Below w.heap.size w w'
set_option maxRecDepth 100000 in
set_option maxHeartbeats 1000000 in
theorem build_any (L : List (List UInt8)) (hL : L.length ≤ 65536) (ht : ∀ s ∈ L, s.length ≤ 1000000) (v : Value) (w : World) (hv : strsAt w w.heap.size v L) : Calls Try.prog 87 #[v] w (Built w L) := by
  have HV := hid hv
  obtain ⟨⟨A, c, rfl, hlc, hc, hx⟩, -⟩ := hv
  have HT := hid ht
  have hl0 : ¬ (65536 : Int) < (L.length : Int) := by omega
  clear hx ht
  go_enter Try.func87, Try.ntmps87
  go_wp2_with fail
  refine (depth_any L.length hL _).mono ?_
  rintro e w1 ⟨rfl, hw⟩
  subst w1
  obtain ⟨D, hD⟩ : ∃ D, D = dp L.length := ⟨_, rfl⟩
  rw [← hD]
  have hD16 : D ≤ 16 := by rw [hD]; exact dp_16 _ hL
  have HD := hid hD
  clear hD
  go_wp2_with fail
  obtain ⟨w2, hw2⟩ : ∃ w2, w2 = (w.alloc (.cells #[.slice A L.length c] 26)).alloc (.cells #[.int .i64 (D : Int)] 3) := ⟨_, rfl⟩
  have B2 : Hid (Below w.heap.size w w2) := hid (by rw [hw2]; exact ((Below.refl _ _).alloc (Nat.le_refl _) _).alloc (by simp) _)
  have E2 : Hid (arr w2 w.heap.size 26 [.slice A L.length c]) := hid (by rw [hw2]; exact (arr.new w _ [.slice A L.length c]).alloc _)
  have D2 : Hid (arr w2 (w.heap.size + 1) 3 [.int .i64 (D : Int)]) := hid (by rw [hw2]; exact arr.newAt _ _ [.int .i64 (D : Int)] _ (by simp))
  rw [show (w.alloc (.cells #[.slice A L.length c] 26)).alloc (.cells #[.int .i64 (D : Int)] 3) = w2 from hw2.symm]
  obtain ⟨db, hdb⟩ : ∃ db, db = w.heap.size + 1 := ⟨_, rfl⟩
  rw [← hdb] at D2 ⊢
  obtain ⟨eb, heb⟩ : ∃ eb, eb = w.heap.size := ⟨_, rfl⟩
  rw [← heb] at E2 ⊢
  clear hw2 hdb heb
  refine (hash_any tNone [] _ w2 (strsAt.nil _ _) (by decide) (by simp [fparts]) (by simp)).mono ?_
  rintro e w3 ⟨rfl, b3⟩
  rw [show hsh tNone [] = noned from rfl]
  have B3 := hid (below_all B2.out b3)
  have E3 := hid (E2.out.keep b3)
  have D3 := hid (D2.out.keep b3)
  obtain ⟨x, hx⟩ : ∃ x, x = noned := ⟨_, rfl⟩
  rw [← hx]
  have HX := hid hx
  clear b3 E2 D2 B2 hx
  go_wp2_with fail
  obtain ⟨np, hnp⟩ : ∃ np, np = w3.heap.size := ⟨_, rfl⟩
  rw [← hnp]
  obtain ⟨nb, hnb⟩ : ∃ nb, nb = np + 1 := ⟨_, rfl⟩
  rw [← hnb]
  obtain ⟨ab, hab⟩ : ∃ ab, ab = nb + 1 := ⟨_, rfl⟩
  rw [← hab]
  obtain ⟨F, hF⟩ : ∃ F : Value, F = .func (.func 137) #[] #[.pointer (some ⟨ab, 0, none⟩), .pointer (some ⟨db, 0, none⟩), .pointer (some ⟨eb, 0, none⟩), .pointer (some ⟨nb, 0, none⟩)] := ⟨_, rfl⟩
  obtain ⟨W, hW⟩ : ∃ W, W = ((w3.alloc (.cells #[.string ⟨x.toArray⟩, .pointer none, .pointer none] 186)).alloc (.cells #[.pointer (some ⟨np, 0, none⟩)] 183)).alloc (.cells #[F] 187) := ⟨_, rfl⟩
  have hb7 : Below w3.heap.size w3 W := by rw [hW]; exact (((Below.refl _ _).alloc (Nat.le_refl _) _).alloc (by simp) _).alloc (by simp; omega) _
  have hp7 : arr W np 186 [.string ⟨x.toArray⟩, .pointer none, .pointer none] := by rw [hW]; exact ((arr.newAt w3 _ [.string ⟨x.toArray⟩, .pointer none, .pointer none] _ hnp).alloc _).alloc _
  have hn7 : arr W nb 183 [.pointer (some ⟨np, 0, none⟩)] := by rw [hW]; exact (arr.newAt _ _ [.pointer (some ⟨np, 0, none⟩)] _ (by simp; omega)).alloc _
  have ha7 : arr W ab 187 [F] := by rw [hW]; exact arr.newAt _ _ [F] _ (by simp; omega)
  have hE7 : AtEnv W L D ab db eb nb := ⟨by rw [← hF]; exact ha7.cell 0 _ rfl, (D3.out.keep hb7).cell 0 _ rfl, ⟨_, (E3.out.keep hb7).cell 0 _ rfl, HV.out.keep' (below_all B3.out hb7)⟩, np, hn7.cell 0 _ rfl, by rw [← HX.out]; exact hp7.cell 0 _ rfl⟩
  have B7 := hid (below_all B3.out hb7)
  have E7 := hid hE7
  have S7 := hid ((E3.out.keep hb7).cell 0 _ rfl)
  rw [← hF, ← hW]
  have HK : Hid (∀ X, Below W.heap.size W X → X.cell? ⟨ab, 0, none⟩ = some F ∧ X.cell? ⟨db, 0, none⟩ = some (.int .i64 (D : Int)) ∧ X.cell? ⟨eb, 0, none⟩ = some (.slice A L.length c)) := hid fun X hX => ⟨by rw [hF]; exact (E7.out.keep hX).at_, (E7.out.keep hX).depth, keep_cell hX S7.out⟩
  have HBA : Hid (∀ X, AtEnv X L D ab db eb nb → Calls Try.prog 137 #[.int .i64 (D : Int), .int .u64 0, .pointer (some ⟨ab, 0, none⟩), .pointer (some ⟨db, 0, none⟩), .pointer (some ⟨eb, 0, none⟩), .pointer (some ⟨nb, 0, none⟩)] X (Parts X (td L D) D 0)) := hid fun X hX => bat_any L hL HT.out D ab db eb nb hD16 D 0 X (Nat.le_refl _) (Nat.two_pow_pos _) hX
  have HF := hid hF
  clear hnp hnb hab hW hb7 hp7 hn7 ha7 hE7 E3 D3 B3 HX hF
  have B8 := hid (Below.refl W.heap.size W).drew
  refine wp_region_sq (fun X => X.cell? ⟨ab, 0, none⟩ = some F ∧ X.cell? ⟨db, 0, none⟩ = some (.int .i64 (D : Int)) ∧ X.cell? ⟨eb, 0, none⟩ = some (.slice A L.length c)) [(true, 0), (true, 1), (true, 3), (true, 4), (true, 5), (false, 2), (true, 6), (false, 7), (true, 8)] 9 rfl (by kernel_rfl) (by kernel_rfl) (by kernel_rfl) (by decide) rfl (by kernel_rfl) (HK.out _ B8.out) ?_
  generalize World.drew W = W8 at B8 ⊢
  iterate 5 (refine sq_soft rfl (by kernel_rfl) (fun W hW => (by obtain ⟨hW1, hW2, hW3⟩ := hW; go_simp; try rfl)) ?_; go_frame)
  refine sq_op rfl (by kernel_rfl) ?_
  rw [HF.out]
  go_simp
  refine (HBA.out W8 (E7.out.keep B8.out)).mono ?_
  rintro e W9 ⟨p, rfl, t9, b9⟩
  have B9 := hid (below_all B8.out b9)
  have T9 := hid t9
  refine ⟨by rw [← HF.out]; exact HK.out _ B9.out, ?_⟩
  clear t9 b9
  try go_frame
  refine sq_soft rfl (by kernel_rfl) (fun W hW => (by obtain ⟨hW1, hW2, hW3⟩ := hW; go_simp; try rfl)) ?_; go_frame
  refine sq_op rfl (by kernel_rfl) ?_
  go_simp
  have hal : Below W9.heap.size W9 (W9.alloc (.cells #[.pointer (some ⟨p, 0, none⟩), .int .i64 (D : Int), .int .i64 (L.length : Int)] 191 (0, 0))) := (Below.refl _ _).alloc (Nat.le_refl _) _
  have B10 := hid (below_all B9.out hal)
  have T10 := hid (T9.out.keep hal)
  have A10 := hid (arr.new W9 191 [.pointer (some ⟨p, 0, none⟩), .int .i64 (D : Int), .int .i64 (L.length : Int)])
  refine ⟨by rw [← HF.out]; exact HK.out _ B10.out, ?_⟩
  clear hal
  try go_frame
  refine sq_soft rfl (by kernel_rfl) (fun W hW => (by obtain ⟨hW1, hW2, hW3⟩ := hW; go_simp; try rfl)) ?_; go_frame
  refine sched_done ?_
  go_wp2
  go_ret2
  refine ⟨_, rfl, ⟨p, A10.out.cell 0 _ rfl, ?_, A10.out.cell 2 _ rfl, ?_⟩, below_all B7.out B10.out⟩
  · rw [← HD.out]; exact A10.out.cell 1 _ rfl
  · rw [← HD.out]; exact T10.out
set_option maxRecDepth 100000 in
set_option maxHeartbeats 1000000 in
theorem build_long (L : List (List UInt8)) (hL : 65536 < L.length) (v : Value) (w : World) (hv : strsAt w w.heap.size v L) : Calls Try.prog 87 #[v] w fun e w' => e = .returned (.tuple #[.pointer none, .int .i64 3]) ∧ Below w.heap.size w w' := by
  obtain ⟨⟨A, c, rfl, hlc, hc, hx⟩, -⟩ := hv
  have hl0 : (65536 : Int) < (L.length : Int) := by omega
  clear hx
  go_enter Try.func87, Try.ntmps87
  go_wp2
  go_ret2
  exact ⟨rfl, (Below.refl _ _).alloc (Nat.le_refl _) _⟩
theorem cell_set_other (w : World) (g off p i : Nat) (v : Value) (h : p ≠ g) : (w.setCell ⟨g, off, none⟩ v).cell? ⟨p, i, none⟩ = w.cell? ⟨p, i, none⟩ :=
  World.cell?_of_block (w := w) (a := ⟨p, i, none⟩) (Below.heap_setCell _ _ _ _ h)
/-- a store into a block that holds pointers leaves trees alone -/
theorem isT.other {w : World} {d : Nat → Nat → List UInt8} {g off : Nat} {v : Value} {q : Option Addr} (hg : w.cell? ⟨g, 0, none⟩ = some (.pointer q)) : ∀ {l k p : Nat}, isT w d l k p → isT (w.setCell ⟨g, off, none⟩ v) d l k p := by
  intro l
  induction l with
  | zero =>
    intro k p h
    have hne : p ≠ g := by
      rintro rfl
      have h' : w.cell? ⟨p, 0, none⟩ = _ := h
      rw [hg] at h'; cases h'
    show World.cell? _ _ = _
    rw [cell_set_other _ _ _ _ _ _ hne]; exact h
  | succ l ih =>
    rintro k p ⟨h0, p1, p2, h1, h2, t1, t2⟩
    have hne : p ≠ g := by
      rintro rfl
      rw [hg] at h0; cases h0
    exact ⟨by rw [cell_set_other _ _ _ _ _ _ hne]; exact h0, p1, p2, by rw [cell_set_other _ _ _ _ _ _ hne]; exact h1, by rw [cell_set_other _ _ _ _ _ _ hne]; exact h2, ih t1, ih t2⟩
/-- what the closure that makes anew has captured -/
structure WithEnv (w : World) (s : List UInt8) (K xb kb fb : Nat) : Prop where
  el : w.cell? ⟨xb, 0, none⟩ = some (.string ⟨s.toArray⟩)
  k : w.cell? ⟨kb, 0, none⟩ = some (.int .u64 (K : Int))
  fn : w.cell? ⟨fb, 0, none⟩ = some (.func (.func 143) #[] #[.pointer (some ⟨xb, 0, none⟩), .pointer (some ⟨kb, 0, none⟩), .pointer (some ⟨fb, 0, none⟩)])
theorem WithEnv.keep {w w' : World} {s : List UInt8} {K xb kb fb : Nat} (h : WithEnv w s K xb kb fb) (hb : Below w.heap.size w w') : WithEnv w' s K xb kb fb :=
  ⟨keep_cell hb h.el, keep_cell hb h.k, keep_cell hb h.fn⟩
theorem two_cells {w : World} {g o : Nat} {a b : Value} (h0 : w.cell? ⟨g, o, none⟩ = some a) (h1 : w.cell? ⟨g, o + 1, none⟩ = some b) : ∀ j v, [a, b][j]? = some v → w.cell? ⟨g, o + j, none⟩ = some v := by
  intro j v hj
  match j with
  | 0 => simp at hj; subst hj; exact h0
  | 1 => simp at hj; subst hj; exact h1
  | j + 2 => simp at hj
set_option maxRecDepth 100000 in
set_option maxHeartbeats 1000000 in
theorem anew_any (L : List (List UInt8)) (s : List UInt8) (hs : s.length ≤ 1000000) (i D K xb kb fb : Nat) (hD : D ≤ 16) (hi : i < L.length) (hL : L.length ≤ 2 ^ D) (hK : K = rv D i) : ∀ (l p : Nat) (w : World), l ≤ D → WithEnv w s K xb kb fb → isT w (td L D) l (K / 2 ^ l) p →
    Calls Try.prog 143 #[.pointer (some ⟨p, 0, none⟩), .int .i64 (l : Int), .pointer (some ⟨xb, 0, none⟩), .pointer (some ⟨kb, 0, none⟩), .pointer (some ⟨fb, 0, none⟩)] w (Parts w (td (L.set i s) D) l (K / 2 ^ l)) := by
  intro l
  induction l with
  | zero =>
    intro p w _ h _
    have h1 := h.el
    have HH := hid (td_on0 L s i D hi hL)
    rw [← hK] at HH
    clear h hi hL hK hD
    go_enter Try.func143, Try.ntmps143
    go_wp2_with fail
    refine (tleaf_any s hs w).mono ?_
    rintro e w1 ⟨r, rfl, hr, hb⟩
    go_wp2
    go_ret
    refine ⟨r, rfl, ?_, hb⟩
    show w1.cell? _ = _
    rw [Nat.pow_zero, Nat.div_one, HH.out]
    exact hr
  | succ l ih =>
    intro p w hl h hT
    have hK16 : K < 65536 := by rw [hK]; exact Nat.lt_of_lt_of_le (rv_lt D i) (pow_le16 hD)
    have hl16 : l ≤ 16 := by omega
    obtain ⟨x, hx⟩ : ∃ x, x = K / 2 ^ l := ⟨_, rfl⟩
    have hxI : (K : Int) / 2 ^ l = (x : Int) := by rw [hx]; exact div_pow_int K l
    have hx16 : x < 65536 := by rw [hx]; exact Nat.lt_of_le_of_lt (Nat.div_le_self _ _) hK16
    obtain ⟨y, hy⟩ : ∃ y, y = K / 2 ^ (l + 1) := ⟨_, rfl⟩
    have hyx : y = x / 2 := by rw [hy, hx, Nat.pow_succ, Nat.div_div_eq_div_mul]
    have hxl : x < 2 ^ (D - l) := by rw [hx, hK]; exact way_lt D i l (by omega)
    rw [← hy] at hT
    obtain ⟨h0, p1, p2, h1, h2, t1, t2⟩ := hT
    have H12 := hid (two_cells (o := 1) h1 h2)
    have hlw : IntKind.i64.wrap (l : Int) = (l : Int) := by rw [IntKind.wrap_i64]; omega
    have hlI : ((l + 1 : Nat) : Int) - 1 = (l : Int) := by omega
    have hl0 : ¬ ((l + 1 : Nat) : Int) = 0 := by omega
    obtain ⟨n, hn⟩ : ∃ n : Int, n = ((l + 1 : Nat) : Int) := ⟨_, rfl⟩
    have hpw := cell_lt h0
    rw [← hn] at hlI hl0 ⊢
    have hn17 : n ≤ 17 := by omega
    rw [← hy]
    have IH := hid (fun (q : Nat) (W : World) (hW : WithEnv W s K xb kb fb) (ht : isT W (td L D) l x q) => ih q W (by omega) hW (by rw [← hx]; exact ht))
    rw [← hx] at IH
    have HOFF := hid (fun (k q : Nat) (W : World) (hk : k < 2 ^ (D - l)) (hne : k ≠ x) (ht : isT W (td L D) l k q) => isT.off (s := s) hi hL (by omega) hk (by rw [← hK, ← hx]; exact hne) ht)
    have e2 : 2 ^ (D - l) = 2 * 2 ^ (D - (l + 1)) := by rw [← Nat.pow_succ']; congr 1; omega
    have hyl : 2 * y + 1 < 2 ^ (D - l) := by
      have : y < 2 ^ (D - (l + 1)) := by rw [hy, hK]; exact way_lt D i (l + 1) hl
      omega
    have hk1 := h.k
    have hkb := cell_lt hk1
    have E0 := hid h
    have T1 := hid t1
    have T2 := hid t2
    have HYL := hid hyl
    have HYX := hid hyx
    clear ih hx hy hi hL hK hD h t1 t2 h0 h1 h2 hn hl hxl e2 hyl hyx
    rcases Nat.mod_two_eq_zero_or_one x with hb | hb
    · have hbI : bits .and .u64 (x : Int) 1 = 0 := by rw [and_one x (by omega), hb]; rfl
      have hxy : x = 2 * y := by have := HYX.out; omega
      have HXY := hid hxy
      have TS : Hid (isT w (td L D) l x p1) := hid (by rw [hxy]; exact T1.out)
      have TO : Hid (isT w (td (L.set i s) D) l (2 * y + 1) p2) := hid (HOFF.out _ _ _ (by have := HYL.out; omega) (by omega) T2.out)
      clear hb hxy
      go_enter Try.func143, Try.ntmps143
      go_wp2_with (refine wpList_load_part rfl 184 _ rfl p 1 rfl [.pointer (some ⟨p1, 0, none⟩), .pointer (some ⟨p2, 0, none⟩)] _ H12.out Try.underlying184 rfl (by kernel_rfl) ?_)
      obtain ⟨G, hG⟩ : ∃ G, G = w.heap.size := ⟨_, rfl⟩
      rw [← hG]
      obtain ⟨W1, hW1⟩ : ∃ W1, W1 = w.alloc (.cells #[.pointer (some ⟨p1, 0, none⟩), .pointer (some ⟨p2, 0, none⟩)] 184) := ⟨_, rfl⟩
      have hb1 : Below w.heap.size w W1 := by rw [hW1]; exact (Below.refl _ _).alloc (Nat.le_refl _) _
      have ha1 : arr W1 G 184 [.pointer (some ⟨p1, 0, none⟩), .pointer (some ⟨p2, 0, none⟩)] := by rw [hW1]; exact arr.newAt _ _ [.pointer (some ⟨p1, 0, none⟩), .pointer (some ⟨p2, 0, none⟩)] _ hG
      rw [← hW1]
      have B1 := hid hb1
      have A1 := hid ha1
      have HG := hid hG
      have HK : Hid (∀ X, Below W1.heap.size W1 X → X.cell? ⟨fb, 0, none⟩ = some (.func (.func 143) #[] #[.pointer (some ⟨xb, 0, none⟩), .pointer (some ⟨kb, 0, none⟩), .pointer (some ⟨fb, 0, none⟩)]) ∧ arr X G 184 [.pointer (some ⟨p1, 0, none⟩), .pointer (some ⟨p2, 0, none⟩)]) := hid fun X hX => ⟨((E0.out.keep B1.out).keep hX).fn, A1.out.keep hX⟩
      clear hG hW1 hb1 ha1 hk1 hkb
      have B2 := hid (Below.refl W1.heap.size W1).drew
      refine wp_region_sq (fun X => X.cell? ⟨fb, 0, none⟩ = some (.func (.func 143) #[] #[.pointer (some ⟨xb, 0, none⟩), .pointer (some ⟨kb, 0, none⟩), .pointer (some ⟨fb, 0, none⟩)]) ∧ arr X G 184 [.pointer (some ⟨p1, 0, none⟩), .pointer (some ⟨p2, 0, none⟩)]) [(true, 0), (true, 1), (true, 2), (true, 3), (true, 4), (true, 5), (true, 6), (false, 7), (true, 8)] 9 rfl (by kernel_rfl) (by kernel_rfl) (by kernel_rfl) (by decide) rfl (by kernel_rfl) (HK.out _ B2.out) ?_
      generalize World.drew W1 = W2 at B2 ⊢
      iterate 7 (refine sq_soft rfl (by kernel_rfl) (fun W hW => (by obtain ⟨hW1, hW2⟩ := hW; have hW3 := hW2.cell 0 _ rfl; go_simp; try rfl)) ?_; go_frame)
      refine sq_op rfl (by kernel_rfl) ?_
      go_simp
      refine (IH.out p1 W2 ((E0.out.keep B1.out).keep B2.out) ((TS.out.keep B1.out).keep B2.out)).mono ?_
      rintro e W3 ⟨r, rfl, t3, b3⟩
      have B3 := hid (below_all B2.out b3)
      have T3 := hid t3
      refine ⟨HK.out _ B3.out, ?_⟩
      clear t3 b3
      try go_frame
      refine sq_soft rfl (by kernel_rfl) (fun W hW => (by obtain ⟨hW1, hW2⟩ := hW; go_simp; try rfl)) ?_; go_frame
      refine sched_done ?_
      have A3 := hid (HK.out _ B3.out).2
      have c0 := A3.out.cell 0 _ rfl
      have c1 := A3.out.cell 1 _ rfl
      have f0 := A3.out.free 0
      have f1 := A3.out.free 1
      have lg := A3.out.lt
      go_wp2_with fail
      have B4 : Hid (Below w.heap.size w (W3.setCell ⟨G, 0, none⟩ (.pointer (some ⟨r, 0, none⟩)))) := hid ((below_all B1.out B3.out).setCell (p := ⟨G, 0, none⟩) (by rw [HG.out]; exact Nat.le_refl _) _)
      have T4 := hid (T3.out.other (off := 0) (v := .pointer (some ⟨r, 0, none⟩)) c0)
      have T5 := hid (TO.out.keep B4.out)
      generalize W3.setCell ⟨G, 0, none⟩ (.pointer (some ⟨r, 0, none⟩)) = W4 at B4 T4 T5 ⊢
      clear c0 c1 f0 f1 lg
      refine (over_any _ _ (td_len _ D l _) (td_len _ D l _) r p2 W4 T4.out.top T5.out.top).mono ?_
      rintro e W5 ⟨q, rfl, d0, d1, d2, b5⟩
      have B5 := hid (below_all B4.out b5)
      have T6 := hid (T4.out.keep b5)
      have T7 := hid (T5.out.keep b5)
      have HC := hid (And.intro d0 (And.intro d1 d2))
      clear d0 d1 d2 b5
      go_wp2
      go_ret
      obtain ⟨d0, d1, d2⟩ := HC.out
      have t6 := T6.out
      rw [HXY.out] at t6 d0
      exact ⟨q, rfl, isT.mk d0 d1 d2 t6 T7.out, B5.out⟩
    · have hbI : bits .and .u64 (x : Int) 1 = 1 := by rw [and_one x (by omega), hb]; rfl
      have hxy : x = 2 * y + 1 := by have := HYX.out; omega
      have HXY := hid hxy
      have TS : Hid (isT w (td L D) l x p2) := hid (by rw [hxy]; exact T2.out)
      have TO : Hid (isT w (td (L.set i s) D) l (2 * y) p1) := hid (HOFF.out _ _ _ (by have := HYL.out; omega) (by omega) T1.out)
      clear hb hxy
      go_enter Try.func143, Try.ntmps143
      go_wp2_with (refine wpList_load_part rfl 184 _ rfl p 1 rfl [.pointer (some ⟨p1, 0, none⟩), .pointer (some ⟨p2, 0, none⟩)] _ H12.out Try.underlying184 rfl (by kernel_rfl) ?_)
      obtain ⟨G, hG⟩ : ∃ G, G = w.heap.size := ⟨_, rfl⟩
      rw [← hG]
      obtain ⟨W1, hW1⟩ : ∃ W1, W1 = w.alloc (.cells #[.pointer (some ⟨p1, 0, none⟩), .pointer (some ⟨p2, 0, none⟩)] 184) := ⟨_, rfl⟩
      have hb1 : Below w.heap.size w W1 := by rw [hW1]; exact (Below.refl _ _).alloc (Nat.le_refl _) _
      have ha1 : arr W1 G 184 [.pointer (some ⟨p1, 0, none⟩), .pointer (some ⟨p2, 0, none⟩)] := by rw [hW1]; exact arr.newAt _ _ [.pointer (some ⟨p1, 0, none⟩), .pointer (some ⟨p2, 0, none⟩)] _ hG
      rw [← hW1]
      have B1 := hid hb1
      have A1 := hid ha1
      have HG := hid hG
      have HK : Hid (∀ X, Below W1.heap.size W1 X → X.cell? ⟨fb, 0, none⟩ = some (.func (.func 143) #[] #[.pointer (some ⟨xb, 0, none⟩), .pointer (some ⟨kb, 0, none⟩), .pointer (some ⟨fb, 0, none⟩)]) ∧ arr X G 184 [.pointer (some ⟨p1, 0, none⟩), .pointer (some ⟨p2, 0, none⟩)]) := hid fun X hX => ⟨((E0.out.keep B1.out).keep hX).fn, A1.out.keep hX⟩
      clear hG hW1 hb1 ha1 hk1 hkb
      have B2 := hid (Below.refl W1.heap.size W1).drew
      refine wp_region_sq (fun X => X.cell? ⟨fb, 0, none⟩ = some (.func (.func 143) #[] #[.pointer (some ⟨xb, 0, none⟩), .pointer (some ⟨kb, 0, none⟩), .pointer (some ⟨fb, 0, none⟩)]) ∧ arr X G 184 [.pointer (some ⟨p1, 0, none⟩), .pointer (some ⟨p2, 0, none⟩)]) [(true, 0), (true, 1), (true, 2), (true, 3), (true, 4), (true, 5), (true, 6), (false, 7), (true, 8)] 9 rfl (by kernel_rfl) (by kernel_rfl) (by kernel_rfl) (by decide) rfl (by kernel_rfl) (HK.out _ B2.out) ?_
      generalize World.drew W1 = W2 at B2 ⊢
      iterate 7 (refine sq_soft rfl (by kernel_rfl) (fun W hW => (by obtain ⟨hW1, hW2⟩ := hW; have hW3 := hW2.cell 1 _ rfl; go_simp; try rfl)) ?_; go_frame)
      refine sq_op rfl (by kernel_rfl) ?_
      go_simp
      refine (IH.out p2 W2 ((E0.out.keep B1.out).keep B2.out) ((TS.out.keep B1.out).keep B2.out)).mono ?_
      rintro e W3 ⟨r, rfl, t3, b3⟩
      have B3 := hid (below_all B2.out b3)
      have T3 := hid t3
      refine ⟨HK.out _ B3.out, ?_⟩
      clear t3 b3
      try go_frame
      refine sq_soft rfl (by kernel_rfl) (fun W hW => (by obtain ⟨hW1, hW2⟩ := hW; go_simp; try rfl)) ?_; go_frame
      refine sched_done ?_
      have A3 := hid (HK.out _ B3.out).2
      have c0 := A3.out.cell 0 _ rfl
      have c1 := A3.out.cell 1 _ rfl
      have f0 := A3.out.free 0
      have f1 := A3.out.free 1
      have lg := A3.out.lt
      go_wp2_with fail
      have B4 : Hid (Below w.heap.size w (W3.setCell ⟨G, 1, none⟩ (.pointer (some ⟨r, 0, none⟩)))) := hid ((below_all B1.out B3.out).setCell (p := ⟨G, 1, none⟩) (by rw [HG.out]; exact Nat.le_refl _) _)
      have T4 := hid (T3.out.other (off := 1) (v := .pointer (some ⟨r, 0, none⟩)) c0)
      have T5 := hid (TO.out.keep B4.out)
      generalize W3.setCell ⟨G, 1, none⟩ (.pointer (some ⟨r, 0, none⟩)) = W4 at B4 T4 T5 ⊢
      clear c0 c1 f0 f1 lg
      refine (over_any _ _ (td_len _ D l _) (td_len _ D l _) p1 r W4 T5.out.top T4.out.top).mono ?_
      rintro e W5 ⟨q, rfl, d0, d1, d2, b5⟩
      have B5 := hid (below_all B4.out b5)
      have T6 := hid (T4.out.keep b5)
      have T7 := hid (T5.out.keep b5)
      have HC := hid (And.intro d0 (And.intro d1 d2))
      clear d0 d1 d2 b5
      go_wp2
      go_ret
      obtain ⟨d0, d1, d2⟩ := HC.out
      have t6 := T6.out
      rw [HXY.out] at t6 d0
      exact ⟨q, rfl, isT.mk d0 d1 d2 T7.out t6, B5.out⟩
theorem twith_nil (i : Int) (s : List UInt8) (w : World) : Calls Try.prog 97 #[.pointer none, .int .u64 i, .string ⟨s.toArray⟩] w fun e w' => e = .returned (.tuple #[.pointer none, .int .i64 1]) ∧ Below w.heap.size w w' := by
  go_enter Try.func97, Try.ntmps97
  go_wp2
  go_ret2
  exact ⟨rfl, (Below.refl _ _).alloc (Nat.le_refl _) _⟩
set_option maxRecDepth 100000 in
set_option maxHeartbeats 1000000 in
theorem twith_arg (g : Nat) (L : List (List UInt8)) (hL : L.length ≤ 65536) (i : Nat) (hi : L.length ≤ i) (hi2 : i < 18446744073709551616) (s : List UInt8) (w : World) (h : isTree w g L) :
    Calls Try.prog 97 #[.pointer (some ⟨g, 0, none⟩), .int .u64 (i : Int), .string ⟨s.toArray⟩] w fun e w' => e = .returned (.tuple #[.pointer none, .int .i64 2]) ∧ Below w.heap.size w w' := by
  obtain ⟨p, h1, h2, h3, h4⟩ := h
  have hg := cell_lt h1
  have hiI : (L.length : Int) ≤ (i : Int) := by omega
  have hLw : IntKind.u64.wrap (L.length : Int) = (L.length : Int) := by rw [IntKind.wrap_u64]; omega
  clear h1 h2 h4
  simp only [] at hg
  go_enter Try.func97, Try.ntmps97
  go_wp2
  go_ret2
  exact ⟨rfl, (Below.refl _ _).alloc (Nat.le_refl _) _⟩
set_option maxRecDepth 100000 in
set_option maxHeartbeats 1000000 in
theorem twith_any (g : Nat) (L : List (List UInt8)) (hL : L.length ≤ 65536) (i : Nat) (hi : i < L.length) (s : List UInt8) (hs : s.length ≤ 1000000) (w : World) (h : isTree w g L) :
    Calls Try.prog 97 #[.pointer (some ⟨g, 0, none⟩), .int .u64 (i : Int), .string ⟨s.toArray⟩] w (Built w (L.set i s)) := by
  obtain ⟨p, h1, h2, h3, h4⟩ := h
  have hg := cell_lt h1
  have hiI : ¬ (L.length : Int) ≤ (i : Int) := by omega
  have hLw : IntKind.u64.wrap (L.length : Int) = (L.length : Int) := by rw [IntKind.wrap_u64]; omega
  obtain ⟨D, hD⟩ : ∃ D, D = dp L.length := ⟨_, rfl⟩
  rw [← hD] at h2 h4
  have hD16 : D ≤ 16 := by rw [hD]; exact dp_16 _ hL
  have hLD : L.length ≤ 2 ^ D := by rw [hD]; exact dp_pos _ hL
  have T0 := hid h4
  have HD := hid hD
  have HLD := hid hLD
  have C0 := hid (And.intro h1 (And.intro h2 h3))
  obtain ⟨K, hK⟩ : ∃ K, K = rv D i := ⟨_, rfl⟩
  have HKK := hid hK
  have HIL := hid hi
  clear h4 hD hLD hi
  simp only [] at hg
  go_enter Try.func97, Try.ntmps97
  go_wp2_with fail
  refine (leaf_at i D hD16 (by have := HIL.out; have := HLD.out; omega) _).mono ?_
  rintro e w1 ⟨rfl, hw⟩
  subst w1
  rw [← hK]
  clear hK
  go_wp2_with fail
  obtain ⟨xb, hxb⟩ : ∃ xb, xb = w.heap.size := ⟨_, rfl⟩
  rw [← hxb]
  obtain ⟨kb, hkb⟩ : ∃ kb, kb = xb + 1 := ⟨_, rfl⟩
  rw [← hkb]
  obtain ⟨fb, hfb⟩ : ∃ fb, fb = kb + 1 := ⟨_, rfl⟩
  rw [← hfb]
  obtain ⟨F, hF⟩ : ∃ F : Value, F = .func (.func 143) #[] #[.pointer (some ⟨xb, 0, none⟩), .pointer (some ⟨kb, 0, none⟩), .pointer (some ⟨fb, 0, none⟩)] := ⟨_, rfl⟩
  obtain ⟨W, hW⟩ : ∃ W, W = ((w.alloc (.cells #[.string ⟨s.toArray⟩] 9)).alloc (.cells #[.int .u64 (K : Int)] 32)).alloc (.cells #[F] 196) := ⟨_, rfl⟩
  have hb7 : Below w.heap.size w W := by rw [hW]; exact (((Below.refl _ _).alloc (Nat.le_refl _) _).alloc (by simp) _).alloc (by simp; omega) _
  have hx7 : arr W xb 9 [.string ⟨s.toArray⟩] := by rw [hW]; exact ((arr.newAt w _ [.string ⟨s.toArray⟩] _ hxb).alloc _).alloc _
  have hk7 : arr W kb 32 [.int .u64 (K : Int)] := by rw [hW]; exact (arr.newAt _ _ [.int .u64 (K : Int)] _ (by simp; omega)).alloc _
  have hf7 : arr W fb 196 [F] := by rw [hW]; exact arr.newAt _ _ [F] _ (by simp; omega)
  have hE7 : WithEnv W s K xb kb fb := ⟨hx7.cell 0 _ rfl, hk7.cell 0 _ rfl, by rw [← hF]; exact hf7.cell 0 _ rfl⟩
  have B7 := hid hb7
  have E7 := hid hE7
  rw [← hF, ← hW]
  have HF := hid hF
  have HK : Hid (∀ X, Below W.heap.size W X → X.cell? ⟨fb, 0, none⟩ = some F ∧ X.cell? ⟨g, 0, none⟩ = some (.pointer (some ⟨p, 0, none⟩)) ∧ X.cell? ⟨g, 1, none⟩ = some (.int .i64 (D : Int)) ∧ X.cell? ⟨g, 2, none⟩ = some (.int .i64 (L.length : Int))) := hid fun X hX => ⟨by rw [HF.out]; exact (E7.out.keep hX).fn, keep_cell hX (keep_cell B7.out C0.out.1), keep_cell hX (keep_cell B7.out C0.out.2.1), keep_cell hX (keep_cell B7.out C0.out.2.2)⟩
  have HNW : Hid (∀ X, WithEnv X s K xb kb fb → isT X (td L D) D 0 p → Calls Try.prog 143 #[.pointer (some ⟨p, 0, none⟩), .int .i64 (D : Int), .pointer (some ⟨xb, 0, none⟩), .pointer (some ⟨kb, 0, none⟩), .pointer (some ⟨fb, 0, none⟩)] X (Parts X (td (L.set i s) D) D 0)) := hid fun X hX hT => by
    have e : K / 2 ^ D = 0 := Nat.div_eq_of_lt (by rw [HKK.out]; exact rv_lt D i)
    have := anew_any L s hs i D K xb kb fb hD16 HIL.out HLD.out HKK.out D p X (Nat.le_refl _) hX (by rw [e]; exact hT)
    rw [e] at this
    exact this
  clear hxb hkb hfb hF hW hb7 hx7 hk7 hf7 hE7 h1 h2 h3
  have B8 := hid (Below.refl W.heap.size W).drew
  refine wp_region_sq (fun X => X.cell? ⟨fb, 0, none⟩ = some F ∧ X.cell? ⟨g, 0, none⟩ = some (.pointer (some ⟨p, 0, none⟩)) ∧ X.cell? ⟨g, 1, none⟩ = some (.int .i64 (D : Int)) ∧ X.cell? ⟨g, 2, none⟩ = some (.int .i64 (L.length : Int))) [(true, 0), (true, 1), (true, 2), (true, 3), (true, 4), (true, 5), (true, 6), (true, 7), (true, 8), (true, 10), (true, 11), (true, 12), (true, 13), (true, 14), (true, 15), (true, 16), (true, 17), (false, 9), (true, 18), (false, 19), (true, 20)] 21 rfl (by kernel_rfl) (by kernel_rfl) (by kernel_rfl) (by decide) rfl (by kernel_rfl) (HK.out _ B8.out) ?_
  generalize World.drew W = W8 at B8 ⊢
  iterate 17 (refine sq_soft rfl (by kernel_rfl) (fun W hW => (by obtain ⟨hW1, hW2, hW3, hW4⟩ := hW; go_simp; try rfl)) ?_; go_frame)
  refine sq_op rfl (by kernel_rfl) ?_
  rw [HF.out]
  go_simp
  refine (HNW.out W8 (E7.out.keep B8.out) ((T0.out.keep B7.out).keep B8.out)).mono ?_
  rintro e W9 ⟨r, rfl, t9, b9⟩
  have B9 := hid (below_all B8.out b9)
  have T9 := hid t9
  refine ⟨by rw [← HF.out]; exact HK.out _ B9.out, ?_⟩
  clear t9 b9
  try go_frame
  refine sq_soft rfl (by kernel_rfl) (fun W hW => (by obtain ⟨hW1, hW2, hW3⟩ := hW; go_simp; try rfl)) ?_; go_frame
  refine sq_op rfl (by kernel_rfl) ?_
  go_simp
  have hal : Below W9.heap.size W9 (W9.alloc (.cells #[.pointer (some ⟨r, 0, none⟩), .int .i64 (D : Int), .int .i64 (L.length : Int)] 191 (0, 0))) := (Below.refl _ _).alloc (Nat.le_refl _) _
  have B10 := hid (below_all B9.out hal)
  have T10 := hid (T9.out.keep hal)
  have A10 := hid (arr.new W9 191 [.pointer (some ⟨r, 0, none⟩), .int .i64 (D : Int), .int .i64 (L.length : Int)])
  refine ⟨by rw [← HF.out]; exact HK.out _ B10.out, ?_⟩
  clear hal
  try go_frame
  refine sq_soft rfl (by kernel_rfl) (fun W hW => (by obtain ⟨hW1, hW2, hW3⟩ := hW; go_simp; try rfl)) ?_; go_frame
  refine sched_done ?_
  go_wp2
  go_ret2
  refine ⟨_, rfl, ⟨r, A10.out.cell 0 _ rfl, ?_, ?_, ?_⟩, below_all B7.out B10.out⟩
  · rw [dp_set, ← HD.out]; exact A10.out.cell 1 _ rfl
  · rw [List.length_set]; exact A10.out.cell 2 _ rfl
  · rw [dp_set, ← HD.out]; exact T10.out
end Go.Proofs.Ytcfohdkdppiekaa
