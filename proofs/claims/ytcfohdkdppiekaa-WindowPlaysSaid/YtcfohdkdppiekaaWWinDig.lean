/- window's Digest: contract. -/
import Derived.Test.YtcfohdkdppiekaaWWinFind
import Derived.Test.YtcfohdkdppiekaaWHashD
import Derived.Test.YtcfohdkdppiekaaWNum
import Derived.Test.YtcfohdkdppiekaaAppS
import Derived.Test.YtcfohdkdppiekaaRowOps
namespace Go.Proofs.Ytcfohdkdppiekaa
open Go Go.RowKit Go.Proofs
attribute [local go_sem] Oper.semAt_some
/-- what has been gathered -/
def wpre (n : Nat) (pre : List Iv) : List (List UInt8) := b8 n :: (pre.map ivParts).flatten
theorem wpre_next (n : Nat) (pre : List Iv) (x : Iv) : wpre n (pre ++ [x]) = wpre n pre ++ [b8 x.1, b8 x.2.1, x.2.2] := by simp [wpre, ivParts]
theorem wpre_len (n : Nat) (pre : List Iv) : (wpre n pre).length = 1 + 3 * pre.length := by
  have e : ∀ q : List Iv, (q.map ivParts).flatten.length = 3 * q.length := by
    intro q
    induction q with
    | nil => rfl
    | cons x q ih => rw [List.map_cons, List.flatten_cons, List.length_append, ih]; simp [ivParts]; omega
  unfold wpre
  rw [List.length_cons, e]; omega
structure DI (w : World) (L : List Iv) (m3 : Nat) (pre : List Iv) (W : World) : Prop where
  row : ∃ v, arr W m3 26 [v] ∧ ownS W w.heap.size v (wpre L.length pre)
  below : Below w.heap.size w W
theorem row_keep {w w' : World} {base : Nat} {v : Value} {L : List (List UInt8)} (h : ownS w base v L) (hb : Below w.heap.size w w') : ownS w' base v L := row_below h hb
theorem DI.keep {w W W' : World} {L : List Iv} {m3 : Nat} {pre : List Iv} (h : DI w L m3 pre W) (hb : Below W.heap.size W W') : DI w L m3 pre W' := by
  obtain ⟨⟨v, h1, h2⟩, h3⟩ := h
  exact ⟨⟨v, h1.keep hb, row_below h2 hb⟩, below_all h3 hb⟩
theorem DI.bears {w W : World} {L : List Iv} {m3 l : Nat} {pre : List Iv} {o o' : Obj} (h : DI w L m3 pre W) (hl : w.heap.size ≤ l) (ho : W.heap[l]? = some o) (hc : o.isCells = false) : DI w L m3 pre (W.putObj l o') := by
  obtain ⟨⟨v, h1, h2⟩, h3⟩ := h
  exact ⟨⟨v, arr_bears ho hc h1, row_bears ho hc h2⟩, below_put h3 _ _ hl h3.size⟩
theorem isW.row {W W' : World} {g most base E n : Nat} {L : List Iv} {v : Value} {xs : List Value} (h : isW W g most L) (ho : W.ownsRow base E 1 v n xs) (hg : W.grownBy W' v.ownBlock) (hT : 156 ≠ E) : isW W' g most L := by
  obtain ⟨cs, p, h1, h2, h3, h4, h5, h6⟩ := h
  exact ⟨cs, p, h1, h2, h3, h4, h5, arr_row h6 ho hg hT⟩
set_option maxRecDepth 100000 in
set_option maxHeartbeats 2000000 in
theorem digest_any (g most : Nat) (L : List Iv) (w : World) (h : isW w g most L) :
    Calls Try.prog 61 #[.pointer (some ⟨g, 0, none⟩)] w fun e w' => e = .returned (.string ⟨(wdig L).toArray⟩) ∧ Below w.heap.size w w' := by
  have hl32 : L.length ≤ 32 := by
    obtain ⟨cs, p, h1, h2, h3, h4, h5, h6⟩ := h
    omega
  have hok : ∀ x ∈ L, ivOk x.1 x.2.1 x.2.2 := by
    obtain ⟨cs, p, h1, h2, h3, h4, h5, h6⟩ := h
    exact h5.ok
  have cn : w.cell? ⟨g, 98 - 1, none⟩ = some (.int .i64 (L.length : Int)) := by
    obtain ⟨cs, p, h1, h2, h3, h4, h5, h6⟩ := h
    exact (win_cell h1.len h6).2.1
  have lg := h.lt
  have H := hid h
  have HOK := hid hok
  clear h hok
  refine calls_of_marks Try.func61 rfl ?_
  simp only [Try.ntmps61, List.size_toArray, List.length_cons, List.length_nil, Nat.reduceAdd, Nat.reduceSub, Array.replicate_succ, Array.replicate_zero, List.push_toArray, List.append_toArray, List.nil_append, List.cons_append]
  go_wp2_with fail
  refine (num_nat L.length (by omega) w).mono ?_
  rintro e w1 ⟨rfl, hb1⟩
  obtain ⟨w2, hw2⟩ : ∃ w2, w2 = (w1.alloc (.cells #[.string ⟨(b8 L.length).toArray⟩] 9)).alloc (.cells #[.slice (some ⟨w1.heap.size, 0, none⟩) 1 1] 26) := ⟨_, rfl⟩
  have hd2 : DI w L (w1.heap.size + 1) [] w2 := by
    rw [hw2]
    refine ⟨⟨_, arr.newAt _ _ [_] _ (by simp), row_below (ownS.lit w1 w.heap.size [b8 L.length] hb1.size (by simp)) ((Below.refl _ _).alloc (Nat.le_refl _) _)⟩, (hb1.alloc hb1.size _).alloc (by have := hb1.size; simp; omega) _⟩
  have hbb : Below w1.heap.size w1 w2 := by rw [hw2]; exact ((Below.refl _ _).alloc (Nat.le_refl _) _).alloc (by simp) _
  have H2 := hid (H.out.keep (below_all hb1 hbb))
  obtain ⟨m3, hm3⟩ : ∃ m3, m3 = w1.heap.size + 1 := ⟨_, rfl⟩
  go_wp2_with fail
  rw [← hw2]
  rw [← hm3] at hd2 ⊢
  have hm3' : w.heap.size ≤ m3 := by have := hb1.size; omega
  have hm4 : m3 < w2.heap.size := by
    rw [hw2, hm3]; simp
  have HD2 := hid hd2
  have HM := hid hm3'
  have HM4 := hid hm4
  clear hw2 hd2 hbb hb1 hm3 hm3' hm4 cn
  refine (all_any g w2).mono ?_
  rintro e w3 ⟨rfl, ab, hb⟩
  have H3 := H2.out.keep hb
  have D3 := HD2.out.keep hb
  have hsz := D3.below.size
  clear hb
  go_wp2_with fail
  refine range_win g most L w2.heap.size rfl H3 ab (fun pre W => DI w L m3 pre W ∧ w3.heap.size ≤ W.heap.size) (fun _ _ _ => False)
    (fun x bx => { tmps := #[.pointer (some ⟨g, 0, none⟩), undef, .string ⟨#[]⟩, .pointer (some ⟨m3, 0, none⟩), .pointer (some ⟨bx, 0, none⟩), .pointer (some ⟨g, 0, none⟩), .bool false, .pointer (some ⟨g, 0, none⟩), .pointer (some ⟨g, 0, none⟩), .pointer (some ⟨g, 97, none⟩), .int .i64 (L.length : Int), .int .u64 (L.length : Int), .string ⟨(b8 L.length).toArray⟩,
      .slice (some ⟨w1.heap.size, 0, none⟩) 1 1, .pointer (some ⟨g, 0, none⟩), .func (.func 155) #[] #[.pointer (some ⟨w2.heap.size, 0, none⟩)], .agg (ivCells x).toArray, undef, undef, undef, undef, undef, undef, undef, undef, undef, undef, undef, undef, undef, undef, undef], defers := [] }) ?_ ?_ ?_ ⟨D3, Nat.le_refl _⟩ (fun _ _ h => h.2) ?assign ?body ?done ?stop
  · rintro pre A B ⟨h1, h3⟩ hb
    exact ⟨h1.keep hb, Nat.le_trans h3 hb.size⟩
  · rintro pre W l o o' hl ho hc ⟨h1, h3⟩
    exact ⟨h1.bears (Nat.le_trans hsz hl) ho hc, by simpa using h3⟩
  · rintro c pre W l o o' hl ho hc h
    exact h
  case assign =>
    intro l x W K hK
    unfold ivCells
    gi_wp2
    exact hK _ ((Below.refl _ _).alloc (Nat.le_refl _) _) (arr.new W _ _)
  case body =>
    intro l pre x bx W hal hx hbx hlt
    obtain ⟨⟨⟨v, av, ov⟩, hbel⟩, hs⟩ := hal.own
    obtain ⟨A, c, rfl⟩ := row_form ov
    have hxk := HOK.out x (List.mem_of_getElem? hx)
    obtain ⟨k1, k2, k3, k4⟩ := hxk
    have HAL := hid hal
    have AV := hid av
    have OV := hid ov
    have BX := hid hbx
    have BL := hid hbel
    have HX := hid hx
    have HS := hid hs
    clear hal av ov hbx hbel hx hs
    gi_wp2_with fail
    refine wpIn_region_sched (some l) (fun W' => arr W' bx 153 (ivCells x) ∧ arr W' m3 26 [.slice A (wpre L.length pre).length c]) [(true, 0), (true, 1), (true, 2), (true, 3), (true, 5), (true, 6), (true, 7), (true, 9), (true, 10), (false, 4), (false, 8), (false, 11)] 12 rfl (by kernel_rfl) (by kernel_rfl) (by kernel_rfl) (by decide) rfl (by kernel_rfl) (by kernel_rfl) ⟨BX.out.drew, AV.out.drew⟩ ?_
    have B3 := hid (Below.refl W.heap.size W).drew
    have BX3 := BX.out.drew
    have AV3 := AV.out.drew
    obtain ⟨W3, hW3⟩ : ∃ W3, W3 = W.drew := ⟨_, rfl⟩
    rw [← hW3] at B3 BX3 AV3 ⊢
    clear hW3
    refine sq_soft rfl (by kernel_rfl) (fun W hW => (by obtain ⟨hW1, hW2⟩ := hW; have x0 := hW1.cell 0 _ rfl; have x1 := hW1.cell 1 _ rfl; have x2 := hW1.cell 2 _ rfl; have lx := hW1.lt; have y0 := hW2.cell 0 _ rfl; have ly := hW2.lt; clear hW1 hW2; go_simp; try rfl)) ?_; go_frame
    refine sq_soft rfl (by kernel_rfl) (fun W hW => (by obtain ⟨hW1, hW2⟩ := hW; have x0 := hW1.cell 0 _ rfl; have x1 := hW1.cell 1 _ rfl; have x2 := hW1.cell 2 _ rfl; have lx := hW1.lt; have y0 := hW2.cell 0 _ rfl; have ly := hW2.lt; clear hW1 hW2; go_simp; try rfl)) ?_; go_frame
    refine sq_soft rfl (by kernel_rfl) (fun W hW => (by obtain ⟨hW1, hW2⟩ := hW; have x0 := hW1.cell 0 _ rfl; have x1 := hW1.cell 1 _ rfl; have x2 := hW1.cell 2 _ rfl; have lx := hW1.lt; have y0 := hW2.cell 0 _ rfl; have ly := hW2.lt; clear hW1 hW2; go_simp; try rfl)) ?_; go_frame
    refine sq_soft rfl (by kernel_rfl) (fun W hW => (by obtain ⟨hW1, hW2⟩ := hW; have x0 := hW1.cell 0 _ rfl; have x1 := hW1.cell 1 _ rfl; have x2 := hW1.cell 2 _ rfl; have lx := hW1.lt; have y0 := hW2.cell 0 _ rfl; have ly := hW2.lt; clear hW1 hW2; go_simp; try rfl)) ?_; go_frame
    refine sq_soft rfl (by kernel_rfl) (fun W hW => (by obtain ⟨hW1, hW2⟩ := hW; have x0 := hW1.cell 0 _ rfl; have x1 := hW1.cell 1 _ rfl; have x2 := hW1.cell 2 _ rfl; have lx := hW1.lt; have y0 := hW2.cell 0 _ rfl; have ly := hW2.lt; clear hW1 hW2; go_simp; try rfl)) ?_; go_frame
    refine sq_soft rfl (by kernel_rfl) (fun W hW => (by obtain ⟨hW1, hW2⟩ := hW; have x0 := hW1.cell 0 _ rfl; have x1 := hW1.cell 1 _ rfl; have x2 := hW1.cell 2 _ rfl; have lx := hW1.lt; have y0 := hW2.cell 0 _ rfl; have ly := hW2.lt; clear hW1 hW2; go_simp; try rfl)) ?_; go_frame
    refine sq_soft rfl (by kernel_rfl) (fun W hW => (by obtain ⟨hW1, hW2⟩ := hW; have x0 := hW1.cell 0 _ rfl; have x1 := hW1.cell 1 _ rfl; have x2 := hW1.cell 2 _ rfl; have lx := hW1.lt; have y0 := hW2.cell 0 _ rfl; have ly := hW2.lt; clear hW1 hW2; go_simp; try rfl)) ?_; go_frame
    refine sq_soft rfl (by kernel_rfl) (fun W hW => (by obtain ⟨hW1, hW2⟩ := hW; have x0 := hW1.cell 0 _ rfl; have x1 := hW1.cell 1 _ rfl; have x2 := hW1.cell 2 _ rfl; have lx := hW1.lt; have y0 := hW2.cell 0 _ rfl; have ly := hW2.lt; clear hW1 hW2; go_simp; try rfl)) ?_; go_frame
    refine sq_soft rfl (by kernel_rfl) (fun W hW => (by obtain ⟨hW1, hW2⟩ := hW; have x0 := hW1.cell 0 _ rfl; have x1 := hW1.cell 1 _ rfl; have x2 := hW1.cell 2 _ rfl; have lx := hW1.lt; have y0 := hW2.cell 0 _ rfl; have ly := hW2.lt; clear hW1 hW2; go_simp; try rfl)) ?_; go_frame
    refine sq_op rfl (by kernel_rfl) ?_
    go_simp
    refine (num_nat x.1 (by omega) W3).mono ?_
    rintro e W4 ⟨rfl, hb4⟩
    have BX4 := BX3.keep hb4
    have AV4 := AV3.keep hb4
    have B4 := hid (below_all B3.out hb4)
    refine ⟨⟨BX4, AV4⟩, ?_⟩
    clear hb4 BX3 AV3 B3
    try go_frame
    refine sq_op rfl (by kernel_rfl) ?_
    go_simp
    refine (num_nat x.2.1 (by omega) W4).mono ?_
    rintro e W5 ⟨rfl, hb5⟩
    have BX5 := BX4.keep hb5
    have AV5 := AV4.keep hb5
    have B5 := hid (below_all B4.out hb5)
    refine ⟨⟨BX5, AV5⟩, ?_⟩
    clear hb5 BX4 AV4 B4
    try go_frame
    refine sq_op rfl (by kernel_rfl) ?_
    go_simp
    obtain ⟨W6, hW6⟩ : ∃ W6, W6 = W5.alloc (.cells #[.string ⟨(b8 x.1).toArray⟩, .string ⟨(b8 x.2.1).toArray⟩, .string ⟨x.2.2.toArray⟩] 9) := ⟨_, rfl⟩
    have hal6 : Below W5.heap.size W5 W6 := by rw [hW6]; exact (Below.refl _ _).alloc (Nat.le_refl _) _
    have BX6 := BX5.keep hal6
    have AV6 := hid (AV5.keep hal6)
    have N6 : arr W6 W5.heap.size 9 (scs [b8 x.1, b8 x.2.1, x.2.2]) := by rw [hW6]; exact arr.new W5 _ _
    have B6 := hid (below_all B5.out hal6)
    rw [← hW6]
    refine ⟨⟨BX6, AV6.out⟩, ?_⟩
    clear hW6 hal6 BX5 AV5 B5 BX6
    have NN := hid N6
    clear N6
    have OV6 := hid (row_below OV.out B6.out)
    have hw6 := hid (Nat.le_trans BL.out.size B6.out.size)
    obtain ⟨i0, hi, hz0, hz1, hz2⟩ := info_parts info_str
    have hlp := hid (wpre_len L.length pre)
    have hpl : pre.length ≤ 32 := by have := HAL.out.len; omega
    try go_frame
    refine sched_done ?_
    gi_wp2_with (refine wpListIn_append_row (b := W5.heap.size) (l := l) rfl _ _ 26 rfl i0 (.string ByteArray.empty) 16 Try.underlying26 hi hz0 hz1 hz2 rfl rfl OV6.out (scs [b8 x.1, b8 x.2.1, x.2.2]) rfl NN.out (scs_one _) (by have h := hlp.out; rw [h, scs_len]; simp; omega) (by decide) hw6.out ?_; intro v' w' ho' hg'; obtain ⟨A', c', rfl⟩ := row_form ho'; have a9 := arr_row AV6.out OV6.out hg' (by decide); have l9 := a9.lt; have f9 := a9.free 0; have c9 := a9.cell 0 _ rfl; have HA9 := hid a9; have HO9 := hid ho'; have HG9 := hid hg'; clear a9 ho' hg')
    have hx := HX.out
    have hnx := pre_next HAL.out.eq hx
    have hg3 : m3 ≠ g := by have := HM.out; omega
    have h23 : m3 ≠ w2.heap.size := by have := HM4.out; omega
    have hbw := below_all BL.out B6.out
    refine ⟨((keeps_below B6.out).trans (keeps_row OV6.out HG9.out)).trans (KeepsOthers.setCell _ _ _), hnx.1, hnx.2, ((HAL.out.win.keep B6.out).row OV6.out HG9.out (by decide)).set hg3 _ _, (arr_row (HAL.out.box.keep B6.out) OV6.out HG9.out (by decide)).other _ h23 _, ⟨⟨_, HA9.out.set 0 _, ?_⟩, ?_⟩, ?_⟩
    · exact row_cast (row_set HO9.out HA9.out (by decide) 0 _) (by rw [wpre_next, List.length_append]; rfl) (by rw [wpre_next, scs_app])
    · exact (hbw.grown HG9.out hw6.out (fun k hk => (row_lt OV6.out k hk).1)).setCell (p := ⟨m3, 0, none⟩) HM.out _
    · have h1 := B6.out.size
      have h2 := HG9.out.size
      have h3 := HS.out
      simp; omega
  case done =>
    rintro D W hD ⟨⟨⟨v, av, ov⟩, hbel⟩, hs⟩ hW hdf
    have hdD : w.heap.size ≤ D := Nat.le_trans hsz hD
    obtain ⟨A, c, rfl⟩ := row_form ov
    have y0 := av.cell 0 _ rfl
    have ly := av.lt
    have hlp := wpre_len L.length L
    have htx : ∀ s ∈ wpre L.length L, s.length ≤ 32 := by
      intro s hs
      rcases List.mem_cons.1 hs with rfl | hs
      · rw [b8_len]; omega
      · obtain ⟨p, hp, hsp⟩ := List.mem_flatten.1 hs
        obtain ⟨x, hx, rfl⟩ := List.mem_map.1 hp
        have hk := (HOK.out x hx).1
        simp only [ivParts, List.mem_cons, List.not_mem_nil, or_false] at hsp
        rcases hsp with rfl | rfl | rfl
        · rw [b8_len]; omega
        · rw [b8_len]; omega
        · omega
    have hfp := fparts_len (wpre L.length L) 32 htx
    have hst := ownS.strs ov (fun s hs => by have := htx s hs; omega)
    have hcall := hash_any tWindow (wpre L.length L) _ W hst (by decide) (by rw [hlp] at hfp; omega) (fun s hs => by have := htx s hs; omega)
    have HC := hid hcall
    have HDF := hid hdf
    have HB := hid hbel
    have HDD := hid hdD
    clear hcall hst hfp htx hlp hdf hbel hdD hs hW av ov
    go_wp2_with fail
    refine HC.out.mono ?_
    rintro e W9 ⟨rfl, hb9⟩
    have D9 := (keeps_below hb9).same _ _ HDF.out rfl
    have B9 := below_all HB.out hb9
    clear hb9 HC
    go_wp2
    exact marks_ret rfl D9 (results_tmp rfl _ _ _) ⟨rfl, below_put B9 _ _ HDD.out B9.size⟩
  case stop =>
    rintro D c pre W hD h _
    exact h.elim
end Go.Proofs.Ytcfohdkdppiekaa
