/- The stream's Bytes: contract. -/
import Derived.Test.YtcfohdkdppiekaaWDrawn
import Derived.Test.YtcfohdkdppiekaaRowOps
namespace Go.Proofs.Ytcfohdkdppiekaa
open Go Go.RowKit Go.Proofs
attribute [local go_sem] Oper.semAt_some
/-- what Bytes keeps between two rounds -/
structure BI (w : World) (g : Nat) (s : List UInt8) (k n m ob nb pb : Nat) (j : Nat) (W : World) : Prop where
  row : ∃ v, arr W ob 22 [v] ∧ own W m v (sbs s k j)
  grown : w.grownBy W (some g)
  box : Boxes W g n nb pb
section
variable {W W' : World} {g k base n : Nat} {s : List UInt8} {v : Value} {xs : List Value} {E b : Nat} {T : TypeId} {ys : List Value}
theorem isS.row (h : isS W g s k) (ho : W.ownsRow base E 1 v n xs) (hg : W.grownBy W' v.ownBlock) (hE : 163 ≠ E) : isS W' g s k := by
  obtain ⟨blk, m, hn, ha, hx⟩ := h
  exact ⟨blk, m, hn, arr_row ha ho hg hE, hx⟩
theorem isS.set (h : isS W g s k) (hne : b ≠ g) (off : Nat) (x : Value) : isS (W.setCell ⟨b, off, none⟩ x) g s k := by
  obtain ⟨blk, m, hn, ha, hx⟩ := h
  exact ⟨blk, m, hn, ha.other _ hne _, hx⟩
theorem isS.ne (h : isS W g s k) (ha : Go.Proofs.Ytcfohdkdppiekaa.arr W b T ys) (hT : T ≠ 163) : b ≠ g := by
  obtain ⟨blk, m, hn, hg, hx⟩ := h
  exact arr_ne ha hg hT
theorem Boxes.row {m nb pb : Nat} (h : Boxes W g m nb pb) (ho : W.ownsRow base E 1 v n xs) (hg : W.grownBy W' v.ownBlock) (h1 : 3 ≠ E) (h2 : 77 ≠ E) : Boxes W' g m nb pb := ⟨arr_row h.n ho hg h1, arr_row h.s ho hg h2⟩
theorem Boxes.set {m nb pb : Nat} (h : Boxes W g m nb pb) (ha : Go.Proofs.Ytcfohdkdppiekaa.arr W b T ys) (h1 : T ≠ 3) (h2 : T ≠ 77) (off : Nat) (x : Value) : Boxes (W.setCell ⟨b, off, none⟩ x) g m nb pb :=
  ⟨h.n.other _ (arr_ne ha h.n h1) _, h.s.other _ (arr_ne ha h.s h2) _⟩
theorem Boxes.keep {m nb pb : Nat} (h : Boxes W g m nb pb) (hb : Below W.heap.size W W') : Boxes W' g m nb pb := ⟨h.n.keep hb, h.s.keep hb⟩
end
set_option maxRecDepth 100000 in
set_option maxHeartbeats 2000000 in
theorem bytes_any (g : Nat) (s : List UInt8) (hs : s.length = 32) (k n : Nat) (hk : k < 1000000000) (hn : n ≤ 65536) (w : World) (h : isS w g s k) :
    Calls Try.prog 67 #[.pointer (some ⟨g, 0, none⟩), .int .i64 (n : Int)] w fun e w' => e = .returned (.tuple #[.string ⟨(sbs s k n).toArray⟩, .int .i64 0]) ∧ isS w' g s (k + n) ∧ w.grownBy w' (some g) := by
  obtain ⟨i0, hi, hz0, hz1, hz2⟩ := info_parts info_byte
  obtain ⟨N, hN⟩ : ∃ N : Int, N = (n : Int) := ⟨_, rfl⟩
  have h0 : 0 ≤ N := by omega
  have h6 : N ≤ 65536 := by omega
  have h6' : ¬ 65536 < N := by omega
  rw [← hN]
  have HN := hid hN
  have HS := hid hs
  have H := hid h
  clear hN hs h
  refine calls_of_marks Try.func67 rfl ?_
  simp only [Try.ntmps67, List.size_toArray, List.length_cons, List.length_nil, Nat.reduceAdd, Nat.reduceSub, Array.replicate_succ, Array.replicate_zero, List.push_toArray, List.append_toArray, List.nil_append, List.cons_append]
  go_wp2_with ((at_make; go_must (refine wpList_make_own w rfl _ _ 22 rfl w.heap.size 5 i0 (.int .u8 0) 1 Try.underlying22 hi hz0 hz1 .i64 .i64 N n rfl rfl HN.out (by rw [hz2]; omega) (by unfold maxLen; omega) (Nat.le_refl _) ?_); intro w1 how hgr))
  obtain ⟨w2, hw2⟩ : ∃ w2, w2 = w1.alloc (.cells #[.slice (some ⟨w.heap.size, 0, none⟩) 0 n] 22) := ⟨_, rfl⟩
  have hb1 : Below w.heap.size w w1 := (Below.refl _ _).grown hgr (Nat.le_refl _) (fun k hk => by cases hk)
  have hb12 : Below w1.heap.size w1 w2 := by rw [hw2]; exact (Below.refl _ _).alloc (Nat.le_refl _) _
  have a2 : arr w2 w1.heap.size 22 [.slice (some ⟨w.heap.size, 0, none⟩) 0 n] := by rw [hw2]; exact arr.new w1 22 _
  have o2 : own w2 w.heap.size (.slice (some ⟨w.heap.size, 0, none⟩) 0 n) [] := row_below how hb12
  have b2 := below_all hb1 hb12
  have hs1 := hb1.size
  rw [← hw2]
  have B2 := hid b2
  have A2 := hid a2
  have O2 := hid o2
  clear hw2 hb1 hb12 a2 o2 b2 how hgr
  rw [HN.out]
  refine (drawn_any g n w2).mono ?_
  rintro e w3 ⟨rfl, hbx, hb3, hsz⟩
  have A3 := hid (A2.out.keep hb3)
  have O3 := hid (row_below O2.out hb3)
  have B3 := hid (below_all B2.out hb3)
  have S3 := hid (H.out.keep B3.out)
  have BX := hid hbx
  have HSZ := hid hsz
  have HL := hid B2.out.size
  clear hbx hb3 hsz A2 O2 B2
  rw [← HN.out]
  go_wp2_with fail
  refine range_drawn g s HS.out k n (w2.heap.size + 1) w2.heap.size (by omega) rfl S3.out BX.out (BI w g s k n w.heap.size w1.heap.size (w2.heap.size + 1) w2.heap.size) ?_ ?_ ?_ ?round ?done
  · rintro j A B ⟨⟨v, av, ov⟩, hgr, hbx⟩ hst hg
    obtain ⟨xs, hxs⟩ := hst.arr
    exact ⟨⟨v, av.kept hg (arr_ne av hxs (by decide)), row_grown ov hg hxs (by decide)⟩, grown_tr hgr hg, hbx.grown hg (arr_ne hbx.n hxs (by decide)) (arr_ne hbx.s hxs (by decide))⟩
  · rintro j W l o o' hl ho hc ⟨⟨v, av, ov⟩, hgr, hbx⟩
    exact ⟨⟨v, av.bears ho hc, row_bears ho hc ov⟩, grown_put hgr l _ (Nat.le_trans B3.out.size hl), hbx.bears ho hc⟩
  · intro o1 o2
    have hb : Below w3.heap.size w3 ((w3.alloc o1).alloc o2) := ((Below.refl _ _).alloc (Nat.le_refl _) _).alloc (by simp) _
    exact ⟨⟨_, A3.out.keep hb, row_below O3.out hb⟩, grown_then (grown_below B3.out) hb, BX.out.keep hb⟩
  case round =>
    intro l pre x W K hK
    gi_wp2
    refine hK _ _ rfl fun W2 hd => ?_
    obtain ⟨⟨v, av, ov⟩, hgr, hbx⟩ := hd.own
    have cv := av.cell 0 _ rfl
    have lv := av.lt
    have fv := av.free 0
    have HD := hid hd
    clear hd
    have hj1 : pre.length < 65536 := by have := HD.out.len; omega
    have hal : Below W2.heap.size W2 (W2.alloc (.cells #[.int .u8 (x.toNat : Int)] 5)) := (Below.refl _ _).alloc (Nat.le_refl _) _
    have oa := row_below ov hal
    have na := arr.new W2 5 [.int .u8 (x.toNat : Int)]
    have va := av.keep hal
    have hbase : w.heap.size ≤ (W2.alloc (.cells #[.int .u8 (x.toNat : Int)] 5)).heap.size := Nat.le_trans hgr.size hal.size
    have hlen : (sbs s k pre.length).length = pre.length := sbs_len _ _ _
    have HLN := hid hlen
    have HGR := hid hgr
    have HBX := hid hbx
    have HOA := hid oa
    have HVA := hid va
    have HBS := hid hbase
    have HNA := hid na
    have HAL := hid hal
    have HOV := hid ov
    have HAV := hid av
    clear hlen hgr hbx oa va hbase na ov av hal
    obtain ⟨A0, c00, rfl⟩ := row_form HOV.out
    gi_wp2_with (refine wpListIn_append_row (b := W2.heap.size) rfl _ _ 22 rfl i0 (.int .u8 0) 1 Try.underlying22 hi hz0 hz1 hz2 rfl rfl HOA.out [.int .u8 (x.toNat : Int)] rfl HNA.out (by intro u hu; obtain rfl := List.mem_singleton.1 hu; rfl) (by rw [HLN.out]; simp; omega) (by decide) HBS.out ?_; intro v' w' ho' hg'; obtain ⟨A', c', rfl⟩ := row_form ho'; have a9 := arr_row HVA.out HOA.out hg' (by decide); have l9 := a9.lt; have f9 := a9.free 0; have c9 := a9.cell 0 _ rfl; have HA9 := hid a9; have HO9 := hid ho'; have HG9 := hid hg'; clear a9 ho' hg')
    have st1 := ((HD.out.st.keep HAL.out).row HOA.out HG9.out (by decide))
    have bx1 := ((HBX.out.keep HAL.out).row HOA.out HG9.out (by decide) (by decide))
    have hne := st1.ne HA9.out (by decide)
    have hxs : bcs (sbs s k (pre.length + 1)) = bcs (sbs s k pre.length) ++ [.int .u8 (x.toNat : Int)] := by
      rw [sbs_succ, bcs_app, HD.out.val]; rfl
    have e1 : (pre ++ [x]).length = pre.length + 1 := by simp
    have st2 := st1.set hne 0 (.slice A' ((sbs s k pre.length).length + 1) c')
    have bx2 := bx1.set HA9.out (by decide) (by decide) 0 (.slice A' ((sbs s k pre.length).length + 1) c')
    refine ⟨((keeps_below HAL.out).trans (keeps_row HOA.out HG9.out)).trans (KeepsOthers.setCell _ _ _), ?_, ?_, ?_, ?_, ?_⟩
    · rw [e1, sbs_succ, ← HD.out.eq, HD.out.val]
    · rw [e1]; have := HD.out.len; omega
    · rw [e1]
      refine ⟨⟨_, HA9.out.set 0 _, ?_⟩, ?_, bx2⟩
      · exact row_cast (row_set HO9.out HA9.out (by decide) 0 _) (by rw [sbs_len, sbs_len]; rfl) hxs.symm
      · exact grown_setNew (grown_new (grown_then HGR.out HAL.out) HG9.out (fun k hk => (row_lt HOA.out k hk).1)) 0 _ hs1
    · rw [e1]; exact st2
    · exact bx2
  case done =>
    intro D W hD hI hSt hdf
    obtain ⟨⟨v, av, ov⟩, hgr, hbx⟩ := hI
    have cv := av.cell 0 _ rfl
    have lv := av.lt
    have HOV := hid ov
    have HGR := hid hgr
    have HST := hid hSt
    have HDF := hid hdf
    have HDD := hid hD
    clear ov hgr hbx hSt hdf hD av
    obtain ⟨A0, c00, rfl⟩ := row_form HOV.out
    go_wp2_with (refine wpList_text rfl _ rfl (base := w.heap.size) _ (sbs s k n) rfl HOV.out ?_)
    have hwd : w.heap.size ≤ D := Nat.le_trans B3.out.size HDD.out
    refine marks_ret rfl HDF.out (results_tmp2 rfl _ _ _) ⟨rfl, HST.out.bears HDF.out rfl, grown_put HGR.out D _ hwd⟩
end Go.Proofs.Ytcfohdkdppiekaa
