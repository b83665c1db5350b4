/- The stream's Uint64: contract. -/
import Derived.Test.YtcfohdkdppiekaaWBytes
import Derived.Laws.Bits64b
import Derived.Laws.EntriesVeiled
namespace Go.Proofs.Ytcfohdkdppiekaa
open Go Go.RowKit Go.Proofs
attribute [local go_sem] Oper.semAt_some
/-- what Uint64 keeps between two rounds -/
structure UI (w : World) (g : Nat) (s : List UInt8) (k n ob fb nb pb : Nat) (j : Nat) (W : World) : Prop where
  num : arr W ob 32 [.int .u64 (numb (sbs s k j) : Int)]
  fn : arr W fb 167 [.func (.func 122) #[] #[.pointer (some ⟨ob, 0, none⟩)]]
  grown : w.grownBy W (some g)
  box : Boxes W g n nb pb
theorem or_byte (n b : Nat) (hn : n < 18446744073709551616) (hb : b < 2 ^ 8) : bits BinOp.or IntKind.u64 (IntKind.u64.wrap ((n : Int) * 256)) (b : Int) = (((n * 256 + b) % 18446744073709551616 : Nat) : Int) := by
  have e1 : IntKind.u64.wrap ((n : Int) * 256) = ((n * 256 % 18446744073709551616 : Nat) : Int) := by rw [IntKind.wrap_u64]; omega
  have e2 : n * 256 % 18446744073709551616 = 2 ^ 8 * (n % 72057594037927936) := by omega
  rw [e1, bits_or_u64_nat _ _ (Nat.mod_lt _ (by decide)) (by omega), e2, ← Nat.two_pow_add_eq_or_of_lt hb]
  omega
theorem numb_snoc (l : List UInt8) (b : UInt8) : numb (l ++ [b]) = (numb l * 256 + b.toNat) % 18446744073709551616 := by
  unfold numb; rw [List.foldl_append]; rfl
set_option maxRecDepth 100000 in
theorem behind_any (b : UInt8) (n : Nat) (hn : n < 18446744073709551616) (ob : Nat) (w : World) (h : arr w ob 32 [.int .u64 (n : Int)]) :
    Calls Try.prog 122 #[.int .u8 (b.toNat : Int), .pointer (some ⟨ob, 0, none⟩)] w fun e w' => e = .returned (.tuple #[]) ∧ w' = w.setCell ⟨ob, 0, none⟩ (.int .u64 (((n * 256 + b.toNat) % 18446744073709551616 : Nat) : Int)) := by
  have c0 := h.cell 0 _ rfl
  have l0 := h.lt
  have f0 := h.free 0
  have hb := b.toNat_lt
  clear h
  go_enter Try.func122, Try.ntmps122
  go_wp2
  go_end0
  refine ⟨rfl, congrArg (fun v => w.setCell ⟨ob, 0, none⟩ (.int .u64 v)) ?_⟩
  exact or_byte n b.toNat hn hb
set_option maxRecDepth 100000 in
set_option maxHeartbeats 2000000 in
theorem uint64_any (g : Nat) (s : List UInt8) (hs : s.length = 32) (k : Nat) (hk : k < 1000000000) (w : World) (h : isS w g s k) :
    Calls Try.prog 70 #[.pointer (some ⟨g, 0, none⟩)] w fun e w' => e = .returned (.int .u64 (su s k : Int)) ∧ isS w' g s (k + 8) ∧ w.grownBy w' (some g) := by
  have HS := hid hs
  have H := hid h
  clear hs h
  refine calls_of_marks Try.func70 rfl ?_
  simp only [Try.ntmps70, List.size_toArray, List.length_cons, List.length_nil, Nat.reduceAdd, Nat.reduceSub, Array.replicate_succ, Array.replicate_zero, List.push_toArray, List.append_toArray, List.nil_append, List.cons_append]
  go_wp2_with fail
  obtain ⟨w2, hw2⟩ : ∃ w2, w2 = (w.alloc (.cells #[.int .u64 0] 32)).alloc (.cells #[.func (.func 122) #[] #[.pointer (some ⟨w.heap.size, 0, none⟩)]] 167) := ⟨_, rfl⟩
  have b2 : Below w.heap.size w w2 := by rw [hw2]; exact ((Below.refl _ _).alloc (Nat.le_refl _) _).alloc (by simp) _
  have a2 : arr w2 w.heap.size 32 [.int .u64 ((numb (sbs s k 0) : Nat) : Int)] := by rw [hw2]; exact (arr.new w 32 [.int .u64 0]).alloc _
  have f2 : arr w2 (w.heap.size + 1) 167 [.func (.func 122) #[] #[.pointer (some ⟨w.heap.size, 0, none⟩)]] := by rw [hw2]; exact arr.newAt _ 167 [.func (.func 122) #[] #[.pointer (some ⟨w.heap.size, 0, none⟩)]] (w.heap.size + 1) (by simp)
  rw [← hw2]
  have B2 := hid b2
  have A2 := hid a2
  have F2 := hid f2
  clear hw2 b2 a2 f2
  refine (drawn_any g 8 w2).mono ?_
  rintro e w3 ⟨rfl, hbx, hb3, hsz⟩
  have A3 := hid (A2.out.keep hb3)
  have F3 := hid (F2.out.keep hb3)
  have B3 := hid (below_all B2.out hb3)
  have S3 := hid (H.out.keep B3.out)
  have BX := hid hbx
  clear hbx hb3 hsz A2 B2 F2
  go_wp2_with fail
  refine range_drawn g s HS.out k 8 (w2.heap.size + 1) w2.heap.size (by omega) rfl S3.out BX.out (UI w g s k 8 w.heap.size (w.heap.size + 1) (w2.heap.size + 1) w2.heap.size) ?_ ?_ ?_ ?round ?done
  · rintro j A B ⟨av, fv, hgr, hbx⟩ hst hg
    obtain ⟨xs, hxs⟩ := hst.arr
    exact ⟨av.kept hg (arr_ne av hxs (by decide)), fv.kept hg (arr_ne fv hxs (by decide)), grown_tr hgr hg, hbx.grown hg (arr_ne hbx.n hxs (by decide)) (arr_ne hbx.s hxs (by decide))⟩
  · rintro j W l o o' hl ho hc ⟨av, fv, hgr, hbx⟩
    exact ⟨av.bears ho hc, fv.bears ho hc, grown_put hgr l _ (Nat.le_trans B3.out.size hl), hbx.bears ho hc⟩
  · intro o1 o2
    have hb : Below w3.heap.size w3 ((w3.alloc o1).alloc o2) := ((Below.refl _ _).alloc (Nat.le_refl _) _).alloc (by simp) _
    exact ⟨A3.out.keep hb, F3.out.keep hb, grown_then (grown_below B3.out) hb, BX.out.keep hb⟩
  case round =>
    intro l pre x W K hK
    gi_wp2
    refine hK _ _ rfl fun W2 hd => ?_
    obtain ⟨av, fv, hgr, hbx⟩ := hd.own
    have cv := fv.cell 0 _ rfl
    have lv := fv.lt
    have HD := hid hd
    have HAV := hid av
    have HFV := hid fv
    have HGR := hid hgr
    have HBX := hid hbx
    clear hd av fv hgr hbx
    gi_wp2_with fail
    refine ⟨trivial, rfl, (CallsIn.inRound l (callsIn_wide.2 (behind_any x (numb (sbs s k pre.length)) (numb_lt _) w.heap.size W2 HAV.out))).mono ?_⟩
    rintro e W3 ⟨rfl, hw3⟩
    have HW3 := hid hw3
    clear hw3
    gi_wp2
    have e1 : (pre ++ [x]).length = pre.length + 1 := by simp
    have bn : arr W3 w.heap.size 32 [.int .u64 (numb (sbs s k (pre.length + 1)) : Int)] := by
      rw [HW3.out, sbs_succ, ← HD.out.val, numb_snoc]
      exact HAV.out.set 0 _
    have hne := HD.out.st.ne HAV.out (by decide)
    have st2 : isS W3 g s (k + (pre.length + 1)) := by rw [HW3.out]; exact HD.out.st.set hne 0 _
    have bx2 : Boxes W3 g 8 (w2.heap.size + 1) w2.heap.size := by rw [HW3.out]; exact HBX.out.set HAV.out (by decide) (by decide) 0 _
    have f3 : arr W3 (w.heap.size + 1) 167 [.func (.func 122) #[] #[.pointer (some ⟨w.heap.size, 0, none⟩)]] := by rw [HW3.out]; exact HFV.out.other _ (by simp) _
    have g3 : w.grownBy W3 (some g) := by rw [HW3.out]; exact grown_setNew HGR.out 0 _ (Nat.le_refl _)
    refine ⟨by rw [HW3.out]; exact KeepsOthers.setCell _ _ _, ?_, ?_, ?_, ?_, ?_⟩
    · rw [e1, sbs_succ, ← HD.out.eq, HD.out.val]
    · rw [e1]; have := HD.out.len; omega
    · rw [e1]; exact ⟨bn, f3, g3, bx2⟩
    · rw [e1]; exact st2
    · exact bx2
  case done =>
    intro D W hD hI hSt hdf
    obtain ⟨av, fv, hgr, hbx⟩ := hI
    have cv := av.cell 0 _ rfl
    have lv := av.lt
    have HGR := hid hgr
    have HST := hid hSt
    have HDF := hid hdf
    have HDD := hid hD
    clear hgr hbx hSt hdf hD av fv
    go_wp2
    have hwd : w.heap.size ≤ D := Nat.le_trans B3.out.size HDD.out
    exact marks_ret rfl HDF.out (results_tmp rfl _ _ _) ⟨rfl, HST.out.bears HDF.out rfl, grown_put HGR.out D _ hwd⟩
end Go.Proofs.Ytcfohdkdppiekaa
