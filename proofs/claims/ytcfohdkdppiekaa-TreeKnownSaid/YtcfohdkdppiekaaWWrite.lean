/- The program's Write: contract. -/
import Derived.Test.YtcfohdkdppiekaaWIn
import Derived.Test.YtcfohdkdppiekaaCopy
import Derived.Test.YtcfohdkdppiekaaSpecHash
namespace Go.Proofs.Ytcfohdkdppiekaa
open Go.RowKit Go.Proofs
/-- block g is a hasher that has the text l -/
def isH (w : World) (g : Nat) (l : List UInt8) : Prop := ∃ q, Kept l q ∧ arr w g 139 (hcs (blks st0 l (l.length / 64)) q [.int .u64 (l.length : Int)])
theorem hcs_len (s : St) (q : List UInt8) (tl : List Value) (hq : q.length = 64) : (hcs s q tl).length = 72 + tl.length := by
  simp [hcs, St.cells_len, bcs_len, hq]; omega
theorem hcs_last (s : St) (q : List UInt8) (v : Value) (hq : q.length = 64) : (hcs s q [v])[72]? = some v := by
  unfold hcs
  rw [List.getElem?_append_right (by simp [St.cells_len, bcs_len, hq])]
  simp [St.cells_len, bcs_len, hq]
theorem hcs_setlast (s : St) (q : List UInt8) (v u : Value) (hq : q.length = 64) : (hcs s q [v]).set 72 u = hcs s q [u] := by
  unfold hcs
  rw [List.set_append_right _ _ (by simp [St.cells_len, bcs_len, hq])]
  simp [St.cells_len, bcs_len, hq]
theorem hcs_put (s : St) (q x : List UInt8) (tl : List Value) (at' : Nat) (hq : q.length = 64) (hx : at' + x.length ≤ 64) :
    (hcs s q tl).take (8 + at') ++ bcs x ++ (hcs s q tl).drop (8 + at' + x.length) = hcs s (q.take at' ++ x ++ q.drop (at' + x.length)) tl := by
  have hs := St.cells_len s
  have hb : (bcs q).length = 64 := by rw [bcs_len]; exact hq
  have e1 : (hcs s q tl).take (8 + at') = s.cells ++ (bcs q).take at' := by
    unfold hcs
    rw [List.append_assoc, List.take_append, List.take_of_length_le (by omega), hs, Nat.add_sub_cancel_left, List.take_append_of_le_length (by omega)]
  have e2 : (hcs s q tl).drop (8 + at' + x.length) = (bcs q).drop (at' + x.length) ++ tl := by
    unfold hcs
    rw [List.append_assoc, List.drop_append, List.drop_of_length_le (by omega), hs, List.nil_append, show 8 + at' + x.length - 8 = at' + x.length from by omega, List.drop_append_of_le_length (by omega)]
  rw [e1, e2]
  unfold hcs
  simp [bcs, List.map_take, List.map_drop]
theorem slice_rest (W : World) (g n : Nat) :
    (Instr.sliceAt 137 (.pointer (some ⟨g, 8, none⟩)) (some (.int .u64 ((n : Int) % 64))) none none).run Try.prog W = .ok (.slice (some ⟨g, 8 + n % 64, none⟩) (64 - n % 64) (64 - n % 64)) W := by
  have hl : Try.prog.arrayLen 137 = 64 := by kernel_rfl
  have hs : (sizeOf (Try.prog.elem 137)).run Try.prog W = .ok 1 W := by kernel_rfl
  have := run_sliceAt_array_l (P := Try.prog) W 137 ⟨g, 8, none⟩ (by kernel_rfl) .u64 ((n : Int) % 64) (by omega) (by rw [hl]; omega)
  rw [this, hl, hs]
  have e : ((n : Int) % 64).toNat = n % 64 := by omega
  have e2 : ¬ (64 = n % 64) := by omega
  simp only [Result.andThen, slicedAt, e, e2, if_false, Nat.mul_one]
  unfold Addr.add
  split
  · rename_i h; rw [h]
  · rfl
theorem slice_whole (W : World) (g : Nat) :
    (Instr.sliceAt 137 (.pointer (some ⟨g, 8, none⟩)) none none none).run Try.prog W = .ok (.slice (some ⟨g, 8, none⟩) 64 64) W := by
  have hl : Try.prog.arrayLen 137 = 64 := by kernel_rfl
  have hs : (sizeOf (Try.prog.elem 137)).run Try.prog W = .ok 1 W := by kernel_rfl
  have := run_sliceAt_array_all (P := Try.prog) W 137 ⟨g, 8, none⟩ (by kernel_rfl)
  rw [this, hl, hs]
  simp [Result.andThen, slicedAt, Addr.add]
theorem grown_trans {a b c : World} {g : Nat} (h : a.grownBy b (some g)) (k : b.grownBy c (some g)) : a.grownBy c (some g) :=
  ⟨k.os.trans h.os, k.tape.trans h.tape, k.output.trans h.output, Nat.le_trans h.size k.size, fun i hi hne => (k.block i (Nat.lt_of_lt_of_le hi h.size) hne).trans (h.block i hi hne)⟩
theorem grown_row {a b : World} {g : Nat} (h : a.grownBy b (some g)) (cs : Array Value) : a.grownBy (b.setRow g cs) (some g) :=
  ⟨h.os, h.tape, h.output, by have := h.size; simpa using this, fun i hi hne => (setRow_other _ _ _ _ (fun e => hne (by rw [e]))).trans (h.block i hi hne)⟩
theorem text_drop (y : List UInt8) (m : Nat) : (⟨y.toArray⟩ : ByteArray).extract m y.length = ⟨(y.drop m).toArray⟩ := by
  rw [ByteArray.extract_mk, List.take_of_length_le (by simp)]
/-- a text's length in a slot -/
def strSize : Value → Nat | .string s => s.size | _ => 0
set_option maxRecDepth 100000 in
set_option maxHeartbeats 1000000 in
theorem write_any (l p : List UInt8) (hl : l.length + p.length ≤ 1000000000000) (g : Nat) (w : World) (hw : isH w g l) :
    Calls Try.prog 35 #[.pointer (some ⟨g, 0, none⟩), .string ⟨p.toArray⟩] w fun e w' => e = .returned (.tuple #[]) ∧ isH w' g (l ++ p) ∧ w.grownBy w' (some g) := by
  have HW := hid hw
  clear hw
  go_enter Try.func35, Try.ntmps35
  go_wp2
  go_loopw [1] (fun v wr => ∃ k : Nat, k ≤ p.length ∧ v = .string ⟨(p.drop k).toArray⟩ ∧ isH wr g (l ++ p.take k) ∧ w.grownBy wr (some g)) (fun v _ => strSize v)
  case atStart => exact ⟨0, by omega, by simp, by simpa using HW.out, ⟨rfl, rfl, rfl, Nat.le_refl _, fun _ _ _ => rfl⟩⟩
  case round =>
    obtain ⟨k, hk, rfl, ⟨q, hq, har⟩, hgr⟩ := hrel
    obtain ⟨L, hL⟩ : ∃ L, L = l ++ p.take k := ⟨_, rfl⟩
    obtain ⟨y, hy⟩ : ∃ y, y = p.drop k := ⟨_, rfl⟩
    have hLl : L.length = l.length + k := by rw [hL]; simp; omega
    have hyl : y.length = p.length - k := by rw [hy]; simp
    rw [← hL] at hq har
    rw [← hy]
    obtain ⟨n, hn⟩ : ∃ n, n = L.length := ⟨_, rfl⟩
    obtain ⟨st, hst⟩ : ∃ st, st = blks st0 L (L.length / 64) := ⟨_, rfl⟩
    rw [← hst, ← hn] at har
    have hnb : n ≤ 1000000000000 := by omega
    have hyb : y.length ≤ 1000000000000 := by omega
    have HL := hid hL
    have HY := hid hy
    have HLL := hid hLl
    have HYL := hid hyl
    have HN := hid hn
    have HST := hid hst
    have HQ := hid hq
    have c72 := har.cell 72 _ (hcs_last st q _ hq.len)
    have hgl := har.lt
    clear hL hy hLl hyl hn hst hq
    by_cases hlt : k < p.length
    · have hy0 : (0 : Int) < (y.length : Int) := by have := HYL.out; omega
      obtain ⟨m, hm⟩ : ∃ m, min y.length (64 - n % 64) = m := ⟨_, rfl⟩
      have hm1 : m ≤ y.length := by omega
      have hm2 : n % 64 + m ≤ 64 := by omega
      have hm0 : 0 < m := by omega
      have HM := hid hm
      clear hm
      have hsl := fun W => slice_rest W g n
      have hx : (y.take m).length = m := by simp; omega
      have hput := hcs_put st q (y.take m) [.int .u64 (n : Int)] (n % 64) HQ.out.len (by rw [hx]; omega)
      rw [hx] at hput
      obtain ⟨q2, hq2⟩ : ∃ q2, q2 = q.take (n % 64) ++ y.take m ++ q.drop (n % 64 + m) := ⟨_, rfl⟩
      have hq2l : q2.length = 64 := by have := HQ.out.len; rw [hq2]; simp; omega
      rw [← hq2] at hput
      have HPUT := hid hput
      have HQ2 := hid hq2
      have HQ2L := hid hq2l
      have HX := hid hx
      clear hput hq2 hq2l hx
      by_cases hf : n % 64 + m = 64
      · have ht : (((n : Int) + (m : Int)) % 64 == 0) = true := by rw [beq_iff_eq]; omega
        clear hf
        go_wp2_with ((refine wpList_copy_text rfl _ _ rfl g (8 + n % 64) (64 - n % 64) (64 - n % 64) m _ _ y rfl rfl har HM.out (by rw [hcs_len _ _ _ HQ.out.len]; simp; omega) ?_; intro w2 hw2; have HW2 := hid hw2; clear hw2; have a2 : arr w2 g 139 (hcs st q2 [.int .u64 (n : Int)]) := (by rw [HW2.out, ← HPUT.out]; exact har.row _); have d72 := a2.cell 72 _ (hcs_last st q2 _ HQ2L.out); have f72 := a2.free 72))
        have hsa := fun W => slice_whole W g
        have hok : st.ok := by rw [HST.out]; exact blks_ok st0 L st0_ok _
        have HOK := hid hok
        clear hok
        refine wp_region_later_tail 7 (by kernel_rfl) (by kernel_rfl) ?_
        simp only [List.take_succ_cons, List.take_zero, List.drop_succ_cons, List.drop_zero]
        repeat (go_big_quiet_step (fail))
        refine wpQuiet_nil fun u => ?_
        have a3 : arr (w2.setCell ⟨g, 72, none⟩ (.int .u64 ((n : Int) + (m : Int)))) g 139 (hcs st q2 [.int .u64 ((n : Int) + (m : Int))]) := by
          have := a2.set 72 (.int .u64 ((n : Int) + (m : Int)))
          rwa [hcs_setlast _ _ _ _ HQ2L.out] at this
        have a4 := a3.keep u.below
        have hu : later (w2.setCell ⟨g, 72, none⟩ (.int .u64 ((n : Int) + (m : Int)))) u = u.w := rfl
        go_wp2_with (go_at_call 112; refine (in_any st HOK.out q2 HQ2L.out [.int .u64 ((n : Int) + (m : Int))] g 139 _ a4).mono ?_; rintro e w5 ⟨rfl, a5, g5⟩)
        go_roundw
        case rel =>
          have hfull : L.length % 64 + (y.take m).length = 64 := by rw [HX.out, ← HN.out]; rw [beq_iff_eq] at ht; omega
          have hq3 : q2 = putq L q (y.take m) := by rw [HQ2.out, putq, HX.out, HN.out]
          have eL : l ++ p.take (k + m) = L ++ y.take m := by rw [HL.out, HY.out, List.append_assoc, ← List.take_add]
          have hkm : k + m ≤ p.length := by have := HYL.out; omega
          refine ⟨k + m, hkm, ?_, ⟨q2, ?_, ?_⟩, ?_⟩
          · rw [text_drop, HY.out, List.drop_drop]
          · rw [eL, hq3]; exact (kept_full L q _ HQ.out hfull).1
          · rw [eL, blks_full L q _ HQ.out hfull, ← hq3, ← HST.out]
            have e2 : ((L ++ y.take m).length : Int) = (n : Int) + (m : Int) := by rw [List.length_append, HX.out, ← HN.out]; omega
            rw [e2]; exact a5
          · exact grown_trans (grown_trans (grown_set (by rw [HW2.out]; exact grown_row hgr _) _ _) (grown_below u.below)) g5
        case measure =>
          have := HYL.out
          rw [text_drop]
          simp [strSize, ByteArray.size]; omega
      · have ht : (((n : Int) + (m : Int)) % 64 == 0) = false := by rw [beq_eq_false_iff_ne]; omega
        have hm3 : m = y.length := by have := HM.out; omega
        have hf2 : n % 64 + m < 64 := by omega
        have HF := hid hf2
        clear hf hf2 hm3
        go_wp2_with ((refine wpList_copy_text rfl _ _ rfl g (8 + n % 64) (64 - n % 64) (64 - n % 64) m _ _ y rfl rfl har HM.out (by rw [hcs_len _ _ _ HQ.out.len]; simp; omega) ?_; intro w2 hw2; have HW2 := hid hw2; clear hw2; have a2 : arr w2 g 139 (hcs st q2 [.int .u64 (n : Int)]) := (by rw [HW2.out, ← HPUT.out]; exact har.row _); have d72 := a2.cell 72 _ (hcs_last st q2 _ HQ2L.out); have f72 := a2.free 72))
        go_roundw
        case rel =>
          have hmore : L.length % 64 + (y.take m).length < 64 := by rw [HX.out, ← HN.out]; exact HF.out
          have hq3 : q2 = putq L q (y.take m) := by rw [HQ2.out, putq, HX.out, HN.out]
          have eL : l ++ p.take (k + m) = L ++ y.take m := by rw [HL.out, HY.out, List.append_assoc, ← List.take_add]
          have hkm : k + m ≤ p.length := by have := HYL.out; omega
          refine ⟨k + m, hkm, ?_, ⟨q2, ?_, ?_⟩, ?_⟩
          · rw [text_drop, HY.out, List.drop_drop]
          · rw [eL, hq3]; exact (kept_more L q _ HQ.out hmore).1
          · rw [eL, blks_more L q _ HQ.out hmore, ← HST.out]
            have e2 : ((L ++ y.take m).length : Int) = (n : Int) + (m : Int) := by rw [List.length_append, HX.out, ← HN.out]; omega
            rw [e2]
            have := a2.set 72 (.int .u64 ((n : Int) + (m : Int)))
            rwa [hcs_setlast _ _ _ _ HQ2L.out] at this
          · exact grown_set (by rw [HW2.out]; exact grown_row hgr _) _ _
        case measure =>
          have := HYL.out
          rw [text_drop]
          simp [strSize, ByteArray.size]; omega
    · have hk2 : k = p.length := by omega
      have hy0 : (y.length : Int) = 0 := by have := HYL.out; omega
      have HK2 := hid hk2
      have HY0 := hid hy0
      have hle : (y.length : Int) ≤ 0 := by omega
      clear hk2 hy0
      go_wp2
      go_end0
      refine ⟨rfl, ?_, hgr⟩
      have eL : l ++ p = L := by rw [HL.out, HK2.out, List.take_length]
      refine ⟨q, by rw [eL]; exact HQ.out, ?_⟩
      rw [eL, ← HST.out, ← HN.out]
      exact har
end Go.Proofs.Ytcfohdkdppiekaa
