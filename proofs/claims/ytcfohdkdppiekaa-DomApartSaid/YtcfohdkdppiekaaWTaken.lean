/- law02's taken, at a frame: contract. -/
import Derived.Test.YtcfohdkdppiekaaWNumber
import Derived.Test.YtcfohdkdppiekaaWWrite
namespace Go.Proofs.Ytcfohdkdppiekaa
open Go.RowKit Go.Proofs
theorem numberB8 (n : Nat) (hn : n < 18446744073709551616) (w : World) :
    Calls Try.prog 48 #[.string ⟨(b8 n).toArray⟩] w fun e w' => e = .returned (.int .u64 (n : Int)) ∧ w' = w := by
  have := number_any (b8 n) (by rw [b8_len]; decide) w
  rwa [numb_b8 n hn] at this
def Taken (w : World) (tag : List UInt8) (ps : List (List UInt8)) (e : Ending) (w' : World) : Prop :=
  ∃ v, e = .returned (.tuple #[.string ⟨tag.toArray⟩, v, .bool true]) ∧ ownS w' w.heap.size v ps ∧ Below w.heap.size w w'
set_option maxRecDepth 100000 in
set_option maxHeartbeats 2000000 in
theorem taken_any (tag : List UInt8) (ps : List (List UInt8)) (hok : okTag tag) (hps : ps.length ≤ 1000) (hpl : ∀ s ∈ ps, s.length ≤ 10000) (w : World) :
    Calls Try.prog 47 #[.string ⟨(frm0 tag ps).toArray⟩] w (Taken w tag ps) := by
  obtain ⟨F, hF⟩ : ∃ F, F = frm0 tag ps := ⟨_, rfl⟩
  have hFe : F.isEmpty = false := by rw [hF]; rfl
  have hFl : F.length = 1 + tag.length + (fparts ps).length := by rw [hF, frm0_len]
  have hfp : (fparts ps).length ≤ 10008000 := by
    have := fparts_len ps 10000 hpl
    have h2 : ps.length * (8 + 10000) ≤ 1000 * 10008 := Nat.mul_le_mul hps (Nat.le_refl _)
    omega
  obtain ⟨c, hc⟩ : ∃ c : UInt8, c = tag.length.toUInt8 := ⟨_, rfl⟩
  have hcn : c.toNat = tag.length := by rw [hc]; have := hok.2; simp; omega
  have hsz : 0 < (⟨F.toArray⟩ : ByteArray).size := by simp [ByteArray.size]; omega
  have hge : (⟨F.toArray⟩ : ByteArray)[0]'hsz = c := by
    have h : F = c :: (tag ++ fparts ps) := by rw [hF, hc]; rfl
    clear hFl hFe
    subst h
    rfl
  have ht1 : (1 : Int) ≤ (tag.length : Int) := by have := hok.1; omega
  have ht2 : (tag.length : Int) ≤ 16 := by have := hok.2; omega
  have hFi : 1 + (tag.length : Int) ≤ (F.length : Int) := by omega
  have e1 : (⟨F.toArray⟩ : ByteArray).extract 1 (1 + tag.length) = ⟨tag.toArray⟩ := by
    rw [hF, ByteArray.extract_mk]; simp [frm0]
  have e2 : (⟨F.toArray⟩ : ByteArray).extract (1 + tag.length) F.length = ⟨(fparts ps).toArray⟩ := by
    rw [ByteArray.extract_mk, List.take_of_length_le (by simp), hF]
    simp [frm0, Nat.add_comm 1]
  rw [← hF]
  have HF := hid hF
  have HFL := hid hFl
  have HC := hid hc
  have hFp : (0 : Int) < (F.length : Int) := by omega
  have HPL := hid hpl
  have hcb : (c.toNat : Int) < 256 := by omega
  clear hF hFl hc hpl
  go_enter Try.func47, Try.ntmps47
  go_wp2
  rw [e1, e2]
  clear hge e1 e2 hsz hFe
  go_loopw [0, 6] (fun x u wr => ∃ k : Nat, k ≤ ps.length ∧ x = .string ⟨(fparts (ps.drop k)).toArray⟩ ∧ ownS wr w.heap.size u (ps.take k) ∧ Below w.heap.size w wr) (fun x _ _ => strSize x)
  case atStart => exact ⟨0, by omega, rfl, ownS.nil _ _, Below.refl _ _⟩
  case round =>
    obtain ⟨k, hk, rfl, ho, hb⟩ := hrel
    have hs := hb.size
    by_cases hlt : k < ps.length
    · obtain ⟨p, hp⟩ : ∃ p, p = ps.getD k [] := ⟨_, rfl⟩
      have hpp : ps[k] = p := by rw [hp, List.getD_eq_getElem?_getD, List.getElem?_eq_getElem hlt]; rfl
      have hd : ps.drop k = p :: ps.drop (k + 1) := by rw [← hpp]; exact List.drop_eq_getElem_cons hlt
      have htk : ps.take (k + 1) = ps.take k ++ [p] := by rw [← hpp]; exact List.take_succ_eq_append_getElem hlt
      have hpb : p.length ≤ 10000 := by rw [hp]; exact HPL.out _ (getD_mem ps k hlt)
      obtain ⟨R, hR⟩ : ∃ R, R = fparts (ps.drop (k + 1)) := ⟨_, rfl⟩
      obtain ⟨T, hT⟩ : ∃ T, T = fparts (ps.drop k) := ⟨_, rfl⟩
      have hT2 : T = b8 p.length ++ p ++ R := by rw [hT, hd, fparts_cons, hR]
      have hTl : T.length = 8 + p.length + R.length := by rw [hT2, List.length_append, List.length_append, b8_len]
      have hTe : T.isEmpty = false := by rw [hT2]; rfl
      have hRb : R.length ≤ 10008000 := by
        have h1 : T.length ≤ (fparts ps).length := by
          have : fparts ps = fparts (ps.take k) ++ T := by rw [hT, ← fparts_app, List.take_append_drop]
          rw [this, List.length_append]; omega
        omega
      have g1 : (⟨T.toArray⟩ : ByteArray).extract 0 8 = ⟨(b8 p.length).toArray⟩ := by
        rw [ByteArray.extract_mk, hT2]
        simp only [List.append_assoc, List.drop_zero, List.take_left' (b8_len p.length)]
      have g2 : (⟨T.toArray⟩ : ByteArray).extract 8 (8 + p.length) = ⟨p.toArray⟩ := by
        rw [ByteArray.extract_mk, hT2]
        simp [List.append_assoc, b8_len, List.take_append, List.drop_append]
      have g3 : (⟨T.toArray⟩ : ByteArray).extract (8 + p.length) T.length = ⟨R.toArray⟩ := by
        rw [ByteArray.extract_mk, List.take_of_length_le (by simp), hT2]
        simp [List.append_assoc, b8_len, List.drop_append]
      have t1 : 8 + (p.length : Int) + (R.length : Int) ≤ (T.length : Int) := by omega
      have t2 : (T.length : Int) ≤ 8 + (p.length : Int) + (R.length : Int) := by omega
      rw [← hT]
      have HT := hid hT
      have HR := hid hR
      have HTK := hid htk
      have HTL := hid hTl
      have HO := hid ho
      clear hp hpp hd htk hT hT2 hR hTl ho
      go_wp2_with fail
      refine (numberB8 p.length (by omega) _).mono ?_
      rintro e w1 ⟨rfl, hw⟩
      subst hw
      go_wp2_with fail
      refine (numberB8 p.length (by omega) _).mono ?_
      rintro e w1 ⟨rfl, hw⟩
      subst hw
      go_wp2_with ((at_builtin; go_must (refine ownS_append rfl _ _ rfl w.heap.size u6 (ps.take k) [p] rfl (HO.out.alloc _) w1.heap.size 0 1 rfl (by intro j hj; obtain rfl : j = 0 := (by simpa using hj); first | exact (arr.new w1 _ _).cell 0 _ rfl | exact (arr.new w1 _ _).cell 0 _ (congrArg (fun b => some (Value.string b)) g2)) (by rw [List.length_take]; simp; omega) (by simp; omega) ?_); intro v7 w7 ho7 hg7))
      rw [g3]
      go_roundw
      case rel =>
        refine ⟨k + 1, by omega, by rw [HR.out], ?_, (HO.out.alloc _).below (hb.alloc hs _) hg7 (by simp; omega) (Nat.le_refl _)⟩
        rw [HTK.out]; exact ho7
      case measure =>
        have := HTL.out
        simp [strSize, ByteArray.size]; omega
    · obtain rfl : k = ps.length := by omega
      have e3 : fparts (ps.drop ps.length) = [] := by rw [List.drop_length]; rfl
      rw [e3]
      rw [List.take_length] at ho
      have HO := hid ho
      clear ho e3
      go_wp2
      go_ret3
      exact ⟨_, rfl, HO.out, hb⟩
end Go.Proofs.Ytcfohdkdppiekaa
