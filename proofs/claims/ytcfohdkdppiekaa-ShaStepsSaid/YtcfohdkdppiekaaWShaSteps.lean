/- The law ShaSteps: the walk. -/
import Derived.Test.YtcfohdkdppiekaaWWorks1
import Derived.Test.YtcfohdkdppiekaaWCut
namespace Go.Proofs.Ytcfohdkdppiekaa
open Go.RowKit Go.Proofs
set_option maxRecDepth 100000 in
set_option maxHeartbeats 2000000 in
theorem shaSteps_any (L : List (List UInt8)) (v : Value) (w : World) (hv : strsAt w w.heap.size v L) :
    Calls Try.prog 4 #[v] w fun e w' => e = .returned (.bool true) ∧ Below w.heap.size w w' := by
  have HV := hid hv
  clear hv
  go_enter Try.func4, Try.ntmps4
  go_wp2_with fail
  refine (new_any _).mono ?_
  rintro e w1 ⟨rfl, hh1, hb1, hlt1⟩
  obtain ⟨g, hg⟩ : ∃ g, g = w1.heap.size - 1 := ⟨_, rfl⟩
  rw [← hg] at hh1 ⊢
  have hgl : w.heap.size ≤ g := by omega
  have hg1 : g < w1.heap.size := hh1.lt
  clear hg hlt1
  have HV1 := hid (HV.out.keep' hb1)
  go_wp2_with fail
  refine (cut_any L v _ HV1.out).mono ?_
  rintro e w2 ⟨vm, rfl, hm, c2⟩
  have hh2 := hh1.keep c2
  have hb2 := below_all hb1 c2
  obtain ⟨B, hB⟩ : ∃ B, B = w1.heap.size := ⟨_, rfl⟩
  rw [← hB] at hm
  have hgB : g < B := by omega
  have hBl : B ≤ w2.heap.size := by have := c2.size; omega
  clear hB c2 hh1 hb1 HV1 hg1
  obtain ⟨M, hM⟩ : ∃ M, M = cuts 20 300 L := ⟨_, rfl⟩
  have hMl : M.length ≤ 20 := by rw [hM, cuts_len]; omega
  have hMt : ∀ s ∈ M, s.length ≤ 300 := by rw [hM]; exact cuts_text 20 300 L
  rw [← hM] at hm
  have HMT := hid hMt
  clear hM hMt
  obtain ⟨⟨A, c, rfl, hlc, hc, hx⟩, ht⟩ := hm.strs (fun s hs => by have := HMT.out s hs; omega)
  clear hx ht
  go_wp2
  go_loopw [4, 13] (fun u i wr => ∃ k : Nat, k ≤ M.length ∧ i = .int .i64 k ∧ u = .string ⟨(catN M k).toArray⟩ ∧ isH wr g (catN M k) ∧ ownS wr B (.slice A M.length c) M ∧ Below w.heap.size w wr ∧ B ≤ wr.heap.size) (fun _ i _ => M.length - (intOf i).toNat)
  case atStart => exact ⟨0, by omega, rfl, rfl, hh2, hm, hb2, hBl⟩
  case round =>
    clear hm hh2 hb2 hBl
    obtain ⟨k, hk, rfl, rfl, hh, hm, hbel, hBl⟩ := hrel
    obtain ⟨T, hT⟩ : ∃ T, T = catN M k := ⟨_, rfl⟩
    have hTl : T.length ≤ 6000 := by
      have := catN_len M 300 HMT.out k
      rw [hT]; omega
    rw [← hT] at hh ⊢
    by_cases hlt : k < M.length
    · obtain ⟨_, _, hveq, _, _, hx⟩ := (hm.strs (fun s hs => by have := HMT.out s hs; omega)).form
      obtain ⟨rfl, -, rfl⟩ := Value.slice.inj hveq
      obtain ⟨a, rfl, hab, hcell⟩ := hx k hlt
      clear hx hveq
      have HS := hid (catN_succ M k hlt)
      obtain ⟨s, hs⟩ : ∃ s, s = M.getD k [] := ⟨_, rfl⟩
      have hsl : s.length ≤ 300 := by rw [hs]; exact HMT.out _ (getD_mem M k hlt)
      rw [← hs] at hcell HS
      rw [← hT] at HS
      have hlt' : (k : Int) < (M.length : Int) := by omega
      have HM := hid hm
      clear hm hs hT
      go_wp2_with fail
      refine (write_any T s (by omega) g _ hh).mono ?_
      rintro e w3 ⟨rfl, hh3, hg3⟩
      have hb3 := below_grown hbel hg3 hbel.size hgl
      have HM3 := hid (HM.out.grown hg3 hgB)
      have hB3 : B ≤ w3.heap.size := Nat.le_trans hBl hg3.size
      clear hh hbel hg3 HM hcell hab hBl
      go_wp2_with fail
      refine (sumH_any (T ++ s) (by simp; omega) g _ hh3).mono ?_
      rintro e w4 ⟨rfl, c4⟩
      have hh4 := hh3.keep c4
      have hb4 := below_all hb3 c4
      have HM4 := hid (HM3.out.keep c4)
      have hB4 : B ≤ w4.heap.size := Nat.le_trans hB3 c4.size
      clear hh3 hb3 c4 HM3 hB3
      go_wp2_with fail
      rw [str_app]
      refine (refSum_any (T ++ s) (by simp; omega) _).mono ?_
      rintro e w5 ⟨rfl, c5⟩
      have hh5 := hh4.keep c5
      have hb5 := below_all hb4 c5
      have HM5 := hid (HM4.out.keep c5)
      have hB5 : B ≤ w5.heap.size := Nat.le_trans hB4 c5.size
      clear hh4 hb4 c5 HM4 hB4
      go_wp2_with fail
      refine (len_any (T ++ s) g _ hh5).mono ?_
      rintro e w6 ⟨rfl, hw6⟩
      subst hw6
      go_wp2
      go_roundw
      case rel =>
        exact ⟨k + 1, by omega, by go_num, by rw [HS.out], by rw [HS.out]; exact hh5, HM5.out, hb5, hB5⟩
      case measure => simp [intOf]; omega
    · have hk2 : k = M.length := by omega
      clear hm hT
      subst hk2
      go_wp2_with fail
      refine (sumH_any T (by omega) g _ hh).mono ?_
      rintro e w4 ⟨rfl, c4⟩
      have hb4 := below_all hbel c4
      clear hh hbel c4 hBl
      go_wp2_with fail
      refine (refSum_any T (by omega) _).mono ?_
      rintro e w5 ⟨rfl, c5⟩
      have hb5 := below_all hb4 c5
      clear hb4 c5
      go_wp2_with fail
      refine (works1_any _).mono ?_
      rintro e w6 ⟨rfl, c6⟩
      have hb6 := below_all hb5 c6
      clear hb5 c6
      go_wp2
      go_ret
      exact ⟨rfl, hb6⟩
end Go.Proofs.Ytcfohdkdppiekaa
