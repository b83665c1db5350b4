/- A number's eight bytes, by the program and by the document: contracts. -/
import Derived.Test.YtcfohdkdppiekaaSpecDom
import Derived.Test.YtcfohdkdppiekaaWSumH
namespace Go.Proofs.Ytcfohdkdppiekaa
open Go.RowKit Go.Proofs
set_option maxRecDepth 100000 in
set_option maxHeartbeats 1000000 in
theorem num_nat (n : Nat) (hn : n ≤ 18446744073709551615) (w : World) : Calls Try.prog 44 #[.int .u64 (n : Int)] w fun e w' => e = .returned (.string ⟨(b8 n).toArray⟩) ∧ Below w.heap.size w w' := by
  obtain ⟨E, hE⟩ : ∃ E, E = w.heap.size := ⟨_, rfl⟩
  go_enter Try.func44, Try.ntmps44
  go_wp2
  rw [← hE]
  go_loopw [5] (fun i wr => ∃ k : Nat, k ≤ 8 ∧ i = .int .i64 k ∧ Below w.heap.size w wr ∧ arr wr E 141 (b8c n k)) (fun i _ => 8 - (intOf i).toNat)
  case atStart => exact ⟨0, by omega, rfl, (Below.refl _ _).alloc (Nat.le_refl _) _, arr.newAt _ _ (b8c n 0) _ hE⟩
  case round =>
    have HE := hid hE
    clear hE
    obtain ⟨k, hk, rfl, bw4, a4⟩ := hrel
    by_cases hlk : k < 8
    · have hlk' : (k : Int) < 8 := by omega
      obtain ⟨v0, hv0⟩ : ∃ v, (b8c n k)[k]? = some v := ⟨_, List.getElem?_eq_getElem (by rw [b8c_len _ _ hk]; omega)⟩
      have c4 := a4.cell k v0 hv0
      have f4 := a4.free k
      clear hv0
      have hsh : 0 ≤ 8 * (7 - (k : Int)) := by omega
      go_wp2
      go_roundw
      case rel =>
        have e1 : ((n : Int) / 2 ^ (8 * (7 - k)) % 256) = ((n / 2 ^ (56 - 8 * k) % 256 : Nat) : Int) := by
          rw [show 8 * (7 - k) = 56 - 8 * k by omega]; simp
        rw [e1]
        refine ⟨k + 1, by omega, by go_num, bw4.setCell (by simp; rw [HE.out]; omega) _, ?_⟩
        rw [← b8c_set _ _ hlk]
        exact a4.set k _
      case measure => simp [intOf]; omega
    · obtain rfl : k = 8 := by omega
      rw [b8c_all] at a4
      have hs8 := fun W => slice_eight W E
      go_wp2_with (refine wpList_b2s rfl _ rfl E 0 8 8 (b8 n) rfl rfl (fun i hi => (by rw [Nat.zero_add]; exact a4.cell i _ (bcs_get _ i hi))) ?_)
      go_ret
      exact ⟨rfl, bw4⟩
theorem num_any (x : Int) (h0 : 0 ≤ x) (h1 : x ≤ 18446744073709551615) (w : World) : Calls Try.prog 44 #[.int .u64 x] w fun e w' => e = .returned (.string ⟨(b8 x.toNat).toArray⟩) ∧ Below w.heap.size w w' := by
  obtain ⟨n, rfl⟩ := Int.eq_ofNat_of_zero_le h0
  rw [Int.toNat_natCast]
  exact num_nat n (by omega) w
set_option maxRecDepth 100000 in
set_option maxHeartbeats 1000000 in
theorem refNum_nat (n : Nat) (hn : n ≤ 18446744073709551615) (w : World) : Calls Try.prog 45 #[.int .u64 (n : Int)] w fun e w' => e = .returned (.string ⟨(b8 n).toArray⟩) ∧ Below w.heap.size w w' := by
  go_enter Try.func45, Try.ntmps45
  go_wp2
  go_loopw [0, 3, 4] (fun x u i wr => ∃ k : Nat, k ≤ 8 ∧ i = .int .i64 k ∧ x = .int .u64 ((n / 256 ^ k : Nat) : Int) ∧ u = .string ⟨(b8l n k).toArray⟩ ∧ Below w.heap.size w wr) (fun _ _ i _ => 8 - (intOf i).toNat)
  case atStart => exact ⟨0, by omega, rfl, by simp, rfl, Below.refl _ _⟩
  case round =>
    obtain ⟨k, hk, rfl, rfl, rfl, hb⟩ := hrel
    by_cases hlk : k < 8
    · have hlk' : (k : Int) < 8 := by omega
      obtain ⟨m, hm⟩ : ∃ m, m = n / 256 ^ k := ⟨_, rfl⟩
      rw [← hm]
      have hml : m ≤ 18446744073709551615 := by rw [hm]; exact Nat.le_trans (Nat.div_le_self _ _) hn
      have HM := hid hm
      have kc := fun W : World => conv1 W W.heap.size ((m : Int) % 256) rfl (by omega) (by omega)
      have HK := hid (b8l_succ n k hlk)
      have hbl : (b8l n k).length ≤ 8 := by simp [b8l, b8_len]
      clear hm
      go_wp2
      go_roundw
      case rel =>
        refine ⟨k + 1, by omega, by go_num, ?_, ?_, hb.alloc hb.size _⟩
        · rw [Nat.pow_succ, ← Nat.div_div_eq_div_mul, ← HM.out]
          simp
        · rw [HK.out, ← HM.out]
          exact congrArg Value.string (str_app [UInt8.ofNat (m % 256)] (b8l n k))
      case measure => simp [intOf]; omega
    · obtain rfl : k = 8 := by omega
      rw [b8l_all]
      go_wp2
      go_ret
      exact ⟨rfl, hb⟩
theorem refNum_any (x : Int) (h0 : 0 ≤ x) (h1 : x ≤ 18446744073709551615) (w : World) : Calls Try.prog 45 #[.int .u64 x] w fun e w' => e = .returned (.string ⟨(b8 x.toNat).toArray⟩) ∧ Below w.heap.size w w' := by
  obtain ⟨n, rfl⟩ := Int.eq_ofNat_of_zero_le h0
  rw [Int.toNat_natCast]
  exact refNum_nat n (by omega) w
end Go.Proofs.Ytcfohdkdppiekaa
