/- The law ShaKnown: the walk. -/
import Derived.Test.YtcfohdkdppiekaaWWorks1
import Derived.Test.YtcfohdkdppiekaaShelf
import Derived.Test.YtcfohdkdppiekaaMillion2
namespace Go.Proofs.Ytcfohdkdppiekaa
open Go.RowKit Go.Proofs
def long1 : List UInt8 := [97, 98, 99, 100, 98, 99, 100, 101, 99, 100, 101, 102, 100, 101, 102, 103, 101, 102, 103, 104, 102, 103, 104, 105, 103, 104, 105, 106, 104, 105, 106, 107, 105, 106, 107, 108, 106, 107, 108, 109, 107, 108, 109, 110, 108, 109, 110, 111, 109, 110, 111, 112, 110, 111, 112, 113]
def long2 : List UInt8 := [97, 98, 99, 100, 101, 102, 103, 104, 98, 99, 100, 101, 102, 103, 104, 105, 99, 100, 101, 102, 103, 104, 105, 106, 100, 101, 102, 103, 104, 105, 106, 107, 101, 102, 103, 104, 105, 106, 107, 108, 102, 103, 104, 105, 106, 107, 108, 109, 103, 104, 105, 106, 107, 108, 109, 110, 104, 105, 106, 107, 108, 109, 110, 111, 105, 106, 107, 108, 109, 110, 111, 112, 106, 107, 108, 109, 110, 111, 112, 113, 107, 108, 109, 110, 111, 112, 113, 114, 108, 109, 110, 111, 112, 113, 114, 115, 109, 110, 111, 112, 113, 114, 115, 116, 110, 111, 112, 113, 114, 115, 116, 117]
set_option maxRecDepth 100000 in
theorem hex_long1 : hexb (sha long1) = [50, 52, 56, 100, 54, 97, 54, 49, 100, 50, 48, 54, 51, 56, 98, 56, 101, 53, 99, 48, 50, 54, 57, 51, 48, 99, 51, 101, 54, 48, 51, 57, 97, 51, 51, 99, 101, 52, 53, 57, 54, 52, 102, 102, 50, 49, 54, 55, 102, 54, 101, 99, 101, 100, 100, 52, 49, 57, 100, 98, 48, 54, 99, 49] := by decide +kernel
set_option maxRecDepth 100000 in
theorem hex_long2 : hexb (sha long2) = [99, 102, 53, 98, 49, 54, 97, 55, 55, 56, 97, 102, 56, 51, 56, 48, 48, 51, 54, 99, 101, 53, 57, 101, 55, 98, 48, 52, 57, 50, 51, 55, 48, 98, 50, 52, 57, 98, 49, 49, 101, 56, 102, 48, 55, 97, 53, 49, 97, 102, 97, 99, 52, 53, 48, 51, 55, 97, 102, 101, 101, 57, 100, 49] := by decide +kernel
theorem repeat_one (c : UInt8) : ∀ n : Nat, Lib.repeatL [c] n = List.replicate n c
  | 0 => rfl
  | n + 1 => by rw [Lib.repeatL, repeat_one c n, List.replicate_succ]; rfl
set_option maxHeartbeats 400000 in
theorem write_nil (p : List UInt8) (w : World) : Calls Try.prog 35 #[.pointer none, .string ⟨p.toArray⟩] w fun e w' => e = .returned (.tuple #[]) ∧ w' = w := by
  go_enter Try.func35, Try.ntmps35
  go_wp2
  refine bodyPost_ret (results_none rfl _ _ _) rfl ⟨rfl, rfl⟩
set_option maxHeartbeats 400000 in
theorem sumH_nil (w : World) : Calls Try.prog 36 #[.pointer none] w fun e w' => e = .returned (.string ⟨#[]⟩) ∧ w' = w := by
  go_enter Try.func36, Try.ntmps36
  go_wp2
  go_ret
  exact ⟨rfl, rfl⟩
set_option maxHeartbeats 400000 in
theorem len_nil (w : World) : Calls Try.prog 37 #[.pointer none] w fun e w' => e = .returned (.int .u64 0) ∧ w' = w := by
  go_enter Try.func37, Try.ntmps37
  go_wp2
  go_ret
  exact ⟨rfl, rfl⟩
set_option maxHeartbeats 400000 in
theorem copy_nil (w : World) : Calls Try.prog 38 #[.pointer none] w fun e w' => e = .returned (.pointer none) ∧ w' = w := by
  go_enter Try.func38, Try.ntmps38
  go_wp2
  go_ret
  exact ⟨rfl, rfl⟩
def Rep (w : World) (e : Ending) (w' : World) : Prop := ∃ m : Nat, m = 1000000 ∧ e = .returned (.string ⟨(List.replicate m 97).toArray⟩) ∧ Below w.heap.size w w'
theorem rep_nat (m : Nat) (hm : m = 1000000) (w : World) : Calls Try.prog 85 #[.string ⟨[97].toArray⟩, .int .i64 (m : Int)] w fun e w' => e = .returned (.string ⟨(List.replicate m 97).toArray⟩) ∧ Below w.heap.size w w' := by
  have h := Try.strings_Repeat ⟨[97].toArray⟩ m w (by omega) (by show 1 * m ≤ _; omega)
  rw [show (⟨[97].toArray⟩ : ByteArray).data.toList = [97] from rfl, repeat_one] at h
  exact h
theorem rep_any (w : World) : Calls Try.prog 85 #[.string ⟨[97].toArray⟩, .int .i64 1000000] w (Rep w) := by
  obtain ⟨m, hm⟩ : ∃ m : Nat, m = 1000000 := ⟨_, rfl⟩
  have e : (1000000 : Int) = (m : Int) := by omega
  rw [e]
  exact (rep_nat m hm w).mono fun _ _ h => ⟨m, hm, h⟩
set_option maxRecDepth 100000 in
set_option maxHeartbeats 4000000 in
theorem shaKnown_any (w : World) : Calls Try.prog 22 #[] w fun e w' => e = .returned (.bool true) ∧ Below w.heap.size w w' := by
  go_enter Try.func22, Try.ntmps22
  go_wp2_with fail
  refine (write_nil [97] _).mono ?_
  rintro e w1 ⟨rfl, rfl⟩
  go_wp2_with fail
  refine (works1_any _).mono ?_
  rintro e w2 ⟨rfl, b2⟩
  go_wp2_with fail
  refine (sumH_nil _).mono ?_
  rintro e w3 ⟨rfl, rfl⟩
  go_wp2_with fail
  refine (len_nil _).mono ?_
  rintro e w4 ⟨rfl, rfl⟩
  go_wp2_with fail
  refine (copy_nil _).mono ?_
  rintro e w5 ⟨rfl, rfl⟩
  go_wp2_with fail
  refine (new_any _).mono ?_
  rintro e w6 ⟨rfl, hh6, c6, hlt6⟩
  have b6 := below_all b2 c6
  obtain ⟨g, hg⟩ : ∃ g, g = w6.heap.size - 1 := ⟨_, rfl⟩
  rw [← hg] at hh6 ⊢
  clear b2 c6 hg hlt6
  go_wp2_with fail
  refine (sumH_any [] (by simp) g _ hh6).mono ?_
  rintro e w7 ⟨rfl, c7⟩
  have b7 := below_all b6 c7
  clear b6 c7 hh6
  go_wp2_with fail
  refine (hex_any (sha []) (by rw [sha_len]; decide) _).mono ?_
  rintro e w8 ⟨rfl, c8⟩
  have b8' := below_all b7 c8
  rw [hex_nothing]
  clear b7 c8
  go_wp2_with fail
  refine (sum_any long1 (by decide) _).mono ?_
  rintro e w9 ⟨rfl, c9⟩
  have b9 := below_all b8' c9
  clear b8' c9
  go_wp2_with fail
  refine (hex_any (sha long1) (by rw [sha_len]; decide) _).mono ?_
  rintro e wa ⟨rfl, ca⟩
  have ba := below_all b9 ca
  rw [hex_long1]
  clear b9 ca
  go_wp2_with fail
  refine (sum_any long2 (by decide) _).mono ?_
  rintro e wb ⟨rfl, cb⟩
  have bb := below_all ba cb
  clear ba cb
  go_wp2_with fail
  refine (hex_any (sha long2) (by rw [sha_len]; decide) _).mono ?_
  rintro e wc ⟨rfl, cc⟩
  have bc := below_all bb cc
  rw [hex_long2]
  clear bb cc
  go_wp2_with fail
  refine (rep_any _).mono ?_
  rintro e wd ⟨m, hm, rfl, cd⟩
  have bd := below_all bc cd
  have HM := hid hm
  clear bc cd hm
  go_wp2_with fail
  refine (sum_any (List.replicate m 97) (by rw [List.length_replicate, HM.out]; decide) _).mono ?_
  rintro e we ⟨rfl, ce⟩
  have be := below_all bd ce
  clear bd ce
  go_wp2_with fail
  refine (hex_any (sha (List.replicate m 97)) (by rw [sha_len]; decide) _).mono ?_
  rintro e wf ⟨rfl, cf⟩
  have bf := below_all be cf
  rw [hex_million m HM.out]
  clear be cf
  go_wp2
  go_ret
  exact ⟨rfl, bf⟩
end Go.Proofs.Ytcfohdkdppiekaa
