/- The first law's works: it is true. -/
import Derived.Test.YtcfohdkdppiekaaWHex
namespace Go.Proofs.Ytcfohdkdppiekaa
open Go.RowKit Go.Proofs
set_option maxRecDepth 100000 in
theorem hex_nothing : hexb (sha []) = [101, 51, 98, 48, 99, 52, 52, 50, 57, 56, 102, 99, 49, 99, 49, 52, 57, 97, 102, 98, 102, 52, 99, 56, 57, 57, 54, 102, 98, 57, 50, 52, 50, 55, 97, 101, 52, 49, 101, 52, 54, 52, 57, 98, 57, 51, 52, 99, 97, 52, 57, 53, 57, 57, 49, 98, 55, 56, 53, 50, 98, 56, 53, 53] := by decide +kernel
set_option maxRecDepth 100000 in
theorem hex_abc : hexb (sha [97, 98, 99]) = [98, 97, 55, 56, 49, 54, 98, 102, 56, 102, 48, 49, 99, 102, 101, 97, 52, 49, 52, 49, 52, 48, 100, 101, 53, 100, 97, 101, 50, 50, 50, 51, 98, 48, 48, 51, 54, 49, 97, 51, 57, 54, 49, 55, 55, 97, 57, 99, 98, 52, 49, 48, 102, 102, 54, 49, 102, 50, 48, 48, 49, 53, 97, 100] := by decide +kernel
set_option maxRecDepth 100000 in
set_option maxHeartbeats 2000000 in
theorem works1_any (w : World) :
    Calls Try.prog 32 #[] w fun e w' => e = .returned (.bool true) ∧ Below w.heap.size w w' := by
  go_enter Try.func32, Try.ntmps32
  go_wp2_with fail
  refine (new_any _).mono ?_
  rintro e w1 ⟨rfl, hh1, hb1, hlt1⟩
  obtain ⟨g, hg⟩ : ∃ g, g = w1.heap.size - 1 := ⟨_, rfl⟩
  rw [← hg] at hh1 ⊢
  have hgl : w.heap.size ≤ g := by omega
  clear hg
  go_wp2_with fail
  refine (write_any [] [97] (by simp) g _ hh1).mono ?_
  rintro e w2 ⟨rfl, hh2, hg2⟩
  have hb2 := below_grown hb1 hg2 (by omega) hgl
  clear hh1 hb1 hg2 hlt1
  go_wp2_with fail
  refine (sumH_any ([] ++ [97]) (by simp) g _ hh2).mono ?_
  rintro e w3 ⟨rfl, c3⟩
  have hh3 := hh2.keep c3
  have hb3 := below_all hb2 c3
  clear hh2 hb2 c3
  go_wp2_with fail
  refine (write_any ([] ++ [97]) [98, 99] (by simp) g _ hh3).mono ?_
  rintro e w4 ⟨rfl, hh4, hg4⟩
  have hb4 := below_grown hb3 hg4 hb3.size hgl
  clear hh3 hb3 hg4
  go_wp2_with fail
  refine (sum_any [] (by simp) _).mono ?_
  rintro e w5 ⟨rfl, c5⟩
  have hh5 := hh4.keep c5
  have hb5 := below_all hb4 c5
  clear hh4 hb4 c5
  go_wp2_with fail
  refine (hex_any (sha []) (by rw [sha_len]; decide) _).mono ?_
  rintro e w6 ⟨rfl, c6⟩
  have hh6 := hh5.keep c6
  have hb6 := below_all hb5 c6
  clear hh5 hb5 c6
  have e0 := hex_nothing
  go_wp2_with fail
  refine (sum_any [97, 98, 99] (by simp) _).mono ?_
  rintro e w7 ⟨rfl, c7⟩
  have hh7 := hh6.keep c7
  have hb7 := below_all hb6 c7
  clear hh6 hb6 c7 e0
  go_wp2_with fail
  refine (hex_any (sha [97, 98, 99]) (by rw [sha_len]; decide) _).mono ?_
  rintro e w8 ⟨rfl, c8⟩
  have hh8 := hh7.keep c8
  have hb8 := below_all hb7 c8
  clear hh7 hb7 c8
  have e1 := hex_abc
  go_wp2_with fail
  clear e1
  refine (sum_any [97] (by simp) _).mono ?_
  rintro e w9 ⟨rfl, c9⟩
  have hh9 := hh8.keep c9
  have hb9 := below_all hb8 c9
  clear hh8 hb8 c9
  go_wp2_with fail
  refine (sumH_any ([] ++ [97] ++ [98, 99]) (by simp) g _ hh9).mono ?_
  rintro e wa ⟨rfl, ca⟩
  have hha := hh9.keep ca
  have hba := below_all hb9 ca
  clear hh9 hb9 ca
  go_wp2_with fail
  refine (sum_any [97, 98, 99] (by simp) _).mono ?_
  rintro e wb ⟨rfl, cb⟩
  have hhb := hha.keep cb
  have hbb := below_all hba cb
  clear hha hba cb
  go_wp2_with fail
  refine (len_any ([] ++ [97] ++ [98, 99]) g _ hhb).mono ?_
  rintro e wc ⟨rfl, hwc⟩
  subst hwc
  go_wp2
  go_ret
  exact ⟨rfl, hbb⟩
end Go.Proofs.Ytcfohdkdppiekaa
