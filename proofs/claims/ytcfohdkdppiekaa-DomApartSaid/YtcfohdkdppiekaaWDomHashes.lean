/- The law DomHashes: the walk. -/
import Derived.Test.YtcfohdkdppiekaaWLaw02
namespace Go.Proofs.Ytcfohdkdppiekaa
open Go.RowKit Go.Proofs
theorem cuts_bound (L : List (List UInt8)) : (fparts (cuts 8 200 L)).length ≤ 1664 ∧ (∀ s ∈ cuts 8 200 L, s.length ≤ 200) := by
  have h := fparts_len (cuts 8 200 L) 200 (cuts_text 8 200 L)
  have h2 := cuts_len 8 200 L
  exact ⟨by omega, cuts_text 8 200 L⟩
set_option maxRecDepth 100000 in
set_option maxHeartbeats 2000000 in
theorem domHashes_any (tag : List UInt8) (htl : tag.length ≤ 9223372036854775807) (L : List (List UInt8)) (v : Value) (w : World) (hv : strsAt w w.heap.size v L) (n : Int) (hn : 0 ≤ n ∧ n ≤ 18446744073709551615) :
    Calls Try.prog 7 #[.string ⟨tag.toArray⟩, v, .int .u64 n] w fun e w' => e = .returned (.bool true) ∧ Below w.heap.size w w' := by
  have HV := hid hv
  clear hv
  obtain ⟨q, hq, hqb, hqc⟩ : ∃ q : Nat, min (tag.length : Int) 20 = (q : Int) ∧ (q = 20 ∨ (q = tag.length ∧ tag.length ≤ 20)) ∧ q ≤ tag.length := by
    by_cases h3 : tag.length ≤ 20
    · exact ⟨tag.length, by omega, Or.inr ⟨rfl, h3⟩, Nat.le_refl _⟩
    · exact ⟨20, by omega, Or.inl rfl, by omega⟩
  have hqa : (if (20 : Int) < (tag.length : Int) then (20 : Int) else (tag.length : Int)) = (q : Int) := by
    rw [← hq]
    split <;> omega
  have HqB := hid hqb
  clear hqb
  obtain ⟨p, hp⟩ : ∃ p, p = tag.take 20 := ⟨_, rfl⟩
  have hpl : p.length ≤ 20 := by rw [hp, List.length_take]; omega
  have HEX := hid (cut_text tag 20 q HqB.out)
  rw [← hp] at HEX
  clear hp
  have HN := hid hn
  clear hn
  go_enter Try.func7, Try.ntmps7
  go_wp2_with fail
  rw [HEX.out]
  refine (few_any L v _ HV.out).mono ?_
  rintro e w1 ⟨vm, rfl, hm, b1⟩
  obtain ⟨M, hM⟩ : ∃ M, M = cuts 8 200 L := ⟨_, rfl⟩
  have hb := cuts_bound L
  rw [← hM] at hm hb
  obtain ⟨hf, ht⟩ := hb
  have HS1 := hid (hm.strs (fun s hs => by have := ht s hs; omega))
  have HT := hid (fun s hs => (Nat.le_trans (ht s hs) (by decide) : s.length ≤ 100000000000))
  clear hM hm ht
  go_wp2_with fail
  refine (frame_any p M vm _ HS1.out (by omega) (by omega) HT.out).mono ?_
  rintro e w2 ⟨rfl, c2⟩
  have b2 := below_all b1 c2
  have HS2 := hid (HS1.out.keep' c2)
  clear b1 c2 HS1
  go_wp2_with fail
  refine (refFrame_any p M vm _ HS2.out (by omega) (by omega) HT.out).mono ?_
  rintro e w3 ⟨rfl, c3⟩
  have b3 := below_all b2 c3
  have HS3 := hid (HS2.out.keep' c3)
  clear b2 c3 HS2
  go_wp2_with fail
  refine (hash_any p M vm _ HS3.out (by omega) (by omega) HT.out).mono ?_
  rintro e w4 ⟨rfl, c4⟩
  have b4 := below_all b3 c4
  have HS4 := hid (HS3.out.keep' c4)
  clear b3 c4 HS3
  go_wp2_with fail
  refine (refHash_any p M vm _ HS4.out (by omega) (by omega) HT.out).mono ?_
  rintro e w5 ⟨rfl, c5⟩
  have b5 := below_all b4 c5
  clear b4 c5 HS4
  go_wp2_with fail
  refine (num_any n HN.out.1 HN.out.2 _).mono ?_
  rintro e w6 ⟨rfl, c6⟩
  have b6 := below_all b5 c6
  clear b5 c6
  go_wp2_with fail
  refine (refNum_any n HN.out.1 HN.out.2 _).mono ?_
  rintro e w7 ⟨rfl, c7⟩
  have b7 := below_all b6 c7
  clear b6 c7
  go_wp2_with fail
  refine (works2_any _).mono ?_
  rintro e w8 ⟨rfl, c8⟩
  have b8 := below_all b7 c8
  clear b7 c8
  go_wp2
  go_ret
  exact ⟨rfl, b8⟩
end Go.Proofs.Ytcfohdkdppiekaa
