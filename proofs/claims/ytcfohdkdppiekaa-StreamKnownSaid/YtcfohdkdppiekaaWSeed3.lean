/- law03's seed: contract. -/
import Derived.Test.YtcfohdkdppiekaaZeros
namespace Go.Proofs.Ytcfohdkdppiekaa
open Go.RowKit Go.Proofs
def sd (t : List UInt8) : List UInt8 := t.take 32 ++ List.replicate (32 - t.length) 0
theorem sd_len (t : List UInt8) : (sd t).length = 32 := by
  unfold sd; rw [List.length_append, List.length_take, List.length_replicate]; omega
set_option maxRecDepth 100000 in
set_option maxHeartbeats 1000000 in
theorem seed_any (s : List UInt8) (hl : s.length ≤ 9223372036854775807) (w : World) :
    Calls Try.prog 65 #[.string ⟨s.toArray⟩] w fun e w' => e = .returned (.string ⟨(sd s).toArray⟩) ∧ Below w.heap.size w w' := by
  obtain ⟨p, hp⟩ : ∃ p, p = s.take 32 := ⟨_, rfl⟩
  have hpl : p.length ≤ 32 := by rw [hp, List.length_take]; omega
  obtain ⟨n, hn⟩ : ∃ n : Nat, n = 32 - s.length := ⟨_, rfl⟩
  have hn32 : n ≤ 32 := by omega
  have hex : ∀ m : Nat, (m = 32 ∨ (m = s.length ∧ s.length ≤ 32)) → (⟨s.toArray⟩ : ByteArray).extract 0 m = ⟨p.toArray⟩ := by
    intro m hm
    rw [take_ext, hp]
    rcases hm with rfl | ⟨rfl, h⟩
    · rfl
    · rw [List.take_length, List.take_of_length_le h]
  have et : sd s = p ++ List.replicate n 0 := by unfold sd; rw [hp, hn]
  rw [et]
  have HEX := hid hex
  obtain ⟨q, hq, hqb, hqc⟩ : ∃ q : Nat, min (s.length : Int) 32 = (q : Int) ∧ (q = 32 ∨ (q = s.length ∧ s.length ≤ 32)) ∧ q ≤ s.length := by
    by_cases h3 : s.length ≤ 32
    · exact ⟨s.length, by omega, Or.inr ⟨rfl, h3⟩, Nat.le_refl _⟩
    · exact ⟨32, by omega, Or.inl rfl, by omega⟩
  have hqa : (if (32 : Int) < (s.length : Int) then (32 : Int) else (s.length : Int)) = (q : Int) := by
    rw [← hq]
    split <;> omega
  have HqB := hid hqb
  clear hqb
  have hN : (32 : Int) - (q : Int) = (n : Int) := by have := HqB.out; omega
  have HN := hid hN
  clear et hex hp hn hN
  go_enter Try.func65, Try.ntmps65
  go_wp2_with (first | (refine wpList_zeros rfl _ _ rfl _ n HN.out rfl rfl (by omega) w.heap.size (Nat.le_refl _) ?_; intro v1 w1 ho1 hb1) | (refine wpList_text rfl _ rfl (base := w.heap.size) _ (List.replicate n 0) rfl ho1 ?_))
  rw [HEX.out _ HqB.out]
  go_ret
  refine ⟨?_, hb1⟩
  show Ending.returned (.string ⟨(p ++ (Array.replicate n (0 : UInt8)).toList).toArray⟩) = _
  rw [Array.toList_replicate]
end Go.Proofs.Ytcfohdkdppiekaa
