/- The program's sum of a text. -/
import Derived.Test.YtcfohdkdppiekaaWSumH
namespace Go.Proofs.Ytcfohdkdppiekaa
open Go.RowKit Go.Proofs
set_option maxHeartbeats 1000000 in
theorem sum_any (l : List UInt8) (hl : l.length ≤ 900000000000) (w : World) :
    Calls Try.prog 30 #[.string ⟨l.toArray⟩] w fun e w' => e = .returned (.string ⟨(sha l).toArray⟩) ∧ Below w.heap.size w w' := by
  go_enter Try.func30, Try.ntmps30
  go_wp2_with fail
  refine (new_any _).mono ?_
  rintro e w1 ⟨rfl, hh1, hb1, hlt1⟩
  obtain ⟨g, hg⟩ : ∃ g, g = w1.heap.size - 1 := ⟨_, rfl⟩
  rw [← hg] at hh1 ⊢
  have hgl : w.heap.size ≤ g := by omega
  clear hg
  go_wp2_with fail
  refine (write_any [] l (by simp; omega) g _ hh1).mono ?_
  rintro e w2 ⟨rfl, hh2, hg2⟩
  have hb2 := below_grown hb1 hg2 (by omega) hgl
  have hs2 := hb2.size
  go_wp2_with fail
  refine (sumH_any l hl g _ hh2).mono ?_
  rintro e w3 ⟨rfl, hb3⟩
  go_wp2
  go_ret
  exact ⟨rfl, below_call hb2 hb3 hs2⟩
end Go.Proofs.Ytcfohdkdppiekaa
