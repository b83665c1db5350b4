/- New hashers, copies, lengths: contracts. -/
import Derived.Test.YtcfohdkdppiekaaWWrite
namespace Go.Proofs.Ytcfohdkdppiekaa
open Go.RowKit Go.Proofs
theorem isH.keep {w w' : World} {g : Nat} {l : List UInt8} (h : isH w g l) (hb : Below w.heap.size w w') : isH w' g l := by
  obtain ⟨q, hq, ha⟩ := h
  exact ⟨q, hq, ha.keep hb⟩
theorem isH.lt {w : World} {g : Nat} {l : List UInt8} (h : isH w g l) : g < w.heap.size := by
  obtain ⟨q, _, ha⟩ := h
  exact ha.lt
theorem isH.kept {w w' : World} {g k : Nat} {l : List UInt8} (h : isH w g l) (hg : w.grownBy w' (some k)) (hne : g ≠ k) : isH w' g l := by
  obtain ⟨q, hq, ha⟩ := h
  exact ⟨q, hq, ha.kept hg hne⟩
theorem below_grown {B g : Nat} {a w w' : World} (h : Below B a w) (hg : w.grownBy w' (some g)) (hB : B ≤ w.heap.size) (hgB : B ≤ g) : Below B a w' :=
  h.grown hg hB fun k hk => by cases hk; exact hgB
set_option maxRecDepth 100000 in
set_option maxHeartbeats 1000000 in
theorem first_any (w : World) : Calls Try.prog 111 #[] w fun e w' => e = .returned (.agg st0.cells.toArray) ∧ Below w.heap.size w w' := by
  go_enter Try.func111, Try.ntmps111
  go_wp2_with (first | (refine wpList_build_at rfl 135 _ rfl st0.cells.toArray (by kernel_rfl) ?_) | (refine wpList_store_arr rfl 135 _ _ rfl _ st0.cells rfl rfl _ _ (arr.new _ _ ((w64 []).take 8)) (St.state_info _) rfl (St.cells_one _) ?_; intro w1 hw1))
  subst hw1
  refine bodyPost_ret (arr.results rfl _ _ w.heap.size _ _ _ rfl ((arr.new _ _ ((w64 []).take 8)).row _) Try.underlying135 rfl (St.state_info _)) rfl ⟨rfl, ?_⟩
  exact below_setRow' ((Below.refl _ _).alloc (Nat.le_refl _) _) (Nat.le_refl _) _
def zero64 : List UInt8 := List.replicate 64 0
theorem kept_nil : Kept [] zero64 := ⟨rfl, rfl⟩
set_option maxRecDepth 100000 in
set_option maxHeartbeats 1000000 in
theorem new_any (w : World) : Calls Try.prog 33 #[] w fun e w' => e = .returned (.pointer (some ⟨w'.heap.size - 1, 0, none⟩)) ∧ isH w' (w'.heap.size - 1) [] ∧ Below w.heap.size w w' ∧ w.heap.size < w'.heap.size := by
  go_enter Try.func33, Try.ntmps33
  go_wp2_with (first | (go_at_call 111; refine (first_any _).mono ?_; rintro e w1 ⟨rfl, hb1⟩) | (refine wpList_build_at rfl 139 _ rfl (hcs st0 zero64 [.int .u64 0]).toArray (by kernel_rfl) ?_))
  go_ret
  have hs := hb1.size
  refine ⟨by simp, ⟨zero64, kept_nil, ?_⟩, hb1.alloc hs _, by simp; omega⟩
  exact arr.newAt _ _ (hcs st0 zero64 [.int .u64 0]) _ (by simp)
set_option maxHeartbeats 400000 in
theorem len_any (l : List UInt8) (g : Nat) (w : World) (hw : isH w g l) : Calls Try.prog 37 #[.pointer (some ⟨g, 0, none⟩)] w fun e w' => e = .returned (.int .u64 (l.length : Int)) ∧ w' = w := by
  obtain ⟨q, hq, ha⟩ := hw
  have c72 := ha.cell 72 _ (hcs_last _ q _ hq.len)
  go_enter Try.func37, Try.ntmps37
  go_wp2
  go_ret
  exact ⟨rfl, rfl⟩
end Go.Proofs.Ytcfohdkdppiekaa
