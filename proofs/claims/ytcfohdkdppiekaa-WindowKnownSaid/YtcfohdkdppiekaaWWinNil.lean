/- window's Find and Digest of a window that is none: contracts. -/
import Derived.Test.YtcfohdkdppiekaaWWinDig
namespace Go.Proofs.Ytcfohdkdppiekaa
open Go Go.RowKit Go.Proofs
set_option maxRecDepth 100000 in
theorem digest_nil (w : World) : Calls Try.prog 61 #[.pointer none] w fun e w' => e = .returned (.string ByteArray.empty) ∧ Below w.heap.size w w' := by
  refine calls_of_marks Try.func61 rfl ?_
  simp only [Try.ntmps61, List.size_toArray, List.length_cons, List.length_nil, Nat.reduceAdd, Nat.reduceSub, Array.replicate_succ, Array.replicate_zero, List.push_toArray, List.append_toArray, List.nil_append, List.cons_append]
  go_wp2
  exact marks_none rfl (results_tmp rfl _ _ _) ⟨rfl, Below.refl _ _⟩
set_option maxRecDepth 100000 in
set_option maxHeartbeats 1000000 in
theorem find_nil (q : Int) (w : World) : Calls Try.prog 57 #[.pointer none, .int .u64 q] w fun e w' => e = .returned (.tuple #[.int .u64 0, .int .u64 0, .string ByteArray.empty, .int .i64 1]) ∧ Below w.heap.size w w' := by
  refine calls_of_marks Try.func57 rfl ?_
  simp only [Try.ntmps57, List.size_toArray, List.length_cons, List.length_nil, Nat.reduceAdd, Nat.reduceSub, Array.replicate_succ, Array.replicate_zero, List.push_toArray, List.append_toArray, List.nil_append, List.cons_append]
  go_wp2
  have h4 : arr (((((w.alloc (.cells #[.int .u64 q] 32)).alloc (.cells #[.int .u64 0] 32)).alloc (.cells #[.int .u64 0] 32)).alloc (.cells #[.string ByteArray.empty] 9)).alloc (.cells #[.int .i64 1] 57)) (w.heap.size + 1) 32 [.int .u64 0] := (((arr.newAt (w.alloc _) _ [_] _ (by simp)).alloc _).alloc _).alloc _
  have h5 : arr (((((w.alloc (.cells #[.int .u64 q] 32)).alloc (.cells #[.int .u64 0] 32)).alloc (.cells #[.int .u64 0] 32)).alloc (.cells #[.string ByteArray.empty] 9)).alloc (.cells #[.int .i64 1] 57)) (w.heap.size + 1 + 1) 32 [.int .u64 0] := ((arr.newAt ((w.alloc _).alloc _) _ [_] _ (by simp)).alloc _).alloc _
  have h6 : arr (((((w.alloc (.cells #[.int .u64 q] 32)).alloc (.cells #[.int .u64 0] 32)).alloc (.cells #[.int .u64 0] 32)).alloc (.cells #[.string ByteArray.empty] 9)).alloc (.cells #[.int .i64 1] 57)) (w.heap.size + 1 + 1 + 1) 9 [.string ByteArray.empty] := (arr.newAt (((w.alloc _).alloc _).alloc _) _ [_] _ (by simp)).alloc _
  have h7 : arr (((((w.alloc (.cells #[.int .u64 q] 32)).alloc (.cells #[.int .u64 0] 32)).alloc (.cells #[.int .u64 0] 32)).alloc (.cells #[.string ByteArray.empty] 9)).alloc (.cells #[.int .i64 1] 57)) (w.heap.size + 1 + 1 + 1 + 1) 57 [.int .i64 1] := arr.newAt ((((w.alloc _).alloc _).alloc _).alloc _) _ [_] _ (by simp)
  refine marks_none rfl (results_cells4 rfl _ _ _ _ _ _ _ _ _ _ rfl rfl rfl rfl (load_one h4 Try.underlying32 rfl) (load_one h5 Try.underlying32 rfl) (load_one h6 Try.underlying9 rfl) (load_one h7 Try.underlying57 rfl)) ⟨rfl, ?_⟩
  exact (((((Below.refl _ _).alloc (Nat.le_refl _) _).alloc (by simp) _).alloc (by simp; omega) _).alloc (by simp; omega) _).alloc (by simp; omega) _
end Go.Proofs.Ytcfohdkdppiekaa
