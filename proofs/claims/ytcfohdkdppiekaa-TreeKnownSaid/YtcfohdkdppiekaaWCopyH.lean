/- A hasher's copy. -/
import Derived.Test.YtcfohdkdppiekaaWHash
namespace Go.Proofs.Ytcfohdkdppiekaa
open Go.RowKit Go.Proofs
def zeroH : List Value := hcs ⟨0, 0, 0, 0, 0, 0, 0, 0⟩ zero64 [.int .u64 0]
theorem info_hasher : (Try.prog.info? 139).map (·.size) = some 73 := by kernel_rfl
theorem hcs_one (s : St) (q : List UInt8) (k : IntKind) (n : Int) : (hcs s q [.int k n]).all (·.oneCell') = true := by
  unfold hcs
  rw [List.all_append, List.all_append, St.cells_one]
  have : (bcs q).all (·.oneCell') = true := by
    rw [List.all_eq_true]
    intro x hx
    unfold bcs at hx
    obtain ⟨c, _, rfl⟩ := List.mem_map.1 hx
    rfl
  rw [this]
  rfl
theorem hcs_get (s : St) (q : List UInt8) (tl : List Value) (j : Nat) (v : Value) (h : (hcs s q tl)[j]? = some v) : (hcs s q tl)[0 + j]? = some v := by rwa [Nat.zero_add]
theorem hcs_info (s : St) (q : List UInt8) (v : Value) (hq : q.length = 64) : (Try.prog.info? 139).map (·.size) = some (hcs s q [v]).length := by
  rw [hcs_len _ _ _ hq]; exact info_hasher
theorem zeroH_len : zeroH.length = 73 := rfl
set_option maxRecDepth 100000 in
set_option maxHeartbeats 1000000 in
theorem copy_any (l : List UInt8) (g : Nat) (w : World) (hw : isH w g l) : Calls Try.prog 38 #[.pointer (some ⟨g, 0, none⟩)] w fun e w' => e = .returned (.pointer (some ⟨w.heap.size, 0, none⟩)) ∧ isH w' w.heap.size l ∧ Below w.heap.size w w' := by
  obtain ⟨q, hq, ha⟩ := hw
  have HQ := hid hq
  clear hq
  go_enter Try.func38, Try.ntmps38
  go_wp2_with (first | (refine wpList_load_part rfl 139 _ rfl g 0 rfl (hcs (blks st0 l (l.length / 64)) q [.int .u64 (l.length : Int)]) _ (fun j v h => ha.cell _ _ (hcs_get _ _ _ j v h)) Try.underlying139 rfl (hcs_info _ _ _ HQ.out.len) ?_) | (refine wpList_store_arr rfl 139 _ _ rfl _ (hcs (blks st0 l (l.length / 64)) q [.int .u64 (l.length : Int)]) rfl rfl _ _ (arr.new _ _ zeroH) (hcs_info _ _ _ HQ.out.len) (by rw [hcs_len _ _ _ HQ.out.len]; exact zeroH_len) (hcs_one _ _ _ _) ?_; intro w1 hw1))
  subst hw1
  go_ret
  refine ⟨rfl, ⟨q, HQ.out, (arr.new _ _ zeroH).row _⟩, ?_⟩
  exact below_setRow' ((Below.refl _ _).alloc (Nat.le_refl _) _) (Nat.le_refl _) _
end Go.Proofs.Ytcfohdkdppiekaa
