/- The reference's words: turned, constants; the numbers behind them. -/
import Derived.Test.YtcfohdkdppiekaaProg
import Derived.Test.YtcfohdkdppiekaaKit
import Derived.Test.YtcfohdkdppiekaaSpecSha
namespace Go.Proofs.Ytcfohdkdppiekaa
open Go.RowKit Go.Proofs
theorem rr_walk (x : Nat) (n : Int) (hn : 0 ≤ n ∧ n ≤ 32) (hx : x < 4294967296) :
    bits BinOp.or IntKind.u32 ((x : Int) / 2 ^ n.toNat) ((x : Int) * 2 ^ (32 - n).toNat % 4294967296) = ((rr n.toNat x : Nat) : Int) := by
  have e1 : ((x : Int) / 2 ^ n.toNat) = ((x / 2 ^ n.toNat : Nat) : Int) := by simp
  have e2 : ((x : Int) * 2 ^ (32 - n).toNat % 4294967296) = ((x * 2 ^ (32 - n.toNat) % 4294967296 : Nat) : Int) := by
    have : (32 - n).toNat = 32 - n.toNat := by omega
    rw [this]; simp
  rw [e1, e2, u32_or_nat _ _ (Nat.lt_of_le_of_lt (Nat.div_le_self _ _) hx) (Nat.mod_lt _ (by decide))]
  rfl
set_option maxHeartbeats 400000 in
theorem turned_any (x : Nat) (hx : x < 4294967296) (n : Int) (hn : 0 ≤ n ∧ n ≤ 32) (w : World) :
    Calls Try.prog 148 #[.int .u32 (x : Int), .int .i64 n] w fun e w' => e = .returned (.int .u32 ((rr n.toNat x : Nat) : Int)) ∧ ∃ k, w' = w.drewN k := by
  have HX := hid hx
  clear hx
  go_enter Try.func148, Try.ntmps148
  go_wp2
  go_quiet (fail)
  go_wp2
  go_ret
  exact ⟨ret_int (rr_walk x n hn HX.out), _, rfl⟩
theorem x3_walk (a b c : Nat) (ha : a < 4294967296) (hb : b < 4294967296) (hc : c < 4294967296) :
    bits BinOp.xor IntKind.u32 (bits BinOp.xor IntKind.u32 (a : Int) (b : Int)) (c : Int) = (((a ^^^ b) ^^^ c : Nat) : Int) := by
  rw [u32_xor_nat _ _ ha hb, u32_xor_nat _ _ (xr_lt _ _ ha hb) hc]
/-- words as cells -/
def wcs (m : List Nat) : List Value := m.map fun x : Nat => .int .u32 (x : Int)
set_option maxRecDepth 100000 in
set_option maxHeartbeats 1000000 in
theorem constants_any (w : World) :
    Calls Try.prog 149 #[] w fun e w' => e = .returned (.agg (wcs kon).toArray) ∧ Below w.heap.size w w' := by
  go_enter Try.func149, Try.ntmps149
  go_wp2_with (first | (refine wpList_build_at rfl 200 _ rfl (wcs kon).toArray (by kernel_rfl) ?_) | (refine wpList_store_row rfl 200 _ _ rfl w.heap.size (wcs kon).toArray rfl rfl 200 _ (heap_alloc_new _ _) (by kernel_rfl) rfl (by kernel_rfl) ?_))
  refine bodyPost_ret (results_cell_row rfl _ _ w.heap.size 200 _ (0, 0) _ rfl (setRow_heap _ _ _ _ _ _ (heap_alloc_new _ _)) Try.underlying200 rfl (by kernel_rfl)) rfl ⟨rfl, ?_⟩
  exact below_setRow' ((Below.refl _ _).alloc (Nat.le_refl _) _) (Nat.le_refl _) _
end Go.Proofs.Ytcfohdkdppiekaa
