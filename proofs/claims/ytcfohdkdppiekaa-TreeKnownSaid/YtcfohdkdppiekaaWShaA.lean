/- The program's turning of words. -/
import Derived.Test.YtcfohdkdppiekaaWBlkA
namespace Go.Proofs.Ytcfohdkdppiekaa
open Go.RowKit Go.Proofs
set_option maxRecDepth 100000 in
theorem rot_count (k : Int) (hk : -31 ≤ k ∧ k ≤ -1) : bits BinOp.and IntKind.u64 (IntKind.u64.wrap k) 31 = 32 + k := by
  have h1 : IntKind.u64.wrap k = ((18446744073709551616 + k).toNat : Int) := by
    rw [IntKind.wrap_u64]; omega
  have h2 : (18446744073709551616 + k).toNat < 18446744073709551616 := by omega
  rw [h1, show (31 : Int) = ((31 : Nat) : Int) from rfl, u64_and_nat _ _ h2 (by decide), nat_mask5]
  omega
set_option maxHeartbeats 400000 in
theorem rot_any (x : Nat) (hx : x < 4294967296) (k : Int) (hk : -31 ≤ k ∧ k ≤ -1) (w : World) :
    Calls Try.prog 151 #[.int .u32 (x : Int), .int .i64 k] w fun e w' => e = .returned (.int .u32 ((rr (-k).toNat x : Nat) : Int)) ∧ w' = w := by
  have HX := hid hx
  clear hx
  have hb := rot_count k hk
  go_enter Try.func151, Try.ntmps151
  go_wp2
  go_ret
  refine ⟨ret_int ?_, rfl⟩
  have e1 : ((x : Int) * 2 ^ (32 + k).toNat % 4294967296) = ((x * 2 ^ (32 - (-k).toNat) % 4294967296 : Nat) : Int) := by
    rw [show (32 + k).toNat = 32 - (-k).toNat from by omega]; simp
  have e2 : ((x : Int) / 2 ^ (32 - (32 + k)).toNat) = ((x / 2 ^ (-k).toNat : Nat) : Int) := by
    rw [show (32 - (32 + k)).toNat = (-k).toNat from by omega]; simp
  rw [e1, e2, u32_or_nat _ _ (Nat.mod_lt _ (by decide)) (Nat.lt_of_le_of_lt (Nat.div_le_self _ _) HX.out), Nat.or_comm]
  rfl
theorem rot_neg (x : Nat) (hx : x < 4294967296) (k : Int) (hk : 1 ≤ k ∧ k ≤ 31) (w : World) :
    Calls Try.prog 151 #[.int .u32 (x : Int), .int .i64 (-k)] w fun e w' => e = .returned (.int .u32 ((rr k.toNat x : Nat) : Int)) ∧ w' = w := by
  have := rot_any x hx (-k) (by omega) w
  rwa [Int.neg_neg] at this
set_option maxRecDepth 100000 in
set_option maxHeartbeats 400000 in
theorem mix_any (x : Nat) (hx : x < 4294967296) (a b m : Int) (ha : 1 ≤ a ∧ a ≤ 31) (hb : 1 ≤ b ∧ b ≤ 31) (hm : 0 ≤ m ∧ m ≤ 31) (w : World) :
    Calls Try.prog 150 #[.int .u32 (x : Int), .int .i64 a, .int .i64 b, .int .i64 m] w fun e w' => e = .returned (.int .u32 (((rr a.toNat x ^^^ rr b.toNat x) ^^^ (x / 2 ^ m.toNat) : Nat) : Int)) ∧ ∃ k, w' = w.drewN k := by
  have HX := hid hx
  clear hx
  have hna : -31 ≤ -a ∧ -a ≤ -1 := by omega
  have hnb : -31 ≤ -b ∧ -b ≤ -1 := by omega
  go_enter Try.func150, Try.ntmps150
  go_wp2
  go_quiet ((go_at_call 151; exact Calls.quiet_of_same (rot_neg _ HX.out _ (by omega) _)))
  go_wp2
  go_ret
  refine ⟨ret_int ?_, _, rfl⟩
  have e : ((x : Int) / 2 ^ m.toNat) = ((x / 2 ^ m.toNat : Nat) : Int) := by simp
  rw [e, u32_xor_nat _ _ (rr_lt _ _ HX.out) (rr_lt _ _ HX.out), u32_xor_nat _ _ (xr_lt _ _ (rr_lt _ _ HX.out) (rr_lt _ _ HX.out)) (Nat.lt_of_le_of_lt (Nat.div_le_self _ _) HX.out)]

set_option maxHeartbeats 1000000 in
theorem turn_any (x : Nat) (hx : x < 4294967296) (g : Nat) (n1 n2 n3 : Int) (h1 : 1 ≤ n1 ∧ n1 ≤ 31) (h2 : 1 ≤ n2 ∧ n2 ≤ 31) (h3 : 1 ≤ n3 ∧ n3 ≤ 31) (w : World)
    (c1 : w.cell? ⟨g, 0, none⟩ = some (.int .i64 n1)) (c2 : w.cell? ⟨g, 1, none⟩ = some (.int .i64 n2)) (c3 : w.cell? ⟨g, 2, none⟩ = some (.int .i64 n3)) :
    Calls Try.prog 152 #[.int .u32 (x : Int), .slice (some ⟨g, 0, none⟩) 3 3] w fun e w' => e = .returned (.int .u32 (((rr n1.toNat x ^^^ rr n2.toNat x) ^^^ rr n3.toNat x : Nat) : Int)) ∧ w' = w := by
  have HX := hid hx
  clear hx
  have L1 := rr_lt n1.toNat x HX.out
  have L2 := rr_lt n2.toNat x HX.out
  have L3 := rr_lt n3.toNat x HX.out
  have X1 : Hid (bits BinOp.xor IntKind.u32 0 ((rr n1.toNat x : Nat) : Int) = ((rr n1.toNat x : Nat) : Int)) := by
    show _ = _
    have := u32_xor_nat 0 _ (by decide) L1
    simpa using this
  have X2 := hid (x3_walk _ _ _ L1 L2 L3)
  clear L1 L2 L3
  go_enter Try.func152, Try.ntmps152
  go_wp2
  refine wp_loop_rounds 4 ?_
  rw [rounds_succ]
  go_wp2_with (go_at_call 151; refine (rot_neg _ HX.out _ h1 _).mono ?_; rintro e w' ⟨rfl, rfl⟩)
  rw [rounds_succ]
  go_wp2_with (go_at_call 151; refine (rot_neg _ HX.out _ h2 _).mono ?_; rintro e w' ⟨rfl, rfl⟩)
  rw [rounds_succ]
  go_wp2_with (go_at_call 151; refine (rot_neg _ HX.out _ h3 _).mono ?_; rintro e w' ⟨rfl, rfl⟩)
  rw [rounds_succ]
  go_wp2
  go_ret
  refine ⟨ret_int ?_, rfl⟩
  rw [X1.out]
  exact X2.out
set_option maxRecDepth 100000 in
set_option maxHeartbeats 1000000 in
theorem consts_any (w : World) :
    Calls Try.prog 153 #[] w fun e w' => e = .returned (.agg (wcs kon).toArray) ∧ Below w.heap.size w w' := by
  go_enter Try.func153, Try.ntmps153
  go_wp2_with (first | (refine wpList_build_at rfl 200 _ rfl (wcs kon).toArray (by kernel_rfl) ?_) | (refine wpList_store_row rfl 200 _ _ rfl w.heap.size (wcs kon).toArray rfl rfl 200 _ (heap_alloc_new _ _) (by kernel_rfl) rfl (by kernel_rfl) ?_))
  refine bodyPost_ret (results_cell_row rfl _ _ w.heap.size 200 _ (0, 0) _ rfl (setRow_heap _ _ _ _ _ _ (heap_alloc_new _ _)) Try.underlying200 rfl (by kernel_rfl)) rfl ⟨rfl, ?_⟩
  exact below_setRow' ((Below.refl _ _).alloc (Nat.le_refl _) _) (Nat.le_refl _) _
end Go.Proofs.Ytcfohdkdppiekaa
