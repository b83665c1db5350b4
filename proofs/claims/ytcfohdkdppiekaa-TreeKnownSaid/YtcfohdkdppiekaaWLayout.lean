/- Depths and places of a tree, by the program: contracts. -/
import Derived.Test.YtcfohdkdppiekaaSpecTree
import Derived.Test.YtcfohdkdppiekaaWNum
import Derived.Test.YtcfohdkdppiekaaShelf
import Derived.Laws.BitsAllLaws
namespace Go.Proofs.Ytcfohdkdppiekaa
open Go.RowKit Go.Proofs
set_option maxRecDepth 100000 in
set_option maxHeartbeats 1000000 in
theorem depth_any (n : Nat) (hn : n ≤ 65536) (w : World) : Calls Try.prog 99 #[.int .i64 (n : Int)] w fun e w' => e = .returned (.int .i64 (dp n : Nat)) ∧ w' = w := by
  have h1 : ¬ ((65536 : Int) < (n : Int)) := by omega
  have h0 : ¬ ((n : Int) < 0) := by omega
  obtain ⟨m, hm, hm2⟩ : ∃ m : Nat, max (n : Int) 1 - 1 = (m : Int) ∧ m = max n 1 - 1 := ⟨max n 1 - 1, by omega, rfl⟩
  have HM := hid hm2
  have hma : (if (n : Int) < 1 then (1 : Int) else (n : Int)) - 1 = (m : Int) := by split <;> omega
  have hmb : (if (1 : Int) < (n : Int) then (n : Int) else (1 : Int)) - 1 = (m : Int) := by split <;> omega
  have hm3 : (m : Int) ≤ 65536 := by omega
  clear hm2
  go_enter Try.func99, Try.ntmps99
  go_wp2_with fail
  refine (Try.bits_Len (m : Int) w (by omega) (by omega)).mono ?_
  rintro e w1 ⟨rfl, hw⟩
  subst w1
  go_wp2
  go_ret
  refine ⟨?_, rfl⟩
  unfold dp
  rw [← HM.out]; rfl
theorem may_any (d : Nat) (hd : d ≤ 16) (w : World) : Calls Try.prog 168 #[.int .i64 (d : Int)] w fun e w' => e = .returned (.bool true) ∧ w' = w := by
  go_enter Try.func168, Try.ntmps168
  have hdI : (d : Int) ≤ 16 := by omega
  go_wp2
  go_ret
  exact ⟨rfl, rfl⟩
/-- one turn of a word -/
theorem s1_int (m k x : Nat) (hx : x < 18446744073709551616) (hm : m < 2 ^ (64 - k)) (hk : k ≤ 64) :
    bits .or .u64 (bits .and .u64 ((x : Int) / 2 ^ k) (m : Int)) (IntKind.u64.wrap (bits .and .u64 (x : Int) (m : Int) * 2 ^ k)) = ((s1 m k x : Nat) : Int) := by
  have hm2 : m < 18446744073709551616 := Nat.lt_of_lt_of_le hm (Nat.pow_le_pow_right (by decide) (by omega : 64 - k ≤ 64))
  have e1 : (x : Int) / 2 ^ k = ((x >>> k : Nat) : Int) := by rw [Nat.shiftRight_eq_div_pow]; simp
  have hxk : x >>> k < 18446744073709551616 := by rw [Nat.shiftRight_eq_div_pow]; exact Nat.lt_of_le_of_lt (Nat.div_le_self _ _) hx
  have hA : (x &&& m) <<< k < 18446744073709551616 := by
    have h1 : x &&& m < 2 ^ (64 - k) := Nat.lt_of_le_of_lt Nat.and_le_right hm
    have h2 : (x &&& m) * 2 ^ k < 2 ^ (64 - k) * 2 ^ k := Nat.mul_lt_mul_of_pos_right h1 (Nat.two_pow_pos k)
    rw [Nat.shiftLeft_eq]
    rwa [← Nat.pow_add, show 64 - k + k = 64 from by omega] at h2
  have e2 : IntKind.u64.wrap (bits .and .u64 (x : Int) (m : Int) * 2 ^ k) = (((x &&& m) <<< k : Nat) : Int) := by
    rw [u64_and_nat x m hx hm2, IntKind.wrap_u64, Nat.shiftLeft_eq]
    rw [Nat.shiftLeft_eq] at hA
    have : ((x &&& m : Nat) : Int) * 2 ^ k = (((x &&& m) * 2 ^ k : Nat) : Int) := by simp
    rw [this]; omega
  rw [e1, e2, u64_and_nat _ m hxk hm2, u64_or_nat _ _ (Nat.lt_of_le_of_lt Nat.and_le_left hxk) hA]
  rfl
theorem s1_lt64 (m k x : Nat) (hm : m < 2 ^ (64 - k)) (hk : k ≤ 64) : s1 m k x < 18446744073709551616 := s1_lt m k x hm hk
/-- the two halves turned -/
def hv (e : Nat) : Nat := (e >>> 32) ||| ((e <<< 32) % 18446744073709551616)
theorem hv_int (e : Nat) (he : e < 18446744073709551616) : bits .or .u64 ((e : Int) / 4294967296) (IntKind.u64.wrap ((e : Int) * 4294967296)) = ((hv e : Nat) : Int) := by
  have e1 : (e : Int) / (4294967296 : Int) = ((e >>> 32 : Nat) : Int) := by rw [Nat.shiftRight_eq_div_pow]; omega
  have e2 : IntKind.u64.wrap ((e : Int) * 4294967296) = (((e <<< 32) % 18446744073709551616 : Nat) : Int) := by rw [IntKind.wrap_u64, Nat.shiftLeft_eq]; omega
  rw [e1, e2, u64_or_nat _ _ (by rw [Nat.shiftRight_eq_div_pow]; omega) (Nat.mod_lt _ (by decide))]
  rfl
theorem step8 (x : Nat) (hx : x < 18446744073709551616) : bits .or .u64 (bits .and .u64 ((x : Int) / 256) 71777214294589695) (IntKind.u64.wrap (bits .and .u64 (x : Int) 71777214294589695 * 256)) = ((s1 71777214294589695 8 x : Nat) : Int) := by
  have := s1_int 71777214294589695 8 x hx (by decide) (by decide)
  rw [show (2 : Int) ^ 8 = 256 from rfl] at this
  exact this
theorem step16 (x : Nat) (hx : x < 18446744073709551616) : bits .or .u64 (bits .and .u64 ((x : Int) / 65536) 281470681808895) (IntKind.u64.wrap (bits .and .u64 (x : Int) 281470681808895 * 65536)) = ((s1 281470681808895 16 x : Nat) : Int) := by
  have := s1_int 281470681808895 16 x hx (by decide) (by decide)
  rw [show (2 : Int) ^ 16 = 65536 from rfl] at this
  exact this
theorem step1 (x : Nat) (hx : x < 18446744073709551616) : bits .or .u64 (bits .and .u64 ((x : Int) / 2) 6148914691236517205) (IntKind.u64.wrap (bits .and .u64 (x : Int) 6148914691236517205 * 2)) = ((s1 6148914691236517205 1 x : Nat) : Int) := by
  have := s1_int 6148914691236517205 1 x hx (by decide) (by decide)
  rw [show (2 : Int) ^ 1 = 2 from rfl] at this
  exact this
theorem step2 (x : Nat) (hx : x < 18446744073709551616) : bits .or .u64 (bits .and .u64 ((x : Int) / 4) 3689348814741910323) (IntKind.u64.wrap (bits .and .u64 (x : Int) 3689348814741910323 * 4)) = ((s1 3689348814741910323 2 x : Nat) : Int) := by
  have := s1_int 3689348814741910323 2 x hx (by decide) (by decide)
  rw [show (2 : Int) ^ 2 = 4 from rfl] at this
  exact this
theorem step4 (x : Nat) (hx : x < 18446744073709551616) : bits .or .u64 (bits .and .u64 ((x : Int) / 16) 1085102592571150095) (IntKind.u64.wrap (bits .and .u64 (x : Int) 1085102592571150095 * 16)) = ((s1 1085102592571150095 4 x : Nat) : Int) := by
  have := s1_int 1085102592571150095 4 x hx (by decide) (by decide)
  rw [show (2 : Int) ^ 4 = 16 from rfl] at this
  exact this
set_option maxRecDepth 100000 in
set_option maxHeartbeats 1000000 in
theorem rbytes_any (x : Nat) (hx : x < 18446744073709551616) (w : World) : Calls Try.prog 174 #[.int .u64 (x : Int)] w fun e w' => e = .returned (.int .u64 ((hv (s1 281470681808895 16 (s1 71777214294589695 8 x)) : Nat) : Int)) ∧ w' = w := by
  go_enter Try.func174, Try.ntmps174
  go_wp2_with fail
  go_ret
  refine ⟨ret_int ?_, rfl⟩
  rw [step8 x hx, step16 _ (s1_lt64 _ 8 _ (by decide) (by decide)), hv_int _ (s1_lt64 _ 16 _ (by decide) (by decide))]
set_option maxRecDepth 100000 in
set_option maxHeartbeats 1000000 in
theorem rev64_any (x : Nat) (hx : x < 18446744073709551616) (w : World) : Calls Try.prog 169 #[.int .u64 (x : Int)] w fun e w' => e = .returned (.int .u64 ((r64 x : Nat) : Int)) ∧ w' = w := by
  go_enter Try.func169, Try.ntmps169
  go_wp2_with fail
  rw [step1 x hx, step2 _ (s1_lt64 _ 1 _ (by decide) (by decide)), step4 _ (s1_lt64 _ 2 _ (by decide) (by decide))]
  refine (rbytes_any _ (s1_lt64 _ 4 _ (by decide) (by decide)) w).mono ?_
  rintro e w1 ⟨rfl, hw⟩
  subst w1
  go_wp2
  go_ret
  exact ⟨rfl, rfl⟩
theorem r64_lt (x : Nat) : r64 x < 18446744073709551616 := by
  unfold r64
  refine Nat.or_lt_two_pow (n := 64) ?_ (Nat.mod_lt _ (by decide))
  rw [Nat.shiftRight_eq_div_pow]
  exact Nat.lt_of_le_of_lt (Nat.div_le_self _ _) (s1_lt _ 16 _ (by decide) (by decide))
set_option maxRecDepth 100000 in
set_option maxHeartbeats 1000000 in
theorem lturn_any (k d : Nat) (hd : d ≤ 16) (hk : k < 2 ^ d) (w : World) : Calls Try.prog 145 #[.int .u64 (k : Int), .int .i64 (d : Int)] w fun e w' => e = .returned (.int .u64 ((rv d k : Nat) : Int)) ∧ w' = w := by
  have hk16 : k < 65536 := Nat.lt_of_lt_of_le hk (Nat.pow_le_pow_right (by decide) hd)
  have hk0 : (k : Int) / 2 ^ d = 0 := by
    have : k / 2 ^ d = 0 := Nat.div_eq_of_lt hk
    have h2 : ((k / 2 ^ d : Nat) : Int) = 0 := by rw [this]; rfl
    simpa using h2
  obtain ⟨m, hm⟩ : ∃ m : Nat, m = 63 - d := ⟨_, rfl⟩
  have hmI : 63 - (d : Int) = (m : Int) := by omega
  have hmle : m ≤ 63 := by omega
  have hrv := r64_rv d k (by omega) hk
  rw [show 64 - d = m + 1 by omega, Nat.pow_succ, ← Nat.div_div_eq_div_mul] at hrv
  have hdiv : (r64 k : Int) / 2 ^ m / 2 = ((rv d k : Nat) : Int) := by
    rw [← hrv]; simp
  obtain ⟨R, hR⟩ : ∃ R, R = r64 k := ⟨_, rfl⟩
  rw [← hR] at hdiv
  have HV := hid hdiv
  have HR := hid hR
  have hRl : R < 18446744073709551616 := by rw [hR]; exact r64_lt k
  clear hdiv hrv hm hR hk
  go_enter Try.func145, Try.ntmps145
  go_wp2_with fail
  refine (may_any d hd w).mono ?_
  rintro e w1 ⟨rfl, hw⟩
  subst w1
  go_wp2_with fail
  refine (rev64_any k (by omega) w).mono ?_
  rintro e w1 ⟨rfl, hw⟩
  subst w1
  rw [← HR.out]
  go_wp2
  go_ret
  exact ⟨ret_int HV.out, rfl⟩
theorem leaf_at (k d : Nat) (hd : d ≤ 16) (hk : k < 2 ^ d) (w : World) : Calls Try.prog 101 #[.int .u64 (k : Int), .int .i64 (d : Int)] w fun e w' => e = .returned (.int .u64 ((rv d k : Nat) : Int)) ∧ w' = w := by
  go_enter Try.func101, Try.ntmps101
  go_wp2_with fail
  refine (lturn_any k d hd hk w).mono ?_
  rintro e w1 ⟨rfl, hw⟩
  subst w1
  go_wp2
  go_ret
  exact ⟨rfl, rfl⟩
theorem element_at (k d : Nat) (hd : d ≤ 16) (hk : k < 2 ^ d) (w : World) : Calls Try.prog 100 #[.int .u64 (k : Int), .int .i64 (d : Int)] w fun e w' => e = .returned (.int .u64 ((rv d k : Nat) : Int)) ∧ w' = w := by
  go_enter Try.func100, Try.ntmps100
  go_wp2_with fail
  refine (lturn_any k d hd hk w).mono ?_
  rintro e w1 ⟨rfl, hw⟩
  subst w1
  go_wp2
  go_ret
  exact ⟨rfl, rfl⟩
theorem parent_at (k : Nat) (w : World) : Calls Try.prog 102 #[.int .u64 (k : Int)] w fun e w' => e = .returned (.int .u64 ((k / 2 : Nat) : Int)) ∧ w' = w := by
  go_enter Try.func102, Try.ntmps102
  go_wp2
  go_ret
  exact ⟨ret_int (by omega), rfl⟩
end Go.Proofs.Ytcfohdkdppiekaa
