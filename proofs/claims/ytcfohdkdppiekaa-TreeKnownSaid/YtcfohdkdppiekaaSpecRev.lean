/- A number's bits turned round: plain Lean. -/
namespace Go.Proofs.Ytcfohdkdppiekaa
/-- the low d bits of k, turned round -/
def rv : Nat → Nat → Nat
  | 0, _ => 0
  | d + 1, k => (k % 2) * 2 ^ d + rv d (k / 2)
theorem rv_lt (d k : Nat) : rv d k < 2 ^ d := by
  induction d generalizing k with
  | zero => simp [rv]
  | succ d ih =>
    have := ih (k / 2)
    have h2 : k % 2 < 2 := Nat.mod_lt _ (by decide)
    unfold rv
    rw [Nat.pow_succ]
    rcases Nat.lt_or_ge (k % 2) 1 with h | h
    · have : k % 2 = 0 := by omega
      rw [this]; omega
    · have : k % 2 = 1 := by omega
      rw [this]; omega
theorem rv_bit (d k j : Nat) : (rv d k).testBit j = (decide (j < d) && k.testBit (d - 1 - j)) := by
  induction d generalizing k j with
  | zero => simp [rv]
  | succ d ih =>
    unfold rv
    rw [Nat.mul_comm, Nat.testBit_two_pow_mul_add _ (rv_lt d _)]
    by_cases h : j < d
    · rw [if_pos h, ih]
      have e : d - j = (d - 1 - j) + 1 := by omega
      simp only [h, decide_true, Bool.true_and, show j < d + 1 from by omega, show d + 1 - 1 - j = d - j from by omega, e]
      rw [Nat.testBit_succ]
    · rw [if_neg h]
      rcases Nat.lt_or_ge d j with h2 | h2
      · have h3 : (k % 2).testBit (j - d) = false := Nat.testBit_lt_two_pow (Nat.lt_of_lt_of_le (Nat.mod_lt _ (by decide : 0 < 2)) (by have : 2 ^ 1 ≤ 2 ^ (j - d) := Nat.pow_le_pow_right (by decide) (by omega); simpa using this))
        rw [h3]
        simp; omega
      · obtain rfl : j = d := by omega
        simp [Nat.testBit_zero]
theorem rv_snoc (i k : Nat) : rv (i + 1) k = 2 * rv i k + (k / 2 ^ i) % 2 := by
  induction i generalizing k with
  | zero => simp [rv]
  | succ i ih =>
    have h := ih (k / 2)
    rw [rv, h, rv, Nat.div_div_eq_div_mul, Nat.pow_succ, Nat.mul_comm (2 ^ i) 2]
    rw [Nat.mul_add]
    have : k % 2 * (2 * 2 ^ i) = 2 * (k % 2 * 2 ^ i) := by rw [Nat.mul_left_comm]
    rw [this]; omega
theorem rv_rv (d k : Nat) (hk : k < 2 ^ d) : rv d (rv d k) = k := by
  apply Nat.eq_of_testBit_eq
  intro j
  rw [rv_bit, rv_bit]
  by_cases h : j < d
  · simp only [h, decide_true, Bool.true_and, show d - 1 - j < d from by omega, show d - 1 - (d - 1 - j) = j from by omega]
  · simp only [h, decide_false, Bool.false_and]
    exact (Nat.testBit_lt_two_pow (Nat.lt_of_lt_of_le hk (Nat.pow_le_pow_right (by decide) (by omega)))).symm
/-- the library's six turns of a word of 64 bits -/
def s1 (m k x : Nat) : Nat := ((x >>> k) &&& m) ||| ((x &&& m) <<< k)
def r64 (x : Nat) : Nat :=
  let a := s1 6148914691236517205 1 x
  let b := s1 3689348814741910323 2 a
  let c := s1 1085102592571150095 4 b
  let d := s1 71777214294589695 8 c
  let e := s1 281470681808895 16 d
  (e >>> 32) ||| ((e <<< 32) % 18446744073709551616)
theorem s1_bit (m k x j : Nat) : (s1 m k x).testBit j = ((x.testBit (k + j) && m.testBit j) || (decide (k ≤ j) && (x.testBit (j - k) && m.testBit (j - k)))) := by
  unfold s1
  simp only [Nat.testBit_or, Nat.testBit_and, Nat.testBit_shiftRight, Nat.testBit_shiftLeft]
theorem mb0 : ∀ i, i < 200 → Nat.testBit 6148914691236517205 i = decide (i < 64 ∧ i % 2 < 1) := by decide +kernel
theorem mb1 : ∀ i, i < 200 → Nat.testBit 3689348814741910323 i = decide (i < 64 ∧ i % 4 < 2) := by decide +kernel
theorem mb2 : ∀ i, i < 200 → Nat.testBit 1085102592571150095 i = decide (i < 64 ∧ i % 8 < 4) := by decide +kernel
theorem mb3 : ∀ i, i < 200 → Nat.testBit 71777214294589695 i = decide (i < 64 ∧ i % 16 < 8) := by decide +kernel
theorem mb4 : ∀ i, i < 200 → Nat.testBit 281470681808895 i = decide (i < 64 ∧ i % 32 < 16) := by decide +kernel
theorem r64_bit (x j : Nat) (hj : j < 64) : (r64 x).testBit j = x.testBit (63 - j) := by
  unfold r64
  simp only [Nat.testBit_or, Nat.testBit_shiftRight, Nat.testBit_mod_two_pow, show 18446744073709551616 = 2 ^ 64 from rfl, Nat.testBit_shiftLeft, s1_bit]
  match j, hj with
  | 0, _ => simp [mb0, mb1, mb2, mb3, mb4]
  | 1, _ => simp [mb0, mb1, mb2, mb3, mb4]
  | 2, _ => simp [mb0, mb1, mb2, mb3, mb4]
  | 3, _ => simp [mb0, mb1, mb2, mb3, mb4]
  | 4, _ => simp [mb0, mb1, mb2, mb3, mb4]
  | 5, _ => simp [mb0, mb1, mb2, mb3, mb4]
  | 6, _ => simp [mb0, mb1, mb2, mb3, mb4]
  | 7, _ => simp [mb0, mb1, mb2, mb3, mb4]
  | 8, _ => simp [mb0, mb1, mb2, mb3, mb4]
  | 9, _ => simp [mb0, mb1, mb2, mb3, mb4]
  | 10, _ => simp [mb0, mb1, mb2, mb3, mb4]
  | 11, _ => simp [mb0, mb1, mb2, mb3, mb4]
  | 12, _ => simp [mb0, mb1, mb2, mb3, mb4]
  | 13, _ => simp [mb0, mb1, mb2, mb3, mb4]
  | 14, _ => simp [mb0, mb1, mb2, mb3, mb4]
  | 15, _ => simp [mb0, mb1, mb2, mb3, mb4]
  | 16, _ => simp [mb0, mb1, mb2, mb3, mb4]
  | 17, _ => simp [mb0, mb1, mb2, mb3, mb4]
  | 18, _ => simp [mb0, mb1, mb2, mb3, mb4]
  | 19, _ => simp [mb0, mb1, mb2, mb3, mb4]
  | 20, _ => simp [mb0, mb1, mb2, mb3, mb4]
  | 21, _ => simp [mb0, mb1, mb2, mb3, mb4]
  | 22, _ => simp [mb0, mb1, mb2, mb3, mb4]
  | 23, _ => simp [mb0, mb1, mb2, mb3, mb4]
  | 24, _ => simp [mb0, mb1, mb2, mb3, mb4]
  | 25, _ => simp [mb0, mb1, mb2, mb3, mb4]
  | 26, _ => simp [mb0, mb1, mb2, mb3, mb4]
  | 27, _ => simp [mb0, mb1, mb2, mb3, mb4]
  | 28, _ => simp [mb0, mb1, mb2, mb3, mb4]
  | 29, _ => simp [mb0, mb1, mb2, mb3, mb4]
  | 30, _ => simp [mb0, mb1, mb2, mb3, mb4]
  | 31, _ => simp [mb0, mb1, mb2, mb3, mb4]
  | 32, _ => simp [mb0, mb1, mb2, mb3, mb4]
  | 33, _ => simp [mb0, mb1, mb2, mb3, mb4]
  | 34, _ => simp [mb0, mb1, mb2, mb3, mb4]
  | 35, _ => simp [mb0, mb1, mb2, mb3, mb4]
  | 36, _ => simp [mb0, mb1, mb2, mb3, mb4]
  | 37, _ => simp [mb0, mb1, mb2, mb3, mb4]
  | 38, _ => simp [mb0, mb1, mb2, mb3, mb4]
  | 39, _ => simp [mb0, mb1, mb2, mb3, mb4]
  | 40, _ => simp [mb0, mb1, mb2, mb3, mb4]
  | 41, _ => simp [mb0, mb1, mb2, mb3, mb4]
  | 42, _ => simp [mb0, mb1, mb2, mb3, mb4]
  | 43, _ => simp [mb0, mb1, mb2, mb3, mb4]
  | 44, _ => simp [mb0, mb1, mb2, mb3, mb4]
  | 45, _ => simp [mb0, mb1, mb2, mb3, mb4]
  | 46, _ => simp [mb0, mb1, mb2, mb3, mb4]
  | 47, _ => simp [mb0, mb1, mb2, mb3, mb4]
  | 48, _ => simp [mb0, mb1, mb2, mb3, mb4]
  | 49, _ => simp [mb0, mb1, mb2, mb3, mb4]
  | 50, _ => simp [mb0, mb1, mb2, mb3, mb4]
  | 51, _ => simp [mb0, mb1, mb2, mb3, mb4]
  | 52, _ => simp [mb0, mb1, mb2, mb3, mb4]
  | 53, _ => simp [mb0, mb1, mb2, mb3, mb4]
  | 54, _ => simp [mb0, mb1, mb2, mb3, mb4]
  | 55, _ => simp [mb0, mb1, mb2, mb3, mb4]
  | 56, _ => simp [mb0, mb1, mb2, mb3, mb4]
  | 57, _ => simp [mb0, mb1, mb2, mb3, mb4]
  | 58, _ => simp [mb0, mb1, mb2, mb3, mb4]
  | 59, _ => simp [mb0, mb1, mb2, mb3, mb4]
  | 60, _ => simp [mb0, mb1, mb2, mb3, mb4]
  | 61, _ => simp [mb0, mb1, mb2, mb3, mb4]
  | 62, _ => simp [mb0, mb1, mb2, mb3, mb4]
  | 63, _ => simp [mb0, mb1, mb2, mb3, mb4]
  | n + 64, h => exact absurd h (by omega)
theorem s1_lt (m k x : Nat) (hm : m < 2 ^ (64 - k)) (hk : k ≤ 64) : s1 m k x < 18446744073709551616 := by
  unfold s1
  refine Nat.or_lt_two_pow (n := 64) ?_ ?_
  · exact Nat.lt_of_le_of_lt Nat.and_le_right (Nat.lt_of_lt_of_le hm (Nat.pow_le_pow_right (by decide) (by omega)))
  · rw [Nat.shiftLeft_eq]
    have h1 : x &&& m < 2 ^ (64 - k) := Nat.lt_of_le_of_lt Nat.and_le_right hm
    have h2 : (x &&& m) * 2 ^ k < 2 ^ (64 - k) * 2 ^ k := Nat.mul_lt_mul_of_pos_right h1 (Nat.two_pow_pos k)
    rwa [← Nat.pow_add, show 64 - k + k = 64 from by omega] at h2
theorem r64_rv (d k : Nat) (hd : d ≤ 64) (hk : k < 2 ^ d) : r64 k / 2 ^ (64 - d) = rv d k := by
  apply Nat.eq_of_testBit_eq
  intro j
  rw [Nat.testBit_div_two_pow, rv_bit]
  by_cases h : j < d
  · rw [r64_bit k _ (by omega)]
    simp only [h, decide_true, Bool.true_and]
    congr 1
    omega
  · simp only [h, decide_false, Bool.false_and]
    have hl : r64 k < 2 ^ 64 := by
      unfold r64
      refine Nat.or_lt_two_pow (n := 64) ?_ (Nat.mod_lt _ (by decide))
      rw [Nat.shiftRight_eq_div_pow]
      exact Nat.lt_of_le_of_lt (Nat.div_le_self _ _) (s1_lt _ 16 _ (by decide) (by decide))
    exact Nat.testBit_lt_two_pow (Nat.lt_of_lt_of_le hl (Nat.pow_le_pow_right (by decide) (by omega)))
end Go.Proofs.Ytcfohdkdppiekaa
