/- Eight bytes say a number; the greater one's are above; a frame's parts come back: plain Lean. -/
import Derived.Test.YtcfohdkdppiekaaSpecDom
namespace Go.Proofs.Ytcfohdkdppiekaa
/-- the number that bytes say, the highest first -/
def numb (l : List UInt8) : Nat := l.foldl (fun n b => (n * 256 + b.toNat) % 18446744073709551616) 0
theorem numb_lt (l : List UInt8) : numb l < 18446744073709551616 := by
  unfold numb
  rcases List.eq_nil_or_concat l with rfl | ⟨l', b, rfl⟩
  · decide
  · rw [List.concat_eq_append, List.foldl_append]
    exact Nat.mod_lt _ (by decide)
theorem numb_take (l : List UInt8) (k : Nat) (hk : k < l.length) : numb (l.take (k + 1)) = (numb (l.take k) * 256 + (l.getD k 0).toNat) % 18446744073709551616 := by
  have e : l.getD k 0 = l[k] := by rw [List.getD_eq_getElem?_getD, List.getElem?_eq_getElem hk]; rfl
  unfold numb
  rw [List.take_succ_eq_append_getElem hk, List.foldl_append, e]; rfl
theorem numb_step (y : Nat) (hy : y < 18446744073709551616) : (y / 256 * 256 + (y.toUInt8).toNat) % 18446744073709551616 = y := by
  have : (y.toUInt8).toNat = y % 256 := by simp
  rw [this]; omega
theorem numb_b8 (n : Nat) (hn : n < 18446744073709551616) : numb (b8 n) = n := by
  have h : ∀ k, n / k < 18446744073709551616 := fun k => Nat.lt_of_le_of_lt (Nat.div_le_self _ _) hn
  have d : ∀ k, n / (k * 256) = n / k / 256 := fun k => by rw [Nat.div_div_eq_div_mul]
  have e0 : n / 2 ^ 64 = 0 := Nat.div_eq_of_lt hn
  have s1 := numb_step (n / 2 ^ 56) (h _)
  have s2 := numb_step (n / 2 ^ 48) (h _)
  have s3 := numb_step (n / 2 ^ 40) (h _)
  have s4 := numb_step (n / 2 ^ 32) (h _)
  have s5 := numb_step (n / 2 ^ 24) (h _)
  have s6 := numb_step (n / 2 ^ 16) (h _)
  have s7 := numb_step (n / 2 ^ 8) (h _)
  have s8 := numb_step n hn
  rw [← d, show 2 ^ 56 * 256 = 2 ^ 64 from rfl, e0] at s1
  rw [← d, show 2 ^ 48 * 256 = 2 ^ 56 from rfl] at s2
  rw [← d, show 2 ^ 40 * 256 = 2 ^ 48 from rfl] at s3
  rw [← d, show 2 ^ 32 * 256 = 2 ^ 40 from rfl] at s4
  rw [← d, show 2 ^ 24 * 256 = 2 ^ 32 from rfl] at s5
  rw [← d, show 2 ^ 16 * 256 = 2 ^ 24 from rfl] at s6
  rw [← d, show 2 ^ 8 * 256 = 2 ^ 16 from rfl] at s7
  rw [show n / 256 = n / 2 ^ 8 from rfl] at s8
  unfold numb b8
  simp only [List.foldl_cons, List.foldl_nil]
  rw [s1, s2, s3, s4, s5, s6, s7, s8]
theorem b8_inj {m n : Nat} (hm : m < 18446744073709551616) (hn : n < 18446744073709551616) (h : b8 m = b8 n) : m = n := by
  rw [← numb_b8 m hm, ← numb_b8 n hn, h]
/-- bytes are less than others (the model's own order, told again) -/
def bless : List UInt8 → List UInt8 → Bool
  | _, [] => false
  | [], _ :: _ => true
  | a :: x, b :: y => a < b || (a == b && bless x y)
theorem bless_same (l : List UInt8) : bless l l = false := by
  induction l with
  | nil => rfl
  | cons a l ih => simp [bless, ih]
/-- the first byte in which two numbers part -/
theorem bless_step (a b : Nat) (x y : List UInt8) (ha : a < 256) (hb : b < 256) : bless (a.toUInt8 :: x) (b.toUInt8 :: y) = (decide (a < b) || (decide (a = b) && bless x y)) := by
  have h0 : bless (a.toUInt8 :: x) (b.toUInt8 :: y) = (decide (a.toUInt8 < b.toUInt8) || (a.toUInt8 == b.toUInt8 && bless x y)) := by rw [bless]
  rw [h0]
  have h1 : (a.toUInt8 < b.toUInt8) ↔ a < b := by
    rw [UInt8.lt_iff_toNat_lt]
    simp; omega
  have h2 : (a.toUInt8 == b.toUInt8) = decide (a = b) := by
    rw [Bool.eq_iff_iff, beq_iff_eq, decide_eq_true_eq, ← UInt8.toNat_inj]
    simp; omega
  rw [h2, decide_eq_decide.2 h1]
theorem mod_u8 (a : Nat) : a.toUInt8 = (a % 256).toUInt8 := by
  apply UInt8.toNat_inj.1; simp
/-- k bytes of a number, the highest first -/
def bk (n : Nat) : Nat → List UInt8
  | 0 => []
  | k + 1 => (n / 256 ^ k).toUInt8 :: bk n k
theorem b8_bk (n : Nat) : b8 n = bk n 8 := by simp [b8, bk]
theorem bk_mod (n k : Nat) : bk n k = bk (n % 256 ^ k) k := by
  have key : ∀ j, j ≤ k → bk n j = bk (n % 256 ^ k) j := by
    intro j
    induction j with
    | zero => intro _; rfl
    | succ j ih =>
      intro hj
      unfold bk
      rw [ih (by omega)]
      congr 1
      rw [mod_u8, mod_u8 (n % 256 ^ k / 256 ^ j)]
      have e : 256 ^ k = 256 ^ j * 256 * 256 ^ (k - j - 1) := by rw [← Nat.pow_succ, ← Nat.pow_add]; congr 1; omega
      have e2 : n % 256 ^ k / 256 ^ j % 256 = n / 256 ^ j % 256 := by
        rw [e, Nat.mul_assoc, Nat.mod_mul_right_div_self, Nat.mod_mul_right_mod]
      rw [e2]
  exact key k (Nat.le_refl _)
theorem bless_bk (a b k : Nat) (ha : a < 256 ^ k) (hb : b < 256 ^ k) : bless (bk a k) (bk b k) = decide (a < b) := by
  induction k generalizing a b with
  | zero =>
    have h1 : a = 0 := by simpa using ha
    have h2 : b = 0 := by simpa using hb
    subst h1; subst h2; rfl
  | succ k ih =>
    have hp : 0 < 256 ^ k := Nat.pow_pos (by decide)
    have h1 : a / 256 ^ k < 256 := by rw [Nat.div_lt_iff_lt_mul hp, Nat.mul_comm, ← Nat.pow_succ]; exact ha
    have h2 : b / 256 ^ k < 256 := by rw [Nat.div_lt_iff_lt_mul hp, Nat.mul_comm, ← Nat.pow_succ]; exact hb
    unfold bk
    rw [bless_step _ _ _ _ h1 h2, bk_mod a k, bk_mod b k, ih _ _ (Nat.mod_lt _ hp) (Nat.mod_lt _ hp)]
    have da := Nat.div_add_mod a (256 ^ k)
    have db := Nat.div_add_mod b (256 ^ k)
    have ma := Nat.mod_lt a hp
    have mb := Nat.mod_lt b hp
    generalize a % 256 ^ k = x at *
    generalize b % 256 ^ k = y at *
    generalize a / 256 ^ k = p at *
    generalize b / 256 ^ k = q at *
    generalize 256 ^ k = m at *
    rw [Bool.eq_iff_iff]
    simp only [Bool.or_eq_true, Bool.and_eq_true, decide_eq_true_eq]
    rcases Nat.lt_trichotomy p q with h | h | h
    · have h3 : m * (p + 1) ≤ m * q := Nat.mul_le_mul_left _ h
      rw [Nat.mul_add] at h3
      constructor
      · intro _; omega
      · intro _; exact Or.inl h
    · subst h
      constructor
      · rintro (h4 | ⟨_, h4⟩) <;> omega
      · intro _; right; exact ⟨rfl, by omega⟩
    · have h3 : m * (q + 1) ≤ m * p := Nat.mul_le_mul_left _ h
      rw [Nat.mul_add] at h3
      constructor
      · rintro (h4 | ⟨h4, _⟩) <;> omega
      · intro _; omega
theorem bless_b8 (a b : Nat) (ha : a < 18446744073709551616) (hb : b < 18446744073709551616) : bless (b8 a) (b8 b) = decide (a < b) := by
  rw [b8_bk, b8_bk]
  exact bless_bk a b 8 (by simpa using ha) (by simpa using hb)
/-! frames are taken apart in one way -/
theorem fparts_inj : ∀ (a b : List (List UInt8)), (∀ s ∈ a, s.length < 18446744073709551616) → (∀ s ∈ b, s.length < 18446744073709551616) → fparts a = fparts b → a = b
  | [], [], _, _, _ => rfl
  | [], y :: b, _, _, h => by
    rw [fparts_cons] at h
    have := congrArg List.length h
    simp [fparts, b8_len] at this
    omega
  | x :: a, [], _, _, h => by
    rw [fparts_cons] at h
    have := congrArg List.length h
    simp [fparts, b8_len] at this
  | x :: a, y :: b, ha, hb, h => by
    rw [fparts_cons, fparts_cons, List.append_assoc, List.append_assoc] at h
    obtain ⟨h1, h2⟩ := List.append_inj h (by rw [b8_len, b8_len])
    have hl := b8_inj (ha x (by simp)) (hb y (by simp)) h1
    obtain ⟨h3, h4⟩ := List.append_inj h2 hl
    rw [h3, fparts_inj a b (fun s hs => ha s (by simp [hs])) (fun s hs => hb s (by simp [hs])) h4]
theorem frm0_inj {s t : List UInt8} {a b : List (List UInt8)} (hs : s.length < 256) (ht : t.length < 256) (ha : ∀ s ∈ a, s.length < 18446744073709551616) (hb : ∀ s ∈ b, s.length < 18446744073709551616) (h : frm0 s a = frm0 t b) : s = t ∧ a = b := by
  unfold frm0 at h
  injection h with h1 h2
  have hl : s.length = t.length := by
    have := congrArg UInt8.toNat h1
    simp at this; omega
  obtain ⟨h3, h4⟩ := List.append_inj h2 hl
  exact ⟨h3, fparts_inj a b ha hb h4⟩
end Go.Proofs.Ytcfohdkdppiekaa
