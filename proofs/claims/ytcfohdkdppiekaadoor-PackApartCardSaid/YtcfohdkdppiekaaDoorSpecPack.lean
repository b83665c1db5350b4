/- Things' bytes: none begins another one's; numbers' bytes rise: plain Lean. -/
import Derived.Test.YtcfohdkdppiekaaDoorWPackLaid
import Derived.Test.YtcfohdkdppiekaaDoorSpecNum
namespace Go.Proofs.YtcfohdkdppiekaaDoor
theorem be_bk (n k : Nat) : be n k = bk n k := by
  induction k with
  | zero => rfl
  | succ k ih => rw [be, bk, ih]
/-- the number that bytes say -/
def nm (l : List UInt8) : Nat := l.foldl (fun n b => n * 256 + b.toNat) 0
theorem nm_go (n k a : Nat) : (be n k).foldl (fun n b => n * 256 + b.toNat) a = a * 256 ^ k + n % 256 ^ k := by
  induction k generalizing a with
  | zero => simp [be, Nat.mod_one]
  | succ k ih =>
    rw [be, List.foldl_cons, ih]
    have e : (UInt8.ofNat (n / 256 ^ k)).toNat = n / 256 ^ k % 256 := by simp
    have h2 : n % 256 ^ (k + 1) = (n / 256 ^ k % 256) * 256 ^ k + n % 256 ^ k := by
      rw [Nat.pow_succ, Nat.mod_mul, Nat.mul_comm]; omega
    rw [e, h2, Nat.pow_succ, Nat.add_mul, Nat.mul_assoc, Nat.mul_comm 256]; omega
theorem nm_be (n k : Nat) (h : n < 256 ^ k) (r : List UInt8) : nm ((be n k ++ r).take k) = n := by
  have hl := be_len n k
  rw [List.take_append_of_le_length (by omega), List.take_of_length_le (by omega)]
  unfold nm
  rw [nm_go, Nat.zero_mul, Nat.zero_add, Nat.mod_eq_of_lt h]
/-- the sort and the number, off the first bytes -/
def parse : List UInt8 → Nat × Nat
  | [] => (9, 0)
  | c :: l =>
    let c := c.toNat
    if c < 128 then (0, c) else if c < 144 then (4, c - 128) else if c < 160 then (3, c - 144) else if c < 192 then (2, c - 160)
    else if c = 196 then (1, nm (l.take 1)) else if c = 197 then (1, nm (l.take 2))
    else if c = 204 then (0, nm (l.take 1)) else if c = 205 then (0, nm (l.take 2)) else if c = 206 then (0, nm (l.take 4)) else if c = 207 then (0, nm (l.take 8))
    else if c = 217 then (2, nm (l.take 1)) else if c = 218 then (2, nm (l.take 2)) else if c = 220 then (3, nm (l.take 2)) else if c = 222 then (4, nm (l.take 2)) else (9, 0)
def lim (sort : Nat) : Nat := if sort = 0 then 18446744073709551616 else 65536
theorem u8n (n : Nat) (h : n < 256) : (UInt8.ofNat n).toNat = n := by simp; omega
theorem parse_pick (sort n : Nat) (hs : sort < 5) (hn : n < lim sort) (r : List UInt8) : parse (pick (tab.getD sort []) n ++ r) = (sort, n) := by
  have hb : ∀ k, n < 256 ^ k → nm ((be n k ++ r).take k) = n := fun k h => nm_be n k h r
  match sort, hs with
  | 0, _ =>
    have hn' : n < 18446744073709551616 := hn
    show parse (pick [(128, 0, 0), (256, 204, 1), (65536, 205, 2), (4294967296, 206, 4), (0, 207, 8)] n ++ r) = _
    by_cases h1 : n < 128
    · simp [pick, fits, layRow, h1, parse, Nat.mod_eq_of_lt (show n < 256 by omega)]
    by_cases h2 : n < 256
    · simp only [pick, fits, h1, h2, layRow]; simp [parse, hb 1 h2]
    by_cases h3 : n < 65536
    · simp only [pick, fits, h1, h2, h3, layRow]; simp [parse, hb 2 h3]
    by_cases h4 : n < 4294967296
    · simp only [pick, fits, h1, h2, h3, h4, layRow]; simp [parse, hb 4 h4]
    · simp only [pick, fits, h1, h2, h3, h4, layRow]; simp [parse, hb 8 hn']
  | 1, _ =>
    have hn' : n < 65536 := hn
    show parse (pick [(256, 196, 1), (65536, 197, 2)] n ++ r) = _
    by_cases h2 : n < 256
    · simp only [pick, fits, h2, layRow]; simp [parse, hb 1 h2]
    · simp only [pick, fits, h2, hn', layRow]; simp [parse, hb 2 hn']
  | 2, _ =>
    have hn' : n < 65536 := hn
    show parse (pick [(32, 160, 0), (256, 217, 1), (65536, 218, 2)] n ++ r) = _
    by_cases h1 : n < 32
    · have e : (160 + n) % 256 = 160 + n := Nat.mod_eq_of_lt (by omega)
      have e1 : ¬ 160 + n < 128 := by omega
      have e2 : ¬ 160 + n < 144 := by omega
      have e3 : ¬ 160 + n < 160 := by omega
      have e4 : 160 + n < 192 := by omega
      simp [pick, fits, layRow, h1, parse, e, e1, e2, e3, e4]
    by_cases h2 : n < 256
    · simp only [pick, fits, h1, h2, layRow]; simp [parse, hb 1 h2]
    · simp only [pick, fits, h1, h2, hn', layRow]; simp [parse, hb 2 hn']
  | 3, _ =>
    have hn' : n < 65536 := hn
    show parse (pick [(16, 144, 0), (65536, 220, 2)] n ++ r) = _
    by_cases h1 : n < 16
    · have e : (144 + n) % 256 = 144 + n := Nat.mod_eq_of_lt (by omega)
      have e1 : ¬ 144 + n < 128 := by omega
      have e2 : ¬ 144 + n < 144 := by omega
      have e3 : 144 + n < 160 := by omega
      simp [pick, fits, layRow, h1, parse, e, e1, e2, e3]
    · simp only [pick, fits, h1, hn', layRow]; simp [parse, hb 2 hn']
  | 4, _ =>
    have hn' : n < 65536 := hn
    show parse (pick [(16, 128, 0), (65536, 222, 2)] n ++ r) = _
    by_cases h1 : n < 16
    · have e : (128 + n) % 256 = 128 + n := Nat.mod_eq_of_lt (by omega)
      have e1 : ¬ 128 + n < 128 := by omega
      have e2 : 128 + n < 144 := by omega
      simp [pick, fits, layRow, h1, parse, e, e1, e2]
    · simp only [pick, fits, h1, hn', layRow]; simp [parse, hb 2 hn']
/-! numbers rise -/
def pnum (n : Nat) : List UInt8 := pick (tab.getD 0 []) n
theorem pnum_0 (n : Nat) (h : n < 128) : pnum n = [n.toUInt8] := by
  show pick [(128, 0, 0), (256, 204, 1), (65536, 205, 2), (4294967296, 206, 4), (0, 207, 8)] n = _
  simp [pick, fits, layRow, h]
theorem pnum_1 (n : Nat) (h1 : ¬ n < 128) (h : n < 256) : pnum n = (204 : Nat).toUInt8 :: bk n 1 := by
  show pick [(128, 0, 0), (256, 204, 1), (65536, 205, 2), (4294967296, 206, 4), (0, 207, 8)] n = _
  rw [← be_bk]
  simp only [pick, fits, h1, h, layRow]; simp
theorem pnum_2 (n : Nat) (h1 : ¬ n < 256) (h : n < 65536) : pnum n = (205 : Nat).toUInt8 :: bk n 2 := by
  show pick [(128, 0, 0), (256, 204, 1), (65536, 205, 2), (4294967296, 206, 4), (0, 207, 8)] n = _
  rw [← be_bk]
  have h0 : ¬ n < 128 := by omega
  simp only [pick, fits, h0, h1, h, layRow]; simp
theorem pnum_4 (n : Nat) (h1 : ¬ n < 65536) (h : n < 4294967296) : pnum n = (206 : Nat).toUInt8 :: bk n 4 := by
  show pick [(128, 0, 0), (256, 204, 1), (65536, 205, 2), (4294967296, 206, 4), (0, 207, 8)] n = _
  rw [← be_bk]
  have h0 : ¬ n < 128 := by omega
  have h2 : ¬ n < 256 := by omega
  simp only [pick, fits, h0, h1, h2, h, layRow]; simp
theorem pnum_8 (n : Nat) (h1 : ¬ n < 4294967296) : pnum n = (207 : Nat).toUInt8 :: bk n 8 := by
  show pick [(128, 0, 0), (256, 204, 1), (65536, 205, 2), (4294967296, 206, 4), (0, 207, 8)] n = _
  rw [← be_bk]
  have h0 : ¬ n < 128 := by omega
  have h2 : ¬ n < 256 := by omega
  have h3 : ¬ n < 65536 := by omega
  simp only [pick, fits, h0, h1, h2, h3, layRow]; simp
/-- the first byte, and how many follow -/
def pfirst (n : Nat) : Nat := if n < 128 then n else if n < 256 then 204 else if n < 65536 then 205 else if n < 4294967296 then 206 else 207
def psize (n : Nat) : Nat := if n < 128 then 0 else if n < 256 then 1 else if n < 65536 then 2 else if n < 4294967296 then 4 else 8
theorem pnum_eq (n : Nat) : pnum n = (pfirst n).toUInt8 :: bk n (psize n) := by
  unfold pfirst psize
  by_cases h1 : n < 128
  · rw [if_pos h1, if_pos h1]; exact pnum_0 n h1
  rw [if_neg h1, if_neg h1]
  by_cases h2 : n < 256
  · rw [if_pos h2, if_pos h2]; exact pnum_1 n h1 h2
  rw [if_neg h2, if_neg h2]
  by_cases h3 : n < 65536
  · rw [if_pos h3, if_pos h3]; exact pnum_2 n h2 h3
  rw [if_neg h3, if_neg h3]
  by_cases h4 : n < 4294967296
  · rw [if_pos h4, if_pos h4]; exact pnum_4 n h3 h4
  rw [if_neg h4, if_neg h4]; exact pnum_8 n h4
theorem pcase (n : Nat) : (n < 128 ∧ pfirst n = n ∧ psize n = 0) ∨ (128 ≤ n ∧ n < 256 ∧ pfirst n = 204 ∧ psize n = 1) ∨ (256 ≤ n ∧ n < 65536 ∧ pfirst n = 205 ∧ psize n = 2) ∨ (65536 ≤ n ∧ n < 4294967296 ∧ pfirst n = 206 ∧ psize n = 4) ∨ (4294967296 ≤ n ∧ pfirst n = 207 ∧ psize n = 8) := by
  unfold pfirst psize
  by_cases h1 : n < 128
  · left; simp [h1]
  by_cases h2 : n < 256
  · right; left; simp [h1, h2]; omega
  by_cases h3 : n < 65536
  · right; right; left; simp [h1, h2, h3]; omega
  by_cases h4 : n < 4294967296
  · right; right; right; left; simp [h1, h2, h3, h4]; omega
  · right; right; right; right; simp [h1, h2, h3, h4]; omega
theorem pfirst_lt (n : Nat) : pfirst n < 256 := by
  rcases pcase n with h | h | h | h | h <;> omega
theorem bk_len (n k : Nat) : (bk n k).length = k := by rw [← be_bk, be_len]
theorem pnum_len (n : Nat) : (pnum n).length = 1 + psize n := by rw [pnum_eq, List.length_cons, bk_len]; omega
theorem bless_pnum (a b : Nat) (ha : a < 18446744073709551616) (hb : b < 18446744073709551616) : bless (pnum a) (pnum b) = decide (a < b) := by
  rw [pnum_eq, pnum_eq, bless_step _ _ _ _ (pfirst_lt a) (pfirst_lt b)]
  by_cases hf : pfirst a = pfirst b
  · have hz : psize a = psize b ∧ (a = b ∨ (a < 256 ^ psize a ∧ b < 256 ^ psize a)) := by
      rcases pcase a with h | h | h | h | h <;> rcases pcase b with g | g | g | g | g <;> first
        | (exfalso; omega)
        | exact ⟨by omega, Or.inl (by omega)⟩
        | exact ⟨by omega, Or.inr ⟨by rw [show psize a = 1 by omega]; omega, by rw [show psize a = 1 by omega]; omega⟩⟩
        | exact ⟨by omega, Or.inr ⟨by rw [show psize a = 2 by omega]; omega, by rw [show psize a = 2 by omega]; omega⟩⟩
        | exact ⟨by omega, Or.inr ⟨by rw [show psize a = 4 by omega]; omega, by rw [show psize a = 4 by omega]; omega⟩⟩
        | exact ⟨by omega, Or.inr ⟨by rw [show psize a = 8 by omega]; omega, by rw [show psize a = 8 by omega]; omega⟩⟩
    obtain ⟨hz, h⟩ := hz
    have e1 : decide (pfirst a < pfirst b) = false := by simp; omega
    have e2 : decide (pfirst a = pfirst b) = true := by simpa using hf
    rw [e1, e2, ← hz, Bool.false_or, Bool.true_and]
    rcases h with h | ⟨h1, h2⟩
    · subst h; rw [bless_same]; simp
    · exact bless_bk a b _ h1 h2
  · have e2 : decide (pfirst a = pfirst b) = false := by simpa using hf
    rw [e2, Bool.false_and, Bool.or_false, decide_eq_decide]
    rcases pcase a with h | h | h | h | h <;> rcases pcase b with g | g | g | g | g <;> omega
theorem pnum_inj {a b : Nat} (ha : a < 18446744073709551616) (hb : b < 18446744073709551616) (h : pnum a = pnum b) : a = b := by
  have h1 := bless_pnum a b ha hb
  have h2 := bless_pnum b a hb ha
  rw [h, bless_same] at h1
  rw [h, bless_same] at h2
  have h1' : ¬ a < b := by simpa using h1.symm
  have h2' : ¬ b < a := by simpa using h2.symm
  omega
end Go.Proofs.YtcfohdkdppiekaaDoor
