/- A tree with another element; a tree whose leaves are alike: plain Lean. -/
import Derived.Test.YtcfohdkdppiekaaSpecTree
namespace Go.Proofs.Ytcfohdkdppiekaa
theorem rv_inj (d a b : Nat) (ha : a < 2 ^ d) (hb : b < 2 ^ d) (h : rv d a = rv d b) : a = b := by
  rw [← rv_rv d a ha, h, rv_rv d b hb]
/-- places that do not lie on the way from the leaf to the root stay -/
theorem td_off (L : List (List UInt8)) (s : List UInt8) (i D : Nat) (hi : i < L.length) (hL : L.length ≤ 2 ^ D) :
    ∀ l k, l ≤ D → k < 2 ^ (D - l) → k ≠ rv D i / 2 ^ l → td (L.set i s) D l k = td L D l k := by
  intro l
  induction l with
  | zero =>
    intro k _ hk hne
    have hk' : k < 2 ^ D := by simpa using hk
    have hne' : rv D k ≠ i := by
      intro h
      apply hne
      rw [← h, rv_rv D k hk']; simp
    simp only [td, tleaf, List.length_set]
    split
    · rw [List.getD_eq_getElem?_getD, List.getD_eq_getElem?_getD, List.getElem?_set_ne (Ne.symm hne')]
    · rfl
  | succ l ih =>
    intro k hl hk hne
    have e : 2 ^ (D - l) = 2 * 2 ^ (D - (l + 1)) := by rw [← Nat.pow_succ']; congr 1; omega
    have hd : rv D i / 2 ^ (l + 1) = rv D i / 2 ^ l / 2 := by rw [Nat.pow_succ, Nat.div_div_eq_div_mul]
    rw [hd] at hne
    simp only [td]
    rw [ih (2 * k) (by omega) (by omega) (by omega), ih (2 * k + 1) (by omega) (by omega) (by omega)]
/-- the leaf that is turned -/
theorem td_on0 (L : List (List UInt8)) (s : List UInt8) (i D : Nat) (hi : i < L.length) (hL : L.length ≤ 2 ^ D) : td (L.set i s) D 0 (rv D i) = leafd s := by
  have h1 : rv D (rv D i) = i := rv_rv D i (by omega)
  simp [td, tleaf, h1, hi, List.getD_eq_getElem?_getD]
theorem td_leafN (L : List (List UInt8)) (D k : Nat) (h : rv D k < L.length) : td L D 0 k = leafd (L.getD (rv D k) []) := by simp [td, tleaf, h]
theorem td_noneN (L : List (List UInt8)) (D k : Nat) (h : ¬ rv D k < L.length) : td L D 0 k = noned := by simp [td, tleaf, h]
/-- n hashes of two alike -/
def twice (x : List UInt8) : Nat → List UInt8
  | 0 => x
  | n + 1 => noded (twice x n) (twice x n)
theorem td_alike (L : List (List UInt8)) (D : Nat) (x : List UInt8) (hL : L.length = 2 ^ D) (h : ∀ i, i < L.length → L.getD i [] = x) : ∀ l k, l ≤ D → k < 2 ^ (D - l) → td L D l k = twice (leafd x) l := by
  intro l
  induction l with
  | zero =>
    intro k _ hk
    have h1 : rv D k < L.length := by rw [hL]; exact rv_lt D k
    rw [td_leafN _ _ _ h1, h _ h1]; rfl
  | succ l ih =>
    intro k hl hk
    have e : 2 ^ (D - l) = 2 * 2 ^ (D - (l + 1)) := by rw [← Nat.pow_succ']; congr 1; omega
    simp only [td, twice]
    rw [ih (2 * k) (by omega) (by omega), ih (2 * k + 1) (by omega) (by omega)]
/-- the turn of an element that is no leaf -/
theorem td_root_on (L : List (List UInt8)) (s : List UInt8) (i D l : Nat) (hi : i < L.length) (hL : L.length ≤ 2 ^ D) (hl : l + 1 ≤ D) :
    let k := rv D i / 2 ^ (l + 1)
    td (L.set i s) D (l + 1) k = if rv D i / 2 ^ l % 2 = 0 then noded (td (L.set i s) D l (rv D i / 2 ^ l)) (td L D l (2 * k + 1)) else noded (td L D l (2 * k)) (td (L.set i s) D l (rv D i / 2 ^ l)) := by
  intro k
  have hd : k = rv D i / 2 ^ l / 2 := by show rv D i / 2 ^ (l + 1) = _; rw [Nat.pow_succ, Nat.div_div_eq_div_mul]
  have hk : rv D i / 2 ^ l < 2 ^ (D - l) := by
    have h1 := rv_lt D i
    rw [Nat.div_lt_iff_lt_mul (Nat.two_pow_pos _), ← Nat.pow_add, show D - l + l = D by omega]
    exact h1
  have h2 : 2 * (k) + 1 < 2 ^ (D - l) ∨ True := Or.inr trivial
  have e : 2 ^ (D - l) = 2 * 2 ^ (D - (l + 1)) := by rw [← Nat.pow_succ']; congr 1; omega
  simp only [td]
  split
  · rename_i h
    have e1 : 2 * k = rv D i / 2 ^ l := by omega
    rw [td_off L s i D hi hL l (2 * k + 1) (by omega) (by omega) (by omega), e1]
  · rename_i h
    have e1 : 2 * k + 1 = rv D i / 2 ^ l := by omega
    rw [td_off L s i D hi hL l (2 * k) (by omega) (by omega) (by omega), e1]
end Go.Proofs.Ytcfohdkdppiekaa
