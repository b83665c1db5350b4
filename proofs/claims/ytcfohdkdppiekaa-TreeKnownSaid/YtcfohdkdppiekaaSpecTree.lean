/- How deep a list's tree is, and what stands at its places: plain Lean. -/
import Derived.Test.YtcfohdkdppiekaaSpecDom
import Derived.Test.YtcfohdkdppiekaaSpecRev
import Derived.Lib.BitFns
namespace Go.Proofs.Ytcfohdkdppiekaa
theorem bitLen_lt_iff (d x : Nat) (hx : x < 18446744073709551616) : Lib.bitLen x ≤ d ↔ x < 2 ^ d := by
  induction d generalizing x with
  | zero =>
    by_cases h : x = 0
    · subst h; exact ⟨fun _ => by decide, fun _ => by decide⟩
    · rw [Lib.bitLen_half x h hx]
      constructor
      · intro h2; omega
      · intro h2; simp at h2; omega
  | succ d ih =>
    by_cases h : x = 0
    · subst h
      exact ⟨fun _ => Nat.two_pow_pos _, fun _ => Nat.zero_le _⟩
    · rw [Lib.bitLen_half x h hx, Nat.pow_succ]
      have := ih (x / 2) (by omega)
      constructor
      · intro h2
        have := this.1 (by omega); omega
      · intro h2
        have := this.2 (by omega); omega
/-- how deep the tree of n elements is -/
def dp (n : Nat) : Nat := Lib.bitLen (max n 1 - 1)
theorem dp_iff (n d : Nat) (hn : n ≤ 1000000000) : dp n ≤ d ↔ n ≤ 2 ^ d := by
  unfold dp
  rw [bitLen_lt_iff d _ (by omega)]
  have := Nat.two_pow_pos d
  omega
theorem dp_le (n : Nat) (hn : n ≤ 1000000000) : n ≤ 2 ^ dp n := (dp_iff n _ hn).1 (Nat.le_refl _)
theorem dp_16 (n : Nat) (hn : n ≤ 65536) : dp n ≤ 16 := (dp_iff n 16 (by omega)).2 hn
def tLeaf : List UInt8 := [108, 101, 97, 102]
def tNode : List UInt8 := [110, 111, 100, 101]
def tNone : List UInt8 := [110, 111, 110, 101]
def leafd (s : List UInt8) : List UInt8 := hsh tLeaf [s]
def noded (a b : List UInt8) : List UInt8 := hsh tNode [a, b]
def noned : List UInt8 := hsh tNone []
/-- what stands at a leaf -/
def tleaf (L : List (List UInt8)) (D k : Nat) : List UInt8 := if rv D k < L.length then leafd (L.getD (rv D k) []) else noned
/-- what stands at a place -/
def td (L : List (List UInt8)) (D : Nat) : Nat → Nat → List UInt8
  | 0, k => tleaf L D k
  | l + 1, k => noded (td L D l (2 * k)) (td L D l (2 * k + 1))
theorem ok_leaf : okTag tLeaf := ⟨by decide, by decide⟩
theorem ok_node : okTag tNode := ⟨by decide, by decide⟩
theorem ok_none : okTag tNone := ⟨by decide, by decide⟩
theorem td_len (L : List (List UInt8)) (D l k : Nat) : (td L D l k).length = 32 := by
  cases l with
  | zero =>
    rw [td, tleaf]
    split
    · exact hsh_len ok_leaf _
    · exact hsh_len ok_none _
  | succ l =>
    rw [td]
    exact hsh_len ok_node _
end Go.Proofs.Ytcfohdkdppiekaa
