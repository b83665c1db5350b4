/- Trees with another element, in memory; concrete small trees: plain Lean. -/
import Derived.Test.YtcfohdkdppiekaaTreeAt
namespace Go.Proofs.Ytcfohdkdppiekaa
open Go.RowKit
theorem div_pow_lt {m k e X : Nat} (h : m / 2 ^ e = k) (hk : k < X) : m < X * 2 ^ e := by
  have h1 : m / 2 ^ e < X := by omega
  exact (Nat.div_lt_iff_lt_mul (Nat.two_pow_pos e)).1 h1
/-- a part of a tree that the turn does not meet -/
theorem isT.off {w : World} {L : List (List UInt8)} {s : List UInt8} {i D l k p : Nat} (hi : i < L.length) (hL : L.length ≤ 2 ^ D) (hl : l ≤ D) (hk : k < 2 ^ (D - l)) (hne : k ≠ rv D i / 2 ^ l) (h : isT w (td L D) l k p) : isT w (td (L.set i s) D) l k p := by
  refine h.congr fun j m hj hm => (td_off L s i D hi hL j m (by omega) ?_ ?_).symm
  · have := div_pow_lt hm hk
    rwa [← Nat.pow_add, show D - l + (l - j) = D - j by omega] at this
  · intro e
    apply hne
    rw [← hm, e, Nat.div_div_eq_div_mul, ← Nat.pow_add, show j + (l - j) = l by omega]
/-- where the way lies -/
theorem way_lt (D i l : Nat) (hl : l ≤ D) : rv D i / 2 ^ l < 2 ^ (D - l) := by
  rw [Nat.div_lt_iff_lt_mul (Nat.two_pow_pos _), ← Nat.pow_add, show D - l + l = D by omega]
  exact rv_lt D i
theorem way_half (D i l : Nat) : rv D i / 2 ^ (l + 1) = rv D i / 2 ^ l / 2 := by rw [Nat.pow_succ, Nat.div_div_eq_div_mul]
theorem td_node (L : List (List UInt8)) (D l k : Nat) : td L D (l + 1) k = noded (td L D l (2 * k)) (td L D l (2 * k + 1)) := rfl
theorem td_zero (L : List (List UInt8)) (D k : Nat) : td L D 0 k = tleaf L D k := rfl
/-- a place that is made anew -/
theorem isT.mk {w : World} {d : Nat → Nat → List UInt8} {l k p p1 p2 : Nat} (h0 : w.cell? ⟨p, 0, none⟩ = some (.string ⟨(d (l + 1) k).toArray⟩)) (h1 : w.cell? ⟨p, 1, none⟩ = some (.pointer (some ⟨p1, 0, none⟩))) (h2 : w.cell? ⟨p, 2, none⟩ = some (.pointer (some ⟨p2, 0, none⟩)))
    (t1 : isT w d l (2 * k) p1) (t2 : isT w d l (2 * k + 1) p2) : isT w d (l + 1) k p := ⟨h0, p1, p2, h1, h2, t1, t2⟩
theorem atOf_in {L : List (List UInt8)} {level : Int} {k : Nat} (h : inTree L level k) : atOf L level k = td L (dp L.length) level.toNat k := if_pos h
theorem atOf_out {L : List (List UInt8)} {level : Int} {k : Nat} (h : ¬ inTree L level k) : atOf L level k = [] := if_neg h
theorem dp_pos (n : Nat) (hn : n ≤ 65536) : n ≤ 2 ^ dp n := dp_le n (by omega)
theorem dp_set (L : List (List UInt8)) (i : Nat) (s : List UInt8) : dp (L.set i s).length = dp L.length := by rw [List.length_set]
end Go.Proofs.Ytcfohdkdppiekaa
