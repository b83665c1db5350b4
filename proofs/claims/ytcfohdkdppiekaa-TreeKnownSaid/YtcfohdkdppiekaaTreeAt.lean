/- A tree in memory. -/
import Derived.Test.YtcfohdkdppiekaaKit
import Derived.Test.YtcfohdkdppiekaaSpecTree2
namespace Go.Proofs.Ytcfohdkdppiekaa
open Go.RowKit
theorem cell_lt {w : World} {a : Addr} {v : Value} (h : w.cell? a = some v) : a.block < w.heap.size := by
  unfold World.cell? at h
  cases ho : w.heap[a.block]? with
  | none => simp [ho] at h
  | some o => exact (Array.getElem?_eq_some_iff.1 ho).1
/-- what stands at block p is the place (level, k) of a tree, whose digests are d -/
def isT (w : World) (d : Nat → Nat → List UInt8) : Nat → Nat → Nat → Prop
  | 0, k, p => w.cell? ⟨p, 0, none⟩ = some (.string ⟨(d 0 k).toArray⟩)
  | l + 1, k, p => w.cell? ⟨p, 0, none⟩ = some (.string ⟨(d (l + 1) k).toArray⟩) ∧ ∃ p1 p2, w.cell? ⟨p, 1, none⟩ = some (.pointer (some ⟨p1, 0, none⟩)) ∧ w.cell? ⟨p, 2, none⟩ = some (.pointer (some ⟨p2, 0, none⟩)) ∧ isT w d l (2 * k) p1 ∧ isT w d l (2 * k + 1) p2
theorem isT.top {w : World} {d : Nat → Nat → List UInt8} {l k p : Nat} (h : isT w d l k p) : w.cell? ⟨p, 0, none⟩ = some (.string ⟨(d l k).toArray⟩) := by
  cases l with
  | zero => exact h
  | succ l => exact h.1
theorem isT.lt {w : World} {d : Nat → Nat → List UInt8} {l k p : Nat} (h : isT w d l k p) : p < w.heap.size := cell_lt h.top
theorem keep_cell {w w' : World} {a : Addr} {v : Value} (hb : Below w.heap.size w w') (h : w.cell? a = some v) : w'.cell? a = some v := by
  rw [hb.cell (cell_lt h)]; exact h
theorem isT.keep {w w' : World} {d : Nat → Nat → List UInt8} (hb : Below w.heap.size w w') : ∀ {l k p : Nat}, isT w d l k p → isT w' d l k p := by
  intro l
  induction l with
  | zero => intro k p h; exact keep_cell hb h
  | succ l ih =>
    rintro k p ⟨h0, p1, p2, h1, h2, t1, t2⟩
    exact ⟨keep_cell hb h0, p1, p2, keep_cell hb h1, keep_cell hb h2, ih t1, ih t2⟩
theorem isT.congr {w : World} {d d' : Nat → Nat → List UInt8} : ∀ {l k p : Nat}, isT w d l k p → (∀ j m, j ≤ l → m / 2 ^ (l - j) = k → d j m = d' j m) → isT w d' l k p := by
  intro l
  induction l with
  | zero =>
    intro k p h hd
    have := hd 0 k (Nat.le_refl _) (by simp)
    show w.cell? _ = _
    rw [← this]; exact h
  | succ l ih =>
    rintro k p ⟨h0, p1, p2, h1, h2, t1, t2⟩ hd
    have e : ∀ j, j ≤ l → 2 ^ (l + 1 - j) = 2 ^ (l - j) * 2 := fun j hj => by rw [show l + 1 - j = (l - j) + 1 by omega, Nat.pow_succ]
    refine ⟨?_, p1, p2, h1, h2, ih t1 fun j m hj hm => hd j m (by omega) ?_, ih t2 fun j m hj hm => hd j m (by omega) ?_⟩
    · rw [← hd (l + 1) k (Nat.le_refl _) (by simp)]; exact h0
    · rw [e j hj, ← Nat.div_div_eq_div_mul, hm]; omega
    · rw [e j hj, ← Nat.div_div_eq_div_mul, hm]; omega
/-- one step down -/
theorem isT.kid {w : World} {d : Nat → Nat → List UInt8} {l k p : Nat} (h : isT w d (l + 1) k p) (b : Nat) (hb : b < 2) : ∃ q, w.cell? ⟨p, 1 + b, none⟩ = some (.pointer (some ⟨q, 0, none⟩)) ∧ isT w d l (2 * k + b) q := by
  obtain ⟨h0, p1, p2, h1, h2, t1, t2⟩ := h
  match b, hb with
  | 0, _ => exact ⟨p1, h1, t1⟩
  | 1, _ => exact ⟨p2, h2, t2⟩
/-- a tree: how deep, how many, and its top -/
def isTree (w : World) (g : Nat) (L : List (List UInt8)) : Prop :=
  ∃ p, w.cell? ⟨g, 0, none⟩ = some (.pointer (some ⟨p, 0, none⟩)) ∧ w.cell? ⟨g, 1, none⟩ = some (.int .i64 (dp L.length : Nat)) ∧ w.cell? ⟨g, 2, none⟩ = some (.int .i64 (L.length : Nat)) ∧ isT w (td L (dp L.length)) (dp L.length) 0 p
theorem isTree.keep {w w' : World} {g : Nat} {L : List (List UInt8)} (hb : Below w.heap.size w w') (h : isTree w g L) : isTree w' g L := by
  obtain ⟨p, h1, h2, h3, h4⟩ := h
  exact ⟨p, keep_cell hb h1, keep_cell hb h2, keep_cell hb h3, h4.keep hb⟩
/-- what is asked of a place -/
def inTree (L : List (List UInt8)) (level : Int) (k : Nat) : Prop := 0 ≤ level ∧ level ≤ (dp L.length : Nat) ∧ k < 2 ^ (dp L.length - level.toNat)
instance (L : List (List UInt8)) (level : Int) (k : Nat) : Decidable (inTree L level k) := inferInstanceAs (Decidable (_ ∧ _))
def atOf (L : List (List UInt8)) (level : Int) (k : Nat) : List UInt8 := if inTree L level k then td L (dp L.length) level.toNat k else []
end Go.Proofs.Ytcfohdkdppiekaa
