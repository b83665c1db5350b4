/- An argument opened: a slice of structs whose fields have one cell each. -/
import Derived.Test.YtcfohdkdppiekaaOpen
import Derived.Test.YtcfohdkdppiekaaStrs
import Derived.Lib.SmallJoins
namespace Go.Proofs.Ytcfohdkdppiekaa
open Go Go.RowKit Go.Proofs Go.ChangeShapes Go.WideShapes Go.Deep Go.Joins
theorem cell_nospot {w : World} {a : Addr} {v : Value} (h : w.cell? a = some v) : a.spot = none := by
  unfold World.cell? at h
  split at h
  · cases hs : a.spot with
    | none => rfl
    | some k => simp [hs] at h
  · cases h
theorem cell_block {w : World} {a : Addr} {v : Value} (h : w.cell? a = some v) : a.block < w.heap.size := by
  unfold World.cell? at h
  cases ho : w.heap[a.block]? with
  | none => simp [ho] at h
  | some o => exact (Array.getElem?_eq_some_iff.1 ho).1
section
variable {H : Type} {enc : TypeId × Value → H} {w : World} {spare : Nat → Bool} {held : Bool}
/-- v reads as rows of m cells, each of which is one of α -/
def rowsRead {α : Type} (w : World) (B : Nat) (m : Nat) (cs : α → List Value) (v : Value) (L : List α) : Prop :=
  ∃ A c, v = .slice A L.length c ∧ L.length ≤ c ∧ c ≤ 9223372036854775807 ∧ ∀ i t, L[i]? = some t → ∃ b off, A = some ⟨b, off, none⟩ ∧ b < B ∧ ∀ j u, (cs t)[j]? = some u → w.cell? ⟨b, off + i * m + j, none⟩ = some u
set_option maxRecDepth 100000 in
theorem open_rows {α : Type} [Inhabited α] {S T m : Nat} (cs : α → List Value) (hcl : ∀ t, (cs t).length = m) (hm : 0 < m) (hS : Try.prog.underlying S = some (.slice T)) (hcells : Try.prog.cellsOf T = m)
    (hel : ∀ (l : List Value) fuel x, l.length = m → DataW.trod enc Try.prog w 0 spare held fuel T l = some x → ∃ t, l = cs t)
    {b0 : Nat} {r : Reach} {v : Value} {d : DataW H} {ps : List MemPlace} (hv : Value.okWide Try.prog w r b0 S v) (h : DataW.Trod enc Try.prog w 0 spare held S v d ps) : ∃ L : List α, rowsRead w w.heap.size m cs v L := by
  obtain ⟨a0, len0, cap0, rfl⟩ := okWide_slice hS hv
  obtain ⟨fuel, hf⟩ := h
  rcases open_slice hS hf with ⟨hcs, _⟩ | ⟨a, len, cap, k, n, D, Pl, hcs, _, hl, hmax, hmm, hx, hi⟩
  · have e : (Value.slice a0 len0 cap0) = .slice none 0 0 := by simpa [Value.cells] using hcs
    rw [e]
    exact ⟨[], none, 0, rfl, Nat.le_refl _, by decide, fun i t hit => by simp at hit⟩
  · have e : (Value.slice a0 len0 cap0) = .slice (some a) len cap := by simpa [Value.cells] using hcs
    have hmxx : maxLen = 9223372036854775807 := by decide
    have hcap : cap ≤ 9223372036854775807 := by omega
    rw [e]
    have hml : len ≤ k := by rw [hmm]; split <;> omega
    have cell : ∀ i, ∃ t : α, i < len → ∀ j u, (cs t)[j]? = some u → w.cell? (a.add (i * m + j)) = some u := by
      intro i
      by_cases hil : i < len
      · obtain ⟨cs', hc, hT⟩ := hi i (by omega)
        rw [hcells] at hc
        obtain ⟨_, hcl', hat⟩ := World.cells?_some hc
        obtain ⟨t, rfl⟩ := hel cs' _ _ hcl' hT
        refine ⟨t, fun _ j u hj => ?_⟩
        have hjm : j < m := by rw [← hcl t]; exact (List.getElem?_eq_some_iff.1 hj).1
        have := hat j hjm
        rw [Go.Deep.add_add] at this
        rw [this]
        simp [hj]
      · exact ⟨default, fun h => absurd h hil⟩
    obtain ⟨T', hT⟩ := Classical.axiomOfChoice cell
    refine ⟨(List.range len).map T', some a, cap, by simp, by simpa using hl, hcap, fun i t hit => ?_⟩
    have hil : i < len := by
      have := (List.getElem?_eq_some_iff.1 hit).1
      simpa using this
    have et : T' i = t := by
      rw [List.getElem?_map, List.getElem?_range hil] at hit
      simpa using hit
    have hc := hT i hil
    rw [et] at hc
    obtain ⟨u0, hu0⟩ : ∃ u, (cs (T' 0))[0]? = some u := ⟨_, List.getElem?_eq_getElem (by rw [hcl]; exact hm)⟩
    have hz0 := hT 0 (by omega) 0 u0 hu0
    rw [show a.add (0 * m + 0) = a from by rw [Nat.zero_mul]; unfold Addr.add; simp] at hz0
    have hsp' : a.spot = none := cell_nospot hz0
    have hblt : a.block < w.heap.size := cell_block hz0
    clear hz0
    obtain ⟨b, off, sp⟩ := a
    simp only at hsp' hblt
    subst hsp'
    have e : ∀ k, (⟨b, off, none⟩ : Addr).add k = ⟨b, off + k, none⟩ := fun k => by unfold Addr.add; split <;> simp_all
    refine ⟨b, off, rfl, hblt, fun j u hj => ?_⟩
    have := hc j u hj
    rw [e, ← Nat.add_assoc] at this
    exact this
theorem rowsRead.keep {α : Type} {w w' : World} {B m : Nat} {cs : α → List Value} {v : Value} {L : List α} (h : rowsRead w B m cs v L) (hb : Below B w w') : rowsRead w' B m cs v L := by
  obtain ⟨A, c, hv, h1, h2, h3⟩ := h
  refine ⟨A, c, hv, h1, h2, fun i t hi => ?_⟩
  obtain ⟨b, off, hA, hlt, hc⟩ := h3 i t hi
  exact ⟨b, off, hA, hlt, fun j u hj => (hb.cell (p := ⟨b, _, none⟩) hlt).trans (hc j u hj)⟩
end
end Go.Proofs.Ytcfohdkdppiekaa
