/- Arguments opened: a thing, a list of things. -/
import Derived.Test.YtcfohdkdppiekaaDoorWPackLays
import Derived.Test.YtcfohdkdppiekaaDoorOpen
import Derived.Test.YtcfohdkdppiekaaDoorPackTab
import Derived.Lib.SmallJoins
namespace Go.Proofs.YtcfohdkdppiekaaDoor
open Go Go.RowKit Go.Proofs Go.ChangeShapes Go.WideShapes Go.Deep Go.Joins
theorem thing_cells : Tryd.prog.cellsOf 30 = 4 := by kernel_rfl
theorem f_cellsS : Tryd.prog.cellsOf 9 = 1 := by kernel_rfl
theorem f_cellsZ : Tryd.prog.cellsOf 28 = 1 := by kernel_rfl
def isThing (v : Value) (t : Th) : Prop := thOk t ∧ v = .agg #[.int .i64 t.1, .int .u64 (t.2.1 : Int), .string ⟨t.2.2.1.toArray⟩, .int .u32 t.2.2.2]
section
variable {H : Type} {enc : TypeId × Value → H} {w : World} {base : Nat} {spare : Nat → Bool} {held : Bool} {fuel : Nat}
theorem thing_of {n' : Nat} {c0 c1 c2 c3 : Value} {z0 z1 z2 z3 : DataW H × List MemPlace} (f0 : DataW.trod enc Tryd.prog w base spare held n' 3 [c0] = some z0) (f1 : DataW.trod enc Tryd.prog w base spare held n' 27 [c1] = some z1)
    (f2 : DataW.trod enc Tryd.prog w base spare held n' 9 [c2] = some z2) (f3 : DataW.trod enc Tryd.prog w base spare held n' 28 [c3] = some z3) :
    ∃ t : Th, thOk t ∧ c0 = .int .i64 t.1 ∧ c1 = .int .u64 (t.2.1 : Int) ∧ c2 = .string ⟨t.2.2.1.toArray⟩ ∧ c3 = .int .u32 t.2.2.2 := by
  obtain ⟨n0, q0, x0, _⟩ := DataW.trod_int Tryd.underlying3 f0
  obtain ⟨n1, q1, x1, wf1⟩ := DataW.trod_int Tryd.underlying27 f1
  obtain ⟨s, q2, x2, hs⟩ := DataW.trod_string Tryd.underlying9 f2
  obtain ⟨n3, q3, x3, wf3⟩ := DataW.trod_int Tryd.underlying28 f3
  have b1 := bounds_u64 wf1
  have b3 := bounds_u32 wf3
  obtain ⟨l, rfl, hl⟩ := bytes_list s hs
  simp at q0 q1 q2 q3
  refine ⟨(n0, n1.toNat, l, n3), ⟨by simp only; omega, hl, b3.1, by simp only; omega⟩, q0, ?_, q2, q3⟩
  rw [q1]; simp only; rw [Int.toNat_of_nonneg b1.1]
theorem open_thing {b0 : Nat} {r : Reach} {v : Value} {d : DataW H} {ps : List MemPlace} {P : Prop} (hv : Value.okWide Tryd.prog w r b0 30 v) (h : DataW.Trod enc Tryd.prog w base spare held 30 v d ps) (_ : P) :
    ∃ t : Th, isThing v t := by
  obtain ⟨c0, c1, c2, c3, y0, y1, y2, y3, m, rfl, rfl, rfl, h0, h1, h2, h3⟩ := open_agg4 Tryd.underlying30 (by kernel_rfl) thing_cells hv h
  obtain ⟨t, ht, rfl, rfl, rfl, rfl⟩ := thing_of h0 h1 h2 h3
  exact ⟨t, ht, rfl⟩
theorem open_things {b0 : Nat} {r : Reach} {v : Value} {d : DataW H} {ps : List MemPlace} (hv : Value.okWide Tryd.prog w r b0 22 v) (h : DataW.Trod enc Tryd.prog w 0 spare held 22 v d ps) (hlt : ∀ x ∈ ps, x.block < w.heap.size) :
    ∃ L : List Th, thingsAt w w.heap.size v L := by
  obtain ⟨a0, len0, cap0, rfl⟩ := okWide_slice Tryd.underlying22 hv
  obtain ⟨fuel, hf⟩ := h
  rcases open_slice Tryd.underlying22 hf with ⟨hcs, _⟩ | ⟨a, len, cap, m, n, D, Pl, hcs, _, hl, hm, hmm, hx, hi⟩
  · have e : (Value.slice a0 len0 cap0) = .slice none 0 0 := by simpa [Value.cells] using hcs
    rw [e]
    exact ⟨[], none, 0, rfl, by simp, fun i t hit => by simp at hit⟩
  · have e : (Value.slice a0 len0 cap0) = .slice (some a) len cap := by simpa [Value.cells] using hcs
    rw [e]
    have hml : len ≤ m := by rw [hmm]; split <;> omega
    have hlm : len ≤ 9223372036854775807 := by
      have h2 : maxLen = 9223372036854775807 := by decide
      omega
    have cell : ∀ i, ∃ t : Th, i < len → thOk t ∧ w.cell? (a.add (i * 4)) = some (.int .i64 t.1) ∧ w.cell? (a.add (i * 4 + 1)) = some (.int .u64 (t.2.1 : Int)) ∧ w.cell? (a.add (i * 4 + 2)) = some (.string ⟨t.2.2.1.toArray⟩) ∧ w.cell? (a.add (i * 4 + 3)) = some (.int .u32 t.2.2.2) := by
      intro i
      by_cases hil : i < len
      · obtain ⟨cs', hc, hT⟩ := hi i (by omega)
        rw [thing_cells] at hc
        obtain ⟨ys, n', _, hy, _, hyl, hf⟩ := DataW.trod_struct Tryd.underlying30 hT
        obtain ⟨_, hcl, hat⟩ := World.cells?_some hc
        match cs', ys, hcl, hat, hf, hyl with
        | [k0, k1, k2, k3], [z0, z1, z2, z3], _, hat, hf, _ =>
          have a0 := hat 0 (by decide)
          have a1 := hat 1 (by decide)
          have a2 := hat 2 (by decide)
          have a3 := hat 3 (by decide)
          have f0 : DataW.trod enc Tryd.prog w 0 spare held n' 3 (([k0, k1, k2, k3].drop 0).take (Tryd.prog.cellsOf 3)) = some z0 := hf 0 _ rfl
          have f1 : DataW.trod enc Tryd.prog w 0 spare held n' 27 (([k0, k1, k2, k3].drop 1).take (Tryd.prog.cellsOf 27)) = some z1 := hf 1 _ rfl
          have f2 : DataW.trod enc Tryd.prog w 0 spare held n' 9 (([k0, k1, k2, k3].drop 2).take (Tryd.prog.cellsOf 9)) = some z2 := hf 2 _ rfl
          have f3 : DataW.trod enc Tryd.prog w 0 spare held n' 28 (([k0, k1, k2, k3].drop 3).take (Tryd.prog.cellsOf 28)) = some z3 := hf 3 _ rfl
          rw [f_cells2] at f0
          rw [f_cells0] at f1
          rw [f_cellsS] at f2
          rw [f_cellsZ] at f3
          obtain ⟨t, ht, q0, q1, q2, q3⟩ := thing_of f0 f1 f2 f3
          refine ⟨t, fun _ => ⟨ht, ?_, ?_, ?_, ?_⟩⟩
          · rw [← q0]; simpa [Addr.add] using a0
          · rw [← q1, ← Go.Deep.add_add]; simpa using a1
          · rw [← q2, ← Go.Deep.add_add]; simpa using a2
          · rw [← q3, ← Go.Deep.add_add]; simpa using a3
      · exact ⟨(0, 0, [], 0), fun h => absurd h hil⟩
    obtain ⟨T, hT⟩ := Classical.axiomOfChoice cell
    refine ⟨(List.range len).map T, some a, cap, by simp, by simpa using hlm, fun i t hit => ?_⟩
    have hil : i < len := by
      have := (List.getElem?_eq_some_iff.1 hit).1
      simpa using this
    have et : T i = t := by
      rw [List.getElem?_map, List.getElem?_range hil] at hit
      simpa using hit
    obtain ⟨ht, c0, c1, c2, c3⟩ := hT i hil
    rw [et] at ht c0 c1 c2 c3
    obtain ⟨hz, hz0, _⟩ := hT 0 (by omega)
    have hsp : a.spot = none := by simpa [Addr.add] using cell_spot hz0
    have hblt : a.block < w.heap.size := by
      have h1 := hz0
      unfold World.cell? at h1
      cases ho : w.heap[(a.add (0 * 4)).block]? with
      | none => simp [ho] at h1
      | some o =>
        have := (Array.getElem?_eq_some_iff.1 ho).1
        simpa [Addr.add] using this
    obtain ⟨b, off, sp⟩ := a
    simp only at hsp hblt
    subst hsp
    have e : ∀ k, (⟨b, off, none⟩ : Addr).add k = ⟨b, off + k, none⟩ := fun k => by unfold Addr.add; split <;> simp_all
    rw [e] at c0 c1 c2 c3
    refine ⟨ht, b, off, rfl, hblt, c0, ?_, ?_, ?_⟩
    · rw [Nat.add_assoc]; exact c1
    · rw [Nat.add_assoc]; exact c2
    · rw [Nat.add_assoc]; exact c3
end
end Go.Proofs.YtcfohdkdppiekaaDoor
