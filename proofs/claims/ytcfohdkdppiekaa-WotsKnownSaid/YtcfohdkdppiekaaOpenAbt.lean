/- An argument opened: what a certificate is about. -/
import Derived.Test.YtcfohdkdppiekaaWShort
import Derived.Test.YtcfohdkdppiekaaOpen
import Derived.Lib.SmallJoins
import Derived.Laws.IdiomArrays
namespace Go.Proofs.Ytcfohdkdppiekaa
open Go Go.RowKit Go.Proofs Go.ChangeShapes Go.WideShapes Go.Deep Go.Joins
theorem abt_cells : Try.prog.cellsOf 125 = 6 := by kernel_rfl
theorem abt_cellsS : Try.prog.cellsOf 9 = 1 := by kernel_rfl
theorem abt_cellsA : Try.prog.cellsOf 123 = 3 := by kernel_rfl
theorem abt_cellsU : Try.prog.cellsOf 32 = 1 := by kernel_rfl
section
variable {H : Type} {enc : TypeId × Value → H} {w : World} {base : Nat} {spare : Nat → Bool} {held : Bool} {fuel : Nat}
theorem u64_of {n' : Nat} {c : Value} {z : DataW H × List MemPlace} (f : DataW.trod enc Try.prog w base spare held n' 32 [c] = some z) : ∃ n : Nat, n < 18446744073709551616 ∧ c = .int .u64 (n : Int) := by
  obtain ⟨n, q, x, wf⟩ := DataW.trod_int Try.underlying32 f
  have b := bounds_u64 wf
  simp at q
  exact ⟨n.toNat, by omega, by rw [q, Int.toNat_of_nonneg b.1]⟩
theorem str_of {n' : Nat} {c : Value} {z : DataW H × List MemPlace} (f : DataW.trod enc Try.prog w base spare held n' 9 [c] = some z) : ∃ l : List UInt8, l.length ≤ 9223372036854775807 ∧ c = .string ⟨l.toArray⟩ := by
  obtain ⟨s, q, x, hs⟩ := DataW.trod_string Try.underlying9 f
  obtain ⟨l, rfl, hl⟩ := bytes_list s hs
  simp at q
  exact ⟨l, hl, q⟩
set_option maxRecDepth 100000 in
theorem open_abt {b0 : Nat} {r : Reach} {v : Value} {d : DataW H} {ps : List MemPlace} (hv : Value.okWide Try.prog w r b0 125 v) (h : DataW.Trod enc Try.prog w base spare held 125 v d ps) (_ : ∀ x ∈ ps, x.block < w.heap.size) :
    ∃ t : Abt, t.ok ∧ v = .agg t.cs.toArray := by
  obtain ⟨cs, rfl, hsz⟩ := okWide_struct Try.underlying125 hv
  rw [abt_cells] at hsz
  obtain ⟨fuel, hT⟩ := h
  obtain ⟨ys, n', _, hy, _, hyl, hf⟩ := DataW.trod_struct Try.underlying125 hT
  obtain ⟨l⟩ := cs
  match l, hsz, ys, hyl, hf with
  | [k0, k1, k2, k3, k4, k5], _, [z0, z1, z2, z3], _, hf =>
    have f0 : DataW.trod enc Try.prog w base spare held n' 9 (([k0, k1, k2, k3, k4, k5].drop 0).take (Try.prog.cellsOf 9)) = some z0 := hf 0 _ rfl
    have f1 : DataW.trod enc Try.prog w base spare held n' 9 (([k0, k1, k2, k3, k4, k5].drop 1).take (Try.prog.cellsOf 9)) = some z1 := hf 1 _ rfl
    have f2 : DataW.trod enc Try.prog w base spare held n' 9 (([k0, k1, k2, k3, k4, k5].drop 2).take (Try.prog.cellsOf 9)) = some z2 := hf 2 _ rfl
    have f3 : DataW.trod enc Try.prog w base spare held n' 123 (([k0, k1, k2, k3, k4, k5].drop 3).take (Try.prog.cellsOf 123)) = some z3 := hf 3 _ rfl
    rw [abt_cellsS] at f0 f1 f2
    rw [abt_cellsA] at f3
    obtain ⟨y0, y1, y2, m, _, g0, g1, g2⟩ := trod_array3 Try.underlying123 abt_cellsU f3
    obtain ⟨a, ha, rfl⟩ := str_of f0
    obtain ⟨b, hb, rfl⟩ := str_of f1
    obtain ⟨c, hc, rfl⟩ := str_of f2
    obtain ⟨x, hx, rfl⟩ := u64_of g0
    obtain ⟨y, hy, rfl⟩ := u64_of g1
    obtain ⟨z, hz, rfl⟩ := u64_of g2
    exact ⟨⟨a, b, c, x, y, z⟩, ⟨ha, hb, hc, hx, hy, hz⟩, rfl⟩
end
end Go.Proofs.Ytcfohdkdppiekaa
