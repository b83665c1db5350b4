/- Slices of bytes in memory that are read. -/
import Derived.Test.YtcfohdkdppiekaaStrs
import Derived.ChangeSlices
namespace Go.Proofs.Ytcfohdkdppiekaa
open Go.RowKit Go.Proofs Go.ChangeShapes Go.WideShapes
/-- v reads as the bytes l, below block B -/
def bytesAt (w : World) (B : Nat) (v : Value) (l : List UInt8) : Prop :=
  ∃ A c, v = .slice A l.length c ∧ l.length ≤ c ∧ c ≤ 9223372036854775807 ∧ (∀ i, i < l.length → ∃ a : Addr, A = some a ∧ a.block < B ∧ w.cell? (a.add i) = some (.int .u8 ((l.getD i 0).toNat : Int)))
theorem bytesAt.keep {w w' : World} {B : Nat} {v : Value} {l : List UInt8} (h : bytesAt w B v l) (hb : Below B w w') : bytesAt w' B v l := by
  obtain ⟨A, c, hv, hc, hm, hx⟩ := h
  refine ⟨A, c, hv, hc, hm, fun i hi => ?_⟩
  obtain ⟨a, ha, hab, hcell⟩ := hx i hi
  exact ⟨a, ha, hab, (hb.cell (by rw [block_add]; exact hab)).trans hcell⟩
set_option maxRecDepth 100000 in
theorem open_bytes {H : Type} {enc : TypeId × Value → H} {w : World} {base : Nat} {r : Reach} {v : Value} {d : DataW H} {ps : List MemPlace} (hv : Value.okWide Try.prog w r base 22 v)
    (h : DataW.Trod enc Try.prog w 0 (fun _ => true) true 22 v d ps) (hlt : ∀ x ∈ ps, x.block < w.heap.size) : ∃ l, bytesAt w w.heap.size v l := by
  obtain ⟨a0, len, cap, rfl⟩ := okWide_slice Try.underlying22 hv
  obtain ⟨fuel, hf⟩ := h
  rcases Go.ChangeShapes.open_ints Try.underlying22 Try.underlying5 (by kernel_rfl) hf with ⟨hcs, hx⟩ | ⟨a, len', cap', zs, hcs, _, hl, hm, hz, hx, hcell, hws⟩
  · simp [Value.cells] at hcs
    obtain ⟨rfl, rfl, rfl⟩ := hcs
    exact ⟨[], none, 0, rfl, Nat.le_refl _, by decide, fun i hi => absurd hi (Nat.not_lt_zero _)⟩
  · simp [Value.cells] at hcs
    obtain ⟨rfl, rfl, rfl⟩ := hcs
    simp only [if_true] at hz
    obtain ⟨-, rfl⟩ := Prod.mk.inj hx
    have hlen : ((zs.take len).map fun n => UInt8.ofNat n.toNat).length = len := by simp; omega
    have hmx : maxLen = 9223372036854775807 := by decide
    refine ⟨(zs.take len).map fun n => UInt8.ofNat n.toNat, some a, cap, by rw [hlen], by omega, by omega, fun i hi => ⟨a, rfl, ?_, ?_⟩⟩
    · rw [hlen] at hi
      exact hlt (.cell a.block (a.off + 0)) (by
        unfold MemPlace.row
        exact List.mem_map.2 ⟨0, List.mem_range.2 (by omega), rfl⟩)
    · rw [hlen] at hi
      have hi2 : i < zs.length := by omega
      rw [hcell i hi2]
      have e1 : zs.getD i 0 = zs[i] := by rw [List.getD_eq_getElem?_getD, List.getElem?_eq_getElem hi2]; rfl
      have e2 : ((zs.take len).map fun n => UInt8.ofNat n.toNat).getD i 0 = UInt8.ofNat zs[i].toNat := by
        rw [List.getD_eq_getElem?_getD, List.getElem?_map, List.getElem?_take_of_lt hi, List.getElem?_eq_getElem hi2]; rfl
      have hw := bounds_u8 (hws zs[i] (List.getElem_mem hi2))
      rw [e1, e2]
      have : ((UInt8.ofNat zs[i].toNat).toNat : Int) = zs[i] := by
        rw [UInt8.toNat_ofNat']
        omega
      rw [this]
end Go.Proofs.Ytcfohdkdppiekaa
