/- The table of rows, as the row's condition gives it. -/
import Derived.Test.YtcfohdkdppiekaaDoorRows
import Derived.Test.YtcfohdkdppiekaaDoorWPackW
import Derived.Deep.Slices
import Derived.Deep.Fields
import Derived.ChangeSame
import Derived.OpenShut
import Derived.ProofKit
import Derived.LaidMore
namespace Go.Proofs.YtcfohdkdppiekaaDoor
open Go Go.RowKit Go.Proofs Go.ChangeShapes Go.WideShapes Go.Deep
def rowD {H : Type} (r : Rw) : DataW H := .agg [.lit (.int .u64 (r.1 : Int)), .lit (.int .u8 (r.2.1 : Int)), .lit (.int .i64 (r.2.2 : Int))]
theorem cell_spot {w : World} {a : Addr} {v : Value} (h : w.cell? a = some v) : a.spot = none := by
  unfold World.cell? at h
  split at h
  · cases hs : a.spot with
    | none => rfl
    | some k => simp [hs] at h
  · cases h
theorem cell_lt0 {w : World} {a : Addr} {v : Value} (h : w.cell? a = some v) : 0 < w.heap.size := by
  unfold World.cell? at h
  cases ho : w.heap[a.block]? with
  | none => simp [ho] at h
  | some o => have := (Array.getElem?_eq_some_iff.1 ho).1; omega
theorem row_cells : Tryd.prog.cellsOf 71 = 3 := by kernel_rfl
theorem f_cells0 : Tryd.prog.cellsOf 27 = 1 := by kernel_rfl
theorem f_cells1 : Tryd.prog.cellsOf 5 = 1 := by kernel_rfl
theorem f_cells2 : Tryd.prog.cellsOf 3 = 1 := by kernel_rfl
theorem open_rows {H : Type} {enc : TypeId × Value → H} {w : World} {spare : Nat → Bool} {held : Bool} {fuel : Nat} {cs : List Value} {rs : List Rw} {ps : List MemPlace} (hne : rs ≠ [])
    (h : DataW.trod enc Tryd.prog w 0 spare held fuel 73 cs = some (.slice (rs.map rowD) [], ps)) : ∃ v, cs = [v] ∧ rowsAt w w.heap.size v rs := by
  have hne1 : 0 < rs.length := List.length_pos_iff.2 hne
  rcases open_slice Tryd.underlying73 h with ⟨_, hx⟩ | ⟨a, len, cap, m, n, D, Pl, rfl, _, hl, hm, hmm, hx, hi⟩
  · simp at hx
  · simp only [Prod.mk.injEq, DataW.slice.injEq] at hx
    obtain ⟨⟨h1, h2⟩, _⟩ := hx
    have hlen : len = rs.length := by
      have := congrArg List.length h1
      simpa using this.symm
    subst hlen
    have hml : rs.length ≤ m := by rw [hmm]; split <;> omega
    have cell : ∀ i, i < rs.length → ∃ r, rs[i]? = some r ∧ w.cell? (a.add (i * 3)) = some (.int .u64 (r.1 : Int)) ∧ w.cell? (a.add (i * 3 + 1)) = some (.int .u8 (r.2.1 : Int)) ∧ w.cell? (a.add (i * 3 + 2)) = some (.int .i64 (r.2.2 : Int)) := by
      intro i hir
      obtain ⟨cs', hc, hT⟩ := hi i (by omega)
      rw [row_cells] at hc
      obtain ⟨ys, n', _, hy, _, hyl, hf⟩ := DataW.trod_struct Tryd.underlying71 hT
      obtain ⟨_, hcl, hat⟩ := World.cells?_some hc
      simp only [Prod.mk.injEq] at hy
      have hD := hy.1
      obtain ⟨r, hr⟩ : ∃ r, rs[i]? = some r := ⟨_, List.getElem?_eq_getElem hir⟩
      have hDr : D i = rowD r := by
        have e1 : (rs.map (rowD (H := H)))[i]? = some (rowD r) := by rw [List.getElem?_map, hr]; rfl
        rw [h1, List.getElem?_map, List.getElem?_range hir] at e1
        simpa using e1
      rw [hDr] at hD
      match cs', ys, hcl, hat, hf, hyl, hD with
      | [k0, k1, k2], [z0, z1, z2], _, hat, hf, _, hD =>
        have a0 := hat 0 (by decide)
        have a1 := hat 1 (by decide)
        have a2 := hat 2 (by decide)
        have f0 : DataW.trod enc Tryd.prog w 0 spare held n' 27 (([k0, k1, k2].drop 0).take (Tryd.prog.cellsOf 27)) = some z0 := hf 0 _ rfl
        have f1 : DataW.trod enc Tryd.prog w 0 spare held n' 5 (([k0, k1, k2].drop 1).take (Tryd.prog.cellsOf 5)) = some z1 := hf 1 _ rfl
        have f2 : DataW.trod enc Tryd.prog w 0 spare held n' 3 (([k0, k1, k2].drop 2).take (Tryd.prog.cellsOf 3)) = some z2 := hf 2 _ rfl
        rw [f_cells0] at f0
        rw [f_cells1] at f1
        rw [f_cells2] at f2
        obtain ⟨n0, q0, x0, _⟩ := DataW.trod_int Tryd.underlying27 f0
        obtain ⟨n1, q1, x1, _⟩ := DataW.trod_int Tryd.underlying5 f1
        obtain ⟨n2, q2, x2, _⟩ := DataW.trod_int Tryd.underlying3 f2
        simp at q0 q1 q2
        simp only [rowD, List.map_cons, List.map_nil, DataW.agg.injEq, List.cons.injEq, and_true, x0, x1, x2, DataW.lit.injEq, Lit.int.injEq, true_and] at hD
        obtain ⟨d0, d1, d2⟩ := hD
        refine ⟨r, hr, ?_, ?_, ?_⟩
        · rw [d0, ← q0]; simpa [Addr.add] using a0
        · rw [d1, ← q1, ← Go.Deep.add_add]; simpa using a1
        · rw [d2, ← q2, ← Go.Deep.add_add]; simpa using a2
    obtain ⟨r0, _, hc0, _, _⟩ := cell 0 hne1
    have hsp : a.spot = none := by simpa [Addr.add] using cell_spot hc0
    have hblt : a.block < w.heap.size := by
      unfold World.cell? at hc0
      cases ho : w.heap[(a.add (0 * 3)).block]? with
      | none => simp [ho] at hc0
      | some o =>
        have := (Array.getElem?_eq_some_iff.1 ho).1
        simpa [Addr.add] using this
    obtain ⟨b, off, sp⟩ := a
    simp only at hsp hblt
    subst hsp
    refine ⟨_, rfl, b, off, cap, rfl, hblt, hblt, fun i r hir => ?_⟩
    obtain ⟨r', hr', k0, k1, k2⟩ := cell i (List.getElem?_eq_some_iff.1 hir).1
    obtain rfl : r' = r := Option.some.inj (hr'.symm.trans hir)
    have e : ∀ k, (⟨b, off, none⟩ : Addr).add k = ⟨b, off + k, none⟩ := fun k => by unfold Addr.add; split <;> simp_all
    rw [e] at k0 k1 k2
    rw [Nat.add_assoc, Nat.add_assoc]
    exact ⟨k0, k1, k2⟩
theorem g_rows : Tryd.prog.globalNamed "sextant/pack.rows" = some 0 := by kernel_rfl
theorem g_rowsT : (Tryd.prog.globals[0]?).map (·.type) = some 74 := by kernel_rfl
theorem c_arr : Tryd.prog.cellsOf 74 = 5 := by kernel_rfl
theorem c_slice : Tryd.prog.cellsOf 73 = 1 := by kernel_rfl
theorem laid_tab {H : Type} : Rows.laid_sextant_pack_rows (H := H) = .agg (tab.map fun rs => .slice (rs.map rowD) []) := rfl
theorem rowsIn_of {W : World} (h : laidMetH Tryd.prog [("sextant/pack.rows", Rows.laid_sextant_pack_rows)] W) : RowsIn W W.heap.size := by
  rw [MakeChecks.laidMetH_plain _ _ _ (by kernel_rfl)] at h
  obtain ⟨ps, ⟨g, t, cs, fuel, p, q, hg, ht, hvar, hd, _, _⟩, _⟩ := h
  obtain rfl := Option.some.inj (g_rows.symm.trans hg)
  obtain rfl := Option.some.inj (g_rowsT.symm.trans ht)
  obtain ⟨xs, m, rfl, hx, hcl, hxl, hel⟩ := DataW.trod_array Tryd.underlying74 hd
  rw [c_arr] at hcl
  simp only [Prod.mk.injEq] at hx
  rw [laid_tab] at hx
  have hx1 : tab.map (fun rs => (.slice (rs.map rowD) [] : DataW Unit)) = xs.map (·.1) := by
    have := hx.1
    simpa using this
  have hcell : ∀ i rs, tab[i]? = some rs → ∃ v, W.cell? ⟨0, i, none⟩ = some v ∧ rowsAt W W.heap.size v rs := by
    intro i rs hi
    have hi5 : i < 5 := (List.getElem?_eq_some_iff.1 hi).1
    have h1 := hel i hi5
    have hxi : i < xs.length := by omega
    rw [List.getElem?_eq_getElem hxi] at h1
    have hD : (xs[i]).1 = .slice (rs.map rowD) [] := by
      have e1 : (tab.map (fun rs => (.slice (rs.map rowD) [] : DataW Unit)))[i]? = some (.slice (rs.map rowD) []) := by rw [List.getElem?_map, hi]; rfl
      rw [hx1, List.getElem?_map, List.getElem?_eq_getElem hxi] at e1
      simpa using e1
    have hne : rs ≠ [] := by
      have : ∀ rs ∈ tab, rs ≠ [] := by decide
      exact this rs (List.mem_of_getElem? hi)
    obtain ⟨v, hv, hr⟩ := open_rows (H := Unit) (ps := (xs[i]).2) hne (by rw [h1, ← hD])
    refine ⟨v, ?_, hr⟩
    have hc := World.var?_cell hg hvar i
    rw [hc]
    rw [c_slice, Nat.mul_one] at hv
    have := congrArg (fun l => l[0]?) hv
    simpa using this
  have h0 : 0 < W.heap.size := by
    obtain ⟨v, hv, _⟩ := hcell 0 _ rfl
    exact cell_lt0 hv
  exact ⟨h0, h0, hcell⟩
end Go.Proofs.YtcfohdkdppiekaaDoor
