/- A function that holds a range over a function: its contract from its body, its return. -/
import Derived.Test.YtcfohdkdppiekaaRange
namespace Go.Proofs.Ytcfohdkdppiekaa
open Go Go.RowKit
variable {P : Program}
abbrev Marked (P : Program) (fn : Func) (R : Ending → World → Prop) : Exit → Act → World → Prop := bodyPostM Fence.wide 0 P fn R
theorem calls_of_marks {f : FuncId} {fn : Func} {c : Code} {args : Array Value} {w : World} {R : Ending → World → Prop} (hf : P.funcs[f]? = some fn) (hb : fn.body = some c)
    (h : c.wp P (Marked P fn R) { tmps := args ++ Array.replicate (fn.ntmps - args.size) undef, defers := [] } w) : Calls P f args w R :=
  (callsIn_wide (n := 0)).1 (callsIn_of_wp_marks hf hb trivial ((wpIn_wide (n := 0)).2 h) rfl)
theorem marks_ret {fn : Func} {R : Ending → World → Prop} {a : Act} {w : World} {D : Nat} {v : Value} (hd : a.defers = [{ target := .collected D, args := #[] }]) (hk : w.heap[D]? = some (.deferred (some [])))
    (hr : (results fn a.tmps).run P (w.putObj D (.deferred none)) = .ok v (w.putObj D (.deferred none))) (hR : R (.returned v) (w.putObj D (.deferred none))) : Marked P fn R .ret a w := by
  show LeavesInM Fence.wide 0 P fn a.tmps R a.defers .returning w
  rw [hd]
  refine ⟨by simp, .inl ⟨D, _, rfl, run_takeDeferred hk, ?_⟩⟩
  exact ⟨v, hr, hR⟩
theorem marks_none {fn : Func} {R : Ending → World → Prop} {a : Act} {w : World} {v : Value} (hd : a.defers = []) (hr : (results fn a.tmps).run P w = .ok v w) (hR : R (.returned v) w) : Marked P fn R .ret a w := by
  show LeavesInM Fence.wide 0 P fn a.tmps R a.defers .returning w
  rw [hd]
  exact ⟨v, hr, hR⟩
theorem below_put {B : Nat} {a w : World} (h : Below B a w) (D : Nat) (o : Obj) (hD : B ≤ D) (hB : B ≤ w.heap.size) : Below B a (w.putObj D o) :=
  h.trans ((Below.refl B w).grown (grownBy_putObj' w D o) hB (fun k e => by cases e; exact hD))
theorem grown_put {a w : World} {g : Option Nat} (h : a.grownBy w g) (D : Nat) (o : Obj) (hD : a.heap.size ≤ D) : a.grownBy (w.putObj D o) g :=
  ⟨h.os, h.tape, h.output, by have := h.size; simpa using this, fun k hk hne => (World.putObj_heap_other (by omega)).trans (h.block k hk hne)⟩
theorem results_two {fn : Func} {t u : Tmp} (h : fn.results = #[.tmp t, .tmp u]) (tmps : Array Value) (w : World) : (results fn tmps).run P w = .ok (.tuple #[tmps.getD t undef, tmps.getD u undef]) w := by
  simp [results, h]
end Go.Proofs.Ytcfohdkdppiekaa
