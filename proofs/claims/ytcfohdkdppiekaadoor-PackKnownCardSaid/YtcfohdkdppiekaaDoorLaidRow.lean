/- The end of a row of this seat: a law that answers true and only makes memory, where the table lies as it was laid. -/
import Derived.Test.YtcfohdkdppiekaaDoorPackTab
import Derived.Test.YtcfohdkdppiekaaDoorPost
import Derived.Test.YtcfohdkdppiekaaDoorTie
import Derived.Test.YtcfohdkdppiekaaDoorCards
import Derived.LaidMore
import Derived.Stop.Joined
import Derived.SevenTiedAt
namespace Go.Proofs.YtcfohdkdppiekaaDoor
open Go Go.RowKit Go.ChangeShapes Go.WideShapes Go.ChangeAt
abbrev tabList : List (String × DataW Unit) := [("sextant/pack.rows", Rows.laid_sextant_pack_rows)]
theorem own_knob : ownKnob Tryd.prog.godebug = none := by kernel_rfl
theorem door_met (os : Os) (args : Array Value) : laidMetH Tryd.prog tabList ((World.doorLaid Tryd.prog 33 os).forCall (fun _ _ => 0) ⟨#[], args, []⟩).memory := by
  rw [MakeChecks.laidMetH_plain _ _ _ (by kernel_rfl)]
  exact laidMet_of_run' 8 (by kernel_rfl) (by kernel_rfl)
/-- a law's row from its walk -/
theorem row_laid {H : Type} {enc : TypeId × Value → H} {os : Os} {k : FuncId} {fn : Func} {s : ChangeSpec} {B : TypeId}
    (started : os.Started) (noInit : Tryd.prog.inits.idxOf? k = none) (hfn : Tryd.prog.funcs[k]? = some fn)
    (witness : ∃ (w : World) (tape : Tape) (i : Input), w.os = os ∧ (w.forCall tape i).Shaped Tryd.checked.prog ∧ i.vars = [] ∧ Input.okWide Tryd.checked.prog (w.forCall tape i) .any w.heap.size k i ∧
      ((s.pre enc Tryd.checked.prog fn [] false (w.forCall tape i).memory i.args ∧ laidMetH Tryd.prog tabList (w.forCall tape i).memory) ∧ sizedMet enc Tryd.checked.prog fn (OpenSpec.ofChange s) false (w.forCall tape i).memory i.args) ∧ ({} : Assume).holds Tryd.checked.prog (lone (Frame.enter Tryd.checked.prog k i.args .normal) [] (w.forCall tape i)))
    (hl : laidOutB Tryd.prog = true) (ht : (fn.params.toList.all fun t => Tryd.prog.readableRec t && decide (t < Tryd.prog.types.size)) = true) (hr : fn.resultTypes = #[B]) (hB : Tryd.prog.underlying B = some .bool)
    (hv : s.vars = []) (hs : ∀ ds : List (DataW H), ds.length = fn.params.toList.length → s.fn H (ds ++ []) = { results := [.lit (.bool true)], args := ds })
    (walk : ∀ (W : World) (base : Nat) (args : Array Value) (ds : List (DataW H)) (ps : List MemPlace),
      (∀ (j : Nat) t v, fn.params[j]? = some t → args[j]? = some v → Value.okWide Tryd.prog W .any base t v) →
      DataW.TrodAll enc Tryd.prog W 0 (fun _ => true) true fn.params.toList args.toList ds ps → RowsIn W W.heap.size → (∀ x ∈ ps, x.block < W.heap.size) →
      Calls Tryd.prog k args W fun e W' => e = .returned (.bool true) ∧ Below W.heap.size W W') :
    ReturnsInHanded {} Tryd.checked os k .any (fun w args => (s.pre enc Tryd.prog fn [] false w args ∧ laidMetH Tryd.prog tabList w) ∧ sizedMet enc Tryd.prog fn (OpenSpec.ofChange s) false w args) (s.post enc Tryd.prog fn false true false false) := by
  refine returnsInHanded_of_change_and (C := Tryd.checked) (X := fun w _ => laidMetH Tryd.prog tabList w) (fun _ _ _ hh h => h.of_heap hh) own_knob started noInit hfn witness ?_
  intro W base args ds gs before hval hW _ _ hL _
  have hlt := fun p hp => hW.lt p hp
  have hW' := hW
  obtain ⟨p, q, hA, hV, rfl, hfz, hnd⟩ := hW
  rw [hv] at hV
  obtain ⟨rfl, rfl⟩ := trodVars_none hV
  refine (walk W base args ds p hval hA (rowsIn_of hL) fun x hx => hlt x (by simp [hx])).mono fun e W' ⟨he, hb⟩ => ?_
  exact ⟨_, he, post_true hl ht hr hB hv hs hW' hb⟩
end Go.Proofs.YtcfohdkdppiekaaDoor
