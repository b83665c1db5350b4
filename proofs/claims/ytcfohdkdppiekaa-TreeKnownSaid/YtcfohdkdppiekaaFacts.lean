/- The closed facts of the seat's rows, one declaration each (asked together they are too great for the kernel). -/
import Derived.Test.YtcfohdkdppiekaaChecked
import Derived.KernelRfl
import Derived.JoinedOf
namespace Go.Proofs.Ytcfohdkdppiekaa
open Go
set_option maxRecDepth 100000 in
theorem head_cut : ∃ rest, behindMainWord (wordsSigns Try.prog.initOrder.toList) = "cut".toList :: rest := by
  have h : ∃ l : List Char, Try.prog.initOrder = String.ofList l ∧ (behindMainWord (wordsSigns l)).head? = some "cut".toList := ⟨_, rfl, by kernel_rfl⟩
  obtain ⟨l, h1, h2⟩ := h
  rw [h1, String.toList_ofList]
  cases hw : behindMainWord (wordsSigns l) with
  | nil => rw [hw] at h2; cases h2
  | cons c rest =>
    rw [hw] at h2
    injection h2 with h2
    exact ⟨rest, by rw [h2]⟩
theorem strip_cut (rest : List (List Char)) : ∀ os : List String, (os.all fun o => !("cut".toList == o.toList)) = true → stripLifts os ("cut".toList :: rest) = ([], "cut".toList :: rest)
  | [], _ => by unfold stripLifts; rfl
  | o :: os, h => by
    simp only [List.all_cons, Bool.and_eq_true, Bool.not_eq_true'] at h
    rw [stripLifts, if_neg (by rw [h.1]; decide)]
    exact strip_cut rest os h.2
theorem strip_lifts (rest : List (List Char)) : stripLifts liftWords ("cut".toList :: rest) = ([], "cut".toList :: rest) := strip_cut rest liftWords (by kernel_rfl)
theorem lifts_of {P : Program} {rest : List (List Char)} (h : behindMainWord (wordsSigns P.initOrder.toList) = "cut".toList :: rest) : P.headLifts = [] := by
  unfold Program.headLifts
  rw [h, strip_lifts]
  simp
theorem cut_gc : ("cut".toList == "gc".toList) = false := by decide +kernel
theorem cut_spec : ("cut".toList == "spec".toList) = false := by decide +kernel
theorem cut_carried : ("cut".toList == "carried".toList) = false := by decide +kernel
theorem lays_later : Try.prog.laysLater = false := by kernel_rfl
theorem bears_reflect : Try.prog.bearsReflect = false := by kernel_rfl
theorem door_fits : Try.prog.doorFits [] = true := by kernel_rfl
theorem mayEnter_of {P : Program} {rest : List (List Char)} (h : behindMainWord (wordsSigns P.initOrder.toList) = "cut".toList :: rest) (h1 : P.laysLater = false) (h2 : P.bearsReflect = false) (h3 : P.doorFits [] = true) : P.mayEnter = true := by
  unfold Program.mayEnter
  rw [h]
  simp only [strip_lifts, h1, h2, h3]
  simp
theorem lifted_of {P : Program} {rest : List (List Char)} (h : behindMainWord (wordsSigns P.initOrder.toList) = "cut".toList :: rest) : (false == P.liftsFinal) = true := by
  unfold Program.liftsFinal
  rw [h, lifts_of h]
  simp only [List.head?_cons]
  rw [show (some "cut".toList == some "carried".toList) = false from cut_carried]
  rfl
theorem make_of {P : Program} {rest : List (List Char)} (h : behindMainWord (wordsSigns P.initOrder.toList) = "cut".toList :: rest) : (P.make == some Make.cut) = true := by
  unfold Program.make
  rw [h]
  simp only [cut_gc, cut_spec]
  simp
theorem f_mayEnter : Try.prog.mayEnter = true := by
  obtain ⟨rest, h⟩ := head_cut
  exact mayEnter_of h lays_later bears_reflect door_fits
theorem f_lifted : (false == Try.prog.liftsFinal) = true := by
  obtain ⟨rest, h⟩ := head_cut
  exact lifted_of h
theorem f_make : (Try.prog.make == some Make.cut) = true := by
  obtain ⟨rest, h⟩ := head_cut
  exact make_of h
theorem f_laid : laidOutB Try.prog = true := by kernel_rfl
theorem f_maps : mapsRowed Try.prog = true := by kernel_rfl
theorem f_stops : (Try.prog.stops == []) = true := by kernel_rfl
theorem f_stopKnobs : (Try.prog.stopKnobs == []) = true := by kernel_rfl
theorem f_plainKeys : Try.prog.plainKeys = true := by kernel_rfl
theorem f_heard : Try.prog.stopsHeard = true := by kernel_rfl
/-- a row's closed facts, put together -/
theorem joined_of {P : Program} {f : FuncId} {fn : Func} {s : ChangeSpec} {c : OpenClaim}
    (laid : laidOutB P = true) (mapsR : mapsRowed P = true) (pstops : (P.stops == []) = true) (pknobs : (P.stopKnobs == []) = true) (heard : P.stopsHeard = true) (enter : P.mayEnter = true)
    (wf : c.wf (OpenSpec.ofChange s) = true) (tie : namedTie P c.named s.vars = true) (cstops : (c.stops == []) = true) (cknobs : (c.knobs == []) = true)
    (inPlace : (c.inPlace == P.inPlace f) = true) (unfollowed : (c.unfollowed == P.unfollowed f) = true) (recurses : (c.recurses == P.recurses f) = true) (named : (c.named == P.varsNamed f) = true)
    (keys : (c.plainKeys == P.plainKeys) = true) (short : c.shortTexts.isNone = true) (lifted : (c.lifted == P.liftsFinal) = true) (make : (P.make == some c.make) = true)
    (types : (fn.params.all (P.readableRec ·) && ((c.maps == (fn.params.toList ++ s.plain.varTypes P).any (P.mapsRec ·)) && (c.ifaces == (fn.params.toList ++ s.plain.varTypes P).any (P.ifacesRec ·)) && (c.mapsOut == P.mapsAmong fn.resultTypes.toList) &&
      (c.loops == (fn.params.toList ++ s.plain.varTypes P).any (P.loopsFrom ·)) && (c.wideKeys == (fn.params.toList ++ s.plain.varTypes P ++ fn.resultTypes.toList).any (P.wideKeysFrom ·)) &&
      s.vars.all (P.varReadable ·) && fn.resultTypes.all (fun t => P.readableRec t && decide (t < P.types.size)) && (c.ifacesOut == fn.resultTypes.toList.any (P.ifacesRec ·)) && (c.loopsOut == fn.resultTypes.toList.any (P.loopsFrom ·)) &&
      (c.kinds == (if c.domain.isEmpty then [] else fn.params.toList.map fun t => match P.underlying t with | some (.int k) => some k | _ => none)) && (c.pinned == c.pinnedBy) &&
      (c.veiled == (fn.params.toList ++ s.plain.varTypes P ++ fn.resultTypes.toList).any (P.veiledRec ·)) && c.veiledFits P fn.params.toList (fn.params.toList ++ s.plain.varTypes P ++ fn.resultTypes.toList))) = true) :
    joinedFacts P f fn s c = true := by
  rw [Bool.and_eq_true] at types
  obtain ⟨t0, t1⟩ := types
  unfold joinedFacts
  rw [laid, mapsR, t0, tie, cstops, pstops, cknobs, pknobs, inPlace, unfollowed, recurses, named, keys, short, heard, enter, lifted, make]
  simp only [Bool.true_and, Bool.and_true, wf]
  simp only [Bool.and_assoc] at t1 ⊢
  exact t1
end Go.Proofs.Ytcfohdkdppiekaa
