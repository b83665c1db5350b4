/- The row WotsKnown: known answers of signatures. For every input; no condition. -/
import Derived.Test.YtcfohdkdppiekaaRows
import Derived.Test.YtcfohdkdppiekaaPost
import Derived.Test.YtcfohdkdppiekaaOpen
import Derived.Test.YtcfohdkdppiekaaFacts
import Derived.Test.YtcfohdkdppiekaaWWotsKnown
namespace Go.Proofs.Ytcfohdkdppiekaa.wotsKnown
open Go Go.RowKit Go.ChangeShapes Go.WideShapes Go.ChangeAt
open Go.ChangeMaps (open_string shut_string)
set_option maxRecDepth 100000 in
theorem walk {H : Type} {enc : TypeId × Value → H} (W : World) (base : Nat) (args : Array Value) (ds : List (DataW H)) (ps : List MemPlace)
    (hval : ∀ (j : Nat) t v, Try.f21.params[j]? = some t → args[j]? = some v → Value.okWide Try.prog W .any base t v)
    (hA : DataW.TrodAll enc Try.prog W 0 (fun _ => true) true Try.f21.params.toList args.toList ds ps) (hlt : ∀ x ∈ ps, x.block < W.heap.size) :
    Calls Try.prog 21 args W fun e W' => e = .returned (.bool true) ∧ Below W.heap.size W W' := by
  rw [Try.params21] at hA hval
  obtain ⟨rfl, rfl, rfl⟩ := trodAll_none hA
  exact wknown_any (w := W) 
set_option maxRecDepth 100000 in
theorem lifted (os : Os) (started : os.Started) (H : Type) (enc : TypeId × Value → H) :
    ReturnsInHanded {} Try.checked os 21 .any (Rows.wotsKnownSpec.pre6 enc Try.prog Try.f21 Rows.wotsKnownRow.domain false) (Rows.wotsKnownSpec.post enc Try.prog Try.f21 false true false false) :=
  row_true (C := Try.checked) (P := Try.prog) rfl (fn := Try.f21) (B := 4) (by kernel_rfl) started (by kernel_rfl) Try.func21
    (ChangeSpec.witness6 (enc := enc) (C := Try.checked) false ⟨#[], #[], []⟩ 8 (by kernel_rfl) (by kernel_rfl) (by kernel_rfl) (by kernel_rfl))
    (by kernel_rfl) (by kernel_rfl) rfl Try.underlying4 rfl (fun ds h => by
      rw [Try.params21] at h
      match ds, h with
      | [], _ => rfl)
    (fun W base args ds ps hval hA _ hlt => walk W base args ds ps hval hA hlt)
theorem c_inPlace : (Rows.wotsKnownRow.inPlace == Try.prog.inPlace 21) = true := by kernel_rfl
theorem c_unfollowed : (Rows.wotsKnownRow.unfollowed == Try.prog.unfollowed 21) = true := by kernel_rfl
theorem c_recurses : (Rows.wotsKnownRow.recurses == Try.prog.recurses 21) = true := by kernel_rfl
theorem c_named : (Rows.wotsKnownRow.named == Try.prog.varsNamed 21) = true := by kernel_rfl
theorem closed : joinedFacts Try.prog 21 Try.f21 Rows.wotsKnownSpec Rows.wotsKnownRow = true :=
  joined_of f_laid f_maps f_stops f_stopKnobs f_heard f_mayEnter (by kernel_rfl) (by kernel_rfl) (by kernel_rfl) (by kernel_rfl) c_inPlace c_unfollowed c_recurses c_named (by kernel_rfl) (by kernel_rfl) f_lifted f_make (by kernel_rfl)
theorem over : Rows.wotsKnownRow.holds Try.pinned (OpenSpec.ofChange Rows.wotsKnownSpec) :=
  OpenClaim.holds_of_wide 21 Try.f21 rfl rfl rfl rfl rfl rfl rfl ⟨rfl, rfl, rfl, rfl, rfl⟩ rfl rfl rfl rfl rfl (by kernel_rfl) Try.func21 closed
    (of_decide_eq_true (by kernel_rfl)) (by unfold Func.isWrapper; first | (rw [if_pos (by decide +kernel)]; kernel_rfl) | (rw [if_neg (by decide +kernel)]; exact ⟨rfl, rfl⟩))
    (fun os started H enc _ => lifted os started H enc)
/-- the statement -/
theorem proved : Rows.WotsKnownSaid :=
  over
#print axioms proved
end Go.Proofs.Ytcfohdkdppiekaa.wotsKnown

