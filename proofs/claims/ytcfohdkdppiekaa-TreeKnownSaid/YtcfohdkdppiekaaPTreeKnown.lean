/- The row TreeKnown: the chapter's examples; limits; a tree that is none. For every input; no condition. -/
import Derived.Test.YtcfohdkdppiekaaRows
import Derived.Test.YtcfohdkdppiekaaPost
import Derived.Test.YtcfohdkdppiekaaOpen
import Derived.Test.YtcfohdkdppiekaaFacts
import Derived.Test.YtcfohdkdppiekaaWTreeKnown
namespace Go.Proofs.Ytcfohdkdppiekaa.treeKnown
open Go Go.RowKit Go.ChangeShapes Go.WideShapes Go.ChangeAt
open Go.ChangeMaps (open_string shut_string)
set_option maxRecDepth 100000 in
theorem walk {H : Type} {enc : TypeId × Value → H} (W : World) (base : Nat) (args : Array Value) (ds : List (DataW H)) (ps : List MemPlace)
    (hval : ∀ (j : Nat) t v, Try.f26.params[j]? = some t → args[j]? = some v → Value.okWide Try.prog W .any base t v)
    (hA : DataW.TrodAll enc Try.prog W 0 (fun _ => true) true Try.f26.params.toList args.toList ds ps) (hlt : ∀ x ∈ ps, x.block < W.heap.size) :
    Calls Try.prog 26 args W fun e W' => e = .returned (.bool true) ∧ Below W.heap.size W W' := by
  rw [Try.params26] at hA hval
  obtain ⟨rfl, rfl, rfl⟩ := trodAll_none hA
  exact tknown_any (w := W) 
set_option maxRecDepth 100000 in
theorem lifted (os : Os) (started : os.Started) (H : Type) (enc : TypeId × Value → H) :
    ReturnsInHanded {} Try.checked os 26 .any (Rows.treeKnownSpec.pre6 enc Try.prog Try.f26 Rows.treeKnownRow.domain false) (Rows.treeKnownSpec.post enc Try.prog Try.f26 false true false false) :=
  row_true (C := Try.checked) (P := Try.prog) rfl (fn := Try.f26) (B := 4) (by kernel_rfl) started (by kernel_rfl) Try.func26
    (ChangeSpec.witness6 (enc := enc) (C := Try.checked) false ⟨#[], #[], []⟩ 8 (by kernel_rfl) (by kernel_rfl) (by kernel_rfl) (by kernel_rfl))
    (by kernel_rfl) (by kernel_rfl) rfl Try.underlying4 rfl (fun ds h => by
      rw [Try.params26] at h
      match ds, h with
      | [], _ => rfl)
    (fun W base args ds ps hval hA _ hlt => walk W base args ds ps hval hA hlt)
theorem c_inPlace : (Rows.treeKnownRow.inPlace == Try.prog.inPlace 26) = true := by kernel_rfl
theorem c_unfollowed : (Rows.treeKnownRow.unfollowed == Try.prog.unfollowed 26) = true := by kernel_rfl
theorem c_recurses : (Rows.treeKnownRow.recurses == Try.prog.recurses 26) = true := by kernel_rfl
theorem c_named : (Rows.treeKnownRow.named == Try.prog.varsNamed 26) = true := by kernel_rfl
theorem closed : joinedFacts Try.prog 26 Try.f26 Rows.treeKnownSpec Rows.treeKnownRow = true :=
  joined_of f_laid f_maps f_stops f_stopKnobs f_heard f_mayEnter (by kernel_rfl) (by kernel_rfl) (by kernel_rfl) (by kernel_rfl) c_inPlace c_unfollowed c_recurses c_named (by kernel_rfl) (by kernel_rfl) f_lifted f_make (by kernel_rfl)
theorem over : Rows.treeKnownRow.holds Try.pinned (OpenSpec.ofChange Rows.treeKnownSpec) :=
  OpenClaim.holds_of_wide 26 Try.f26 rfl rfl rfl rfl rfl rfl rfl ⟨rfl, rfl, rfl, rfl, rfl⟩ rfl rfl rfl rfl rfl (by kernel_rfl) Try.func26 closed
    (of_decide_eq_true (by kernel_rfl)) (by unfold Func.isWrapper; first | (rw [if_pos (by decide +kernel)]; kernel_rfl) | (rw [if_neg (by decide +kernel)]; exact ⟨rfl, rfl⟩))
    (fun os started H enc _ => lifted os started H enc)
/-- the statement -/
theorem proved : Rows.TreeKnownSaid :=
  over
#print axioms proved
end Go.Proofs.Ytcfohdkdppiekaa.treeKnown

