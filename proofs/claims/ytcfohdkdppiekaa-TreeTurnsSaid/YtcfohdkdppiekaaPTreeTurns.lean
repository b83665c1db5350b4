/- The row TreeTurns: with other elements, one by one, the root is as the document says. For every input; no condition. -/
import Derived.Test.YtcfohdkdppiekaaRows
import Derived.Test.YtcfohdkdppiekaaPost
import Derived.Test.YtcfohdkdppiekaaOpen
import Derived.Test.YtcfohdkdppiekaaFacts
import Derived.Test.YtcfohdkdppiekaaWTreeTurns
namespace Go.Proofs.Ytcfohdkdppiekaa.treeTurns
open Go Go.RowKit Go.ChangeShapes Go.WideShapes Go.ChangeAt
open Go.ChangeMaps (open_string shut_string)
set_option maxRecDepth 100000 in
theorem walk {H : Type} {enc : TypeId × Value → H} (W : World) (base : Nat) (args : Array Value) (ds : List (DataW H)) (ps : List MemPlace)
    (hval : ∀ (j : Nat) t v, Try.f24.params[j]? = some t → args[j]? = some v → Value.okWide Try.prog W .any base t v)
    (hA : DataW.TrodAll enc Try.prog W 0 (fun _ => true) true Try.f24.params.toList args.toList ds ps) (hlt : ∀ x ∈ ps, x.block < W.heap.size) :
    Calls Try.prog 24 args W fun e W' => e = .returned (.bool true) ∧ Below W.heap.size W W' := by
  rw [Try.params24] at hA hval
  obtain ⟨v0, vs0, d0, ds0, p0, q0, hargs, rfl, rfl, h0, r0⟩ := trodAll_cons hA
  obtain ⟨v1, vs1, d1, ds1, p1, q1, rfl, rfl, rfl, h1, r1⟩ := trodAll_cons r0
  obtain ⟨rfl, rfl, rfl⟩ := trodAll_nil r1
  obtain rfl : args = #[v0, v1] := by cases args; simp_all
  obtain ⟨x0, hx0⟩ := open_strs (hval 0 26 v0 rfl rfl) h0 (fun x hx => hlt x (by simp [hx]))
  obtain ⟨x1, hx1⟩ := open_turns (hval 1 113 v1 rfl rfl) h1 (fun x hx => hlt x (by simp [hx]))
  exact turns_any (w := W) x0 _ hx0 x1 _ hx1
set_option maxRecDepth 100000 in
theorem lifted (os : Os) (started : os.Started) (H : Type) (enc : TypeId × Value → H) :
    ReturnsInHanded {} Try.checked os 24 .any (Rows.treeTurnsSpec.pre6 enc Try.prog Try.f24 Rows.treeTurnsRow.domain false) (Rows.treeTurnsSpec.post enc Try.prog Try.f24 false true false false) :=
  row_true (C := Try.checked) (P := Try.prog) rfl (fn := Try.f24) (B := 4) (by kernel_rfl) started (by kernel_rfl) Try.func24
    (ChangeSpec.witness6 (enc := enc) (C := Try.checked) false ⟨#[], #[.slice none 0 0, .slice none 0 0], []⟩ 8 (by kernel_rfl) (by kernel_rfl) (by kernel_rfl) (by kernel_rfl))
    (by kernel_rfl) (by kernel_rfl) rfl Try.underlying4 rfl (fun ds h => by
      rw [Try.params24] at h
      match ds, h with
      | [_, _], _ => rfl)
    (fun W base args ds ps hval hA _ hlt => walk W base args ds ps hval hA hlt)
theorem c_inPlace : (Rows.treeTurnsRow.inPlace == Try.prog.inPlace 24) = true := by kernel_rfl
theorem c_unfollowed : (Rows.treeTurnsRow.unfollowed == Try.prog.unfollowed 24) = true := by kernel_rfl
theorem c_recurses : (Rows.treeTurnsRow.recurses == Try.prog.recurses 24) = true := by kernel_rfl
theorem c_named : (Rows.treeTurnsRow.named == Try.prog.varsNamed 24) = true := by kernel_rfl
theorem closed : joinedFacts Try.prog 24 Try.f24 Rows.treeTurnsSpec Rows.treeTurnsRow = true :=
  joined_of f_laid f_maps f_stops f_stopKnobs f_heard f_mayEnter (by kernel_rfl) (by kernel_rfl) (by kernel_rfl) (by kernel_rfl) c_inPlace c_unfollowed c_recurses c_named (by kernel_rfl) (by kernel_rfl) f_lifted f_make (by kernel_rfl)
theorem over : Rows.treeTurnsRow.holds Try.pinned (OpenSpec.ofChange Rows.treeTurnsSpec) :=
  OpenClaim.holds_of_wide 24 Try.f24 rfl rfl rfl rfl rfl rfl rfl ⟨rfl, rfl, rfl, rfl, rfl⟩ rfl rfl rfl rfl rfl (by kernel_rfl) Try.func24 closed
    (of_decide_eq_true (by kernel_rfl)) (by unfold Func.isWrapper; first | (rw [if_pos (by decide +kernel)]; kernel_rfl) | (rw [if_neg (by decide +kernel)]; exact ⟨rfl, rfl⟩))
    (fun os started H enc _ => lifted os started H enc)
/-- the statement -/
theorem proved : Rows.TreeTurnsSaid :=
  over
#print axioms proved
end Go.Proofs.Ytcfohdkdppiekaa.treeTurns

