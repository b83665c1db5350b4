/- The row WotsBack: a signature gives the public key back. For every input; no condition. -/
import Derived.Test.YtcfohdkdppiekaaRows
import Derived.Test.YtcfohdkdppiekaaPost
import Derived.Test.YtcfohdkdppiekaaOpen
import Derived.Test.YtcfohdkdppiekaaFacts
import Derived.Test.YtcfohdkdppiekaaWBack
namespace Go.Proofs.Ytcfohdkdppiekaa.wotsBack
open Go Go.RowKit Go.ChangeShapes Go.WideShapes Go.ChangeAt
open Go.ChangeMaps (open_string shut_string)
set_option maxRecDepth 100000 in
theorem walk {H : Type} {enc : TypeId × Value → H} (W : World) (base : Nat) (args : Array Value) (ds : List (DataW H)) (ps : List MemPlace)
    (hval : ∀ (j : Nat) t v, Try.f19.params[j]? = some t → args[j]? = some v → Value.okWide Try.prog W .any base t v)
    (hA : DataW.TrodAll enc Try.prog W 0 (fun _ => true) true Try.f19.params.toList args.toList ds ps) (hlt : ∀ x ∈ ps, x.block < W.heap.size) :
    Calls Try.prog 19 args W fun e W' => e = .returned (.bool true) ∧ Below W.heap.size W W' := by
  rw [Try.params19] at hA hval
  obtain ⟨v0, vs0, d0, ds0, p0, q0, hargs, rfl, rfl, h0, r0⟩ := trodAll_cons hA
  obtain ⟨v1, vs1, d1, ds1, p1, q1, rfl, rfl, rfl, h1, r1⟩ := trodAll_cons r0
  obtain ⟨rfl, rfl, rfl⟩ := trodAll_nil r1
  obtain rfl : args = #[v0, v1] := by cases args; simp_all
  obtain ⟨x0, hx0⟩ := open_key (hval 0 87 v0 rfl rfl) h0 (fun x hx => hlt x (by simp [hx]))
  obtain ⟨l1, rfl, hl1⟩ := open_str Try.underlying9 (hval 1 9 v1 rfl rfl) h1
  exact back_any (w := W) x0 _ hx0 l1 hl1
set_option maxRecDepth 100000 in
theorem lifted (os : Os) (started : os.Started) (H : Type) (enc : TypeId × Value → H) :
    ReturnsInHanded {} Try.checked os 19 .any (Rows.wotsBackSpec.pre6 enc Try.prog Try.f19 Rows.wotsBackRow.domain false) (Rows.wotsBackSpec.post enc Try.prog Try.f19 false true false false) :=
  row_true (C := Try.checked) (P := Try.prog) rfl (fn := Try.f19) (B := 4) (by kernel_rfl) started (by kernel_rfl) Try.func19
    (ChangeSpec.witness6 (enc := enc) (C := Try.checked) false ⟨#[], #[.agg #[.string ByteArray.empty, .int .u64 0], .string ByteArray.empty], []⟩ 8 (by kernel_rfl) (by kernel_rfl) (by kernel_rfl) (by kernel_rfl))
    (by kernel_rfl) (by kernel_rfl) rfl Try.underlying4 rfl (fun ds h => by
      rw [Try.params19] at h
      match ds, h with
      | [_, _], _ => rfl)
    (fun W base args ds ps hval hA _ hlt => walk W base args ds ps hval hA hlt)
theorem c_inPlace : (Rows.wotsBackRow.inPlace == Try.prog.inPlace 19) = true := by kernel_rfl
theorem c_unfollowed : (Rows.wotsBackRow.unfollowed == Try.prog.unfollowed 19) = true := by kernel_rfl
theorem c_recurses : (Rows.wotsBackRow.recurses == Try.prog.recurses 19) = true := by kernel_rfl
theorem c_named : (Rows.wotsBackRow.named == Try.prog.varsNamed 19) = true := by kernel_rfl
theorem closed : joinedFacts Try.prog 19 Try.f19 Rows.wotsBackSpec Rows.wotsBackRow = true :=
  joined_of f_laid f_maps f_stops f_stopKnobs f_heard f_mayEnter (by kernel_rfl) (by kernel_rfl) (by kernel_rfl) (by kernel_rfl) c_inPlace c_unfollowed c_recurses c_named (by kernel_rfl) (by kernel_rfl) f_lifted f_make (by kernel_rfl)
theorem over : Rows.wotsBackRow.holds Try.pinned (OpenSpec.ofChange Rows.wotsBackSpec) :=
  OpenClaim.holds_of_wide 19 Try.f19 rfl rfl rfl rfl rfl rfl rfl ⟨rfl, rfl, rfl, rfl, rfl⟩ rfl rfl rfl rfl rfl (by kernel_rfl) Try.func19 closed
    (of_decide_eq_true (by kernel_rfl)) (by unfold Func.isWrapper; first | (rw [if_pos (by decide +kernel)]; kernel_rfl) | (rw [if_neg (by decide +kernel)]; exact ⟨rfl, rfl⟩))
    (fun os started H enc _ => lifted os started H enc)
/-- the statement -/
theorem proved : Rows.WotsBackSaid :=
  over
#print axioms proved
end Go.Proofs.Ytcfohdkdppiekaa.wotsBack

