/- The row WindowAlike: the digest of a window is that of its intervals alone. For every input; no condition. -/
import Derived.Test.YtcfohdkdppiekaaRows
import Derived.Test.YtcfohdkdppiekaaPost
import Derived.Test.YtcfohdkdppiekaaOpen
import Derived.Test.YtcfohdkdppiekaaFacts
import Derived.Test.YtcfohdkdppiekaaWWinAlike
namespace Go.Proofs.Ytcfohdkdppiekaa.windowAlike
open Go Go.RowKit Go.ChangeShapes Go.WideShapes Go.ChangeAt
open Go.ChangeMaps (open_string shut_string)
set_option maxRecDepth 100000 in
theorem walk {H : Type} {enc : TypeId × Value → H} (W : World) (base : Nat) (args : Array Value) (ds : List (DataW H)) (ps : List MemPlace)
    (hval : ∀ (j : Nat) t v, Try.f13.params[j]? = some t → args[j]? = some v → Value.okWide Try.prog W .any base t v)
    (hA : DataW.TrodAll enc Try.prog W 0 (fun _ => true) true Try.f13.params.toList args.toList ds ps) (hlt : ∀ x ∈ ps, x.block < W.heap.size) :
    Calls Try.prog 13 args W fun e W' => e = .returned (.bool true) ∧ Below W.heap.size W W' := by
  rw [Try.params13] at hA hval
  obtain ⟨v0, vs0, d0, ds0, p0, q0, hargs, rfl, rfl, h0, r0⟩ := trodAll_cons hA
  obtain ⟨v1, vs1, d1, ds1, p1, q1, rfl, rfl, rfl, h1, r1⟩ := trodAll_cons r0
  obtain ⟨rfl, rfl, rfl⟩ := trodAll_nil r1
  obtain rfl : args = #[v0, v1] := by cases args; simp_all
  obtain ⟨n0, rfl, hn0⟩ := open_u8 Try.underlying5 (hval 0 5 v0 rfl rfl) h0
  obtain ⟨x1, hx1⟩ := open_bytes (hval 1 22 v1 rfl rfl) h1 (fun x hx => hlt x (by simp [hx]))
  exact alike24 (w := W) n0 hn0 x1 _ hx1
set_option maxRecDepth 100000 in
theorem lifted (os : Os) (started : os.Started) (H : Type) (enc : TypeId × Value → H) :
    ReturnsInHanded {} Try.checked os 13 .any (Rows.windowAlikeSpec.pre6 enc Try.prog Try.f13 Rows.windowAlikeRow.domain false) (Rows.windowAlikeSpec.post enc Try.prog Try.f13 false true false false) :=
  row_true (C := Try.checked) (P := Try.prog) rfl (fn := Try.f13) (B := 4) (by kernel_rfl) started (by kernel_rfl) Try.func13
    (ChangeSpec.witness6 (enc := enc) (C := Try.checked) false ⟨#[], #[.int .u8 0, .slice none 0 0], []⟩ 8 (by kernel_rfl) (by kernel_rfl) (by kernel_rfl) (by kernel_rfl))
    (by kernel_rfl) (by kernel_rfl) rfl Try.underlying4 rfl (fun ds h => by
      rw [Try.params13] at h
      match ds, h with
      | [_, _], _ => rfl)
    (fun W base args ds ps hval hA _ hlt => walk W base args ds ps hval hA hlt)
theorem c_inPlace : (Rows.windowAlikeRow.inPlace == Try.prog.inPlace 13) = true := by kernel_rfl
theorem c_unfollowed : (Rows.windowAlikeRow.unfollowed == Try.prog.unfollowed 13) = true := by kernel_rfl
theorem c_recurses : (Rows.windowAlikeRow.recurses == Try.prog.recurses 13) = true := by kernel_rfl
theorem c_named : (Rows.windowAlikeRow.named == Try.prog.varsNamed 13) = true := by kernel_rfl
theorem closed : joinedFacts Try.prog 13 Try.f13 Rows.windowAlikeSpec Rows.windowAlikeRow = true :=
  joined_of f_laid f_maps f_stops f_stopKnobs f_heard f_mayEnter (by kernel_rfl) (by kernel_rfl) (by kernel_rfl) (by kernel_rfl) c_inPlace c_unfollowed c_recurses c_named (by kernel_rfl) (by kernel_rfl) f_lifted f_make (by kernel_rfl)
theorem over : Rows.windowAlikeRow.holds Try.pinned (OpenSpec.ofChange Rows.windowAlikeSpec) :=
  OpenClaim.holds_of_wide 13 Try.f13 rfl rfl rfl rfl rfl rfl rfl ⟨rfl, rfl, rfl, rfl, rfl⟩ rfl rfl rfl rfl rfl (by kernel_rfl) Try.func13 closed
    (of_decide_eq_true (by kernel_rfl)) (by unfold Func.isWrapper; first | (rw [if_pos (by decide +kernel)]; kernel_rfl) | (rw [if_neg (by decide +kernel)]; exact ⟨rfl, rfl⟩))
    (fun os started H enc _ => lifted os started H enc)
/-- the statement -/
theorem proved : Rows.WindowAlikeSaid :=
  over
#print axioms proved
end Go.Proofs.Ytcfohdkdppiekaa.windowAlike

