/- The row TreeWith: with another element it is the tree of that list; the old one stays; only the way from the leaf to the root is another one. For every input; no condition. -/
import Derived.Test.YtcfohdkdppiekaaRows
import Derived.Test.YtcfohdkdppiekaaPost
import Derived.Test.YtcfohdkdppiekaaOpen
import Derived.Test.YtcfohdkdppiekaaFacts
import Derived.Test.YtcfohdkdppiekaaWTreeWith
namespace Go.Proofs.Ytcfohdkdppiekaa.treeWith
open Go Go.RowKit Go.ChangeShapes Go.WideShapes Go.ChangeAt
open Go.ChangeMaps (open_string shut_string)
set_option maxRecDepth 100000 in
theorem walk {H : Type} {enc : TypeId × Value → H} (W : World) (base : Nat) (args : Array Value) (ds : List (DataW H)) (ps : List MemPlace)
    (hval : ∀ (j : Nat) t v, Try.f27.params[j]? = some t → args[j]? = some v → Value.okWide Try.prog W .any base t v)
    (hA : DataW.TrodAll enc Try.prog W 0 (fun _ => true) true Try.f27.params.toList args.toList ds ps) (hlt : ∀ x ∈ ps, x.block < W.heap.size) :
    Calls Try.prog 27 args W fun e W' => e = .returned (.bool true) ∧ Below W.heap.size W W' := by
  rw [Try.params27] at hA hval
  obtain ⟨v0, vs0, d0, ds0, p0, q0, hargs, rfl, rfl, h0, r0⟩ := trodAll_cons hA
  obtain ⟨v1, vs1, d1, ds1, p1, q1, rfl, rfl, rfl, h1, r1⟩ := trodAll_cons r0
  obtain ⟨v2, vs2, d2, ds2, p2, q2, rfl, rfl, rfl, h2, r2⟩ := trodAll_cons r1
  obtain ⟨rfl, rfl, rfl⟩ := trodAll_nil r2
  obtain rfl : args = #[v0, v1, v2] := by cases args; simp_all
  obtain ⟨x0, hx0⟩ := open_strs (hval 0 26 v0 rfl rfl) h0 (fun x hx => hlt x (by simp [hx]))
  obtain ⟨n1, rfl, hn1⟩ := open_u64 Try.underlying32 (hval 1 32 v1 rfl rfl) h1
  obtain ⟨l2, rfl, hl2⟩ := open_str Try.underlying9 (hval 2 9 v2 rfl rfl) h2
  exact tw_any (w := W) x0 _ hx0 n1 hn1 l2 hl2
set_option maxRecDepth 100000 in
theorem lifted (os : Os) (started : os.Started) (H : Type) (enc : TypeId × Value → H) :
    ReturnsInHanded {} Try.checked os 27 .any (Rows.treeWithSpec.pre6 enc Try.prog Try.f27 Rows.treeWithRow.domain false) (Rows.treeWithSpec.post enc Try.prog Try.f27 false true false false) :=
  row_true (C := Try.checked) (P := Try.prog) rfl (fn := Try.f27) (B := 4) (by kernel_rfl) started (by kernel_rfl) Try.func27
    (ChangeSpec.witness6 (enc := enc) (C := Try.checked) false ⟨#[], #[.slice none 0 0, .int .u64 0, .string ByteArray.empty], []⟩ 8 (by kernel_rfl) (by kernel_rfl) (by kernel_rfl) (by kernel_rfl))
    (by kernel_rfl) (by kernel_rfl) rfl Try.underlying4 rfl (fun ds h => by
      rw [Try.params27] at h
      match ds, h with
      | [_, _, _], _ => rfl)
    (fun W base args ds ps hval hA _ hlt => walk W base args ds ps hval hA hlt)
theorem c_inPlace : (Rows.treeWithRow.inPlace == Try.prog.inPlace 27) = true := by kernel_rfl
theorem c_unfollowed : (Rows.treeWithRow.unfollowed == Try.prog.unfollowed 27) = true := by kernel_rfl
theorem c_recurses : (Rows.treeWithRow.recurses == Try.prog.recurses 27) = true := by kernel_rfl
theorem c_named : (Rows.treeWithRow.named == Try.prog.varsNamed 27) = true := by kernel_rfl
theorem closed : joinedFacts Try.prog 27 Try.f27 Rows.treeWithSpec Rows.treeWithRow = true :=
  joined_of f_laid f_maps f_stops f_stopKnobs f_heard f_mayEnter (by kernel_rfl) (by kernel_rfl) (by kernel_rfl) (by kernel_rfl) c_inPlace c_unfollowed c_recurses c_named (by kernel_rfl) (by kernel_rfl) f_lifted f_make (by kernel_rfl)
theorem over : Rows.treeWithRow.holds Try.pinned (OpenSpec.ofChange Rows.treeWithSpec) :=
  OpenClaim.holds_of_wide 27 Try.f27 rfl rfl rfl rfl rfl rfl rfl ⟨rfl, rfl, rfl, rfl, rfl⟩ rfl rfl rfl rfl rfl (by kernel_rfl) Try.func27 closed
    (of_decide_eq_true (by kernel_rfl)) (by unfold Func.isWrapper; first | (rw [if_pos (by decide +kernel)]; kernel_rfl) | (rw [if_neg (by decide +kernel)]; exact ⟨rfl, rfl⟩))
    (fun os started H enc _ => lifted os started H enc)
/-- the statement -/
theorem proved : Rows.TreeWithSaid :=
  over
#print axioms proved
end Go.Proofs.Ytcfohdkdppiekaa.treeWith

