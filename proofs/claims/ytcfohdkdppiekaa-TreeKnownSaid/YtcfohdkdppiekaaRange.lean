/- A range over a function whose iterator keeps a state of its own in cells: the law, in the wide fence; a body that never leaves its loop early, and one that may. -/
import Derived.RangeFuncNested
import Derived.RangeFuncCalls
import Derived.RangeFuncBound
import Derived.RangeFuncLeaves
import Derived.Maps.AppendAt
import Derived.Maps.OwnIn
import Derived.WalkKit
import Derived.OwnWalkIn
import Derived.TacticsInMore
import Derived.LoopNIn
import Derived.LoopIn
namespace Go.Proofs.Ytcfohdkdppiekaa
open Go Go.RowKit
/-- the loop's two blocks, between two rounds -/
structure LoopAt (l D : Nat) (r : Loop) (W : World) : Prop where
  lp : W.heap[l]? = some (.loop r)
  dfr : W.heap[D]? = some (.deferred (some []))
theorem LoopAt.kept {l D : Nat} {r : Loop} {W W' : World} (h : LoopAt l D r W) (hk : KeepsOthers W W') : LoopAt l D r W' :=
  ⟨hk.same _ _ h.lp rfl, hk.same _ _ h.dfr rfl⟩
theorem keeps_below {W W' : World} (hb : Below W.heap.size W W') : KeepsOthers W W' :=
  ⟨hb.size, fun k o hk _ => (hb.block k (Array.getElem?_eq_some_iff.1 hk).1).trans hk⟩
theorem LoopAt.below {l D : Nat} {r : Loop} {W W' : World} (h : LoopAt l D r W) (hb : Below W.heap.size W W') : LoopAt l D r W' := h.kept (keeps_below hb)
/-- it abides a turn of a block that is no cells, at or beyond B -/
def Bears (B : Nat) (I : World → Prop) : Prop := ∀ (W : World) (l : Nat) (o o' : Obj), B ≤ l → W.heap[l]? = some o → o.isCells = false → I W → I (W.putObj l o')
/-- what a yield must achieve -/
def Yields {α : Type} (P : Program) (l D : Nat) (r : Loop) (encs : α → Array Value) (J : List α → World → Prop) (Ix : Code → List α → World → Prop) (pre : List α) (x : α) (W : World) : Prop :=
  YieldAt Fence.wide 0 P l (encs x) W fun e W' => (e = .returned (.bool true) ∧ LoopAt l D r W' ∧ J (pre ++ [x]) W') ∨
    (e = .returned (.bool false) ∧ ∃ c, Ix c (pre ++ [x]) W' ∧ W'.heap[l]? = some (.loop { r with state := .done, pending := some c }) ∧ W'.heap[D]? = some (.deferred (some [])))
/-- how a body may be left -/
def leftBy {α : Type} (J : List α → World → Prop) (Ix : Code → List α → World → Prop) (xs : List α) (W : World) : Exit → Act → World → Prop
  | .normal, _, W' => KeepsOthers W W' ∧ J xs W'
  | .ret, _, W' => KeepsOthers W W' ∧ Ix .ret xs W'
  | .exit id, _, W' => KeepsOthers W W' ∧ Ix (.exit id) xs W'
  | .goto t, _, W' => KeepsOthers W W' ∧ Ix (.goto t) xs W'
  | .panic _, _, _ => False
  | .outgrown, _, _ => False
variable {P : Program}
/-- THE LAW -/
theorem wpIn_range_moves {α : Type} {g : Operand} {ps : Array Tmp} {assign body : Code} {Q : Exit → Act → World → Prop} {a : Act} {w : World}
    {gf : Nat} {lb : Array Value} (hg : a.eval g = .func (.func gf) #[] lb) (eg : ∀ args w, (callFunc gf args).run P w = .ok (.enter gf args) w)
    (encs : α → Array Value) (hps : ∀ x, (encs x).size = ps.size) (J : List α → World → Prop) (Jy : List α → α → World → Prop) (Ja : Nat → List α → α → Act → World → Prop) (Ix : Code → List α → World → Prop) (S : List α → Prop)
    (hJ : ∀ pre, Bears w.heap.size (J pre)) (hJa : ∀ l pre x a', Bears w.heap.size (Ja l pre x a')) (hIx : ∀ c pre, Bears w.heap.size (Ix c pre)) (h0 : ∀ o1 o2, J [] ((w.alloc o1).alloc o2))
    (hiter : ∀ l D r W1, w.heap.size ≤ D → w.heap.size ≤ l → LoopAt l D r W1 → J [] W1 → (∀ pre x W, LoopAt l D r W → Jy pre x W → Yields P l D r encs J Ix pre x W) →
      CallsIn Fence.wide 0 P gf (#[.func (.yield l) #[] #[]] ++ lb) W1 fun e W' => (∃ v, e = .returned v) ∧ ((∃ xs, S xs ∧ LoopAt l D r W' ∧ J xs W') ∨ (∃ pre c, Ix c pre W' ∧ W'.heap[l]? = some (.loop { r with state := .done, pending := some c }) ∧ W'.heap[D]? = some (.deferred (some [])))))
    (hassign : ∀ (l : Nat) (pre : List α) (x : α) (W : World) (K : Act → World → Prop), Jy pre x W → (∀ a' W', KeepsOthers W W' → Ja l pre x a' W' → K a' W') →
      assign.wpIn (Fence.wide.inRound l) 0 P (Exit.then K (fun _ _ _ => False)) { tmps := (ps.zip (encs x)).foldl (fun t (p, v) => t.setIfInBounds p v) a.tmps, defers := [] } W)
    (hbody : ∀ (l : Nat) (pre : List α) (x : α) (a' : Act) (W : World), Ja l pre x a' W → body.wpIn (Fence.wide.inRound l) 0 P (leftBy J Ix (pre ++ [x]) W) a' W)
    (hdone : ∀ (D : Nat) (xs : List α) (W : World), w.heap.size ≤ D → S xs → J xs W → W.heap[D]? = some (.deferred (some [])) → Q .normal { a with defers := { target := .collected D, args := #[] } :: a.defers } W)
    (hstop : ∀ (D : Nat) (c : Code) (pre : List α) (W : World), w.heap.size ≤ D → Ix c pre W → W.heap[D]? = some (.deferred (some [])) → c.wpIn Fence.wide 0 P Q { a with defers := { target := .collected D, args := #[] } :: a.defers } W) :
    (Code.rangeFunc g ps assign body).wpIn Fence.wide 0 P Q a w := by
  refine wpIn_rangeFunc ?_
  intro fn hfn
  show ∃ _, _
  obtain ⟨rec, hrec⟩ : ∃ rec : LoopState → Option Code → Loop, rec = fun st pe => { state := st, pending := pe, fn, tmps := a.tmps, params := ps, assign, body, defers := w.heap.size } := ⟨_, rfl⟩
  obtain ⟨W1, hW1⟩ : ∃ W1, (w.alloc (.deferred (some []))).alloc (.loop (rec .ready none)) = W1 := ⟨_, rfl⟩
  have hL1 : W1.heap[w.heap.size + 1]? = some (.loop (rec .ready none)) := by
    rw [← hW1]; have := World.alloc_heap_new (w.alloc (.deferred (some []))) (.loop (rec .ready none)); rwa [World.size_alloc] at this
  have hK1 : W1.heap[w.heap.size]? = some (.deferred (some [])) := by
    rw [← hW1]; exact (Below.heap_alloc _ _ _ (by simp)).trans (World.alloc_heap_new w _)
  have hI1 : J [] W1 := by rw [← hW1]; exact h0 _ _
  refine ⟨w.heap.size + 1, [{ target := .collected w.heap.size, args := #[] }], W1, { target := .fn (.func gf) lb, args := #[.func (.yield (w.heap.size + 1)) #[] #[]] }, W1, gf,
    #[.func (.yield (w.heap.size + 1)) #[] #[]] ++ lb, W1, ?_, ?_, ?_, ?_, (fun h => by cases h), ?_⟩
  · rw [← hW1, hrec]; exact run_enterLoop_outer _ _ _ _ _
  · simp only [resolve, hg]
    simp [go_sem]
  · intro f' hf'; exact trivial
  · simp [invoke, go_sem, eg]
  · refine (hiter (w.heap.size + 1) w.heap.size (rec .ready none) W1 (Nat.le_refl _) (by omega) ⟨hL1, hK1⟩ hI1 ?_).mono ?_
    · -- one round
      rintro pre x W ⟨hl, hk⟩ hi
      have hlt : w.heap.size + 1 < W.heap.size := (Array.getElem?_eq_some_iff.1 hl).1
      have hy := run_yield (P := P) (args := encs x) hl (by rw [hrec]; exact hps x)
      rw [hrec] at hy
      refine ⟨fn, _, assign, body, hy, roundIn_of_wpIn hfn (hassign _ pre x W _ hi ?_)⟩
      clear hy
      intro a' Wa hkfa hia
      replace hl := hkfa.same _ _ hl rfl
      replace hk := hkfa.same _ _ hk rfl
      replace hlt : w.heap.size + 1 < Wa.heap.size := (Array.getElem?_eq_some_iff.1 hl).1
      refine ⟨_, run_beginRound hl (by rw [hrec]), ?_⟩
      have hl2 : (Wa.putObj (w.heap.size + 1) (.loop { rec .ready none with state := .busy })).heap[w.heap.size + 1]? = some (.loop { rec .ready none with state := .busy }) := World.putObj_heap_same hlt
      have hk2 : (Wa.putObj (w.heap.size + 1) (.loop { rec .ready none with state := .busy })).heap[w.heap.size]? = some (.deferred (some [])) := (World.putObj_heap_other (by omega)).trans hk
      refine wpIn_mono (hbody _ pre x a' _ (hJa _ pre x a' _ _ _ _ (by omega) hl rfl hia)) ?_
      have fin : ∀ (jump : Option Code) (W3 : World), KeepsOthers (Wa.putObj (w.heap.size + 1) (.loop { rec .ready none with state := .busy })) W3 →
          (Instr.endRound (w.heap.size + 1) jump).run P W3 = .ok (.bool jump.isNone) (W3.putObj (w.heap.size + 1) (.loop (rec (if jump.isNone then .ready else .done) jump))) ∧
          W3.heap[w.heap.size + 1]? = some (.loop { rec .ready none with state := .busy }) ∧
          (W3.putObj (w.heap.size + 1) (.loop (rec (if jump.isNone then .ready else .done) jump))).heap[w.heap.size + 1]? = some (.loop (rec (if jump.isNone then .ready else .done) jump)) ∧
          (W3.putObj (w.heap.size + 1) (.loop (rec (if jump.isNone then .ready else .done) jump))).heap[w.heap.size]? = some (.deferred (some [])) := fun jump W3 hk3 => by
        have hl3 := hk3.same _ _ hl2 rfl
        have := run_endRound (P := P) jump hl3
        rw [hrec] at this ⊢
        exact ⟨this, by rw [hrec] at hl3; exact hl3, World.putObj_heap_same (Array.getElem?_eq_some_iff.1 hl3).1, (World.putObj_heap_other (by omega)).trans (hk3.same _ _ hk2 rfl)⟩
      rintro e a3 W3 hp
      cases e with
      | normal =>
        obtain ⟨hk3, hi3⟩ := hp
        obtain ⟨hr, hl3, hl4, hk4⟩ := fin none W3 hk3
        exact ⟨_, _, hr, .inl ⟨rfl, ⟨hl4, hk4⟩, hJ _ _ _ _ _ (by omega) hl3 rfl hi3⟩⟩
      | ret =>
        obtain ⟨hk3, hi3⟩ := hp
        obtain ⟨hr, hl3, hl4, hk4⟩ := fin (some .ret) W3 hk3
        exact ⟨_, _, hr, .inr ⟨rfl, .ret, hIx _ _ _ _ _ _ (by omega) hl3 rfl hi3, by rw [hrec] at hl4 ⊢; exact hl4, hk4⟩⟩
      | exit id =>
        obtain ⟨hk3, hi3⟩ := hp
        obtain ⟨hr, hl3, hl4, hk4⟩ := fin (some (.exit id)) W3 hk3
        exact ⟨_, _, hr, .inr ⟨rfl, .exit id, hIx _ _ _ _ _ _ (by omega) hl3 rfl hi3, by rw [hrec] at hl4 ⊢; exact hl4, hk4⟩⟩
      | goto t =>
        obtain ⟨hk3, hi3⟩ := hp
        obtain ⟨hr, hl3, hl4, hk4⟩ := fin (some (.goto t)) W3 hk3
        exact ⟨_, _, hr, .inr ⟨rfl, .goto t, hIx _ _ _ _ _ _ (by omega) hl3 rfl hi3, by rw [hrec] at hl4 ⊢; exact hl4, hk4⟩⟩
      | panic ch => exact hp.elim
      | outgrown => exact hp.elim
    · -- behind the iterator
      rintro e W2 ⟨⟨v, rfl⟩, (⟨xs, hS, ⟨hl, hk⟩, hi⟩ | ⟨pre, c, hi, hl, hk⟩)⟩
      · exact ⟨none, _, by have := run_endLoop (P := P) hl (by rw [hrec]; simp); rw [hrec] at this; exact this, hdone _ xs _ (Nat.le_refl _) hS (hJ _ _ _ _ _ (by omega) hl rfl hi) ((World.putObj_heap_other (by omega)).trans hk)⟩
      · exact ⟨some c, _, by have := run_endLoop (P := P) hl (by rw [hrec]; simp); rw [hrec] at this; exact this, hstop _ c pre _ (Nat.le_refl _) (hIx _ _ _ _ _ _ (by omega) hl rfl hi) ((World.putObj_heap_other (by omega)).trans hk)⟩
/-- a yield whose body goes on -/
def YieldsOn {α : Type} (P : Program) (l D : Nat) (r : Loop) (encs : α → Array Value) (J : List α → World → Prop) (pre : List α) (x : α) (W : World) : Prop :=
  YieldAt Fence.wide 0 P l (encs x) W fun e W' => e = .returned (.bool true) ∧ LoopAt l D r W' ∧ J (pre ++ [x]) W'
/-- THE LAW, where no body leaves its loop early -/
theorem wp_range_all {α : Type} {g : Operand} {ps : Array Tmp} {assign body : Code} {Q : Exit → Act → World → Prop} {a : Act} {w : World}
    {gf : Nat} {lb : Array Value} (hg : a.eval g = .func (.func gf) #[] lb) (eg : ∀ args w, (callFunc gf args).run P w = .ok (.enter gf args) w)
    (encs : α → Array Value) (hps : ∀ x, (encs x).size = ps.size) (J : List α → World → Prop) (Jy : List α → α → World → Prop) (Ja : Nat → List α → α → Act → World → Prop) (S : List α → Prop)
    (hJ : ∀ pre, Bears w.heap.size (J pre)) (hJa : ∀ l pre x a', Bears w.heap.size (Ja l pre x a')) (h0 : ∀ o1 o2, J [] ((w.alloc o1).alloc o2))
    (hiter : ∀ l D r W1, w.heap.size ≤ D → w.heap.size ≤ l → LoopAt l D r W1 → J [] W1 → (∀ pre x W, LoopAt l D r W → Jy pre x W → YieldsOn P l D r encs J pre x W) →
      CallsIn Fence.wide 0 P gf (#[.func (.yield l) #[] #[]] ++ lb) W1 fun e W' => (∃ v, e = .returned v) ∧ ∃ xs, S xs ∧ LoopAt l D r W' ∧ J xs W')
    (hassign : ∀ (l : Nat) (pre : List α) (x : α) (W : World) (K : Act → World → Prop), Jy pre x W → (∀ a' W', KeepsOthers W W' → Ja l pre x a' W' → K a' W') →
      assign.wpIn (Fence.wide.inRound l) 0 P (Exit.then K (fun _ _ _ => False)) { tmps := (ps.zip (encs x)).foldl (fun t (p, v) => t.setIfInBounds p v) a.tmps, defers := [] } W)
    (hbody : ∀ (l : Nat) (pre : List α) (x : α) (a' : Act) (W : World), Ja l pre x a' W → body.wpIn (Fence.wide.inRound l) 0 P (leftBy J (fun _ _ _ => False) (pre ++ [x]) W) a' W)
    (hdone : ∀ (D : Nat) (xs : List α) (W : World), w.heap.size ≤ D → S xs → J xs W → W.heap[D]? = some (.deferred (some [])) → Q .normal { a with defers := { target := .collected D, args := #[] } :: a.defers } W) :
    (Code.rangeFunc g ps assign body).wp P Q a w := by
  refine (wpIn_wide (n := 0)).1 ?_
  refine wpIn_range_moves hg eg encs hps J Jy Ja (fun _ _ _ => False) S hJ hJa (fun _ _ _ _ _ _ _ _ _ h => h) h0 ?_ hassign hbody hdone (fun _ _ _ _ _ h => h.elim)
  intro l D r W1 hD hl hL hj hy
  refine (hiter l D r W1 hD hl hL hj (fun pre x W h1 h2 => (hy pre x W h1 h2).mono ?_)).mono ?_
  · rintro e w' (h | ⟨_, c, hc, _⟩)
    · exact h
    · exact hc.elim
  · rintro e w' ⟨hv, xs, h⟩
    exact ⟨hv, .inl ⟨xs, h⟩⟩
theorem LoopAt.grown {l D : Nat} {r : Loop} {W W' : World} {g : Nat} {T : TypeId} {xs : List Value} (h : LoopAt l D r W) (hg : W.grownBy W' (some g)) (ha : W.heap[g]? = some (.cells xs.toArray T (0, 0))) : LoopAt l D r W' :=
  h.kept (KeepsOthers.of_grownBy hg fun j o hj ho => by cases hj; rw [ha] at ho; cases ho; rfl)
/-- a step of a round that only reckons or makes memory -/
theorem wpListIn_run {l : Nat} {ops : Array Oper} {rest : List Oper} {o : Oper} {a : Act} {w w' : World} {Q : Exit → Act → World → Prop} {v : Value} (hgd : o.guard = none) (hnd : ∀ c, o.op ≠ .defer c)
    (hr : (execOp a.eval o).run P w = .ok (.value v) w') (h : wpListIn (Fence.wide.inRound l) 0 P ops Q rest (a.put o.dst v) w') : wpListIn (Fence.wide.inRound l) 0 P ops Q (o :: rest) a w := by
  refine wpListIn_plain hgd fun K hK => ?_
  unfold Oper.wpIn
  refine ⟨fun _ _ => trivial, ?_⟩
  rw [Oper.semAt_plain _ _ _ hnd, hr]
  exact hK _ _ h
end Go.Proofs.Ytcfohdkdppiekaa
