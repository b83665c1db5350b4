/- Regions that draw their order: some of the first operations only read and come whenever, the others of the first come in one order; then a forced tail, walked as a list (guards and all). -/
import Derived.Test.YtcfohdkdppiekaaSoft
namespace Go.Proofs.Ytcfohdkdppiekaa
open Go.RowKit
section
variable {P : Program} {ops : Array Oper} {Q : Exit → Act → World → Prop} {S : World → Prop}
/-- the head in whatever order; behind each of its operations S holds; K: what is asked when it is done -/
def hdL (P : Program) (ops : Array Oper) (Q : Exit → Act → World → Prop) (S : World → Prop) (n : Nat) (K : Array Bool → Act → World → Prop) : Nat → Array Bool → Act → World → Prop
  | 0, b, a, w => K b a w
  | f + 1, b, a, w => Region.ready .any ops b ≠ [] ∧ ∀ i ∈ Region.ready .any ops b, i < n ∧ wpOp P ops Q i (fun a' w' => S w' ∧ hdL P ops Q S n K f (b.setIfInBounds i true) a' w') a w
theorem hdL.any {n g : Nat} {K : Array Bool → Act → World → Prop} (hK : ∀ b a w, K b a w → wpAny P .any ops Q g b a w) : ∀ (f : Nat) (b : Array Bool) (a : Act) (w : World), hdL P ops Q S n K f b a w → wpAny P .any ops Q (f + g) b a w
  | 0, b, a, w, h => by rw [Nat.zero_add]; exact hK b a w h
  | f + 1, b, a, w, h => by
    have e : f + 1 + g = (f + g) + 1 := by omega
    rw [e]
    exact ⟨fun h0 => absurd h0 h.1, fun i hi => wpOp_mono (fun a' w' h' => hdL.any hK f _ a' w' h'.2) (h.2 i hi).2⟩
theorem hdL.first {n i : Nat} {oi : Oper} {v : Value} {K : Array Bool → Act → World → Prop} (hi : ops[i]? = some oi) (hsel : ∀ (j : Nat) (o : Oper) cs b, ops[j]? = some o → o.op ≠ .select cs b)
    (hQ : ∀ c a w, Q (.panic c) (Act.put a oi.dst v) w → Q (.panic c) a w) (hs : sinkPre ops [] n = true) (hc : Region.chainB .any ops n = true) (hn : n < ops.size) (hin : i < n) (hdone : ∀ b a w, K b a w → ∀ j ∈ Region.ready .any ops b, n ≤ j) :
    ∀ (f : Nat) (b : Array Bool) (a : Act) (w : World), HeadInv .any ops n b →
      (∀ j oj, ops[j]? = some oj → j ≠ i → b.getD j true = false → (∀ e ∈ oj.after, Region.binds .any e = true → e.on ≠ i) → oi.apart ops oj = true) →
      i ∈ Region.ready .any ops b → YieldsIf P ops S oi v a → S w → hdL P ops Q S n K f (b.setIfInBounds i true) (a.put oi.dst v) w → hdL P ops Q S n K (f + 1) b a w := by
  intro f
  induction f with
  | zero =>
    intro b a w inv _ hr hy hS H
    have hun := (mem_ready.1 hr).1
    refine ⟨fun h => (by rw [h] at hr; cases hr), fun j hj => ?_⟩
    have hjn : j < n := Nat.lt_of_not_le fun h => tail_last hs hc hn inv (fun i hi => by cases hi) _ i rfl hin hun j h hj
    by_cases hji : j = i
    · subst hji; exact ⟨hjn, hy.wpOp hi hS ⟨hS, H⟩⟩
    · have := hdone _ _ _ H j (ready_mono hj hji)
      omega
  | succ f ih =>
    intro b a w inv hfree hr hy hS H
    have hun := (mem_ready.1 hr).1
    refine ⟨fun h => (by rw [h] at hr; cases hr), fun j hj => ?_⟩
    have hjn : j < n := Nat.lt_of_not_le fun h => tail_last hs hc hn inv (fun i hi => by cases hi) _ i rfl hin hun j h hj
    by_cases hji : j = i
    · subst hji; exact ⟨hjn, hy.wpOp hi hS ⟨hS, H⟩⟩
    · have h1 := (H.2 j (ready_mono hj hji)).2
      obtain ⟨hjun, oj, hoj, hall⟩ := mem_ready.1 hj
      have hnot := not_ready_of_waits hall hun
      have h2 := wpOp_putIf hoj (hfree j oj hoj hji hjun hnot) (fun cs b => hsel i oi cs b hi) (fun cs b => hsel j oj cs b hoj) hQ hy h1
      have hfree' : ∀ k ok, ops[k]? = some ok → k ≠ i → (b.setIfInBounds j true).getD k true = false → (∀ e ∈ ok.after, Region.binds .any e = true → e.on ≠ i) → oi.apart ops ok = true := fun k ok hk hki hkun hno => by
        refine hfree k ok hk hki ?_ hno
        by_cases hjk : j = k
        · subst hjk; exact hjun
        · rw [getD_set_ne true hjk] at hkun; exact hkun
      refine ⟨hjn, wpOp_mono (fun a' w' h3 => ⟨h3.2.1, ih (b.setIfInBounds j true) a' w' (inv.set hj hjn) hfree' (ready_mono hr (Ne.symm hji)) h3.1 h3.2.1 ?_⟩) h2⟩
      rw [Array.setIfInBounds_comm _ _ hji]
      exact h3.2.2
/-- the others of the head, in their order -/
def effsL (P : Program) (ops : Array Oper) (Q : Exit → Act → World → Prop) (S : World → Prop) (K : Act → World → Prop) : List Nat → Act → World → Prop
  | [], a, w => K a w
  | i :: r, a, w => wpOp P ops Q i (fun a' w' => S w' ∧ effsL P ops Q S K r a' w') a w
def orderB (ops : Array Oper) (g n : Nat) : List Nat → Array Bool → Bool
  | [], b => Region.seqB .any ops g n b
  | t :: ts, b => decide (Region.ready .any ops b = [t]) && decide (t < n) && orderB ops g n ts (b.setIfInBounds t true)
def softLB (ops : Array Oper) (g n : Nat) (ts : List Nat) : List Nat → Array Bool → Bool
  | [], b => orderB ops g n ts b
  | i :: hs, b => (Region.ready .any ops b).contains i && Region.free .any ops b i && decide (i < n) && softLB ops g n ts hs (b.setIfInBounds i true)
theorem effsL.hd {n g : Nat} {K : Act → World → Prop} : ∀ (ts : List Nat) (b : Array Bool) (a : Act) (w : World), orderB ops g n ts b = true → effsL P ops Q S K ts a w →
    hdL P ops Q S n (fun b a w => Region.seqB .any ops g n b = true ∧ K a w) ts.length b a w
  | [], b, a, w, hB, h => ⟨hB, h⟩
  | t :: ts, b, a, w, hB, h => by
    simp only [orderB, Bool.and_eq_true, decide_eq_true_eq] at hB
    obtain ⟨⟨hr, ht⟩, hB'⟩ := hB
    refine ⟨fun h0 => (by rw [hr] at h0; cases h0), fun i hi => ?_⟩
    obtain rfl : i = t := by rw [hr] at hi; simpa using hi
    exact ⟨ht, wpOp_mono (fun a' w' h' => ⟨h'.1, effsL.hd ts _ a' w' hB' h'.2⟩) h⟩
theorem softs.hd {n g : Nat} {K : Act → World → Prop} (hsel : Region.noSelect ops = true) (hs : sinkPre ops [] n = true) (hc : Region.chainB .any ops n = true) (hn : n < ops.size) (ts : List Nat) (hQ : ∀ o v c a w, Q (.panic c) (Act.put a o v) w → Q (.panic c) a w) :
    ∀ (l : List Nat) (b : Array Bool) (a : Act) (w : World), HeadInv .any ops n b → softLB ops g n ts l b = true → S w →
      softs P ops S (fun a' => effsL P ops Q S K ts a' w) l a → hdL P ops Q S n (fun b a w => Region.seqB .any ops g n b = true ∧ K a w) (l.length + ts.length) b a w
  | [], b, a, w, _, hB, _, h => by
    rw [List.length_nil, Nat.zero_add]
    exact effsL.hd ts b a w hB h
  | i :: l, b, a, w, inv, hB, hS, h => by
    simp only [softLB, Bool.and_eq_true, decide_eq_true_eq] at hB
    obtain ⟨⟨⟨hr, hf⟩, hin⟩, hB'⟩ := hB
    obtain ⟨o, ho, v, hy, hK⟩ := h
    have e : (i :: l).length + ts.length = l.length + ts.length + 1 := by simp; omega
    rw [e]
    have hr' : i ∈ Region.ready .any ops b := by simpa using hr
    exact hdL.first ho (Region.noSelect_spec hsel) (fun c a w => hQ o.dst v c a w) hs hc hn hin (fun b' a' w' hL => seqB_ready hL.1) _ b a w inv (Region.free_spec ho hf) hr' hy hS
      (softs.hd hsel hs hc hn ts hQ l _ _ w (inv.set hr' hin) hB' hS hK)
theorem effsL_op {K : Act → World → Prop} {i : Nat} {r : List Nat} {o : Oper} {a : Act} {w : World} (ho : ops[i]? = some o) (hw : Region.wanted o (yielded ops a.tmps) = true) (h : o.wp P a w (fun a' w' => S w' ∧ effsL P ops Q S K r a' w') Q) : effsL P ops Q S K (i :: r) a w := by
  show wpOp P ops Q i _ a w
  unfold wpOp
  simp only [ho]
  rw [if_pos hw]
  exact Or.inl h
theorem softs_stepG {i : Nat} {l : List Nat} {o : Oper} {a : Act} {v : Value} {K : Act → Prop} (ho : ops[i]? = some o) (hw : Region.wanted o (yielded ops a.tmps) = true) (hv : ∀ w, S w → (execOp a.eval o).run P w = .ok (.value v) w) (h : softs P ops S K l (a.put o.dst v)) : softs P ops S K (i :: l) a :=
  ⟨o, ho, v, Or.inl ⟨hw, hv⟩, h⟩
end
/-- THE LAW -/
theorem wp_region_soft_list {P : Program} {Q : Exit → Act → World → Prop} {id : Nat} {a : Act} {w : World} {l : List Oper} (S : World → Prop) (hs ts : List Nat) (n : Nat) (hm : P.follows .mixedOrders = true) (hsel : Region.noSelect l.toArray = true)
    (hk : sinkPre l.toArray [] n = true) (hc : Region.chainB .any l.toArray n = true) (hn : n < l.toArray.size) (hln : hs.length + ts.length = n) (hB : softLB l.toArray (l.toArray.size - n) n ts hs (Array.replicate l.toArray.size false) = true)
    (hQ : ∀ o v c a w, Q (.panic c) (Act.put a o v) w → Q (.panic c) a w) (hS : S w.drew)
    (h : softs P l.toArray S (fun a' => effsL P l.toArray Q S (fun a w => wpList P l.toArray Q (l.drop n) a w) ts a' w.drew) hs a) : (Code.region id l.toArray true).wp P Q a w := by
  refine wp_region_any hm ?_
  have h2 := softs.hd hsel hk hc hn ts hQ hs (Array.replicate l.toArray.size false) a w.drew inv_start hB hS h
  rw [hln] at h2
  have := hdL.any (P := P) (ops := l.toArray) (Q := Q) (S := S) (n := n) (g := l.toArray.size - n) (fun b a' w' hL => by
    have hdl : (l.drop n).length = l.toArray.size - n := by simp
    have := wpAny_of_seq (md := .any) (Q' := Q) (l.drop n) n b a' w' (fun j => by simp [List.getElem?_drop]) (by rw [hdl]; exact hL.1) hL.2
    rwa [hdl] at this) n _ a w.drew h2
  rwa [show n + (l.toArray.size - n) = l.toArray.size by omega] at this
end Go.Proofs.Ytcfohdkdppiekaa
