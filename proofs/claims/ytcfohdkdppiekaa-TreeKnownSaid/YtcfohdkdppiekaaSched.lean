/- Regions that draw their order: a schedule of operations that only read, which come whenever, and of others that come in one order; then a forced tail, walked as a list (guards and all). -/
import Derived.Test.YtcfohdkdppiekaaSoft3
namespace Go.Proofs.Ytcfohdkdppiekaa
open Go.RowKit
section
variable {P : Program} {ops : Array Oper} {Q : Exit → Act → World → Prop} {S : World → Prop}
/-- the head by a schedule: (true, i): it only reads; (false, i): it comes here and nowhere else -/
def schedL (P : Program) (ops : Array Oper) (Q : Exit → Act → World → Prop) (S : World → Prop) (K : Act → World → Prop) : List (Bool × Nat) → Act → World → Prop
  | [], a, w => K a w
  | (true, i) :: r, a, w => ∃ o, ops[i]? = some o ∧ ∃ v, YieldsIf P ops S o v a ∧ schedL P ops Q S K r (a.put o.dst v) w
  | (false, t) :: r, a, w => wpOp P ops Q t (fun a' w' => S w' ∧ schedL P ops Q S K r a' w') a w
def schedB (ops : Array Oper) (g n : Nat) : List (Bool × Nat) → Array Bool → Bool
  | [], b => Region.seqB .any ops g n b
  | (true, i) :: r, b => (Region.ready .any ops b).contains i && Region.free .any ops b i && decide (i < n) && schedB ops g n r (b.setIfInBounds i true)
  | (false, t) :: r, b => decide (Region.ready .any ops b = [t]) && decide (t < n) && schedB ops g n r (b.setIfInBounds t true)
theorem schedL.hd {n g : Nat} {K : Act → World → Prop} (hsel : Region.noSelect ops = true) (hs : sinkPre ops [] n = true) (hc : Region.chainB .any ops n = true) (hn : n < ops.size) (hQ : ∀ o v c a w, Q (.panic c) (Act.put a o v) w → Q (.panic c) a w) :
    ∀ (l : List (Bool × Nat)) (b : Array Bool) (a : Act) (w : World), HeadInv .any ops n b → schedB ops g n l b = true → S w →
      schedL P ops Q S K l a w → hdL P ops Q S n (fun b a w => Region.seqB .any ops g n b = true ∧ K a w) l.length b a w
  | [], b, a, w, _, hB, _, h => ⟨hB, h⟩
  | (true, i) :: r, b, a, w, inv, hB, hS, h => by
    simp only [schedB, Bool.and_eq_true, decide_eq_true_eq] at hB
    obtain ⟨⟨⟨hr, hf⟩, hin⟩, hB'⟩ := hB
    obtain ⟨o, ho, v, hy, hK⟩ := h
    have hr' : i ∈ Region.ready .any ops b := by simpa using hr
    exact hdL.first ho (Region.noSelect_spec hsel) (fun c a w => hQ o.dst v c a w) hs hc hn hin (fun b' a' w' hL => seqB_ready hL.1) _ b a w inv (Region.free_spec ho hf) hr' hy hS
      (schedL.hd hsel hs hc hn hQ r _ _ w (inv.set hr' hin) hB' hS hK)
  | (false, t) :: r, b, a, w, inv, hB, hS, h => by
    simp only [schedB, Bool.and_eq_true, decide_eq_true_eq] at hB
    obtain ⟨⟨hr, ht⟩, hB'⟩ := hB
    refine ⟨fun h0 => (by rw [hr] at h0; cases h0), fun i hi => ?_⟩
    obtain rfl : i = t := by rw [hr] at hi; simpa using hi
    exact ⟨ht, wpOp_mono (fun a' w' h' => ⟨h'.1, schedL.hd hsel hs hc hn hQ r _ a' w' (inv.set hi ht) hB' h'.1 h'.2⟩) h⟩
theorem sched_done {K : Act → World → Prop} {a : Act} {w : World} (h : K a w) : schedL P ops Q S K [] a w := h
theorem sched_op {K : Act → World → Prop} {i : Nat} {r : List (Bool × Nat)} {o : Oper} {a : Act} {w : World} (ho : ops[i]? = some o) (hw : Region.wanted o (yielded ops a.tmps) = true)
    (h : o.wp P a w (fun a' w' => S w' ∧ schedL P ops Q S K r a' w') Q) : schedL P ops Q S K ((false, i) :: r) a w := by
  show wpOp P ops Q i _ a w
  unfold wpOp
  simp only [ho]
  rw [if_pos hw]
  exact Or.inl h
theorem sched_soft {K : Act → World → Prop} {i : Nat} {r : List (Bool × Nat)} {o : Oper} {a : Act} {w : World} {v : Value} (ho : ops[i]? = some o) (hw : Region.wanted o (yielded ops a.tmps) = true)
    (hv : ∀ w, S w → (execOp a.eval o).run P w = .ok (.value v) w) (h : schedL P ops Q S K r (a.put o.dst v) w) : schedL P ops Q S K ((true, i) :: r) a w :=
  ⟨o, ho, v, Or.inl ⟨hw, hv⟩, h⟩
end
/-- THE LAW -/
theorem wp_region_sched {P : Program} {Q : Exit → Act → World → Prop} {id : Nat} {a : Act} {w : World} {l : List Oper} (S : World → Prop) (sc : List (Bool × Nat)) (n : Nat) (hm : P.follows .mixedOrders = true) (hsel : Region.noSelect l.toArray = true)
    (hk : sinkPre l.toArray [] n = true) (hc : Region.chainB .any l.toArray n = true) (hn : n < l.toArray.size) (hln : sc.length = n) (hB : schedB l.toArray (l.toArray.size - n) n sc (Array.replicate l.toArray.size false) = true)
    (hQ : ∀ o v c a w, Q (.panic c) (Act.put a o v) w → Q (.panic c) a w) (hS : S w.drew)
    (h : schedL P l.toArray Q S (fun a w => wpList P l.toArray Q (l.drop n) a w) sc a w.drew) : (Code.region id l.toArray true).wp P Q a w := by
  refine wp_region_any hm ?_
  have h2 := schedL.hd hsel hk hc hn hQ sc (Array.replicate l.toArray.size false) a w.drew inv_start hB hS h
  rw [hln] at h2
  have := hdL.any (P := P) (ops := l.toArray) (Q := Q) (S := S) (n := n) (g := l.toArray.size - n) (fun b a' w' hL => by
    have hdl : (l.drop n).length = l.toArray.size - n := by simp
    have := wpAny_of_seq (md := .any) (Q' := Q) (l.drop n) n b a' w' (fun j => by simp [List.getElem?_drop]) (by rw [hdl]; exact hL.1) hL.2
    rwa [hdl] at this) n _ a w.drew h2
  rwa [show n + (l.toArray.size - n) = l.toArray.size by omega] at this
end Go.Proofs.Ytcfohdkdppiekaa
