/- Regions that draw their order: operations that only read come whenever; those that write or make memory come in one order, and the last of them waits for all. -/
import Derived.OrdersHeld
import Derived.Test.YtcfohdkdppiekaaTail
namespace Go.Proofs.Ytcfohdkdppiekaa
open Go.RowKit
section
variable {P : Program} {ops : Array Oper} {Q : Exit → Act → World → Prop} {S : World → Prop} {last : Nat}
/-- whatever order is picked; behind each operation but the last S holds -/
def anyL (P : Program) (ops : Array Oper) (Q : Exit → Act → World → Prop) (S : World → Prop) (last : Nat) : Nat → Array Bool → Act → World → Prop
  | 0, b, a, w => Region.ready .any ops b = [] ∧ Q .normal a w
  | f + 1, b, a, w => (Region.ready .any ops b = [] → Q .normal a w) ∧ ∀ i ∈ Region.ready .any ops b, wpOp P ops Q i (fun a' w' => (i ≠ last → S w') ∧ anyL P ops Q S last f (b.setIfInBounds i true) a' w') a w
theorem anyL.any : ∀ (f : Nat) (b : Array Bool) (a : Act) (w : World), anyL P ops Q S last f b a w → wpAny P .any ops Q f b a w
  | 0, _, _, _, h => h
  | f + 1, _, _, _, h => ⟨h.1, fun i hi => wpOp_mono (fun _ _ h' => anyL.any f _ _ _ h'.2) (h.2 i hi)⟩
/-- the last one waits, in the end, for all others -/
def lastB (ops : Array Oper) (last : Nat) : Bool := Region.sinkB .any ops last && (last + 1 == ops.size)
theorem last_waits {b : Array Bool} (hl : lastB ops last = true) (inv : HeadInv .any ops ops.size b) (hr : last ∈ Region.ready .any ops b) : ∀ (d i : Nat), last - i = d → i < last → b.getD i true = false → False := by
  simp only [lastB, Bool.and_eq_true, beq_iff_eq] at hl
  obtain ⟨hs, hn⟩ := hl
  intro d
  induction d using Nat.strongRecOn with
  | _ d ih =>
    intro i hd hi hun
    obtain ⟨_, ol, hol, hall⟩ := mem_ready.1 hr
    have h1 := List.all_eq_true.1 hs i (List.mem_range.2 hi)
    obtain ⟨j, hj, hj2⟩ := List.any_eq_true.1 h1
    simp only [Bool.and_eq_true, decide_eq_true_eq] at hj2
    obtain ⟨oj, hoj, e, he, hb, hon⟩ := Region.waitsFor_spec hj2.2
    have hjle := List.mem_range.1 hj
    rcases Nat.lt_or_ge j last with hjt | hjt
    · cases hlj : b.getD j false with
      | true =>
        have h2 := inv.closed j oj hoj hlj e he hb
        rw [hon, getD_both hun] at h2
        cases h2
      | false => exact ih (last - j) (by omega) j rfl hjt (getD_in (by rw [inv.size]; omega) hlj)
    · obtain rfl : j = last := by omega
      obtain rfl : oj = ol := Option.some.inj (hoj.symm.trans hol)
      have h2 := hall e he hb
      rw [hon, getD_both hun] at h2
      cases h2
theorem anyL.first {i : Nat} {oi : Oper} {v : Value} (hi : ops[i]? = some oi) (hsel : ∀ (j : Nat) (o : Oper) cs b, ops[j]? = some o → o.op ≠ .select cs b)
    (hQ : ∀ c a w, Q (.panic c) (a.put oi.dst v) w → Q (.panic c) a w) (hl : lastB ops last = true) (hil : i ≠ last) :
    ∀ (f : Nat) (b : Array Bool) (a : Act) (w : World), HeadInv .any ops ops.size b →
      (∀ j oj, ops[j]? = some oj → j ≠ i → b.getD j true = false → (∀ e ∈ oj.after, Region.binds .any e = true → e.on ≠ i) → oi.apart ops oj = true) →
      i ∈ Region.ready .any ops b → YieldsIf P ops S oi v a → S w → anyL P ops Q S last f (b.setIfInBounds i true) (a.put oi.dst v) w → anyL P ops Q S last (f + 1) b a w := by
  intro f
  induction f with
  | zero =>
    intro b a w _ _ hr hy hS H
    refine ⟨fun h => (by rw [h] at hr; cases hr), fun j hj => ?_⟩
    by_cases hji : j = i
    · subst hji; exact hy.wpOp hi hS ⟨fun _ => hS, H⟩
    · have := ready_mono hj hji
      rw [H.1] at this
      cases this
  | succ f ih =>
    intro b a w inv hfree hr hy hS H
    refine ⟨fun h => (by rw [h] at hr; cases hr), fun j hj => ?_⟩
    by_cases hji : j = i
    · subst hji; exact hy.wpOp hi hS ⟨fun _ => hS, H⟩
    · have h1 := H.2 j (ready_mono hj hji)
      obtain ⟨hjun, oj, hoj, hall⟩ := mem_ready.1 hj
      have hiun := (mem_ready.1 hr).1
      have hnot := not_ready_of_waits hall hiun
      have hjl : j ≠ last := by
        intro e
        subst e
        have hlt : i < ops.size := (Array.getElem?_eq_some_iff.1 hi).1
        have hn : j + 1 = ops.size := by
          simp only [lastB, Bool.and_eq_true, beq_iff_eq] at hl
          exact hl.2
        exact last_waits hl inv hj _ i rfl (by omega) hiun
      have h2 := wpOp_putIf hoj (hfree j oj hoj hji hjun hnot) (fun cs b => hsel i oi cs b hi) (fun cs b => hsel j oj cs b hoj) hQ hy h1
      have hfree' : ∀ k ok, ops[k]? = some ok → k ≠ i → (b.setIfInBounds j true).getD k true = false → (∀ e ∈ ok.after, Region.binds .any e = true → e.on ≠ i) → oi.apart ops ok = true := fun k ok hk hki hkun hno => by
        refine hfree k ok hk hki ?_ hno
        by_cases hjk : j = k
        · subst hjk; exact hjun
        · rw [getD_set_ne true hjk] at hkun; exact hkun
      have hjs : j < ops.size := (Array.getElem?_eq_some_iff.1 hoj).1
      refine wpOp_mono (fun a' w' h3 => ⟨fun _ => h3.2.1 hjl, ih (b.setIfInBounds j true) a' w' (inv.set hj hjs) hfree' (ready_mono hr (Ne.symm hji)) h3.1 (h3.2.1 hjl) ?_⟩) h2
      rw [Array.setIfInBounds_comm _ _ hji]
      exact h3.2.2
/-- those that write or make memory, in their order -/
def effs (P : Program) (ops : Array Oper) (Q : Exit → Act → World → Prop) (S : World → Prop) : List Nat → Act → World → Prop
  | [], a, w => Q .normal a w
  | [i], a, w => wpOp P ops Q i (fun a' w' => Q .normal a' w') a w
  | i :: j :: r, a, w => wpOp P ops Q i (fun a' w' => S w' ∧ effs P ops Q S (j :: r) a' w') a w
/-- may they come in just this order? -/
def tailB (ops : Array Oper) : List Nat → Array Bool → Bool
  | [], b => (Region.ready .any ops b).isEmpty
  | t :: ts, b => decide (Region.ready .any ops b = [t]) && tailB ops ts (b.setIfInBounds t true)
/-- may they be taken so? first hs, then ts -/
def softB (ops : Array Oper) (last : Nat) (ts : List Nat) : List Nat → Array Bool → Bool
  | [], b => tailB ops ts b
  | i :: hs, b => (Region.ready .any ops b).contains i && Region.free .any ops b i && (i != last) && softB ops last ts hs (b.setIfInBounds i true)
theorem effs.anyL : ∀ (ts : List Nat) (b : Array Bool) (a : Act) (w : World), (ts.getLast? = some last ∨ ts = []) → tailB ops ts b = true → effs P ops Q S ts a w → anyL P ops Q S last ts.length b a w
  | [], b, a, w, _, hB, h => ⟨by simpa [tailB] using hB, h⟩
  | [t], b, a, w, hl, hB, h => by
    simp only [tailB, Bool.and_eq_true, decide_eq_true_eq] at hB
    obtain ⟨hr, hB'⟩ := hB
    have htl : t = last := by simpa using hl
    refine ⟨fun h0 => (by rw [hr] at h0; cases h0), fun i hi => ?_⟩
    obtain rfl : i = t := by rw [hr] at hi; simpa using hi
    exact wpOp_mono (fun a' w' h' => ⟨fun hne => absurd htl hne, effs.anyL [] _ a' w' (Or.inr rfl) (by simpa [tailB] using hB') h'⟩) h
  | t :: u :: r, b, a, w, hl, hB, h => by
    rw [tailB] at hB
    simp only [Bool.and_eq_true, decide_eq_true_eq] at hB
    obtain ⟨hr, hB'⟩ := hB
    refine ⟨fun h0 => (by rw [hr] at h0; cases h0), fun i hi => ?_⟩
    obtain rfl : i = t := by rw [hr] at hi; simpa using hi
    refine wpOp_mono (fun a' w' h' => ⟨fun _ => h'.1, effs.anyL (u :: r) _ a' w' ?_ hB' h'.2⟩) h
    rcases hl with hl | hl
    · exact Or.inl (by simpa using hl)
    · cases hl
/-- each of them reads, in their order -/
def softs (P : Program) (ops : Array Oper) (S : World → Prop) (K : Act → Prop) : List Nat → Act → Prop
  | [], a => K a
  | i :: l, a => ∃ o, ops[i]? = some o ∧ ∃ v, YieldsIf P ops S o v a ∧ softs P ops S K l (a.put o.dst v)
theorem softs.anyL (hsel : Region.noSelect ops = true) (hl : lastB ops last = true) (ts : List Nat) (hts : ts.getLast? = some last ∨ ts = []) (hQ : ∀ o v c a w, Q (.panic c) (Act.put a o v) w → Q (.panic c) a w) :
    ∀ (hs : List Nat) (b : Array Bool) (a : Act) (w : World), HeadInv .any ops ops.size b → softB ops last ts hs b = true → S w →
      softs P ops S (fun a' => effs P ops Q S ts a' w) hs a → anyL P ops Q S last (hs.length + ts.length) b a w
  | [], b, a, w, _, hB, _, h => by
    rw [List.length_nil, Nat.zero_add]
    exact effs.anyL ts b a w hts hB h
  | i :: hs, b, a, w, inv, hB, hS, h => by
    simp only [softB, Bool.and_eq_true, bne_iff_ne] at hB
    obtain ⟨⟨⟨hr, hf⟩, hne⟩, hB'⟩ := hB
    obtain ⟨o, ho, v, hy, hK⟩ := h
    have e : (i :: hs).length + ts.length = hs.length + ts.length + 1 := by simp; omega
    rw [e]
    have hr' : i ∈ Region.ready .any ops b := by simpa using hr
    exact anyL.first ho (Region.noSelect_spec hsel) (fun c a w => hQ o.dst v c a w) hl hne _ b a w inv (Region.free_spec ho hf) (by simpa using hr) hy hS
      (softs.anyL hsel hl ts hts hQ hs _ _ w (inv.set hr' (Array.getElem?_eq_some_iff.1 ho).1) hB' hS hK)
theorem softs_step {i : Nat} {l : List Nat} {o : Oper} {a : Act} {v : Value} {K : Act → Prop} (ho : ops[i]? = some o) (hg : o.guard = none) (hv : ∀ w, S w → (execOp a.eval o).run P w = .ok (.value v) w) (h : softs P ops S K l (a.put o.dst v)) : softs P ops S K (i :: l) a :=
  ⟨o, ho, v, Or.inl ⟨by simp [Region.wanted, hg], hv⟩, h⟩
theorem softs_done {a : Act} {K : Act → Prop} (h : K a) : softs P ops S K [] a := h
theorem effs_op {i j : Nat} {r : List Nat} {o : Oper} {a : Act} {w : World} (ho : ops[i]? = some o) (hg : o.guard = none) (h : o.wp P a w (fun a' w' => S w' ∧ effs P ops Q S (j :: r) a' w') Q) : effs P ops Q S (i :: j :: r) a w := by
  show wpOp P ops Q i _ a w
  unfold wpOp
  simp only [ho]
  rw [if_pos (by simp [Region.wanted, hg])]
  exact Or.inl h
theorem effs_last {i : Nat} {o : Oper} {a : Act} {w : World} (ho : ops[i]? = some o) (hg : o.guard = none) (h : o.wp P a w (fun a' w' => Q .normal a' w') Q) : effs P ops Q S [i] a w := by
  show wpOp P ops Q i _ a w
  unfold wpOp
  simp only [ho]
  rw [if_pos (by simp [Region.wanted, hg])]
  exact Or.inl h
/-- THE LAW: softs first, then the others -/
theorem wp_region_soft {id : Nat} {a : Act} {w : World} (S : World → Prop) (hs ts : List Nat) (last : Nat) (hm : P.follows .mixedOrders = true) (hsel : Region.noSelect ops = true) (hl : lastB ops last = true) (hts : ts.getLast? = some last)
    (hn : hs.length + ts.length = ops.size) (hB : softB ops last ts hs (Array.replicate ops.size false) = true) (hQ : ∀ o v c a w, Q (.panic c) (Act.put a o v) w → Q (.panic c) a w)
    (hS : S w.drew) (h : softs P ops S (fun a' => effs P ops Q S ts a' w.drew) hs a) : (Code.region id ops true).wp P Q a w := by
  refine wp_region_any hm (anyL.any _ _ _ _ (S := S) (last := last) ?_)
  have h2 := softs.anyL hsel hl ts (Or.inl hts) hQ hs _ a w.drew ⟨by simp, fun j oj _ hlj => (by rw [getD_replicate_false] at hlj; cases hlj), fun t h1 h2 => absurd h2 (by omega)⟩ hB hS h
  rw [hn] at h2
  exact h2
end
end Go.Proofs.Ytcfohdkdppiekaa
