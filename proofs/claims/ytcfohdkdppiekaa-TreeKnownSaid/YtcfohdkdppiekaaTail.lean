/- Regions that draw their order: reads and calls that make memory alone ahead, then a forced tail (a store, an append, a writing call). -/
import Derived.StillTail
import Derived.Test.YtcfohdkdppiekaaKit
namespace Go.Proofs.Ytcfohdkdppiekaa
open Go.RowKit
section
variable {P : Program} {ops : Array Oper} {C : World → Prop}
/-- the head in whatever order, each of its operations quiet in C; L: what is asked when it is done -/
def headIn (P : Program) (ops : Array Oper) (C : World → Prop) (n : Nat) (L : Array Bool → Act → Prop) : Nat → Array Bool → Act → Prop
  | 0, b, a => L b a
  | f + 1, b, a => Region.ready .any ops b ≠ [] ∧ ∀ i ∈ Region.ready .any ops b, i < n ∧ qOp P ops C i (headIn P ops C n L f (b.setIfInBounds i true)) a
theorem headIn.any {n g : Nat} {L : Array Bool → Act → Prop} {Q : Exit → Act → World → Prop} (hL : ∀ b a w, C w → L b a → wpAny P .any ops Q g b a w) :
    ∀ (f : Nat) (b : Array Bool) (a : Act) (w : World), C w → headIn P ops C n L f b a → wpAny P .any ops Q (f + g) b a w
  | 0, b, a, w, hw, h => by rw [Nat.zero_add]; exact hL b a w hw h
  | f + 1, b, a, w, hw, h => by
    have e : f + 1 + g = (f + g) + 1 := by omega
    rw [e]
    exact ⟨fun h0 => absurd h0 h.1, fun i hi => wpOp_of_qOp hw (fun a' w' hw' h' => headIn.any hL f _ a' w' hw' h') (h.2 i hi).2⟩
theorem not_ready_of_waits {b : Array Bool} {i : Nat} {oj : Oper} (hall : ∀ e ∈ oj.after, Region.binds .any e = true → b.getD e.on false = true) (hun : b.getD i true = false) :
    ∀ e ∈ oj.after, Region.binds .any e = true → e.on ≠ i := fun e he hb heq => by
  have h1 := hall e he hb
  rw [heq, getD_both hun] at h1
  cases h1
/-- each operation of the head, but for those of 'pre', is waited for -/
def sinkPre (ops : Array Oper) (pre : List Nat) (n : Nat) : Bool :=
  (List.range n).all fun i => pre.contains i || (List.range (n + 1)).any fun j => decide (i < j) && Region.waitsFor .any ops j i
theorem tail_last {pre : List Nat} {n : Nat} {b : Array Bool} (hs : sinkPre ops pre n = true) (hc : Region.chainB .any ops n = true) (hn : n < ops.size) (inv : HeadInv .any ops n b) (hp : ∀ i ∈ pre, b.getD i true = true) :
    ∀ (d i : Nat), n - i = d → i < n → b.getD i true = false → ∀ t, n ≤ t → t ∉ Region.ready .any ops b := by
  intro d
  induction d using Nat.strongRecOn with
  | _ d ih =>
    intro i hd hi hun t ht hr
    obtain ⟨_, ot, hot, hall⟩ := mem_ready.1 hr
    have hlt : t < ops.size := (Array.getElem?_eq_some_iff.1 hot).1
    rcases Nat.lt_or_ge n t with h | h
    · have h1 := List.all_eq_true.1 hc t (List.mem_range.2 hlt)
      simp only [Bool.or_eq_true, decide_eq_true_eq] at h1
      rcases h1 with h1 | h1
      · omega
      · obtain ⟨o', ho', e, he, hb, hon⟩ := Region.waitsFor_spec h1
        obtain rfl : o' = ot := Option.some.inj (ho'.symm.trans hot)
        have h2 := hall e he hb
        rw [hon, getD_both (inv.tail (t - 1) (by omega) (by omega))] at h2
        cases h2
    · obtain rfl : t = n := by omega
      have h1 := List.all_eq_true.1 hs i (List.mem_range.2 hi)
      simp only [Bool.or_eq_true] at h1
      rcases h1 with h1 | h1
      · have := hp i (by simpa using h1)
        rw [hun] at this; cases this
      · obtain ⟨j, hj, hj2⟩ := List.any_eq_true.1 h1
        simp only [Bool.and_eq_true, decide_eq_true_eq] at hj2
        obtain ⟨oj, hoj, e, he, hb, hon⟩ := Region.waitsFor_spec hj2.2
        have hjle := List.mem_range.1 hj
        rcases Nat.lt_or_ge j t with hjt | hjt
        · cases hl : b.getD j false with
          | true =>
            have h2 := inv.closed j oj hoj hl e he hb
            rw [hon, getD_both hun] at h2
            cases h2
          | false => exact ih (t - j) (by omega) j rfl hjt (getD_in (by rw [inv.size]; omega) hl) t (Nat.le_refl _) hr
        · obtain rfl : j = t := by omega
          obtain rfl : oj = ot := Option.some.inj (hoj.symm.trans hot)
          have h2 := hall e he hb
          rw [hon, getD_both hun] at h2
          cases h2
theorem getD_put_true {b : Array Bool} {i j : Nat} (h : b.getD i true = true) : (b.setIfInBounds j true).getD i true = true := by
  by_cases e : j = i
  · subst e
    rcases Nat.lt_or_ge j b.size with h1 | h1
    · simp [h1]
    · simp
  · rw [getD_set_ne true e]; exact h
/-- an operation of the head that may come up may be taken first -/
theorem headIn.first {n i : Nat} {oi : Oper} {v : Value} {L : Array Bool → Act → Prop} (hi : ops[i]? = some oi) (hsel : ∀ (j : Nat) (o : Oper) cs b, ops[j]? = some o → o.op ≠ .select cs b)
    {pre : List Nat} (hs : sinkPre ops pre n = true) (hc : Region.chainB .any ops n = true) (hn : n < ops.size) (hin : i < n) (hdone : ∀ b a, L b a → ∀ j ∈ Region.ready .any ops b, n ≤ j) (f : Nat) :
    ∀ (b : Array Bool) (a : Act), HeadInv .any ops n b → (∀ i ∈ pre, b.getD i true = true) →
      (∀ j oj, ops[j]? = some oj → j ≠ i → b.getD j true = false → (∀ e ∈ oj.after, Region.binds .any e = true → e.on ≠ i) → oi.apart ops oj = true) →
      i ∈ Region.ready .any ops b → YieldsIn P ops C oi v a → headIn P ops C n L f (b.setIfInBounds i true) (a.put oi.dst v) → headIn P ops C n L (f + 1) b a := by
  induction f with
  | zero =>
    intro b a inv hp _ hr hy H
    have hun := (mem_ready.1 hr).1
    refine ⟨fun h => (by rw [h] at hr; cases hr), fun j hj => ?_⟩
    have hjn : j < n := Nat.lt_of_not_le fun h => tail_last hs hc hn inv hp _ i rfl hin hun j h hj
    by_cases hji : j = i
    · subst hji; exact ⟨hjn, hy.qOp hi H⟩
    · have := hdone _ _ H j (ready_mono hj hji)
      omega
  | succ f ih =>
    intro b a inv hp hfree hr hy H
    have hun := (mem_ready.1 hr).1
    refine ⟨fun h => (by rw [h] at hr; cases hr), fun j hj => ?_⟩
    have hjn : j < n := Nat.lt_of_not_le fun h => tail_last hs hc hn inv hp _ i rfl hin hun j h hj
    by_cases hji : j = i
    · subst hji; exact ⟨hjn, hy.qOp hi H⟩
    · obtain ⟨hjun, oj, hoj, hall⟩ := mem_ready.1 hj
      have h1 := (H.2 j (ready_mono hj hji)).2
      have h2 := qOp_put hoj (hfree j oj hoj hji hjun (not_ready_of_waits hall hun)) (fun cs b => hsel i oi cs b hi) (fun cs b => hsel j oj cs b hoj) hy h1
      have hfree' : ∀ k ok, ops[k]? = some ok → k ≠ i → (b.setIfInBounds j true).getD k true = false → (∀ e ∈ ok.after, Region.binds .any e = true → e.on ≠ i) → oi.apart ops ok = true := fun k ok hk hki hkun hno => by
        refine hfree k ok hk hki ?_ hno
        by_cases hjk : j = k
        · subst hjk; exact hjun
        · rw [getD_set_ne true hjk] at hkun; exact hkun
      refine ⟨hjn, qOp_mono (fun a' h3 => ih (b.setIfInBounds j true) a' (inv.set hj hjn) (fun i hi => getD_put_true (hp i hi)) hfree' (ready_mono hr (Ne.symm hji)) h3.1 ?_) h2⟩
      rw [Array.setIfInBounds_comm _ _ hji]
      exact h3.2
theorem headIn.lex {n g : Nat} {K : Act → Prop} (hsel : Region.noSelect ops = true) {pre : List Nat} (hs : sinkPre ops pre n = true) (hc : Region.chainB .any ops n = true) (hn : n < ops.size) :
    ∀ (l : List Oper) (k : Nat) (b : Array Bool) (a : Act), (∀ j, j < l.length → l[j]? = ops[k + j]?) → k + l.length = n → HeadInv .any ops n b → (∀ i ∈ pre, b.getD i true = true) →
      Region.lexHead .any ops g l.length k b = true → wpQuiet P ops C K l a → headIn P ops C n (fun b' a' => Region.seqB .any ops g n b' = true ∧ K a') l.length b a
  | [], k, b, a, _, hk, _, _, hB, h => by
    obtain rfl : k = n := by simpa using hk
    exact ⟨by simpa [Region.lexHead] using hB, h⟩
  | o :: l, k, b, a, hl, hk, inv, hp, hB, h => by
    have h0 : ops[k]? = some o := by simpa using (hl 0 (by simp)).symm
    simp only [List.length_cons, Region.lexHead, Bool.and_eq_true] at hB
    simp only [List.length_cons] at hk
    obtain ⟨⟨hr, hf⟩, hB'⟩ := hB
    have hkn : k < n := by omega
    have hr' : k ∈ Region.ready .any ops b := by simpa using hr
    have hq : qOp P ops C k (wpQuiet P ops C K l) a := by unfold qOp; simp only [h0]; exact h
    obtain ⟨v, hy, hK⟩ := yieldsIn_of_qOp h0 hq
    refine headIn.first h0 (Region.noSelect_spec hsel) hs hc hn hkn (fun b' a' hL => seqB_ready hL.1) l.length b a inv hp (Region.free_spec h0 hf) hr' hy ?_
    exact headIn.lex hsel hs hc hn l (k + 1) _ _ (fun j hj => by have := hl (j + 1) (by simp; omega); simpa [Nat.add_assoc, Nat.add_comm 1 j] using this) (by omega) (inv.set hr' hkn) (fun i hi => getD_put_true (hp i hi)) hB' hK
theorem sinkPre_of {n : Nat} (h : Region.sinkB .any ops n = true) : sinkPre ops [] n = true := by
  refine List.all_eq_true.2 fun i hi => ?_
  have := List.all_eq_true.1 h i hi
  simp only [Bool.or_eq_true]
  exact .inr this
theorem inv_start {l : List Oper} {n : Nat} : HeadInv .any l.toArray n (Array.replicate l.toArray.size false) :=
  ⟨by simp, fun j oj _ hl => (by rw [getD_replicate_false] at hl; cases hl), fun t _ ht => getD_in (by simpa using ht) (getD_replicate_false _ _)⟩
theorem tail_any {Q : Exit → Act → World → Prop} {w : World} {l : List Oper} {n : Nat} (b : Array Bool) (a : Act) (w' : World)
    (hw : ∃ u, w' = later w u) (hL : Region.seqB .any l.toArray (l.toArray.size - n) n b = true ∧ ∀ u, wpList P l.toArray Q (l.drop n) a (later w u)) : wpAny P .any l.toArray Q (l.toArray.size - n) b a w' := by
  obtain ⟨u, rfl⟩ := hw
  have hdl : (l.drop n).length = l.toArray.size - n := by simp
  have := wpAny_of_seq (md := .any) (Q' := Q) (l.drop n) n b a (later w u) (fun j => by simp [List.getElem?_drop]) (by rw [hdl]; exact hL.1) (hL.2 u)
  rwa [hdl] at this
/-- the first n operations only read, or call what makes memory alone; the rest comes in one order -/
theorem wp_region_later_tail {id : Nat} {Q : Exit → Act → World → Prop} {a : Act} {w : World} {l : List Oper} (n : Nat) (hm : P.follows .mixedOrders = true) (hB : Region.lexTailB .any l.toArray n = true)
    (h : wpQuiet P l.toArray (fun w' => ∃ u, w' = later w u) (fun a' => ∀ u, wpList P l.toArray Q (l.drop n) a' (later w u)) (l.take n) a) : (Code.region id l.toArray true).wp P Q a w := by
  simp only [Region.lexTailB, Bool.and_eq_true, decide_eq_true_eq] at hB
  obtain ⟨⟨⟨⟨hsel, hn⟩, hs⟩, hc⟩, hlex⟩ := hB
  have hnl : n < l.length := by simpa using hn
  have htl : (l.take n).length = n := by simp; omega
  have H := headIn.lex (g := l.toArray.size - n) hsel (sinkPre_of hs) hc hn (l.take n) 0 _ a (fun j hj => by rw [htl] at hj; simp [hj]) (by simpa using htl) inv_start (fun i hi => by cases hi) (by rw [htl]; exact hlex) h
  refine wp_region_any hm ?_
  have := headIn.any (Q := Q) (g := l.toArray.size - n) (fun b a' w' hw' hL => tail_any b a' w' hw' hL) _ _ _ { w with drawn := w.drawn + 1 } ⟨⟨w.drew, (Below.refl _ _).drew⟩, rfl⟩ H
  rw [htl, show n + (l.toArray.size - n) = l.toArray.size by omega] at this
  exact this
def moveTailB (ops : Array Oper) (n : Nat) : Bool :=
  Region.noSelect ops && decide (n < ops.size) && decide (0 < n) && Region.free .any ops (Array.replicate ops.size false) 0 && (Region.ready .any ops (Array.replicate ops.size false)).contains 0 && sinkPre ops [0] n && Region.chainB .any ops n &&
    Region.lexHead .any ops (ops.size - n) (n - 1) 1 ((Array.replicate ops.size false).setIfInBounds 0 true)
/-- the same, the very first operation being a copy of a slot that nobody of the head waits for -/
theorem wp_region_move_tail {id : Nat} {Q : Exit → Act → World → Prop} {a : Act} {w : World} {o0 : Oper} {l : List Oper} (n : Nat) (hm : P.follows .mixedOrders = true) (hB : moveTailB (o0 :: l).toArray (n + 1) = true) (x : Operand) (hx : o0.op = .move x) (hg : o0.guard = none)
    (hQ : ∀ c a' w', Q (.panic c) (Act.put a' o0.dst (a.eval x)) w' → Q (.panic c) a' w')
    (h : wpQuiet P (o0 :: l).toArray (fun w' => ∃ u, w' = later w u) (fun a' => ∀ u, wpList P (o0 :: l).toArray Q (l.drop n) a' (later w u)) (l.take n) (a.put o0.dst (a.eval x))) : (Code.region id (o0 :: l).toArray true).wp P Q a w := by
  simp only [moveTailB, Bool.and_eq_true, decide_eq_true_eq] at hB
  obtain ⟨⟨⟨⟨⟨⟨⟨hsel, hn⟩, _⟩, hf⟩, hr⟩, hs⟩, hc⟩, hlex⟩ := hB
  have hr' : 0 ∈ Region.ready .any (o0 :: l).toArray (Array.replicate (o0 :: l).toArray.size false) := by simpa using hr
  have hnl : n < l.length := by simpa using hn
  have htl : (l.take n).length = n := by simp; omega
  have inv := (inv_start (l := o0 :: l) (n := n + 1)).set hr' (by omega)
  have H := headIn.lex (C := fun w' => ∃ u, w' = later w u) (P := P) (g := (o0 :: l).toArray.size - (n + 1)) (pre := [0]) hsel hs hc hn (l.take n) 1 _ (a.put o0.dst (a.eval x)) (fun j hj => by rw [htl] at hj; simp [hj, Nat.add_comm 1 j]) (by rw [htl]; omega) inv
    (fun i hi => by obtain rfl : i = 0 := (by simpa using hi); simp) (by rw [htl]; simpa using hlex) h
  have hy : Yields P (o0 :: l).toArray o0 (a.eval x) a := Or.inl ⟨by simp [Region.wanted, hg], fun w => by rw [BigFrame.run_move x hx]⟩
  refine wp_region_any hm ?_
  have h2 := headIn.any (Q := Q) (g := (o0 :: l).toArray.size - (n + 1)) (fun b a' w' hw' hL => tail_any (l := o0 :: l) (n := n + 1) b a' w' hw' ⟨hL.1, by simpa using hL.2⟩) _ _ _ { w with drawn := w.drawn + 1 } ⟨⟨w.drew, (Below.refl _ _).drew⟩, rfl⟩ H
  have h3 := wpAny_take (i := 0) (oi := o0) (by simp) hsel hf (by simpa using hr) hQ hy h2
  have e : n + ((o0 :: l).toArray.size - (n + 1)) + 1 = (o0 :: l).toArray.size := by simp; omega
  rw [htl, e] at h3
  exact h3
/-- a whole row is loaded, in whatever world of the class -/
theorem wpQuiet_load_arr {Q : Act → Prop} {a : Act} {o : Oper} {rest : List Oper} (hgd : o.guard = none) (ty : TypeId) (x : Operand) (ho : o.op = .load ty x)
    (g : Nat) (hx : a.eval x = .pointer (some ⟨g, 0, none⟩)) (t : TypeId) (cs : List Value) (d : TypeDesc) (hg : ∀ w, C w → arr w g t cs)
    (hu : P.underlying ty = some d) (hd : (match d with | .struct _ | .array _ _ => true | _ => false) = true) (hi : (P.info? ty).map (·.size) = some cs.length)
    (h : wpQuiet P ops C Q rest (a.put o.dst (.agg cs.toArray))) : wpQuiet P ops C Q (o :: rest) a := by
  refine wpQuiet_step fun K hK => ?_
  simp only [Region.wanted, hgd, if_true]
  refine ⟨.agg cs.toArray, fun w hw => ?_, hK _ h⟩
  have := run_loadVar_row (P := P) w g t ty cs.toArray (0, 0) d (hg w hw) hu hd (by simpa using hi)
  unfold Oper.quietAt execOp
  simp only [ho, hx, Instr.loadAt, Instr.sureAddr, Sem.run_bind, Sem.run_pure, Result.andThen_ok, this]
  exact ⟨rfl, rfl⟩
end
end Go.Proofs.Ytcfohdkdppiekaa
