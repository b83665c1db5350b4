/- Regions that draw their order, whatever their operations do: one proof for each operation, whatever was carried out ahead of it. -/
import Derived.OrdersHeld
import Derived.Test.YtcfohdkdppiekaaTail
namespace Go.Proofs.Ytcfohdkdppiekaa
open Go.RowKit
section
variable {P : Program} {ops : Array Oper} {Q : Exit → Act → World → Prop}
def slot (ops : Array Oper) (j : Nat) : Nat := ((ops[j]?).bind (·.dst)).getD 0
/-- each operation has a slot of its own, none a guard -/
def freeB (ops : Array Oper) (size : Nat) : Bool :=
  ((List.range ops.size).all fun i => match ops[i]? with | some o => o.guard.isNone && (match o.dst with | some d => decide (d < size) | none => false) && (List.range ops.size).all (fun j => i == j || slot ops i != slot ops j) | none => false)
def needB (ops : Array Oper) (need : Nat → List Nat) : Bool :=
  (List.range ops.size).all fun i => (need i).all fun j => decide (j < ops.size) && match ops[i]? with | some o => o.after.any (fun e => Region.binds .any e && e.on == j) | none => false
/-- all other slots are as they were -/
def Rest (ops : Array Oper) (a0 a : Act) : Prop := a.defers = a0.defers ∧ a.tmps.size = a0.tmps.size ∧ ∀ s, (∀ j, j < ops.size → slot ops j ≠ s) → a.tmps.getD s undef = a0.tmps.getD s undef
def restB (ops : Array Oper) (s : Nat) : Bool := (List.range ops.size).all fun j => slot ops j != s
theorem Rest.get {a0 a : Act} (h : Rest ops a0 a) (s : Nat) (hB : restB ops s = true) : a.tmps.getD s undef = a0.tmps.getD s undef :=
  h.2.2 s fun j hj => by
    have := List.all_eq_true.1 hB j (List.mem_range.2 hj)
    simpa using this
structure FreeInv (ops : Array Oper) (Val : Nat → Value → World → Prop) (WW : World → Prop) (a0 : Act) (b : Array Bool) (a : Act) (w : World) : Prop where
  bsize : b.size = ops.size
  rest : Rest ops a0 a
  done : ∀ j, j < ops.size → b.getD j false = true → Val j (a.tmps.getD (slot ops j) undef) w
  ww : WW w
def putList : List Oper → (Nat → Value) → Nat → Act → Act
  | [], _, _, a => a
  | o :: l, V, k, a => putList l V (k + 1) (a.put o.dst (V k))
/-- what is owed for the i-th operation -/
def Obl (P : Program) (ops : Array Oper) (Q : Exit → Act → World → Prop) (need : Nat → List Nat) (Val : Nat → Value → World → Prop) (WW : World → Prop) (R : World → World → Prop) (a0 : Act) (i : Nat) (o : Oper) : Prop :=
  ∀ a w, WW w → Rest ops a0 a → (∀ j, j ∈ need i → Val j (a.tmps.getD (slot ops j) undef) w) → o.wp P a w (fun a' w' => ∃ v, a' = a.put o.dst v ∧ Val i v w' ∧ R w w') Q
def Obls (P : Program) (ops : Array Oper) (Q : Exit → Act → World → Prop) (need : Nat → List Nat) (Val : Nat → Value → World → Prop) (WW : World → Prop) (R : World → World → Prop) (a0 : Act) : Nat → List Oper → Prop
  | _, [] => True
  | i, o :: l => Obl P ops Q need Val WW R a0 i o ∧ Obls P ops Q need Val WW R a0 (i + 1) l
theorem Obls.get {need : Nat → List Nat} {Val : Nat → Value → World → Prop} {WW : World → Prop} {R : World → World → Prop} {a0 : Act} : ∀ {l : List Oper} {k : Nat}, Obls P ops Q need Val WW R a0 k l → ∀ {i : Nat} {o : Oper}, l[i]? = some o → Obl P ops Q need Val WW R a0 (k + i) o
  | [], _, _, _, _, h => by simp at h
  | o' :: l, k, h, 0, o, ho => by
    obtain rfl : o' = o := by simpa using ho
    exact h.1
  | o' :: l, k, h, i + 1, o, ho => by
    have := Obls.get h.2 (i := i) (o := o) (by simpa using ho)
    rwa [show k + 1 + i = k + (i + 1) by omega] at this
theorem tmps_put (a : Act) (d : Nat) (v : Value) (s : Nat) (hd : d < a.tmps.size) : (a.put (some d) v).tmps.getD s undef = if s = d then v else a.tmps.getD s undef := by
  show (a.tmps.setIfInBounds d v).getD s undef = _
  by_cases h : s = d
  · subst h; simp [hd]
  · rw [if_neg h]
    simp only [Array.getD_eq_getD_getElem?]
    rw [Array.getElem?_setIfInBounds_ne (Ne.symm h)]
theorem getD_set (b : Array Bool) (i j : Nat) (h : i < b.size) : (b.setIfInBounds i true).getD j false = if j = i then true else b.getD j false := by
  by_cases e : j = i
  · subst e; simp [h]
  · rw [if_neg e]
    simp only [Array.getD_eq_getD_getElem?]
    rw [Array.getElem?_setIfInBounds_ne (Ne.symm e)]
theorem slot_of {i : Nat} {o : Oper} {d : Nat} (h : ops[i]? = some o) (hd : o.dst = some d) : slot ops i = d := by simp [slot, h, hd]
theorem act_ext {a b : Act} (hd : a.defers = b.defers) (hs : a.tmps.size = b.tmps.size) (h : ∀ s, a.tmps.getD s undef = b.tmps.getD s undef) : a = b := by
  obtain ⟨at', ad⟩ := a
  obtain ⟨bt, bd⟩ := b
  simp only at hd hs h
  subst hd
  congr 1
  apply Array.ext hs
  intro i h1 h2
  have := h i
  simpa [Array.getD_eq_getD_getElem?, h1, h2] using this
theorem putList_rest : ∀ (l : List Oper) (V : Nat → Value) (k : Nat) (a : Act), (putList l V k a).defers = a.defers ∧ (putList l V k a).tmps.size = a.tmps.size
  | [], _, _, a => ⟨rfl, rfl⟩
  | o :: l, V, k, a => by
    have := putList_rest l V (k + 1) (a.put o.dst (V k))
    refine ⟨this.1.trans ?_, this.2.trans ?_⟩
    · cases o.dst <;> rfl
    · cases o.dst <;> simp [Act.put]
theorem putList_get : ∀ (l : List Oper) (V : Nat → Value) (k : Nat) (a : Act), (∀ (i : Nat) (o : Oper), l[i]? = some o → ∃ d, o.dst = some d ∧ d < a.tmps.size) → (∀ (i j : Nat) (oi oj : Oper), l[i]? = some oi → l[j]? = some oj → i ≠ j → oi.dst ≠ oj.dst) →
    ∀ s, (∀ (i : Nat) (o : Oper), l[i]? = some o → o.dst = some s → (putList l V k a).tmps.getD s undef = V (k + i)) ∧ ((∀ (i : Nat) (o : Oper), l[i]? = some o → o.dst ≠ some s) → (putList l V k a).tmps.getD s undef = a.tmps.getD s undef)
  | [], _, _, _, _, _, _ => ⟨fun i o h => by simp at h, fun _ => rfl⟩
  | o :: l, V, k, a, hin, hne, s => by
    obtain ⟨d, hd, hda⟩ := hin 0 o rfl
    have ih := putList_get l V (k + 1) (a.put o.dst (V k)) (fun i o' h => by
      obtain ⟨d', h1, h2⟩ := hin (i + 1) o' (by simpa using h)
      exact ⟨d', h1, by rw [hd]; simpa [Act.put] using h2⟩) (fun i j oi oj h1 h2 h3 => hne (i + 1) (j + 1) oi oj (by simpa using h1) (by simpa using h2) (by omega)) s
    have hp := tmps_put a d (V k) s hda
    rw [hd] at ih
    refine ⟨fun i o' hi ho' => ?_, fun hno => ?_⟩
    · cases i with
      | zero =>
        obtain rfl : o = o' := by simpa using hi
        have hs : d = s := Option.some.inj (hd.symm.trans ho')
        subst hs
        show (putList l V (k + 1) (a.put o.dst (V k))).tmps.getD d undef = V (k + 0)
        rw [hd, ih.2 fun j o'' hj h'' => hne 0 (j + 1) o o'' rfl (by simpa using hj) (by omega) (hd.trans h''.symm), hp, if_pos rfl]; rfl
      | succ i =>
        show (putList l V (k + 1) (a.put o.dst (V k))).tmps.getD s undef = V (k + (i + 1))
        rw [hd, ih.1 i o' (by simpa using hi) ho']
        congr 1; omega
    · show (putList l V (k + 1) (a.put o.dst (V k))).tmps.getD s undef = _
      have hsd : s ≠ d := fun h => hno 0 o rfl (by rw [hd, h])
      rw [hd, ih.2 fun j o'' hj => hno (j + 1) o'' (by simpa using hj), hp, if_neg hsd]
theorem freeB_spec {size : Nat} (h : freeB ops size = true) {i : Nat} {o : Oper} (ho : ops[i]? = some o) : o.guard = none ∧ (∃ d, o.dst = some d ∧ d < size) ∧ ∀ j, j < ops.size → i ≠ j → slot ops i ≠ slot ops j := by
  have hi : i < ops.size := (Array.getElem?_eq_some_iff.1 ho).1
  have h1 := List.all_eq_true.1 h i (List.mem_range.2 hi)
  simp only [ho, Bool.and_eq_true] at h1
  obtain ⟨⟨hg, hd⟩, hs⟩ := h1
  refine ⟨by simpa using hg, ?_, fun j hj hij => ?_⟩
  · cases hdd : o.dst with
    | none => simp [hdd] at hd
    | some d => exact ⟨d, rfl, by simpa [hdd] using hd⟩
  · have h2 := List.all_eq_true.1 hs j (List.mem_range.2 hj)
    simpa [hij] using h2
theorem ready_nil_all {b : Array Bool} (hb : b.size = ops.size) (hord : ∀ (i : Nat) (o : Oper), ops[i]? = some o → ∀ e ∈ o.after, Region.binds .any e = true → e.on < i) (h : Region.ready .any ops b = []) : ∀ i, i < ops.size → b.getD i false = true := by
  intro i
  induction i using Nat.strongRecOn with
  | _ i ih =>
    intro hi
    cases hbi : b.getD i false with
    | true => rfl
    | false =>
      exfalso
      have hsome : ops[i]? = some ops[i] := Array.getElem?_eq_getElem hi
      have hr : i ∈ Region.ready .any ops b := by
        refine mem_ready.2 ⟨?_, ops[i], hsome, fun e he hbe => ?_⟩
        · have : i < b.size := by omega
          simpa [Array.getD_eq_getD_getElem?, this] using hbi
        · have h1 := hord i _ hsome e he hbe
          exact ih e.on h1 (by omega)
      rw [h] at hr; cases hr
def ordB (ops : Array Oper) : Bool := (List.range ops.size).all fun i => match ops[i]? with | some o => o.after.all (fun e => !Region.binds .any e || decide (e.on < i)) | none => true
theorem ordB_spec (h : ordB ops = true) (i : Nat) (o : Oper) (ho : ops[i]? = some o) : ∀ e ∈ o.after, Region.binds .any e = true → e.on < i := by
  intro e he hb
  have h1 := List.all_eq_true.1 h i (List.mem_range.2 (Array.getElem?_eq_some_iff.1 ho).1)
  simp only [ho] at h1
  have h2 := (Array.all_eq_true_iff_forall_mem.1 h1) e he
  simpa [hb] using h2
/-- THE LAW -/
theorem wp_region_free {id : Nat} {a0 : Act} {w0 : World} (size : Nat) (need : Nat → List Nat) (Val : Nat → Value → World → Prop) (WW : World → Prop) (R : World → World → Prop)
    (hm : P.follows .mixedOrders = true) (hsz : a0.tmps.size = size) (hB : freeB ops size = true) (hN : needB ops need = true) (hO : ordB ops = true)
    (hV : ∀ j v w w', Val j v w → WW w → R w w' → Val j v w') (hW : ∀ w w', WW w → R w w' → WW w') (h0 : WW w0.drew)
    (hops : Obls P ops Q need Val WW R a0 0 ops.toList) (hQ : ∀ V w, WW w → (∀ j, j < ops.size → Val j (V j) w) → Q .normal (putList ops.toList V 0 a0) w) :
    (Code.region id ops true).wp P Q a0 w0 := by
  refine wp_region_any hm ?_
  have key : ∀ (f : Nat) (b : Array Bool) (a : Act) (w : World), FreeInv ops Val WW a0 b a w → ((List.range ops.size).filter fun i => !b.getD i false).length = f → wpAny P .any ops Q f b a w := by
    intro f
    have fin : ∀ (b : Array Bool) (a : Act) (w : World), FreeInv ops Val WW a0 b a w → Region.ready .any ops b = [] → Q .normal a w := by
      intro b a w inv hr
      have hall := ready_nil_all inv.bsize (ordB_spec hO) hr
      have h1 := hQ (fun j => a.tmps.getD (slot ops j) undef) w inv.ww fun j hj => inv.done j hj (hall j hj)
      have e : putList ops.toList (fun j => a.tmps.getD (slot ops j) undef) 0 a0 = a := by
        have hp := putList_rest ops.toList (fun j => a.tmps.getD (slot ops j) undef) 0 a0
        refine act_ext (hp.1.trans inv.rest.1.symm) (hp.2.trans inv.rest.2.1.symm) fun s => ?_
        have hg := putList_get ops.toList (fun j => a.tmps.getD (slot ops j) undef) 0 a0 (fun i o hi => by
          have := (freeB_spec hB (i := i) (o := o) (by simpa using hi)).2.1
          rw [hsz]; exact this) (fun i j oi oj hi hj hij heq => by
          have hi' : ops[i]? = some oi := by simpa using hi
          have hj' : ops[j]? = some oj := by simpa using hj
          obtain ⟨_, ⟨d, hd, _⟩, hs⟩ := freeB_spec hB hi'
          have := hs j (Array.getElem?_eq_some_iff.1 hj').1 hij
          rw [slot_of hi' hd, slot_of hj' (heq.symm.trans hd)] at this
          exact this rfl) s
        by_cases hex : ∃ j, j < ops.size ∧ slot ops j = s
        · obtain ⟨j, hj, hjs⟩ := hex
          have hsome : ops[j]? = some ops[j] := Array.getElem?_eq_getElem hj
          obtain ⟨_, ⟨d, hd, _⟩, _⟩ := freeB_spec hB hsome
          have hsd : slot ops j = d := slot_of hsome hd
          rw [hg.1 j ops[j] (by simp) (by rw [hd, ← hsd, hjs]), Nat.zero_add, hjs]
        · rw [hg.2 fun i o hi hd => hex ⟨i, by have : i < ops.toList.length := (List.getElem?_eq_some_iff.1 hi).1; simpa using this, slot_of (by simpa using hi) hd⟩]
          exact (inv.rest.2.2 s fun j hj hjs => hex ⟨j, hj, hjs⟩).symm
      rw [e] at h1
      exact h1
    induction f with
    | zero =>
      intro b a w inv hf
      have hr : Region.ready .any ops b = [] := by
        apply List.eq_nil_iff_forall_not_mem.2
        intro i hi
        obtain ⟨hun, o, ho, _⟩ := mem_ready.1 hi
        have hlt := (Array.getElem?_eq_some_iff.1 ho).1
        have hmem : i ∈ (List.range ops.size).filter fun i => !b.getD i false := by
          refine List.mem_filter.2 ⟨List.mem_range.2 hlt, ?_⟩
          rw [getD_both hun]; rfl
        rw [List.length_eq_zero_iff.1 hf] at hmem
        cases hmem
      exact ⟨hr, fin b a w inv hr⟩
    | succ f ih =>
      intro b a w inv hf
      refine ⟨fin b a w inv, fun i hi => ?_⟩
      obtain ⟨hun, o, ho, hall⟩ := mem_ready.1 hi
      have hlt := (Array.getElem?_eq_some_iff.1 ho).1
      obtain ⟨hg, ⟨d, hd, hdz⟩, hsl⟩ := freeB_spec hB ho
      have hob := Obls.get hops (i := i) (o := o) (by simpa using ho)
      rw [Nat.zero_add] at hob
      have hstep := hob a w inv.ww inv.rest fun j hj => by
        have h1 := List.all_eq_true.1 (List.all_eq_true.1 hN i (List.mem_range.2 hlt)) j hj
        simp only [ho, Bool.and_eq_true, decide_eq_true_eq] at h1
        obtain ⟨hjs, h2⟩ := h1
        obtain ⟨k, hk, h3⟩ := Array.any_eq_true.1 h2
        have he : o.after[k] ∈ o.after := Array.getElem_mem hk
        generalize o.after[k] = e at h3 he
        simp only [Bool.and_eq_true, beq_iff_eq] at h3
        obtain ⟨hb, rfl⟩ := h3
        exact inv.done _ hjs (hall e he hb)
      unfold wpOp
      simp only [ho]
      rw [if_pos (by simp [Region.wanted, hg])]
      refine Or.inl (Oper.wp_mono ?_ hstep)
      rintro a' w' ⟨v, rfl, hv, hr⟩
      have hda : d < a.tmps.size := by rw [inv.rest.2.1, hsz]; exact hdz
      have hbi : i < b.size := by rw [inv.bsize]; exact hlt
      refine ih _ _ _ ⟨by simpa using inv.bsize, ⟨?_, ?_, ?_⟩, ?_, hW _ _ inv.ww hr⟩ ?_
      · rw [hd]; exact inv.rest.1
      · rw [hd]; simpa [Act.put] using inv.rest.2.1
      · intro s hs
        have hsd : s ≠ d := fun h => hs i hlt (by rw [slot_of ho hd, h])
        rw [hd, tmps_put a d v s hda, if_neg hsd]
        exact inv.rest.2.2 s hs
      · intro j hj hbj
        rw [getD_set _ _ _ hbi] at hbj
        rw [hd, tmps_put a d v _ hda]
        by_cases hji : j = i
        · subst hji
          rw [slot_of ho hd, if_pos rfl]; exact hv
        · rw [if_neg hji] at hbj
          have hne := hsl j hj (Ne.symm hji)
          rw [slot_of ho hd] at hne
          rw [if_neg (Ne.symm hne)]
          exact hV _ _ _ _ (inv.done j hj hbj) inv.ww hr
      · have hf1 : ((List.range ops.size).filter fun k => !(b.setIfInBounds i true).getD k false) = ((List.range ops.size).filter fun k => !b.getD k false).filter fun k => k != i := by
          rw [List.filter_filter]
          apply List.filter_congr
          intro k _
          rw [getD_set _ _ _ hbi]
          by_cases hki : k = i <;> simp [hki]
        have hnd : ((List.range ops.size).filter fun k => !b.getD k false).Nodup := List.nodup_range.filter _
        have hmem : i ∈ (List.range ops.size).filter fun k => !b.getD k false := by
          refine List.mem_filter.2 ⟨List.mem_range.2 hlt, ?_⟩
          rw [getD_both hun]; rfl
        rw [hf1, ← hnd.erase_eq_filter, List.length_erase_of_mem hmem, hf]; rfl
  have h := key ops.size (Array.replicate ops.size false) a0 w0.drew ⟨by simp, ⟨rfl, rfl, fun _ _ => rfl⟩, fun j hj hb => by
    rw [Array.getD_eq_getD_getElem?] at hb
    simp [hj] at hb, h0⟩ (by
    have : ((List.range ops.size).filter fun i => !(Array.replicate ops.size false).getD i false) = List.range ops.size := by
      apply List.filter_eq_self.2
      intro i hi
      have := List.mem_range.1 hi
      simp [Array.getD_eq_getD_getElem?, this]
    rw [this, List.length_range])
  exact h
/-- a call, in such a region -/
theorem wp_call {o : Oper} {a : Act} {w : World} {K : Act → World → Prop} (f : FuncId) (args : Array Operand) (ts : Array TypeId) (ho : o.op = .call { callee := .value (.func f), args := args, argTypes := ts }) (vs : Array Value) (he : args.map a.eval = vs)
    (hen : ∀ args w, (callFunc f args).run P w = .ok (.enter f args) w) (h : Calls P f vs w fun e w' => ∃ v, e = .returned v ∧ K (a.put o.dst v) w') : o.wp P a w K Q := by
  subst he
  unfold Oper.wp
  have hx : (execOp a.eval o).run P w = .ok (.enter f (args.map a.eval)) w := by
    unfold execOp
    rw [ho]
    simp [go_sem, hen, resolve, invoke, Act.eval]
  rw [hx, Oper.upon_enter]
  refine h.mono ?_
  rintro e w' ⟨v, rfl, hk⟩
  exact hk
theorem wp_move {o : Oper} {a : Act} {w : World} {K : Act → World → Prop} (x : Operand) (ho : o.op = .move x) (h : K (a.put o.dst (a.eval x)) w) : o.wp P a w K Q := by
  unfold Oper.wp execOp
  rw [ho]
  exact h
theorem wp_assign {o : Oper} {a : Act} {w : World} {K : Act → World → Prop} (x : Operand) (ho : o.op = .assign x) (h : K (a.put o.dst (a.eval x)) w) : o.wp P a w K Q := by
  unfold Oper.wp execOp
  rw [ho]
  exact h
end
end Go.Proofs.Ytcfohdkdppiekaa
