/- Regions that draw their order, in a walk within a fence (an iterator, a round): a schedule ahead, then a forced tail, walked as a list (calls of yield and guards too). -/
import Derived.Test.YtcfohdkdppiekaaSched
import Derived.Test.YtcfohdkdppiekaaRange
namespace Go.Proofs.Ytcfohdkdppiekaa
open Go.RowKit
/-- the wide fence, in a round or in none -/
abbrev Fw (ro : Option Nat) : Fence := { Fence.wide with round := ro }
/-- no way out of the head -/
def Qn (_ : Exit → Act → World → Prop) : Exit → Act → World → Prop := fun _ _ _ => False
theorem calls_fw {P : Program} {f : FuncId} {args : Array Value} {w : World} {R : Ending → World → Prop} (ro : Option Nat) (h : Calls P f args w R) : CallsIn (Fw ro) 0 P f args w R := by
  cases ro with
  | none => exact callsIn_wide.2 h
  | some l => exact CallsIn.inRound l (callsIn_wide.2 h)
section
variable {P : Program} {ops : Array Oper} {Q : Exit → Act → World → Prop} {S : World → Prop} {ro : Option Nat}
theorem opIn_of_wp {o : Oper} {a : Act} {w : World} {K : Act → World → Prop} (hnd : ∀ c, o.op ≠ .defer c) (h : o.wp P a w K (Qn Q)) : o.wpIn (Fw ro) 0 P a w K Q := by
  unfold Oper.wp at h
  unfold Oper.wpIn
  refine ⟨fun _ _ => trivial, ?_⟩
  rw [Oper.semAt_eq _ _ _ hnd]
  generalize (execOp a.eval o).run P w = r at h ⊢
  have hd : ¬ ((Fw ro).depth.isSome = true) := by simp [Fence.wide]
  cases r with
  | ok x w' =>
    cases x with
    | value v => exact h
    | skip => exact h
    | defer d => exact h
    | enter f args =>
      refine ⟨fun e => absurd e hd, (calls_fw ro h).mono ?_⟩
      intro e w2 he
      cases e with
      | returned v => exact he
      | panicked c => exact he.elim
      | outgrown => obtain ⟨a1, w1, h1⟩ := he; exact h1.elim
    | row r args =>
      refine ⟨fun e => absurd e hd, fun c cs _ => ?_⟩
      obtain ⟨v, w2, hr, hs⟩ := h c cs
      refine ⟨v, w2, hr, ?_⟩
      exact stepsIn_wide.2 hs
    | round l f tmps assign body => exact h.elim
    | _ => exact h.elim
  | halt x w' =>
    cases x <;> exact h.elim
theorem wpOpIn_of_wpOp {i : Nat} {a : Act} {w : World} {K : Act → World → Prop} (hnd : ∀ (j : Nat) (o : Oper) c, ops[j]? = some o → o.op ≠ .defer c) (h : wpOp P ops (Qn Q) i K a w) : wpOpIn (Fw ro) 0 P ops Q i K a w := by
  unfold wpOp at h
  unfold wpOpIn
  cases ho : ops[i]? with
  | none => simpa [ho] using h
  | some o =>
    simp only [ho] at h ⊢
    split
    · rename_i hw
      rw [if_pos hw] at h
      rcases h with h | ⟨_, a1, w1, h1⟩
      · exact opIn_of_wp (fun c => hnd i o c ho) h
      · exact h1.elim
    · rename_i hw
      rw [if_neg hw] at h
      exact ⟨fun _ _ => trivial, h⟩
theorem hdL.anyIn {n g : Nat} {K : Array Bool → Act → World → Prop} (hnd : ∀ (j : Nat) (o : Oper) c, ops[j]? = some o → o.op ≠ .defer c) (hK : ∀ b a w, K b a w → wpAnyIn (Fw ro) 0 P .any ops Q g b a w) :
    ∀ (f : Nat) (b : Array Bool) (a : Act) (w : World), hdL P ops (Qn Q) S n K f b a w → wpAnyIn (Fw ro) 0 P .any ops Q (f + g) b a w
  | 0, b, a, w, h => by rw [Nat.zero_add]; exact hK b a w h
  | f + 1, b, a, w, h => by
    have e : f + 1 + g = (f + g) + 1 := by omega
    rw [e]
    exact ⟨fun h0 => absurd h0 h.1, fun i hi => wpOpIn_mono (fun a' w' h' => hdL.anyIn hnd hK f _ a' w' h'.2) (wpOpIn_of_wpOp hnd (h.2 i hi).2)⟩
theorem wpAnyIn_of_seq : ∀ (l : List Oper) (k : Nat) (listed : Array Bool) (a : Act) (w : World), (∀ j, l[j]? = ops[k + j]?) →
    Region.seqB .any ops l.length k listed = true → wpListIn (Fw ro) 0 P ops Q l a w → wpAnyIn (Fw ro) 0 P .any ops Q l.length listed a w
  | [], _, _, _, _, _, hB, h => ⟨by simpa [Region.seqB] using hB, h⟩
  | o :: l, k, listed, a, w, hl, hB, h => by
    have h0 : ops[k]? = some o := by simpa using (hl 0).symm
    simp only [List.length_cons, Region.seqB, Bool.and_eq_true, decide_eq_true_eq] at hB
    refine ⟨fun h1 => (by rw [hB.1] at h1; cases h1), fun i hi => ?_⟩
    rw [hB.1] at hi
    have hik : i = k := by simpa using hi
    subst hik
    have hw : wpOpIn (Fw ro) 0 P ops Q i (wpListIn (Fw ro) 0 P ops Q l) a w := by unfold wpOpIn; simp only [h0]; exact h
    exact wpOpIn_mono (fun a' w' h' => wpAnyIn_of_seq l (i + 1) _ a' w' (fun j => by have := hl (j + 1); simpa [Nat.add_assoc, Nat.add_comm 1 j] using this) hB.2 h') hw
end
def noDefer (l : List Oper) : Bool := l.all fun o => match o.op with | .defer _ => false | _ => true
theorem noDefer_spec {l : List Oper} (h : noDefer l = true) : ∀ (j : Nat) (o : Oper) c, l.toArray[j]? = some o → o.op ≠ .defer c := by
  intro j o c ho hc
  have hm : o ∈ l := List.mem_of_getElem? (by simpa using ho)
  have := List.all_eq_true.1 h o hm
  simp [hc] at this
/-- THE LAW, in a fence -/
theorem wpIn_region_sched {P : Program} {Q : Exit → Act → World → Prop} {id : Nat} {a : Act} {w : World} {l : List Oper} (ro : Option Nat) (S : World → Prop) (sc : List (Bool × Nat)) (n : Nat) (hm : P.follows .mixedOrders = true) (hsel : Region.noSelect l.toArray = true)
    (hk : sinkPre l.toArray [] n = true) (hc : Region.chainB .any l.toArray n = true) (hn : n < l.toArray.size) (hln : sc.length = n) (hB : schedB l.toArray (l.toArray.size - n) n sc (Array.replicate l.toArray.size false) = true) (hnd : noDefer l = true)
    (hS : S w.drew)
    (h : schedL P l.toArray (Qn Q) S (fun a w => wpListIn (Fw ro) 0 P l.toArray Q (l.drop n) a w) sc a w.drew) : (Code.region id l.toArray true).wpIn (Fw ro) 0 P Q a w := by
  refine wpIn_region_any hm ?_
  have h2 := schedL.hd hsel hk hc hn (fun _ _ _ _ _ (h : False) => h.elim) sc (Array.replicate l.toArray.size false) a w.drew inv_start hB hS h
  rw [hln] at h2
  have := hdL.anyIn (P := P) (ops := l.toArray) (Q := Q) (S := S) (n := n) (g := l.toArray.size - n) (ro := ro) (noDefer_spec hnd) (fun b a' w' hL => by
    have hdl : (l.drop n).length = l.toArray.size - n := by simp
    have := wpAnyIn_of_seq (Q := Q) (ro := ro) (l.drop n) n b a' w' (fun j => by simp [List.getElem?_drop]) (by rw [hdl]; exact hL.1) hL.2
    rwa [hdl] at this) n _ a w.drew h2
  rwa [show n + (l.toArray.size - n) = l.toArray.size by omega] at this
theorem wp_of_none {P : Program} {o : Oper} {a : Act} {w : World} {K : Act → World → Prop} {Q : Exit → Act → World → Prop} (h : o.wp P a w K (Qn Q)) : o.wp P a w K Q := by
  unfold Oper.wp at h ⊢
  generalize (execOp a.eval o).run P w = r at h ⊢
  cases r with
  | ok x w' =>
    cases x with
    | enter f args =>
      refine Calls.mono h ?_
      intro e w2 he
      cases e with
      | returned v => exact he
      | panicked c => exact he.elim
      | outgrown => obtain ⟨a1, w1, h1⟩ := he; exact h1.elim
    | _ => exact h
  | halt x w' => cases x <;> exact h.elim
theorem wpOp_of_none {P : Program} {ops : Array Oper} {i : Nat} {a : Act} {w : World} {K : Act → World → Prop} {Q : Exit → Act → World → Prop} (h : wpOp P ops (Qn Q) i K a w) : wpOp P ops Q i K a w := by
  unfold wpOp at h ⊢
  cases ho : ops[i]? with
  | none => simpa [ho] using h
  | some o =>
    simp only [ho] at h ⊢
    split
    · rename_i hw
      rw [if_pos hw] at h
      rcases h with h | ⟨_, a1, w1, h1⟩
      · exact Or.inl (wp_of_none h)
      · exact h1.elim
    · rename_i hw
      rw [if_neg hw] at h
      exact h
theorem hdL.anyN {P : Program} {ops : Array Oper} {Q : Exit → Act → World → Prop} {S : World → Prop} {n g : Nat} {K : Array Bool → Act → World → Prop} (hK : ∀ b a w, K b a w → wpAny P .any ops Q g b a w) : ∀ (f : Nat) (b : Array Bool) (a : Act) (w : World), hdL P ops (Qn Q) S n K f b a w → wpAny P .any ops Q (f + g) b a w
  | 0, b, a, w, h => by rw [Nat.zero_add]; exact hK b a w h
  | f + 1, b, a, w, h => by
    have e : f + 1 + g = (f + g) + 1 := by omega
    rw [e]
    exact ⟨fun h0 => absurd h0 h.1, fun i hi => wpOp_mono (fun a' w' h' => hdL.anyN hK f _ a' w' h'.2) (wpOp_of_none (h.2 i hi).2)⟩
/-- THE LAW, out of any fence; no operation of the head panics -/
theorem wp_region_sq {P : Program} {Q : Exit → Act → World → Prop} {id : Nat} {a : Act} {w : World} {l : List Oper} (S : World → Prop) (sc : List (Bool × Nat)) (n : Nat) (hm : P.follows .mixedOrders = true) (hsel : Region.noSelect l.toArray = true)
    (hk : sinkPre l.toArray [] n = true) (hc : Region.chainB .any l.toArray n = true) (hn : n < l.toArray.size) (hln : sc.length = n) (hB : schedB l.toArray (l.toArray.size - n) n sc (Array.replicate l.toArray.size false) = true)
    (hS : S w.drew) (h : schedL P l.toArray (Qn Q) S (fun a w => wpList P l.toArray Q (l.drop n) a w) sc a w.drew) : (Code.region id l.toArray true).wp P Q a w := by
  refine wp_region_any hm ?_
  have h2 := schedL.hd hsel hk hc hn (fun _ _ _ _ _ (h : False) => h.elim) sc (Array.replicate l.toArray.size false) a w.drew inv_start hB hS h
  rw [hln] at h2
  have := hdL.anyN (P := P) (ops := l.toArray) (Q := Q) (S := S) (n := n) (g := l.toArray.size - n) (fun b a' w' hL => by
    have hdl : (l.drop n).length = l.toArray.size - n := by simp
    have := wpAny_of_seq (md := .any) (Q' := Q) (l.drop n) n b a' w' (fun j => by simp [List.getElem?_drop]) (by rw [hdl]; exact hL.1) hL.2
    rwa [hdl] at this) n _ a w.drew h2
  rwa [show n + (l.toArray.size - n) = l.toArray.size by omega] at this
section
variable {P : Program} {os : List Oper} {Q : Exit → Act → World → Prop} {S : World → Prop} {K : Act → World → Prop} {i : Nat} {r : List (Bool × Nat)} {o : Oper} {a : Act} {w : World}
theorem at_list (ho : os[i]? = some o) : os.toArray[i]? = some o := by simpa using ho
theorem sq_soft {v : Value} (ho : os[i]? = some o) (hw : Region.wanted o (yielded os.toArray a.tmps) = true)
    (hv : ∀ w, S w → (execOp a.eval o).run P w = .ok (.value v) w) (h : schedL P os.toArray Q S K r (a.put o.dst v) w) : schedL P os.toArray Q S K ((true, i) :: r) a w := sched_soft (at_list ho) hw hv h
theorem sq_op (ho : os[i]? = some o) (hw : Region.wanted o (yielded os.toArray a.tmps) = true)
    (h : o.wp P a w (fun a' w' => S w' ∧ schedL P os.toArray Q S K r a' w') Q) : schedL P os.toArray Q S K ((false, i) :: r) a w := sched_op (at_list ho) hw h
/-- an operation that is passed over -/
theorem sq_skip (ho : os[i]? = some o) (hw : Region.wanted o (yielded os.toArray a.tmps) = false)
    (h : schedL P os.toArray Q S K r (a.put o.dst undef) w) : schedL P os.toArray Q S K ((true, i) :: r) a w := ⟨o, at_list ho, undef, Or.inr ⟨hw, rfl⟩, h⟩
theorem sq_pass (ho : os[i]? = some o) (hw : Region.wanted o (yielded os.toArray a.tmps) = false) (hS : S w)
    (h : schedL P os.toArray Q S K r (a.put o.dst undef) w) : schedL P os.toArray Q S K ((false, i) :: r) a w := by
  show wpOp P os.toArray Q i _ a w
  unfold wpOp
  simp only [at_list ho]
  rw [if_neg (by rw [hw]; decide)]
  exact ⟨hS, h⟩
end
theorem exec_load_part {P : Program} {o : Oper} {a : Act} {w : World} (ty : TypeId) (x : Operand) (ho : o.op = .load ty x)
    (g off : Nat) (hx : a.eval x = .pointer (some ⟨g, off, none⟩)) (cs : List Value) (d : TypeDesc) (hc : ∀ j v, cs[j]? = some v → w.cell? ⟨g, off + j, none⟩ = some v)
    (hu : P.underlying ty = some d) (hd : (match d with | .struct _ | .array _ _ => true | _ => false) = true) (hi : (P.info? ty).map (·.size) = some cs.length) : (execOp a.eval o).run P w = .ok (.value (.agg cs.toArray)) w := by
  have := run_loadVar_part (P := P) w g off ty cs d hc hu hd hi
  simp only [execOp, ho, hx, Instr.loadAt, Instr.sureAddr, Sem.run_bind, Sem.run_pure, Result.andThen_ok, this]
/-- three cells, one behind the other -/
theorem three_cells {w : World} {g o : Nat} {a b c : Value} (h0 : w.cell? ⟨g, o, none⟩ = some a) (h1 : w.cell? ⟨g, o + 1, none⟩ = some b) (h2 : w.cell? ⟨g, o + 2, none⟩ = some c) : ∀ j v, [a, b, c][j]? = some v → w.cell? ⟨g, o + j, none⟩ = some v := by
  intro j v hj
  match j with
  | 0 => simp at hj; subst hj; exact h0
  | 1 => simp at hj; subst hj; exact h1
  | 2 => simp at hj; subst hj; exact h2
  | j + 3 => simp at hj
end Go.Proofs.Ytcfohdkdppiekaa
