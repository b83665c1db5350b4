/- Rows of the call's own, whatever their elements; in a round of a range over a function too. -/
import Derived.Test.YtcfohdkdppiekaaMarks
import Derived.Test.YtcfohdkdppiekaaKit
namespace Go.Proofs.Ytcfohdkdppiekaa
open Go Go.RowKit
section
variable {P : Program} {w w' a : World} {base E n : Nat} {v : Value} {xs : List Value} {b g : Nat} {T : TypeId} {ys : List Value}
theorem row_ne (h : w.ownsRow base E 1 v n xs) (ha : arr w b T ys) (hT : T ≠ E) : v.ownBlock ≠ some b := by
  rcases h.2 with ⟨rfl, _⟩ | ⟨k, cap, cur, rfl, _, hg, _⟩
  · simp [Value.ownBlock]
  · intro e
    simp only [Value.ownBlock, Option.some.injEq] at e
    subst e
    unfold Go.Proofs.Ytcfohdkdppiekaa.arr at ha
    rw [hg] at ha
    simp only [Option.some.injEq, Obj.cells.injEq] at ha
    exact hT ha.2.1.symm
theorem row_grown (h : w.ownsRow base E 1 v n xs) (hg : w.grownBy w' (some g)) (ha : arr w g T ys) (hT : T ≠ E) : w'.ownsRow base E 1 v n xs := h.kept hg (Or.inr (row_ne h ha hT))
theorem arr_row (ha : arr w b T ys) (h : w.ownsRow base E 1 v n xs) (hg : w.grownBy w' v.ownBlock) (hT : T ≠ E) : arr w' b T ys := by
  have := row_ne h ha hT
  unfold Go.Proofs.Ytcfohdkdppiekaa.arr at *
  rw [hg.block b (Array.getElem?_eq_some_iff.1 ha).1 (fun e => this e.symm)]; exact ha
theorem row_set (h : w.ownsRow base E 1 v n xs) (ha : arr w b T ys) (hT : T ≠ E) (off : Nat) (x : Value) : (w.setCell ⟨b, off, none⟩ x).ownsRow base E 1 v n xs :=
  h.kept (row := some b) ⟨rfl, rfl, rfl, by simp [World.setCell], fun k _ hk => Below.heap_setCell _ _ _ _ (fun e => hk (by simp [e]))⟩ (Or.inr (row_ne h ha hT))
theorem row_below (h : w.ownsRow base E 1 v n xs) (hb : Below w.heap.size w w') : w'.ownsRow base E 1 v n xs := by
  refine h.kept (row := none) ⟨hb.os, hb.tape, hb.output, hb.size, fun k hk _ => hb.block k hk⟩ ?_
  cases v.ownBlock <;> simp
theorem row_bears {l : Nat} {o o' : Obj} (ho : w.heap[l]? = some o) (hc : o.isCells = false) (h : w.ownsRow base E 1 v n xs) : (w.putObj l o').ownsRow base E 1 v n xs := by
  refine h.kept (grownBy_putObj' w l o') ?_
  right
  rcases h.2 with ⟨rfl, _⟩ | ⟨k, cap, cur, rfl, _, hg, _⟩
  · simp [Value.ownBlock]
  · intro e
    simp only [Value.ownBlock, Option.some.injEq] at e
    subst e
    rw [hg] at ho; cases ho; cases hc
theorem row_cast {m : Nat} {zs : List Value} (h : w.ownsRow base E 1 v n xs) (hn : n = m) (hx : xs = zs) : w.ownsRow base E 1 v m zs := by subst hn; subst hx; exact h
theorem row_lt (h : w.ownsRow base E 1 v n xs) (k : Nat) (hk : v.ownBlock = some k) : base ≤ k ∧ k < w.heap.size := World.ownsRow.lt h k hk
theorem row_form (h : w.ownsRow base E 1 v n xs) : ∃ A c, v = .slice A n c := by
  rcases h.2 with ⟨rfl, rfl⟩ | ⟨k, cap, cur, rfl, _⟩
  · exact ⟨_, _, rfl⟩
  · exact ⟨_, _, rfl⟩
theorem grown_tr {r : Option Nat} (h : a.grownBy w r) (h2 : w.grownBy w' r) : a.grownBy w' r :=
  ⟨h2.os.trans h.os, h2.tape.trans h.tape, h2.output.trans h.output, Nat.le_trans h.size h2.size, fun k hk hne => (h2.block k (Nat.lt_of_lt_of_le hk h.size) hne).trans (h.block k hk hne)⟩
/-- what grows is new since a -/
theorem grown_new {r q : Option Nat} (h : a.grownBy w r) (h2 : w.grownBy w' q) (hq : ∀ k, q = some k → a.heap.size ≤ k) : a.grownBy w' r :=
  ⟨h2.os.trans h.os, h2.tape.trans h.tape, h2.output.trans h.output, Nat.le_trans h.size h2.size, fun k hk hne => (h2.block k (Nat.lt_of_lt_of_le hk h.size) (fun e => by have := hq k e.symm; omega)).trans (h.block k hk hne)⟩
theorem grown_setNew {r : Option Nat} (h : a.grownBy w r) (off : Nat) (x : Value) (hb : a.heap.size ≤ b) : a.grownBy (w.setCell ⟨b, off, none⟩ x) r :=
  grown_new h (q := some b) ⟨rfl, rfl, rfl, by simp [World.setCell], fun k _ hk => Below.heap_setCell _ _ _ _ (fun e => hk (by simp [e]))⟩ (fun k e => by cases e; exact hb)
theorem keeps_row (h : w.ownsRow base E 1 v n xs) (hg : w.grownBy w' v.ownBlock) : KeepsOthers w w' :=
  KeepsOthers.of_grownBy hg fun j o hj ho => by
    rcases h.2 with ⟨rfl, _⟩ | ⟨k, cap, cur, rfl, _, hgk, _⟩
    · cases hj
    · simp only [Value.ownBlock, Option.some.injEq] at hj
      subst hj
      rw [hgk] at ho; cases ho; rfl
/-- append of a new row, in a round -/
theorem wpListIn_append_row {l : Nat} {ops : Array Oper} {rest : List Oper} {o : Oper} {ac : Act} {Q : Exit → Act → World → Prop} (hgd : o.guard = none) (s x : Operand) (t : TypeId)
    (ho : o.op = .call { callee := .builtin .append, args := #[s, x], argTypes := #[t, t] }) (i : TypeInfo) (z : Value) (bytes : Nat) (ht : P.underlying t = some (.slice E)) (hi : P.info? E = some i) (hz : i.zero = some z) (hsize : i.size = 1) (hby : i.bytes = bytes) (hzs : z.cells.size = 1)
    (hs : ac.eval s = v) (hown : w.ownsRow base E 1 v n xs) (news : List Value) (hx : ac.eval x = .slice (some ⟨b, 0, none⟩) news.length news.length) (hnews : arr w b E news) (h1 : ∀ u ∈ news, u.oneCell' = true)
    (h63 : n + news.length ≤ 1000000000) (hb16 : bytes ≤ 16) (hbase : base ≤ w.heap.size)
    (h : ∀ v' w', w'.ownsRow base E 1 v' (n + news.length) (xs ++ news) → w.grownBy w' v.ownBlock → wpListIn (Fence.wide.inRound l) 0 P ops Q rest (ac.put o.dst v') w') : wpListIn (Fence.wide.inRound l) 0 P ops Q (o :: rest) ac w := by
  have hb2 : (n + news.length) * bytes ≤ 1000000000 * 16 := Nat.mul_le_mul h63 hb16
  obtain ⟨v', w', hrun, h2, h3, _, _⟩ := run_append_own_at (P := P) w base t o.type E i z 1 bytes ht hi hz hsize hby hzs (by decide) v n xs hown ⟨b, 0, none⟩ news.length news.length news (by omega)
    (fun j u hj => by
      have e : (⟨b, 0, none⟩ : Addr).add j = ⟨b, j, none⟩ := by unfold Addr.add; split <;> simp_all
      rw [e]; exact hnews.cell j u hj) h1 (by unfold maxLen; omega) (by omega) hbase
  refine wpListIn_run hgd (by rw [ho]; intro c hc; cases hc) (v := v') (w' := w') ?_ (h v' w' h2 h3)
  unfold execOp
  simp only [ho, resolve, invoke, builtin, Sem.run_bind, Sem.run_pure, Result.andThen_ok, List.map_toArray, List.map_cons, List.map_nil, hs, hx, hrun]
end
end Go.Proofs.Ytcfohdkdppiekaa
