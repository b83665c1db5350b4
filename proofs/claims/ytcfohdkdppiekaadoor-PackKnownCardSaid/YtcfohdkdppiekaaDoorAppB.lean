/- append of bytes onto a slice of the call's own, as a step of a region that draws its order. -/
import Derived.Test.YtcfohdkdppiekaaDoorKitP
import Derived.Maps.AppendAt
import Derived.Deep.AppendLies
import Derived.RegionTactic
import Derived.OwnWalk
import Derived.Deep.RegionLaw
namespace Go.Proofs.YtcfohdkdppiekaaDoor
open Go.RowKit Go.Proofs
theorem bcs_one (q : List UInt8) : ∀ u ∈ bcs q, u.oneCell' = true := by
  intro u hu
  unfold bcs at hu
  obtain ⟨c, _, rfl⟩ := List.mem_map.1 hu
  rfl
theorem run_appendB (w : World) (ty : TypeId) (base : Nat) (v : Value) (l q : List UInt8) (hown : own w base v l) (b off c : Nat) (hq : ∀ j, j < q.length → w.cell? ⟨b, off + j, none⟩ = some (.int .u8 ((q.getD j 0).toNat : Int)))
    (hlen : l.length + q.length ≤ 100000000000000) (hbase : base ≤ w.heap.size) :
    ∃ v' w', (Builtin.append_ #[48, 48] ty #[v, .slice (some ⟨b, off, none⟩) q.length c]).run Tryd.prog w = .ok v' w' ∧ own w' base v' (l ++ q) ∧ w.grownBy w' v.ownBlock := by
  obtain ⟨i0, hi, hz0, hz1, hz2⟩ := info_parts info_byte
  obtain ⟨v', w', hrun, h2, h3, _, _⟩ := run_append_own_at (P := Tryd.prog) w base 48 ty 5 i0 (.int .u8 0) 1 1 Tryd.underlying48 hi hz0 hz1 hz2 rfl (by decide) v l.length (bcs l) hown ⟨b, off, none⟩ q.length c (bcs q) (by rw [bcs_len, Nat.mul_one])
    (fun j u hj => by
      have hjl : j < q.length := by
        have := (List.getElem?_eq_some_iff.1 hj).1
        rwa [bcs_len] at this
      rw [bcs_get q j hjl] at hj
      have e : (⟨b, off, none⟩ : Addr).add j = ⟨b, off + j, none⟩ := by unfold Addr.add; split <;> simp_all
      rw [e, hq j hjl]; exact hj) (bcs_one q) (by unfold maxLen; omega) (by omega) hbase
  refine ⟨v', w', hrun, ?_, h3⟩
  unfold own
  rw [List.length_append, bcs_app]; exact h2
set_option maxRecDepth 100000 in
theorem step_appendB {ops : Array Oper} {o : Oper} {a : Act} {w : World} {K : Act → World → Prop} {Q : Exit → Act → World → Prop} {E : Prop} (hgd : o.guard = none) (s x : Operand)
    (ho : o.op = .call { callee := .builtin .append, args := #[s, x], argTypes := #[48, 48] })
    (base : Nat) (v : Value) (l q : List UInt8) (hs : a.eval s = v) (hown : own w base v l) (b off c : Nat) (hx : a.eval x = .slice (some ⟨b, off, none⟩) q.length c)
    (hq : ∀ j, j < q.length → w.cell? ⟨b, off + j, none⟩ = some (.int .u8 ((q.getD j 0).toNat : Int))) (hlen : l.length + q.length ≤ 100000000000000) (hbase : base ≤ w.heap.size)
    (h : ∀ v' w', own w' base v' (l ++ q) → w.grownBy w' v.ownBlock → K (a.put o.dst v') w') :
    if Region.wanted o (yielded ops a.tmps) = true then Oper.wp Tryd.prog o a w K Q else E := by
  have hw : Region.wanted o (yielded ops a.tmps) = true := by simp [Region.wanted, hgd]
  rw [if_pos hw]
  obtain ⟨v', w', hrun, h2, h3⟩ := run_appendB w o.type base v l q hown b off c hq hlen hbase
  unfold Oper.wp execOp
  simp only [ho, resolve, invoke, builtin, Sem.run_bind, Sem.run_pure, Result.andThen_ok, List.map_toArray, List.map_cons, List.map_nil, hs, hx, hrun]
  exact h v' w' h2 h3
set_option maxRecDepth 100000 in
theorem wp_appendB {o : Oper} {a : Act} {w : World} {K : Act → World → Prop} {Q : Exit → Act → World → Prop} (s x : Operand)
    (ho : o.op = .call { callee := .builtin .append, args := #[s, x], argTypes := #[48, 48] })
    (base : Nat) (v : Value) (l q : List UInt8) (hs : a.eval s = v) (hown : own w base v l) (b off c : Nat) (hx : a.eval x = .slice (some ⟨b, off, none⟩) q.length c)
    (hq : ∀ j, j < q.length → w.cell? ⟨b, off + j, none⟩ = some (.int .u8 ((q.getD j 0).toNat : Int))) (hlen : l.length + q.length ≤ 100000000000000) (hbase : base ≤ w.heap.size)
    (h : ∀ v' w', own w' base v' (l ++ q) → w.grownBy w' v.ownBlock → K (a.put o.dst v') w') : o.wp Tryd.prog a w K Q := by
  obtain ⟨v', w', hrun, h2, h3⟩ := run_appendB w o.type base v l q hown b off c hq hlen hbase
  unfold Oper.wp execOp
  simp only [ho, resolve, invoke, builtin, Sem.run_bind, Sem.run_pure, Result.andThen_ok, List.map_toArray, List.map_cons, List.map_nil, hs, hx, hrun]
  exact h v' w' h2 h3
end Go.Proofs.YtcfohdkdppiekaaDoor
