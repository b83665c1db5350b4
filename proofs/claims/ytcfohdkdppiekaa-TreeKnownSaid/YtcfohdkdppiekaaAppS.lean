/- append of a list of texts, wherever it lies, onto a list of the call's own. -/
import Derived.Test.YtcfohdkdppiekaaWHashD
import Derived.Maps.AppendAt
import Derived.Deep.AppendLies
import Derived.RegionTactic
import Derived.OwnWalk
import Derived.Deep.RegionLaw
namespace Go.Proofs.Ytcfohdkdppiekaa
open Go.RowKit Go.Proofs
theorem scs_one (q : List (List UInt8)) : ∀ u ∈ scs q, u.oneCell' = true := by
  intro u hu
  unfold scs at hu
  obtain ⟨c, _, rfl⟩ := List.mem_map.1 hu
  rfl
set_option maxRecDepth 100000 in
theorem run_appendS (w : World) (ty : TypeId) (base : Nat) (v x : Value) (l q : List (List UInt8)) (hown : ownS w base v l) (B : Nat) (hx : strsAt w B x q) (hlen : l.length + q.length ≤ 1000000000000) (hbase : base ≤ w.heap.size) :
    ∃ v' w', (Builtin.append_ #[26, 26] ty #[v, x]).run Try.prog w = .ok v' w' ∧ ownS w' base v' (l ++ q) ∧ w.grownBy w' v.ownBlock := by
  obtain ⟨i0, hi, hz0, hz1, hz2⟩ := info_parts info_str
  obtain ⟨⟨A, c, rfl, hlc, hc, hcell⟩, ht⟩ := hx
  rcases A with _ | ad
  · have hq : q = [] := by
      cases q with
      | nil => rfl
      | cons s q =>
        obtain ⟨a, h, _⟩ := hcell 0 (by simp)
        cases h
    subst hq
    refine ⟨v, w, ?_, by simpa using hown, World.grownBy.refl w _⟩
    rcases hown.2 with ⟨rfl, hn⟩ | ⟨g, cap, cur, rfl, _, _, hnc, _⟩
    · simp [Builtin.append_, run_underlying Try.underlying26, sizeOf, typeInfo, hi, Builtin.lenOf, Builtin.firstCells]
    · simp [Builtin.append_, run_underlying Try.underlying26, sizeOf, typeInfo, hi, Builtin.lenOf, Builtin.firstCells, hnc, storeCells]
  · have hcells : ∀ j u, (scs q)[j]? = some u → w.cell? (ad.add j) = some u := by
      intro j u hu
      have hj : j < q.length := by
        have := (List.getElem?_eq_some_iff.1 hu).1
        rwa [scs_len] at this
      obtain ⟨a, h, _, h2⟩ := hcell j hj
      injection h with h
      subst h
      rw [h2, ← hu, scs_get q j hj]
    obtain ⟨v', w', hrun, h2, h3, _, _⟩ := run_append_own_at (P := Try.prog) w base 26 ty 9 i0 (.string ByteArray.empty) 1 16 Try.underlying26 hi hz0 hz1 hz2 rfl (by decide) v l.length (scs l) hown ad q.length c (scs q) (by rw [scs_len, Nat.mul_one]) hcells (scs_one q) (by unfold maxLen; omega) (by omega) hbase
    refine ⟨v', w', hrun, ?_, h3⟩
    unfold ownS
    rw [List.length_append, scs_app]; exact h2
set_option maxRecDepth 100000 in
theorem wp_appendS {w : World} {o : Oper} {a : Act} {K : Act → World → Prop} {Q : Exit → Act → World → Prop} (s x : Operand)
    (ho : o.op = .call { callee := .builtin .append, args := #[s, x], argTypes := #[26, 26] })
    (base : Nat) (v vx : Value) (l q : List (List UInt8)) (hs : a.eval s = v) (hown : ownS w base v l) (B : Nat) (hx : a.eval x = vx) (hq : strsAt w B vx q) (hlen : l.length + q.length ≤ 1000000000000) (hbase : base ≤ w.heap.size)
    (h : ∀ v' w', ownS w' base v' (l ++ q) → w.grownBy w' v.ownBlock → K (a.put o.dst v') w') : o.wp Try.prog a w K Q := by
  obtain ⟨v', w', hrun, h2, h3⟩ := run_appendS w o.type base v vx l q hown B hq hlen hbase
  unfold Oper.wp execOp
  simp only [ho, resolve, invoke, builtin, Sem.run_bind, Sem.run_pure, Result.andThen_ok, List.map_toArray, List.map_cons, List.map_nil, hs, hx, hrun]
  exact h v' w' h2 h3
theorem wpList_appendS {ops : Array Oper} {rest : List Oper} {o : Oper} {a : Act} {w : World} {Q : Exit → Act → World → Prop} (hgd : o.guard = none) (s x : Operand)
    (ho : o.op = .call { callee := .builtin .append, args := #[s, x], argTypes := #[26, 26] })
    (base : Nat) (v vx : Value) (l q : List (List UInt8)) (hs : a.eval s = v) (hown : ownS w base v l) (B : Nat) (hx : a.eval x = vx) (hq : strsAt w B vx q) (hlen : l.length + q.length ≤ 1000000000000) (hbase : base ≤ w.heap.size)
    (h : ∀ v' w', ownS w' base v' (l ++ q) → w.grownBy w' v.ownBlock → wpList Try.prog ops Q rest (a.put o.dst v') w') : wpList Try.prog ops Q (o :: rest) a w :=
  wpList_plain hgd fun _ hK => wp_appendS s x ho base v vx l q hs hown B hx hq hlen hbase fun v' w' h2 h3 => hK _ _ (h v' w' h2 h3)
theorem step_appendS {ops : Array Oper} {o : Oper} {a : Act} {w : World} {K : Act → World → Prop} {Q : Exit → Act → World → Prop} {E : Prop} (hgd : o.guard = none) (s x : Operand)
    (ho : o.op = .call { callee := .builtin .append, args := #[s, x], argTypes := #[26, 26] })
    (base : Nat) (v vx : Value) (l q : List (List UInt8)) (hs : a.eval s = v) (hown : ownS w base v l) (B : Nat) (hx : a.eval x = vx) (hq : strsAt w B vx q) (hlen : l.length + q.length ≤ 1000000000000) (hbase : base ≤ w.heap.size)
    (h : ∀ v' w', ownS w' base v' (l ++ q) → w.grownBy w' v.ownBlock → K (a.put o.dst v') w') :
    if Region.wanted o (yielded ops a.tmps) = true then Oper.wp Try.prog o a w K Q else E := by
  have hw : Region.wanted o (yielded ops a.tmps) = true := by simp [Region.wanted, hgd]
  rw [if_pos hw]
  exact wp_appendS s x ho base v vx l q hs hown B hx hq hlen hbase h
/-- a list of texts of the call's own, just laid: its slice is full -/
theorem ownS.lit (w : World) (base : Nat) (L : List (List UInt8)) (hb : base ≤ w.heap.size) (hl : L.length ≤ 9223372036854775807) :
    ownS (w.alloc (.cells (scs L).toArray 9 (0, 0))) base (.slice (some ⟨w.heap.size, 0, none⟩) L.length L.length) L := by
  have hm : maxLen = 9223372036854775807 := by decide
  exact ⟨by rw [scs_len, Nat.mul_one], Or.inr ⟨w.heap.size, L.length, (scs L).toArray, rfl, hb, heap_alloc_new w _, Nat.le_refl _, by omega, by simp [scs_len], by rw [Nat.mul_one]; exact List.take_of_length_le (by rw [scs_len]; exact Nat.le_refl _)⟩⟩
/-- a list cut behind its first texts -/
theorem strsAt.cut {w : World} {B : Nat} {A : Option Addr} {n c : Nat} {L : List (List UInt8)} (h : strsAt w B (.slice A n c) L) (k : Nat) (hk : k ≤ n) :
    strsAt w B (.slice (if c = k then A else A.map (·.add (k * 1))) (n - k) (c - k)) (L.drop k) := by
  obtain ⟨⟨A', c', he, hlc, hc, hcell⟩, ht⟩ := h
  obtain ⟨rfl, rfl, rfl⟩ := Value.slice.inj he
  refine ⟨⟨_, _, by rw [List.length_drop], by rw [List.length_drop]; omega, by omega, fun i hi => ?_⟩, fun s hs => ht s (List.mem_of_mem_drop hs)⟩
  rw [List.length_drop] at hi
  obtain ⟨a, rfl, hab, hx⟩ := hcell (k + i) (by omega)
  rw [if_neg (by omega)]
  refine ⟨a.add (k * 1), rfl, by rw [block_add]; exact hab, ?_⟩
  have e : (a.add (k * 1)).add i = a.add (k + i) := by
    unfold Addr.add
    by_cases h1 : k = 0 <;> by_cases h2 : i = 0 <;> simp [h1, h2, Nat.add_assoc]
  rw [e, hx]
  congr 3
  simp [List.getD_eq_getElem?_getD]
end Go.Proofs.Ytcfohdkdppiekaa
