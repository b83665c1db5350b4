/- Noughts that are made; bytes as a text: at an operation, in a list. -/
import Derived.Test.YtcfohdkdppiekaaWSumH
namespace Go.Proofs.Ytcfohdkdppiekaa
open Go.RowKit Go.Proofs
theorem own_zeros {w : World} {base g n : Nat} (h : w.ownsRow base 5 1 (.slice (some ⟨g, 0, none⟩) n n) n (madeCells (Value.int .u8 0).cells (n * 1)).toList) : own w base (.slice (some ⟨g, 0, none⟩) n n) (List.replicate n 0) := by
  have e : (madeCells (Value.int .u8 0).cells (n * 1)).toList = bcs (List.replicate n 0) := by
    rw [Nat.mul_one]
    show (madeCells #[Value.int .u8 0] n).toList = _
    rw [toList_madeCells_one]
    simp [bcs]
  unfold own
  rw [List.length_replicate, ← e]
  exact h
theorem wp_zeros {o : Oper} {a : Act} {w : World} {K : Act → World → Prop} {Q : Exit → Act → World → Prop} (x y : Operand) (ho : o.op = .makeSlice 22 x y) (N : Int) (n : Nat) (hN : N = (n : Int)) (hx : a.eval x = .int .i64 N) (hy : a.eval y = .int .i64 N)
    (hn : n ≤ 1000000) (base : Nat) (hb : base ≤ w.heap.size) (h : ∀ v' w', own w' base v' (List.replicate n 0) → Below w.heap.size w w' → K (a.put o.dst v') w') : o.wp Try.prog a w K Q := by
  obtain ⟨i0, hi, hz0, hz1, hz2⟩ := info_parts info_byte
  obtain ⟨w', hrun, r1, r2⟩ := run_make_full (P := Try.prog) w base 22 5 i0 (.int .u8 0) 1 Try.underlying22 hi hz0 hz1 .i64 .i64 n (by rw [hz2]; omega) (by unfold maxLen; omega) hb
  subst hN
  unfold Oper.wp
  simp [execOp, ho, hx, hy, hrun, Result.andThen]
  exact h _ w' (own_zeros r1) ((Below.refl _ _).grown r2 (Nat.le_refl _) (fun k hk => by cases hk))
theorem wp_textof {o : Oper} {a : Act} {w : World} {K : Act → World → Prop} {Q : Exit → Act → World → Prop} (x : Operand) (ho : o.op = .convert 22 9 x) {base : Nat} (v : Value) (l : List UInt8)
    (hv : a.eval x = v) (hx : own w base v l) (h : K (a.put o.dst (.string ⟨l.toArray⟩)) w) : o.wp Try.prog a w K Q := by
  unfold Oper.wp
  subst hv
  simp only [execOp, ho, Sem.run_bind, hx.text, Result.andThen_ok, Sem.run_pure]
  exact h
theorem wpList_zeros {ops : Array Oper} {rest : List Oper} {o : Oper} {a : Act} {w : World} {Q : Exit → Act → World → Prop} (hgd : o.guard = none) (x y : Operand) (ho : o.op = .makeSlice 22 x y) (N : Int) (n : Nat) (hN : N = (n : Int)) (hx : a.eval x = .int .i64 N) (hy : a.eval y = .int .i64 N)
    (hn : n ≤ 1000000) (base : Nat) (hb : base ≤ w.heap.size) (h : ∀ v' w', own w' base v' (List.replicate n 0) → Below w.heap.size w w' → wpList Try.prog ops Q rest (a.put o.dst v') w') : wpList Try.prog ops Q (o :: rest) a w :=
  wpList_plain hgd fun K hK => wp_zeros x y ho N n hN hx hy hn base hb fun v' w' h1 h2 => hK _ _ (h v' w' h1 h2)
theorem own_arr {w : World} {base g n : Nat} {l : List UInt8} (h : own w base (.slice (some ⟨g, 0, none⟩) n n) l) (hl : l.length = n) : arr w g 5 (bcs l) ∧ base ≤ g := by
  unfold own at h
  rcases h.2 with ⟨h', _⟩ | ⟨g', cap, cur, h', hb, hc, _, _, hs, ht⟩
  · cases h'
  · injection h' with h1 h2 h3
    injection h1 with h1; injection h1 with h1
    subst h1
    have e : cur.toList = bcs l := by
      rw [← ht, List.take_of_length_le]
      rw [Array.length_toList, hs, hl]; omega
    refine ⟨?_, hb⟩
    unfold arr
    rw [← e]
    exact hc
theorem wpList_zerosA {ops : Array Oper} {rest : List Oper} {o : Oper} {a : Act} {w : World} {Q : Exit → Act → World → Prop} (hgd : o.guard = none) (x y : Operand) (ho : o.op = .makeSlice 22 x y) (n : Nat) (hx : a.eval x = .int .i64 (n : Int)) (hy : a.eval y = .int .i64 (n : Int))
    (hn : n ≤ 1000000) (h : ∀ w', arr w' w.heap.size 5 (bcs (List.replicate n 0)) → Below w.heap.size w w' → w.heap.size < w'.heap.size → wpList Try.prog ops Q rest (a.put o.dst (.slice (some ⟨w.heap.size, 0, none⟩) n n)) w') : wpList Try.prog ops Q (o :: rest) a w := by
  obtain ⟨i0, hi, hz0, hz1, hz2⟩ := info_parts info_byte
  obtain ⟨w', hrun, r1, r2⟩ := run_make_full (P := Try.prog) w w.heap.size 22 5 i0 (.int .u8 0) 1 Try.underlying22 hi hz0 hz1 .i64 .i64 n (by rw [hz2]; omega) (by unfold maxLen; omega) (Nat.le_refl _)
  have hA := (own_arr (own_zeros r1) (by simp)).1
  refine wpList_plain hgd fun K hK => ?_
  unfold Oper.wp
  simp [execOp, ho, hx, hy, hrun, Result.andThen]
  exact hK _ _ (h w' hA ((Below.refl _ _).grown r2 (Nat.le_refl _) (fun k hk => by cases hk)) hA.lt)
theorem arr_cells {w : World} {E : Nat} {l : List UInt8} (h : arr w E 5 (bcs l)) (off i : Nat) (hi : i < (l.drop off).length) : w.cell? ⟨E, off + i, none⟩ = some (.int .u8 (((l.drop off).getD i 0).toNat : Int)) := by
  rw [h.cell (off + i) _ (bcs_get _ _ (by rw [List.length_drop] at hi; omega))]
  simp [List.getD_eq_getElem?_getD, List.getElem?_drop]
def fill (c : UInt8) (k : Nat) : List UInt8 := List.replicate k c ++ List.replicate (32 - k) 0
theorem fill_len (c : UInt8) (k : Nat) (hk : k ≤ 32) : (fill c k).length = 32 := by simp [fill]; omega
theorem fill_set (c : UInt8) (k : Nat) (hk : k < 32) : (bcs (fill c k)).set k (.int .u8 (c.toNat : Int)) = bcs (fill c (k + 1)) := by
  have e : fill c (k + 1) = (fill c k).set k c := by
    unfold fill
    rw [List.set_append_right _ _ (by simp), List.length_replicate, Nat.sub_self, show 32 - k = (32 - (k + 1)) + 1 by omega, List.replicate_succ' (n := k), List.append_assoc]
    rfl
  rw [e]
  unfold bcs
  rw [List.map_set]
end Go.Proofs.Ytcfohdkdppiekaa
