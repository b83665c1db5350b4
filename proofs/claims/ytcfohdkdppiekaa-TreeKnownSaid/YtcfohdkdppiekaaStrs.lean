/- Lists of texts in memory: read, owned, appended to. -/
import Derived.Test.YtcfohdkdppiekaaKitP
import Derived.Test.YtcfohdkdppiekaaOpen
import Derived.SliceStrings
namespace Go.Proofs.Ytcfohdkdppiekaa
open Go.RowKit Go.Proofs Go.ChangeShapes Go.WideShapes
/-- texts as cells -/
def scs (L : List (List UInt8)) : List Value := L.map fun l => .string ⟨l.toArray⟩
theorem scs_len (L : List (List UInt8)) : (scs L).length = L.length := by simp [scs]
theorem scs_app (a b : List (List UInt8)) : scs (a ++ b) = scs a ++ scs b := by simp [scs]
theorem scs_get (L : List (List UInt8)) (i : Nat) (h : i < L.length) : (scs L)[i]? = some (.string ⟨(L.getD i []).toArray⟩) := by
  unfold scs
  rw [List.getElem?_map, List.getD_eq_getElem?_getD, List.getElem?_eq_getElem h]; rfl
/-- v reads as the list L, below block B -/
structure strsAt (w : World) (B : Nat) (v : Value) (L : List (List UInt8)) : Prop where
  form : ∃ A c, v = .slice A L.length c ∧ L.length ≤ c ∧ c ≤ 9223372036854775807 ∧ (∀ i, i < L.length → ∃ a : Addr, A = some a ∧ a.block < B ∧ w.cell? (a.add i) = some (.string ⟨(L.getD i []).toArray⟩))
  texts : ∀ s ∈ L, s.length ≤ 9223372036854775807
theorem block_add (a : Addr) (i : Nat) : (a.add i).block = a.block := by unfold Addr.add; split <;> rfl
theorem strsAt.keep {w w' : World} {B : Nat} {v : Value} {L : List (List UInt8)} (h : strsAt w B v L) (hb : Below B w w') : strsAt w' B v L := by
  obtain ⟨⟨A, c, hv, hc, hm, hx⟩, ht⟩ := h
  refine ⟨⟨A, c, hv, hc, hm, fun i hi => ?_⟩, ht⟩
  obtain ⟨a, ha, hab, hcell⟩ := hx i hi
  exact ⟨a, ha, hab, (hb.cell (by rw [block_add]; exact hab)).trans hcell⟩
theorem strsAt.mono {w : World} {B B' : Nat} {v : Value} {L : List (List UInt8)} (h : strsAt w B v L) (hB : B ≤ B') : strsAt w B' v L := by
  obtain ⟨⟨A, c, hv, hc, hm, hx⟩, ht⟩ := h
  refine ⟨⟨A, c, hv, hc, hm, fun i hi => ?_⟩, ht⟩
  obtain ⟨a, ha, hab, hcell⟩ := hx i hi
  exact ⟨a, ha, Nat.lt_of_lt_of_le hab hB, hcell⟩
theorem strsAt.keep' {w w' : World} {v : Value} {L : List (List UInt8)} (h : strsAt w w.heap.size v L) (hb : Below w.heap.size w w') : strsAt w' w'.heap.size v L := (h.keep hb).mono hb.size
theorem strsAt.text {w : World} {B : Nat} {v : Value} {L : List (List UInt8)} (h : strsAt w B v L) (i : Nat) (hi : i < L.length) : (L.getD i []).length ≤ 9223372036854775807 := by
  apply h.texts
  rw [List.getD_eq_getElem?_getD, List.getElem?_eq_getElem hi]
  exact List.getElem_mem hi
theorem strsAt.nil (w : World) (B : Nat) : strsAt w B (.slice none 0 0) [] := ⟨⟨none, 0, rfl, Nat.le_refl _, by decide, fun i hi => absurd hi (Nat.not_lt_zero _)⟩, fun s hs => by cases hs⟩
/-- a slice of texts of the call's own -/
def ownS (w : World) (base : Nat) (v : Value) (L : List (List UInt8)) : Prop := w.ownsRow base 9 1 v L.length (scs L)
theorem info_str : (Try.prog.info? 9).map (fun i => (i.zero, i.size, i.bytes)) = some (some (.string ByteArray.empty), 1, 16) := by kernel_rfl
theorem ownS.nil (w : World) (base : Nat) : ownS w base (.slice none 0 0) [] := World.ownsRow_nil _ _ _ _
theorem ownS.keep {w w' : World} {base : Nat} {v : Value} {L : List (List UInt8)} (h : ownS w base v L) (hb : Below w.heap.size w w') : ownS w' base v L := by
  refine World.ownsRow.kept h (grown_of_below hb) ?_
  cases v.ownBlock <;> simp
theorem ownS.alloc {w : World} {base : Nat} {v : Value} {L : List (List UInt8)} (h : ownS w base v L) (o : Obj) : ownS (w.alloc o) base v L := World.ownsRow.alloc h o
theorem ownS.lt {w : World} {base : Nat} {v : Value} {L : List (List UInt8)} (h : ownS w base v L) (k : Nat) (hk : v.ownBlock = some k) : base ≤ k ∧ k < w.heap.size := World.ownsRow.lt h k hk
theorem ownS.below {B : Nat} {a w w' : World} {base : Nat} {v : Value} {L : List (List UInt8)} (ho : ownS w base v L) (h : Below B a w) (hg : w.grownBy w' v.ownBlock) (hB : B ≤ w.heap.size) (hb : B ≤ base) : Below B a w' :=
  h.grown hg hB fun k hk => Nat.le_trans hb (ho.lt k hk).1
theorem ownS.grown {w w' : World} {base : Nat} {v : Value} {L : List (List UInt8)} {g : Nat} (h : ownS w base v L) (hg : w.grownBy w' (some g)) (hne : g < base) : ownS w' base v L := by
  refine World.ownsRow.kept h hg ?_
  cases hb : v.ownBlock with
  | none => exact Or.inl rfl
  | some k =>
    refine Or.inr fun e => ?_
    have := (h.lt k hb).1
    injection e with e
    omega
theorem ownS.strs {w : World} {base : Nat} {v : Value} {L : List (List UInt8)} (h : ownS w base v L) (ht : ∀ s ∈ L, s.length ≤ 9223372036854775807) : strsAt w w.heap.size v L := by
  refine ⟨?_, ht⟩
  rcases h.2 with ⟨rfl, hn⟩ | ⟨g, cap, cur, rfl, _, hg, hc, hm, hcs, htk⟩
  · exact ⟨none, 0, by rw [hn], by omega, by decide, fun i hi => by omega⟩
  · refine ⟨some ⟨g, 0, none⟩, cap, rfl, hc, hm, fun i hi => ⟨_, rfl, (Array.getElem?_eq_some_iff.1 hg).1, ?_⟩⟩
    have e : (⟨g, 0, none⟩ : Addr).add i = ⟨g, i, none⟩ := by unfold Addr.add; split <;> simp_all
    rw [e, cell_of_row w g i cur _ _ hg, ← scs_get L i hi, ← htk]
    rw [Nat.mul_one, List.getElem?_take_of_lt hi]
    simp
theorem ownS_append {ops : Array Oper} {rest : List Oper} {o : Oper} {a : Act} {w : World} {Q : Exit → Act → World → Prop} (hgd : o.guard = none) (s x : Operand)
    (ho : o.op = .call { callee := .builtin .append, args := #[s, x], argTypes := #[26, 26] }) (base : Nat) (v : Value) (l q : List (List UInt8)) (hs : a.eval s = v) (hown : ownS w base v l)
    (b off c : Nat) (hx : a.eval x = .slice (some ⟨b, off, none⟩) q.length c) (hq : ∀ j, j < q.length → w.cell? ⟨b, off + j, none⟩ = some (.string ⟨(q.getD j []).toArray⟩))
    (hlen : l.length + q.length ≤ 1000000000000) (hbase : base ≤ w.heap.size)
    (h : ∀ v' w', ownS w' base v' (l ++ q) → w.grownBy w' v.ownBlock → wpList Try.prog ops Q rest (a.put o.dst v') w') : wpList Try.prog ops Q (o :: rest) a w := by
  obtain ⟨i0, hi, hz0, hz1, hz2⟩ := info_parts info_str
  refine wpList_append_own w hgd s x 26 ho base 9 i0 (.string ByteArray.empty) 1 16 Try.underlying26 hi hz0 hz1 hz2 rfl (by decide) v l.length (scs l) hs hown ⟨b, off, none⟩ q.length c (scs q) hx (by rw [scs_len, Nat.mul_one]) ?_ ?_ ?_ ?_ hbase ?_
  · intro j u hj
    have hjl : j < q.length := by
      have := (List.getElem?_eq_some_iff.1 hj).1
      rwa [scs_len] at this
    rw [scs_get q j hjl] at hj
    have e : (⟨b, off, none⟩ : Addr).add j = ⟨b, off + j, none⟩ := by unfold Addr.add; split <;> simp_all
    rw [e, hq j hjl]; exact hj
  · intro u hu
    unfold scs at hu
    obtain ⟨c, _, rfl⟩ := List.mem_map.1 hu
    rfl
  · unfold maxLen; omega
  · omega
  · intro v' w' h1 h2 _
    refine h v' w' ?_ h2
    unfold ownS
    rw [List.length_append, scs_app]; exact h1
/-- what a function that gives a list of texts of its own does -/
def GivesS (w : World) (L : List (List UInt8)) (e : Ending) (w' : World) : Prop := ∃ v, e = .returned v ∧ ownS w' w.heap.size v L ∧ Below w.heap.size w w'
/-- n texts at most, of m bytes at most -/
def cuts (n m : Nat) (L : List (List UInt8)) : List (List UInt8) := (L.take n).map (·.take m)
theorem cuts_len (n m : Nat) (L : List (List UInt8)) : (cuts n m L).length = min n L.length := by simp [cuts]
theorem cuts_text (n m : Nat) (L : List (List UInt8)) : ∀ s ∈ cuts n m L, s.length ≤ m := by
  intro s hs
  obtain ⟨x, _, rfl⟩ := List.mem_map.1 hs
  rw [List.length_take]; omega
theorem cuts_succ (k m : Nat) (L : List (List UInt8)) (hk : k < L.length) : cuts (k + 1) m L = cuts k m L ++ [(L.getD k []).take m] := by
  have e : L.getD k [] = L[k] := by rw [List.getD_eq_getElem?_getD, List.getElem?_eq_getElem hk]; rfl
  unfold cuts
  rw [List.take_succ_eq_append_getElem hk, e, List.map_append]; rfl
/-- the first k texts, one behind the other -/
def catN (M : List (List UInt8)) (k : Nat) : List UInt8 := (M.take k).flatten
theorem catN_zero (M : List (List UInt8)) : catN M 0 = [] := rfl
theorem catN_succ (M : List (List UInt8)) (k : Nat) (hk : k < M.length) : catN M (k + 1) = catN M k ++ M.getD k [] := by
  have e : M.getD k [] = M[k] := by rw [List.getD_eq_getElem?_getD, List.getElem?_eq_getElem hk]; rfl
  unfold catN
  rw [List.take_succ_eq_append_getElem hk, e, List.flatten_append]
  simp
theorem catN_all (M : List (List UInt8)) : catN M M.length = M.flatten := by unfold catN; rw [List.take_length]
theorem catN_len (M : List (List UInt8)) (b : Nat) (hb : ∀ s ∈ M, s.length ≤ b) (k : Nat) : (catN M k).length ≤ k * b := by
  induction k with
  | zero => simp [catN]
  | succ k ih =>
    rcases Nat.lt_or_ge k M.length with h | h
    · rw [catN_succ M k h, List.length_append, Nat.succ_mul]
      have : (M.getD k []).length ≤ b := by
        apply hb
        rw [List.getD_eq_getElem?_getD, List.getElem?_eq_getElem h]; exact List.getElem_mem h
      omega
    · have e : catN M (k + 1) = catN M k := by unfold catN; rw [List.take_of_length_le (by omega), List.take_of_length_le (by omega)]
      rw [e, Nat.succ_mul]; omega
theorem getD_mem (M : List (List UInt8)) (k : Nat) (hk : k < M.length) : M.getD k [] ∈ M := by
  rw [List.getD_eq_getElem?_getD, List.getElem?_eq_getElem hk]; exact List.getElem_mem hk
section
variable {H : Type} {enc : TypeId × Value → H} {w : World} {base : Nat} {r : Reach} {v : Value} {d : DataW H} {ps : List MemPlace}
set_option maxRecDepth 100000 in
/-- an argument that is a list of texts -/
theorem open_strs (hv : Value.okWide Try.prog w r base 26 v) (h : DataW.Trod enc Try.prog w 0 (fun _ => true) true 26 v d ps) (hlt : ∀ x ∈ ps, x.block < w.heap.size) : ∃ L, strsAt w w.heap.size v L := by
  obtain ⟨a0, len, cap, rfl⟩ := okWide_slice Try.underlying26 hv
  obtain ⟨fuel, hf⟩ := h
  rcases open_strings Try.underlying26 Try.underlying9 (by kernel_rfl) hf with ⟨hcs, hx⟩ | ⟨a, len', cap', ss, hcs, _, hl, hm, hz, hx, hcell, hws⟩
  · simp [Value.cells] at hcs
    obtain ⟨rfl, rfl, rfl⟩ := hcs
    exact ⟨[], strsAt.nil _ _⟩
  · simp [Value.cells] at hcs
    obtain ⟨rfl, rfl, rfl⟩ := hcs
    simp only [if_true] at hz
    obtain ⟨-, rfl⟩ := Prod.mk.inj hx
    have hlen : ((ss.take len).map fun s => s.data.toList).length = len := by simp; omega
    have hmx : maxLen = 9223372036854775807 := by decide
    refine ⟨(ss.take len).map fun s => s.data.toList, ⟨some a, cap, by rw [hlen], by omega, by omega, fun i hi => ⟨a, rfl, ?_, ?_⟩⟩, ?_⟩
    · rw [hlen] at hi
      exact hlt (.cell a.block (a.off + 0)) (by
        unfold MemPlace.row
        exact List.mem_map.2 ⟨0, List.mem_range.2 (by omega), rfl⟩)
    · rw [hlen] at hi
      have hi2 : i < ss.length := by omega
      rw [hcell i hi2]
      have e1 : ss.getD i ByteArray.empty = ss[i] := by rw [List.getD_eq_getElem?_getD, List.getElem?_eq_getElem hi2]; rfl
      have e2 : ((ss.take len).map fun s => s.data.toList).getD i [] = ss[i].data.toList := by
        rw [List.getD_eq_getElem?_getD, List.getElem?_map, List.getElem?_take_of_lt hi, List.getElem?_eq_getElem hi2]; rfl
      rw [e1, e2]
    · intro s hs
      obtain ⟨x, hx1, rfl⟩ := List.mem_map.1 hs
      have h1 := hws x (List.mem_of_mem_take hx1)
      have h3 : x.data.toList.length = x.size := by cases x; simp [ByteArray.size]
      omega
end
end Go.Proofs.Ytcfohdkdppiekaa
