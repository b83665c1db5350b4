/- A window in memory; its small calls: contracts. -/
import Derived.Test.YtcfohdkdppiekaaSpecWin
import Derived.Test.YtcfohdkdppiekaaKitP
import Derived.BigQuiet
namespace Go.Proofs.Ytcfohdkdppiekaa
open Go.RowKit Go.Proofs Go
/-- a window: the ring's cells, where it begins, how many, how many at most -/
structure WinC (cs : List Value) (p : Nat) (L : List Iv) : Prop where
  len : cs.length = 96
  hp : p < 32
  at0 : ∀ i x, L[i]? = some x → cs[3 * ((p + i) % 32)]? = some (.int .u64 (x.1 : Int))
  at1 : ∀ i x, L[i]? = some x → cs[3 * ((p + i) % 32) + 1]? = some (.int .u64 (x.2.1 : Int))
  at2 : ∀ i x, L[i]? = some x → cs[3 * ((p + i) % 32) + 2]? = some (.string ⟨x.2.2.toArray⟩)
def isW (w : World) (g most : Nat) (L : List Iv) : Prop :=
  ∃ (cs : List Value) (p : Nat), WinC cs p L ∧ L.length ≤ most ∧ 1 ≤ most ∧ most ≤ 32 ∧ Cont L ∧ arr w g 156 (cs ++ [.int .i64 (p : Int), .int .i64 (L.length : Int), .int .i64 (most : Int)])
theorem isW.keep {w w' : World} {g most : Nat} {L : List Iv} (h : isW w g most L) (hb : Below w.heap.size w w') : isW w' g most L := by
  obtain ⟨cs, p, h1, h2, h3, h4, h5, h6⟩ := h
  exact ⟨cs, p, h1, h2, h3, h4, h5, h6.keep hb⟩
theorem win_cell {w : World} {g : Nat} {T : TypeId} {cs : List Value} {a b c : Value} (hl : cs.length = 96) (h : arr w g T (cs ++ [a, b, c])) : w.cell? ⟨g, 96, none⟩ = some a ∧ w.cell? ⟨g, 97, none⟩ = some b ∧ w.cell? ⟨g, 98, none⟩ = some c := by
  refine ⟨h.cell 96 _ ?_, h.cell 97 _ ?_, h.cell 98 _ ?_⟩ <;> rw [List.getElem?_append_right (by omega), hl] <;> rfl
set_option maxRecDepth 100000 in
theorem wplace_any (g most : Nat) (L : List Iv) (i p : Nat) (hi : i ≤ 1000) (hp : p < 32) (w : World) (c : w.cell? ⟨g, 96, none⟩ = some (.int .i64 (p : Int))) (lg : g < w.heap.size) :
    Calls Try.prog 118 #[.pointer (some ⟨g, 0, none⟩), .int .i64 (i : Int)] w fun e w' => e = .returned (.int .i64 (((p + i) % 32 : Nat) : Int)) ∧ Below w.heap.size w w' := by
  have hm : ((p : Int) + (i : Int)) % 32 = (((p + i) % 32 : Nat) : Int) := by omega
  go_enter Try.func118, Try.ntmps118
  go_wp2
  go_ret
  refine ⟨?_, Below.refl _ _⟩
  show Ending.returned (.int .i64 (((p : Int) + (i : Int)) % 32)) = _
  rw [hm]
set_option maxRecDepth 100000 in
theorem wlen_any (g most : Nat) (L : List Iv) (w : World) (h : isW w g most L) :
    Calls Try.prog 60 #[.pointer (some ⟨g, 0, none⟩)] w fun e w' => e = .returned (.int .i64 (L.length : Int)) ∧ w' = w := by
  obtain ⟨cs, p, hc, -, -, -, -, ha⟩ := h
  have c1 := (win_cell hc.len ha).2.1
  have lg := ha.lt
  clear ha hc
  go_enter Try.func60, Try.ntmps60
  go_wp2
  go_ret
  exact ⟨rfl, rfl⟩
set_option maxRecDepth 100000 in
theorem wlen_nil (w : World) :
    Calls Try.prog 60 #[.pointer none] w fun e w' => e = .returned (.int .i64 0) ∧ w' = w := by
  go_enter Try.func60, Try.ntmps60
  go_wp2
  go_ret
  exact ⟨rfl, rfl⟩
set_option maxRecDepth 100000 in
theorem has_any (f l q : Nat) (w : World) :
    Calls Try.prog 120 #[.agg #[.int .u64 (f : Int), .int .u64 (l : Int)], .int .u64 (q : Int)] w fun e w' => e = .returned (.bool (decide (f ≤ q) && decide (q ≤ l))) ∧ Below w.heap.size w w' := by
  by_cases h1 : f ≤ q
  · by_cases h2 : q ≤ l
    · have k1 : (f : Int) ≤ (q : Int) := by omega
      have k2 : (q : Int) ≤ (l : Int) := by omega
      rw [decide_eq_true h1, decide_eq_true h2]
      clear h1 h2
      go_enter Try.func120, Try.ntmps120
      go_wp2
      go_ret
      exact ⟨rfl, (Below.refl _ _).alloc (Nat.le_refl _) _⟩
    · have k1 : (f : Int) ≤ (q : Int) := by omega
      have k2 : ¬ (q : Int) ≤ (l : Int) := by omega
      rw [decide_eq_true h1, decide_eq_false h2]
      clear h1 h2
      go_enter Try.func120, Try.ntmps120
      go_wp2
      go_ret
      exact ⟨rfl, (Below.refl _ _).alloc (Nat.le_refl _) _⟩
  · have k1 : ¬ (f : Int) ≤ (q : Int) := by omega
    rw [decide_eq_false h1, Bool.false_and]
    clear h1
    go_enter Try.func120, Try.ntmps120
    go_wp2
    go_ret
    exact ⟨rfl, (Below.refl _ _).alloc (Nat.le_refl _) _⟩
/-- a ring of nothing -/
def zring : List Value := (List.replicate 32 [Value.int .u64 0, Value.int .u64 0, Value.string ByteArray.empty]).flatten
theorem zring_len : zring.length = 96 := rfl
set_option maxRecDepth 100000 in
theorem zcells : Try.zeroCells156 = (zring ++ [Value.int .i64 0, Value.int .i64 0, Value.int .i64 0]).toArray := rfl
set_option maxRecDepth 100000 in
theorem zcells_set (v : Value) : Try.zeroCells156.setIfInBounds 98 v = (zring ++ [Value.int .i64 0, Value.int .i64 0, v]).toArray := by
  rw [zcells, List.setIfInBounds_toArray, List.set_append_right _ _ (by rw [zring_len]; omega), zring_len]
  rfl
set_option maxRecDepth 100000 in
theorem wnew_any (n : Nat) (h1 : 1 ≤ n) (h2 : n ≤ 32) (w : World) :
    Calls Try.prog 49 #[.int .i64 (n : Int)] w fun e w' => e = .returned (.pointer (some ⟨w.heap.size, 0, none⟩)) ∧ isW w' w.heap.size n [] ∧ Below w.heap.size w w' := by
  have k1 : ¬ (n : Int) < 1 := by omega
  have k2 : (n : Int) ≤ 32 := by omega
  go_enter Try.func49, Try.ntmps49
  go_wp2
  rw [zcells_set]
  go_ret
  refine ⟨rfl, ⟨zring, 0, ⟨zring_len, by omega, fun i x hx => by simp at hx, fun i x hx => by simp at hx, fun i x hx => by simp at hx⟩, by simp, h1, h2, trivial, arr.new _ _ _⟩, (Below.refl _ _).alloc (Nat.le_refl _) _⟩
end Go.Proofs.Ytcfohdkdppiekaa
