/- Lists of texts with their cells. -/
import Derived.Test.YtcfohdkdppiekaaAppS
namespace Go.Proofs.Ytcfohdkdppiekaa
open Go Go.RowKit Go.Proofs
attribute [local go_sem] Oper.semAt_some
structure txtAt (W : World) (b : Nat) (L : List (List UInt8)) (c : Nat) : Prop where
  lt : b < W.heap.size
  cap : L.length ≤ c
  big : c ≤ 9223372036854775807
  cells : ∀ i, i < L.length → W.cell? ⟨b, i, none⟩ = some (.string ⟨(L.getD i []).toArray⟩)
  free : ∀ i, W.frozen? ⟨b, i, none⟩ = false
section
variable {W W' : World} {b c : Nat} {L : List (List UInt8)}
theorem txtAt.keep (h : txtAt W b L c) (hb : Below W.heap.size W W') : txtAt W' b L c :=
  ⟨Nat.lt_of_lt_of_le h.lt hb.size, h.cap, h.big, fun i hi => (hb.cell (p := ⟨b, i, none⟩) h.lt).trans (h.cells i hi), fun i => (hb.frozen (p := ⟨b, i, none⟩) h.lt).trans (h.free i)⟩
theorem txtAt.grown {r : Option Nat} (h : txtAt W b L c) (hg : W.grownBy W' r) (hne : some b ≠ r) : txtAt W' b L c :=
  ⟨Nat.lt_of_lt_of_le h.lt hg.size, h.cap, h.big, fun i hi => (World.cell?_of_block (w := W) (a := ⟨b, i, none⟩) (hg.block b h.lt hne)).trans (h.cells i hi), fun i => (World.frozen?_of_block (w := W) (a := ⟨b, i, none⟩) (hg.block b h.lt hne)).trans (h.free i)⟩
theorem txtAt.strs (h : txtAt W b L c) (ht : ∀ s ∈ L, s.length ≤ 9223372036854775807) : strsAt W W.heap.size (.slice (some ⟨b, 0, none⟩) L.length c) L := by
  refine ⟨⟨some ⟨b, 0, none⟩, c, rfl, h.cap, h.big, fun i hi => ⟨_, rfl, h.lt, ?_⟩⟩, ht⟩
  have e : (⟨b, 0, none⟩ : Addr).add i = ⟨b, i, none⟩ := by unfold Addr.add; split <;> simp_all
  rw [e]; exact h.cells i hi
theorem txtAt.take (h : txtAt W b L c) (k : Nat) : txtAt W b (L.take k) c := by
  refine ⟨h.lt, Nat.le_trans (by simp; omega) h.cap, h.big, fun i hi => ?_, h.free⟩
  have hi' : i < L.length := by simp at hi; omega
  have hik : i < k := by simp at hi; omega
  rw [h.cells i hi', List.getD_eq_getElem?_getD, List.getD_eq_getElem?_getD, List.getElem?_take_of_lt hik]
theorem txtAt.set (h : txtAt W b L c) (k : Nat) (hk : k < L.length) (s : List UInt8) : txtAt (W.setCell ⟨b, k, none⟩ (.string ⟨s.toArray⟩)) b (L.set k s) c := by
  refine ⟨by simp [World.setCell]; exact h.lt, by rw [List.length_set]; exact h.cap, h.big, fun i hi => ?_, fun i => ?_⟩
  · rw [List.length_set] at hi
    by_cases e : i = k
    · subst e
      rw [World.cell?_setCell_same W _ _ (h.cells i hi), List.getD_eq_getElem?_getD, List.getElem?_set_self hi]; rfl
    · rw [World.cell?_setCell_other W _ _ _ (by intro q; exact e (by injection q with q1 q2; exact q2.symm)), h.cells i hi, List.getD_eq_getElem?_getD, List.getD_eq_getElem?_getD, List.getElem?_set_ne (fun q => e q.symm)]
  · go_simp
    exact h.free i
theorem txtAt.other (h : txtAt W b L c) (a : Addr) (ha : a.block ≠ b) (v : Value) : txtAt (W.setCell a v) b L c := by
  refine ⟨by simp [World.setCell]; exact h.lt, h.cap, h.big, fun i hi => ?_, fun i => ?_⟩
  · rw [World.cell?_setCell_other W _ _ _ (by rintro rfl; exact ha rfl)]; exact h.cells i hi
  · go_simp
    exact h.free i
theorem ownS_txt {base : Nat} {v : Value} (h : ownS W base v L) (hl : 0 < L.length) : ∃ b c, v = .slice (some ⟨b, 0, none⟩) L.length c ∧ base ≤ b ∧ txtAt W b L c := by
  rcases h.2 with ⟨rfl, hn⟩ | ⟨g, cap, cur, rfl, hgb, hg, hc, hmx, hcs, htk⟩
  · omega
  · refine ⟨g, cap, rfl, hgb, (Array.getElem?_eq_some_iff.1 hg).1, hc, hmx, fun i hi => ?_, fun i => ?_⟩
    · rw [cell_of_row W g i cur _ _ hg, ← scs_get L i hi, ← htk, Nat.mul_one, List.getElem?_take_of_lt hi]
      simp
    · simp [World.frozen?, hg]
end
end Go.Proofs.Ytcfohdkdppiekaa
