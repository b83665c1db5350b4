/- A text that comes in parts: plain Lean. -/
import Derived.Test.YtcfohdkdppiekaaSpecSha
namespace Go.Proofs.Ytcfohdkdppiekaa
/-- blocks of a text do not hang on what is behind them -/
theorem blks_app (s : St) (l x : List UInt8) (n : Nat) (h : 64 * n ≤ l.length) : blks s (l ++ x) n = blks s l n := by
  induction n with
  | zero => rfl
  | succ n ih =>
    have e : ((l ++ x).drop (64 * n)).take 64 = (l.drop (64 * n)).take 64 := by
      rw [List.drop_append_of_le_length (by omega), List.take_append_of_le_length (by simp; omega)]
    simp only [blks, e, ih (by omega)]
/-- what is kept of a text: the words of its whole blocks, 64 bytes of which the first ones are what is left -/
structure Kept (l q : List UInt8) : Prop where
  len : q.length = 64
  rest : q.take (l.length % 64) = l.drop (64 * (l.length / 64))
/-- a part goes in, up to the block's end -/
def putq (l q x : List UInt8) : List UInt8 := q.take (l.length % 64) ++ x ++ q.drop (l.length % 64 + x.length)
theorem putq_len (l q x : List UInt8) (h : Kept l q) (hx : l.length % 64 + x.length ≤ 64) : (putq l q x).length = 64 := by
  have := h.len
  simp [putq]; omega
theorem kept_more (l q x : List UInt8) (h : Kept l q) (hx : l.length % 64 + x.length < 64) : Kept (l ++ x) (putq l q x) ∧ (l ++ x).length / 64 = l.length / 64 := by
  have h0 := h.len
  have e1 : (l ++ x).length / 64 = l.length / 64 := by rw [List.length_append]; omega
  have e2 : (l ++ x).length % 64 = l.length % 64 + x.length := by rw [List.length_append]; omega
  refine ⟨⟨putq_len l q x h (by omega), ?_⟩, e1⟩
  rw [e1, e2, List.drop_append_of_le_length (by omega), ← h.rest, putq]
  rw [List.take_append_of_le_length (by simp; omega), List.take_of_length_le (by simp; omega)]
theorem kept_full (l q x : List UInt8) (h : Kept l q) (hx : l.length % 64 + x.length = 64) : Kept (l ++ x) (putq l q x) ∧ (l ++ x).length / 64 = l.length / 64 + 1 ∧
    ((l ++ x).drop (64 * (l.length / 64))).take 64 = putq l q x := by
  have h0 := h.len
  have e1 : (l ++ x).length / 64 = l.length / 64 + 1 := by rw [List.length_append]; omega
  have e2 : (l ++ x).length % 64 = 0 := by rw [List.length_append]; omega
  have e3 : ((l ++ x).drop (64 * (l.length / 64))).take 64 = putq l q x := by
    rw [List.drop_append_of_le_length (by omega), ← h.rest, putq, List.drop_of_length_le (by omega), List.append_nil]
    rw [List.take_of_length_le (by simp; omega)]
  refine ⟨⟨putq_len l q x h (by omega), ?_⟩, e1, e3⟩
  rw [e1, e2, List.take_zero, List.drop_of_length_le (by rw [List.length_append]; omega)]
theorem blks_full (l q x : List UInt8) (h : Kept l q) (hx : l.length % 64 + x.length = 64) : blks st0 (l ++ x) ((l ++ x).length / 64) = blk (blks st0 l (l.length / 64)) (putq l q x) := by
  obtain ⟨_, e1, e3⟩ := kept_full l q x h hx
  rw [e1]
  show blk (blks st0 (l ++ x) (l.length / 64)) _ = _
  rw [e3, blks_app st0 l x _ (by omega)]
theorem blks_more (l q x : List UInt8) (h : Kept l q) (hx : l.length % 64 + x.length < 64) : blks st0 (l ++ x) ((l ++ x).length / 64) = blks st0 l (l.length / 64) := by
  rw [(kept_more l q x h hx).2, blks_app st0 l x _ (by omega)]
end Go.Proofs.Ytcfohdkdppiekaa
