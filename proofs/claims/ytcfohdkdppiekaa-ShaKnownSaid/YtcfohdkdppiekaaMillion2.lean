/- The sum of a million letters, to the base 16: plain Lean. -/
import Derived.Test.YtcfohdkdppiekaaMillion
import Derived.Test.YtcfohdkdppiekaaSpecHash
import Derived.Test.YtcfohdkdppiekaaSpecHex
namespace Go.Proofs.Ytcfohdkdppiekaa
theorem blks_rep (m : Nat) : ∀ n, 64 * n ≤ m → blks st0 (List.replicate m 97) n = itf inA n stA0
  | 0, _ => rfl
  | n + 1, h => by
    have e : ((List.replicate m (97 : UInt8)).drop (64 * n)).take 64 = blkA := by
      rw [List.drop_replicate, List.take_replicate, Nat.min_eq_left (by omega)]; rfl
    rw [itf_last, ← blks_rep m n (by omega)]
    show blk _ _ = _
    rw [e]; rfl
def lastB : List UInt8 := 128 :: (List.replicate 55 0 ++ b8 8000000)
theorem pad_rep (m : Nat) (h : m = 1000000) : pad (List.replicate m 97) = List.replicate m 97 ++ lastB := by
  have e1 : nzs m = 55 := by subst h; decide
  have e2 : 8 * m % 18446744073709551616 = 8000000 := by subst h; decide
  unfold pad
  rw [List.length_replicate, e1, e2, List.append_assoc]
  rfl
theorem sha_rep (m : Nat) (h : m = 1000000) : sha (List.replicate m 97) = (blk stA25 lastB).bytes := by
  have e1 : (pad (List.replicate m 97)).length / 64 = 15625 + 1 := by
    rw [pad_rep m h, List.length_append, List.length_replicate, h]; rfl
  have e2 : ((List.replicate m (97 : UInt8) ++ lastB).drop (64 * 15625)).take 64 = lastB := by
    have h2 : 64 * 15625 = (List.replicate m (97 : UInt8)).length := by rw [List.length_replicate, h]
    rw [h2, List.drop_left]; rfl
  have e3 : blks st0 (List.replicate m 97 ++ lastB) 15625 = stA25 := by
    rw [blks_app st0 _ _ _ (by rw [List.length_replicate]; omega), blks_rep m 15625 (by omega), goA]
  unfold sha
  rw [e1]
  show (blk (blks st0 (pad (List.replicate m 97)) 15625) (((pad (List.replicate m 97)).drop (64 * 15625)).take 64)).bytes = _
  rw [pad_rep m h, e2, e3]
set_option maxRecDepth 100000 in
theorem hex_million0 : hexb (blk stA25 lastB).bytes = [99, 100, 99, 55, 54, 101, 53, 99, 57, 57, 49, 52, 102, 98, 57, 50, 56, 49, 97, 49, 99, 55, 101, 50, 56, 52, 100, 55, 51, 101, 54, 55, 102, 49, 56, 48, 57, 97, 52, 56, 97, 52, 57, 55, 50, 48, 48, 101, 48, 52, 54, 100, 51, 57, 99, 99, 99, 55, 49, 49, 50, 99, 100, 48] := by decide +kernel
theorem hex_million (m : Nat) (h : m = 1000000) : hexb (sha (List.replicate m 97)) = [99, 100, 99, 55, 54, 101, 53, 99, 57, 57, 49, 52, 102, 98, 57, 50, 56, 49, 97, 49, 99, 55, 101, 50, 56, 52, 100, 55, 51, 101, 54, 55, 102, 49, 56, 48, 57, 97, 52, 56, 97, 52, 57, 55, 50, 48, 48, 101, 48, 52, 54, 100, 51, 57, 99, 99, 99, 55, 49, 49, 50, 99, 100, 48] := by
  rw [sha_rep m h]; exact hex_million0
end Go.Proofs.Ytcfohdkdppiekaa
