/- The bytes that come of a seed: plain Lean. -/
import Derived.Test.YtcfohdkdppiekaaSpecNum
namespace Go.Proofs.Ytcfohdkdppiekaa
def tStream : List UInt8 := [115, 116, 114, 101, 97, 109]
theorem ok_stream : okTag tStream := ⟨by decide, by decide⟩
def sblk (s : List UInt8) (n : Nat) : List UInt8 := hsh tStream [s, b8 n]
theorem sblk_len (s : List UInt8) (n : Nat) : (sblk s n).length = 32 := hsh_len ok_stream _
/-- the k-th byte -/
def sb (s : List UInt8) (k : Nat) : UInt8 := (sblk s (k / 32)).getD (k % 32) 0
/-- n bytes from place a on -/
def sbs (s : List UInt8) (a n : Nat) : List UInt8 := (List.range n).map fun i => sb s (a + i)
theorem sbs_len (s : List UInt8) (a n : Nat) : (sbs s a n).length = n := by simp [sbs]
theorem sbs_zero (s : List UInt8) (a : Nat) : sbs s a 0 = [] := rfl
theorem sbs_succ (s : List UInt8) (a n : Nat) : sbs s a (n + 1) = sbs s a n ++ [sb s (a + n)] := by simp [sbs, List.range_succ]
theorem sbs_add (s : List UInt8) (a m n : Nat) : sbs s a (m + n) = sbs s a m ++ sbs s (a + m) n := by
  induction n with
  | zero => simp [sbs_zero]
  | succ n ih => rw [← Nat.add_assoc, sbs_succ, ih, sbs_succ, List.append_assoc, Nat.add_assoc]
theorem sbs_block (s : List UInt8) (n : Nat) : sbs s (32 * n) 32 = sblk s n := by
  have h := sblk_len s n
  apply List.ext_getElem
  · rw [sbs_len, h]
  · intro i h1 h2
    rw [sbs_len] at h1
    have e1 : (32 * n + i) / 32 = n := by omega
    have e2 : (32 * n + i) % 32 = i := by omega
    simp only [sbs, List.getElem_map, List.getElem_range, sb, e1, e2]
    rw [List.getD_eq_getElem?_getD, List.getElem?_eq_getElem h2]; rfl
theorem sbs_take (s : List UInt8) (a n k : Nat) (h : k ≤ n) : (sbs s a n).take k = sbs s a k := by
  obtain ⟨m, rfl⟩ : ∃ m, n = k + m := ⟨n - k, by omega⟩
  rw [sbs_add, List.take_append_of_le_length (by rw [sbs_len]; omega), List.take_of_length_le (by rw [sbs_len]; omega)]
theorem sbs_drop (s : List UInt8) (a n k : Nat) (h : k ≤ n) : (sbs s a n).drop k = sbs s (a + k) (n - k) := by
  obtain ⟨m, rfl⟩ : ∃ m, n = k + m := ⟨n - k, by omega⟩
  rw [sbs_add, List.drop_append_of_le_length (by rw [sbs_len]; omega), List.drop_of_length_le (by rw [sbs_len]; omega), List.nil_append]
  congr 1; omega
/-- the number at a place -/
def su (s : List UInt8) (a : Nat) : Nat := numb (sbs s a 8)
theorem su_lt (s : List UInt8) (a : Nat) : su s a < 18446744073709551616 := numb_lt _
end Go.Proofs.Ytcfohdkdppiekaa
