/- Intervals that follow one another: plain Lean. -/
import Derived.Test.YtcfohdkdppiekaaSpecWin
namespace Go.Proofs.Ytcfohdkdppiekaa
/-- where the k-th begins -/
def atK (st : Nat) (s : List UInt8) : Nat → Nat
  | 0 => st
  | k + 1 => atK st s k + (s.getD k 0).toNat % 64 + 1
def ivK (st : Nat) (s : List UInt8) (rf : Nat → List UInt8) (k : Nat) : Iv := (atK st s k, atK st s k + (s.getD k 0).toNat % 64, rf k)
def ivs (st : Nat) (s : List UInt8) (rf : Nat → List UInt8) (k : Nat) : List Iv := (List.range k).map (ivK st s rf)
section
variable {st : Nat} {s : List UInt8} {rf : Nat → List UInt8}
theorem atK_le (st : Nat) (s : List UInt8) (k : Nat) : st ≤ atK st s k ∧ atK st s k ≤ st + 64 * k := by
  induction k with
  | zero => simp [atK]
  | succ k ih => simp only [atK]; omega
theorem ivs_len (k : Nat) : (ivs st s rf k).length = k := by simp [ivs]
theorem ivs_succ (k : Nat) : ivs st s rf (k + 1) = ivs st s rf k ++ [ivK st s rf k] := by
  unfold ivs
  rw [List.range_succ, List.map_append]; rfl
theorem ivs_at (k i : Nat) (h : i < k) : (ivs st s rf k)[i]? = some (ivK st s rf i) := by
  unfold ivs
  rw [List.getElem?_map, List.getElem?_range h]; rfl
theorem ivs_nxr (k : Nat) : nxr (ivs st s rf (k + 1)) = some (atK st s (k + 1)) := by
  rw [ivs_succ]
  simp [nxr, ivK, atK]
theorem ivs_nx (k : Nat) : nxr (ivs st s rf k) = none ∨ nxr (ivs st s rf k) = some (atK st s k) := by
  cases k with
  | zero => exact Or.inl rfl
  | succ k => exact Or.inr (ivs_nxr k)
theorem ivK_ok (hr : ∀ k, (rf k).length = 32) (k : Nat) (h : st + 64 * k + 64 < 18446744073709551615) : ivOk (ivK st s rf k).1 (ivK st s rf k).2.1 (ivK st s rf k).2.2 := by
  have := (atK_le st s k).2
  refine ⟨hr k, ?_, ?_, ?_⟩ <;> simp only [ivK] <;> omega
theorem ivs_cont (hr : ∀ k, (rf k).length = 32) (k : Nat) (h : st + 64 * k + 64 < 18446744073709551615) : Cont (ivs st s rf k) := by
  induction k with
  | zero => exact trivial
  | succ k ih =>
    rw [ivs_succ]
    exact (ih (by omega)).snoc (ivK_ok hr k (by omega)) (ivs_nx k)
/-- the k-th may be put -/
theorem ivs_put (hr : ∀ k, (rf k).length = 32) (n k : Nat) (hn : 1 ≤ n) (h : st + 64 * k + 64 < 18446744073709551615) :
    putE (lastN n (ivs st s rf k)) (ivK st s rf k).1 (ivK st s rf k).2.1 (ivK st s rf k).2.2 = 0 ∧ putL n (lastN n (ivs st s rf k)) (ivK st s rf k) = lastN n (ivs st s rf (k + 1)) := by
  refine ⟨?_, ?_⟩
  · unfold putE
    rw [if_neg (fun h' => h' (ivK_ok hr k h)), lastN_nxr _ _ hn]
    exact if_pos (ivs_nx k)
  · rw [lastN_put _ _ _ hn, ivs_succ]
theorem ivs_drop (k d : Nat) (h : d < k) : nxr ((ivs st s rf k).drop d) = nxr (ivs st s rf k) := by
  unfold nxr
  rw [List.getLast?_drop, if_neg (by rw [ivs_len]; omega)]
/-- the k-th may be put behind the d-th and those that follow -/
theorem ivs_putB (hr : ∀ k, (rf k).length = 32) (n d k : Nat) (hd : d ≤ k) (hk : k < d + n) (h : st + 64 * k + 64 < 18446744073709551615) :
    putE ((ivs st s rf k).drop d) (ivK st s rf k).1 (ivK st s rf k).2.1 (ivK st s rf k).2.2 = 0 ∧ putL n ((ivs st s rf k).drop d) (ivK st s rf k) = (ivs st s rf (k + 1)).drop d := by
  refine ⟨?_, ?_⟩
  · unfold putE
    rw [if_neg (fun h' => h' (ivK_ok hr k h)), if_pos]
    rcases Nat.lt_or_ge d k with h1 | h1
    · rw [ivs_drop k d h1]; exact ivs_nx k
    · left
      rw [List.drop_of_length_le (by rw [ivs_len]; omega)]; rfl
  · unfold putL
    rw [if_neg (by rw [List.length_drop, ivs_len]; omega), ivs_succ, List.drop_append_of_le_length (by rw [ivs_len]; omega)]
theorem lastN_ivs (n k : Nat) : lastN n (ivs st s rf k) = (ivs st s rf k).drop (k - n) := by unfold lastN; rw [ivs_len]
/-- what is found of those that are there -/
theorem ivs_find (hr : ∀ k, (rf k).length = 32) (n k i q : Nat) (hi : i < k) (hn : 1 ≤ n) (h : st + 64 * k + 64 < 18446744073709551615) (h1 : (ivK st s rf i).1 ≤ q) (h2 : q ≤ (ivK st s rf i).2.1) :
    (i < k - n → fin (lastN n (ivs st s rf k)) q = none ∧ finE (lastN n (ivs st s rf k)) q = 16) ∧ (¬ i < k - n → fin (lastN n (ivs st s rf k)) q = some (ivK st s rf i)) := by
  rw [lastN_ivs]
  have hc := ivs_cont (s := s) hr k h
  refine ⟨fun hlt => hc.fin_gone (k - n) i _ q (ivs_at k i hi) hlt (by rw [ivs_len]; omega) h1 h2, fun hge => ?_⟩
  refine (hc.drop (k - n)).fin_at (i - (k - n)) _ q ?_ h1 h2
  rw [List.getElem?_drop, show k - n + (i - (k - n)) = i by omega]
  exact ivs_at k i hi
theorem ivs_behind (hr : ∀ k, (rf k).length = 32) (n k : Nat) (hn : 1 ≤ n) (h : st + 64 * k + 64 < 18446744073709551615) : fin (lastN n (ivs st s rf k)) (atK st s k) = none ∧ finE (lastN n (ivs st s rf k)) (atK st s k) = 19 := by
  rw [lastN_ivs]
  have hc := ivs_cont (s := s) hr k h
  refine (hc.drop (k - n)).fin_behind _ fun z hz => ?_
  cases k with
  | zero => simp [ivs] at hz
  | succ k =>
    have e : nxr ((ivs st s rf (k + 1)).drop (k + 1 - n)) = some (atK st s (k + 1)) := by rw [ivs_drop _ _ (by omega), ivs_nxr]
    unfold nxr at e
    rw [hz] at e
    simp at e
    omega
end
end Go.Proofs.Ytcfohdkdppiekaa
