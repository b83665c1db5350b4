/- A window of intervals: plain Lean. -/
import Derived.Test.YtcfohdkdppiekaaSpecNum
namespace Go.Proofs.Ytcfohdkdppiekaa
/-- first, last, root -/
abbrev Iv := Nat × Nat × List UInt8
/-- may these be put at all? -/
def ivOk (f l : Nat) (r : List UInt8) : Prop := r.length = 32 ∧ f ≤ l ∧ l - f < 64 ∧ l < 18446744073709551615
instance (f l : Nat) (r : List UInt8) : Decidable (ivOk f l r) := inferInstanceAs (Decidable (_ ∧ _))
/-- the next round -/
def nxr (L : List Iv) : Option Nat := L.getLast?.map fun x => x.2.1 + 1
/-- what a put answers -/
def putE (L : List Iv) (f l : Nat) (r : List UInt8) : Nat := if ¬ ivOk f l r then 2 else if nxr L = none ∨ nxr L = some f then 0 else 17
/-- what is there behind a put that went well -/
def putL (most : Nat) (L : List Iv) (x : Iv) : List Iv := if L.length = most then L.drop 1 ++ [x] else L ++ [x]
/-- one follows the other -/
def Cont : List Iv → Prop
  | [] => True
  | x :: xs => ivOk x.1 x.2.1 x.2.2 ∧ (∀ y, xs.head? = some y → y.1 = x.2.1 + 1) ∧ Cont xs
theorem Cont.tail {x : Iv} {xs : List Iv} (h : Cont (x :: xs)) : Cont xs := h.2.2
theorem Cont.drop {L : List Iv} (h : Cont L) (k : Nat) : Cont (L.drop k) := by
  induction k generalizing L with
  | zero => simpa using h
  | succ k ih =>
    cases L with
    | nil => simpa using h
    | cons x xs => simpa using ih h.tail
theorem Cont.ok {L : List Iv} (h : Cont L) : ∀ x ∈ L, ivOk x.1 x.2.1 x.2.2 := by
  induction L with
  | nil => intro x hx; cases hx
  | cons a xs ih =>
    intro x hx
    rcases List.mem_cons.1 hx with rfl | hx
    · exact h.1
    · exact ih h.tail x hx
theorem Cont.snoc {L : List Iv} {x : Iv} (h : Cont L) (hx : ivOk x.1 x.2.1 x.2.2) (hn : nxr L = none ∨ nxr L = some x.1) : Cont (L ++ [x]) := by
  induction L with
  | nil => exact ⟨hx, (fun y hy => nomatch hy), trivial⟩
  | cons a xs ih =>
    refine ⟨h.1, ?_, ?_⟩
    · intro y hy
      cases xs with
      | nil =>
        simp at hy
        subst hy
        rcases hn with hn | hn
        · simp [nxr] at hn
        · simpa [nxr] using hn.symm
      | cons b xs => exact h.2.1 y (by simpa using hy)
    · cases xs with
      | nil => exact ⟨hx, (fun y hy => nomatch hy), trivial⟩
      | cons b xs => exact ih h.tail (by simpa [nxr] using hn)
theorem putE_zero {L : List Iv} {f l : Nat} {r : List UInt8} (h : putE L f l r = 0) : ivOk f l r ∧ (nxr L = none ∨ nxr L = some f) := by
  unfold putE at h
  split at h
  · cases h
  · rename_i h1
    split at h
    · rename_i h2; exact ⟨Classical.not_not.1 h1, h2⟩
    · cases h
theorem nxr_drop {L : List Iv} (h : 1 < L.length) : nxr (L.drop 1) = nxr L := by
  match L, h with
  | a :: b :: xs, _ => simp [nxr]
theorem Cont.put {most : Nat} {L : List Iv} {x : Iv} (h : Cont L) (hp : putE L x.1 x.2.1 x.2.2 = 0) : Cont (putL most L x) := by
  obtain ⟨h1, h2⟩ := putE_zero hp
  unfold putL
  split
  · refine (h.drop 1).snoc h1 ?_
    match L, h2 with
    | [], _ => exact Or.inl rfl
    | [a], _ => exact Or.inl rfl
    | a :: b :: xs, h2 => rw [nxr_drop (by simp)]; exact h2
  · exact h.snoc h1 h2
theorem putL_len (most : Nat) (L : List Iv) (x : Iv) (h : L.length ≤ most) (hm : 1 ≤ most) : (putL most L x).length ≤ most ∧ 1 ≤ (putL most L x).length := by
  unfold putL
  split
  · simp; omega
  · simp; omega
theorem putL_last (most : Nat) (L : List Iv) (x : Iv) : nxr (putL most L x) = some (x.2.1 + 1) := by
  unfold putL nxr
  split <;> simp
/-- is a round among an interval's? -/
def hasR (q : Nat) (x : Iv) : Bool := decide (x.1 ≤ q) && decide (q ≤ x.2.1)
def fin (L : List Iv) (q : Nat) : Option Iv := L.find? (hasR q)
/-- what a find answers: the program's way -/
def finE (L : List Iv) (q : Nat) : Nat := match fin L q with | some _ => 0 | none => if L.any (fun x => decide (q < x.1)) then 16 else 19
/-- and the document's way -/
def finR (L : List Iv) (q : Nat) : Nat := match L.getLast? with | none => 19 | some x => if x.2.1 < q then 19 else match fin L q with | some _ => 0 | none => 16
theorem Cont.le_last {L : List Iv} (h : Cont L) : ∀ x ∈ L, ∀ z, L.getLast? = some z → x.2.1 ≤ z.2.1 := by
  induction L with
  | nil => intro x hx; cases hx
  | cons a xs ih =>
    intro x hx z hz
    cases xs with
    | nil =>
      simp at hz hx
      subst hz; subst hx; exact Nat.le_refl _
    | cons b xs =>
      have hz' : (b :: xs).getLast? = some z := by simpa using hz
      rcases List.mem_cons.1 hx with rfl | hx
      · have h1 := h.2.1 b rfl
        have h2 := ih h.tail b (by simp) z hz'
        have h3 := (h.ok b (by simp)).2.1
        omega
      · exact ih h.tail x hx z hz'
theorem Cont.none_any {L : List Iv} (h : Cont L) (q : Nat) (hn : fin L q = none) : ∀ z, L.getLast? = some z → q ≤ z.2.1 → L.any (fun x => decide (q < x.1)) = true := by
  induction L with
  | nil => intro z hz; simp at hz
  | cons a xs ih =>
    intro z hz hq
    have h1 : hasR q a = false ∧ fin xs q = none := by
      unfold fin at hn ⊢
      rw [List.find?_cons] at hn
      split at hn
      · cases hn
      · rename_i h; exact ⟨h, hn⟩
    simp only [List.any_cons, Bool.or_eq_true, decide_eq_true_eq]
    by_cases h2 : q < a.1
    · exact Or.inl h2
    · right
      have h3 : a.2.1 < q := by
        have := h1.1
        simp [hasR] at this
        omega
      cases xs with
      | nil =>
        simp at hz
        subst hz; omega
      | cons b xs => exact ih h.tail h1.2 z (by simpa using hz) hq
theorem finE_finR {L : List Iv} (h : Cont L) (q : Nat) : finE L q = finR L q := by
  unfold finE finR
  cases hl : L.getLast? with
  | none =>
    have : L = [] := by simpa using hl
    subst this
    rfl
  | some z =>
    simp only
    cases hf : fin L q with
    | some y =>
      have hy := List.mem_of_find?_eq_some hf
      have hh := List.find?_some hf
      simp [hasR] at hh
      have := h.le_last y hy z hl
      have hz : ¬ z.2.1 < q := by omega
      simp [hz]
    | none =>
      simp only
      by_cases hz : z.2.1 < q
      · rw [if_pos hz]
        have : L.any (fun x => decide (q < x.1)) = false := by
          rw [List.any_eq_false]
          intro x hx
          have h1 := h.le_last x hx z hl
          have h2 := (h.ok x hx).2.1
          simp; omega
        rw [this]; rfl
      · rw [if_neg hz, h.none_any q hf z hl (by omega)]; rfl
/-- an earlier one ends ahead of a later one's beginning -/
theorem Cont.apart {L : List Iv} (h : Cont L) : ∀ (i j : Nat) (x y : Iv), i < j → L[i]? = some x → L[j]? = some y → x.2.1 < y.1 := by
  induction L with
  | nil => intro i j x y _ hi; simp at hi
  | cons a xs ih =>
    intro i j x y hij hi hj
    obtain ⟨j, rfl⟩ : ∃ k, j = k + 1 := ⟨j - 1, by omega⟩
    have hj' : xs[j]? = some y := by simpa using hj
    cases i with
    | succ i => exact ih h.tail i j x y (by omega) (by simpa using hi) hj'
    | zero =>
      obtain rfl : a = x := by simpa using hi
      cases xs with
      | nil => simp at hj'
      | cons b xs =>
        have h1 := h.2.1 b rfl
        cases j with
        | zero =>
          obtain rfl : b = y := by simpa using hj'
          omega
        | succ j =>
          have h2 := ih h.tail 0 (j + 1) b y (by omega) rfl hj'
          have h3 := (h.tail.ok b (by simp)).2.1
          omega
/-- a round of the i-th one is found there -/
theorem Cont.fin_at {L : List Iv} (h : Cont L) (i : Nat) (x : Iv) (q : Nat) (hi : L[i]? = some x) (h1 : x.1 ≤ q) (h2 : q ≤ x.2.1) : fin L q = some x := by
  cases hf : fin L q with
  | none =>
    have := List.find?_eq_none.1 hf x (List.mem_of_getElem? hi)
    simp [hasR, h1, h2] at this
  | some y =>
    have hy := List.mem_of_find?_eq_some hf
    have hh := List.find?_some hf
    simp [hasR] at hh
    obtain ⟨j, hj⟩ := List.getElem?_of_mem hy
    rcases Nat.lt_trichotomy i j with hij | hij | hij
    · have := h.apart i j x y hij hi hj; omega
    · subst hij; rw [hi] at hj; exact hj.symm
    · have := h.apart j i y x hij hj hi; omega
/-- a round of one that went is not there, and is behind -/
theorem Cont.fin_gone {L : List Iv} (h : Cont L) (k i : Nat) (x : Iv) (q : Nat) (hi : L[i]? = some x) (hik : i < k) (hk : k < L.length) (h1 : x.1 ≤ q) (h2 : q ≤ x.2.1) : fin (L.drop k) q = none ∧ finE (L.drop k) q = 16 := by
  have hall : ∀ y ∈ L.drop k, q < y.1 := by
    intro y hy
    obtain ⟨j, hj⟩ := List.getElem?_of_mem hy
    rw [List.getElem?_drop] at hj
    have := h.apart i (k + j) x y (by omega) hi hj
    omega
  have hn : fin (L.drop k) q = none := by
    unfold fin
    rw [List.find?_eq_none]
    intro y hy
    have := hall y hy
    simp [hasR]; omega
  refine ⟨hn, ?_⟩
  unfold finE
  rw [hn]
  have : (L.drop k).any (fun x => decide (q < x.1)) = true := by
    rw [List.any_eq_true]
    have hlt : 0 < (L.drop k).length := by simp; omega
    exact ⟨(L.drop k)[0], List.getElem_mem hlt, by simpa using hall _ (List.getElem_mem hlt)⟩
  rw [this]; rfl
/-- behind the last one nothing is found -/
theorem Cont.fin_behind {L : List Iv} (h : Cont L) (q : Nat) (hq : ∀ z, L.getLast? = some z → z.2.1 < q) : fin L q = none ∧ finE L q = 19 := by
  have hall : ∀ y ∈ L, y.2.1 < q ∧ y.1 < q := by
    intro y hy
    cases hl : L.getLast? with
    | none => simp at hl; subst hl; cases hy
    | some z =>
      have h1 := h.le_last y hy z hl
      have h2 := hq z hl
      have h3 := (h.ok y hy).2.1
      omega
  have hn : fin L q = none := by
    unfold fin
    rw [List.find?_eq_none]
    intro y hy
    have := hall y hy
    simp [hasR]; omega
  refine ⟨hn, ?_⟩
  unfold finE
  rw [hn]
  have : L.any (fun x => decide (q < x.1)) = false := by
    rw [List.any_eq_false]
    intro y hy
    have := hall y hy
    simp; omega
  rw [this]; rfl
/-- the last ones of all that was put -/
def lastN (most : Nat) (A : List Iv) : List Iv := A.drop (A.length - most)
theorem lastN_put (most : Nat) (A : List Iv) (x : Iv) (hm : 1 ≤ most) : putL most (lastN most A) x = lastN most (A ++ [x]) := by
  unfold putL lastN
  rw [List.length_drop]
  by_cases h : A.length - (A.length - most) = most
  · rw [if_pos h, List.drop_drop, List.length_append, List.drop_append_of_le_length (by simp; omega)]
    congr 2; simp; omega
  · rw [if_neg h, List.length_append, List.drop_append_of_le_length (by simp; omega)]
    congr 2; simp; omega
theorem lastN_nxr (most : Nat) (A : List Iv) (hm : 1 ≤ most) : nxr (lastN most A) = nxr A := by
  unfold nxr lastN
  cases A with
  | nil => simp
  | cons a xs =>
    rw [List.getLast?_drop]
    rw [if_neg (by simp; omega)]
/-- what is hashed -/
def tWindow : List UInt8 := [119, 105, 110, 100, 111, 119]
theorem ok_window : okTag tWindow := ⟨by decide, by decide⟩
def ivParts (x : Iv) : List (List UInt8) := [b8 x.1, b8 x.2.1, x.2.2]
def wparts (L : List Iv) : List (List UInt8) := b8 L.length :: (L.map ivParts).flatten
def wdig (L : List Iv) : List UInt8 := hsh tWindow (wparts L)
theorem wdig_len (L : List Iv) : (wdig L).length = 32 := hsh_len ok_window _
end Go.Proofs.Ytcfohdkdppiekaa
