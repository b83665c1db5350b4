/- Digits of a digest, walks along chains, signatures: plain Lean. -/
import Derived.Test.YtcfohdkdppiekaaSpecNum
namespace Go.Proofs.Ytcfohdkdppiekaa
def tChain : List UInt8 := [99, 104, 97, 105, 110]
def tSecret : List UInt8 := [115, 101, 99, 114, 101, 116]
def tPublic : List UInt8 := [112, 117, 98, 108, 105, 99]
theorem ok_chain : okTag tChain := ⟨by decide, by decide⟩
theorem ok_secret : okTag tSecret := ⟨by decide, by decide⟩
theorem ok_public : okTag tPublic := ⟨by decide, by decide⟩
/-- one step along a chain -/
def stp (i j : Nat) (x : List UInt8) : List UInt8 := hsh tChain [[UInt8.ofNat i], [UInt8.ofNat j], x]
/-- n steps from place j on -/
def wk (i : Nat) : Nat → Nat → List UInt8 → List UInt8
  | _, 0, x => x
  | j, n + 1, x => wk i (j + 1) n (stp i j x)
theorem wk_succ (i j n : Nat) (x : List UInt8) : wk i j (n + 1) x = stp i (j + n) (wk i j n x) := by
  induction n generalizing j x with
  | zero => rfl
  | succ n ih =>
    rw [wk, ih, wk]
    congr 1; omega
theorem wk_add (i j m n : Nat) (x : List UInt8) : wk i j (m + n) x = wk i (j + m) n (wk i j m x) := by
  induction n with
  | zero => rfl
  | succ n ih =>
    rw [← Nat.add_assoc, wk_succ, ih, wk_succ]
    congr 1; omega
theorem stp_len (i j : Nat) (x : List UInt8) : (stp i j x).length = 32 := hsh_len ok_chain _
theorem wk_len (i j n : Nat) (x : List UInt8) (hx : x.length = 32) : (wk i j n x).length = 32 := by
  cases n with
  | zero => exact hx
  | succ n => rw [wk_succ]; exact stp_len _ _ _
theorem wk_len_le (i j n b : Nat) (x : List UInt8) (hx : x.length ≤ b) (hb : 32 ≤ b) : (wk i j n x).length ≤ b := by
  cases n with
  | zero => exact hx
  | succ n => rw [wk_succ, stp_len]; exact hb
/-- what the walk from place a to place b gives -/
def wlk (i a b : Nat) (x : List UInt8) : List UInt8 := wk i a (b - a) x
theorem wlk_same (i a : Nat) (x : List UInt8) : wlk i a a x = x := by unfold wlk; rw [Nat.sub_self]; rfl
theorem wlk_two (i a b c : Nat) (x : List UInt8) (h1 : a ≤ b) (h2 : b ≤ c) : wlk i b c (wlk i a b x) = wlk i a c x := by
  unfold wlk
  have e : c - a = (b - a) + (c - b) := by omega
  rw [e, wk_add]
  congr 1; omega
theorem wlk_len (i a b : Nat) (x : List UInt8) (hx : x.length = 32) : (wlk i a b x).length = 32 := wk_len _ _ _ _ hx
theorem wlk_len_le (i a b c : Nat) (x : List UInt8) (hx : x.length ≤ c) (hc : 32 ≤ c) : (wlk i a b x).length ≤ c := wk_len_le _ _ _ _ _ hx hc
/-- the digits of a text's bytes -/
def dg (d : List UInt8) (i : Nat) : Nat := if i % 2 = 0 then (d.getD (i / 2) 0).toNat / 16 else (d.getD (i / 2) 0).toNat % 16
/-- what the first k digits lack -/
def lack (d : List UInt8) : Nat → Nat
  | 0 => 0
  | k + 1 => lack d k + (15 - dg d k)
theorem dg_lt (d : List UInt8) (i : Nat) : dg d i ≤ 15 := by
  unfold dg
  have := (d.getD (i / 2) 0).toNat_lt
  split <;> omega
theorem lack_le (d : List UInt8) (k : Nat) : lack d k ≤ 15 * k := by
  induction k with
  | zero => simp [lack]
  | succ k ih => rw [lack]; omega
/-- all 67 digits -/
def digs (d : List UInt8) : List Nat := (List.range 64).map (dg d) ++ [lack d 64 / 256, lack d 64 / 16 % 16, lack d 64 % 16]
theorem digs_len (d : List UInt8) : (digs d).length = 67 := by simp [digs]
theorem digs_le (d : List UInt8) : ∀ x ∈ digs d, x ≤ 15 := by
  intro x hx
  unfold digs at hx
  have hl := lack_le d 64
  rcases List.mem_append.1 hx with h | h
  · obtain ⟨i, _, rfl⟩ := List.mem_map.1 h
    exact dg_lt d i
  · simp only [List.mem_cons, List.not_mem_nil, or_false] at h
    rcases h with rfl | rfl | rfl <;> omega
theorem digs_get_le (d : List UInt8) (i : Nat) : (digs d).getD i 0 ≤ 15 := by
  rw [List.getD_eq_getElem?_getD]
  cases h : (digs d)[i]? with
  | none => simp
  | some x => exact digs_le d x (List.mem_of_getElem? h)
theorem digs_low (d : List UInt8) (i : Nat) (h : i < 64) : (digs d).getD i 0 = dg d i := by
  unfold digs
  rw [List.getD_eq_getElem?_getD, List.getElem?_append_left (by simpa using h)]
  simp [h]
theorem digs_64 (d : List UInt8) : (digs d).getD 64 0 = lack d 64 / 256 := by
  unfold digs
  rw [List.getD_eq_getElem?_getD, List.getElem?_append_right (by simp)]; simp
theorem digs_65 (d : List UInt8) : (digs d).getD 65 0 = lack d 64 / 16 % 16 := by
  unfold digs
  rw [List.getD_eq_getElem?_getD, List.getElem?_append_right (by simp)]; simp
theorem digs_66 (d : List UInt8) : (digs d).getD 66 0 = lack d 64 % 16 := by
  unfold digs
  rw [List.getD_eq_getElem?_getD, List.getElem?_append_right (by simp)]; simp
/-- a key's secret of a chain -/
def scr (seed : List UInt8) (index i : Nat) : List UInt8 := hsh tSecret [seed, b8 index, [UInt8.ofNat i]]
theorem scr_len (seed : List UInt8) (index i : Nat) : (scr seed index i).length = 32 := hsh_len ok_secret _
/-- what is public of a key -/
def pub (seed : List UInt8) (index : Nat) : List UInt8 := hsh tPublic ((List.range 67).map fun i => wlk i 0 15 (scr seed index i))
/-- a signature -/
def sgn (seed : List UInt8) (index : Nat) (d : List UInt8) : List (List UInt8) := (List.range 67).map fun i => wlk i 0 ((digs d).getD i 0) (scr seed index i)
/-- the ends of a signature's chains -/
def endsOf (sig : List (List UInt8)) (d : List UInt8) : List (List UInt8) := (List.range 67).map fun i => wlk i ((digs d).getD i 0) 15 (sig.getD i [])
def recv (sig : List (List UInt8)) (d : List UInt8) : List UInt8 := hsh tPublic (endsOf sig d)
theorem sgn_len (seed : List UInt8) (index : Nat) (d : List UInt8) : (sgn seed index d).length = 67 := by simp [sgn]
theorem sgn_get (seed : List UInt8) (index : Nat) (d : List UInt8) (i : Nat) (h : i < 67) : (sgn seed index d).getD i [] = wlk i 0 ((digs d).getD i 0) (scr seed index i) := by
  unfold sgn
  rw [List.getD_eq_getElem?_getD]
  simp [h]
theorem range_map_congr {α : Type} {n : Nat} {f g : Nat → α} (h : ∀ i, i < n → f i = g i) : (List.range n).map f = (List.range n).map g :=
  List.map_congr_left fun i hi => h i (List.mem_range.1 hi)
/-- what is public comes of a signature -/
theorem recv_sgn (seed : List UInt8) (index : Nat) (d : List UInt8) : recv (sgn seed index d) d = pub seed index := by
  unfold recv pub endsOf
  congr 1
  apply range_map_congr
  intro i hi
  rw [sgn_get _ _ _ _ hi, wlk_two _ _ _ _ _ (Nat.zero_le _) (digs_get_le d i)]
theorem sgn_mem_len (seed : List UInt8) (index : Nat) (d : List UInt8) : ∀ s ∈ sgn seed index d, s.length = 32 := by
  intro s hs
  obtain ⟨i, _, rfl⟩ := List.mem_map.1 hs
  exact wlk_len _ _ _ _ (scr_len _ _ _)
end Go.Proofs.Ytcfohdkdppiekaa
