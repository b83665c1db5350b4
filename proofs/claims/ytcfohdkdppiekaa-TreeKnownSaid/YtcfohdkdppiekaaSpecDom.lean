/- Frames and hashes of tags and parts: plain Lean. -/
import Derived.Test.YtcfohdkdppiekaaSpecSha
namespace Go.Proofs.Ytcfohdkdppiekaa
theorem b8_len (n : Nat) : (b8 n).length = 8 := rfl
/-- parts, each behind its length -/
def fparts (ps : List (List UInt8)) : List UInt8 := (ps.map fun p => b8 p.length ++ p).flatten
/-- the first k parts -/
def fpartsN (ps : List (List UInt8)) (k : Nat) : List UInt8 := fparts (ps.take k)
theorem fpartsN_zero (ps : List (List UInt8)) : fpartsN ps 0 = [] := rfl
theorem fparts_app (a b : List (List UInt8)) : fparts (a ++ b) = fparts a ++ fparts b := by simp [fparts]
theorem fparts_one (p : List UInt8) : fparts [p] = b8 p.length ++ p := by simp [fparts]
theorem fparts_cons (p : List UInt8) (ps : List (List UInt8)) : fparts (p :: ps) = b8 p.length ++ p ++ fparts ps := by simp [fparts]
theorem fpartsN_succ (ps : List (List UInt8)) (k : Nat) (hk : k < ps.length) : fpartsN ps (k + 1) = fpartsN ps k ++ b8 (ps.getD k []).length ++ ps.getD k [] := by
  have e : ps.getD k [] = ps[k] := by rw [List.getD_eq_getElem?_getD, List.getElem?_eq_getElem hk]; rfl
  unfold fpartsN
  rw [List.take_succ_eq_append_getElem hk, e, fparts_app, fparts_one, List.append_assoc]
theorem fpartsN_all (ps : List (List UInt8)) : fpartsN ps ps.length = fparts ps := by unfold fpartsN; rw [List.take_length]
theorem fparts_len (ps : List (List UInt8)) (b : Nat) (hb : ∀ s ∈ ps, s.length ≤ b) : (fparts ps).length ≤ ps.length * (8 + b) := by
  induction ps with
  | nil => simp [fparts]
  | cons p ps ih =>
    have h1 := hb p (by simp)
    have h2 := ih fun s hs => hb s (by simp [hs])
    rw [fparts_cons, List.length_append, List.length_append, b8_len, List.length_cons, Nat.succ_mul]
    omega
theorem fpartsN_len (ps : List (List UInt8)) (b : Nat) (hb : ∀ s ∈ ps, s.length ≤ b) (k : Nat) (hk : k ≤ ps.length) : (fpartsN ps k).length ≤ ps.length * (8 + b) := by
  have h := fparts_len (ps.take k) b fun s hs => hb s (List.mem_of_mem_take hs)
  unfold fpartsN
  have h2 : (ps.take k).length * (8 + b) ≤ ps.length * (8 + b) := Nat.mul_le_mul_right _ (by rw [List.length_take]; omega)
  omega
/-- a tag, behind its length, and the parts -/
def frm0 (tag : List UInt8) (ps : List (List UInt8)) : List UInt8 := tag.length.toUInt8 :: (tag ++ fparts ps)
def okTag (tag : List UInt8) : Prop := 1 ≤ tag.length ∧ tag.length ≤ 16
instance (tag : List UInt8) : Decidable (okTag tag) := inferInstanceAs (Decidable (_ ∧ _))
/-- the frame: nothing where the tag is none -/
def frm (tag : List UInt8) (ps : List (List UInt8)) : List UInt8 := if okTag tag then frm0 tag ps else []
/-- the hash -/
def hsh (tag : List UInt8) (ps : List (List UInt8)) : List UInt8 := if okTag tag then sha (frm0 tag ps) else []
theorem frm_ok {tag : List UInt8} (h : okTag tag) (ps : List (List UInt8)) : frm tag ps = frm0 tag ps := if_pos h
theorem frm_no {tag : List UInt8} (h : ¬ okTag tag) (ps : List (List UInt8)) : frm tag ps = [] := if_neg h
theorem hsh_ok {tag : List UInt8} (h : okTag tag) (ps : List (List UInt8)) : hsh tag ps = sha (frm0 tag ps) := if_pos h
theorem hsh_no {tag : List UInt8} (h : ¬ okTag tag) (ps : List (List UInt8)) : hsh tag ps = [] := if_neg h
theorem hsh_len {tag : List UInt8} (h : okTag tag) (ps : List (List UInt8)) : (hsh tag ps).length = 32 := by rw [hsh_ok h, sha_len]
/-- the last k of a number's eight bytes -/
def b8l (n k : Nat) : List UInt8 := (b8 n).drop (8 - k)
theorem b8l_all (n : Nat) : b8l n 8 = b8 n := rfl
theorem b8l_zero (n : Nat) : b8l n 0 = [] := rfl
theorem b8l_succ (n k : Nat) (hk : k < 8) : b8l n (k + 1) = UInt8.ofNat (n / 256 ^ k % 256) :: b8l n k := by
  have e : ∀ x : Nat, UInt8.ofNat (x % 256) = x.toUInt8 := fun x => by
    apply UInt8.toNat_inj.1
    simp
  rw [e]
  match k, hk with
  | 0, _ => simp [b8l, b8]
  | 1, _ => simp [b8l, b8]
  | 2, _ => simp [b8l, b8]
  | 3, _ => simp [b8l, b8]
  | 4, _ => simp [b8l, b8]
  | 5, _ => simp [b8l, b8]
  | 6, _ => simp [b8l, b8]
  | 7, _ => simp [b8l, b8]
end Go.Proofs.Ytcfohdkdppiekaa
