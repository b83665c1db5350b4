/- A text to the base 16: plain Lean. -/
namespace Go.Proofs.Ytcfohdkdppiekaa
def hexs : List UInt8 := [48, 49, 50, 51, 52, 53, 54, 55, 56, 57, 97, 98, 99, 100, 101, 102]
def hex2 (c : UInt8) : List UInt8 := [hexs.getD (c.toNat / 16) 0, hexs.getD (c.toNat % 16) 0]
def hexb (l : List UInt8) : List UInt8 := l.flatMap hex2
theorem hexb_len (l : List UInt8) : (hexb l).length = 2 * l.length := by
  induction l with
  | nil => rfl
  | cons c l ih =>
    have : hexb (c :: l) = hex2 c ++ hexb l := by simp [hexb]
    rw [this, List.length_append, ih]
    simp [hex2]; omega
theorem hexb_take (l : List UInt8) (k : Nat) (hk : k < l.length) : hexb (l.take (k + 1)) = hexb (l.take k) ++ hex2 (l.getD k 0) := by
  have e : l.getD k 0 = l[k] := by rw [List.getD_eq_getElem?_getD, List.getElem?_eq_getElem hk]; rfl
  rw [List.take_succ_eq_append_getElem hk, e]
  unfold hexb
  rw [List.flatMap_append, List.flatMap_singleton]
end Go.Proofs.Ytcfohdkdppiekaa
