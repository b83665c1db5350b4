/- Arguments opened: texts, numbers, lists of texts. -/
import Derived.Test.YtcfohdkdppiekaaKitP
import Derived.ProofKit
import Derived.OpenShut
import Derived.ShutString
import Derived.SliceStrings
namespace Go.Proofs.Ytcfohdkdppiekaa
open Go Go.RowKit Go.ChangeShapes Go.WideShapes Go.ChangeAt
open Go.ChangeMaps (open_string shut_string)
section
variable {H : Type} {enc : TypeId × Value → H} {P : Program} {w : World} {base B : Nat} {r : Reach} {spare : Nat → Bool} {held : Bool} {t : TypeId} {v : Value} {d : DataW H} {ps : List MemPlace}
theorem bytes_list (s : ByteArray) (h : s.size ≤ maxLen) : ∃ l : List UInt8, s = ⟨l.toArray⟩ ∧ l.length ≤ 9223372036854775807 := by
  refine ⟨s.data.toList, by cases s; simp, ?_⟩
  have h2 : maxLen = 9223372036854775807 := by decide
  have h3 : s.data.toList.length = s.size := by cases s; simp [ByteArray.size]
  omega
theorem open_str (ht : P.underlying t = some .string) (hv : Value.okWide P w r base t v) (h : DataW.Trod enc P w B spare held t v d ps) : ∃ l : List UInt8, v = .string ⟨l.toArray⟩ ∧ l.length ≤ 9223372036854775807 := by
  obtain ⟨s, rfl, _, _, hs⟩ := open_string ht hv h
  obtain ⟨l, rfl, hl⟩ := bytes_list s hs
  exact ⟨l, rfl, hl⟩
theorem open_u8 (ht : P.underlying t = some (.int .u8)) (hv : Value.okWide P w r base t v) (h : DataW.Trod enc P w B spare held t v d ps) : ∃ n : Int, v = .int .u8 n ∧ (0 ≤ n ∧ n ≤ 255) := by
  obtain ⟨n, rfl, _, _, wf⟩ := open_int ht hv h
  exact ⟨n, rfl, bounds_u8 wf⟩
theorem open_u64 (ht : P.underlying t = some (.int .u64)) (hv : Value.okWide P w r base t v) (h : DataW.Trod enc P w B spare held t v d ps) : ∃ n : Int, v = .int .u64 n ∧ (0 ≤ n ∧ n ≤ 18446744073709551615) := by
  obtain ⟨n, rfl, _, _, wf⟩ := open_int ht hv h
  exact ⟨n, rfl, bounds_u64 wf⟩
theorem open_i64 (ht : P.underlying t = some (.int .i64)) (hv : Value.okWide P w r base t v) (h : DataW.Trod enc P w B spare held t v d ps) : ∃ n : Int, v = .int .i64 n ∧ (-9223372036854775808 ≤ n ∧ n ≤ 9223372036854775807) := by
  obtain ⟨n, rfl, _, _, wf⟩ := open_int ht hv h
  exact ⟨n, rfl, bounds_i64 wf⟩
end
end Go.Proofs.Ytcfohdkdppiekaa
