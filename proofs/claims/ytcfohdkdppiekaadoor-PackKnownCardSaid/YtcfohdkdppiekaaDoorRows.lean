/-
  NARROWER THAN 'FOR EVERY INPUT', by the rows' own cells (each row's printed sentence says how): PackLays: laid · PackNums: laid · PackApart: laid · PackRises: laid · PackKnown: laid.
  DERIVED. THE GIVEN ROWS OF THIS SEAT. 5 by the template 'for every input the law returns true; each argument reads behind the call as it read before'; 0 by the template 'total and deterministic' (their statements: YtcfohdkdppiekaaDoorTotals.lean).
  GIVEN WITH THE SEED: the statements are not yours to turn. If you find one false, say at which input.
  Laid BY PROGRAM, IN A SANDBOX (cutbox-rows.mjs): the forced cells as the released guide's own fill.sh prints them over the translation 879c8861ea8c64c4… (all of the seat's roots in one cut). By AI agents, Wed Nov 11 2026. No macro, syntax, notation, axiom, sorry.
-/
import Derived.Test.YtcfohdkdppiekaaDoorChecked
import GoSem.Claim
import GoSem.ClaimJoined
import GoSem.ClaimMapViews
import Derived.JoinedTies
import Derived.KernelRfl
namespace Go.Proofs.YtcfohdkdppiekaaDoor
/- THE CELL 'sum', in the pinned program and in every row, IS THE sha256 OF THE DUMP (.gsa) THAT YtcfohdkdppiekaaDoorProg.lean LOADS. Nothing in Lean hashes anything: it is a label: what it is worth is what the hold of that sum in a sandbox is worth. -/
noncomputable def Tryd.pinned : Pinned := { name := "ytcfohdkdppiekaadoor", sum := "879c8861ea8c64c41db82eb7b90919b12354e32ff51a6be0cf0e9e48a01eff65", checked := Tryd.checked }
namespace Rows
def none {H : Type} : Left H := { results := [], args := [] }

/- WHAT THE LISTED PACKAGE-LEVEL VARIABLES READ AS WHEN THE CALL BEGINS. Each datum BY PROGRAM (the guide's laid-datum.mjs) off the statement by which the dump's own 'gosem.cut.vars' lays the variable. In a bare row this is a premise. The card (YtcfohdkdppiekaaDoorCards.lean) ties it to the program's text. -/
def laid_sextant_pack_rows {H : Type} : DataW H := .agg [.slice [.agg [.lit (.int .u64 128), .lit (.int .u8 0), .lit (.int .i64 0)], .agg [.lit (.int .u64 256), .lit (.int .u8 204), .lit (.int .i64 1)], .agg [.lit (.int .u64 65536), .lit (.int .u8 205), .lit (.int .i64 2)], .agg [.lit (.int .u64 4294967296), .lit (.int .u8 206), .lit (.int .i64 4)], .agg [.lit (.int .u64 0), .lit (.int .u8 207), .lit (.int .i64 8)]] [], .slice [.agg [.lit (.int .u64 256), .lit (.int .u8 196), .lit (.int .i64 1)], .agg [.lit (.int .u64 65536), .lit (.int .u8 197), .lit (.int .i64 2)]] [], .slice [.agg [.lit (.int .u64 32), .lit (.int .u8 160), .lit (.int .i64 0)], .agg [.lit (.int .u64 256), .lit (.int .u8 217), .lit (.int .i64 1)], .agg [.lit (.int .u64 65536), .lit (.int .u8 218), .lit (.int .i64 2)]] [], .slice [.agg [.lit (.int .u64 16), .lit (.int .u8 144), .lit (.int .i64 0)], .agg [.lit (.int .u64 65536), .lit (.int .u8 220), .lit (.int .i64 2)]] [], .slice [.agg [.lit (.int .u64 16), .lit (.int .u8 128), .lit (.int .i64 0)], .agg [.lit (.int .u64 65536), .lit (.int .u8 222), .lit (.int .i64 2)]] []]

/-- 'sextantlaw05.PackLays': WHATEVER THE INPUT: true; the input reads as it did. -/
def packLaysSpec : ChangeSpec := { name := "packLays", fn := fun _ => fun
  | [d] => { results := [.lit (.bool true)], args := [d] }
  | _ => none }
def packLaysRow : OpenClaim := { program := "ytcfohdkdppiekaadoor", sum := "879c8861ea8c64c41db82eb7b90919b12354e32ff51a6be0cf0e9e48a01eff65", func := "sextant/sextantlaw05.PackLays", spec := "packLays", inPlace := ["internal/abi.NoEscape", "internal/bytealg.MakeNoZero"], unfollowed := true, recurses := true, named := ["sextant/pack.rows"], apart := false, laid := [("sextant/pack.rows", laid_sextant_pack_rows)] }
def PackLaysSaid : Prop := packLaysRow.holds Tryd.pinned (OpenSpec.ofChange packLaysSpec)

/-- ITS FALSE NEIGHBOUR: 'it returns false'. Refute it at one input. -/
def packLaysWrong : ChangeSpec := { name := "packLays", fn := fun _ => fun
  | [d] => { results := [.lit (.bool false)], args := [d] }
  | _ => none }
def PackLaysWrongFalsely : Prop := packLaysRow.holds Tryd.pinned (OpenSpec.ofChange packLaysWrong)

/-- 'sextantlaw05.PackNums': WHATEVER THE INPUT: true; the input reads as it did. -/
def packNumsSpec : ChangeSpec := { name := "packNums", fn := fun _ => fun
  | [d] => { results := [.lit (.bool true)], args := [d] }
  | _ => none }
def packNumsRow : OpenClaim := { program := "ytcfohdkdppiekaadoor", sum := "879c8861ea8c64c41db82eb7b90919b12354e32ff51a6be0cf0e9e48a01eff65", func := "sextant/sextantlaw05.PackNums", spec := "packNums", inPlace := ["internal/abi.NoEscape", "internal/bytealg.MakeNoZero"], unfollowed := true, recurses := true, named := ["sextant/pack.rows"], apart := false, laid := [("sextant/pack.rows", laid_sextant_pack_rows)] }
def PackNumsSaid : Prop := packNumsRow.holds Tryd.pinned (OpenSpec.ofChange packNumsSpec)

/-- ITS FALSE NEIGHBOUR: 'it returns false'. Refute it at one input. -/
def packNumsWrong : ChangeSpec := { name := "packNums", fn := fun _ => fun
  | [d] => { results := [.lit (.bool false)], args := [d] }
  | _ => none }
def PackNumsWrongFalsely : Prop := packNumsRow.holds Tryd.pinned (OpenSpec.ofChange packNumsWrong)

/-- 'sextantlaw05.PackApart': WHATEVER THE INPUT: true; the input reads as it did. -/
def packApartSpec : ChangeSpec := { name := "packApart", fn := fun _ => fun
  | [d1, d2] => { results := [.lit (.bool true)], args := [d1, d2] }
  | _ => none }
def packApartRow : OpenClaim := { program := "ytcfohdkdppiekaadoor", sum := "879c8861ea8c64c41db82eb7b90919b12354e32ff51a6be0cf0e9e48a01eff65", func := "sextant/sextantlaw05.PackApart", spec := "packApart", inPlace := ["internal/abi.NoEscape", "internal/bytealg.MakeNoZero"], unfollowed := true, recurses := true, named := ["sextant/pack.rows"], apart := false, laid := [("sextant/pack.rows", laid_sextant_pack_rows)] }
def PackApartSaid : Prop := packApartRow.holds Tryd.pinned (OpenSpec.ofChange packApartSpec)

/-- ITS FALSE NEIGHBOUR: 'it returns false'. Refute it at one input. -/
def packApartWrong : ChangeSpec := { name := "packApart", fn := fun _ => fun
  | [d1, d2] => { results := [.lit (.bool false)], args := [d1, d2] }
  | _ => none }
def PackApartWrongFalsely : Prop := packApartRow.holds Tryd.pinned (OpenSpec.ofChange packApartWrong)

/-- 'sextantlaw05.PackRises': WHATEVER THE INPUT: true; the input reads as it did. -/
def packRisesSpec : ChangeSpec := { name := "packRises", fn := fun _ => fun
  | [d1, d2] => { results := [.lit (.bool true)], args := [d1, d2] }
  | _ => none }
def packRisesRow : OpenClaim := { program := "ytcfohdkdppiekaadoor", sum := "879c8861ea8c64c41db82eb7b90919b12354e32ff51a6be0cf0e9e48a01eff65", func := "sextant/sextantlaw05.PackRises", spec := "packRises", inPlace := ["internal/abi.NoEscape", "internal/bytealg.MakeNoZero"], unfollowed := true, recurses := true, named := ["sextant/pack.rows"], apart := false, laid := [("sextant/pack.rows", laid_sextant_pack_rows)] }
def PackRisesSaid : Prop := packRisesRow.holds Tryd.pinned (OpenSpec.ofChange packRisesSpec)

/-- ITS FALSE NEIGHBOUR: 'it returns false'. Refute it at one input. -/
def packRisesWrong : ChangeSpec := { name := "packRises", fn := fun _ => fun
  | [d1, d2] => { results := [.lit (.bool false)], args := [d1, d2] }
  | _ => none }
def PackRisesWrongFalsely : Prop := packRisesRow.holds Tryd.pinned (OpenSpec.ofChange packRisesWrong)

/-- 'sextantlaw05.PackKnown': WHATEVER THE INPUT: true; the input reads as it did. -/
def packKnownSpec : ChangeSpec := { name := "packKnown", fn := fun _ => fun
  | [] => { results := [.lit (.bool true)], args := [] }
  | _ => none }
def packKnownRow : OpenClaim := { program := "ytcfohdkdppiekaadoor", sum := "879c8861ea8c64c41db82eb7b90919b12354e32ff51a6be0cf0e9e48a01eff65", func := "sextant/sextantlaw05.PackKnown", spec := "packKnown", inPlace := ["internal/abi.NoEscape", "internal/bytealg.MakeNoZero"], unfollowed := true, recurses := true, named := ["sextant/pack.rows"], apart := false, laid := [("sextant/pack.rows", laid_sextant_pack_rows)] }
def PackKnownSaid : Prop := packKnownRow.holds Tryd.pinned (OpenSpec.ofChange packKnownSpec)

/-- ITS FALSE NEIGHBOUR: 'it returns false'. Refute it at one input. -/
def packKnownWrong : ChangeSpec := { name := "packKnown", fn := fun _ => fun
  | [] => { results := [.lit (.bool false)], args := [] }
  | _ => none }
def PackKnownWrongFalsely : Prop := packKnownRow.holds Tryd.pinned (OpenSpec.ofChange packKnownWrong)

/- THE SECOND FORM. 'bulk': how many values and letters a reading holds, each counted each time it is reached (what is shared counts as often as it is met; a slice's spare places count too). A statement '..UptoSaid' is the law's where the arguments, and the package variables that the reading takes, are together of bulk at most 1048576: NARROWER than '..Said'. Prove '..Said' where nothing that the law and all that it calls make is longer than what came in: it says more and counts as full. Else prove '..UptoSaid'. A law counts once. -/
mutual
def uptoBulk {H : Type} : DataW H → Nat
  | .lit (.string bytes) => bytes.length + 1
  | .lit _ => 1
  | .nil => 1
  | .ptr d => uptoBulk d + 1
  | .slice elems spare => uptoBulkAll elems + uptoBulkAll spare + 1
  | .agg parts => uptoBulkAll parts + 1
  | .iface _ d => uptoBulk d + 1
  | .map entries => uptoBulkEntries entries + 1
  | .held _ => 1
def uptoBulkAll {H : Type} : List (DataW H) → Nat
  | [] => 0
  | d :: r => uptoBulk d + uptoBulkAll r
def uptoBulkEntries {H : Type} : List (Lit × DataW H) → Nat
  | [] => 0
  | x :: r => uptoBulkEntry x + uptoBulkEntries r
def uptoBulkEntry {H : Type} : Lit × DataW H → Nat
  | (.string bytes, d) => bytes.length + uptoBulk d + 1
  | (_, d) => uptoBulk d + 1
 end
def uptoSmall : (H : Type) → List (DataW H) → Bool := fun _ ds => decide (uptoBulkAll ds ≤ 1048576)
def OpenSpec.upto (s : _root_.Go.ChangeSpec) : _root_.Go.OpenSpec := { _root_.Go.OpenSpec.ofChange s with cond := some uptoSmall }

/-- 'sextantlaw05.PackLays', WHERE WHAT IT READS IS OF BULK AT MOST 1048576: true; the input reads as it did. -/
def packLaysUptoRow : OpenClaim := { program := "ytcfohdkdppiekaadoor", sum := "879c8861ea8c64c41db82eb7b90919b12354e32ff51a6be0cf0e9e48a01eff65", func := "sextant/sextantlaw05.PackLays", spec := "packLays", inPlace := ["internal/abi.NoEscape", "internal/bytealg.MakeNoZero"], unfollowed := true, recurses := true, named := ["sextant/pack.rows"], apart := false, laid := [("sextant/pack.rows", laid_sextant_pack_rows)], narrowed := true }
def PackLaysUptoSaid : Prop := packLaysUptoRow.holds Tryd.pinned (OpenSpec.upto packLaysSpec)

/-- 'sextantlaw05.PackNums', WHERE WHAT IT READS IS OF BULK AT MOST 1048576: true; the input reads as it did. -/
def packNumsUptoRow : OpenClaim := { program := "ytcfohdkdppiekaadoor", sum := "879c8861ea8c64c41db82eb7b90919b12354e32ff51a6be0cf0e9e48a01eff65", func := "sextant/sextantlaw05.PackNums", spec := "packNums", inPlace := ["internal/abi.NoEscape", "internal/bytealg.MakeNoZero"], unfollowed := true, recurses := true, named := ["sextant/pack.rows"], apart := false, laid := [("sextant/pack.rows", laid_sextant_pack_rows)], narrowed := true }
def PackNumsUptoSaid : Prop := packNumsUptoRow.holds Tryd.pinned (OpenSpec.upto packNumsSpec)

/-- 'sextantlaw05.PackApart', WHERE WHAT IT READS IS OF BULK AT MOST 1048576: true; the input reads as it did. -/
def packApartUptoRow : OpenClaim := { program := "ytcfohdkdppiekaadoor", sum := "879c8861ea8c64c41db82eb7b90919b12354e32ff51a6be0cf0e9e48a01eff65", func := "sextant/sextantlaw05.PackApart", spec := "packApart", inPlace := ["internal/abi.NoEscape", "internal/bytealg.MakeNoZero"], unfollowed := true, recurses := true, named := ["sextant/pack.rows"], apart := false, laid := [("sextant/pack.rows", laid_sextant_pack_rows)], narrowed := true }
def PackApartUptoSaid : Prop := packApartUptoRow.holds Tryd.pinned (OpenSpec.upto packApartSpec)

/-- 'sextantlaw05.PackRises', WHERE WHAT IT READS IS OF BULK AT MOST 1048576: true; the input reads as it did. -/
def packRisesUptoRow : OpenClaim := { program := "ytcfohdkdppiekaadoor", sum := "879c8861ea8c64c41db82eb7b90919b12354e32ff51a6be0cf0e9e48a01eff65", func := "sextant/sextantlaw05.PackRises", spec := "packRises", inPlace := ["internal/abi.NoEscape", "internal/bytealg.MakeNoZero"], unfollowed := true, recurses := true, named := ["sextant/pack.rows"], apart := false, laid := [("sextant/pack.rows", laid_sextant_pack_rows)], narrowed := true }
def PackRisesUptoSaid : Prop := packRisesUptoRow.holds Tryd.pinned (OpenSpec.upto packRisesSpec)

/-- 'sextantlaw05.PackKnown', WHERE WHAT IT READS IS OF BULK AT MOST 1048576: true; the input reads as it did. -/
def packKnownUptoRow : OpenClaim := { program := "ytcfohdkdppiekaadoor", sum := "879c8861ea8c64c41db82eb7b90919b12354e32ff51a6be0cf0e9e48a01eff65", func := "sextant/sextantlaw05.PackKnown", spec := "packKnown", inPlace := ["internal/abi.NoEscape", "internal/bytealg.MakeNoZero"], unfollowed := true, recurses := true, named := ["sextant/pack.rows"], apart := false, laid := [("sextant/pack.rows", laid_sextant_pack_rows)], narrowed := true }
def PackKnownUptoSaid : Prop := packKnownUptoRow.holds Tryd.pinned (OpenSpec.upto packKnownSpec)

end Rows
end Go.Proofs.YtcfohdkdppiekaaDoor
