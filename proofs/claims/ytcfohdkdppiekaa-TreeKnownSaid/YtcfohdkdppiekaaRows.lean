/-
  No cell of these rows narrows 'for every input' (looked for: loops, veiled, ifaces, maps, wideKeys, modest, calm, conditions, laid).
  DERIVED. THE GIVEN ROWS OF THIS SEAT. 27 by the template 'for every input the law returns true; each argument reads behind the call as it read before'; 0 by the template 'total and deterministic' (their statements: YtcfohdkdppiekaaTotals.lean).
  GIVEN WITH THE SEED: the statements are not yours to turn. If you find one false, say at which input.
  Laid BY PROGRAM, IN A SANDBOX (cutbox-rows.mjs): the forced cells as the released guide's own fill.sh prints them over the translation 7fc38447418923df… (all of the seat's roots in one cut). By AI agents, Wed Nov 11 2026. No macro, syntax, notation, axiom, sorry.
-/
import Derived.Test.YtcfohdkdppiekaaChecked
import GoSem.Claim
import GoSem.ClaimJoined
import GoSem.ClaimMapViews
import Derived.JoinedTies
import Derived.KernelRfl
namespace Go.Proofs.Ytcfohdkdppiekaa
/- THE CELL 'sum', in the pinned program and in every row, IS THE sha256 OF THE DUMP (.gsa) THAT YtcfohdkdppiekaaProg.lean LOADS. Nothing in Lean hashes anything: it is a label: what it is worth is what the hold of that sum in a sandbox is worth. -/
noncomputable def Try.pinned : Pinned := { name := "ytcfohdkdppiekaa", sum := "7fc38447418923dfcce762054f5232113a8077bbc2ef409ef15101c99529a8c8", checked := Try.checked }
namespace Rows
def none {H : Type} : Left H := { results := [], args := [] }

/-- 'sextantlaw01.ShaSums': WHATEVER THE INPUT: true; the input reads as it did. -/
def shaSumsSpec : ChangeSpec := { name := "shaSums", fn := fun _ => fun
  | [d1, d2] => { results := [.lit (.bool true)], args := [d1, d2] }
  | _ => none }
def shaSumsRow : OpenClaim := { program := "ytcfohdkdppiekaa", sum := "7fc38447418923dfcce762054f5232113a8077bbc2ef409ef15101c99529a8c8", func := "sextant/sextantlaw01.ShaSums", spec := "shaSums", unfollowed := true, recurses := true, apart := false }
def ShaSumsSaid : Prop := shaSumsRow.holds Try.pinned (OpenSpec.ofChange shaSumsSpec)

/-- ITS FALSE NEIGHBOUR: 'it returns false'. Refute it at one input. -/
def shaSumsWrong : ChangeSpec := { name := "shaSums", fn := fun _ => fun
  | [d1, d2] => { results := [.lit (.bool false)], args := [d1, d2] }
  | _ => none }
def ShaSumsWrongFalsely : Prop := shaSumsRow.holds Try.pinned (OpenSpec.ofChange shaSumsWrong)

/-- 'sextantlaw01.ShaSteps': WHATEVER THE INPUT: true; the input reads as it did. -/
def shaStepsSpec : ChangeSpec := { name := "shaSteps", fn := fun _ => fun
  | [d] => { results := [.lit (.bool true)], args := [d] }
  | _ => none }
def shaStepsRow : OpenClaim := { program := "ytcfohdkdppiekaa", sum := "7fc38447418923dfcce762054f5232113a8077bbc2ef409ef15101c99529a8c8", func := "sextant/sextantlaw01.ShaSteps", spec := "shaSteps", unfollowed := true, recurses := true, apart := false }
def ShaStepsSaid : Prop := shaStepsRow.holds Try.pinned (OpenSpec.ofChange shaStepsSpec)

/-- ITS FALSE NEIGHBOUR: 'it returns false'. Refute it at one input. -/
def shaStepsWrong : ChangeSpec := { name := "shaSteps", fn := fun _ => fun
  | [d] => { results := [.lit (.bool false)], args := [d] }
  | _ => none }
def ShaStepsWrongFalsely : Prop := shaStepsRow.holds Try.pinned (OpenSpec.ofChange shaStepsWrong)

/-- 'sextantlaw01.ShaBytes': WHATEVER THE INPUT: true; the input reads as it did. -/
def shaBytesSpec : ChangeSpec := { name := "shaBytes", fn := fun _ => fun
  | [d] => { results := [.lit (.bool true)], args := [d] }
  | _ => none }
def shaBytesRow : OpenClaim := { program := "ytcfohdkdppiekaa", sum := "7fc38447418923dfcce762054f5232113a8077bbc2ef409ef15101c99529a8c8", func := "sextant/sextantlaw01.ShaBytes", spec := "shaBytes", unfollowed := true, recurses := true, apart := false }
def ShaBytesSaid : Prop := shaBytesRow.holds Try.pinned (OpenSpec.ofChange shaBytesSpec)

/-- ITS FALSE NEIGHBOUR: 'it returns false'. Refute it at one input. -/
def shaBytesWrong : ChangeSpec := { name := "shaBytes", fn := fun _ => fun
  | [d] => { results := [.lit (.bool false)], args := [d] }
  | _ => none }
def ShaBytesWrongFalsely : Prop := shaBytesRow.holds Try.pinned (OpenSpec.ofChange shaBytesWrong)

/-- 'sextantlaw01.ShaParts': WHATEVER THE INPUT: true; the input reads as it did. -/
def shaPartsSpec : ChangeSpec := { name := "shaParts", fn := fun _ => fun
  | [d1, d2] => { results := [.lit (.bool true)], args := [d1, d2] }
  | _ => none }
def shaPartsRow : OpenClaim := { program := "ytcfohdkdppiekaa", sum := "7fc38447418923dfcce762054f5232113a8077bbc2ef409ef15101c99529a8c8", func := "sextant/sextantlaw01.ShaParts", spec := "shaParts", unfollowed := true, recurses := true, apart := false }
def ShaPartsSaid : Prop := shaPartsRow.holds Try.pinned (OpenSpec.ofChange shaPartsSpec)

/-- ITS FALSE NEIGHBOUR: 'it returns false'. Refute it at one input. -/
def shaPartsWrong : ChangeSpec := { name := "shaParts", fn := fun _ => fun
  | [d1, d2] => { results := [.lit (.bool false)], args := [d1, d2] }
  | _ => none }
def ShaPartsWrongFalsely : Prop := shaPartsRow.holds Try.pinned (OpenSpec.ofChange shaPartsWrong)

/-- 'sextantlaw02.DomHashes': WHATEVER THE INPUT: true; the input reads as it did. -/
def domHashesSpec : ChangeSpec := { name := "domHashes", fn := fun _ => fun
  | [d1, d2, d3] => { results := [.lit (.bool true)], args := [d1, d2, d3] }
  | _ => none }
def domHashesRow : OpenClaim := { program := "ytcfohdkdppiekaa", sum := "7fc38447418923dfcce762054f5232113a8077bbc2ef409ef15101c99529a8c8", func := "sextant/sextantlaw02.DomHashes", spec := "domHashes", inPlace := ["internal/abi.NoEscape"], unfollowed := true, recurses := true, apart := false }
def DomHashesSaid : Prop := domHashesRow.holds Try.pinned (OpenSpec.ofChange domHashesSpec)

/-- ITS FALSE NEIGHBOUR: 'it returns false'. Refute it at one input. -/
def domHashesWrong : ChangeSpec := { name := "domHashes", fn := fun _ => fun
  | [d1, d2, d3] => { results := [.lit (.bool false)], args := [d1, d2, d3] }
  | _ => none }
def DomHashesWrongFalsely : Prop := domHashesRow.holds Try.pinned (OpenSpec.ofChange domHashesWrong)

/-- 'sextantlaw02.DomApart': WHATEVER THE INPUT: true; the input reads as it did. -/
def domApartSpec : ChangeSpec := { name := "domApart", fn := fun _ => fun
  | [d1, d2, d3] => { results := [.lit (.bool true)], args := [d1, d2, d3] }
  | _ => none }
def domApartRow : OpenClaim := { program := "ytcfohdkdppiekaa", sum := "7fc38447418923dfcce762054f5232113a8077bbc2ef409ef15101c99529a8c8", func := "sextant/sextantlaw02.DomApart", spec := "domApart", inPlace := ["internal/abi.NoEscape"], unfollowed := true, recurses := true, apart := false }
def DomApartSaid : Prop := domApartRow.holds Try.pinned (OpenSpec.ofChange domApartSpec)

/-- ITS FALSE NEIGHBOUR: 'it returns false'. Refute it at one input. -/
def domApartWrong : ChangeSpec := { name := "domApart", fn := fun _ => fun
  | [d1, d2, d3] => { results := [.lit (.bool false)], args := [d1, d2, d3] }
  | _ => none }
def DomApartWrongFalsely : Prop := domApartRow.holds Try.pinned (OpenSpec.ofChange domApartWrong)

/-- 'sextantlaw02.DomNumbers': WHATEVER THE INPUT: true; the input reads as it did. -/
def domNumbersSpec : ChangeSpec := { name := "domNumbers", fn := fun _ => fun
  | [d1, d2] => { results := [.lit (.bool true)], args := [d1, d2] }
  | _ => none }
def domNumbersRow : OpenClaim := { program := "ytcfohdkdppiekaa", sum := "7fc38447418923dfcce762054f5232113a8077bbc2ef409ef15101c99529a8c8", func := "sextant/sextantlaw02.DomNumbers", spec := "domNumbers", inPlace := ["internal/abi.NoEscape"], unfollowed := true, recurses := true, apart := false }
def DomNumbersSaid : Prop := domNumbersRow.holds Try.pinned (OpenSpec.ofChange domNumbersSpec)

/-- ITS FALSE NEIGHBOUR: 'it returns false'. Refute it at one input. -/
def domNumbersWrong : ChangeSpec := { name := "domNumbers", fn := fun _ => fun
  | [d1, d2] => { results := [.lit (.bool false)], args := [d1, d2] }
  | _ => none }
def DomNumbersWrongFalsely : Prop := domNumbersRow.holds Try.pinned (OpenSpec.ofChange domNumbersWrong)

/-- 'sextantlaw02.DomKnown': WHATEVER THE INPUT: true; the input reads as it did. -/
def domKnownSpec : ChangeSpec := { name := "domKnown", fn := fun _ => fun
  | [] => { results := [.lit (.bool true)], args := [] }
  | _ => none }
def domKnownRow : OpenClaim := { program := "ytcfohdkdppiekaa", sum := "7fc38447418923dfcce762054f5232113a8077bbc2ef409ef15101c99529a8c8", func := "sextant/sextantlaw02.DomKnown", spec := "domKnown", inPlace := ["internal/abi.NoEscape"], unfollowed := true, recurses := true, apart := false }
def DomKnownSaid : Prop := domKnownRow.holds Try.pinned (OpenSpec.ofChange domKnownSpec)

/-- ITS FALSE NEIGHBOUR: 'it returns false'. Refute it at one input. -/
def domKnownWrong : ChangeSpec := { name := "domKnown", fn := fun _ => fun
  | [] => { results := [.lit (.bool false)], args := [] }
  | _ => none }
def DomKnownWrongFalsely : Prop := domKnownRow.holds Try.pinned (OpenSpec.ofChange domKnownWrong)

/-- 'sextantlaw24.WindowPlays': WHATEVER THE INPUT: true; the input reads as it did. -/
def windowPlaysSpec : ChangeSpec := { name := "windowPlays", fn := fun _ => fun
  | [d1, d2] => { results := [.lit (.bool true)], args := [d1, d2] }
  | _ => none }
def windowPlaysRow : OpenClaim := { program := "ytcfohdkdppiekaa", sum := "7fc38447418923dfcce762054f5232113a8077bbc2ef409ef15101c99529a8c8", func := "sextant/sextantlaw24.WindowPlays", spec := "windowPlays", inPlace := ["internal/abi.NoEscape"], unfollowed := true, recurses := true, apart := false }
def WindowPlaysSaid : Prop := windowPlaysRow.holds Try.pinned (OpenSpec.ofChange windowPlaysSpec)

/-- ITS FALSE NEIGHBOUR: 'it returns false'. Refute it at one input. -/
def windowPlaysWrong : ChangeSpec := { name := "windowPlays", fn := fun _ => fun
  | [d1, d2] => { results := [.lit (.bool false)], args := [d1, d2] }
  | _ => none }
def WindowPlaysWrongFalsely : Prop := windowPlaysRow.holds Try.pinned (OpenSpec.ofChange windowPlaysWrong)

/-- 'sextantlaw24.WindowLast': WHATEVER THE INPUT: true; the input reads as it did. -/
def windowLastSpec : ChangeSpec := { name := "windowLast", fn := fun _ => fun
  | [d1, d2, d3] => { results := [.lit (.bool true)], args := [d1, d2, d3] }
  | _ => none }
def windowLastRow : OpenClaim := { program := "ytcfohdkdppiekaa", sum := "7fc38447418923dfcce762054f5232113a8077bbc2ef409ef15101c99529a8c8", func := "sextant/sextantlaw24.WindowLast", spec := "windowLast", inPlace := ["internal/abi.NoEscape"], unfollowed := true, recurses := true, apart := false }
def WindowLastSaid : Prop := windowLastRow.holds Try.pinned (OpenSpec.ofChange windowLastSpec)

/-- ITS FALSE NEIGHBOUR: 'it returns false'. Refute it at one input. -/
def windowLastWrong : ChangeSpec := { name := "windowLast", fn := fun _ => fun
  | [d1, d2, d3] => { results := [.lit (.bool false)], args := [d1, d2, d3] }
  | _ => none }
def WindowLastWrongFalsely : Prop := windowLastRow.holds Try.pinned (OpenSpec.ofChange windowLastWrong)

/-- 'sextantlaw24.WindowAlike': WHATEVER THE INPUT: true; the input reads as it did. -/
def windowAlikeSpec : ChangeSpec := { name := "windowAlike", fn := fun _ => fun
  | [d1, d2] => { results := [.lit (.bool true)], args := [d1, d2] }
  | _ => none }
def windowAlikeRow : OpenClaim := { program := "ytcfohdkdppiekaa", sum := "7fc38447418923dfcce762054f5232113a8077bbc2ef409ef15101c99529a8c8", func := "sextant/sextantlaw24.WindowAlike", spec := "windowAlike", inPlace := ["internal/abi.NoEscape"], unfollowed := true, recurses := true, apart := false }
def WindowAlikeSaid : Prop := windowAlikeRow.holds Try.pinned (OpenSpec.ofChange windowAlikeSpec)

/-- ITS FALSE NEIGHBOUR: 'it returns false'. Refute it at one input. -/
def windowAlikeWrong : ChangeSpec := { name := "windowAlike", fn := fun _ => fun
  | [d1, d2] => { results := [.lit (.bool false)], args := [d1, d2] }
  | _ => none }
def WindowAlikeWrongFalsely : Prop := windowAlikeRow.holds Try.pinned (OpenSpec.ofChange windowAlikeWrong)

/-- 'sextantlaw24.WindowKnown': WHATEVER THE INPUT: true; the input reads as it did. -/
def windowKnownSpec : ChangeSpec := { name := "windowKnown", fn := fun _ => fun
  | [] => { results := [.lit (.bool true)], args := [] }
  | _ => none }
def windowKnownRow : OpenClaim := { program := "ytcfohdkdppiekaa", sum := "7fc38447418923dfcce762054f5232113a8077bbc2ef409ef15101c99529a8c8", func := "sextant/sextantlaw24.WindowKnown", spec := "windowKnown", inPlace := ["internal/abi.NoEscape"], unfollowed := true, recurses := true, apart := false }
def WindowKnownSaid : Prop := windowKnownRow.holds Try.pinned (OpenSpec.ofChange windowKnownSpec)

/-- ITS FALSE NEIGHBOUR: 'it returns false'. Refute it at one input. -/
def windowKnownWrong : ChangeSpec := { name := "windowKnown", fn := fun _ => fun
  | [] => { results := [.lit (.bool false)], args := [] }
  | _ => none }
def WindowKnownWrongFalsely : Prop := windowKnownRow.holds Try.pinned (OpenSpec.ofChange windowKnownWrong)

/-- 'sextantlaw03.StreamPieces': WHATEVER THE INPUT: true; the input reads as it did. -/
def streamPiecesSpec : ChangeSpec := { name := "streamPieces", fn := fun _ => fun
  | [d1, d2] => { results := [.lit (.bool true)], args := [d1, d2] }
  | _ => none }
def streamPiecesRow : OpenClaim := { program := "ytcfohdkdppiekaa", sum := "7fc38447418923dfcce762054f5232113a8077bbc2ef409ef15101c99529a8c8", func := "sextant/sextantlaw03.StreamPieces", spec := "streamPieces", inPlace := ["internal/abi.NoEscape"], unfollowed := true, recurses := true, apart := false }
def StreamPiecesSaid : Prop := streamPiecesRow.holds Try.pinned (OpenSpec.ofChange streamPiecesSpec)

/-- ITS FALSE NEIGHBOUR: 'it returns false'. Refute it at one input. -/
def streamPiecesWrong : ChangeSpec := { name := "streamPieces", fn := fun _ => fun
  | [d1, d2] => { results := [.lit (.bool false)], args := [d1, d2] }
  | _ => none }
def StreamPiecesWrongFalsely : Prop := streamPiecesRow.holds Try.pinned (OpenSpec.ofChange streamPiecesWrong)

/-- 'sextantlaw03.StreamKnown': WHATEVER THE INPUT: true; the input reads as it did. -/
def streamKnownSpec : ChangeSpec := { name := "streamKnown", fn := fun _ => fun
  | [] => { results := [.lit (.bool true)], args := [] }
  | _ => none }
def streamKnownRow : OpenClaim := { program := "ytcfohdkdppiekaa", sum := "7fc38447418923dfcce762054f5232113a8077bbc2ef409ef15101c99529a8c8", func := "sextant/sextantlaw03.StreamKnown", spec := "streamKnown", inPlace := ["internal/abi.NoEscape"], unfollowed := true, recurses := true, apart := false }
def StreamKnownSaid : Prop := streamKnownRow.holds Try.pinned (OpenSpec.ofChange streamKnownSpec)

/-- ITS FALSE NEIGHBOUR: 'it returns false'. Refute it at one input. -/
def streamKnownWrong : ChangeSpec := { name := "streamKnown", fn := fun _ => fun
  | [] => { results := [.lit (.bool false)], args := [] }
  | _ => none }
def StreamKnownWrongFalsely : Prop := streamKnownRow.holds Try.pinned (OpenSpec.ofChange streamKnownWrong)

/-- 'sextantlaw13.WotsSigns': WHATEVER THE INPUT: true; the input reads as it did. -/
def wotsSignsSpec : ChangeSpec := { name := "wotsSigns", fn := fun _ => fun
  | [d1, d2] => { results := [.lit (.bool true)], args := [d1, d2] }
  | _ => none }
def wotsSignsRow : OpenClaim := { program := "ytcfohdkdppiekaa", sum := "7fc38447418923dfcce762054f5232113a8077bbc2ef409ef15101c99529a8c8", func := "sextant/sextantlaw13.WotsSigns", spec := "wotsSigns", inPlace := ["internal/abi.NoEscape"], unfollowed := true, recurses := true, apart := false }
def WotsSignsSaid : Prop := wotsSignsRow.holds Try.pinned (OpenSpec.ofChange wotsSignsSpec)

/-- ITS FALSE NEIGHBOUR: 'it returns false'. Refute it at one input. -/
def wotsSignsWrong : ChangeSpec := { name := "wotsSigns", fn := fun _ => fun
  | [d1, d2] => { results := [.lit (.bool false)], args := [d1, d2] }
  | _ => none }
def WotsSignsWrongFalsely : Prop := wotsSignsRow.holds Try.pinned (OpenSpec.ofChange wotsSignsWrong)

/-- 'sextantlaw13.WotsRecovers': WHATEVER THE INPUT: true; the input reads as it did. -/
def wotsRecoversSpec : ChangeSpec := { name := "wotsRecovers", fn := fun _ => fun
  | [d1, d2] => { results := [.lit (.bool true)], args := [d1, d2] }
  | _ => none }
def wotsRecoversRow : OpenClaim := { program := "ytcfohdkdppiekaa", sum := "7fc38447418923dfcce762054f5232113a8077bbc2ef409ef15101c99529a8c8", func := "sextant/sextantlaw13.WotsRecovers", spec := "wotsRecovers", inPlace := ["internal/abi.NoEscape"], unfollowed := true, recurses := true, apart := false }
def WotsRecoversSaid : Prop := wotsRecoversRow.holds Try.pinned (OpenSpec.ofChange wotsRecoversSpec)

/-- ITS FALSE NEIGHBOUR: 'it returns false'. Refute it at one input. -/
def wotsRecoversWrong : ChangeSpec := { name := "wotsRecovers", fn := fun _ => fun
  | [d1, d2] => { results := [.lit (.bool false)], args := [d1, d2] }
  | _ => none }
def WotsRecoversWrongFalsely : Prop := wotsRecoversRow.holds Try.pinned (OpenSpec.ofChange wotsRecoversWrong)

/-- 'sextantlaw13.WotsBack': WHATEVER THE INPUT: true; the input reads as it did. -/
def wotsBackSpec : ChangeSpec := { name := "wotsBack", fn := fun _ => fun
  | [d1, d2] => { results := [.lit (.bool true)], args := [d1, d2] }
  | _ => none }
def wotsBackRow : OpenClaim := { program := "ytcfohdkdppiekaa", sum := "7fc38447418923dfcce762054f5232113a8077bbc2ef409ef15101c99529a8c8", func := "sextant/sextantlaw13.WotsBack", spec := "wotsBack", inPlace := ["internal/abi.NoEscape"], unfollowed := true, recurses := true, apart := false }
def WotsBackSaid : Prop := wotsBackRow.holds Try.pinned (OpenSpec.ofChange wotsBackSpec)

/-- ITS FALSE NEIGHBOUR: 'it returns false'. Refute it at one input. -/
def wotsBackWrong : ChangeSpec := { name := "wotsBack", fn := fun _ => fun
  | [d1, d2] => { results := [.lit (.bool false)], args := [d1, d2] }
  | _ => none }
def WotsBackWrongFalsely : Prop := wotsBackRow.holds Try.pinned (OpenSpec.ofChange wotsBackWrong)

/-- 'sextantlaw13.WotsOne': WHATEVER THE INPUT: true; the input reads as it did. -/
def wotsOneSpec : ChangeSpec := { name := "wotsOne", fn := fun _ => fun
  | [d1, d2, d3] => { results := [.lit (.bool true)], args := [d1, d2, d3] }
  | _ => none }
def wotsOneRow : OpenClaim := { program := "ytcfohdkdppiekaa", sum := "7fc38447418923dfcce762054f5232113a8077bbc2ef409ef15101c99529a8c8", func := "sextant/sextantlaw13.WotsOne", spec := "wotsOne", inPlace := ["internal/abi.NoEscape"], unfollowed := true, recurses := true, apart := false }
def WotsOneSaid : Prop := wotsOneRow.holds Try.pinned (OpenSpec.ofChange wotsOneSpec)

/-- ITS FALSE NEIGHBOUR: 'it returns false'. Refute it at one input. -/
def wotsOneWrong : ChangeSpec := { name := "wotsOne", fn := fun _ => fun
  | [d1, d2, d3] => { results := [.lit (.bool false)], args := [d1, d2, d3] }
  | _ => none }
def WotsOneWrongFalsely : Prop := wotsOneRow.holds Try.pinned (OpenSpec.ofChange wotsOneWrong)

/-- 'sextantlaw13.WotsKnown': WHATEVER THE INPUT: true; the input reads as it did. -/
def wotsKnownSpec : ChangeSpec := { name := "wotsKnown", fn := fun _ => fun
  | [] => { results := [.lit (.bool true)], args := [] }
  | _ => none }
def wotsKnownRow : OpenClaim := { program := "ytcfohdkdppiekaa", sum := "7fc38447418923dfcce762054f5232113a8077bbc2ef409ef15101c99529a8c8", func := "sextant/sextantlaw13.WotsKnown", spec := "wotsKnown", inPlace := ["internal/abi.NoEscape"], unfollowed := true, recurses := true, apart := false }
def WotsKnownSaid : Prop := wotsKnownRow.holds Try.pinned (OpenSpec.ofChange wotsKnownSpec)

/-- ITS FALSE NEIGHBOUR: 'it returns false'. Refute it at one input. -/
def wotsKnownWrong : ChangeSpec := { name := "wotsKnown", fn := fun _ => fun
  | [] => { results := [.lit (.bool false)], args := [] }
  | _ => none }
def WotsKnownWrongFalsely : Prop := wotsKnownRow.holds Try.pinned (OpenSpec.ofChange wotsKnownWrong)

/-- 'sextantlaw01.ShaKnown': WHATEVER THE INPUT: true; the input reads as it did. -/
def shaKnownSpec : ChangeSpec := { name := "shaKnown", fn := fun _ => fun
  | [] => { results := [.lit (.bool true)], args := [] }
  | _ => none }
def shaKnownRow : OpenClaim := { program := "ytcfohdkdppiekaa", sum := "7fc38447418923dfcce762054f5232113a8077bbc2ef409ef15101c99529a8c8", func := "sextant/sextantlaw01.ShaKnown", spec := "shaKnown", inPlace := ["internal/abi.NoEscape", "internal/bytealg.MakeNoZero"], unfollowed := true, recurses := true, apart := false }
def ShaKnownSaid : Prop := shaKnownRow.holds Try.pinned (OpenSpec.ofChange shaKnownSpec)

/-- ITS FALSE NEIGHBOUR: 'it returns false'. Refute it at one input. -/
def shaKnownWrong : ChangeSpec := { name := "shaKnown", fn := fun _ => fun
  | [] => { results := [.lit (.bool false)], args := [] }
  | _ => none }
def ShaKnownWrongFalsely : Prop := shaKnownRow.holds Try.pinned (OpenSpec.ofChange shaKnownWrong)

/-- 'sextantlaw09.TreeIs': WHATEVER THE INPUT: true; the input reads as it did. -/
def treeIsSpec : ChangeSpec := { name := "treeIs", fn := fun _ => fun
  | [d1, d2, d3] => { results := [.lit (.bool true)], args := [d1, d2, d3] }
  | _ => none }
def treeIsRow : OpenClaim := { program := "ytcfohdkdppiekaa", sum := "7fc38447418923dfcce762054f5232113a8077bbc2ef409ef15101c99529a8c8", func := "sextant/sextantlaw09.TreeIs", spec := "treeIs", inPlace := ["internal/abi.NoEscape"], unfollowed := true, recurses := true, apart := false }
def TreeIsSaid : Prop := treeIsRow.holds Try.pinned (OpenSpec.ofChange treeIsSpec)

/-- ITS FALSE NEIGHBOUR: 'it returns false'. Refute it at one input. -/
def treeIsWrong : ChangeSpec := { name := "treeIs", fn := fun _ => fun
  | [d1, d2, d3] => { results := [.lit (.bool false)], args := [d1, d2, d3] }
  | _ => none }
def TreeIsWrongFalsely : Prop := treeIsRow.holds Try.pinned (OpenSpec.ofChange treeIsWrong)

/-- 'sextantlaw09.TreeTurns': WHATEVER THE INPUT: true; the input reads as it did. -/
def treeTurnsSpec : ChangeSpec := { name := "treeTurns", fn := fun _ => fun
  | [d1, d2] => { results := [.lit (.bool true)], args := [d1, d2] }
  | _ => none }
def treeTurnsRow : OpenClaim := { program := "ytcfohdkdppiekaa", sum := "7fc38447418923dfcce762054f5232113a8077bbc2ef409ef15101c99529a8c8", func := "sextant/sextantlaw09.TreeTurns", spec := "treeTurns", inPlace := ["internal/abi.NoEscape"], unfollowed := true, recurses := true, apart := false }
def TreeTurnsSaid : Prop := treeTurnsRow.holds Try.pinned (OpenSpec.ofChange treeTurnsSpec)

/-- ITS FALSE NEIGHBOUR: 'it returns false'. Refute it at one input. -/
def treeTurnsWrong : ChangeSpec := { name := "treeTurns", fn := fun _ => fun
  | [d1, d2] => { results := [.lit (.bool false)], args := [d1, d2] }
  | _ => none }
def TreeTurnsWrongFalsely : Prop := treeTurnsRow.holds Try.pinned (OpenSpec.ofChange treeTurnsWrong)

/-- 'sextantlaw09.TreeNodes': WHATEVER THE INPUT: true; the input reads as it did. -/
def treeNodesSpec : ChangeSpec := { name := "treeNodes", fn := fun _ => fun
  | [d] => { results := [.lit (.bool true)], args := [d] }
  | _ => none }
def treeNodesRow : OpenClaim := { program := "ytcfohdkdppiekaa", sum := "7fc38447418923dfcce762054f5232113a8077bbc2ef409ef15101c99529a8c8", func := "sextant/sextantlaw09.TreeNodes", spec := "treeNodes", inPlace := ["internal/abi.NoEscape"], unfollowed := true, recurses := true, apart := false }
def TreeNodesSaid : Prop := treeNodesRow.holds Try.pinned (OpenSpec.ofChange treeNodesSpec)

/-- ITS FALSE NEIGHBOUR: 'it returns false'. Refute it at one input. -/
def treeNodesWrong : ChangeSpec := { name := "treeNodes", fn := fun _ => fun
  | [d] => { results := [.lit (.bool false)], args := [d] }
  | _ => none }
def TreeNodesWrongFalsely : Prop := treeNodesRow.holds Try.pinned (OpenSpec.ofChange treeNodesWrong)

/-- 'sextantlaw09.TreeKnown': WHATEVER THE INPUT: true; the input reads as it did. -/
def treeKnownSpec : ChangeSpec := { name := "treeKnown", fn := fun _ => fun
  | [] => { results := [.lit (.bool true)], args := [] }
  | _ => none }
def treeKnownRow : OpenClaim := { program := "ytcfohdkdppiekaa", sum := "7fc38447418923dfcce762054f5232113a8077bbc2ef409ef15101c99529a8c8", func := "sextant/sextantlaw09.TreeKnown", spec := "treeKnown", inPlace := ["internal/abi.NoEscape"], unfollowed := true, recurses := true, apart := false }
def TreeKnownSaid : Prop := treeKnownRow.holds Try.pinned (OpenSpec.ofChange treeKnownSpec)

/-- ITS FALSE NEIGHBOUR: 'it returns false'. Refute it at one input. -/
def treeKnownWrong : ChangeSpec := { name := "treeKnown", fn := fun _ => fun
  | [] => { results := [.lit (.bool false)], args := [] }
  | _ => none }
def TreeKnownWrongFalsely : Prop := treeKnownRow.holds Try.pinned (OpenSpec.ofChange treeKnownWrong)

/-- 'sextantlaw09.TreeWith': WHATEVER THE INPUT: true; the input reads as it did. -/
def treeWithSpec : ChangeSpec := { name := "treeWith", fn := fun _ => fun
  | [d1, d2, d3] => { results := [.lit (.bool true)], args := [d1, d2, d3] }
  | _ => none }
def treeWithRow : OpenClaim := { program := "ytcfohdkdppiekaa", sum := "7fc38447418923dfcce762054f5232113a8077bbc2ef409ef15101c99529a8c8", func := "sextant/sextantlaw09.TreeWith", spec := "treeWith", inPlace := ["internal/abi.NoEscape"], unfollowed := true, recurses := true, apart := false }
def TreeWithSaid : Prop := treeWithRow.holds Try.pinned (OpenSpec.ofChange treeWithSpec)

/-- ITS FALSE NEIGHBOUR: 'it returns false'. Refute it at one input. -/
def treeWithWrong : ChangeSpec := { name := "treeWith", fn := fun _ => fun
  | [d1, d2, d3] => { results := [.lit (.bool false)], args := [d1, d2, d3] }
  | _ => none }
def TreeWithWrongFalsely : Prop := treeWithRow.holds Try.pinned (OpenSpec.ofChange treeWithWrong)

/-- 'sextantlaw19.CoinAbout': WHATEVER THE INPUT: true; the input reads as it did. -/
def coinAboutSpec : ChangeSpec := { name := "coinAbout", fn := fun _ => fun
  | [d1, d2] => { results := [.lit (.bool true)], args := [d1, d2] }
  | _ => none }
def coinAboutRow : OpenClaim := { program := "ytcfohdkdppiekaa", sum := "7fc38447418923dfcce762054f5232113a8077bbc2ef409ef15101c99529a8c8", func := "sextant/sextantlaw19.CoinAbout", spec := "coinAbout", inPlace := ["internal/abi.NoEscape", "internal/bytealg.MakeNoZero"], unfollowed := true, recurses := true, apart := false }
def CoinAboutSaid : Prop := coinAboutRow.holds Try.pinned (OpenSpec.ofChange coinAboutSpec)

/-- ITS FALSE NEIGHBOUR: 'it returns false'. Refute it at one input. -/
def coinAboutWrong : ChangeSpec := { name := "coinAbout", fn := fun _ => fun
  | [d1, d2] => { results := [.lit (.bool false)], args := [d1, d2] }
  | _ => none }
def CoinAboutWrongFalsely : Prop := coinAboutRow.holds Try.pinned (OpenSpec.ofChange coinAboutWrong)

/-- 'sextantlaw19.CoinKnown': WHATEVER THE INPUT: true; the input reads as it did. -/
def coinKnownSpec : ChangeSpec := { name := "coinKnown", fn := fun _ => fun
  | [] => { results := [.lit (.bool true)], args := [] }
  | _ => none }
def coinKnownRow : OpenClaim := { program := "ytcfohdkdppiekaa", sum := "7fc38447418923dfcce762054f5232113a8077bbc2ef409ef15101c99529a8c8", func := "sextant/sextantlaw19.CoinKnown", spec := "coinKnown", inPlace := ["internal/abi.NoEscape", "internal/bytealg.MakeNoZero"], unfollowed := true, recurses := true, apart := false }
def CoinKnownSaid : Prop := coinKnownRow.holds Try.pinned (OpenSpec.ofChange coinKnownSpec)

/-- ITS FALSE NEIGHBOUR: 'it returns false'. Refute it at one input. -/
def coinKnownWrong : ChangeSpec := { name := "coinKnown", fn := fun _ => fun
  | [] => { results := [.lit (.bool false)], args := [] }
  | _ => none }
def CoinKnownWrongFalsely : Prop := coinKnownRow.holds Try.pinned (OpenSpec.ofChange coinKnownWrong)

/- THE SECOND FORM. 'bulk': how many values and letters a reading holds, each counted each time it is reached (what is shared counts as often as it is met; a slice's spare places count too). A statement '..UptoSaid' is the law's where the arguments, and the package variables that the reading takes, are together of bulk at most 1048576: NARROWER than '..Said'. Prove '..Said' where nothing that the law and all that it calls make is longer than what came in: it says more and counts as full. Else prove '..UptoSaid'. A law counts once. -/
mutual
def uptoBulk {H : Type} : DataW H → Nat
  | .lit (.string bytes) => bytes.length + 1
  | .lit _ => 1
  | .nil => 1
  | .ptr d => uptoBulk d + 1
  | .slice elems spare => uptoBulkAll elems + uptoBulkAll spare + 1
  | .agg parts => uptoBulkAll parts + 1
  | .iface _ d => uptoBulk d + 1
  | .map entries => uptoBulkEntries entries + 1
  | .held _ => 1
def uptoBulkAll {H : Type} : List (DataW H) → Nat
  | [] => 0
  | d :: r => uptoBulk d + uptoBulkAll r
def uptoBulkEntries {H : Type} : List (Lit × DataW H) → Nat
  | [] => 0
  | x :: r => uptoBulkEntry x + uptoBulkEntries r
def uptoBulkEntry {H : Type} : Lit × DataW H → Nat
  | (.string bytes, d) => bytes.length + uptoBulk d + 1
  | (_, d) => uptoBulk d + 1
 end
def uptoSmall : (H : Type) → List (DataW H) → Bool := fun _ ds => decide (uptoBulkAll ds ≤ 1048576)
def OpenSpec.upto (s : _root_.Go.ChangeSpec) : _root_.Go.OpenSpec := { _root_.Go.OpenSpec.ofChange s with cond := some uptoSmall }

/-- 'sextantlaw01.ShaSums', WHERE WHAT IT READS IS OF BULK AT MOST 1048576: true; the input reads as it did. -/
def shaSumsUptoRow : OpenClaim := { program := "ytcfohdkdppiekaa", sum := "7fc38447418923dfcce762054f5232113a8077bbc2ef409ef15101c99529a8c8", func := "sextant/sextantlaw01.ShaSums", spec := "shaSums", unfollowed := true, recurses := true, apart := false, narrowed := true }
def ShaSumsUptoSaid : Prop := shaSumsUptoRow.holds Try.pinned (OpenSpec.upto shaSumsSpec)

/-- 'sextantlaw01.ShaSteps', WHERE WHAT IT READS IS OF BULK AT MOST 1048576: true; the input reads as it did. -/
def shaStepsUptoRow : OpenClaim := { program := "ytcfohdkdppiekaa", sum := "7fc38447418923dfcce762054f5232113a8077bbc2ef409ef15101c99529a8c8", func := "sextant/sextantlaw01.ShaSteps", spec := "shaSteps", unfollowed := true, recurses := true, apart := false, narrowed := true }
def ShaStepsUptoSaid : Prop := shaStepsUptoRow.holds Try.pinned (OpenSpec.upto shaStepsSpec)

/-- 'sextantlaw01.ShaBytes', WHERE WHAT IT READS IS OF BULK AT MOST 1048576: true; the input reads as it did. -/
def shaBytesUptoRow : OpenClaim := { program := "ytcfohdkdppiekaa", sum := "7fc38447418923dfcce762054f5232113a8077bbc2ef409ef15101c99529a8c8", func := "sextant/sextantlaw01.ShaBytes", spec := "shaBytes", unfollowed := true, recurses := true, apart := false, narrowed := true }
def ShaBytesUptoSaid : Prop := shaBytesUptoRow.holds Try.pinned (OpenSpec.upto shaBytesSpec)

/-- 'sextantlaw01.ShaParts', WHERE WHAT IT READS IS OF BULK AT MOST 1048576: true; the input reads as it did. -/
def shaPartsUptoRow : OpenClaim := { program := "ytcfohdkdppiekaa", sum := "7fc38447418923dfcce762054f5232113a8077bbc2ef409ef15101c99529a8c8", func := "sextant/sextantlaw01.ShaParts", spec := "shaParts", unfollowed := true, recurses := true, apart := false, narrowed := true }
def ShaPartsUptoSaid : Prop := shaPartsUptoRow.holds Try.pinned (OpenSpec.upto shaPartsSpec)

/-- 'sextantlaw02.DomHashes', WHERE WHAT IT READS IS OF BULK AT MOST 1048576: true; the input reads as it did. -/
def domHashesUptoRow : OpenClaim := { program := "ytcfohdkdppiekaa", sum := "7fc38447418923dfcce762054f5232113a8077bbc2ef409ef15101c99529a8c8", func := "sextant/sextantlaw02.DomHashes", spec := "domHashes", inPlace := ["internal/abi.NoEscape"], unfollowed := true, recurses := true, apart := false, narrowed := true }
def DomHashesUptoSaid : Prop := domHashesUptoRow.holds Try.pinned (OpenSpec.upto domHashesSpec)

/-- 'sextantlaw02.DomApart', WHERE WHAT IT READS IS OF BULK AT MOST 1048576: true; the input reads as it did. -/
def domApartUptoRow : OpenClaim := { program := "ytcfohdkdppiekaa", sum := "7fc38447418923dfcce762054f5232113a8077bbc2ef409ef15101c99529a8c8", func := "sextant/sextantlaw02.DomApart", spec := "domApart", inPlace := ["internal/abi.NoEscape"], unfollowed := true, recurses := true, apart := false, narrowed := true }
def DomApartUptoSaid : Prop := domApartUptoRow.holds Try.pinned (OpenSpec.upto domApartSpec)

/-- 'sextantlaw02.DomNumbers', WHERE WHAT IT READS IS OF BULK AT MOST 1048576: true; the input reads as it did. -/
def domNumbersUptoRow : OpenClaim := { program := "ytcfohdkdppiekaa", sum := "7fc38447418923dfcce762054f5232113a8077bbc2ef409ef15101c99529a8c8", func := "sextant/sextantlaw02.DomNumbers", spec := "domNumbers", inPlace := ["internal/abi.NoEscape"], unfollowed := true, recurses := true, apart := false, narrowed := true }
def DomNumbersUptoSaid : Prop := domNumbersUptoRow.holds Try.pinned (OpenSpec.upto domNumbersSpec)

/-- 'sextantlaw02.DomKnown', WHERE WHAT IT READS IS OF BULK AT MOST 1048576: true; the input reads as it did. -/
def domKnownUptoRow : OpenClaim := { program := "ytcfohdkdppiekaa", sum := "7fc38447418923dfcce762054f5232113a8077bbc2ef409ef15101c99529a8c8", func := "sextant/sextantlaw02.DomKnown", spec := "domKnown", inPlace := ["internal/abi.NoEscape"], unfollowed := true, recurses := true, apart := false, narrowed := true }
def DomKnownUptoSaid : Prop := domKnownUptoRow.holds Try.pinned (OpenSpec.upto domKnownSpec)

/-- 'sextantlaw24.WindowPlays', WHERE WHAT IT READS IS OF BULK AT MOST 1048576: true; the input reads as it did. -/
def windowPlaysUptoRow : OpenClaim := { program := "ytcfohdkdppiekaa", sum := "7fc38447418923dfcce762054f5232113a8077bbc2ef409ef15101c99529a8c8", func := "sextant/sextantlaw24.WindowPlays", spec := "windowPlays", inPlace := ["internal/abi.NoEscape"], unfollowed := true, recurses := true, apart := false, narrowed := true }
def WindowPlaysUptoSaid : Prop := windowPlaysUptoRow.holds Try.pinned (OpenSpec.upto windowPlaysSpec)

/-- 'sextantlaw24.WindowLast', WHERE WHAT IT READS IS OF BULK AT MOST 1048576: true; the input reads as it did. -/
def windowLastUptoRow : OpenClaim := { program := "ytcfohdkdppiekaa", sum := "7fc38447418923dfcce762054f5232113a8077bbc2ef409ef15101c99529a8c8", func := "sextant/sextantlaw24.WindowLast", spec := "windowLast", inPlace := ["internal/abi.NoEscape"], unfollowed := true, recurses := true, apart := false, narrowed := true }
def WindowLastUptoSaid : Prop := windowLastUptoRow.holds Try.pinned (OpenSpec.upto windowLastSpec)

/-- 'sextantlaw24.WindowAlike', WHERE WHAT IT READS IS OF BULK AT MOST 1048576: true; the input reads as it did. -/
def windowAlikeUptoRow : OpenClaim := { program := "ytcfohdkdppiekaa", sum := "7fc38447418923dfcce762054f5232113a8077bbc2ef409ef15101c99529a8c8", func := "sextant/sextantlaw24.WindowAlike", spec := "windowAlike", inPlace := ["internal/abi.NoEscape"], unfollowed := true, recurses := true, apart := false, narrowed := true }
def WindowAlikeUptoSaid : Prop := windowAlikeUptoRow.holds Try.pinned (OpenSpec.upto windowAlikeSpec)

/-- 'sextantlaw24.WindowKnown', WHERE WHAT IT READS IS OF BULK AT MOST 1048576: true; the input reads as it did. -/
def windowKnownUptoRow : OpenClaim := { program := "ytcfohdkdppiekaa", sum := "7fc38447418923dfcce762054f5232113a8077bbc2ef409ef15101c99529a8c8", func := "sextant/sextantlaw24.WindowKnown", spec := "windowKnown", inPlace := ["internal/abi.NoEscape"], unfollowed := true, recurses := true, apart := false, narrowed := true }
def WindowKnownUptoSaid : Prop := windowKnownUptoRow.holds Try.pinned (OpenSpec.upto windowKnownSpec)

/-- 'sextantlaw03.StreamPieces', WHERE WHAT IT READS IS OF BULK AT MOST 1048576: true; the input reads as it did. -/
def streamPiecesUptoRow : OpenClaim := { program := "ytcfohdkdppiekaa", sum := "7fc38447418923dfcce762054f5232113a8077bbc2ef409ef15101c99529a8c8", func := "sextant/sextantlaw03.StreamPieces", spec := "streamPieces", inPlace := ["internal/abi.NoEscape"], unfollowed := true, recurses := true, apart := false, narrowed := true }
def StreamPiecesUptoSaid : Prop := streamPiecesUptoRow.holds Try.pinned (OpenSpec.upto streamPiecesSpec)

/-- 'sextantlaw03.StreamKnown', WHERE WHAT IT READS IS OF BULK AT MOST 1048576: true; the input reads as it did. -/
def streamKnownUptoRow : OpenClaim := { program := "ytcfohdkdppiekaa", sum := "7fc38447418923dfcce762054f5232113a8077bbc2ef409ef15101c99529a8c8", func := "sextant/sextantlaw03.StreamKnown", spec := "streamKnown", inPlace := ["internal/abi.NoEscape"], unfollowed := true, recurses := true, apart := false, narrowed := true }
def StreamKnownUptoSaid : Prop := streamKnownUptoRow.holds Try.pinned (OpenSpec.upto streamKnownSpec)

/-- 'sextantlaw13.WotsSigns', WHERE WHAT IT READS IS OF BULK AT MOST 1048576: true; the input reads as it did. -/
def wotsSignsUptoRow : OpenClaim := { program := "ytcfohdkdppiekaa", sum := "7fc38447418923dfcce762054f5232113a8077bbc2ef409ef15101c99529a8c8", func := "sextant/sextantlaw13.WotsSigns", spec := "wotsSigns", inPlace := ["internal/abi.NoEscape"], unfollowed := true, recurses := true, apart := false, narrowed := true }
def WotsSignsUptoSaid : Prop := wotsSignsUptoRow.holds Try.pinned (OpenSpec.upto wotsSignsSpec)

/-- 'sextantlaw13.WotsRecovers', WHERE WHAT IT READS IS OF BULK AT MOST 1048576: true; the input reads as it did. -/
def wotsRecoversUptoRow : OpenClaim := { program := "ytcfohdkdppiekaa", sum := "7fc38447418923dfcce762054f5232113a8077bbc2ef409ef15101c99529a8c8", func := "sextant/sextantlaw13.WotsRecovers", spec := "wotsRecovers", inPlace := ["internal/abi.NoEscape"], unfollowed := true, recurses := true, apart := false, narrowed := true }
def WotsRecoversUptoSaid : Prop := wotsRecoversUptoRow.holds Try.pinned (OpenSpec.upto wotsRecoversSpec)

/-- 'sextantlaw13.WotsBack', WHERE WHAT IT READS IS OF BULK AT MOST 1048576: true; the input reads as it did. -/
def wotsBackUptoRow : OpenClaim := { program := "ytcfohdkdppiekaa", sum := "7fc38447418923dfcce762054f5232113a8077bbc2ef409ef15101c99529a8c8", func := "sextant/sextantlaw13.WotsBack", spec := "wotsBack", inPlace := ["internal/abi.NoEscape"], unfollowed := true, recurses := true, apart := false, narrowed := true }
def WotsBackUptoSaid : Prop := wotsBackUptoRow.holds Try.pinned (OpenSpec.upto wotsBackSpec)

/-- 'sextantlaw13.WotsOne', WHERE WHAT IT READS IS OF BULK AT MOST 1048576: true; the input reads as it did. -/
def wotsOneUptoRow : OpenClaim := { program := "ytcfohdkdppiekaa", sum := "7fc38447418923dfcce762054f5232113a8077bbc2ef409ef15101c99529a8c8", func := "sextant/sextantlaw13.WotsOne", spec := "wotsOne", inPlace := ["internal/abi.NoEscape"], unfollowed := true, recurses := true, apart := false, narrowed := true }
def WotsOneUptoSaid : Prop := wotsOneUptoRow.holds Try.pinned (OpenSpec.upto wotsOneSpec)

/-- 'sextantlaw13.WotsKnown', WHERE WHAT IT READS IS OF BULK AT MOST 1048576: true; the input reads as it did. -/
def wotsKnownUptoRow : OpenClaim := { program := "ytcfohdkdppiekaa", sum := "7fc38447418923dfcce762054f5232113a8077bbc2ef409ef15101c99529a8c8", func := "sextant/sextantlaw13.WotsKnown", spec := "wotsKnown", inPlace := ["internal/abi.NoEscape"], unfollowed := true, recurses := true, apart := false, narrowed := true }
def WotsKnownUptoSaid : Prop := wotsKnownUptoRow.holds Try.pinned (OpenSpec.upto wotsKnownSpec)

/-- 'sextantlaw01.ShaKnown', WHERE WHAT IT READS IS OF BULK AT MOST 1048576: true; the input reads as it did. -/
def shaKnownUptoRow : OpenClaim := { program := "ytcfohdkdppiekaa", sum := "7fc38447418923dfcce762054f5232113a8077bbc2ef409ef15101c99529a8c8", func := "sextant/sextantlaw01.ShaKnown", spec := "shaKnown", inPlace := ["internal/abi.NoEscape", "internal/bytealg.MakeNoZero"], unfollowed := true, recurses := true, apart := false, narrowed := true }
def ShaKnownUptoSaid : Prop := shaKnownUptoRow.holds Try.pinned (OpenSpec.upto shaKnownSpec)

/-- 'sextantlaw09.TreeIs', WHERE WHAT IT READS IS OF BULK AT MOST 1048576: true; the input reads as it did. -/
def treeIsUptoRow : OpenClaim := { program := "ytcfohdkdppiekaa", sum := "7fc38447418923dfcce762054f5232113a8077bbc2ef409ef15101c99529a8c8", func := "sextant/sextantlaw09.TreeIs", spec := "treeIs", inPlace := ["internal/abi.NoEscape"], unfollowed := true, recurses := true, apart := false, narrowed := true }
def TreeIsUptoSaid : Prop := treeIsUptoRow.holds Try.pinned (OpenSpec.upto treeIsSpec)

/-- 'sextantlaw09.TreeTurns', WHERE WHAT IT READS IS OF BULK AT MOST 1048576: true; the input reads as it did. -/
def treeTurnsUptoRow : OpenClaim := { program := "ytcfohdkdppiekaa", sum := "7fc38447418923dfcce762054f5232113a8077bbc2ef409ef15101c99529a8c8", func := "sextant/sextantlaw09.TreeTurns", spec := "treeTurns", inPlace := ["internal/abi.NoEscape"], unfollowed := true, recurses := true, apart := false, narrowed := true }
def TreeTurnsUptoSaid : Prop := treeTurnsUptoRow.holds Try.pinned (OpenSpec.upto treeTurnsSpec)

/-- 'sextantlaw09.TreeNodes', WHERE WHAT IT READS IS OF BULK AT MOST 1048576: true; the input reads as it did. -/
def treeNodesUptoRow : OpenClaim := { program := "ytcfohdkdppiekaa", sum := "7fc38447418923dfcce762054f5232113a8077bbc2ef409ef15101c99529a8c8", func := "sextant/sextantlaw09.TreeNodes", spec := "treeNodes", inPlace := ["internal/abi.NoEscape"], unfollowed := true, recurses := true, apart := false, narrowed := true }
def TreeNodesUptoSaid : Prop := treeNodesUptoRow.holds Try.pinned (OpenSpec.upto treeNodesSpec)

/-- 'sextantlaw09.TreeKnown', WHERE WHAT IT READS IS OF BULK AT MOST 1048576: true; the input reads as it did. -/
def treeKnownUptoRow : OpenClaim := { program := "ytcfohdkdppiekaa", sum := "7fc38447418923dfcce762054f5232113a8077bbc2ef409ef15101c99529a8c8", func := "sextant/sextantlaw09.TreeKnown", spec := "treeKnown", inPlace := ["internal/abi.NoEscape"], unfollowed := true, recurses := true, apart := false, narrowed := true }
def TreeKnownUptoSaid : Prop := treeKnownUptoRow.holds Try.pinned (OpenSpec.upto treeKnownSpec)

/-- 'sextantlaw09.TreeWith', WHERE WHAT IT READS IS OF BULK AT MOST 1048576: true; the input reads as it did. -/
def treeWithUptoRow : OpenClaim := { program := "ytcfohdkdppiekaa", sum := "7fc38447418923dfcce762054f5232113a8077bbc2ef409ef15101c99529a8c8", func := "sextant/sextantlaw09.TreeWith", spec := "treeWith", inPlace := ["internal/abi.NoEscape"], unfollowed := true, recurses := true, apart := false, narrowed := true }
def TreeWithUptoSaid : Prop := treeWithUptoRow.holds Try.pinned (OpenSpec.upto treeWithSpec)

/-- 'sextantlaw19.CoinAbout', WHERE WHAT IT READS IS OF BULK AT MOST 1048576: true; the input reads as it did. -/
def coinAboutUptoRow : OpenClaim := { program := "ytcfohdkdppiekaa", sum := "7fc38447418923dfcce762054f5232113a8077bbc2ef409ef15101c99529a8c8", func := "sextant/sextantlaw19.CoinAbout", spec := "coinAbout", inPlace := ["internal/abi.NoEscape", "internal/bytealg.MakeNoZero"], unfollowed := true, recurses := true, apart := false, narrowed := true }
def CoinAboutUptoSaid : Prop := coinAboutUptoRow.holds Try.pinned (OpenSpec.upto coinAboutSpec)

/-- 'sextantlaw19.CoinKnown', WHERE WHAT IT READS IS OF BULK AT MOST 1048576: true; the input reads as it did. -/
def coinKnownUptoRow : OpenClaim := { program := "ytcfohdkdppiekaa", sum := "7fc38447418923dfcce762054f5232113a8077bbc2ef409ef15101c99529a8c8", func := "sextant/sextantlaw19.CoinKnown", spec := "coinKnown", inPlace := ["internal/abi.NoEscape", "internal/bytealg.MakeNoZero"], unfollowed := true, recurses := true, apart := false, narrowed := true }
def CoinKnownUptoSaid : Prop := coinKnownUptoRow.holds Try.pinned (OpenSpec.upto coinKnownSpec)

end Rows
end Go.Proofs.Ytcfohdkdppiekaa
