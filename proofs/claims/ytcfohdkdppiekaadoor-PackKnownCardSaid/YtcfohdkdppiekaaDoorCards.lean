/-
  DERIVED. GIVEN WITH THE SEED: THE CARDS: each row of YtcfohdkdppiekaaDoorRows.lean that lists a variable, with what it lists TIED to the program's text (the seventh form; the later family's looks); each row that meets fmt, with fmt's text TOLD by the authors' own Lean function (tested against real Go, not proved from fmt's source: count such statements apart). THE CARD IS WHAT COUNTS. Prove the row's statement (the work); the ties are given (YtcfohdkdppiekaaDoorTie.lean); close each card by the builder's one call (the guide's Derived/Test/ToyasCard.lean, 'card_holds'). Laid BY PROGRAM, IN A SANDBOX (cutbox-door.mjs). By AI agents, Wed Nov 11 2026. No macro, syntax, notation, axiom, sorry.
-/
import Derived.Test.YtcfohdkdppiekaaDoorRows
import GoSem.ClaimSeven
namespace Go.Proofs.YtcfohdkdppiekaaDoor
namespace Rows

/-- THE TIED CARD OF 'sextantlaw05.PackLays'. -/
def packLaysCard : Claim7 := { stood := { row := packLaysRow, standIns := [], harness := (true, "3d64cdb859a78d18735dca526adaac27a68fe2a40ed4be730a769253d88e724a"), looks := false }, kinds := [], alts := [], laidByText := true, laidKinds := [.data], laidTests := true, laidLooks := .later }
def PackLaysCardSaid : Prop := Claim7.holds Tryd.pinned (.plain (OpenSpec.ofChange packLaysSpec)) packLaysCard

/-- THE TIED CARD OF 'sextantlaw05.PackNums'. -/
def packNumsCard : Claim7 := { stood := { row := packNumsRow, standIns := [], harness := (true, "3d64cdb859a78d18735dca526adaac27a68fe2a40ed4be730a769253d88e724a"), looks := false }, kinds := [], alts := [], laidByText := true, laidKinds := [.data], laidTests := true, laidLooks := .later }
def PackNumsCardSaid : Prop := Claim7.holds Tryd.pinned (.plain (OpenSpec.ofChange packNumsSpec)) packNumsCard

/-- THE TIED CARD OF 'sextantlaw05.PackApart'. -/
def packApartCard : Claim7 := { stood := { row := packApartRow, standIns := [], harness := (true, "3d64cdb859a78d18735dca526adaac27a68fe2a40ed4be730a769253d88e724a"), looks := false }, kinds := [], alts := [], laidByText := true, laidKinds := [.data], laidTests := true, laidLooks := .later }
def PackApartCardSaid : Prop := Claim7.holds Tryd.pinned (.plain (OpenSpec.ofChange packApartSpec)) packApartCard

/-- THE TIED CARD OF 'sextantlaw05.PackRises'. -/
def packRisesCard : Claim7 := { stood := { row := packRisesRow, standIns := [], harness := (true, "3d64cdb859a78d18735dca526adaac27a68fe2a40ed4be730a769253d88e724a"), looks := false }, kinds := [], alts := [], laidByText := true, laidKinds := [.data], laidTests := true, laidLooks := .later }
def PackRisesCardSaid : Prop := Claim7.holds Tryd.pinned (.plain (OpenSpec.ofChange packRisesSpec)) packRisesCard

/-- THE TIED CARD OF 'sextantlaw05.PackKnown'. -/
def packKnownCard : Claim7 := { stood := { row := packKnownRow, standIns := [], harness := (true, "3d64cdb859a78d18735dca526adaac27a68fe2a40ed4be730a769253d88e724a"), looks := false }, kinds := [], alts := [], laidByText := true, laidKinds := [.data], laidTests := true, laidLooks := .later }
def PackKnownCardSaid : Prop := Claim7.holds Tryd.pinned (.plain (OpenSpec.ofChange packKnownSpec)) packKnownCard

/-- THE SECOND FORM's CARD OF 'sextantlaw05.PackLays'. -/
def packLaysUptoCard : Claim7 := { stood := { row := packLaysUptoRow, standIns := [], harness := (true, "3d64cdb859a78d18735dca526adaac27a68fe2a40ed4be730a769253d88e724a"), looks := false }, kinds := [], alts := [], laidByText := true, laidKinds := [.data], laidTests := true, laidLooks := .later }
def PackLaysUptoCardSaid : Prop := Claim7.holds Tryd.pinned (.plain (OpenSpec.upto packLaysSpec)) packLaysUptoCard

/-- THE SECOND FORM's CARD OF 'sextantlaw05.PackNums'. -/
def packNumsUptoCard : Claim7 := { stood := { row := packNumsUptoRow, standIns := [], harness := (true, "3d64cdb859a78d18735dca526adaac27a68fe2a40ed4be730a769253d88e724a"), looks := false }, kinds := [], alts := [], laidByText := true, laidKinds := [.data], laidTests := true, laidLooks := .later }
def PackNumsUptoCardSaid : Prop := Claim7.holds Tryd.pinned (.plain (OpenSpec.upto packNumsSpec)) packNumsUptoCard

/-- THE SECOND FORM's CARD OF 'sextantlaw05.PackApart'. -/
def packApartUptoCard : Claim7 := { stood := { row := packApartUptoRow, standIns := [], harness := (true, "3d64cdb859a78d18735dca526adaac27a68fe2a40ed4be730a769253d88e724a"), looks := false }, kinds := [], alts := [], laidByText := true, laidKinds := [.data], laidTests := true, laidLooks := .later }
def PackApartUptoCardSaid : Prop := Claim7.holds Tryd.pinned (.plain (OpenSpec.upto packApartSpec)) packApartUptoCard

/-- THE SECOND FORM's CARD OF 'sextantlaw05.PackRises'. -/
def packRisesUptoCard : Claim7 := { stood := { row := packRisesUptoRow, standIns := [], harness := (true, "3d64cdb859a78d18735dca526adaac27a68fe2a40ed4be730a769253d88e724a"), looks := false }, kinds := [], alts := [], laidByText := true, laidKinds := [.data], laidTests := true, laidLooks := .later }
def PackRisesUptoCardSaid : Prop := Claim7.holds Tryd.pinned (.plain (OpenSpec.upto packRisesSpec)) packRisesUptoCard

/-- THE SECOND FORM's CARD OF 'sextantlaw05.PackKnown'. -/
def packKnownUptoCard : Claim7 := { stood := { row := packKnownUptoRow, standIns := [], harness := (true, "3d64cdb859a78d18735dca526adaac27a68fe2a40ed4be730a769253d88e724a"), looks := false }, kinds := [], alts := [], laidByText := true, laidKinds := [.data], laidTests := true, laidLooks := .later }
def PackKnownUptoCardSaid : Prop := Claim7.holds Tryd.pinned (.plain (OpenSpec.upto packKnownSpec)) packKnownUptoCard
end Rows
end Go.Proofs.YtcfohdkdppiekaaDoor
