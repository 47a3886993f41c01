/-
  DERIVED. GIVEN WITH THE SEED: THE CARDS: each row of YthopiolbnhjgnaaDoorRows.lean that lists a variable, with what it lists TIED to the program's text (the seventh form; the later family's looks); each row that meets fmt, with fmt's text TOLD by the authors' own Lean function (tested against real Go, not proved from fmt's source: count such statements apart). THE CARD IS WHAT COUNTS. Prove the row's statement (the work); the ties are given (YthopiolbnhjgnaaDoorTie.lean); close each card by the builder's one call (the guide's Derived/Test/ToyasCard.lean, 'card_holds'). Laid BY PROGRAM, IN A SANDBOX (cutbox-door.mjs). By AI agents, Wed Nov 11 2026. No macro, syntax, notation, axiom, sorry.
-/
import Derived.Test.YthopiolbnhjgnaaDoorRows
import GoSem.ClaimSeven
namespace Go.Proofs.YthopiolbnhjgnaaDoor
namespace Rows

/-- THE TIED CARD OF 'radomelaw05.TrigTurns'. -/
def trigTurnsCard : Claim7 := { stood := { row := trigTurnsRow, standIns := [], harness := (true, "ba71b96fb0a9c84bad8e5d4fd3dfb6f949addf8cdd8f2659bc5f8b44f9a9a757"), looks := true }, kinds := [], alts := [], laidByText := true, laidKinds := [.handle], laidTests := true, laidLooks := .later }
def TrigTurnsCardSaid : Prop := Claim7.holds Tryd.pinned (.plain (OpenSpec.ofChange trigTurnsSpec)) trigTurnsCard

/-- THE TIED CARD OF 'radomelaw05.TrigPlaces'. -/
def trigPlacesCard : Claim7 := { stood := { row := trigPlacesRow, standIns := [], harness := (true, "ba71b96fb0a9c84bad8e5d4fd3dfb6f949addf8cdd8f2659bc5f8b44f9a9a757"), looks := true }, kinds := [], alts := [], laidByText := true, laidKinds := [.handle], laidTests := true, laidLooks := .later }
def TrigPlacesCardSaid : Prop := Claim7.holds Tryd.pinned (.plain (OpenSpec.ofChange trigPlacesSpec)) trigPlacesCard

/-- THE TIED CARD OF 'radomelaw05.TrigAside'. -/
def trigAsideCard : Claim7 := { stood := { row := trigAsideRow, standIns := [], harness := (true, "ba71b96fb0a9c84bad8e5d4fd3dfb6f949addf8cdd8f2659bc5f8b44f9a9a757"), looks := true }, kinds := [], alts := [], laidByText := true, laidKinds := [.handle], laidTests := true, laidLooks := .later }
def TrigAsideCardSaid : Prop := Claim7.holds Tryd.pinned (.plain (OpenSpec.ofChange trigAsideSpec)) trigAsideCard

/-- THE TIED CARD OF 'radomelaw10.PolarOf'. -/
def polarOfCard : Claim7 := { stood := { row := polarOfRow, standIns := [], harness := (true, "ba71b96fb0a9c84bad8e5d4fd3dfb6f949addf8cdd8f2659bc5f8b44f9a9a757"), looks := true }, kinds := [], alts := [], laidByText := true, laidKinds := [.handle], laidTests := true, laidLooks := .later }
def PolarOfCardSaid : Prop := Claim7.holds Tryd.pinned (.plain (OpenSpec.ofChange polarOfSpec)) polarOfCard

/-- THE TIED CARD OF 'radomelaw10.PolarSpreads'. -/
def polarSpreadsCard : Claim7 := { stood := { row := polarSpreadsRow, standIns := [], harness := (true, "ba71b96fb0a9c84bad8e5d4fd3dfb6f949addf8cdd8f2659bc5f8b44f9a9a757"), looks := true }, kinds := [], alts := [], laidByText := true, laidKinds := [.handle], laidTests := true, laidLooks := .later }
def PolarSpreadsCardSaid : Prop := Claim7.holds Tryd.pinned (.plain (OpenSpec.ofChange polarSpreadsSpec)) polarSpreadsCard

/-- THE TIED CARD OF 'radomelaw10.PolarQuarter'. -/
def polarQuarterCard : Claim7 := { stood := { row := polarQuarterRow, standIns := [], harness := (true, "ba71b96fb0a9c84bad8e5d4fd3dfb6f949addf8cdd8f2659bc5f8b44f9a9a757"), looks := true }, kinds := [], alts := [], laidByText := true, laidKinds := [.handle], laidTests := true, laidLooks := .later }
def PolarQuarterCardSaid : Prop := Claim7.holds Tryd.pinned (.plain (OpenSpec.ofChange polarQuarterSpec)) polarQuarterCard

/-- THE TIED CARD OF 'radomelaw36.AlarmNear'. -/
def alarmNearCard : Claim7 := { stood := { row := alarmNearRow, standIns := [], harness := (true, "ba71b96fb0a9c84bad8e5d4fd3dfb6f949addf8cdd8f2659bc5f8b44f9a9a757"), looks := true }, kinds := [], alts := [], laidByText := true, laidKinds := [.handle], laidTests := true, laidLooks := .later }
def AlarmNearCardSaid : Prop := Claim7.holds Tryd.pinned (.plain (OpenSpec.ofChange alarmNearSpec)) alarmNearCard

/-- THE TIED CARD OF 'radomelaw36.AlarmAll'. -/
def alarmAllCard : Claim7 := { stood := { row := alarmAllRow, standIns := [], harness := (true, "ba71b96fb0a9c84bad8e5d4fd3dfb6f949addf8cdd8f2659bc5f8b44f9a9a757"), looks := true }, kinds := [], alts := [], laidByText := true, laidKinds := [.handle], laidTests := true, laidLooks := .later }
def AlarmAllCardSaid : Prop := Claim7.holds Tryd.pinned (.plain (OpenSpec.ofChange alarmAllSpec)) alarmAllCard

/-- THE TIED CARD OF 'radomelaw36.AlarmBoth'. -/
def alarmBothCard : Claim7 := { stood := { row := alarmBothRow, standIns := [], harness := (true, "ba71b96fb0a9c84bad8e5d4fd3dfb6f949addf8cdd8f2659bc5f8b44f9a9a757"), looks := true }, kinds := [], alts := [], laidByText := true, laidKinds := [.handle], laidTests := true, laidLooks := .later }
def AlarmBothCardSaid : Prop := Claim7.holds Tryd.pinned (.plain (OpenSpec.ofChange alarmBothSpec)) alarmBothCard

/-- THE TIED CARD OF 'radomelaw38.TrailRuns'. -/
def trailRunsCard : Claim7 := { stood := { row := trailRunsRow, standIns := [], harness := (true, "ba71b96fb0a9c84bad8e5d4fd3dfb6f949addf8cdd8f2659bc5f8b44f9a9a757"), looks := true }, kinds := [], alts := [], laidByText := true, laidKinds := [.handle], laidTests := true, laidLooks := .later }
def TrailRunsCardSaid : Prop := Claim7.holds Tryd.pinned (.plain (OpenSpec.ofChange trailRunsSpec)) trailRunsCard

/-- THE SECOND FORM's CARD OF 'radomelaw05.TrigTurns'. -/
def trigTurnsUptoCard : Claim7 := { stood := { row := trigTurnsUptoRow, standIns := [], harness := (true, "ba71b96fb0a9c84bad8e5d4fd3dfb6f949addf8cdd8f2659bc5f8b44f9a9a757"), looks := true }, kinds := [], alts := [], laidByText := true, laidKinds := [.handle], laidTests := true, laidLooks := .later }
def TrigTurnsUptoCardSaid : Prop := Claim7.holds Tryd.pinned (.plain (OpenSpec.upto trigTurnsSpec)) trigTurnsUptoCard

/-- THE SECOND FORM's CARD OF 'radomelaw05.TrigPlaces'. -/
def trigPlacesUptoCard : Claim7 := { stood := { row := trigPlacesUptoRow, standIns := [], harness := (true, "ba71b96fb0a9c84bad8e5d4fd3dfb6f949addf8cdd8f2659bc5f8b44f9a9a757"), looks := true }, kinds := [], alts := [], laidByText := true, laidKinds := [.handle], laidTests := true, laidLooks := .later }
def TrigPlacesUptoCardSaid : Prop := Claim7.holds Tryd.pinned (.plain (OpenSpec.upto trigPlacesSpec)) trigPlacesUptoCard

/-- THE SECOND FORM's CARD OF 'radomelaw05.TrigAside'. -/
def trigAsideUptoCard : Claim7 := { stood := { row := trigAsideUptoRow, standIns := [], harness := (true, "ba71b96fb0a9c84bad8e5d4fd3dfb6f949addf8cdd8f2659bc5f8b44f9a9a757"), looks := true }, kinds := [], alts := [], laidByText := true, laidKinds := [.handle], laidTests := true, laidLooks := .later }
def TrigAsideUptoCardSaid : Prop := Claim7.holds Tryd.pinned (.plain (OpenSpec.upto trigAsideSpec)) trigAsideUptoCard

/-- THE SECOND FORM's CARD OF 'radomelaw10.PolarOf'. -/
def polarOfUptoCard : Claim7 := { stood := { row := polarOfUptoRow, standIns := [], harness := (true, "ba71b96fb0a9c84bad8e5d4fd3dfb6f949addf8cdd8f2659bc5f8b44f9a9a757"), looks := true }, kinds := [], alts := [], laidByText := true, laidKinds := [.handle], laidTests := true, laidLooks := .later }
def PolarOfUptoCardSaid : Prop := Claim7.holds Tryd.pinned (.plain (OpenSpec.upto polarOfSpec)) polarOfUptoCard

/-- THE SECOND FORM's CARD OF 'radomelaw10.PolarSpreads'. -/
def polarSpreadsUptoCard : Claim7 := { stood := { row := polarSpreadsUptoRow, standIns := [], harness := (true, "ba71b96fb0a9c84bad8e5d4fd3dfb6f949addf8cdd8f2659bc5f8b44f9a9a757"), looks := true }, kinds := [], alts := [], laidByText := true, laidKinds := [.handle], laidTests := true, laidLooks := .later }
def PolarSpreadsUptoCardSaid : Prop := Claim7.holds Tryd.pinned (.plain (OpenSpec.upto polarSpreadsSpec)) polarSpreadsUptoCard

/-- THE SECOND FORM's CARD OF 'radomelaw10.PolarQuarter'. -/
def polarQuarterUptoCard : Claim7 := { stood := { row := polarQuarterUptoRow, standIns := [], harness := (true, "ba71b96fb0a9c84bad8e5d4fd3dfb6f949addf8cdd8f2659bc5f8b44f9a9a757"), looks := true }, kinds := [], alts := [], laidByText := true, laidKinds := [.handle], laidTests := true, laidLooks := .later }
def PolarQuarterUptoCardSaid : Prop := Claim7.holds Tryd.pinned (.plain (OpenSpec.upto polarQuarterSpec)) polarQuarterUptoCard

/-- THE SECOND FORM's CARD OF 'radomelaw36.AlarmNear'. -/
def alarmNearUptoCard : Claim7 := { stood := { row := alarmNearUptoRow, standIns := [], harness := (true, "ba71b96fb0a9c84bad8e5d4fd3dfb6f949addf8cdd8f2659bc5f8b44f9a9a757"), looks := true }, kinds := [], alts := [], laidByText := true, laidKinds := [.handle], laidTests := true, laidLooks := .later }
def AlarmNearUptoCardSaid : Prop := Claim7.holds Tryd.pinned (.plain (OpenSpec.upto alarmNearSpec)) alarmNearUptoCard

/-- THE SECOND FORM's CARD OF 'radomelaw36.AlarmAll'. -/
def alarmAllUptoCard : Claim7 := { stood := { row := alarmAllUptoRow, standIns := [], harness := (true, "ba71b96fb0a9c84bad8e5d4fd3dfb6f949addf8cdd8f2659bc5f8b44f9a9a757"), looks := true }, kinds := [], alts := [], laidByText := true, laidKinds := [.handle], laidTests := true, laidLooks := .later }
def AlarmAllUptoCardSaid : Prop := Claim7.holds Tryd.pinned (.plain (OpenSpec.upto alarmAllSpec)) alarmAllUptoCard

/-- THE SECOND FORM's CARD OF 'radomelaw36.AlarmBoth'. -/
def alarmBothUptoCard : Claim7 := { stood := { row := alarmBothUptoRow, standIns := [], harness := (true, "ba71b96fb0a9c84bad8e5d4fd3dfb6f949addf8cdd8f2659bc5f8b44f9a9a757"), looks := true }, kinds := [], alts := [], laidByText := true, laidKinds := [.handle], laidTests := true, laidLooks := .later }
def AlarmBothUptoCardSaid : Prop := Claim7.holds Tryd.pinned (.plain (OpenSpec.upto alarmBothSpec)) alarmBothUptoCard

/-- THE SECOND FORM's CARD OF 'radomelaw38.TrailRuns'. -/
def trailRunsUptoCard : Claim7 := { stood := { row := trailRunsUptoRow, standIns := [], harness := (true, "ba71b96fb0a9c84bad8e5d4fd3dfb6f949addf8cdd8f2659bc5f8b44f9a9a757"), looks := true }, kinds := [], alts := [], laidByText := true, laidKinds := [.handle], laidTests := true, laidLooks := .later }
def TrailRunsUptoCardSaid : Prop := Claim7.holds Tryd.pinned (.plain (OpenSpec.upto trailRunsSpec)) trailRunsUptoCard
end Rows
end Go.Proofs.YthopiolbnhjgnaaDoor
