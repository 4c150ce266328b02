/-
  DERIVED. GIVEN WITH THE SEED: THE CARDS: each row of YtdeppnamhdbbhaaDoorRows.lean that lists a variable, with what it lists TIED to the program's text (the seventh form; the later family's looks); each row that meets fmt, with fmt's text TOLD by the authors' own Lean function (tested against real Go, not proved from fmt's source: count such statements apart). THE CARD IS WHAT COUNTS. Prove the row's statement (the work); the ties are given (YtdeppnamhdbbhaaDoorTie.lean); close each card by the builder's one call (the guide's Derived/Test/ToyasCard.lean, 'card_holds'). Laid BY PROGRAM, IN A SANDBOX (cutbox-door.mjs). By AI agents, Wed Nov 11 2026. No macro, syntax, notation, axiom, sorry.
-/
import Derived.Test.YtdeppnamhdbbhaaDoorRows
import GoSem.ClaimSeven
namespace Go.Proofs.YtdeppnamhdbbhaaDoor
namespace Rows

/-- THE TIED CARD OF 'eggboxlaw06.MatchBoole'. -/
def matchBooleCard : Claim7 := { stood := { row := matchBooleRow, standIns := [], harness := (true, "8adffa5d49836cab62731563c83812de31604d4d94b3e539ce43e902cbb5973d"), looks := false }, kinds := [], alts := [], laidByText := true, laidKinds := [.data], laidTests := true, laidLooks := .later }
def MatchBooleCardSaid : Prop := Claim7.holds Tryd.pinned (.plain (OpenSpec.ofChange matchBooleSpec)) matchBooleCard

/-- THE TIED CARD OF 'eggboxlaw06.MatchKleene'. -/
def matchKleeneCard : Claim7 := { stood := { row := matchKleeneRow, standIns := [], harness := (true, "8adffa5d49836cab62731563c83812de31604d4d94b3e539ce43e902cbb5973d"), looks := false }, kinds := [], alts := [], laidByText := true, laidKinds := [.data], laidTests := true, laidLooks := .later }
def MatchKleeneCardSaid : Prop := Claim7.holds Tryd.pinned (.plain (OpenSpec.ofChange matchKleeneSpec)) matchKleeneCard

/-- THE TIED CARD OF 'eggboxlaw06.MatchMoved'. -/
def matchMovedCard : Claim7 := { stood := { row := matchMovedRow, standIns := [], harness := (true, "8adffa5d49836cab62731563c83812de31604d4d94b3e539ce43e902cbb5973d"), looks := false }, kinds := [], alts := [], laidByText := true, laidKinds := [.data], laidTests := true, laidLooks := .later }
def MatchMovedCardSaid : Prop := Claim7.holds Tryd.pinned (.plain (OpenSpec.ofChange matchMovedSpec)) matchMovedCard

/-- THE TIED CARD OF 'eggboxlaw06.MatchWords'. -/
def matchWordsCard : Claim7 := { stood := { row := matchWordsRow, standIns := [], harness := (true, "8adffa5d49836cab62731563c83812de31604d4d94b3e539ce43e902cbb5973d"), looks := false }, kinds := [], alts := [], laidByText := true, laidKinds := [.data], laidTests := true, laidLooks := .later }
def MatchWordsCardSaid : Prop := Claim7.holds Tryd.pinned (.plain (OpenSpec.ofChange matchWordsSpec)) matchWordsCard

/-- THE SECOND FORM's CARD OF 'eggboxlaw06.MatchBoole'. -/
def matchBooleUptoCard : Claim7 := { stood := { row := matchBooleUptoRow, standIns := [], harness := (true, "8adffa5d49836cab62731563c83812de31604d4d94b3e539ce43e902cbb5973d"), looks := false }, kinds := [], alts := [], laidByText := true, laidKinds := [.data], laidTests := true, laidLooks := .later }
def MatchBooleUptoCardSaid : Prop := Claim7.holds Tryd.pinned (.plain (OpenSpec.upto matchBooleSpec)) matchBooleUptoCard

/-- THE SECOND FORM's CARD OF 'eggboxlaw06.MatchKleene'. -/
def matchKleeneUptoCard : Claim7 := { stood := { row := matchKleeneUptoRow, standIns := [], harness := (true, "8adffa5d49836cab62731563c83812de31604d4d94b3e539ce43e902cbb5973d"), looks := false }, kinds := [], alts := [], laidByText := true, laidKinds := [.data], laidTests := true, laidLooks := .later }
def MatchKleeneUptoCardSaid : Prop := Claim7.holds Tryd.pinned (.plain (OpenSpec.upto matchKleeneSpec)) matchKleeneUptoCard

/-- THE SECOND FORM's CARD OF 'eggboxlaw06.MatchMoved'. -/
def matchMovedUptoCard : Claim7 := { stood := { row := matchMovedUptoRow, standIns := [], harness := (true, "8adffa5d49836cab62731563c83812de31604d4d94b3e539ce43e902cbb5973d"), looks := false }, kinds := [], alts := [], laidByText := true, laidKinds := [.data], laidTests := true, laidLooks := .later }
def MatchMovedUptoCardSaid : Prop := Claim7.holds Tryd.pinned (.plain (OpenSpec.upto matchMovedSpec)) matchMovedUptoCard

/-- THE SECOND FORM's CARD OF 'eggboxlaw06.MatchWords'. -/
def matchWordsUptoCard : Claim7 := { stood := { row := matchWordsUptoRow, standIns := [], harness := (true, "8adffa5d49836cab62731563c83812de31604d4d94b3e539ce43e902cbb5973d"), looks := false }, kinds := [], alts := [], laidByText := true, laidKinds := [.data], laidTests := true, laidLooks := .later }
def MatchWordsUptoCardSaid : Prop := Claim7.holds Tryd.pinned (.plain (OpenSpec.upto matchWordsSpec)) matchWordsUptoCard
end Rows
end Go.Proofs.YtdeppnamhdbbhaaDoor
