/-
  DERIVED. GIVEN WITH THE SEED: THE CARDS: each row of YtbmnjnmpjpdcmaaDoorRows.lean that lists a variable, with what it lists TIED to the program's text (the seventh form; the later family's looks); each row that meets fmt, with fmt's text TOLD by the authors' own Lean function (tested against real Go, not proved from fmt's source: count such statements apart). THE CARD IS WHAT COUNTS. Prove the row's statement (the work); the ties are given (YtbmnjnmpjpdcmaaDoorTie.lean); close each card by the builder's one call (the guide's Derived/Test/ToyasCard.lean, 'card_holds'). Laid BY PROGRAM, IN A SANDBOX (cutbox-door.mjs). By AI agents, Wed Nov 11 2026. No macro, syntax, notation, axiom, sorry.
-/
import Derived.Test.YtbmnjnmpjpdcmaaDoorRows
import GoSem.ClaimSeven
namespace Go.Proofs.YtbmnjnmpjpdcmaaDoor
namespace Rows

/-- THE TIED CARD OF 'eggboxlaw02.BitsShifts'. -/
def bitsShiftsCard : Claim7 := { stood := { row := bitsShiftsRow, standIns := [], harness := (true, "8c12dafda437add29a6799bf5c78734e525d403e05ac814006f2c48b0311a6c2"), looks := false }, kinds := [], alts := [], laidByText := true, laidKinds := [.data], laidTests := true, laidLooks := .later }
def BitsShiftsCardSaid : Prop := Claim7.holds Tryd.pinned (.plain (OpenSpec.ofChange bitsShiftsSpec)) bitsShiftsCard

/-- THE TIED CARD OF 'eggboxlaw02.BitsBack'. -/
def bitsBackCard : Claim7 := { stood := { row := bitsBackRow, standIns := [], harness := (true, "8c12dafda437add29a6799bf5c78734e525d403e05ac814006f2c48b0311a6c2"), looks := false }, kinds := [], alts := [], laidByText := true, laidKinds := [.data], laidTests := true, laidLooks := .later }
def BitsBackCardSaid : Prop := Claim7.holds Tryd.pinned (.plain (OpenSpec.ofChange bitsBackSpec)) bitsBackCard

/-- THE TIED CARD OF 'eggboxlaw02.BitsLists'. -/
def bitsListsCard : Claim7 := { stood := { row := bitsListsRow, standIns := [], harness := (true, "8c12dafda437add29a6799bf5c78734e525d403e05ac814006f2c48b0311a6c2"), looks := false }, kinds := [], alts := [], laidByText := true, laidKinds := [.data], laidTests := true, laidLooks := .later }
def BitsListsCardSaid : Prop := Claim7.holds Tryd.pinned (.plain (OpenSpec.ofChange bitsListsSpec)) bitsListsCard

/-- THE TIED CARD OF 'eggboxlaw02.BitsLooks'. -/
def bitsLooksCard : Claim7 := { stood := { row := bitsLooksRow, standIns := [], harness := (true, "8c12dafda437add29a6799bf5c78734e525d403e05ac814006f2c48b0311a6c2"), looks := false }, kinds := [], alts := [], laidByText := true, laidKinds := [.data], laidTests := true, laidLooks := .later }
def BitsLooksCardSaid : Prop := Claim7.holds Tryd.pinned (.plain (OpenSpec.ofChange bitsLooksSpec)) bitsLooksCard

/-- THE TIED CARD OF 'eggboxlaw02.BitsRanks'. -/
def bitsRanksCard : Claim7 := { stood := { row := bitsRanksRow, standIns := [], harness := (true, "8c12dafda437add29a6799bf5c78734e525d403e05ac814006f2c48b0311a6c2"), looks := false }, kinds := [], alts := [], laidByText := true, laidKinds := [.data], laidTests := true, laidLooks := .later }
def BitsRanksCardSaid : Prop := Claim7.holds Tryd.pinned (.plain (OpenSpec.ofChange bitsRanksSpec)) bitsRanksCard

/-- THE TIED CARD OF 'eggboxlaw02.BitsLaws'. -/
def bitsLawsCard : Claim7 := { stood := { row := bitsLawsRow, standIns := [], harness := (true, "8c12dafda437add29a6799bf5c78734e525d403e05ac814006f2c48b0311a6c2"), looks := false }, kinds := [], alts := [], laidByText := true, laidKinds := [.data], laidTests := true, laidLooks := .later }
def BitsLawsCardSaid : Prop := Claim7.holds Tryd.pinned (.plain (OpenSpec.ofChange bitsLawsSpec)) bitsLawsCard

/-- THE SECOND FORM's CARD OF 'eggboxlaw02.BitsShifts'. -/
def bitsShiftsUptoCard : Claim7 := { stood := { row := bitsShiftsUptoRow, standIns := [], harness := (true, "8c12dafda437add29a6799bf5c78734e525d403e05ac814006f2c48b0311a6c2"), looks := false }, kinds := [], alts := [], laidByText := true, laidKinds := [.data], laidTests := true, laidLooks := .later }
def BitsShiftsUptoCardSaid : Prop := Claim7.holds Tryd.pinned (.plain (OpenSpec.upto bitsShiftsSpec)) bitsShiftsUptoCard

/-- THE SECOND FORM's CARD OF 'eggboxlaw02.BitsBack'. -/
def bitsBackUptoCard : Claim7 := { stood := { row := bitsBackUptoRow, standIns := [], harness := (true, "8c12dafda437add29a6799bf5c78734e525d403e05ac814006f2c48b0311a6c2"), looks := false }, kinds := [], alts := [], laidByText := true, laidKinds := [.data], laidTests := true, laidLooks := .later }
def BitsBackUptoCardSaid : Prop := Claim7.holds Tryd.pinned (.plain (OpenSpec.upto bitsBackSpec)) bitsBackUptoCard

/-- THE SECOND FORM's CARD OF 'eggboxlaw02.BitsLists'. -/
def bitsListsUptoCard : Claim7 := { stood := { row := bitsListsUptoRow, standIns := [], harness := (true, "8c12dafda437add29a6799bf5c78734e525d403e05ac814006f2c48b0311a6c2"), looks := false }, kinds := [], alts := [], laidByText := true, laidKinds := [.data], laidTests := true, laidLooks := .later }
def BitsListsUptoCardSaid : Prop := Claim7.holds Tryd.pinned (.plain (OpenSpec.upto bitsListsSpec)) bitsListsUptoCard

/-- THE SECOND FORM's CARD OF 'eggboxlaw02.BitsLooks'. -/
def bitsLooksUptoCard : Claim7 := { stood := { row := bitsLooksUptoRow, standIns := [], harness := (true, "8c12dafda437add29a6799bf5c78734e525d403e05ac814006f2c48b0311a6c2"), looks := false }, kinds := [], alts := [], laidByText := true, laidKinds := [.data], laidTests := true, laidLooks := .later }
def BitsLooksUptoCardSaid : Prop := Claim7.holds Tryd.pinned (.plain (OpenSpec.upto bitsLooksSpec)) bitsLooksUptoCard

/-- THE SECOND FORM's CARD OF 'eggboxlaw02.BitsRanks'. -/
def bitsRanksUptoCard : Claim7 := { stood := { row := bitsRanksUptoRow, standIns := [], harness := (true, "8c12dafda437add29a6799bf5c78734e525d403e05ac814006f2c48b0311a6c2"), looks := false }, kinds := [], alts := [], laidByText := true, laidKinds := [.data], laidTests := true, laidLooks := .later }
def BitsRanksUptoCardSaid : Prop := Claim7.holds Tryd.pinned (.plain (OpenSpec.upto bitsRanksSpec)) bitsRanksUptoCard

/-- THE SECOND FORM's CARD OF 'eggboxlaw02.BitsLaws'. -/
def bitsLawsUptoCard : Claim7 := { stood := { row := bitsLawsUptoRow, standIns := [], harness := (true, "8c12dafda437add29a6799bf5c78734e525d403e05ac814006f2c48b0311a6c2"), looks := false }, kinds := [], alts := [], laidByText := true, laidKinds := [.data], laidTests := true, laidLooks := .later }
def BitsLawsUptoCardSaid : Prop := Claim7.holds Tryd.pinned (.plain (OpenSpec.upto bitsLawsSpec)) bitsLawsUptoCard
end Rows
end Go.Proofs.YtbmnjnmpjpdcmaaDoor
