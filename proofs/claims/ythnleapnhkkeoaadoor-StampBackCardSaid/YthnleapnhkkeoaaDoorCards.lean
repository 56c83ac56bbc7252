/-
  DERIVED. GIVEN WITH THE SEED: THE CARDS: each row of YthnleapnhkkeoaaDoorRows.lean that lists a variable, with what it lists TIED to the program's text (the seventh form; the later family's looks); each row that meets fmt, with fmt's text TOLD by the authors' own Lean function (tested against real Go, not proved from fmt's source: count such statements apart). THE CARD IS WHAT COUNTS. Prove the row's statement (the work); the ties are given (YthnleapnhkkeoaaDoorTie.lean); close each card by the builder's one call (the guide's Derived/Test/ToyasCard.lean, 'card_holds'). Laid BY PROGRAM, IN A SANDBOX (cutbox-door.mjs). By AI agents, Wed Nov 11 2026. No macro, syntax, notation, axiom, sorry.
-/
import Derived.Test.YthnleapnhkkeoaaDoorRows
import GoSem.ClaimSeven
namespace Go.Proofs.YthnleapnhkkeoaaDoor
namespace Rows

/-- THE TIED CARD OF 'clepsydralaw04.StampExchanges'. -/
def stampExchangesCard : Claim7 := { stood := { row := stampExchangesRow, standIns := [], harness := (true, "13a3c308043f1a3dd0a1a6d6a2b757021fce1a1054fbf5c243bf04d995756c32"), looks := false }, kinds := [], alts := [], laidByText := true, laidKinds := [.data, .data, .data], laidTests := true, laidLooks := .later }
def StampExchangesCardSaid : Prop := Claim7.holds Tryd.pinned (.plain (OpenSpec.ofChange stampExchangesSpec)) stampExchangesCard

/-- THE TIED CARD OF 'clepsydralaw04.StampPrints'. -/
def stampPrintsCard : Claim7 := { stood := { row := stampPrintsRow, standIns := [], harness := (true, "13a3c308043f1a3dd0a1a6d6a2b757021fce1a1054fbf5c243bf04d995756c32"), looks := false }, kinds := [], alts := [], laidByText := true, laidKinds := [.data, .data, .data], laidTests := true, laidLooks := .later }
def StampPrintsCardSaid : Prop := Claim7.holds Tryd.pinned (.plain (OpenSpec.ofChange stampPrintsSpec)) stampPrintsCard

/-- THE TIED CARD OF 'clepsydralaw04.StampBack'. -/
def stampBackCard : Claim7 := { stood := { row := stampBackRow, standIns := [], harness := (true, "13a3c308043f1a3dd0a1a6d6a2b757021fce1a1054fbf5c243bf04d995756c32"), looks := false }, kinds := [], alts := [], laidByText := true, laidKinds := [.data, .data, .data], laidTests := true, laidLooks := .later }
def StampBackCardSaid : Prop := Claim7.holds Tryd.pinned (.plain (OpenSpec.ofChange stampBackSpec)) stampBackCard

/-- THE TIED CARD OF 'clepsydralaw04.StampThere'. -/
def stampThereCard : Claim7 := { stood := { row := stampThereRow, standIns := [], harness := (true, "13a3c308043f1a3dd0a1a6d6a2b757021fce1a1054fbf5c243bf04d995756c32"), looks := false }, kinds := [], alts := [], laidByText := true, laidKinds := [.data, .data, .data], laidTests := true, laidLooks := .later }
def StampThereCardSaid : Prop := Claim7.holds Tryd.pinned (.plain (OpenSpec.ofChange stampThereSpec)) stampThereCard

/-- THE TIED CARD OF 'clepsydralaw04.StampShifts'. -/
def stampShiftsCard : Claim7 := { stood := { row := stampShiftsRow, standIns := [], harness := (true, "13a3c308043f1a3dd0a1a6d6a2b757021fce1a1054fbf5c243bf04d995756c32"), looks := false }, kinds := [], alts := [], laidByText := true, laidKinds := [.data, .data, .data], laidTests := true, laidLooks := .later }
def StampShiftsCardSaid : Prop := Claim7.holds Tryd.pinned (.plain (OpenSpec.ofChange stampShiftsSpec)) stampShiftsCard

/-- THE TIED CARD OF 'clepsydralaw04.StampHalf'. -/
def stampHalfCard : Claim7 := { stood := { row := stampHalfRow, standIns := [], harness := (true, "13a3c308043f1a3dd0a1a6d6a2b757021fce1a1054fbf5c243bf04d995756c32"), looks := false }, kinds := [], alts := [], laidByText := true, laidKinds := [.data, .data, .data], laidTests := true, laidLooks := .later }
def StampHalfCardSaid : Prop := Claim7.holds Tryd.pinned (.plain (OpenSpec.ofChange stampHalfSpec)) stampHalfCard

/-- THE TIED CARD OF 'clepsydralaw04.StampMoves'. -/
def stampMovesCard : Claim7 := { stood := { row := stampMovesRow, standIns := [], harness := (true, "13a3c308043f1a3dd0a1a6d6a2b757021fce1a1054fbf5c243bf04d995756c32"), looks := false }, kinds := [], alts := [], laidByText := true, laidKinds := [.data, .data, .data], laidTests := true, laidLooks := .later }
def StampMovesCardSaid : Prop := Claim7.holds Tryd.pinned (.plain (OpenSpec.ofChange stampMovesSpec)) stampMovesCard

/-- THE TIED CARD OF 'clepsydralaw04.StampShorts'. -/
def stampShortsCard : Claim7 := { stood := { row := stampShortsRow, standIns := [], harness := (true, "13a3c308043f1a3dd0a1a6d6a2b757021fce1a1054fbf5c243bf04d995756c32"), looks := false }, kinds := [], alts := [], laidByText := true, laidKinds := [.data, .data, .data], laidTests := true, laidLooks := .later }
def StampShortsCardSaid : Prop := Claim7.holds Tryd.pinned (.plain (OpenSpec.ofChange stampShortsSpec)) stampShortsCard

/-- THE SECOND FORM's CARD OF 'clepsydralaw04.StampExchanges'. -/
def stampExchangesUptoCard : Claim7 := { stood := { row := stampExchangesUptoRow, standIns := [], harness := (true, "13a3c308043f1a3dd0a1a6d6a2b757021fce1a1054fbf5c243bf04d995756c32"), looks := false }, kinds := [], alts := [], laidByText := true, laidKinds := [.data, .data, .data], laidTests := true, laidLooks := .later }
def StampExchangesUptoCardSaid : Prop := Claim7.holds Tryd.pinned (.plain (OpenSpec.upto stampExchangesSpec)) stampExchangesUptoCard

/-- THE SECOND FORM's CARD OF 'clepsydralaw04.StampPrints'. -/
def stampPrintsUptoCard : Claim7 := { stood := { row := stampPrintsUptoRow, standIns := [], harness := (true, "13a3c308043f1a3dd0a1a6d6a2b757021fce1a1054fbf5c243bf04d995756c32"), looks := false }, kinds := [], alts := [], laidByText := true, laidKinds := [.data, .data, .data], laidTests := true, laidLooks := .later }
def StampPrintsUptoCardSaid : Prop := Claim7.holds Tryd.pinned (.plain (OpenSpec.upto stampPrintsSpec)) stampPrintsUptoCard

/-- THE SECOND FORM's CARD OF 'clepsydralaw04.StampBack'. -/
def stampBackUptoCard : Claim7 := { stood := { row := stampBackUptoRow, standIns := [], harness := (true, "13a3c308043f1a3dd0a1a6d6a2b757021fce1a1054fbf5c243bf04d995756c32"), looks := false }, kinds := [], alts := [], laidByText := true, laidKinds := [.data, .data, .data], laidTests := true, laidLooks := .later }
def StampBackUptoCardSaid : Prop := Claim7.holds Tryd.pinned (.plain (OpenSpec.upto stampBackSpec)) stampBackUptoCard

/-- THE SECOND FORM's CARD OF 'clepsydralaw04.StampThere'. -/
def stampThereUptoCard : Claim7 := { stood := { row := stampThereUptoRow, standIns := [], harness := (true, "13a3c308043f1a3dd0a1a6d6a2b757021fce1a1054fbf5c243bf04d995756c32"), looks := false }, kinds := [], alts := [], laidByText := true, laidKinds := [.data, .data, .data], laidTests := true, laidLooks := .later }
def StampThereUptoCardSaid : Prop := Claim7.holds Tryd.pinned (.plain (OpenSpec.upto stampThereSpec)) stampThereUptoCard

/-- THE SECOND FORM's CARD OF 'clepsydralaw04.StampShifts'. -/
def stampShiftsUptoCard : Claim7 := { stood := { row := stampShiftsUptoRow, standIns := [], harness := (true, "13a3c308043f1a3dd0a1a6d6a2b757021fce1a1054fbf5c243bf04d995756c32"), looks := false }, kinds := [], alts := [], laidByText := true, laidKinds := [.data, .data, .data], laidTests := true, laidLooks := .later }
def StampShiftsUptoCardSaid : Prop := Claim7.holds Tryd.pinned (.plain (OpenSpec.upto stampShiftsSpec)) stampShiftsUptoCard

/-- THE SECOND FORM's CARD OF 'clepsydralaw04.StampHalf'. -/
def stampHalfUptoCard : Claim7 := { stood := { row := stampHalfUptoRow, standIns := [], harness := (true, "13a3c308043f1a3dd0a1a6d6a2b757021fce1a1054fbf5c243bf04d995756c32"), looks := false }, kinds := [], alts := [], laidByText := true, laidKinds := [.data, .data, .data], laidTests := true, laidLooks := .later }
def StampHalfUptoCardSaid : Prop := Claim7.holds Tryd.pinned (.plain (OpenSpec.upto stampHalfSpec)) stampHalfUptoCard

/-- THE SECOND FORM's CARD OF 'clepsydralaw04.StampMoves'. -/
def stampMovesUptoCard : Claim7 := { stood := { row := stampMovesUptoRow, standIns := [], harness := (true, "13a3c308043f1a3dd0a1a6d6a2b757021fce1a1054fbf5c243bf04d995756c32"), looks := false }, kinds := [], alts := [], laidByText := true, laidKinds := [.data, .data, .data], laidTests := true, laidLooks := .later }
def StampMovesUptoCardSaid : Prop := Claim7.holds Tryd.pinned (.plain (OpenSpec.upto stampMovesSpec)) stampMovesUptoCard

/-- THE SECOND FORM's CARD OF 'clepsydralaw04.StampShorts'. -/
def stampShortsUptoCard : Claim7 := { stood := { row := stampShortsUptoRow, standIns := [], harness := (true, "13a3c308043f1a3dd0a1a6d6a2b757021fce1a1054fbf5c243bf04d995756c32"), looks := false }, kinds := [], alts := [], laidByText := true, laidKinds := [.data, .data, .data], laidTests := true, laidLooks := .later }
def StampShortsUptoCardSaid : Prop := Claim7.holds Tryd.pinned (.plain (OpenSpec.upto stampShortsSpec)) stampShortsUptoCard
end Rows
end Go.Proofs.YthnleapnhkkeoaaDoor
