/-
  DERIVED. GIVEN WITH THE SEED: THE CARDS: each row of YtdoejkdckokjdaaDoorRows.lean that lists a variable, with what it lists TIED to the program's text (the seventh form; the later family's looks); each row that meets fmt, with fmt's text TOLD by the authors' own Lean function (tested against real Go, not proved from fmt's source: count such statements apart). THE CARD IS WHAT COUNTS. Prove the row's statement (the work); the ties are given (YtdoejkdckokjdaaDoorTie.lean); close each card by the builder's one call (the guide's Derived/Test/ToyasCard.lean, 'card_holds'). Laid BY PROGRAM, IN A SANDBOX (cutbox-door.mjs). By AI agents, Wed Nov 11 2026. No macro, syntax, notation, axiom, sorry.
-/
import Derived.Test.YtdoejkdckokjdaaDoorRows
import GoSem.ClaimSeven
namespace Go.Proofs.YtdoejkdckokjdaaDoor
namespace Rows

/-- THE TIED CARD OF 'geodelaw03.NumTwo'. -/
def numTwoCard : Claim7 := { stood := { row := numTwoRow, standIns := [], harness := (true, "efcac2e2139b2a245fe8d16812c301b08342aaea4a6abf41d6ed35742cf5ce7a"), looks := false }, kinds := [], alts := [], laidByText := true, laidKinds := [.data, .data], laidTests := true, laidLooks := .later }
def NumTwoCardSaid : Prop := Claim7.holds Tryd.pinned (.plain (OpenSpec.ofChange numTwoSpec)) numTwoCard

/-- THE TIED CARD OF 'geodelaw03.NumRing'. -/
def numRingCard : Claim7 := { stood := { row := numRingRow, standIns := [], harness := (true, "efcac2e2139b2a245fe8d16812c301b08342aaea4a6abf41d6ed35742cf5ce7a"), looks := false }, kinds := [], alts := [], laidByText := true, laidKinds := [.data, .data], laidTests := true, laidLooks := .later }
def NumRingCardSaid : Prop := Claim7.holds Tryd.pinned (.plain (OpenSpec.ofChange numRingSpec)) numRingCard

/-- THE TIED CARD OF 'geodelaw03.NumTurns'. -/
def numTurnsCard : Claim7 := { stood := { row := numTurnsRow, standIns := [], harness := (true, "efcac2e2139b2a245fe8d16812c301b08342aaea4a6abf41d6ed35742cf5ce7a"), looks := false }, kinds := [], alts := [], laidByText := true, laidKinds := [.data, .data], laidTests := true, laidLooks := .later }
def NumTurnsCardSaid : Prop := Claim7.holds Tryd.pinned (.plain (OpenSpec.ofChange numTurnsSpec)) numTurnsCard

/-- THE TIED CARD OF 'geodelaw03.NumExtends'. -/
def numExtendsCard : Claim7 := { stood := { row := numExtendsRow, standIns := [], harness := (true, "efcac2e2139b2a245fe8d16812c301b08342aaea4a6abf41d6ed35742cf5ce7a"), looks := false }, kinds := [], alts := [], laidByText := true, laidKinds := [.data, .data], laidTests := true, laidLooks := .later }
def NumExtendsCardSaid : Prop := Claim7.holds Tryd.pinned (.plain (OpenSpec.ofChange numExtendsSpec)) numExtendsCard

/-- THE TIED CARD OF 'geodelaw03.NumShift'. -/
def numShiftCard : Claim7 := { stood := { row := numShiftRow, standIns := [], harness := (true, "efcac2e2139b2a245fe8d16812c301b08342aaea4a6abf41d6ed35742cf5ce7a"), looks := false }, kinds := [], alts := [], laidByText := true, laidKinds := [.data, .data], laidTests := true, laidLooks := .later }
def NumShiftCardSaid : Prop := Claim7.holds Tryd.pinned (.plain (OpenSpec.ofChange numShiftSpec)) numShiftCard

/-- THE TIED CARD OF 'geodelaw03.NumLogic'. -/
def numLogicCard : Claim7 := { stood := { row := numLogicRow, standIns := [], harness := (true, "efcac2e2139b2a245fe8d16812c301b08342aaea4a6abf41d6ed35742cf5ce7a"), looks := false }, kinds := [], alts := [], laidByText := true, laidKinds := [.data, .data], laidTests := true, laidLooks := .later }
def NumLogicCardSaid : Prop := Claim7.holds Tryd.pinned (.plain (OpenSpec.ofChange numLogicSpec)) numLogicCard

/-- THE TIED CARD OF 'geodelaw03.NumOne'. -/
def numOneCard : Claim7 := { stood := { row := numOneRow, standIns := [], harness := (true, "efcac2e2139b2a245fe8d16812c301b08342aaea4a6abf41d6ed35742cf5ce7a"), looks := false }, kinds := [], alts := [], laidByText := true, laidKinds := [.data, .data], laidTests := true, laidLooks := .later }
def NumOneCardSaid : Prop := Claim7.holds Tryd.pinned (.plain (OpenSpec.ofChange numOneSpec)) numOneCard

/-- THE SECOND FORM's CARD OF 'geodelaw03.NumTwo'. -/
def numTwoUptoCard : Claim7 := { stood := { row := numTwoUptoRow, standIns := [], harness := (true, "efcac2e2139b2a245fe8d16812c301b08342aaea4a6abf41d6ed35742cf5ce7a"), looks := false }, kinds := [], alts := [], laidByText := true, laidKinds := [.data, .data], laidTests := true, laidLooks := .later }
def NumTwoUptoCardSaid : Prop := Claim7.holds Tryd.pinned (.plain (OpenSpec.upto numTwoSpec)) numTwoUptoCard

/-- THE SECOND FORM's CARD OF 'geodelaw03.NumRing'. -/
def numRingUptoCard : Claim7 := { stood := { row := numRingUptoRow, standIns := [], harness := (true, "efcac2e2139b2a245fe8d16812c301b08342aaea4a6abf41d6ed35742cf5ce7a"), looks := false }, kinds := [], alts := [], laidByText := true, laidKinds := [.data, .data], laidTests := true, laidLooks := .later }
def NumRingUptoCardSaid : Prop := Claim7.holds Tryd.pinned (.plain (OpenSpec.upto numRingSpec)) numRingUptoCard

/-- THE SECOND FORM's CARD OF 'geodelaw03.NumTurns'. -/
def numTurnsUptoCard : Claim7 := { stood := { row := numTurnsUptoRow, standIns := [], harness := (true, "efcac2e2139b2a245fe8d16812c301b08342aaea4a6abf41d6ed35742cf5ce7a"), looks := false }, kinds := [], alts := [], laidByText := true, laidKinds := [.data, .data], laidTests := true, laidLooks := .later }
def NumTurnsUptoCardSaid : Prop := Claim7.holds Tryd.pinned (.plain (OpenSpec.upto numTurnsSpec)) numTurnsUptoCard

/-- THE SECOND FORM's CARD OF 'geodelaw03.NumExtends'. -/
def numExtendsUptoCard : Claim7 := { stood := { row := numExtendsUptoRow, standIns := [], harness := (true, "efcac2e2139b2a245fe8d16812c301b08342aaea4a6abf41d6ed35742cf5ce7a"), looks := false }, kinds := [], alts := [], laidByText := true, laidKinds := [.data, .data], laidTests := true, laidLooks := .later }
def NumExtendsUptoCardSaid : Prop := Claim7.holds Tryd.pinned (.plain (OpenSpec.upto numExtendsSpec)) numExtendsUptoCard

/-- THE SECOND FORM's CARD OF 'geodelaw03.NumShift'. -/
def numShiftUptoCard : Claim7 := { stood := { row := numShiftUptoRow, standIns := [], harness := (true, "efcac2e2139b2a245fe8d16812c301b08342aaea4a6abf41d6ed35742cf5ce7a"), looks := false }, kinds := [], alts := [], laidByText := true, laidKinds := [.data, .data], laidTests := true, laidLooks := .later }
def NumShiftUptoCardSaid : Prop := Claim7.holds Tryd.pinned (.plain (OpenSpec.upto numShiftSpec)) numShiftUptoCard

/-- THE SECOND FORM's CARD OF 'geodelaw03.NumLogic'. -/
def numLogicUptoCard : Claim7 := { stood := { row := numLogicUptoRow, standIns := [], harness := (true, "efcac2e2139b2a245fe8d16812c301b08342aaea4a6abf41d6ed35742cf5ce7a"), looks := false }, kinds := [], alts := [], laidByText := true, laidKinds := [.data, .data], laidTests := true, laidLooks := .later }
def NumLogicUptoCardSaid : Prop := Claim7.holds Tryd.pinned (.plain (OpenSpec.upto numLogicSpec)) numLogicUptoCard

/-- THE SECOND FORM's CARD OF 'geodelaw03.NumOne'. -/
def numOneUptoCard : Claim7 := { stood := { row := numOneUptoRow, standIns := [], harness := (true, "efcac2e2139b2a245fe8d16812c301b08342aaea4a6abf41d6ed35742cf5ce7a"), looks := false }, kinds := [], alts := [], laidByText := true, laidKinds := [.data, .data], laidTests := true, laidLooks := .later }
def NumOneUptoCardSaid : Prop := Claim7.holds Tryd.pinned (.plain (OpenSpec.upto numOneSpec)) numOneUptoCard
end Rows
end Go.Proofs.YtdoejkdckokjdaaDoor
