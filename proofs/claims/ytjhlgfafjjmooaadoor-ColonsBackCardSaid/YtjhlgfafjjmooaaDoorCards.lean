/-
  DERIVED. GIVEN WITH THE SEED: THE CARDS: each row of YtjhlgfafjjmooaaDoorRows.lean that lists a variable, with what it lists TIED to the program's text (the seventh form; the later family's looks); each row that meets fmt, with fmt's text TOLD by the authors' own Lean function (tested against real Go, not proved from fmt's source: count such statements apart). THE CARD IS WHAT COUNTS. Prove the row's statement (the work); the ties are given (YtjhlgfafjjmooaaDoorTie.lean); close each card by the builder's one call (the guide's Derived/Test/ToyasCard.lean, 'card_holds'). Laid BY PROGRAM, IN A SANDBOX (cutbox-door.mjs). By AI agents, Wed Nov 11 2026. No macro, syntax, notation, axiom, sorry.
-/
import Derived.Test.YtjhlgfafjjmooaaDoorRows
import GoSem.ClaimSeven
namespace Go.Proofs.YtjhlgfafjjmooaaDoor
namespace Rows

/-- THE TIED CARD OF 'flocculuslaw2.CidrTells'. -/
def cidrTellsCard : Claim7 := { stood := { row := cidrTellsRow, standIns := [], harness := (true, "5c2554a4e228d0030b086b4728a8e0391f38e62b8e2f3581a5cbed53912ef8ee"), looks := true }, kinds := [], alts := [], laidByText := true, laidKinds := [.data, .data, .data, .data, .sentinel, .sentinel, .pinned], laidTests := true, laidLooks := .later }
def CidrTellsCardSaid : Prop := Claim7.holds Tryd.pinned (.plain (OpenSpec.ofChange cidrTellsSpec)) cidrTellsCard

/-- THE TIED CARD OF 'flocculuslaw2.CidrBack'. -/
def cidrBackCard : Claim7 := { stood := { row := cidrBackRow, standIns := [], harness := (true, "5c2554a4e228d0030b086b4728a8e0391f38e62b8e2f3581a5cbed53912ef8ee"), looks := true }, kinds := [], alts := [], laidByText := true, laidKinds := [.data, .data, .data, .data, .sentinel, .sentinel, .pinned], laidTests := true, laidLooks := .later }
def CidrBackCardSaid : Prop := Claim7.holds Tryd.pinned (.plain (OpenSpec.ofChange cidrBackSpec)) cidrBackCard

/-- THE TIED CARD OF 'flocculuslaw2.CidrWrong'. -/
def cidrWrongCard : Claim7 := { stood := { row := cidrWrongRow, standIns := [], harness := (true, "5c2554a4e228d0030b086b4728a8e0391f38e62b8e2f3581a5cbed53912ef8ee"), looks := true }, kinds := [], alts := [], laidByText := true, laidKinds := [.data, .data, .data, .data, .sentinel, .sentinel, .pinned], laidTests := true, laidLooks := .later }
def CidrWrongCardSaid : Prop := Claim7.holds Tryd.pinned (.plain (OpenSpec.ofChange cidrWrongSpec)) cidrWrongCard

/-- THE TIED CARD OF 'flocculuslaw3.ColonsTell'. -/
def colonsTellCard : Claim7 := { stood := { row := colonsTellRow, standIns := [], harness := (true, "5c2554a4e228d0030b086b4728a8e0391f38e62b8e2f3581a5cbed53912ef8ee"), looks := true }, kinds := [], alts := [], laidByText := true, laidKinds := [.data, .data, .data, .data, .sentinel, .sentinel, .pinned], laidTests := true, laidLooks := .later }
def ColonsTellCardSaid : Prop := Claim7.holds Tryd.pinned (.plain (OpenSpec.ofChange colonsTellSpec)) colonsTellCard

/-- THE TIED CARD OF 'flocculuslaw3.ColonsBack'. -/
def colonsBackCard : Claim7 := { stood := { row := colonsBackRow, standIns := [], harness := (true, "5c2554a4e228d0030b086b4728a8e0391f38e62b8e2f3581a5cbed53912ef8ee"), looks := true }, kinds := [], alts := [], laidByText := true, laidKinds := [.data, .data, .data, .data, .sentinel, .sentinel, .pinned], laidTests := true, laidLooks := .later }
def ColonsBackCardSaid : Prop := Claim7.holds Tryd.pinned (.plain (OpenSpec.ofChange colonsBackSpec)) colonsBackCard

/-- THE TIED CARD OF 'flocculuslaw3.ColonsWrite'. -/
def colonsWriteCard : Claim7 := { stood := { row := colonsWriteRow, standIns := [], harness := (true, "5c2554a4e228d0030b086b4728a8e0391f38e62b8e2f3581a5cbed53912ef8ee"), looks := true }, kinds := [], alts := [], laidByText := true, laidKinds := [.data, .data, .data, .data, .sentinel, .sentinel, .pinned], laidTests := true, laidLooks := .later }
def ColonsWriteCardSaid : Prop := Claim7.holds Tryd.pinned (.plain (OpenSpec.ofChange colonsWriteSpec)) colonsWriteCard

/-- THE TIED CARD OF 'flocculuslaw3.ColonsWrong'. -/
def colonsWrongCard : Claim7 := { stood := { row := colonsWrongRow, standIns := [], harness := (true, "5c2554a4e228d0030b086b4728a8e0391f38e62b8e2f3581a5cbed53912ef8ee"), looks := true }, kinds := [], alts := [], laidByText := true, laidKinds := [.data, .data, .data, .data, .sentinel, .sentinel, .pinned], laidTests := true, laidLooks := .later }
def ColonsWrongCardSaid : Prop := Claim7.holds Tryd.pinned (.plain (OpenSpec.ofChange colonsWrongSpec)) colonsWrongCard

/-- THE SECOND FORM's CARD OF 'flocculuslaw2.CidrTells'. -/
def cidrTellsUptoCard : Claim7 := { stood := { row := cidrTellsUptoRow, standIns := [], harness := (true, "5c2554a4e228d0030b086b4728a8e0391f38e62b8e2f3581a5cbed53912ef8ee"), looks := true }, kinds := [], alts := [], laidByText := true, laidKinds := [.data, .data, .data, .data, .sentinel, .sentinel, .pinned], laidTests := true, laidLooks := .later }
def CidrTellsUptoCardSaid : Prop := Claim7.holds Tryd.pinned (.plain (OpenSpec.upto cidrTellsSpec)) cidrTellsUptoCard

/-- THE SECOND FORM's CARD OF 'flocculuslaw2.CidrBack'. -/
def cidrBackUptoCard : Claim7 := { stood := { row := cidrBackUptoRow, standIns := [], harness := (true, "5c2554a4e228d0030b086b4728a8e0391f38e62b8e2f3581a5cbed53912ef8ee"), looks := true }, kinds := [], alts := [], laidByText := true, laidKinds := [.data, .data, .data, .data, .sentinel, .sentinel, .pinned], laidTests := true, laidLooks := .later }
def CidrBackUptoCardSaid : Prop := Claim7.holds Tryd.pinned (.plain (OpenSpec.upto cidrBackSpec)) cidrBackUptoCard

/-- THE SECOND FORM's CARD OF 'flocculuslaw2.CidrWrong'. -/
def cidrWrongUptoCard : Claim7 := { stood := { row := cidrWrongUptoRow, standIns := [], harness := (true, "5c2554a4e228d0030b086b4728a8e0391f38e62b8e2f3581a5cbed53912ef8ee"), looks := true }, kinds := [], alts := [], laidByText := true, laidKinds := [.data, .data, .data, .data, .sentinel, .sentinel, .pinned], laidTests := true, laidLooks := .later }
def CidrWrongUptoCardSaid : Prop := Claim7.holds Tryd.pinned (.plain (OpenSpec.upto cidrWrongSpec)) cidrWrongUptoCard

/-- THE SECOND FORM's CARD OF 'flocculuslaw3.ColonsTell'. -/
def colonsTellUptoCard : Claim7 := { stood := { row := colonsTellUptoRow, standIns := [], harness := (true, "5c2554a4e228d0030b086b4728a8e0391f38e62b8e2f3581a5cbed53912ef8ee"), looks := true }, kinds := [], alts := [], laidByText := true, laidKinds := [.data, .data, .data, .data, .sentinel, .sentinel, .pinned], laidTests := true, laidLooks := .later }
def ColonsTellUptoCardSaid : Prop := Claim7.holds Tryd.pinned (.plain (OpenSpec.upto colonsTellSpec)) colonsTellUptoCard

/-- THE SECOND FORM's CARD OF 'flocculuslaw3.ColonsBack'. -/
def colonsBackUptoCard : Claim7 := { stood := { row := colonsBackUptoRow, standIns := [], harness := (true, "5c2554a4e228d0030b086b4728a8e0391f38e62b8e2f3581a5cbed53912ef8ee"), looks := true }, kinds := [], alts := [], laidByText := true, laidKinds := [.data, .data, .data, .data, .sentinel, .sentinel, .pinned], laidTests := true, laidLooks := .later }
def ColonsBackUptoCardSaid : Prop := Claim7.holds Tryd.pinned (.plain (OpenSpec.upto colonsBackSpec)) colonsBackUptoCard

/-- THE SECOND FORM's CARD OF 'flocculuslaw3.ColonsWrite'. -/
def colonsWriteUptoCard : Claim7 := { stood := { row := colonsWriteUptoRow, standIns := [], harness := (true, "5c2554a4e228d0030b086b4728a8e0391f38e62b8e2f3581a5cbed53912ef8ee"), looks := true }, kinds := [], alts := [], laidByText := true, laidKinds := [.data, .data, .data, .data, .sentinel, .sentinel, .pinned], laidTests := true, laidLooks := .later }
def ColonsWriteUptoCardSaid : Prop := Claim7.holds Tryd.pinned (.plain (OpenSpec.upto colonsWriteSpec)) colonsWriteUptoCard

/-- THE SECOND FORM's CARD OF 'flocculuslaw3.ColonsWrong'. -/
def colonsWrongUptoCard : Claim7 := { stood := { row := colonsWrongUptoRow, standIns := [], harness := (true, "5c2554a4e228d0030b086b4728a8e0391f38e62b8e2f3581a5cbed53912ef8ee"), looks := true }, kinds := [], alts := [], laidByText := true, laidKinds := [.data, .data, .data, .data, .sentinel, .sentinel, .pinned], laidTests := true, laidLooks := .later }
def ColonsWrongUptoCardSaid : Prop := Claim7.holds Tryd.pinned (.plain (OpenSpec.upto colonsWrongSpec)) colonsWrongUptoCard
end Rows
end Go.Proofs.YtjhlgfafjjmooaaDoor
