/-
  DERIVED. GIVEN WITH THE SEED: THE CARDS: each row of YtelenadhhjeoeaaDoorRows.lean that lists a variable, with what it lists TIED to the program's text (the seventh form; the later family's looks); each row that meets fmt, with fmt's text TOLD by the authors' own Lean function (tested against real Go, not proved from fmt's source: count such statements apart). THE CARD IS WHAT COUNTS. Prove the row's statement (the work); the ties are given (YtelenadhhjeoeaaDoorTie.lean); close each card by the builder's one call (the guide's Derived/Test/ToyasCard.lean, 'card_holds'). Laid BY PROGRAM, IN A SANDBOX (cutbox-door.mjs). By AI agents, Wed Nov 11 2026. No macro, syntax, notation, axiom, sorry.
-/
import Derived.Test.YtelenadhhjeoeaaDoorRows
import GoSem.ClaimSeven
namespace Go.Proofs.YtelenadhhjeoeaaDoor
namespace Rows

/-- THE TIED CARD OF 'conciergelaw03.HmacPieces'. -/
def hmacPiecesCard : Claim7 := { stood := { row := hmacPiecesRow, standIns := [], harness := (true, "bff79e6f8141c2fa928a3481f3b5d2bfe315b140c48bc819b750811867f04bce"), looks := false }, kinds := [], alts := [], laidByText := true, laidKinds := [.data], laidTests := true, laidLooks := .later }
def HmacPiecesCardSaid : Prop := Claim7.holds Tryd.pinned (.plain (OpenSpec.ofChange hmacPiecesSpec)) hmacPiecesCard

/-- THE TIED CARD OF 'conciergelaw03.HmacKeys'. -/
def hmacKeysCard : Claim7 := { stood := { row := hmacKeysRow, standIns := [], harness := (true, "bff79e6f8141c2fa928a3481f3b5d2bfe315b140c48bc819b750811867f04bce"), looks := false }, kinds := [], alts := [], laidByText := true, laidKinds := [.data], laidTests := true, laidLooks := .later }
def HmacKeysCardSaid : Prop := Claim7.holds Tryd.pinned (.plain (OpenSpec.ofChange hmacKeysSpec)) hmacKeysCard

/-- THE TIED CARD OF 'conciergelaw03.HmacNobody'. -/
def hmacNobodyCard : Claim7 := { stood := { row := hmacNobodyRow, standIns := [], harness := (true, "bff79e6f8141c2fa928a3481f3b5d2bfe315b140c48bc819b750811867f04bce"), looks := false }, kinds := [], alts := [], laidByText := true, laidKinds := [.data], laidTests := true, laidLooks := .later }
def HmacNobodyCardSaid : Prop := Claim7.holds Tryd.pinned (.plain (OpenSpec.ofChange hmacNobodySpec)) hmacNobodyCard

/-- THE TIED CARD OF 'conciergelaw03.HmacChecked'. -/
def hmacCheckedCard : Claim7 := { stood := { row := hmacCheckedRow, standIns := [], harness := (true, "bff79e6f8141c2fa928a3481f3b5d2bfe315b140c48bc819b750811867f04bce"), looks := false }, kinds := [], alts := [], laidByText := true, laidKinds := [.data], laidTests := true, laidLooks := .later }
def HmacCheckedCardSaid : Prop := Claim7.holds Tryd.pinned (.plain (OpenSpec.ofChange hmacCheckedSpec)) hmacCheckedCard

/-- THE TIED CARD OF 'conciergelaw03.HmacSums'. -/
def hmacSumsCard : Claim7 := { stood := { row := hmacSumsRow, standIns := [], harness := (true, "bff79e6f8141c2fa928a3481f3b5d2bfe315b140c48bc819b750811867f04bce"), looks := false }, kinds := [], alts := [], laidByText := true, laidKinds := [.data], laidTests := true, laidLooks := .later }
def HmacSumsCardSaid : Prop := Claim7.holds Tryd.pinned (.plain (OpenSpec.ofChange hmacSumsSpec)) hmacSumsCard

/-- THE SECOND FORM's CARD OF 'conciergelaw03.HmacPieces'. -/
def hmacPiecesUptoCard : Claim7 := { stood := { row := hmacPiecesUptoRow, standIns := [], harness := (true, "bff79e6f8141c2fa928a3481f3b5d2bfe315b140c48bc819b750811867f04bce"), looks := false }, kinds := [], alts := [], laidByText := true, laidKinds := [.data], laidTests := true, laidLooks := .later }
def HmacPiecesUptoCardSaid : Prop := Claim7.holds Tryd.pinned (.plain (OpenSpec.upto hmacPiecesSpec)) hmacPiecesUptoCard

/-- THE SECOND FORM's CARD OF 'conciergelaw03.HmacKeys'. -/
def hmacKeysUptoCard : Claim7 := { stood := { row := hmacKeysUptoRow, standIns := [], harness := (true, "bff79e6f8141c2fa928a3481f3b5d2bfe315b140c48bc819b750811867f04bce"), looks := false }, kinds := [], alts := [], laidByText := true, laidKinds := [.data], laidTests := true, laidLooks := .later }
def HmacKeysUptoCardSaid : Prop := Claim7.holds Tryd.pinned (.plain (OpenSpec.upto hmacKeysSpec)) hmacKeysUptoCard

/-- THE SECOND FORM's CARD OF 'conciergelaw03.HmacNobody'. -/
def hmacNobodyUptoCard : Claim7 := { stood := { row := hmacNobodyUptoRow, standIns := [], harness := (true, "bff79e6f8141c2fa928a3481f3b5d2bfe315b140c48bc819b750811867f04bce"), looks := false }, kinds := [], alts := [], laidByText := true, laidKinds := [.data], laidTests := true, laidLooks := .later }
def HmacNobodyUptoCardSaid : Prop := Claim7.holds Tryd.pinned (.plain (OpenSpec.upto hmacNobodySpec)) hmacNobodyUptoCard

/-- THE SECOND FORM's CARD OF 'conciergelaw03.HmacChecked'. -/
def hmacCheckedUptoCard : Claim7 := { stood := { row := hmacCheckedUptoRow, standIns := [], harness := (true, "bff79e6f8141c2fa928a3481f3b5d2bfe315b140c48bc819b750811867f04bce"), looks := false }, kinds := [], alts := [], laidByText := true, laidKinds := [.data], laidTests := true, laidLooks := .later }
def HmacCheckedUptoCardSaid : Prop := Claim7.holds Tryd.pinned (.plain (OpenSpec.upto hmacCheckedSpec)) hmacCheckedUptoCard

/-- THE SECOND FORM's CARD OF 'conciergelaw03.HmacSums'. -/
def hmacSumsUptoCard : Claim7 := { stood := { row := hmacSumsUptoRow, standIns := [], harness := (true, "bff79e6f8141c2fa928a3481f3b5d2bfe315b140c48bc819b750811867f04bce"), looks := false }, kinds := [], alts := [], laidByText := true, laidKinds := [.data], laidTests := true, laidLooks := .later }
def HmacSumsUptoCardSaid : Prop := Claim7.holds Tryd.pinned (.plain (OpenSpec.upto hmacSumsSpec)) hmacSumsUptoCard
end Rows
end Go.Proofs.YtelenadhhjeoeaaDoor
