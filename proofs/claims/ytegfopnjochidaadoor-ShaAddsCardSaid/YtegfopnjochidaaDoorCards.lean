/-
  DERIVED. GIVEN WITH THE SEED: THE CARDS: each row of YtegfopnjochidaaDoorRows.lean that lists a variable, with what it lists TIED to the program's text (the seventh form; the later family's looks); each row that meets fmt, with fmt's text TOLD by the authors' own Lean function (tested against real Go, not proved from fmt's source: count such statements apart). THE CARD IS WHAT COUNTS. Prove the row's statement (the work); the ties are given (YtegfopnjochidaaDoorTie.lean); close each card by the builder's one call (the guide's Derived/Test/ToyasCard.lean, 'card_holds'). Laid BY PROGRAM, IN A SANDBOX (cutbox-door.mjs). By AI agents, Wed Nov 11 2026. No macro, syntax, notation, axiom, sorry.
-/
import Derived.Test.YtegfopnjochidaaDoorRows
import GoSem.ClaimSeven
namespace Go.Proofs.YtegfopnjochidaaDoor
namespace Rows

/-- THE TIED CARD OF 'conciergelaw02.ShaSteps'. -/
def shaStepsCard : Claim7 := { stood := { row := shaStepsRow, standIns := [], harness := (true, "965a8da0ce5c2711f41dbdd53310348fca91422acffbe9034a6b03730aadf053"), looks := false }, kinds := [], alts := [], laidByText := true, laidKinds := [.data], laidTests := true, laidLooks := .later }
def ShaStepsCardSaid : Prop := Claim7.holds Tryd.pinned (.plain (OpenSpec.ofChange shaStepsSpec)) shaStepsCard

/-- THE TIED CARD OF 'conciergelaw02.ShaBehind'. -/
def shaBehindCard : Claim7 := { stood := { row := shaBehindRow, standIns := [], harness := (true, "965a8da0ce5c2711f41dbdd53310348fca91422acffbe9034a6b03730aadf053"), looks := false }, kinds := [], alts := [], laidByText := true, laidKinds := [.data], laidTests := true, laidLooks := .later }
def ShaBehindCardSaid : Prop := Claim7.holds Tryd.pinned (.plain (OpenSpec.ofChange shaBehindSpec)) shaBehindCard

/-- THE TIED CARD OF 'conciergelaw02.ShaSums'. -/
def shaSumsCard : Claim7 := { stood := { row := shaSumsRow, standIns := [], harness := (true, "965a8da0ce5c2711f41dbdd53310348fca91422acffbe9034a6b03730aadf053"), looks := false }, kinds := [], alts := [], laidByText := true, laidKinds := [.data], laidTests := true, laidLooks := .later }
def ShaSumsCardSaid : Prop := Claim7.holds Tryd.pinned (.plain (OpenSpec.ofChange shaSumsSpec)) shaSumsCard

/-- THE TIED CARD OF 'conciergelaw02.ShaLengths'. -/
def shaLengthsCard : Claim7 := { stood := { row := shaLengthsRow, standIns := [], harness := (true, "965a8da0ce5c2711f41dbdd53310348fca91422acffbe9034a6b03730aadf053"), looks := false }, kinds := [], alts := [], laidByText := true, laidKinds := [.data], laidTests := true, laidLooks := .later }
def ShaLengthsCardSaid : Prop := Claim7.holds Tryd.pinned (.plain (OpenSpec.ofChange shaLengthsSpec)) shaLengthsCard

/-- THE TIED CARD OF 'conciergelaw02.ShaBlocks'. -/
def shaBlocksCard : Claim7 := { stood := { row := shaBlocksRow, standIns := [], harness := (true, "965a8da0ce5c2711f41dbdd53310348fca91422acffbe9034a6b03730aadf053"), looks := false }, kinds := [], alts := [], laidByText := true, laidKinds := [.data], laidTests := true, laidLooks := .later }
def ShaBlocksCardSaid : Prop := Claim7.holds Tryd.pinned (.plain (OpenSpec.ofChange shaBlocksSpec)) shaBlocksCard

/-- THE TIED CARD OF 'conciergelaw02.ShaAdds'. -/
def shaAddsCard : Claim7 := { stood := { row := shaAddsRow, standIns := [], harness := (true, "965a8da0ce5c2711f41dbdd53310348fca91422acffbe9034a6b03730aadf053"), looks := false }, kinds := [], alts := [], laidByText := true, laidKinds := [.data], laidTests := true, laidLooks := .later }
def ShaAddsCardSaid : Prop := Claim7.holds Tryd.pinned (.plain (OpenSpec.ofChange shaAddsSpec)) shaAddsCard

/-- THE TIED CARD OF 'conciergelaw02.ShaForks'. -/
def shaForksCard : Claim7 := { stood := { row := shaForksRow, standIns := [], harness := (true, "965a8da0ce5c2711f41dbdd53310348fca91422acffbe9034a6b03730aadf053"), looks := false }, kinds := [], alts := [], laidByText := true, laidKinds := [.data], laidTests := true, laidLooks := .later }
def ShaForksCardSaid : Prop := Claim7.holds Tryd.pinned (.plain (OpenSpec.ofChange shaForksSpec)) shaForksCard

/-- THE TIED CARD OF 'conciergelaw02.ShaNobody'. -/
def shaNobodyCard : Claim7 := { stood := { row := shaNobodyRow, standIns := [], harness := (true, "965a8da0ce5c2711f41dbdd53310348fca91422acffbe9034a6b03730aadf053"), looks := false }, kinds := [], alts := [], laidByText := true, laidKinds := [.data], laidTests := true, laidLooks := .later }
def ShaNobodyCardSaid : Prop := Claim7.holds Tryd.pinned (.plain (OpenSpec.ofChange shaNobodySpec)) shaNobodyCard

/-- THE SECOND FORM's CARD OF 'conciergelaw02.ShaSteps'. -/
def shaStepsUptoCard : Claim7 := { stood := { row := shaStepsUptoRow, standIns := [], harness := (true, "965a8da0ce5c2711f41dbdd53310348fca91422acffbe9034a6b03730aadf053"), looks := false }, kinds := [], alts := [], laidByText := true, laidKinds := [.data], laidTests := true, laidLooks := .later }
def ShaStepsUptoCardSaid : Prop := Claim7.holds Tryd.pinned (.plain (OpenSpec.upto shaStepsSpec)) shaStepsUptoCard

/-- THE SECOND FORM's CARD OF 'conciergelaw02.ShaBehind'. -/
def shaBehindUptoCard : Claim7 := { stood := { row := shaBehindUptoRow, standIns := [], harness := (true, "965a8da0ce5c2711f41dbdd53310348fca91422acffbe9034a6b03730aadf053"), looks := false }, kinds := [], alts := [], laidByText := true, laidKinds := [.data], laidTests := true, laidLooks := .later }
def ShaBehindUptoCardSaid : Prop := Claim7.holds Tryd.pinned (.plain (OpenSpec.upto shaBehindSpec)) shaBehindUptoCard

/-- THE SECOND FORM's CARD OF 'conciergelaw02.ShaSums'. -/
def shaSumsUptoCard : Claim7 := { stood := { row := shaSumsUptoRow, standIns := [], harness := (true, "965a8da0ce5c2711f41dbdd53310348fca91422acffbe9034a6b03730aadf053"), looks := false }, kinds := [], alts := [], laidByText := true, laidKinds := [.data], laidTests := true, laidLooks := .later }
def ShaSumsUptoCardSaid : Prop := Claim7.holds Tryd.pinned (.plain (OpenSpec.upto shaSumsSpec)) shaSumsUptoCard

/-- THE SECOND FORM's CARD OF 'conciergelaw02.ShaLengths'. -/
def shaLengthsUptoCard : Claim7 := { stood := { row := shaLengthsUptoRow, standIns := [], harness := (true, "965a8da0ce5c2711f41dbdd53310348fca91422acffbe9034a6b03730aadf053"), looks := false }, kinds := [], alts := [], laidByText := true, laidKinds := [.data], laidTests := true, laidLooks := .later }
def ShaLengthsUptoCardSaid : Prop := Claim7.holds Tryd.pinned (.plain (OpenSpec.upto shaLengthsSpec)) shaLengthsUptoCard

/-- THE SECOND FORM's CARD OF 'conciergelaw02.ShaBlocks'. -/
def shaBlocksUptoCard : Claim7 := { stood := { row := shaBlocksUptoRow, standIns := [], harness := (true, "965a8da0ce5c2711f41dbdd53310348fca91422acffbe9034a6b03730aadf053"), looks := false }, kinds := [], alts := [], laidByText := true, laidKinds := [.data], laidTests := true, laidLooks := .later }
def ShaBlocksUptoCardSaid : Prop := Claim7.holds Tryd.pinned (.plain (OpenSpec.upto shaBlocksSpec)) shaBlocksUptoCard

/-- THE SECOND FORM's CARD OF 'conciergelaw02.ShaAdds'. -/
def shaAddsUptoCard : Claim7 := { stood := { row := shaAddsUptoRow, standIns := [], harness := (true, "965a8da0ce5c2711f41dbdd53310348fca91422acffbe9034a6b03730aadf053"), looks := false }, kinds := [], alts := [], laidByText := true, laidKinds := [.data], laidTests := true, laidLooks := .later }
def ShaAddsUptoCardSaid : Prop := Claim7.holds Tryd.pinned (.plain (OpenSpec.upto shaAddsSpec)) shaAddsUptoCard

/-- THE SECOND FORM's CARD OF 'conciergelaw02.ShaForks'. -/
def shaForksUptoCard : Claim7 := { stood := { row := shaForksUptoRow, standIns := [], harness := (true, "965a8da0ce5c2711f41dbdd53310348fca91422acffbe9034a6b03730aadf053"), looks := false }, kinds := [], alts := [], laidByText := true, laidKinds := [.data], laidTests := true, laidLooks := .later }
def ShaForksUptoCardSaid : Prop := Claim7.holds Tryd.pinned (.plain (OpenSpec.upto shaForksSpec)) shaForksUptoCard

/-- THE SECOND FORM's CARD OF 'conciergelaw02.ShaNobody'. -/
def shaNobodyUptoCard : Claim7 := { stood := { row := shaNobodyUptoRow, standIns := [], harness := (true, "965a8da0ce5c2711f41dbdd53310348fca91422acffbe9034a6b03730aadf053"), looks := false }, kinds := [], alts := [], laidByText := true, laidKinds := [.data], laidTests := true, laidLooks := .later }
def ShaNobodyUptoCardSaid : Prop := Claim7.holds Tryd.pinned (.plain (OpenSpec.upto shaNobodySpec)) shaNobodyUptoCard
end Rows
end Go.Proofs.YtegfopnjochidaaDoor
