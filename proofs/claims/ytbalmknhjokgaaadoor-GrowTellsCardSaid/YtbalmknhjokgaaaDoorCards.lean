/-
  DERIVED. GIVEN WITH THE SEED: THE CARDS: each row of YtbalmknhjokgaaaDoorRows.lean that lists a variable, with what it lists TIED to the program's text (the seventh form; the later family's looks); each row that meets fmt, with fmt's text TOLD by the authors' own Lean function (tested against real Go, not proved from fmt's source: count such statements apart). THE CARD IS WHAT COUNTS. Prove the row's statement (the work); the ties are given (YtbalmknhjokgaaaDoorTie.lean); close each card by the builder's one call (the guide's Derived/Test/ToyasCard.lean, 'card_holds'). Laid BY PROGRAM, IN A SANDBOX (cutbox-door.mjs). By AI agents, Wed Nov 11 2026. No macro, syntax, notation, axiom, sorry.
-/
import Derived.Test.YtbalmknhjokgaaaDoorRows
import GoSem.ClaimSeven
namespace Go.Proofs.YtbalmknhjokgaaaDoor
namespace Rows

/-- THE TIED CARD OF 'orchlaw1.FlatTells'. -/
def flatTellsCard : Claim7 := { stood := { row := flatTellsRow, standIns := [], harness := (true, "ba4130ed81c4b6c849ba2a82147886cd40b81b94e361accd306c023bf21e75c5"), looks := true }, kinds := [], alts := [], laidByText := true, laidKinds := [.handle], laidTests := true, laidLooks := .later }
def FlatTellsCardSaid : Prop := Claim7.holds Tryd.pinned (.plain (OpenSpec.ofChange flatTellsSpec)) flatTellsCard

/-- THE TIED CARD OF 'orchlaw2.WeighTells'. -/
def weighTellsCard : Claim7 := { stood := { row := weighTellsRow, standIns := [], harness := (true, "ba4130ed81c4b6c849ba2a82147886cd40b81b94e361accd306c023bf21e75c5"), looks := true }, kinds := [], alts := [], laidByText := true, laidKinds := [.handle], laidTests := true, laidLooks := .later }
def WeighTellsCardSaid : Prop := Claim7.holds Tryd.pinned (.plain (OpenSpec.ofChange weighTellsSpec)) weighTellsCard

/-- THE TIED CARD OF 'orchlaw4.ScoreAgain'. -/
def scoreAgainCard : Claim7 := { stood := { row := scoreAgainRow, standIns := [], harness := (true, "ba4130ed81c4b6c849ba2a82147886cd40b81b94e361accd306c023bf21e75c5"), looks := true }, kinds := [], alts := [], laidByText := true, laidKinds := [.handle], laidTests := true, laidLooks := .later }
def ScoreAgainCardSaid : Prop := Claim7.holds Tryd.pinned (.plain (OpenSpec.ofChange scoreAgainSpec)) scoreAgainCard

/-- THE TIED CARD OF 'orchlaw3.ScoreTells'. -/
def scoreTellsCard : Claim7 := { stood := { row := scoreTellsRow, standIns := [], harness := (true, "ba4130ed81c4b6c849ba2a82147886cd40b81b94e361accd306c023bf21e75c5"), looks := true }, kinds := [], alts := [], laidByText := true, laidKinds := [.handle], laidTests := true, laidLooks := .later }
def ScoreTellsCardSaid : Prop := Claim7.holds Tryd.pinned (.plain (OpenSpec.ofChange scoreTellsSpec)) scoreTellsCard

/-- THE TIED CARD OF 'orchlaw2.GrowTells'. -/
def growTellsCard : Claim7 := { stood := { row := growTellsRow, standIns := [], harness := (true, "ba4130ed81c4b6c849ba2a82147886cd40b81b94e361accd306c023bf21e75c5"), looks := true }, kinds := [], alts := [], laidByText := true, laidKinds := [.handle], laidTests := true, laidLooks := .later }
def GrowTellsCardSaid : Prop := Claim7.holds Tryd.pinned (.plain (OpenSpec.ofChange growTellsSpec)) growTellsCard

/-- THE TIED CARD OF 'orchlaw1.RowBack'. -/
def rowBackCard : Claim7 := { stood := { row := rowBackRow, standIns := [], harness := (true, "ba4130ed81c4b6c849ba2a82147886cd40b81b94e361accd306c023bf21e75c5"), looks := true }, kinds := [], alts := [], laidByText := true, laidKinds := [.data, .data, .data, .data, .sentinel, .sentinel, .pinned], laidTests := true, laidLooks := .later }
def RowBackCardSaid : Prop := Claim7.holds Tryd.pinned (.plain (OpenSpec.ofChange rowBackSpec)) rowBackCard

/-- THE TIED CARD OF 'orchlaw3.LogKeeps'. -/
def logKeepsCard : Claim7 := { stood := { row := logKeepsRow, standIns := [], harness := (true, "ba4130ed81c4b6c849ba2a82147886cd40b81b94e361accd306c023bf21e75c5"), looks := true }, kinds := [], alts := [], laidByText := true, laidKinds := [.handle], laidTests := true, laidLooks := .later }
def LogKeepsCardSaid : Prop := Claim7.holds Tryd.pinned (.plain (OpenSpec.ofChange logKeepsSpec)) logKeepsCard

/-- THE SECOND FORM's CARD OF 'orchlaw1.FlatTells'. -/
def flatTellsUptoCard : Claim7 := { stood := { row := flatTellsUptoRow, standIns := [], harness := (true, "ba4130ed81c4b6c849ba2a82147886cd40b81b94e361accd306c023bf21e75c5"), looks := true }, kinds := [], alts := [], laidByText := true, laidKinds := [.handle], laidTests := true, laidLooks := .later }
def FlatTellsUptoCardSaid : Prop := Claim7.holds Tryd.pinned (.plain (OpenSpec.upto flatTellsSpec)) flatTellsUptoCard

/-- THE SECOND FORM's CARD OF 'orchlaw2.WeighTells'. -/
def weighTellsUptoCard : Claim7 := { stood := { row := weighTellsUptoRow, standIns := [], harness := (true, "ba4130ed81c4b6c849ba2a82147886cd40b81b94e361accd306c023bf21e75c5"), looks := true }, kinds := [], alts := [], laidByText := true, laidKinds := [.handle], laidTests := true, laidLooks := .later }
def WeighTellsUptoCardSaid : Prop := Claim7.holds Tryd.pinned (.plain (OpenSpec.upto weighTellsSpec)) weighTellsUptoCard

/-- THE SECOND FORM's CARD OF 'orchlaw4.ScoreAgain'. -/
def scoreAgainUptoCard : Claim7 := { stood := { row := scoreAgainUptoRow, standIns := [], harness := (true, "ba4130ed81c4b6c849ba2a82147886cd40b81b94e361accd306c023bf21e75c5"), looks := true }, kinds := [], alts := [], laidByText := true, laidKinds := [.handle], laidTests := true, laidLooks := .later }
def ScoreAgainUptoCardSaid : Prop := Claim7.holds Tryd.pinned (.plain (OpenSpec.upto scoreAgainSpec)) scoreAgainUptoCard

/-- THE SECOND FORM's CARD OF 'orchlaw3.ScoreTells'. -/
def scoreTellsUptoCard : Claim7 := { stood := { row := scoreTellsUptoRow, standIns := [], harness := (true, "ba4130ed81c4b6c849ba2a82147886cd40b81b94e361accd306c023bf21e75c5"), looks := true }, kinds := [], alts := [], laidByText := true, laidKinds := [.handle], laidTests := true, laidLooks := .later }
def ScoreTellsUptoCardSaid : Prop := Claim7.holds Tryd.pinned (.plain (OpenSpec.upto scoreTellsSpec)) scoreTellsUptoCard

/-- THE SECOND FORM's CARD OF 'orchlaw2.GrowTells'. -/
def growTellsUptoCard : Claim7 := { stood := { row := growTellsUptoRow, standIns := [], harness := (true, "ba4130ed81c4b6c849ba2a82147886cd40b81b94e361accd306c023bf21e75c5"), looks := true }, kinds := [], alts := [], laidByText := true, laidKinds := [.handle], laidTests := true, laidLooks := .later }
def GrowTellsUptoCardSaid : Prop := Claim7.holds Tryd.pinned (.plain (OpenSpec.upto growTellsSpec)) growTellsUptoCard

/-- THE SECOND FORM's CARD OF 'orchlaw1.RowBack'. -/
def rowBackUptoCard : Claim7 := { stood := { row := rowBackUptoRow, standIns := [], harness := (true, "ba4130ed81c4b6c849ba2a82147886cd40b81b94e361accd306c023bf21e75c5"), looks := true }, kinds := [], alts := [], laidByText := true, laidKinds := [.data, .data, .data, .data, .sentinel, .sentinel, .pinned], laidTests := true, laidLooks := .later }
def RowBackUptoCardSaid : Prop := Claim7.holds Tryd.pinned (.plain (OpenSpec.upto rowBackSpec)) rowBackUptoCard

/-- THE SECOND FORM's CARD OF 'orchlaw3.LogKeeps'. -/
def logKeepsUptoCard : Claim7 := { stood := { row := logKeepsUptoRow, standIns := [], harness := (true, "ba4130ed81c4b6c849ba2a82147886cd40b81b94e361accd306c023bf21e75c5"), looks := true }, kinds := [], alts := [], laidByText := true, laidKinds := [.handle], laidTests := true, laidLooks := .later }
def LogKeepsUptoCardSaid : Prop := Claim7.holds Tryd.pinned (.plain (OpenSpec.upto logKeepsSpec)) logKeepsUptoCard
end Rows
end Go.Proofs.YtbalmknhjokgaaaDoor
