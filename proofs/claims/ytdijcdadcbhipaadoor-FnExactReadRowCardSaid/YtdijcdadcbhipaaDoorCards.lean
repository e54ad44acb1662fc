/-
  DERIVED. GIVEN WITH THE SEED: THE CARDS: each row of YtdijcdadcbhipaaDoorRows.lean that lists a variable, with what it lists TIED to the program's text (the seventh form; the later family's looks); each row that meets fmt, with fmt's text TOLD by the authors' own Lean function (tested against real Go, not proved from fmt's source: count such statements apart). THE CARD IS WHAT COUNTS. Prove the row's statement (the work); the ties are given (YtdijcdadcbhipaaDoorTie.lean); close each card by the builder's one call (the guide's Derived/Test/ToyasCard.lean, 'card_holds'). Laid BY PROGRAM, IN A SANDBOX (cutbox-door.mjs). By AI agents, Wed Nov 11 2026. No macro, syntax, notation, axiom, sorry.
-/
import Derived.Test.YtdijcdadcbhipaaDoorRows
import GoSem.ClaimSeven
namespace Go.Proofs.YtdijcdadcbhipaaDoor
namespace Rows

/-- THE TIED CARD OF 'laws.FnChangeFormat'. -/
def fnChangeFormatCard : Claim7 := { stood := { row := fnChangeFormatRow, standIns := [], harness := (true, "29c8b1ad02af7f528a8e8da82aa85321f10a1fbbfa1eec00033ecf7b79afbf95"), looks := false }, kinds := [], alts := [], laidByText := true, laidKinds := [.data, .data, .data], laidTests := true, laidLooks := .later }
def FnChangeFormatCardSaid : Prop := Claim7.holds Tryd.pinned (.plain (OpenSpec.ofChange fnChangeFormatSpec)) fnChangeFormatCard

/-- THE TIED CARD OF 'laws.FnChangeFormatBack'. -/
def fnChangeFormatBackCard : Claim7 := { stood := { row := fnChangeFormatBackRow, standIns := [], harness := (true, "29c8b1ad02af7f528a8e8da82aa85321f10a1fbbfa1eec00033ecf7b79afbf95"), looks := false }, kinds := [], alts := [], laidByText := true, laidKinds := [.data, .data, .data], laidTests := true, laidLooks := .later }
def FnChangeFormatBackCardSaid : Prop := Claim7.holds Tryd.pinned (.plain (OpenSpec.ofChange fnChangeFormatBackSpec)) fnChangeFormatBackCard

/-- THE TIED CARD OF 'laws.FnChangeFormatOthers'. -/
def fnChangeFormatOthersCard : Claim7 := { stood := { row := fnChangeFormatOthersRow, standIns := [], harness := (true, "29c8b1ad02af7f528a8e8da82aa85321f10a1fbbfa1eec00033ecf7b79afbf95"), looks := false }, kinds := [], alts := [], laidByText := true, laidKinds := [.data, .data, .data], laidTests := true, laidLooks := .later }
def FnChangeFormatOthersCardSaid : Prop := Claim7.holds Tryd.pinned (.plain (OpenSpec.ofChange fnChangeFormatOthersSpec)) fnChangeFormatOthersCard

/-- THE TIED CARD OF 'laws.FnExactChangeFormat'. -/
def fnExactChangeFormatCard : Claim7 := { stood := { row := fnExactChangeFormatRow, standIns := [], harness := (true, "29c8b1ad02af7f528a8e8da82aa85321f10a1fbbfa1eec00033ecf7b79afbf95"), looks := false }, kinds := [], alts := [], laidByText := true, laidKinds := [.data, .data, .data], laidTests := true, laidLooks := .later }
def FnExactChangeFormatCardSaid : Prop := Claim7.holds Tryd.pinned (.plain (OpenSpec.ofChange fnExactChangeFormatSpec)) fnExactChangeFormatCard

/-- THE TIED CARD OF 'laws.FnChainOf'. -/
def fnChainOfCard : Claim7 := { stood := { row := fnChainOfRow, standIns := [], harness := (true, "29c8b1ad02af7f528a8e8da82aa85321f10a1fbbfa1eec00033ecf7b79afbf95"), looks := false }, kinds := [], alts := [], laidByText := true, laidKinds := [.data, .data, .data], laidTests := true, laidLooks := .later }
def FnChainOfCardSaid : Prop := Claim7.holds Tryd.pinned (.plain (OpenSpec.ofChange fnChainOfSpec)) fnChainOfCard

/-- THE TIED CARD OF 'laws.FnChangeRowOthers'. -/
def fnChangeRowOthersCard : Claim7 := { stood := { row := fnChangeRowOthersRow, standIns := [], harness := (true, "29c8b1ad02af7f528a8e8da82aa85321f10a1fbbfa1eec00033ecf7b79afbf95"), looks := false }, kinds := [], alts := [], laidByText := true, laidKinds := [.data, .data, .data], laidTests := true, laidLooks := .later }
def FnChangeRowOthersCardSaid : Prop := Claim7.holds Tryd.pinned (.plain (OpenSpec.ofChange fnChangeRowOthersSpec)) fnChangeRowOthersCard

/-- THE TIED CARD OF 'laws.FnChangeRow'. -/
def fnChangeRowCard : Claim7 := { stood := { row := fnChangeRowRow, standIns := [], harness := (true, "29c8b1ad02af7f528a8e8da82aa85321f10a1fbbfa1eec00033ecf7b79afbf95"), looks := false }, kinds := [], alts := [], laidByText := true, laidKinds := [.data, .data, .data], laidTests := true, laidLooks := .later }
def FnChangeRowCardSaid : Prop := Claim7.holds Tryd.pinned (.plain (OpenSpec.ofChange fnChangeRowSpec)) fnChangeRowCard

/-- THE TIED CARD OF 'laws.FnExactChangeRow'. -/
def fnExactChangeRowCard : Claim7 := { stood := { row := fnExactChangeRowRow, standIns := [], harness := (true, "29c8b1ad02af7f528a8e8da82aa85321f10a1fbbfa1eec00033ecf7b79afbf95"), looks := false }, kinds := [], alts := [], laidByText := true, laidKinds := [.data, .data, .data], laidTests := true, laidLooks := .later }
def FnExactChangeRowCardSaid : Prop := Claim7.holds Tryd.pinned (.plain (OpenSpec.ofChange fnExactChangeRowSpec)) fnExactChangeRowCard

/-- THE TIED CARD OF 'laws.FnExactChainOf'. -/
def fnExactChainOfCard : Claim7 := { stood := { row := fnExactChainOfRow, standIns := [], harness := (true, "29c8b1ad02af7f528a8e8da82aa85321f10a1fbbfa1eec00033ecf7b79afbf95"), looks := false }, kinds := [], alts := [], laidByText := true, laidKinds := [.data, .data, .data], laidTests := true, laidLooks := .later }
def FnExactChainOfCardSaid : Prop := Claim7.holds Tryd.pinned (.plain (OpenSpec.ofChange fnExactChainOfSpec)) fnExactChainOfCard

/-- THE TIED CARD OF 'laws.FnReadRow'. -/
def fnReadRowCard : Claim7 := { stood := { row := fnReadRowRow, standIns := [], harness := (true, "29c8b1ad02af7f528a8e8da82aa85321f10a1fbbfa1eec00033ecf7b79afbf95"), looks := false }, kinds := [], alts := [], laidByText := true, laidKinds := [.data, .data, .data], laidTests := true, laidLooks := .later }
def FnReadRowCardSaid : Prop := Claim7.holds Tryd.pinned (.plain (OpenSpec.ofChange fnReadRowSpec)) fnReadRowCard

/-- THE TIED CARD OF 'laws.FnReadRowParts'. -/
def fnReadRowPartsCard : Claim7 := { stood := { row := fnReadRowPartsRow, standIns := [], harness := (true, "29c8b1ad02af7f528a8e8da82aa85321f10a1fbbfa1eec00033ecf7b79afbf95"), looks := false }, kinds := [], alts := [], laidByText := true, laidKinds := [.data, .data, .data], laidTests := true, laidLooks := .later }
def FnReadRowPartsCardSaid : Prop := Claim7.holds Tryd.pinned (.plain (OpenSpec.ofChange fnReadRowPartsSpec)) fnReadRowPartsCard

/-- THE TIED CARD OF 'laws.FnExactReadRow'. -/
def fnExactReadRowCard : Claim7 := { stood := { row := fnExactReadRowRow, standIns := [], harness := (true, "29c8b1ad02af7f528a8e8da82aa85321f10a1fbbfa1eec00033ecf7b79afbf95"), looks := false }, kinds := [], alts := [], laidByText := true, laidKinds := [.data, .data, .data], laidTests := true, laidLooks := .later }
def FnExactReadRowCardSaid : Prop := Claim7.holds Tryd.pinned (.plain (OpenSpec.ofChange fnExactReadRowSpec)) fnExactReadRowCard

/-- THE SECOND FORM's CARD OF 'laws.FnChangeFormat'. -/
def fnChangeFormatUptoCard : Claim7 := { stood := { row := fnChangeFormatUptoRow, standIns := [], harness := (true, "29c8b1ad02af7f528a8e8da82aa85321f10a1fbbfa1eec00033ecf7b79afbf95"), looks := false }, kinds := [], alts := [], laidByText := true, laidKinds := [.data, .data, .data], laidTests := true, laidLooks := .later }
def FnChangeFormatUptoCardSaid : Prop := Claim7.holds Tryd.pinned (.plain (OpenSpec.upto fnChangeFormatSpec)) fnChangeFormatUptoCard

/-- THE SECOND FORM's CARD OF 'laws.FnChangeFormatBack'. -/
def fnChangeFormatBackUptoCard : Claim7 := { stood := { row := fnChangeFormatBackUptoRow, standIns := [], harness := (true, "29c8b1ad02af7f528a8e8da82aa85321f10a1fbbfa1eec00033ecf7b79afbf95"), looks := false }, kinds := [], alts := [], laidByText := true, laidKinds := [.data, .data, .data], laidTests := true, laidLooks := .later }
def FnChangeFormatBackUptoCardSaid : Prop := Claim7.holds Tryd.pinned (.plain (OpenSpec.upto fnChangeFormatBackSpec)) fnChangeFormatBackUptoCard

/-- THE SECOND FORM's CARD OF 'laws.FnChangeFormatOthers'. -/
def fnChangeFormatOthersUptoCard : Claim7 := { stood := { row := fnChangeFormatOthersUptoRow, standIns := [], harness := (true, "29c8b1ad02af7f528a8e8da82aa85321f10a1fbbfa1eec00033ecf7b79afbf95"), looks := false }, kinds := [], alts := [], laidByText := true, laidKinds := [.data, .data, .data], laidTests := true, laidLooks := .later }
def FnChangeFormatOthersUptoCardSaid : Prop := Claim7.holds Tryd.pinned (.plain (OpenSpec.upto fnChangeFormatOthersSpec)) fnChangeFormatOthersUptoCard

/-- THE SECOND FORM's CARD OF 'laws.FnExactChangeFormat'. -/
def fnExactChangeFormatUptoCard : Claim7 := { stood := { row := fnExactChangeFormatUptoRow, standIns := [], harness := (true, "29c8b1ad02af7f528a8e8da82aa85321f10a1fbbfa1eec00033ecf7b79afbf95"), looks := false }, kinds := [], alts := [], laidByText := true, laidKinds := [.data, .data, .data], laidTests := true, laidLooks := .later }
def FnExactChangeFormatUptoCardSaid : Prop := Claim7.holds Tryd.pinned (.plain (OpenSpec.upto fnExactChangeFormatSpec)) fnExactChangeFormatUptoCard

/-- THE SECOND FORM's CARD OF 'laws.FnChainOf'. -/
def fnChainOfUptoCard : Claim7 := { stood := { row := fnChainOfUptoRow, standIns := [], harness := (true, "29c8b1ad02af7f528a8e8da82aa85321f10a1fbbfa1eec00033ecf7b79afbf95"), looks := false }, kinds := [], alts := [], laidByText := true, laidKinds := [.data, .data, .data], laidTests := true, laidLooks := .later }
def FnChainOfUptoCardSaid : Prop := Claim7.holds Tryd.pinned (.plain (OpenSpec.upto fnChainOfSpec)) fnChainOfUptoCard

/-- THE SECOND FORM's CARD OF 'laws.FnChangeRowOthers'. -/
def fnChangeRowOthersUptoCard : Claim7 := { stood := { row := fnChangeRowOthersUptoRow, standIns := [], harness := (true, "29c8b1ad02af7f528a8e8da82aa85321f10a1fbbfa1eec00033ecf7b79afbf95"), looks := false }, kinds := [], alts := [], laidByText := true, laidKinds := [.data, .data, .data], laidTests := true, laidLooks := .later }
def FnChangeRowOthersUptoCardSaid : Prop := Claim7.holds Tryd.pinned (.plain (OpenSpec.upto fnChangeRowOthersSpec)) fnChangeRowOthersUptoCard

/-- THE SECOND FORM's CARD OF 'laws.FnChangeRow'. -/
def fnChangeRowUptoCard : Claim7 := { stood := { row := fnChangeRowUptoRow, standIns := [], harness := (true, "29c8b1ad02af7f528a8e8da82aa85321f10a1fbbfa1eec00033ecf7b79afbf95"), looks := false }, kinds := [], alts := [], laidByText := true, laidKinds := [.data, .data, .data], laidTests := true, laidLooks := .later }
def FnChangeRowUptoCardSaid : Prop := Claim7.holds Tryd.pinned (.plain (OpenSpec.upto fnChangeRowSpec)) fnChangeRowUptoCard

/-- THE SECOND FORM's CARD OF 'laws.FnExactChangeRow'. -/
def fnExactChangeRowUptoCard : Claim7 := { stood := { row := fnExactChangeRowUptoRow, standIns := [], harness := (true, "29c8b1ad02af7f528a8e8da82aa85321f10a1fbbfa1eec00033ecf7b79afbf95"), looks := false }, kinds := [], alts := [], laidByText := true, laidKinds := [.data, .data, .data], laidTests := true, laidLooks := .later }
def FnExactChangeRowUptoCardSaid : Prop := Claim7.holds Tryd.pinned (.plain (OpenSpec.upto fnExactChangeRowSpec)) fnExactChangeRowUptoCard

/-- THE SECOND FORM's CARD OF 'laws.FnExactChainOf'. -/
def fnExactChainOfUptoCard : Claim7 := { stood := { row := fnExactChainOfUptoRow, standIns := [], harness := (true, "29c8b1ad02af7f528a8e8da82aa85321f10a1fbbfa1eec00033ecf7b79afbf95"), looks := false }, kinds := [], alts := [], laidByText := true, laidKinds := [.data, .data, .data], laidTests := true, laidLooks := .later }
def FnExactChainOfUptoCardSaid : Prop := Claim7.holds Tryd.pinned (.plain (OpenSpec.upto fnExactChainOfSpec)) fnExactChainOfUptoCard

/-- THE SECOND FORM's CARD OF 'laws.FnReadRow'. -/
def fnReadRowUptoCard : Claim7 := { stood := { row := fnReadRowUptoRow, standIns := [], harness := (true, "29c8b1ad02af7f528a8e8da82aa85321f10a1fbbfa1eec00033ecf7b79afbf95"), looks := false }, kinds := [], alts := [], laidByText := true, laidKinds := [.data, .data, .data], laidTests := true, laidLooks := .later }
def FnReadRowUptoCardSaid : Prop := Claim7.holds Tryd.pinned (.plain (OpenSpec.upto fnReadRowSpec)) fnReadRowUptoCard

/-- THE SECOND FORM's CARD OF 'laws.FnReadRowParts'. -/
def fnReadRowPartsUptoCard : Claim7 := { stood := { row := fnReadRowPartsUptoRow, standIns := [], harness := (true, "29c8b1ad02af7f528a8e8da82aa85321f10a1fbbfa1eec00033ecf7b79afbf95"), looks := false }, kinds := [], alts := [], laidByText := true, laidKinds := [.data, .data, .data], laidTests := true, laidLooks := .later }
def FnReadRowPartsUptoCardSaid : Prop := Claim7.holds Tryd.pinned (.plain (OpenSpec.upto fnReadRowPartsSpec)) fnReadRowPartsUptoCard

/-- THE SECOND FORM's CARD OF 'laws.FnExactReadRow'. -/
def fnExactReadRowUptoCard : Claim7 := { stood := { row := fnExactReadRowUptoRow, standIns := [], harness := (true, "29c8b1ad02af7f528a8e8da82aa85321f10a1fbbfa1eec00033ecf7b79afbf95"), looks := false }, kinds := [], alts := [], laidByText := true, laidKinds := [.data, .data, .data], laidTests := true, laidLooks := .later }
def FnExactReadRowUptoCardSaid : Prop := Claim7.holds Tryd.pinned (.plain (OpenSpec.upto fnExactReadRowSpec)) fnExactReadRowUptoCard
end Rows
end Go.Proofs.YtdijcdadcbhipaaDoor
