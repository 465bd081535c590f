/-
  DERIVED. GIVEN WITH THE SEED: THE CARDS: each row of YtfdemglcjfdodaaDoorRows.lean that lists a variable, with what it lists TIED to the program's text (the seventh form; the later family's looks); each row that meets fmt, with fmt's text TOLD by the authors' own Lean function (tested against real Go, not proved from fmt's source: count such statements apart). THE CARD IS WHAT COUNTS. Prove the row's statement (the work); the ties are given (YtfdemglcjfdodaaDoorTie.lean); close each card by the builder's one call (the guide's Derived/Test/ToyasCard.lean, 'card_holds'). Laid BY PROGRAM, IN A SANDBOX (cutbox-door.mjs). By AI agents, Wed Nov 11 2026. No macro, syntax, notation, axiom, sorry.
-/
import Derived.Test.YtfdemglcjfdodaaDoorRows
import GoSem.ClaimSeven
namespace Go.Proofs.YtfdemglcjfdodaaDoor
namespace Rows

/-- THE TIED CARD OF 'inquestlaw21.NameFinds'. -/
def nameFindsCard : Claim7 := { stood := { row := nameFindsRow, standIns := [], harness := (true, "ac5a4fdee244f0bbd8b3bb871f62aaed3fdb66e75f7ec2ccb9a1d5b467745d04"), looks := true }, kinds := [], alts := [], laidByText := true, laidKinds := [.data, .data, .data, .data, .sentinel, .sentinel, .pinned], laidTests := true, laidLooks := .later }
def NameFindsCardSaid : Prop := Claim7.holds Tryd.pinned (.plain (OpenSpec.ofChange nameFindsSpec)) nameFindsCard

/-- THE TIED CARD OF 'inquestlaw21.NameOwn'. -/
def nameOwnCard : Claim7 := { stood := { row := nameOwnRow, standIns := [], harness := (true, "ac5a4fdee244f0bbd8b3bb871f62aaed3fdb66e75f7ec2ccb9a1d5b467745d04"), looks := true }, kinds := [], alts := [], laidByText := true, laidKinds := [.data, .data, .data, .data, .sentinel, .sentinel, .pinned], laidTests := true, laidLooks := .later }
def NameOwnCardSaid : Prop := Claim7.holds Tryd.pinned (.plain (OpenSpec.ofChange nameOwnSpec)) nameOwnCard

/-- THE TIED CARD OF 'inquestlaw01.LexTells'. -/
def lexTellsCard : Claim7 := { stood := { row := lexTellsRow, standIns := [], harness := (true, "ac5a4fdee244f0bbd8b3bb871f62aaed3fdb66e75f7ec2ccb9a1d5b467745d04"), looks := true }, kinds := [], alts := [], laidByText := true, laidKinds := [.data, .data, .data, .data, .sentinel, .sentinel, .pinned], laidTests := true, laidLooks := .later }
def LexTellsCardSaid : Prop := Claim7.holds Tryd.pinned (.plain (OpenSpec.ofChange lexTellsSpec)) lexTellsCard

/-- THE TIED CARD OF 'inquestlaw01.LexBack'. -/
def lexBackCard : Claim7 := { stood := { row := lexBackRow, standIns := [], harness := (true, "ac5a4fdee244f0bbd8b3bb871f62aaed3fdb66e75f7ec2ccb9a1d5b467745d04"), looks := true }, kinds := [], alts := [], laidByText := true, laidKinds := [.data, .data, .data, .data, .sentinel, .sentinel, .pinned], laidTests := true, laidLooks := .later }
def LexBackCardSaid : Prop := Claim7.holds Tryd.pinned (.plain (OpenSpec.ofChange lexBackSpec)) lexBackCard

/-- THE TIED CARD OF 'inquestlaw01.LexOnce'. -/
def lexOnceCard : Claim7 := { stood := { row := lexOnceRow, standIns := [], harness := (true, "ac5a4fdee244f0bbd8b3bb871f62aaed3fdb66e75f7ec2ccb9a1d5b467745d04"), looks := true }, kinds := [], alts := [], laidByText := true, laidKinds := [.data, .data, .data, .data, .sentinel, .sentinel, .pinned], laidTests := true, laidLooks := .later }
def LexOnceCardSaid : Prop := Claim7.holds Tryd.pinned (.plain (OpenSpec.ofChange lexOnceSpec)) lexOnceCard

/-- THE TIED CARD OF 'inquestlaw04.BinOnce'. -/
def binOnceCard : Claim7 := { stood := { row := binOnceRow, standIns := [], harness := (true, "ac5a4fdee244f0bbd8b3bb871f62aaed3fdb66e75f7ec2ccb9a1d5b467745d04"), looks := true }, kinds := [], alts := [], laidByText := true, laidKinds := [.data, .data, .data, .data, .sentinel, .sentinel, .pinned], laidTests := true, laidLooks := .later }
def BinOnceCardSaid : Prop := Claim7.holds Tryd.pinned (.plain (OpenSpec.ofChange binOnceSpec)) binOnceCard

/-- THE SECOND FORM's CARD OF 'inquestlaw21.NameFinds'. -/
def nameFindsUptoCard : Claim7 := { stood := { row := nameFindsUptoRow, standIns := [], harness := (true, "ac5a4fdee244f0bbd8b3bb871f62aaed3fdb66e75f7ec2ccb9a1d5b467745d04"), looks := true }, kinds := [], alts := [], laidByText := true, laidKinds := [.data, .data, .data, .data, .sentinel, .sentinel, .pinned], laidTests := true, laidLooks := .later }
def NameFindsUptoCardSaid : Prop := Claim7.holds Tryd.pinned (.plain (OpenSpec.upto nameFindsSpec)) nameFindsUptoCard

/-- THE SECOND FORM's CARD OF 'inquestlaw21.NameOwn'. -/
def nameOwnUptoCard : Claim7 := { stood := { row := nameOwnUptoRow, standIns := [], harness := (true, "ac5a4fdee244f0bbd8b3bb871f62aaed3fdb66e75f7ec2ccb9a1d5b467745d04"), looks := true }, kinds := [], alts := [], laidByText := true, laidKinds := [.data, .data, .data, .data, .sentinel, .sentinel, .pinned], laidTests := true, laidLooks := .later }
def NameOwnUptoCardSaid : Prop := Claim7.holds Tryd.pinned (.plain (OpenSpec.upto nameOwnSpec)) nameOwnUptoCard

/-- THE SECOND FORM's CARD OF 'inquestlaw01.LexTells'. -/
def lexTellsUptoCard : Claim7 := { stood := { row := lexTellsUptoRow, standIns := [], harness := (true, "ac5a4fdee244f0bbd8b3bb871f62aaed3fdb66e75f7ec2ccb9a1d5b467745d04"), looks := true }, kinds := [], alts := [], laidByText := true, laidKinds := [.data, .data, .data, .data, .sentinel, .sentinel, .pinned], laidTests := true, laidLooks := .later }
def LexTellsUptoCardSaid : Prop := Claim7.holds Tryd.pinned (.plain (OpenSpec.upto lexTellsSpec)) lexTellsUptoCard

/-- THE SECOND FORM's CARD OF 'inquestlaw01.LexBack'. -/
def lexBackUptoCard : Claim7 := { stood := { row := lexBackUptoRow, standIns := [], harness := (true, "ac5a4fdee244f0bbd8b3bb871f62aaed3fdb66e75f7ec2ccb9a1d5b467745d04"), looks := true }, kinds := [], alts := [], laidByText := true, laidKinds := [.data, .data, .data, .data, .sentinel, .sentinel, .pinned], laidTests := true, laidLooks := .later }
def LexBackUptoCardSaid : Prop := Claim7.holds Tryd.pinned (.plain (OpenSpec.upto lexBackSpec)) lexBackUptoCard

/-- THE SECOND FORM's CARD OF 'inquestlaw01.LexOnce'. -/
def lexOnceUptoCard : Claim7 := { stood := { row := lexOnceUptoRow, standIns := [], harness := (true, "ac5a4fdee244f0bbd8b3bb871f62aaed3fdb66e75f7ec2ccb9a1d5b467745d04"), looks := true }, kinds := [], alts := [], laidByText := true, laidKinds := [.data, .data, .data, .data, .sentinel, .sentinel, .pinned], laidTests := true, laidLooks := .later }
def LexOnceUptoCardSaid : Prop := Claim7.holds Tryd.pinned (.plain (OpenSpec.upto lexOnceSpec)) lexOnceUptoCard

/-- THE SECOND FORM's CARD OF 'inquestlaw04.BinOnce'. -/
def binOnceUptoCard : Claim7 := { stood := { row := binOnceUptoRow, standIns := [], harness := (true, "ac5a4fdee244f0bbd8b3bb871f62aaed3fdb66e75f7ec2ccb9a1d5b467745d04"), looks := true }, kinds := [], alts := [], laidByText := true, laidKinds := [.data, .data, .data, .data, .sentinel, .sentinel, .pinned], laidTests := true, laidLooks := .later }
def BinOnceUptoCardSaid : Prop := Claim7.holds Tryd.pinned (.plain (OpenSpec.upto binOnceSpec)) binOnceUptoCard
end Rows
end Go.Proofs.YtfdemglcjfdodaaDoor
