/-
  DERIVED. GIVEN WITH THE SEED: THE CARDS: each row of YtiflfnnnbgmomaaDoorRows.lean that lists a variable, with what it lists TIED to the program's text (the seventh form; the later family's looks); each row that meets fmt, with fmt's text TOLD by the authors' own Lean function (tested against real Go, not proved from fmt's source: count such statements apart). THE CARD IS WHAT COUNTS. Prove the row's statement (the work); the ties are given (YtiflfnnnbgmomaaDoorTie.lean); close each card by the builder's one call (the guide's Derived/Test/ToyasCard.lean, 'card_holds'). Laid BY PROGRAM, IN A SANDBOX (cutbox-door.mjs). By AI agents, Wed Nov 11 2026. No macro, syntax, notation, axiom, sorry.
-/
import Derived.Test.YtiflfnnnbgmomaaDoorRows
import GoSem.ClaimSeven
namespace Go.Proofs.YtiflfnnnbgmomaaDoor
namespace Rows

/-- THE TIED CARD OF 'trammellaw6.ScopeForms'. -/
def scopeFormsCard : Claim7 := { stood := { row := scopeFormsRow, standIns := [], harness := (true, "a64dec817c562097b49d64b278274537a90b1bc883608b2399acebe242ecc728"), looks := true }, kinds := [], alts := [], laidByText := true, laidKinds := [.data, .handle, .pinned], laidTests := true, laidLooks := .later }
def ScopeFormsCardSaid : Prop := Claim7.holds Tryd.pinned (.plain (OpenSpec.ofChange scopeFormsSpec)) scopeFormsCard

/-- THE TIED CARD OF 'trammellaw5.ShowForms'. -/
def showFormsCard : Claim7 := { stood := { row := showFormsRow, standIns := [], harness := (true, "a64dec817c562097b49d64b278274537a90b1bc883608b2399acebe242ecc728"), looks := true }, kinds := [], alts := [], laidByText := true, laidKinds := [.data, .data, .data, .data, .pinned], laidTests := true, laidLooks := .later }
def ShowFormsCardSaid : Prop := Claim7.holds Tryd.pinned (.plain (OpenSpec.ofChange showFormsSpec)) showFormsCard

/-- THE TIED CARD OF 'trammellaw5.ShowUnlike'. -/
def showUnlikeCard : Claim7 := { stood := { row := showUnlikeRow, standIns := [], harness := (true, "a64dec817c562097b49d64b278274537a90b1bc883608b2399acebe242ecc728"), looks := true }, kinds := [], alts := [], laidByText := true, laidKinds := [.data, .data, .data, .data, .pinned], laidTests := true, laidLooks := .later }
def ShowUnlikeCardSaid : Prop := Claim7.holds Tryd.pinned (.plain (OpenSpec.ofChange showUnlikeSpec)) showUnlikeCard

/-- THE TIED CARD OF 'trammellaw4.ParseForms'. -/
def parseFormsCard : Claim7 := { stood := { row := parseFormsRow, standIns := [], harness := (true, "a64dec817c562097b49d64b278274537a90b1bc883608b2399acebe242ecc728"), looks := true }, kinds := [], alts := [], laidByText := true, laidKinds := [.data, .handle, .pinned], laidTests := true, laidLooks := .later }
def ParseFormsCardSaid : Prop := Claim7.holds Tryd.pinned (.plain (OpenSpec.ofChange parseFormsSpec)) parseFormsCard

/-- THE TIED CARD OF 'trammellaw4.ParseDeep'. -/
def parseDeepCard : Claim7 := { stood := { row := parseDeepRow, standIns := [], harness := (true, "a64dec817c562097b49d64b278274537a90b1bc883608b2399acebe242ecc728"), looks := true }, kinds := [], alts := [], laidByText := true, laidKinds := [.data, .handle, .pinned], laidTests := true, laidLooks := .later }
def ParseDeepCardSaid : Prop := Claim7.holds Tryd.pinned (.plain (OpenSpec.ofChange parseDeepSpec)) parseDeepCard

/-- THE TIED CARD OF 'trammellaw4.ParseMany'. -/
def parseManyCard : Claim7 := { stood := { row := parseManyRow, standIns := [], harness := (true, "a64dec817c562097b49d64b278274537a90b1bc883608b2399acebe242ecc728"), looks := true }, kinds := [], alts := [], laidByText := true, laidKinds := [.data, .handle, .pinned], laidTests := true, laidLooks := .later }
def ParseManyCardSaid : Prop := Claim7.holds Tryd.pinned (.plain (OpenSpec.ofChange parseManySpec)) parseManyCard

/-- THE TIED CARD OF 'trammellaw4.ParseBlanks'. -/
def parseBlanksCard : Claim7 := { stood := { row := parseBlanksRow, standIns := [], harness := (true, "a64dec817c562097b49d64b278274537a90b1bc883608b2399acebe242ecc728"), looks := true }, kinds := [], alts := [], laidByText := true, laidKinds := [.data, .handle, .pinned], laidTests := true, laidLooks := .later }
def ParseBlanksCardSaid : Prop := Claim7.holds Tryd.pinned (.plain (OpenSpec.ofChange parseBlanksSpec)) parseBlanksCard

/-- THE TIED CARD OF 'trammellaw4.ParseTight'. -/
def parseTightCard : Claim7 := { stood := { row := parseTightRow, standIns := [], harness := (true, "a64dec817c562097b49d64b278274537a90b1bc883608b2399acebe242ecc728"), looks := true }, kinds := [], alts := [], laidByText := true, laidKinds := [.data, .handle, .pinned], laidTests := true, laidLooks := .later }
def ParseTightCardSaid : Prop := Claim7.holds Tryd.pinned (.plain (OpenSpec.ofChange parseTightSpec)) parseTightCard

/-- THE SECOND FORM's CARD OF 'trammellaw6.ScopeForms'. -/
def scopeFormsUptoCard : Claim7 := { stood := { row := scopeFormsUptoRow, standIns := [], harness := (true, "a64dec817c562097b49d64b278274537a90b1bc883608b2399acebe242ecc728"), looks := true }, kinds := [], alts := [], laidByText := true, laidKinds := [.data, .handle, .pinned], laidTests := true, laidLooks := .later }
def ScopeFormsUptoCardSaid : Prop := Claim7.holds Tryd.pinned (.plain (OpenSpec.upto scopeFormsSpec)) scopeFormsUptoCard

/-- THE SECOND FORM's CARD OF 'trammellaw5.ShowForms'. -/
def showFormsUptoCard : Claim7 := { stood := { row := showFormsUptoRow, standIns := [], harness := (true, "a64dec817c562097b49d64b278274537a90b1bc883608b2399acebe242ecc728"), looks := true }, kinds := [], alts := [], laidByText := true, laidKinds := [.data, .data, .data, .data, .pinned], laidTests := true, laidLooks := .later }
def ShowFormsUptoCardSaid : Prop := Claim7.holds Tryd.pinned (.plain (OpenSpec.upto showFormsSpec)) showFormsUptoCard

/-- THE SECOND FORM's CARD OF 'trammellaw5.ShowUnlike'. -/
def showUnlikeUptoCard : Claim7 := { stood := { row := showUnlikeUptoRow, standIns := [], harness := (true, "a64dec817c562097b49d64b278274537a90b1bc883608b2399acebe242ecc728"), looks := true }, kinds := [], alts := [], laidByText := true, laidKinds := [.data, .data, .data, .data, .pinned], laidTests := true, laidLooks := .later }
def ShowUnlikeUptoCardSaid : Prop := Claim7.holds Tryd.pinned (.plain (OpenSpec.upto showUnlikeSpec)) showUnlikeUptoCard

/-- THE SECOND FORM's CARD OF 'trammellaw4.ParseForms'. -/
def parseFormsUptoCard : Claim7 := { stood := { row := parseFormsUptoRow, standIns := [], harness := (true, "a64dec817c562097b49d64b278274537a90b1bc883608b2399acebe242ecc728"), looks := true }, kinds := [], alts := [], laidByText := true, laidKinds := [.data, .handle, .pinned], laidTests := true, laidLooks := .later }
def ParseFormsUptoCardSaid : Prop := Claim7.holds Tryd.pinned (.plain (OpenSpec.upto parseFormsSpec)) parseFormsUptoCard

/-- THE SECOND FORM's CARD OF 'trammellaw4.ParseDeep'. -/
def parseDeepUptoCard : Claim7 := { stood := { row := parseDeepUptoRow, standIns := [], harness := (true, "a64dec817c562097b49d64b278274537a90b1bc883608b2399acebe242ecc728"), looks := true }, kinds := [], alts := [], laidByText := true, laidKinds := [.data, .handle, .pinned], laidTests := true, laidLooks := .later }
def ParseDeepUptoCardSaid : Prop := Claim7.holds Tryd.pinned (.plain (OpenSpec.upto parseDeepSpec)) parseDeepUptoCard

/-- THE SECOND FORM's CARD OF 'trammellaw4.ParseMany'. -/
def parseManyUptoCard : Claim7 := { stood := { row := parseManyUptoRow, standIns := [], harness := (true, "a64dec817c562097b49d64b278274537a90b1bc883608b2399acebe242ecc728"), looks := true }, kinds := [], alts := [], laidByText := true, laidKinds := [.data, .handle, .pinned], laidTests := true, laidLooks := .later }
def ParseManyUptoCardSaid : Prop := Claim7.holds Tryd.pinned (.plain (OpenSpec.upto parseManySpec)) parseManyUptoCard

/-- THE SECOND FORM's CARD OF 'trammellaw4.ParseBlanks'. -/
def parseBlanksUptoCard : Claim7 := { stood := { row := parseBlanksUptoRow, standIns := [], harness := (true, "a64dec817c562097b49d64b278274537a90b1bc883608b2399acebe242ecc728"), looks := true }, kinds := [], alts := [], laidByText := true, laidKinds := [.data, .handle, .pinned], laidTests := true, laidLooks := .later }
def ParseBlanksUptoCardSaid : Prop := Claim7.holds Tryd.pinned (.plain (OpenSpec.upto parseBlanksSpec)) parseBlanksUptoCard

/-- THE SECOND FORM's CARD OF 'trammellaw4.ParseTight'. -/
def parseTightUptoCard : Claim7 := { stood := { row := parseTightUptoRow, standIns := [], harness := (true, "a64dec817c562097b49d64b278274537a90b1bc883608b2399acebe242ecc728"), looks := true }, kinds := [], alts := [], laidByText := true, laidKinds := [.data, .handle, .pinned], laidTests := true, laidLooks := .later }
def ParseTightUptoCardSaid : Prop := Claim7.holds Tryd.pinned (.plain (OpenSpec.upto parseTightSpec)) parseTightUptoCard
end Rows
end Go.Proofs.YtiflfnnnbgmomaaDoor
