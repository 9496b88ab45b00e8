/-
  DERIVED. GIVEN WITH THE SEED: THE CARDS: each row of YthfdakglamgknaaDoorRows.lean that lists a variable, with what it lists TIED to the program's text (the seventh form; the later family's looks); each row that meets fmt, with fmt's text TOLD by the authors' own Lean function (tested against real Go, not proved from fmt's source: count such statements apart). THE CARD IS WHAT COUNTS. Prove the row's statement (the work); the ties are given (YthfdakglamgknaaDoorTie.lean); close each card by the builder's one call (the guide's Derived/Test/ToyasCard.lean, 'card_holds'). Laid BY PROGRAM, IN A SANDBOX (cutbox-door.mjs). By AI agents, Wed Nov 11 2026. No macro, syntax, notation, axiom, sorry.
-/
import Derived.Test.YthfdakglamgknaaDoorRows
import GoSem.ClaimSeven
namespace Go.Proofs.YthfdakglamgknaaDoor
namespace Rows

/-- THE TIED CARD OF 'filigreelaw03.FaultTexts'. -/
def faultTextsCard : Claim7 := { stood := { row := faultTextsRow, standIns := [], harness := (true, "39d7dcc327083c9c8c1cb78df21b55bffcddc72e1f0c3d5572d96add4d8ec33b"), looks := true }, kinds := [], alts := [], laidByText := true, laidKinds := [.data, .data, .data, .handle], laidTests := true, laidLooks := .later }
def FaultTextsCardSaid : Prop := Claim7.holds Tryd.pinned (.plain (OpenSpec.ofChange faultTextsSpec)) faultTextsCard

/-- THE TIED CARD OF 'filigreelaw03.FaultKinds'. -/
def faultKindsCard : Claim7 := { stood := { row := faultKindsRow, standIns := [], harness := (true, "39d7dcc327083c9c8c1cb78df21b55bffcddc72e1f0c3d5572d96add4d8ec33b"), looks := true }, kinds := [], alts := [], laidByText := true, laidKinds := [.data, .data, .data, .handle], laidTests := true, laidLooks := .later }
def FaultKindsCardSaid : Prop := Claim7.holds Tryd.pinned (.plain (OpenSpec.ofChange faultKindsSpec)) faultKindsCard

/-- THE TIED CARD OF 'filigreelaw03.FaultNils'. -/
def faultNilsCard : Claim7 := { stood := { row := faultNilsRow, standIns := [], harness := (true, "39d7dcc327083c9c8c1cb78df21b55bffcddc72e1f0c3d5572d96add4d8ec33b"), looks := true }, kinds := [], alts := [], laidByText := true, laidKinds := [.data, .data, .data, .handle], laidTests := true, laidLooks := .later }
def FaultNilsCardSaid : Prop := Claim7.holds Tryd.pinned (.plain (OpenSpec.ofChange faultNilsSpec)) faultNilsCard

/-- THE SECOND FORM's CARD OF 'filigreelaw03.FaultTexts'. -/
def faultTextsUptoCard : Claim7 := { stood := { row := faultTextsUptoRow, standIns := [], harness := (true, "39d7dcc327083c9c8c1cb78df21b55bffcddc72e1f0c3d5572d96add4d8ec33b"), looks := true }, kinds := [], alts := [], laidByText := true, laidKinds := [.data, .data, .data, .handle], laidTests := true, laidLooks := .later }
def FaultTextsUptoCardSaid : Prop := Claim7.holds Tryd.pinned (.plain (OpenSpec.upto faultTextsSpec)) faultTextsUptoCard

/-- THE SECOND FORM's CARD OF 'filigreelaw03.FaultKinds'. -/
def faultKindsUptoCard : Claim7 := { stood := { row := faultKindsUptoRow, standIns := [], harness := (true, "39d7dcc327083c9c8c1cb78df21b55bffcddc72e1f0c3d5572d96add4d8ec33b"), looks := true }, kinds := [], alts := [], laidByText := true, laidKinds := [.data, .data, .data, .handle], laidTests := true, laidLooks := .later }
def FaultKindsUptoCardSaid : Prop := Claim7.holds Tryd.pinned (.plain (OpenSpec.upto faultKindsSpec)) faultKindsUptoCard

/-- THE SECOND FORM's CARD OF 'filigreelaw03.FaultNils'. -/
def faultNilsUptoCard : Claim7 := { stood := { row := faultNilsUptoRow, standIns := [], harness := (true, "39d7dcc327083c9c8c1cb78df21b55bffcddc72e1f0c3d5572d96add4d8ec33b"), looks := true }, kinds := [], alts := [], laidByText := true, laidKinds := [.data, .data, .data, .handle], laidTests := true, laidLooks := .later }
def FaultNilsUptoCardSaid : Prop := Claim7.holds Tryd.pinned (.plain (OpenSpec.upto faultNilsSpec)) faultNilsUptoCard
end Rows
end Go.Proofs.YthfdakglamgknaaDoor
