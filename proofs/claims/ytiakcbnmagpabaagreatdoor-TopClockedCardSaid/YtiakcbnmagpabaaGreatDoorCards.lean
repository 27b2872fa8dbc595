/-
  DERIVED. GIVEN WITH THE SEED: THE CARDS: each row of YtiakcbnmagpabaaGreatDoorRows.lean that lists a variable, with what it lists TIED to the program's text (the seventh form; the later family's looks); each row that meets fmt, with fmt's text TOLD by the authors' own Lean function (tested against real Go, not proved from fmt's source: count such statements apart). THE CARD IS WHAT COUNTS. Prove the row's statement (the work); the ties are given (YtiakcbnmagpabaaGreatDoorTie.lean); close each card by the builder's one call (the guide's Derived/Test/ToyasCard.lean, 'card_holds'). Laid BY PROGRAM, IN A SANDBOX (cutbox-door.mjs). By AI agents, Wed Nov 11 2026. No macro, syntax, notation, axiom, sorry.
-/
import Derived.Test.YtiakcbnmagpabaaGreatDoorRows
import GoSem.ClaimSeven
namespace Go.Proofs.YtiakcbnmagpabaaGreatDoor
namespace Rows

/-- THE TIED CARD OF 'lightermantop.TopFramed'. -/
def topFramedCard : Claim7 := { stood := { row := topFramedRow, standIns := [], harness := (true, "09854a68fac1a355a5990eff5c5516a10e3807f5ad6de55eb16314672b3d3153"), looks := false }, kinds := [], alts := [], laidByText := true, laidKinds := [.data, .data, .data, .data, .data, .data, .data], laidTests := true, laidLooks := .later }
def TopFramedCardSaid : Prop := Claim7.holds Tryz.pinned (.plain (OpenSpec.ofChange topFramedSpec)) topFramedCard

/-- THE TIED CARD OF 'lightermantop.TopWired'. -/
def topWiredCard : Claim7 := { stood := { row := topWiredRow, standIns := [], harness := (true, "09854a68fac1a355a5990eff5c5516a10e3807f5ad6de55eb16314672b3d3153"), looks := false }, kinds := [], alts := [], laidByText := true, laidKinds := [.data, .data, .data, .data, .data, .data, .data], laidTests := true, laidLooks := .later }
def TopWiredCardSaid : Prop := Claim7.holds Tryz.pinned (.plain (OpenSpec.ofChange topWiredSpec)) topWiredCard

/-- THE TIED CARD OF 'lightermantop.TopPieced'. -/
def topPiecedCard : Claim7 := { stood := { row := topPiecedRow, standIns := [], harness := (true, "09854a68fac1a355a5990eff5c5516a10e3807f5ad6de55eb16314672b3d3153"), looks := false }, kinds := [], alts := [], laidByText := true, laidKinds := [.data, .data, .data, .data, .data, .data, .data], laidTests := true, laidLooks := .later }
def TopPiecedCardSaid : Prop := Claim7.holds Tryz.pinned (.plain (OpenSpec.ofChange topPiecedSpec)) topPiecedCard

/-- THE TIED CARD OF 'lightermantop.TopCut'. -/
def topCutCard : Claim7 := { stood := { row := topCutRow, standIns := [], harness := (true, "09854a68fac1a355a5990eff5c5516a10e3807f5ad6de55eb16314672b3d3153"), looks := false }, kinds := [], alts := [], laidByText := true, laidKinds := [.data, .data, .data, .data, .data, .data, .data], laidTests := true, laidLooks := .later }
def TopCutCardSaid : Prop := Claim7.holds Tryz.pinned (.plain (OpenSpec.ofChange topCutSpec)) topCutCard

/-- THE TIED CARD OF 'lightermantop.TopClocked'. -/
def topClockedCard : Claim7 := { stood := { row := topClockedRow, standIns := [], harness := (true, "09854a68fac1a355a5990eff5c5516a10e3807f5ad6de55eb16314672b3d3153"), looks := false }, kinds := [], alts := [], laidByText := true, laidKinds := [.data, .data, .data, .data, .data, .data, .data], laidTests := true, laidLooks := .later }
def TopClockedCardSaid : Prop := Claim7.holds Tryz.pinned (.plain (OpenSpec.ofChange topClockedSpec)) topClockedCard

/-- THE TIED CARD OF 'lightermantop.TopRooted'. -/
def topRootedCard : Claim7 := { stood := { row := topRootedRow, standIns := [], harness := (true, "09854a68fac1a355a5990eff5c5516a10e3807f5ad6de55eb16314672b3d3153"), looks := false }, kinds := [], alts := [], laidByText := true, laidKinds := [.data, .data, .data, .data, .data, .data, .data, .data, .data], laidTests := true, laidLooks := .later }
def TopRootedCardSaid : Prop := Claim7.holds Tryz.pinned (.plain (OpenSpec.ofChange topRootedSpec)) topRootedCard

/-- THE SECOND FORM's CARD OF 'lightermantop.TopFramed'. -/
def topFramedUptoCard : Claim7 := { stood := { row := topFramedUptoRow, standIns := [], harness := (true, "09854a68fac1a355a5990eff5c5516a10e3807f5ad6de55eb16314672b3d3153"), looks := false }, kinds := [], alts := [], laidByText := true, laidKinds := [.data, .data, .data, .data, .data, .data, .data], laidTests := true, laidLooks := .later }
def TopFramedUptoCardSaid : Prop := Claim7.holds Tryz.pinned (.plain (OpenSpec.upto topFramedSpec)) topFramedUptoCard

/-- THE SECOND FORM's CARD OF 'lightermantop.TopWired'. -/
def topWiredUptoCard : Claim7 := { stood := { row := topWiredUptoRow, standIns := [], harness := (true, "09854a68fac1a355a5990eff5c5516a10e3807f5ad6de55eb16314672b3d3153"), looks := false }, kinds := [], alts := [], laidByText := true, laidKinds := [.data, .data, .data, .data, .data, .data, .data], laidTests := true, laidLooks := .later }
def TopWiredUptoCardSaid : Prop := Claim7.holds Tryz.pinned (.plain (OpenSpec.upto topWiredSpec)) topWiredUptoCard

/-- THE SECOND FORM's CARD OF 'lightermantop.TopPieced'. -/
def topPiecedUptoCard : Claim7 := { stood := { row := topPiecedUptoRow, standIns := [], harness := (true, "09854a68fac1a355a5990eff5c5516a10e3807f5ad6de55eb16314672b3d3153"), looks := false }, kinds := [], alts := [], laidByText := true, laidKinds := [.data, .data, .data, .data, .data, .data, .data], laidTests := true, laidLooks := .later }
def TopPiecedUptoCardSaid : Prop := Claim7.holds Tryz.pinned (.plain (OpenSpec.upto topPiecedSpec)) topPiecedUptoCard

/-- THE SECOND FORM's CARD OF 'lightermantop.TopCut'. -/
def topCutUptoCard : Claim7 := { stood := { row := topCutUptoRow, standIns := [], harness := (true, "09854a68fac1a355a5990eff5c5516a10e3807f5ad6de55eb16314672b3d3153"), looks := false }, kinds := [], alts := [], laidByText := true, laidKinds := [.data, .data, .data, .data, .data, .data, .data], laidTests := true, laidLooks := .later }
def TopCutUptoCardSaid : Prop := Claim7.holds Tryz.pinned (.plain (OpenSpec.upto topCutSpec)) topCutUptoCard

/-- THE SECOND FORM's CARD OF 'lightermantop.TopClocked'. -/
def topClockedUptoCard : Claim7 := { stood := { row := topClockedUptoRow, standIns := [], harness := (true, "09854a68fac1a355a5990eff5c5516a10e3807f5ad6de55eb16314672b3d3153"), looks := false }, kinds := [], alts := [], laidByText := true, laidKinds := [.data, .data, .data, .data, .data, .data, .data], laidTests := true, laidLooks := .later }
def TopClockedUptoCardSaid : Prop := Claim7.holds Tryz.pinned (.plain (OpenSpec.upto topClockedSpec)) topClockedUptoCard

/-- THE SECOND FORM's CARD OF 'lightermantop.TopRooted'. -/
def topRootedUptoCard : Claim7 := { stood := { row := topRootedUptoRow, standIns := [], harness := (true, "09854a68fac1a355a5990eff5c5516a10e3807f5ad6de55eb16314672b3d3153"), looks := false }, kinds := [], alts := [], laidByText := true, laidKinds := [.data, .data, .data, .data, .data, .data, .data, .data, .data], laidTests := true, laidLooks := .later }
def TopRootedUptoCardSaid : Prop := Claim7.holds Tryz.pinned (.plain (OpenSpec.upto topRootedSpec)) topRootedUptoCard
end Rows
end Go.Proofs.YtiakcbnmagpabaaGreatDoor
