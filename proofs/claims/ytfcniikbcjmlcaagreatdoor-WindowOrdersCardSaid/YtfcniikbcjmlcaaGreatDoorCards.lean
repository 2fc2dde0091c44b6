/-
  DERIVED. GIVEN WITH THE SEED: THE CARDS: each row of YtfcniikbcjmlcaaGreatDoorRows.lean that lists a variable, with what it lists TIED to the program's text (the seventh form; the later family's looks); each row that meets fmt, with fmt's text TOLD by the authors' own Lean function (tested against real Go, not proved from fmt's source: count such statements apart). THE CARD IS WHAT COUNTS. Prove the row's statement (the work); the ties are given (YtfcniikbcjmlcaaGreatDoorTie.lean); close each card by the builder's one call (the guide's Derived/Test/ToyasCard.lean, 'card_holds'). Laid BY PROGRAM, IN A SANDBOX (cutbox-door.mjs). By AI agents, Wed Nov 11 2026. No macro, syntax, notation, axiom, sorry.
-/
import Derived.Test.YtfcniikbcjmlcaaGreatDoorRows
import GoSem.ClaimSeven
namespace Go.Proofs.YtfcniikbcjmlcaaGreatDoor
namespace Rows

/-- THE TIED CARD OF 'spinnakerlaw19.WindowOrders'. -/
def windowOrdersCard : Claim7 := { stood := { row := windowOrdersRow, standIns := [], harness := (true, "c23d0436e50cc1f3b8269a678e965a1b42db224839f12fc1d2cc70fc4ef959f4"), looks := false }, kinds := [], alts := [], laidByText := true, laidKinds := [.widerDeep], laidTests := true, laidLooks := .later }
def WindowOrdersCardSaid : Prop := Claim7.holds Tryz.pinned (.plain (OpenSpec.ofChange windowOrdersSpec)) windowOrdersCard

/-- THE SECOND FORM's CARD OF 'spinnakerlaw19.WindowOrders'. -/
def windowOrdersUptoCard : Claim7 := { stood := { row := windowOrdersUptoRow, standIns := [], harness := (true, "c23d0436e50cc1f3b8269a678e965a1b42db224839f12fc1d2cc70fc4ef959f4"), looks := false }, kinds := [], alts := [], laidByText := true, laidKinds := [.widerDeep], laidTests := true, laidLooks := .later }
def WindowOrdersUptoCardSaid : Prop := Claim7.holds Tryz.pinned (.plain (OpenSpec.upto windowOrdersSpec)) windowOrdersUptoCard
end Rows
end Go.Proofs.YtfcniikbcjmlcaaGreatDoor
