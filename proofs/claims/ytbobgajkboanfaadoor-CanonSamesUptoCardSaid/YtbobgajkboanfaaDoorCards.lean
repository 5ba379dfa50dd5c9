/-
  DERIVED. GIVEN WITH THE SEED: THE CARDS: each row of YtbobgajkboanfaaDoorRows.lean that lists a variable, with what it lists TIED to the program's text (the seventh form; the later family's looks); each row that meets fmt, with fmt's text TOLD by the authors' own Lean function (tested against real Go, not proved from fmt's source: count such statements apart). THE CARD IS WHAT COUNTS. Prove the row's statement (the work); the ties are given (YtbobgajkboanfaaDoorTie.lean); close each card by the builder's one call (the guide's Derived/Test/ToyasCard.lean, 'card_holds'). Laid BY PROGRAM, IN A SANDBOX (cutbox-door.mjs). By AI agents, Wed Nov 11 2026. No macro, syntax, notation, axiom, sorry.
-/
import Derived.Test.YtbobgajkboanfaaDoorRows
import GoSem.ClaimSeven
namespace Go.Proofs.YtbobgajkboanfaaDoor
namespace Rows

/-- THE TIED CARD OF 'ratchetlaw06.CanonSames'. -/
def canonSamesCard : Claim7 := { stood := { row := canonSamesRow, standIns := [], harness := (true, "8151e3aa996a5c4a284ca75db081f92d213a1d01fc5076cec0699dcb6b3e912f"), looks := false }, kinds := [], alts := [], laidByText := true, laidKinds := [.data, .data, .data], laidTests := true, laidLooks := .later }
def CanonSamesCardSaid : Prop := Claim7.holds Tryd.pinned (.plain (OpenSpec.ofChange canonSamesSpec)) canonSamesCard

/-- THE SECOND FORM's CARD OF 'ratchetlaw06.CanonSames'. -/
def canonSamesUptoCard : Claim7 := { stood := { row := canonSamesUptoRow, standIns := [], harness := (true, "8151e3aa996a5c4a284ca75db081f92d213a1d01fc5076cec0699dcb6b3e912f"), looks := false }, kinds := [], alts := [], laidByText := true, laidKinds := [.data, .data, .data], laidTests := true, laidLooks := .later }
def CanonSamesUptoCardSaid : Prop := Claim7.holds Tryd.pinned (.plain (OpenSpec.upto canonSamesSpec)) canonSamesUptoCard
end Rows
end Go.Proofs.YtbobgajkboanfaaDoor
