/-
  DERIVED. GIVEN WITH THE SEED: THE CARDS: each row of YtafmknblnamegaaDoorRows.lean that lists a variable, with what it lists TIED to the program's text (the seventh form; the later family's looks); each row that meets fmt, with fmt's text TOLD by the authors' own Lean function (tested against real Go, not proved from fmt's source: count such statements apart). THE CARD IS WHAT COUNTS. Prove the row's statement (the work); the ties are given (YtafmknblnamegaaDoorTie.lean); close each card by the builder's one call (the guide's Derived/Test/ToyasCard.lean, 'card_holds'). Laid BY PROGRAM, IN A SANDBOX (cutbox-door.mjs). By AI agents, Wed Nov 11 2026. No macro, syntax, notation, axiom, sorry.
-/
import Derived.Test.YtafmknblnamegaaDoorRows
import GoSem.ClaimSeven
namespace Go.Proofs.YtafmknblnamegaaDoor
namespace Rows

/-- THE TIED CARD OF 'consignlaw05.SceneTells'. -/
def sceneTellsCard : Claim7 := { stood := { row := sceneTellsRow, standIns := [], harness := (true, "a970ae08fd78d63ac5040461b00b818b97a90104ac22c8b13a19b0217953bb49"), looks := true }, kinds := [], alts := [], laidByText := true, laidKinds := [.handle], laidTests := true, laidLooks := .later }
def SceneTellsCardSaid : Prop := Claim7.holds Tryd.pinned (.plain (OpenSpec.ofChange sceneTellsSpec)) sceneTellsCard

/-- THE TIED CARD OF 'consignlaw05.SceneTurned'. -/
def sceneTurnedCard : Claim7 := { stood := { row := sceneTurnedRow, standIns := [], harness := (true, "a970ae08fd78d63ac5040461b00b818b97a90104ac22c8b13a19b0217953bb49"), looks := true }, kinds := [], alts := [], laidByText := true, laidKinds := [.handle], laidTests := true, laidLooks := .later }
def SceneTurnedCardSaid : Prop := Claim7.holds Tryd.pinned (.plain (OpenSpec.ofChange sceneTurnedSpec)) sceneTurnedCard

/-- THE TIED CARD OF 'consignlaw05.SceneOwns'. -/
def sceneOwnsCard : Claim7 := { stood := { row := sceneOwnsRow, standIns := [], harness := (true, "a970ae08fd78d63ac5040461b00b818b97a90104ac22c8b13a19b0217953bb49"), looks := true }, kinds := [], alts := [], laidByText := true, laidKinds := [.handle], laidTests := true, laidLooks := .later }
def SceneOwnsCardSaid : Prop := Claim7.holds Tryd.pinned (.plain (OpenSpec.ofChange sceneOwnsSpec)) sceneOwnsCard

/-- THE TIED CARD OF 'consignlaw05.SceneKnown'. -/
def sceneKnownCard : Claim7 := { stood := { row := sceneKnownRow, standIns := [], harness := (true, "a970ae08fd78d63ac5040461b00b818b97a90104ac22c8b13a19b0217953bb49"), looks := true }, kinds := [], alts := [], laidByText := true, laidKinds := [.handle], laidTests := true, laidLooks := .later }
def SceneKnownCardSaid : Prop := Claim7.holds Tryd.pinned (.plain (OpenSpec.ofChange sceneKnownSpec)) sceneKnownCard

/-- THE SECOND FORM's CARD OF 'consignlaw05.SceneTells'. -/
def sceneTellsUptoCard : Claim7 := { stood := { row := sceneTellsUptoRow, standIns := [], harness := (true, "a970ae08fd78d63ac5040461b00b818b97a90104ac22c8b13a19b0217953bb49"), looks := true }, kinds := [], alts := [], laidByText := true, laidKinds := [.handle], laidTests := true, laidLooks := .later }
def SceneTellsUptoCardSaid : Prop := Claim7.holds Tryd.pinned (.plain (OpenSpec.upto sceneTellsSpec)) sceneTellsUptoCard

/-- THE SECOND FORM's CARD OF 'consignlaw05.SceneTurned'. -/
def sceneTurnedUptoCard : Claim7 := { stood := { row := sceneTurnedUptoRow, standIns := [], harness := (true, "a970ae08fd78d63ac5040461b00b818b97a90104ac22c8b13a19b0217953bb49"), looks := true }, kinds := [], alts := [], laidByText := true, laidKinds := [.handle], laidTests := true, laidLooks := .later }
def SceneTurnedUptoCardSaid : Prop := Claim7.holds Tryd.pinned (.plain (OpenSpec.upto sceneTurnedSpec)) sceneTurnedUptoCard

/-- THE SECOND FORM's CARD OF 'consignlaw05.SceneOwns'. -/
def sceneOwnsUptoCard : Claim7 := { stood := { row := sceneOwnsUptoRow, standIns := [], harness := (true, "a970ae08fd78d63ac5040461b00b818b97a90104ac22c8b13a19b0217953bb49"), looks := true }, kinds := [], alts := [], laidByText := true, laidKinds := [.handle], laidTests := true, laidLooks := .later }
def SceneOwnsUptoCardSaid : Prop := Claim7.holds Tryd.pinned (.plain (OpenSpec.upto sceneOwnsSpec)) sceneOwnsUptoCard

/-- THE SECOND FORM's CARD OF 'consignlaw05.SceneKnown'. -/
def sceneKnownUptoCard : Claim7 := { stood := { row := sceneKnownUptoRow, standIns := [], harness := (true, "a970ae08fd78d63ac5040461b00b818b97a90104ac22c8b13a19b0217953bb49"), looks := true }, kinds := [], alts := [], laidByText := true, laidKinds := [.handle], laidTests := true, laidLooks := .later }
def SceneKnownUptoCardSaid : Prop := Claim7.holds Tryd.pinned (.plain (OpenSpec.upto sceneKnownSpec)) sceneKnownUptoCard
end Rows
end Go.Proofs.YtafmknblnamegaaDoor
