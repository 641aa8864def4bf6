/-
  DERIVED. GIVEN WITH THE SEED: THE CARDS: each row of YtloohbkceppocaaGreatDoorRows.lean that lists a variable, with what it lists TIED to the program's text (the seventh form; the later family's looks); each row that meets fmt, with fmt's text TOLD by the authors' own Lean function (tested against real Go, not proved from fmt's source: count such statements apart). THE CARD IS WHAT COUNTS. Prove the row's statement (the work); the ties are given (YtloohbkceppocaaGreatDoorTie.lean); close each card by the builder's one call (the guide's Derived/Test/ToyasCard.lean, 'card_holds'). Laid BY PROGRAM, IN A SANDBOX (cutbox-door.mjs). By AI agents, Wed Nov 11 2026. No macro, syntax, notation, axiom, sorry.
-/
import Derived.Test.YtloohbkceppocaaGreatDoorRows
import GoSem.ClaimSeven
namespace Go.Proofs.YtloohbkceppocaaGreatDoor
namespace Rows

/-- THE TIED CARD OF 'binnaclelaw06.IntervalDots'. -/
def intervalDotsCard : Claim7 := { stood := { row := intervalDotsRow, standIns := [], harness := (true, "2c61cf01a01ddf24ff24ac5c93bfdcb7dd7032d931b2ea9ce75e6fd2708564bc"), looks := false }, kinds := [], alts := [], laidByText := true, laidKinds := [.data], laidTests := true, laidLooks := .later }
def IntervalDotsCardSaid : Prop := Claim7.holds Tryz.pinned (.plain (OpenSpec.ofChange intervalDotsSpec)) intervalDotsCard

/-- THE TIED CARD OF 'binnaclelaw06.IntervalMakes'. -/
def intervalMakesCard : Claim7 := { stood := { row := intervalMakesRow, standIns := [], harness := (true, "2c61cf01a01ddf24ff24ac5c93bfdcb7dd7032d931b2ea9ce75e6fd2708564bc"), looks := false }, kinds := [], alts := [], laidByText := true, laidKinds := [.data], laidTests := true, laidLooks := .later }
def IntervalMakesCardSaid : Prop := Claim7.holds Tryz.pinned (.plain (OpenSpec.ofChange intervalMakesSpec)) intervalMakesCard

/-- THE TIED CARD OF 'binnaclelaw06.IntervalMiddles'. -/
def intervalMiddlesCard : Claim7 := { stood := { row := intervalMiddlesRow, standIns := [], harness := (true, "2c61cf01a01ddf24ff24ac5c93bfdcb7dd7032d931b2ea9ce75e6fd2708564bc"), looks := false }, kinds := [], alts := [], laidByText := true, laidKinds := [.data], laidTests := true, laidLooks := .later }
def IntervalMiddlesCardSaid : Prop := Claim7.holds Tryz.pinned (.plain (OpenSpec.ofChange intervalMiddlesSpec)) intervalMiddlesCard

/-- THE TIED CARD OF 'binnaclelaw06.IntervalPowers'. -/
def intervalPowersCard : Claim7 := { stood := { row := intervalPowersRow, standIns := [], harness := (true, "2c61cf01a01ddf24ff24ac5c93bfdcb7dd7032d931b2ea9ce75e6fd2708564bc"), looks := false }, kinds := [], alts := [], laidByText := true, laidKinds := [.data], laidTests := true, laidLooks := .later }
def IntervalPowersCardSaid : Prop := Claim7.holds Tryz.pinned (.plain (OpenSpec.ofChange intervalPowersSpec)) intervalPowersCard

/-- THE SECOND FORM's CARD OF 'binnaclelaw06.IntervalDots'. -/
def intervalDotsUptoCard : Claim7 := { stood := { row := intervalDotsUptoRow, standIns := [], harness := (true, "2c61cf01a01ddf24ff24ac5c93bfdcb7dd7032d931b2ea9ce75e6fd2708564bc"), looks := false }, kinds := [], alts := [], laidByText := true, laidKinds := [.data], laidTests := true, laidLooks := .later }
def IntervalDotsUptoCardSaid : Prop := Claim7.holds Tryz.pinned (.plain (OpenSpec.upto intervalDotsSpec)) intervalDotsUptoCard

/-- THE SECOND FORM's CARD OF 'binnaclelaw06.IntervalMakes'. -/
def intervalMakesUptoCard : Claim7 := { stood := { row := intervalMakesUptoRow, standIns := [], harness := (true, "2c61cf01a01ddf24ff24ac5c93bfdcb7dd7032d931b2ea9ce75e6fd2708564bc"), looks := false }, kinds := [], alts := [], laidByText := true, laidKinds := [.data], laidTests := true, laidLooks := .later }
def IntervalMakesUptoCardSaid : Prop := Claim7.holds Tryz.pinned (.plain (OpenSpec.upto intervalMakesSpec)) intervalMakesUptoCard

/-- THE SECOND FORM's CARD OF 'binnaclelaw06.IntervalMiddles'. -/
def intervalMiddlesUptoCard : Claim7 := { stood := { row := intervalMiddlesUptoRow, standIns := [], harness := (true, "2c61cf01a01ddf24ff24ac5c93bfdcb7dd7032d931b2ea9ce75e6fd2708564bc"), looks := false }, kinds := [], alts := [], laidByText := true, laidKinds := [.data], laidTests := true, laidLooks := .later }
def IntervalMiddlesUptoCardSaid : Prop := Claim7.holds Tryz.pinned (.plain (OpenSpec.upto intervalMiddlesSpec)) intervalMiddlesUptoCard

/-- THE SECOND FORM's CARD OF 'binnaclelaw06.IntervalPowers'. -/
def intervalPowersUptoCard : Claim7 := { stood := { row := intervalPowersUptoRow, standIns := [], harness := (true, "2c61cf01a01ddf24ff24ac5c93bfdcb7dd7032d931b2ea9ce75e6fd2708564bc"), looks := false }, kinds := [], alts := [], laidByText := true, laidKinds := [.data], laidTests := true, laidLooks := .later }
def IntervalPowersUptoCardSaid : Prop := Claim7.holds Tryz.pinned (.plain (OpenSpec.upto intervalPowersSpec)) intervalPowersUptoCard
end Rows
end Go.Proofs.YtloohbkceppocaaGreatDoor
