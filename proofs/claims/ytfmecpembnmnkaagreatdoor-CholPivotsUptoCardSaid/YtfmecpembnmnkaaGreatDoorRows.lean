/-
  NARROWER THAN 'FOR EVERY INPUT', by the rows' own cells (each row's printed sentence says how): CholPivots: laid · CholFactors: laid · CholTriangles: laid · CholSolves: laid · CholColumns: laid.
  DERIVED. THE GIVEN ROWS OF THIS SEAT. 5 by the template 'for every input the law returns true; each argument reads behind the call as it read before'; 0 by the template 'total and deterministic' (their statements: YtfmecpembnmnkaaGreatDoorTotals.lean).
  GIVEN WITH THE SEED: the statements are not yours to turn. If you find one false, say at which input.
  Laid BY PROGRAM, IN A SANDBOX (cutbox-rows.mjs): the forced cells as the released guide's own fill.sh prints them over the translation 7761472b0678461d… (all of the seat's roots in one cut). By AI agents, Wed Nov 11 2026. No macro, syntax, notation, axiom, sorry.
-/
import Derived.Test.YtfmecpembnmnkaaGreatDoorChecked
import GoSem.Claim
import GoSem.ClaimJoined
import GoSem.ClaimMapViews
import Derived.JoinedTies
import Derived.KernelRfl
namespace Go.Proofs.YtfmecpembnmnkaaGreatDoor
/- THE CELL 'sum', in the pinned program and in every row, IS THE sha256 OF THE DUMP (.gsa) THAT YtfmecpembnmnkaaGreatDoorProg.lean LOADS. Nothing in Lean hashes anything: it is a label: what it is worth is what the hold of that sum in a sandbox is worth. -/
noncomputable def Tryz.pinned : Pinned := { name := "ytfmecpembnmnkaagreatdoor", sum := "7761472b0678461d5111e7a2407e5793a065f72a5f689dd74ea46f1d98734423", checked := Tryz.checked }
namespace Rows
def none {H : Type} : Left H := { results := [], args := [] }

/- WHAT THE LISTED PACKAGE-LEVEL VARIABLES READ AS WHEN THE CALL BEGINS. Each datum BY PROGRAM (the guide's laid-datum.mjs) off the statement by which the dump's own 'gosem.cut.vars' lays the variable. In a bare row this is a premise. The card (YtfmecpembnmnkaaGreatDoorCards.lean) ties it to the program's text. -/
def laid_math_bits_deBruijn64tab {H : Type} : DataW H := .agg [.lit (.int .u8 0), .lit (.int .u8 1), .lit (.int .u8 56), .lit (.int .u8 2), .lit (.int .u8 57), .lit (.int .u8 49), .lit (.int .u8 28), .lit (.int .u8 3), .lit (.int .u8 61), .lit (.int .u8 58), .lit (.int .u8 42), .lit (.int .u8 50), .lit (.int .u8 38), .lit (.int .u8 29), .lit (.int .u8 17), .lit (.int .u8 4), .lit (.int .u8 62), .lit (.int .u8 47), .lit (.int .u8 59), .lit (.int .u8 36), .lit (.int .u8 45), .lit (.int .u8 43), .lit (.int .u8 51), .lit (.int .u8 22), .lit (.int .u8 53), .lit (.int .u8 39), .lit (.int .u8 33), .lit (.int .u8 30), .lit (.int .u8 24), .lit (.int .u8 18), .lit (.int .u8 12), .lit (.int .u8 5), .lit (.int .u8 63), .lit (.int .u8 55), .lit (.int .u8 48), .lit (.int .u8 27), .lit (.int .u8 60), .lit (.int .u8 41), .lit (.int .u8 37), .lit (.int .u8 16), .lit (.int .u8 46), .lit (.int .u8 35), .lit (.int .u8 44), .lit (.int .u8 21), .lit (.int .u8 52), .lit (.int .u8 32), .lit (.int .u8 23), .lit (.int .u8 11), .lit (.int .u8 54), .lit (.int .u8 26), .lit (.int .u8 40), .lit (.int .u8 15), .lit (.int .u8 34), .lit (.int .u8 20), .lit (.int .u8 31), .lit (.int .u8 10), .lit (.int .u8 25), .lit (.int .u8 14), .lit (.int .u8 19), .lit (.int .u8 9), .lit (.int .u8 13), .lit (.int .u8 8), .lit (.int .u8 7), .lit (.int .u8 6)]

/-- 'binnaclelaw09.CholPivots': WHATEVER THE INPUT: true; the input reads as it did. -/
def cholPivotsSpec : ChangeSpec := { name := "cholPivots", fn := fun _ => fun
  | [d1, d2, d3] => { results := [.lit (.bool true)], args := [d1, d2, d3] }
  | _ => none }
def cholPivotsRow : OpenClaim := { program := "ytfmecpembnmnkaagreatdoor", sum := "7761472b0678461d5111e7a2407e5793a065f72a5f689dd74ea46f1d98734423", func := "binnacle/binnaclelaw09.CholPivots", spec := "cholPivots", inPlace := ["math.Float64frombits", "math.Float64bits", "math.FMA", "math/bits.Add64", "math/bits.Sub64", "math.sqrt"], unfollowed := true, recurses := true, named := ["math/bits.deBruijn64tab"], apart := false, laid := [("math/bits.deBruijn64tab", laid_math_bits_deBruijn64tab)] }
def CholPivotsSaid : Prop := cholPivotsRow.holds Tryz.pinned (OpenSpec.ofChange cholPivotsSpec)

/-- ITS FALSE NEIGHBOUR: 'it returns false'. Refute it at one input. -/
def cholPivotsWrong : ChangeSpec := { name := "cholPivots", fn := fun _ => fun
  | [d1, d2, d3] => { results := [.lit (.bool false)], args := [d1, d2, d3] }
  | _ => none }
def CholPivotsWrongFalsely : Prop := cholPivotsRow.holds Tryz.pinned (OpenSpec.ofChange cholPivotsWrong)

/-- 'binnaclelaw09.CholFactors': WHATEVER THE INPUT: true; the input reads as it did. -/
def cholFactorsSpec : ChangeSpec := { name := "cholFactors", fn := fun _ => fun
  | [d1, d2, d3] => { results := [.lit (.bool true)], args := [d1, d2, d3] }
  | _ => none }
def cholFactorsRow : OpenClaim := { program := "ytfmecpembnmnkaagreatdoor", sum := "7761472b0678461d5111e7a2407e5793a065f72a5f689dd74ea46f1d98734423", func := "binnacle/binnaclelaw09.CholFactors", spec := "cholFactors", inPlace := ["math.Float64frombits", "math.Float64bits", "math.sqrt", "math.FMA", "math/bits.Add64", "math/bits.Sub64"], unfollowed := true, recurses := true, named := ["math/bits.deBruijn64tab"], apart := false, laid := [("math/bits.deBruijn64tab", laid_math_bits_deBruijn64tab)] }
def CholFactorsSaid : Prop := cholFactorsRow.holds Tryz.pinned (OpenSpec.ofChange cholFactorsSpec)

/-- ITS FALSE NEIGHBOUR: 'it returns false'. Refute it at one input. -/
def cholFactorsWrong : ChangeSpec := { name := "cholFactors", fn := fun _ => fun
  | [d1, d2, d3] => { results := [.lit (.bool false)], args := [d1, d2, d3] }
  | _ => none }
def CholFactorsWrongFalsely : Prop := cholFactorsRow.holds Tryz.pinned (OpenSpec.ofChange cholFactorsWrong)

/-- 'binnaclelaw09.CholTriangles': WHATEVER THE INPUT: true; the input reads as it did. -/
def cholTrianglesSpec : ChangeSpec := { name := "cholTriangles", fn := fun _ => fun
  | [d1, d2, d3, d4] => { results := [.lit (.bool true)], args := [d1, d2, d3, d4] }
  | _ => none }
def cholTrianglesRow : OpenClaim := { program := "ytfmecpembnmnkaagreatdoor", sum := "7761472b0678461d5111e7a2407e5793a065f72a5f689dd74ea46f1d98734423", func := "binnacle/binnaclelaw09.CholTriangles", spec := "cholTriangles", inPlace := ["math.Float64frombits", "math.Float64bits", "math.sqrt", "math.FMA", "math/bits.Add64", "math/bits.Sub64"], unfollowed := true, recurses := true, named := ["math/bits.deBruijn64tab"], apart := false, laid := [("math/bits.deBruijn64tab", laid_math_bits_deBruijn64tab)] }
def CholTrianglesSaid : Prop := cholTrianglesRow.holds Tryz.pinned (OpenSpec.ofChange cholTrianglesSpec)

/-- ITS FALSE NEIGHBOUR: 'it returns false'. Refute it at one input. -/
def cholTrianglesWrong : ChangeSpec := { name := "cholTriangles", fn := fun _ => fun
  | [d1, d2, d3, d4] => { results := [.lit (.bool false)], args := [d1, d2, d3, d4] }
  | _ => none }
def CholTrianglesWrongFalsely : Prop := cholTrianglesRow.holds Tryz.pinned (OpenSpec.ofChange cholTrianglesWrong)

/-- 'binnaclelaw09.CholSolves': WHATEVER THE INPUT: true; the input reads as it did. -/
def cholSolvesSpec : ChangeSpec := { name := "cholSolves", fn := fun _ => fun
  | [d1, d2, d3, d4, d5] => { results := [.lit (.bool true)], args := [d1, d2, d3, d4, d5] }
  | _ => none }
def cholSolvesRow : OpenClaim := { program := "ytfmecpembnmnkaagreatdoor", sum := "7761472b0678461d5111e7a2407e5793a065f72a5f689dd74ea46f1d98734423", func := "binnacle/binnaclelaw09.CholSolves", spec := "cholSolves", inPlace := ["math.Float64frombits", "math.Float64bits", "math.sqrt", "math.FMA", "math/bits.Add64", "math/bits.Sub64"], unfollowed := true, recurses := true, named := ["math/bits.deBruijn64tab"], apart := false, laid := [("math/bits.deBruijn64tab", laid_math_bits_deBruijn64tab)] }
def CholSolvesSaid : Prop := cholSolvesRow.holds Tryz.pinned (OpenSpec.ofChange cholSolvesSpec)

/-- ITS FALSE NEIGHBOUR: 'it returns false'. Refute it at one input. -/
def cholSolvesWrong : ChangeSpec := { name := "cholSolves", fn := fun _ => fun
  | [d1, d2, d3, d4, d5] => { results := [.lit (.bool false)], args := [d1, d2, d3, d4, d5] }
  | _ => none }
def CholSolvesWrongFalsely : Prop := cholSolvesRow.holds Tryz.pinned (OpenSpec.ofChange cholSolvesWrong)

/-- 'binnaclelaw09.CholColumns': WHATEVER THE INPUT: true; the input reads as it did. -/
def cholColumnsSpec : ChangeSpec := { name := "cholColumns", fn := fun _ => fun
  | [d1, d2, d3, d4] => { results := [.lit (.bool true)], args := [d1, d2, d3, d4] }
  | _ => none }
def cholColumnsRow : OpenClaim := { program := "ytfmecpembnmnkaagreatdoor", sum := "7761472b0678461d5111e7a2407e5793a065f72a5f689dd74ea46f1d98734423", func := "binnacle/binnaclelaw09.CholColumns", spec := "cholColumns", inPlace := ["math.Float64frombits", "math.Float64bits", "math.sqrt", "math.FMA", "math/bits.Add64", "math/bits.Sub64"], unfollowed := true, recurses := true, named := ["math/bits.deBruijn64tab"], apart := false, laid := [("math/bits.deBruijn64tab", laid_math_bits_deBruijn64tab)] }
def CholColumnsSaid : Prop := cholColumnsRow.holds Tryz.pinned (OpenSpec.ofChange cholColumnsSpec)

/-- ITS FALSE NEIGHBOUR: 'it returns false'. Refute it at one input. -/
def cholColumnsWrong : ChangeSpec := { name := "cholColumns", fn := fun _ => fun
  | [d1, d2, d3, d4] => { results := [.lit (.bool false)], args := [d1, d2, d3, d4] }
  | _ => none }
def CholColumnsWrongFalsely : Prop := cholColumnsRow.holds Tryz.pinned (OpenSpec.ofChange cholColumnsWrong)

/- THE SECOND FORM. 'bulk': how many values and letters a reading holds, each counted each time it is reached (what is shared counts as often as it is met; a slice's spare places count too). A statement '..UptoSaid' is the law's where the arguments, and the package variables that the reading takes, are together of bulk at most 1048576: NARROWER than '..Said'. Prove '..Said' where nothing that the law and all that it calls make is longer than what came in: it says more and counts as full. Else prove '..UptoSaid'. A law counts once. -/
mutual
def uptoBulk {H : Type} : DataW H → Nat
  | .lit (.string bytes) => bytes.length + 1
  | .lit _ => 1
  | .nil => 1
  | .ptr d => uptoBulk d + 1
  | .slice elems spare => uptoBulkAll elems + uptoBulkAll spare + 1
  | .agg parts => uptoBulkAll parts + 1
  | .iface _ d => uptoBulk d + 1
  | .map entries => uptoBulkEntries entries + 1
  | .held _ => 1
def uptoBulkAll {H : Type} : List (DataW H) → Nat
  | [] => 0
  | d :: r => uptoBulk d + uptoBulkAll r
def uptoBulkEntries {H : Type} : List (Lit × DataW H) → Nat
  | [] => 0
  | x :: r => uptoBulkEntry x + uptoBulkEntries r
def uptoBulkEntry {H : Type} : Lit × DataW H → Nat
  | (.string bytes, d) => bytes.length + uptoBulk d + 1
  | (_, d) => uptoBulk d + 1
 end
def uptoSmall : (H : Type) → List (DataW H) → Bool := fun _ ds => decide (uptoBulkAll ds ≤ 1048576)
def OpenSpec.upto (s : _root_.Go.ChangeSpec) : _root_.Go.OpenSpec := { _root_.Go.OpenSpec.ofChange s with cond := some uptoSmall }

/-- 'binnaclelaw09.CholPivots', WHERE WHAT IT READS IS OF BULK AT MOST 1048576: true; the input reads as it did. -/
def cholPivotsUptoRow : OpenClaim := { program := "ytfmecpembnmnkaagreatdoor", sum := "7761472b0678461d5111e7a2407e5793a065f72a5f689dd74ea46f1d98734423", func := "binnacle/binnaclelaw09.CholPivots", spec := "cholPivots", inPlace := ["math.Float64frombits", "math.Float64bits", "math.FMA", "math/bits.Add64", "math/bits.Sub64", "math.sqrt"], unfollowed := true, recurses := true, named := ["math/bits.deBruijn64tab"], apart := false, laid := [("math/bits.deBruijn64tab", laid_math_bits_deBruijn64tab)], narrowed := true }
def CholPivotsUptoSaid : Prop := cholPivotsUptoRow.holds Tryz.pinned (OpenSpec.upto cholPivotsSpec)

/-- 'binnaclelaw09.CholFactors', WHERE WHAT IT READS IS OF BULK AT MOST 1048576: true; the input reads as it did. -/
def cholFactorsUptoRow : OpenClaim := { program := "ytfmecpembnmnkaagreatdoor", sum := "7761472b0678461d5111e7a2407e5793a065f72a5f689dd74ea46f1d98734423", func := "binnacle/binnaclelaw09.CholFactors", spec := "cholFactors", inPlace := ["math.Float64frombits", "math.Float64bits", "math.sqrt", "math.FMA", "math/bits.Add64", "math/bits.Sub64"], unfollowed := true, recurses := true, named := ["math/bits.deBruijn64tab"], apart := false, laid := [("math/bits.deBruijn64tab", laid_math_bits_deBruijn64tab)], narrowed := true }
def CholFactorsUptoSaid : Prop := cholFactorsUptoRow.holds Tryz.pinned (OpenSpec.upto cholFactorsSpec)

/-- 'binnaclelaw09.CholTriangles', WHERE WHAT IT READS IS OF BULK AT MOST 1048576: true; the input reads as it did. -/
def cholTrianglesUptoRow : OpenClaim := { program := "ytfmecpembnmnkaagreatdoor", sum := "7761472b0678461d5111e7a2407e5793a065f72a5f689dd74ea46f1d98734423", func := "binnacle/binnaclelaw09.CholTriangles", spec := "cholTriangles", inPlace := ["math.Float64frombits", "math.Float64bits", "math.sqrt", "math.FMA", "math/bits.Add64", "math/bits.Sub64"], unfollowed := true, recurses := true, named := ["math/bits.deBruijn64tab"], apart := false, laid := [("math/bits.deBruijn64tab", laid_math_bits_deBruijn64tab)], narrowed := true }
def CholTrianglesUptoSaid : Prop := cholTrianglesUptoRow.holds Tryz.pinned (OpenSpec.upto cholTrianglesSpec)

/-- 'binnaclelaw09.CholSolves', WHERE WHAT IT READS IS OF BULK AT MOST 1048576: true; the input reads as it did. -/
def cholSolvesUptoRow : OpenClaim := { program := "ytfmecpembnmnkaagreatdoor", sum := "7761472b0678461d5111e7a2407e5793a065f72a5f689dd74ea46f1d98734423", func := "binnacle/binnaclelaw09.CholSolves", spec := "cholSolves", inPlace := ["math.Float64frombits", "math.Float64bits", "math.sqrt", "math.FMA", "math/bits.Add64", "math/bits.Sub64"], unfollowed := true, recurses := true, named := ["math/bits.deBruijn64tab"], apart := false, laid := [("math/bits.deBruijn64tab", laid_math_bits_deBruijn64tab)], narrowed := true }
def CholSolvesUptoSaid : Prop := cholSolvesUptoRow.holds Tryz.pinned (OpenSpec.upto cholSolvesSpec)

/-- 'binnaclelaw09.CholColumns', WHERE WHAT IT READS IS OF BULK AT MOST 1048576: true; the input reads as it did. -/
def cholColumnsUptoRow : OpenClaim := { program := "ytfmecpembnmnkaagreatdoor", sum := "7761472b0678461d5111e7a2407e5793a065f72a5f689dd74ea46f1d98734423", func := "binnacle/binnaclelaw09.CholColumns", spec := "cholColumns", inPlace := ["math.Float64frombits", "math.Float64bits", "math.sqrt", "math.FMA", "math/bits.Add64", "math/bits.Sub64"], unfollowed := true, recurses := true, named := ["math/bits.deBruijn64tab"], apart := false, laid := [("math/bits.deBruijn64tab", laid_math_bits_deBruijn64tab)], narrowed := true }
def CholColumnsUptoSaid : Prop := cholColumnsUptoRow.holds Tryz.pinned (OpenSpec.upto cholColumnsSpec)

end Rows
end Go.Proofs.YtfmecpembnmnkaaGreatDoor
