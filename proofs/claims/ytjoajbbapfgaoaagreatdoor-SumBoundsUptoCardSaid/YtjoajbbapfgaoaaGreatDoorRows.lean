/-
  NARROWER THAN 'FOR EVERY INPUT', by the rows' own cells (each row's printed sentence says how): DyadMakes: laid · DyadRounds: laid · DyadSums: laid · DyadReckons: laid · SumNearest: laid · SumWays: laid · SumBounds: laid · SumOff: laid · SumDots: laid · SumNoOrder: laid · SumMeans: laid.
  DERIVED. THE GIVEN ROWS OF THIS SEAT. 11 by the template 'for every input the law returns true; each argument reads behind the call as it read before'; 0 by the template 'total and deterministic' (their statements: YtjoajbbapfgaoaaGreatDoorTotals.lean).
  GIVEN WITH THE SEED: the statements are not yours to turn. If you find one false, say at which input.
  Laid BY PROGRAM, IN A SANDBOX (cutbox-rows.mjs): the forced cells as the released guide's own fill.sh prints them over the translation f8fac4305477982f… (all of the seat's roots in one cut). By AI agents, Wed Nov 11 2026. No macro, syntax, notation, axiom, sorry.
-/
import Derived.Test.YtjoajbbapfgaoaaGreatDoorChecked
import GoSem.Claim
import GoSem.ClaimJoined
import GoSem.ClaimMapViews
import Derived.JoinedTies
import Derived.KernelRfl
namespace Go.Proofs.YtjoajbbapfgaoaaGreatDoor
/- THE CELL 'sum', in the pinned program and in every row, IS THE sha256 OF THE DUMP (.gsa) THAT YtjoajbbapfgaoaaGreatDoorProg.lean LOADS. Nothing in Lean hashes anything: it is a label: what it is worth is what the hold of that sum in a sandbox is worth. -/
noncomputable def Tryz.pinned : Pinned := { name := "ytjoajbbapfgaoaagreatdoor", sum := "f8fac4305477982f6a516b700f973436e67fbc57f251ee8fb494a7da1fda3bd3", checked := Tryz.checked }
namespace Rows
def none {H : Type} : Left H := { results := [], args := [] }

/- WHAT THE LISTED PACKAGE-LEVEL VARIABLES READ AS WHEN THE CALL BEGINS. Each datum BY PROGRAM (the guide's laid-datum.mjs) off the statement by which the dump's own 'gosem.cut.vars' lays the variable. In a bare row this is a premise. The card (YtjoajbbapfgaoaaGreatDoorCards.lean) ties it to the program's text. -/
def laid_math_bits_deBruijn32tab {H : Type} : DataW H := .agg [.lit (.int .u8 0), .lit (.int .u8 1), .lit (.int .u8 28), .lit (.int .u8 2), .lit (.int .u8 29), .lit (.int .u8 14), .lit (.int .u8 24), .lit (.int .u8 3), .lit (.int .u8 30), .lit (.int .u8 22), .lit (.int .u8 20), .lit (.int .u8 15), .lit (.int .u8 25), .lit (.int .u8 17), .lit (.int .u8 4), .lit (.int .u8 8), .lit (.int .u8 31), .lit (.int .u8 27), .lit (.int .u8 13), .lit (.int .u8 23), .lit (.int .u8 21), .lit (.int .u8 19), .lit (.int .u8 16), .lit (.int .u8 7), .lit (.int .u8 26), .lit (.int .u8 12), .lit (.int .u8 18), .lit (.int .u8 6), .lit (.int .u8 11), .lit (.int .u8 5), .lit (.int .u8 10), .lit (.int .u8 9)]
def laid_math_bits_deBruijn64tab {H : Type} : DataW H := .agg [.lit (.int .u8 0), .lit (.int .u8 1), .lit (.int .u8 56), .lit (.int .u8 2), .lit (.int .u8 57), .lit (.int .u8 49), .lit (.int .u8 28), .lit (.int .u8 3), .lit (.int .u8 61), .lit (.int .u8 58), .lit (.int .u8 42), .lit (.int .u8 50), .lit (.int .u8 38), .lit (.int .u8 29), .lit (.int .u8 17), .lit (.int .u8 4), .lit (.int .u8 62), .lit (.int .u8 47), .lit (.int .u8 59), .lit (.int .u8 36), .lit (.int .u8 45), .lit (.int .u8 43), .lit (.int .u8 51), .lit (.int .u8 22), .lit (.int .u8 53), .lit (.int .u8 39), .lit (.int .u8 33), .lit (.int .u8 30), .lit (.int .u8 24), .lit (.int .u8 18), .lit (.int .u8 12), .lit (.int .u8 5), .lit (.int .u8 63), .lit (.int .u8 55), .lit (.int .u8 48), .lit (.int .u8 27), .lit (.int .u8 60), .lit (.int .u8 41), .lit (.int .u8 37), .lit (.int .u8 16), .lit (.int .u8 46), .lit (.int .u8 35), .lit (.int .u8 44), .lit (.int .u8 21), .lit (.int .u8 52), .lit (.int .u8 32), .lit (.int .u8 23), .lit (.int .u8 11), .lit (.int .u8 54), .lit (.int .u8 26), .lit (.int .u8 40), .lit (.int .u8 15), .lit (.int .u8 34), .lit (.int .u8 20), .lit (.int .u8 31), .lit (.int .u8 10), .lit (.int .u8 25), .lit (.int .u8 14), .lit (.int .u8 19), .lit (.int .u8 9), .lit (.int .u8 13), .lit (.int .u8 8), .lit (.int .u8 7), .lit (.int .u8 6)]

/-- 'binnaclelaw03.DyadMakes': WHATEVER THE INPUT: true; the input reads as it did. -/
def dyadMakesSpec : ChangeSpec := { name := "dyadMakes", fn := fun _ => fun
  | [d1, d2, d3] => { results := [.lit (.bool true)], args := [d1, d2, d3] }
  | _ => none }
def dyadMakesRow : OpenClaim := { program := "ytjoajbbapfgaoaagreatdoor", sum := "f8fac4305477982f6a516b700f973436e67fbc57f251ee8fb494a7da1fda3bd3", func := "binnacle/binnaclelaw03.DyadMakes", spec := "dyadMakes", inPlace := ["math.Float64frombits", "math.Float64bits", "math/bits.Add64", "math/bits.Sub64"], unfollowed := true, recurses := true, named := ["math/bits.deBruijn64tab", "math/bits.deBruijn32tab"], apart := false, laid := [("math/bits.deBruijn32tab", laid_math_bits_deBruijn32tab), ("math/bits.deBruijn64tab", laid_math_bits_deBruijn64tab)] }
def DyadMakesSaid : Prop := dyadMakesRow.holds Tryz.pinned (OpenSpec.ofChange dyadMakesSpec)

/-- ITS FALSE NEIGHBOUR: 'it returns false'. Refute it at one input. -/
def dyadMakesWrong : ChangeSpec := { name := "dyadMakes", fn := fun _ => fun
  | [d1, d2, d3] => { results := [.lit (.bool false)], args := [d1, d2, d3] }
  | _ => none }
def DyadMakesWrongFalsely : Prop := dyadMakesRow.holds Tryz.pinned (OpenSpec.ofChange dyadMakesWrong)

/-- 'binnaclelaw03.DyadRounds': WHATEVER THE INPUT: true; the input reads as it did. -/
def dyadRoundsSpec : ChangeSpec := { name := "dyadRounds", fn := fun _ => fun
  | [d1, d2] => { results := [.lit (.bool true)], args := [d1, d2] }
  | _ => none }
def dyadRoundsRow : OpenClaim := { program := "ytjoajbbapfgaoaagreatdoor", sum := "f8fac4305477982f6a516b700f973436e67fbc57f251ee8fb494a7da1fda3bd3", func := "binnacle/binnaclelaw03.DyadRounds", spec := "dyadRounds", inPlace := ["math/bits.Add64", "math/bits.Sub64", "math.Float64frombits", "math.Float32frombits", "math.Float64bits", "math.Float32bits"], unfollowed := true, recurses := true, named := ["math/bits.deBruijn64tab", "math/bits.deBruijn32tab"], apart := false, laid := [("math/bits.deBruijn32tab", laid_math_bits_deBruijn32tab), ("math/bits.deBruijn64tab", laid_math_bits_deBruijn64tab)] }
def DyadRoundsSaid : Prop := dyadRoundsRow.holds Tryz.pinned (OpenSpec.ofChange dyadRoundsSpec)

/-- ITS FALSE NEIGHBOUR: 'it returns false'. Refute it at one input. -/
def dyadRoundsWrong : ChangeSpec := { name := "dyadRounds", fn := fun _ => fun
  | [d1, d2] => { results := [.lit (.bool false)], args := [d1, d2] }
  | _ => none }
def DyadRoundsWrongFalsely : Prop := dyadRoundsRow.holds Tryz.pinned (OpenSpec.ofChange dyadRoundsWrong)

/-- 'binnaclelaw03.DyadSums': WHATEVER THE INPUT: true; the input reads as it did. -/
def dyadSumsSpec : ChangeSpec := { name := "dyadSums", fn := fun _ => fun
  | [d1, d2] => { results := [.lit (.bool true)], args := [d1, d2] }
  | _ => none }
def dyadSumsRow : OpenClaim := { program := "ytjoajbbapfgaoaagreatdoor", sum := "f8fac4305477982f6a516b700f973436e67fbc57f251ee8fb494a7da1fda3bd3", func := "binnacle/binnaclelaw03.DyadSums", spec := "dyadSums", inPlace := ["math.Float64frombits", "math.Float64bits", "math/bits.Add64", "math/bits.Sub64"], unfollowed := true, recurses := true, named := ["math/bits.deBruijn64tab", "math/bits.deBruijn32tab"], apart := false, laid := [("math/bits.deBruijn32tab", laid_math_bits_deBruijn32tab), ("math/bits.deBruijn64tab", laid_math_bits_deBruijn64tab)] }
def DyadSumsSaid : Prop := dyadSumsRow.holds Tryz.pinned (OpenSpec.ofChange dyadSumsSpec)

/-- ITS FALSE NEIGHBOUR: 'it returns false'. Refute it at one input. -/
def dyadSumsWrong : ChangeSpec := { name := "dyadSums", fn := fun _ => fun
  | [d1, d2] => { results := [.lit (.bool false)], args := [d1, d2] }
  | _ => none }
def DyadSumsWrongFalsely : Prop := dyadSumsRow.holds Tryz.pinned (OpenSpec.ofChange dyadSumsWrong)

/-- 'binnaclelaw03.DyadReckons': WHATEVER THE INPUT: true; the input reads as it did. -/
def dyadReckonsSpec : ChangeSpec := { name := "dyadReckons", fn := fun _ => fun
  | [d1, d2, d3] => { results := [.lit (.bool true)], args := [d1, d2, d3] }
  | _ => none }
def dyadReckonsRow : OpenClaim := { program := "ytjoajbbapfgaoaagreatdoor", sum := "f8fac4305477982f6a516b700f973436e67fbc57f251ee8fb494a7da1fda3bd3", func := "binnacle/binnaclelaw03.DyadReckons", spec := "dyadReckons", inPlace := ["math/bits.Add64", "math/bits.Sub64", "math.Float64bits", "math.Float64frombits"], unfollowed := true, recurses := true, named := ["math/bits.deBruijn64tab", "math/bits.deBruijn32tab"], apart := false, laid := [("math/bits.deBruijn32tab", laid_math_bits_deBruijn32tab), ("math/bits.deBruijn64tab", laid_math_bits_deBruijn64tab)] }
def DyadReckonsSaid : Prop := dyadReckonsRow.holds Tryz.pinned (OpenSpec.ofChange dyadReckonsSpec)

/-- ITS FALSE NEIGHBOUR: 'it returns false'. Refute it at one input. -/
def dyadReckonsWrong : ChangeSpec := { name := "dyadReckons", fn := fun _ => fun
  | [d1, d2, d3] => { results := [.lit (.bool false)], args := [d1, d2, d3] }
  | _ => none }
def DyadReckonsWrongFalsely : Prop := dyadReckonsRow.holds Tryz.pinned (OpenSpec.ofChange dyadReckonsWrong)

/-- 'binnaclelaw05.SumNearest': WHATEVER THE INPUT: true; the input reads as it did. -/
def sumNearestSpec : ChangeSpec := { name := "sumNearest", fn := fun _ => fun
  | [d1, d2] => { results := [.lit (.bool true)], args := [d1, d2] }
  | _ => none }
def sumNearestRow : OpenClaim := { program := "ytjoajbbapfgaoaagreatdoor", sum := "f8fac4305477982f6a516b700f973436e67fbc57f251ee8fb494a7da1fda3bd3", func := "binnacle/binnaclelaw05.SumNearest", spec := "sumNearest", inPlace := ["math.Float64frombits", "math.Float64bits", "math/bits.Add64", "math/bits.Sub64"], unfollowed := true, recurses := true, named := ["math/bits.deBruijn64tab"], apart := false, laid := [("math/bits.deBruijn64tab", laid_math_bits_deBruijn64tab)] }
def SumNearestSaid : Prop := sumNearestRow.holds Tryz.pinned (OpenSpec.ofChange sumNearestSpec)

/-- ITS FALSE NEIGHBOUR: 'it returns false'. Refute it at one input. -/
def sumNearestWrong : ChangeSpec := { name := "sumNearest", fn := fun _ => fun
  | [d1, d2] => { results := [.lit (.bool false)], args := [d1, d2] }
  | _ => none }
def SumNearestWrongFalsely : Prop := sumNearestRow.holds Tryz.pinned (OpenSpec.ofChange sumNearestWrong)

/-- 'binnaclelaw05.SumWays': WHATEVER THE INPUT: true; the input reads as it did. -/
def sumWaysSpec : ChangeSpec := { name := "sumWays", fn := fun _ => fun
  | [d1, d2] => { results := [.lit (.bool true)], args := [d1, d2] }
  | _ => none }
def sumWaysRow : OpenClaim := { program := "ytjoajbbapfgaoaagreatdoor", sum := "f8fac4305477982f6a516b700f973436e67fbc57f251ee8fb494a7da1fda3bd3", func := "binnacle/binnaclelaw05.SumWays", spec := "sumWays", inPlace := ["math.Float64frombits", "math.Float64bits", "math/bits.Add64", "math/bits.Sub64"], unfollowed := true, recurses := true, named := ["math/bits.deBruijn32tab", "math/bits.deBruijn64tab"], apart := false, laid := [("math/bits.deBruijn32tab", laid_math_bits_deBruijn32tab), ("math/bits.deBruijn64tab", laid_math_bits_deBruijn64tab)] }
def SumWaysSaid : Prop := sumWaysRow.holds Tryz.pinned (OpenSpec.ofChange sumWaysSpec)

/-- ITS FALSE NEIGHBOUR: 'it returns false'. Refute it at one input. -/
def sumWaysWrong : ChangeSpec := { name := "sumWays", fn := fun _ => fun
  | [d1, d2] => { results := [.lit (.bool false)], args := [d1, d2] }
  | _ => none }
def SumWaysWrongFalsely : Prop := sumWaysRow.holds Tryz.pinned (OpenSpec.ofChange sumWaysWrong)

/-- 'binnaclelaw05.SumBounds': WHATEVER THE INPUT: true; the input reads as it did. -/
def sumBoundsSpec : ChangeSpec := { name := "sumBounds", fn := fun _ => fun
  | [d] => { results := [.lit (.bool true)], args := [d] }
  | _ => none }
def sumBoundsRow : OpenClaim := { program := "ytjoajbbapfgaoaagreatdoor", sum := "f8fac4305477982f6a516b700f973436e67fbc57f251ee8fb494a7da1fda3bd3", func := "binnacle/binnaclelaw05.SumBounds", spec := "sumBounds", inPlace := ["math.Float64frombits", "math.Float64bits", "math/bits.Add64", "math/bits.Sub64"], unfollowed := true, recurses := true, named := ["math/bits.deBruijn64tab"], apart := false, laid := [("math/bits.deBruijn64tab", laid_math_bits_deBruijn64tab)] }
def SumBoundsSaid : Prop := sumBoundsRow.holds Tryz.pinned (OpenSpec.ofChange sumBoundsSpec)

/-- ITS FALSE NEIGHBOUR: 'it returns false'. Refute it at one input. -/
def sumBoundsWrong : ChangeSpec := { name := "sumBounds", fn := fun _ => fun
  | [d] => { results := [.lit (.bool false)], args := [d] }
  | _ => none }
def SumBoundsWrongFalsely : Prop := sumBoundsRow.holds Tryz.pinned (OpenSpec.ofChange sumBoundsWrong)

/-- 'binnaclelaw05.SumOff': WHATEVER THE INPUT: true; the input reads as it did. -/
def sumOffSpec : ChangeSpec := { name := "sumOff", fn := fun _ => fun
  | [d1, d2] => { results := [.lit (.bool true)], args := [d1, d2] }
  | _ => none }
def sumOffRow : OpenClaim := { program := "ytjoajbbapfgaoaagreatdoor", sum := "f8fac4305477982f6a516b700f973436e67fbc57f251ee8fb494a7da1fda3bd3", func := "binnacle/binnaclelaw05.SumOff", spec := "sumOff", inPlace := ["math.Float64frombits", "math.Float64bits", "math/bits.Add64", "math/bits.Sub64"], unfollowed := true, recurses := true, named := ["math/bits.deBruijn64tab", "math/bits.deBruijn32tab"], apart := false, laid := [("math/bits.deBruijn32tab", laid_math_bits_deBruijn32tab), ("math/bits.deBruijn64tab", laid_math_bits_deBruijn64tab)] }
def SumOffSaid : Prop := sumOffRow.holds Tryz.pinned (OpenSpec.ofChange sumOffSpec)

/-- ITS FALSE NEIGHBOUR: 'it returns false'. Refute it at one input. -/
def sumOffWrong : ChangeSpec := { name := "sumOff", fn := fun _ => fun
  | [d1, d2] => { results := [.lit (.bool false)], args := [d1, d2] }
  | _ => none }
def SumOffWrongFalsely : Prop := sumOffRow.holds Tryz.pinned (OpenSpec.ofChange sumOffWrong)

/-- 'binnaclelaw05.SumDots': WHATEVER THE INPUT: true; the input reads as it did. -/
def sumDotsSpec : ChangeSpec := { name := "sumDots", fn := fun _ => fun
  | [d1, d2] => { results := [.lit (.bool true)], args := [d1, d2] }
  | _ => none }
def sumDotsRow : OpenClaim := { program := "ytjoajbbapfgaoaagreatdoor", sum := "f8fac4305477982f6a516b700f973436e67fbc57f251ee8fb494a7da1fda3bd3", func := "binnacle/binnaclelaw05.SumDots", spec := "sumDots", inPlace := ["math.Float64frombits", "math.Float64bits", "math/bits.Add64", "math/bits.Sub64"], unfollowed := true, recurses := true, named := ["math/bits.deBruijn64tab", "math/bits.deBruijn32tab"], apart := false, laid := [("math/bits.deBruijn32tab", laid_math_bits_deBruijn32tab), ("math/bits.deBruijn64tab", laid_math_bits_deBruijn64tab)] }
def SumDotsSaid : Prop := sumDotsRow.holds Tryz.pinned (OpenSpec.ofChange sumDotsSpec)

/-- ITS FALSE NEIGHBOUR: 'it returns false'. Refute it at one input. -/
def sumDotsWrong : ChangeSpec := { name := "sumDots", fn := fun _ => fun
  | [d1, d2] => { results := [.lit (.bool false)], args := [d1, d2] }
  | _ => none }
def SumDotsWrongFalsely : Prop := sumDotsRow.holds Tryz.pinned (OpenSpec.ofChange sumDotsWrong)

/-- 'binnaclelaw05.SumNoOrder': WHATEVER THE INPUT: true; the input reads as it did. -/
def sumNoOrderSpec : ChangeSpec := { name := "sumNoOrder", fn := fun _ => fun
  | [d1, d2, d3] => { results := [.lit (.bool true)], args := [d1, d2, d3] }
  | _ => none }
def sumNoOrderRow : OpenClaim := { program := "ytjoajbbapfgaoaagreatdoor", sum := "f8fac4305477982f6a516b700f973436e67fbc57f251ee8fb494a7da1fda3bd3", func := "binnacle/binnaclelaw05.SumNoOrder", spec := "sumNoOrder", inPlace := ["math.Float64bits", "math.Float64frombits", "math/bits.Add64", "math/bits.Sub64"], unfollowed := true, recurses := true, named := ["math/bits.deBruijn64tab", "math/bits.divideError", "math/bits.overflowError"], apart := false, laid := [("math/bits.deBruijn64tab", laid_math_bits_deBruijn64tab)] }
def SumNoOrderSaid : Prop := sumNoOrderRow.holds Tryz.pinned (OpenSpec.ofChange sumNoOrderSpec)

/-- ITS FALSE NEIGHBOUR: 'it returns false'. Refute it at one input. -/
def sumNoOrderWrong : ChangeSpec := { name := "sumNoOrder", fn := fun _ => fun
  | [d1, d2, d3] => { results := [.lit (.bool false)], args := [d1, d2, d3] }
  | _ => none }
def SumNoOrderWrongFalsely : Prop := sumNoOrderRow.holds Tryz.pinned (OpenSpec.ofChange sumNoOrderWrong)

/-- 'binnaclelaw05.SumMeans': WHATEVER THE INPUT: true; the input reads as it did. -/
def sumMeansSpec : ChangeSpec := { name := "sumMeans", fn := fun _ => fun
  | [d] => { results := [.lit (.bool true)], args := [d] }
  | _ => none }
def sumMeansRow : OpenClaim := { program := "ytjoajbbapfgaoaagreatdoor", sum := "f8fac4305477982f6a516b700f973436e67fbc57f251ee8fb494a7da1fda3bd3", func := "binnacle/binnaclelaw05.SumMeans", spec := "sumMeans", inPlace := ["math.Float64frombits", "math.Float64bits", "math/bits.Add64", "math/bits.Sub64", "math.archMax", "math.sqrt"], unfollowed := true, recurses := true, named := ["math/bits.deBruijn64tab", "math/bits.divideError", "math/bits.overflowError", "math/bits.deBruijn32tab"], apart := false, laid := [("math/bits.deBruijn32tab", laid_math_bits_deBruijn32tab), ("math/bits.deBruijn64tab", laid_math_bits_deBruijn64tab)] }
def SumMeansSaid : Prop := sumMeansRow.holds Tryz.pinned (OpenSpec.ofChange sumMeansSpec)

/-- ITS FALSE NEIGHBOUR: 'it returns false'. Refute it at one input. -/
def sumMeansWrong : ChangeSpec := { name := "sumMeans", fn := fun _ => fun
  | [d] => { results := [.lit (.bool false)], args := [d] }
  | _ => none }
def SumMeansWrongFalsely : Prop := sumMeansRow.holds Tryz.pinned (OpenSpec.ofChange sumMeansWrong)

/- THE SECOND FORM. 'bulk': how many values and letters a reading holds, each counted each time it is reached (what is shared counts as often as it is met; a slice's spare places count too). A statement '..UptoSaid' is the law's where the arguments, and the package variables that the reading takes, are together of bulk at most 1048576: NARROWER than '..Said'. Prove '..Said' where nothing that the law and all that it calls make is longer than what came in: it says more and counts as full. Else prove '..UptoSaid'. A law counts once. -/
mutual
def uptoBulk {H : Type} : DataW H → Nat
  | .lit (.string bytes) => bytes.length + 1
  | .lit _ => 1
  | .nil => 1
  | .ptr d => uptoBulk d + 1
  | .slice elems spare => uptoBulkAll elems + uptoBulkAll spare + 1
  | .agg parts => uptoBulkAll parts + 1
  | .iface _ d => uptoBulk d + 1
  | .map entries => uptoBulkEntries entries + 1
  | .held _ => 1
def uptoBulkAll {H : Type} : List (DataW H) → Nat
  | [] => 0
  | d :: r => uptoBulk d + uptoBulkAll r
def uptoBulkEntries {H : Type} : List (Lit × DataW H) → Nat
  | [] => 0
  | x :: r => uptoBulkEntry x + uptoBulkEntries r
def uptoBulkEntry {H : Type} : Lit × DataW H → Nat
  | (.string bytes, d) => bytes.length + uptoBulk d + 1
  | (_, d) => uptoBulk d + 1
 end
def uptoSmall : (H : Type) → List (DataW H) → Bool := fun _ ds => decide (uptoBulkAll ds ≤ 1048576)
def OpenSpec.upto (s : _root_.Go.ChangeSpec) : _root_.Go.OpenSpec := { _root_.Go.OpenSpec.ofChange s with cond := some uptoSmall }

/-- 'binnaclelaw03.DyadMakes', WHERE WHAT IT READS IS OF BULK AT MOST 1048576: true; the input reads as it did. -/
def dyadMakesUptoRow : OpenClaim := { program := "ytjoajbbapfgaoaagreatdoor", sum := "f8fac4305477982f6a516b700f973436e67fbc57f251ee8fb494a7da1fda3bd3", func := "binnacle/binnaclelaw03.DyadMakes", spec := "dyadMakes", inPlace := ["math.Float64frombits", "math.Float64bits", "math/bits.Add64", "math/bits.Sub64"], unfollowed := true, recurses := true, named := ["math/bits.deBruijn64tab", "math/bits.deBruijn32tab"], apart := false, laid := [("math/bits.deBruijn32tab", laid_math_bits_deBruijn32tab), ("math/bits.deBruijn64tab", laid_math_bits_deBruijn64tab)], narrowed := true }
def DyadMakesUptoSaid : Prop := dyadMakesUptoRow.holds Tryz.pinned (OpenSpec.upto dyadMakesSpec)

/-- 'binnaclelaw03.DyadRounds', WHERE WHAT IT READS IS OF BULK AT MOST 1048576: true; the input reads as it did. -/
def dyadRoundsUptoRow : OpenClaim := { program := "ytjoajbbapfgaoaagreatdoor", sum := "f8fac4305477982f6a516b700f973436e67fbc57f251ee8fb494a7da1fda3bd3", func := "binnacle/binnaclelaw03.DyadRounds", spec := "dyadRounds", inPlace := ["math/bits.Add64", "math/bits.Sub64", "math.Float64frombits", "math.Float32frombits", "math.Float64bits", "math.Float32bits"], unfollowed := true, recurses := true, named := ["math/bits.deBruijn64tab", "math/bits.deBruijn32tab"], apart := false, laid := [("math/bits.deBruijn32tab", laid_math_bits_deBruijn32tab), ("math/bits.deBruijn64tab", laid_math_bits_deBruijn64tab)], narrowed := true }
def DyadRoundsUptoSaid : Prop := dyadRoundsUptoRow.holds Tryz.pinned (OpenSpec.upto dyadRoundsSpec)

/-- 'binnaclelaw03.DyadSums', WHERE WHAT IT READS IS OF BULK AT MOST 1048576: true; the input reads as it did. -/
def dyadSumsUptoRow : OpenClaim := { program := "ytjoajbbapfgaoaagreatdoor", sum := "f8fac4305477982f6a516b700f973436e67fbc57f251ee8fb494a7da1fda3bd3", func := "binnacle/binnaclelaw03.DyadSums", spec := "dyadSums", inPlace := ["math.Float64frombits", "math.Float64bits", "math/bits.Add64", "math/bits.Sub64"], unfollowed := true, recurses := true, named := ["math/bits.deBruijn64tab", "math/bits.deBruijn32tab"], apart := false, laid := [("math/bits.deBruijn32tab", laid_math_bits_deBruijn32tab), ("math/bits.deBruijn64tab", laid_math_bits_deBruijn64tab)], narrowed := true }
def DyadSumsUptoSaid : Prop := dyadSumsUptoRow.holds Tryz.pinned (OpenSpec.upto dyadSumsSpec)

/-- 'binnaclelaw03.DyadReckons', WHERE WHAT IT READS IS OF BULK AT MOST 1048576: true; the input reads as it did. -/
def dyadReckonsUptoRow : OpenClaim := { program := "ytjoajbbapfgaoaagreatdoor", sum := "f8fac4305477982f6a516b700f973436e67fbc57f251ee8fb494a7da1fda3bd3", func := "binnacle/binnaclelaw03.DyadReckons", spec := "dyadReckons", inPlace := ["math/bits.Add64", "math/bits.Sub64", "math.Float64bits", "math.Float64frombits"], unfollowed := true, recurses := true, named := ["math/bits.deBruijn64tab", "math/bits.deBruijn32tab"], apart := false, laid := [("math/bits.deBruijn32tab", laid_math_bits_deBruijn32tab), ("math/bits.deBruijn64tab", laid_math_bits_deBruijn64tab)], narrowed := true }
def DyadReckonsUptoSaid : Prop := dyadReckonsUptoRow.holds Tryz.pinned (OpenSpec.upto dyadReckonsSpec)

/-- 'binnaclelaw05.SumNearest', WHERE WHAT IT READS IS OF BULK AT MOST 1048576: true; the input reads as it did. -/
def sumNearestUptoRow : OpenClaim := { program := "ytjoajbbapfgaoaagreatdoor", sum := "f8fac4305477982f6a516b700f973436e67fbc57f251ee8fb494a7da1fda3bd3", func := "binnacle/binnaclelaw05.SumNearest", spec := "sumNearest", inPlace := ["math.Float64frombits", "math.Float64bits", "math/bits.Add64", "math/bits.Sub64"], unfollowed := true, recurses := true, named := ["math/bits.deBruijn64tab"], apart := false, laid := [("math/bits.deBruijn64tab", laid_math_bits_deBruijn64tab)], narrowed := true }
def SumNearestUptoSaid : Prop := sumNearestUptoRow.holds Tryz.pinned (OpenSpec.upto sumNearestSpec)

/-- 'binnaclelaw05.SumWays', WHERE WHAT IT READS IS OF BULK AT MOST 1048576: true; the input reads as it did. -/
def sumWaysUptoRow : OpenClaim := { program := "ytjoajbbapfgaoaagreatdoor", sum := "f8fac4305477982f6a516b700f973436e67fbc57f251ee8fb494a7da1fda3bd3", func := "binnacle/binnaclelaw05.SumWays", spec := "sumWays", inPlace := ["math.Float64frombits", "math.Float64bits", "math/bits.Add64", "math/bits.Sub64"], unfollowed := true, recurses := true, named := ["math/bits.deBruijn32tab", "math/bits.deBruijn64tab"], apart := false, laid := [("math/bits.deBruijn32tab", laid_math_bits_deBruijn32tab), ("math/bits.deBruijn64tab", laid_math_bits_deBruijn64tab)], narrowed := true }
def SumWaysUptoSaid : Prop := sumWaysUptoRow.holds Tryz.pinned (OpenSpec.upto sumWaysSpec)

/-- 'binnaclelaw05.SumBounds', WHERE WHAT IT READS IS OF BULK AT MOST 1048576: true; the input reads as it did. -/
def sumBoundsUptoRow : OpenClaim := { program := "ytjoajbbapfgaoaagreatdoor", sum := "f8fac4305477982f6a516b700f973436e67fbc57f251ee8fb494a7da1fda3bd3", func := "binnacle/binnaclelaw05.SumBounds", spec := "sumBounds", inPlace := ["math.Float64frombits", "math.Float64bits", "math/bits.Add64", "math/bits.Sub64"], unfollowed := true, recurses := true, named := ["math/bits.deBruijn64tab"], apart := false, laid := [("math/bits.deBruijn64tab", laid_math_bits_deBruijn64tab)], narrowed := true }
def SumBoundsUptoSaid : Prop := sumBoundsUptoRow.holds Tryz.pinned (OpenSpec.upto sumBoundsSpec)

/-- 'binnaclelaw05.SumOff', WHERE WHAT IT READS IS OF BULK AT MOST 1048576: true; the input reads as it did. -/
def sumOffUptoRow : OpenClaim := { program := "ytjoajbbapfgaoaagreatdoor", sum := "f8fac4305477982f6a516b700f973436e67fbc57f251ee8fb494a7da1fda3bd3", func := "binnacle/binnaclelaw05.SumOff", spec := "sumOff", inPlace := ["math.Float64frombits", "math.Float64bits", "math/bits.Add64", "math/bits.Sub64"], unfollowed := true, recurses := true, named := ["math/bits.deBruijn64tab", "math/bits.deBruijn32tab"], apart := false, laid := [("math/bits.deBruijn32tab", laid_math_bits_deBruijn32tab), ("math/bits.deBruijn64tab", laid_math_bits_deBruijn64tab)], narrowed := true }
def SumOffUptoSaid : Prop := sumOffUptoRow.holds Tryz.pinned (OpenSpec.upto sumOffSpec)

/-- 'binnaclelaw05.SumDots', WHERE WHAT IT READS IS OF BULK AT MOST 1048576: true; the input reads as it did. -/
def sumDotsUptoRow : OpenClaim := { program := "ytjoajbbapfgaoaagreatdoor", sum := "f8fac4305477982f6a516b700f973436e67fbc57f251ee8fb494a7da1fda3bd3", func := "binnacle/binnaclelaw05.SumDots", spec := "sumDots", inPlace := ["math.Float64frombits", "math.Float64bits", "math/bits.Add64", "math/bits.Sub64"], unfollowed := true, recurses := true, named := ["math/bits.deBruijn64tab", "math/bits.deBruijn32tab"], apart := false, laid := [("math/bits.deBruijn32tab", laid_math_bits_deBruijn32tab), ("math/bits.deBruijn64tab", laid_math_bits_deBruijn64tab)], narrowed := true }
def SumDotsUptoSaid : Prop := sumDotsUptoRow.holds Tryz.pinned (OpenSpec.upto sumDotsSpec)

/-- 'binnaclelaw05.SumNoOrder', WHERE WHAT IT READS IS OF BULK AT MOST 1048576: true; the input reads as it did. -/
def sumNoOrderUptoRow : OpenClaim := { program := "ytjoajbbapfgaoaagreatdoor", sum := "f8fac4305477982f6a516b700f973436e67fbc57f251ee8fb494a7da1fda3bd3", func := "binnacle/binnaclelaw05.SumNoOrder", spec := "sumNoOrder", inPlace := ["math.Float64bits", "math.Float64frombits", "math/bits.Add64", "math/bits.Sub64"], unfollowed := true, recurses := true, named := ["math/bits.deBruijn64tab", "math/bits.divideError", "math/bits.overflowError"], apart := false, laid := [("math/bits.deBruijn64tab", laid_math_bits_deBruijn64tab)], narrowed := true }
def SumNoOrderUptoSaid : Prop := sumNoOrderUptoRow.holds Tryz.pinned (OpenSpec.upto sumNoOrderSpec)

/-- 'binnaclelaw05.SumMeans', WHERE WHAT IT READS IS OF BULK AT MOST 1048576: true; the input reads as it did. -/
def sumMeansUptoRow : OpenClaim := { program := "ytjoajbbapfgaoaagreatdoor", sum := "f8fac4305477982f6a516b700f973436e67fbc57f251ee8fb494a7da1fda3bd3", func := "binnacle/binnaclelaw05.SumMeans", spec := "sumMeans", inPlace := ["math.Float64frombits", "math.Float64bits", "math/bits.Add64", "math/bits.Sub64", "math.archMax", "math.sqrt"], unfollowed := true, recurses := true, named := ["math/bits.deBruijn64tab", "math/bits.divideError", "math/bits.overflowError", "math/bits.deBruijn32tab"], apart := false, laid := [("math/bits.deBruijn32tab", laid_math_bits_deBruijn32tab), ("math/bits.deBruijn64tab", laid_math_bits_deBruijn64tab)], narrowed := true }
def SumMeansUptoSaid : Prop := sumMeansUptoRow.holds Tryz.pinned (OpenSpec.upto sumMeansSpec)

end Rows
end Go.Proofs.YtjoajbbapfgaoaaGreatDoor
