/-
  NARROWER THAN 'FOR EVERY INPUT', by the rows' own cells (each row's printed sentence says how): DomHeads: laid · DomFrontiers: laid · DomLoops: laid · GraphMakes: laid · GraphReach: laid · GraphShortest: laid · GraphPostorder: laid · GraphOrder: laid · GraphTells: laid · GraphReverses: laid · DomTells: laid · DomTree: laid · DomRemoves: laid.
  DERIVED. THE GIVEN ROWS OF THIS SEAT. 13 by the template 'for every input the law returns true; each argument reads behind the call as it read before'; 0 by the template 'total and deterministic' (their statements: YtfgbkklhjocmjaaDoorTotals.lean).
  GIVEN WITH THE SEED: the statements are not yours to turn. If you find one false, say at which input.
  Laid BY PROGRAM, IN A SANDBOX (cutbox-rows.mjs): the forced cells as the released guide's own fill.sh prints them over the translation 2724a101ba879625… (all of the seat's roots in one cut). By AI agents, Wed Nov 11 2026. No macro, syntax, notation, axiom, sorry.
-/
import Derived.Test.YtfgbkklhjocmjaaDoorChecked
import GoSem.Claim
import GoSem.ClaimJoined
import GoSem.ClaimMapViews
import Derived.JoinedTies
import Derived.KernelRfl
namespace Go.Proofs.YtfgbkklhjocmjaaDoor
/- THE CELL 'sum', in the pinned program and in every row, IS THE sha256 OF THE DUMP (.gsa) THAT YtfgbkklhjocmjaaDoorProg.lean LOADS. Nothing in Lean hashes anything: it is a label: what it is worth is what the hold of that sum in a sandbox is worth. -/
noncomputable def Tryd.pinned : Pinned := { name := "ytfgbkklhjocmjaadoor", sum := "2724a101ba8796256b5ad8e6132f83a801d2877f5af1f4f7ed15d83417d8a61f", checked := Tryd.checked }
namespace Rows
def none {H : Type} : Left H := { results := [], args := [] }

/- WHAT THE LISTED PACKAGE-LEVEL VARIABLES READ AS WHEN THE CALL BEGINS. Each datum BY PROGRAM (the guide's laid-datum.mjs) off the statement by which the dump's own 'gosem.cut.vars' lays the variable. In a bare row this is a premise. The card (YtfgbkklhjocmjaaDoorCards.lean) ties it to the program's text. -/
def laid_math_bits_deBruijn64tab {H : Type} : DataW H := .agg [.lit (.int .u8 0), .lit (.int .u8 1), .lit (.int .u8 56), .lit (.int .u8 2), .lit (.int .u8 57), .lit (.int .u8 49), .lit (.int .u8 28), .lit (.int .u8 3), .lit (.int .u8 61), .lit (.int .u8 58), .lit (.int .u8 42), .lit (.int .u8 50), .lit (.int .u8 38), .lit (.int .u8 29), .lit (.int .u8 17), .lit (.int .u8 4), .lit (.int .u8 62), .lit (.int .u8 47), .lit (.int .u8 59), .lit (.int .u8 36), .lit (.int .u8 45), .lit (.int .u8 43), .lit (.int .u8 51), .lit (.int .u8 22), .lit (.int .u8 53), .lit (.int .u8 39), .lit (.int .u8 33), .lit (.int .u8 30), .lit (.int .u8 24), .lit (.int .u8 18), .lit (.int .u8 12), .lit (.int .u8 5), .lit (.int .u8 63), .lit (.int .u8 55), .lit (.int .u8 48), .lit (.int .u8 27), .lit (.int .u8 60), .lit (.int .u8 41), .lit (.int .u8 37), .lit (.int .u8 16), .lit (.int .u8 46), .lit (.int .u8 35), .lit (.int .u8 44), .lit (.int .u8 21), .lit (.int .u8 52), .lit (.int .u8 32), .lit (.int .u8 23), .lit (.int .u8 11), .lit (.int .u8 54), .lit (.int .u8 26), .lit (.int .u8 40), .lit (.int .u8 15), .lit (.int .u8 34), .lit (.int .u8 20), .lit (.int .u8 31), .lit (.int .u8 10), .lit (.int .u8 25), .lit (.int .u8 14), .lit (.int .u8 19), .lit (.int .u8 9), .lit (.int .u8 13), .lit (.int .u8 8), .lit (.int .u8 7), .lit (.int .u8 6)]

/-- 'dataflowlaw06.DomHeads': WHATEVER THE INPUT: true; the input reads as it did. -/
def domHeadsSpec : ChangeSpec := { name := "domHeads", fn := fun _ => fun
  | [d1, d2] => { results := [.lit (.bool true)], args := [d1, d2] }
  | _ => none }
def domHeadsRow : OpenClaim := { program := "ytfgbkklhjocmjaadoor", sum := "2724a101ba8796256b5ad8e6132f83a801d2877f5af1f4f7ed15d83417d8a61f", func := "dataflow/dataflowlaw06.DomHeads", spec := "domHeads", unfollowed := true, recurses := true, named := ["math/bits.deBruijn64tab"], apart := false, laid := [("math/bits.deBruijn64tab", laid_math_bits_deBruijn64tab)] }
def DomHeadsSaid : Prop := domHeadsRow.holds Tryd.pinned (OpenSpec.ofChange domHeadsSpec)

/-- ITS FALSE NEIGHBOUR: 'it returns false'. Refute it at one input. -/
def domHeadsWrong : ChangeSpec := { name := "domHeads", fn := fun _ => fun
  | [d1, d2] => { results := [.lit (.bool false)], args := [d1, d2] }
  | _ => none }
def DomHeadsWrongFalsely : Prop := domHeadsRow.holds Tryd.pinned (OpenSpec.ofChange domHeadsWrong)

/-- 'dataflowlaw06.DomFrontiers': WHATEVER THE INPUT: true; the input reads as it did. -/
def domFrontiersSpec : ChangeSpec := { name := "domFrontiers", fn := fun _ => fun
  | [d1, d2] => { results := [.lit (.bool true)], args := [d1, d2] }
  | _ => none }
def domFrontiersRow : OpenClaim := { program := "ytfgbkklhjocmjaadoor", sum := "2724a101ba8796256b5ad8e6132f83a801d2877f5af1f4f7ed15d83417d8a61f", func := "dataflow/dataflowlaw06.DomFrontiers", spec := "domFrontiers", unfollowed := true, recurses := true, named := ["math/bits.deBruijn64tab"], apart := false, laid := [("math/bits.deBruijn64tab", laid_math_bits_deBruijn64tab)] }
def DomFrontiersSaid : Prop := domFrontiersRow.holds Tryd.pinned (OpenSpec.ofChange domFrontiersSpec)

/-- ITS FALSE NEIGHBOUR: 'it returns false'. Refute it at one input. -/
def domFrontiersWrong : ChangeSpec := { name := "domFrontiers", fn := fun _ => fun
  | [d1, d2] => { results := [.lit (.bool false)], args := [d1, d2] }
  | _ => none }
def DomFrontiersWrongFalsely : Prop := domFrontiersRow.holds Tryd.pinned (OpenSpec.ofChange domFrontiersWrong)

/-- 'dataflowlaw06.DomLoops': WHATEVER THE INPUT: true; the input reads as it did. -/
def domLoopsSpec : ChangeSpec := { name := "domLoops", fn := fun _ => fun
  | [d1, d2] => { results := [.lit (.bool true)], args := [d1, d2] }
  | _ => none }
def domLoopsRow : OpenClaim := { program := "ytfgbkklhjocmjaadoor", sum := "2724a101ba8796256b5ad8e6132f83a801d2877f5af1f4f7ed15d83417d8a61f", func := "dataflow/dataflowlaw06.DomLoops", spec := "domLoops", unfollowed := true, recurses := true, named := ["math/bits.deBruijn64tab"], apart := false, laid := [("math/bits.deBruijn64tab", laid_math_bits_deBruijn64tab)] }
def DomLoopsSaid : Prop := domLoopsRow.holds Tryd.pinned (OpenSpec.ofChange domLoopsSpec)

/-- ITS FALSE NEIGHBOUR: 'it returns false'. Refute it at one input. -/
def domLoopsWrong : ChangeSpec := { name := "domLoops", fn := fun _ => fun
  | [d1, d2] => { results := [.lit (.bool false)], args := [d1, d2] }
  | _ => none }
def DomLoopsWrongFalsely : Prop := domLoopsRow.holds Tryd.pinned (OpenSpec.ofChange domLoopsWrong)

/-- 'dataflowlaw04.GraphMakes': WHATEVER THE INPUT: true; the input reads as it did. -/
def graphMakesSpec : ChangeSpec := { name := "graphMakes", fn := fun _ => fun
  | [d1, d2] => { results := [.lit (.bool true)], args := [d1, d2] }
  | _ => none }
def graphMakesRow : OpenClaim := { program := "ytfgbkklhjocmjaadoor", sum := "2724a101ba8796256b5ad8e6132f83a801d2877f5af1f4f7ed15d83417d8a61f", func := "dataflow/dataflowlaw04.GraphMakes", spec := "graphMakes", unfollowed := true, recurses := true, named := ["math/bits.deBruijn64tab"], apart := false, laid := [("math/bits.deBruijn64tab", laid_math_bits_deBruijn64tab)] }
def GraphMakesSaid : Prop := graphMakesRow.holds Tryd.pinned (OpenSpec.ofChange graphMakesSpec)

/-- ITS FALSE NEIGHBOUR: 'it returns false'. Refute it at one input. -/
def graphMakesWrong : ChangeSpec := { name := "graphMakes", fn := fun _ => fun
  | [d1, d2] => { results := [.lit (.bool false)], args := [d1, d2] }
  | _ => none }
def GraphMakesWrongFalsely : Prop := graphMakesRow.holds Tryd.pinned (OpenSpec.ofChange graphMakesWrong)

/-- 'dataflowlaw04.GraphReach': WHATEVER THE INPUT: true; the input reads as it did. -/
def graphReachSpec : ChangeSpec := { name := "graphReach", fn := fun _ => fun
  | [d1, d2, d3] => { results := [.lit (.bool true)], args := [d1, d2, d3] }
  | _ => none }
def graphReachRow : OpenClaim := { program := "ytfgbkklhjocmjaadoor", sum := "2724a101ba8796256b5ad8e6132f83a801d2877f5af1f4f7ed15d83417d8a61f", func := "dataflow/dataflowlaw04.GraphReach", spec := "graphReach", unfollowed := true, recurses := true, named := ["math/bits.deBruijn64tab"], apart := false, laid := [("math/bits.deBruijn64tab", laid_math_bits_deBruijn64tab)] }
def GraphReachSaid : Prop := graphReachRow.holds Tryd.pinned (OpenSpec.ofChange graphReachSpec)

/-- ITS FALSE NEIGHBOUR: 'it returns false'. Refute it at one input. -/
def graphReachWrong : ChangeSpec := { name := "graphReach", fn := fun _ => fun
  | [d1, d2, d3] => { results := [.lit (.bool false)], args := [d1, d2, d3] }
  | _ => none }
def GraphReachWrongFalsely : Prop := graphReachRow.holds Tryd.pinned (OpenSpec.ofChange graphReachWrong)

/-- 'dataflowlaw04.GraphShortest': WHATEVER THE INPUT: true; the input reads as it did. -/
def graphShortestSpec : ChangeSpec := { name := "graphShortest", fn := fun _ => fun
  | [d1, d2] => { results := [.lit (.bool true)], args := [d1, d2] }
  | _ => none }
def graphShortestRow : OpenClaim := { program := "ytfgbkklhjocmjaadoor", sum := "2724a101ba8796256b5ad8e6132f83a801d2877f5af1f4f7ed15d83417d8a61f", func := "dataflow/dataflowlaw04.GraphShortest", spec := "graphShortest", unfollowed := true, recurses := true, named := ["math/bits.deBruijn64tab"], apart := false, laid := [("math/bits.deBruijn64tab", laid_math_bits_deBruijn64tab)] }
def GraphShortestSaid : Prop := graphShortestRow.holds Tryd.pinned (OpenSpec.ofChange graphShortestSpec)

/-- ITS FALSE NEIGHBOUR: 'it returns false'. Refute it at one input. -/
def graphShortestWrong : ChangeSpec := { name := "graphShortest", fn := fun _ => fun
  | [d1, d2] => { results := [.lit (.bool false)], args := [d1, d2] }
  | _ => none }
def GraphShortestWrongFalsely : Prop := graphShortestRow.holds Tryd.pinned (OpenSpec.ofChange graphShortestWrong)

/-- 'dataflowlaw04.GraphPostorder': WHATEVER THE INPUT: true; the input reads as it did. -/
def graphPostorderSpec : ChangeSpec := { name := "graphPostorder", fn := fun _ => fun
  | [d1, d2] => { results := [.lit (.bool true)], args := [d1, d2] }
  | _ => none }
def graphPostorderRow : OpenClaim := { program := "ytfgbkklhjocmjaadoor", sum := "2724a101ba8796256b5ad8e6132f83a801d2877f5af1f4f7ed15d83417d8a61f", func := "dataflow/dataflowlaw04.GraphPostorder", spec := "graphPostorder", unfollowed := true, recurses := true, named := ["math/bits.deBruijn64tab"], apart := false, laid := [("math/bits.deBruijn64tab", laid_math_bits_deBruijn64tab)] }
def GraphPostorderSaid : Prop := graphPostorderRow.holds Tryd.pinned (OpenSpec.ofChange graphPostorderSpec)

/-- ITS FALSE NEIGHBOUR: 'it returns false'. Refute it at one input. -/
def graphPostorderWrong : ChangeSpec := { name := "graphPostorder", fn := fun _ => fun
  | [d1, d2] => { results := [.lit (.bool false)], args := [d1, d2] }
  | _ => none }
def GraphPostorderWrongFalsely : Prop := graphPostorderRow.holds Tryd.pinned (OpenSpec.ofChange graphPostorderWrong)

/-- 'dataflowlaw04.GraphOrder': WHATEVER THE INPUT: true; the input reads as it did. -/
def graphOrderSpec : ChangeSpec := { name := "graphOrder", fn := fun _ => fun
  | [d1, d2] => { results := [.lit (.bool true)], args := [d1, d2] }
  | _ => none }
def graphOrderRow : OpenClaim := { program := "ytfgbkklhjocmjaadoor", sum := "2724a101ba8796256b5ad8e6132f83a801d2877f5af1f4f7ed15d83417d8a61f", func := "dataflow/dataflowlaw04.GraphOrder", spec := "graphOrder", unfollowed := true, recurses := true, named := ["math/bits.deBruijn64tab"], apart := false, laid := [("math/bits.deBruijn64tab", laid_math_bits_deBruijn64tab)] }
def GraphOrderSaid : Prop := graphOrderRow.holds Tryd.pinned (OpenSpec.ofChange graphOrderSpec)

/-- ITS FALSE NEIGHBOUR: 'it returns false'. Refute it at one input. -/
def graphOrderWrong : ChangeSpec := { name := "graphOrder", fn := fun _ => fun
  | [d1, d2] => { results := [.lit (.bool false)], args := [d1, d2] }
  | _ => none }
def GraphOrderWrongFalsely : Prop := graphOrderRow.holds Tryd.pinned (OpenSpec.ofChange graphOrderWrong)

/-- 'dataflowlaw04.GraphTells': WHATEVER THE INPUT: true; the input reads as it did. -/
def graphTellsSpec : ChangeSpec := { name := "graphTells", fn := fun _ => fun
  | [d1, d2] => { results := [.lit (.bool true)], args := [d1, d2] }
  | _ => none }
def graphTellsRow : OpenClaim := { program := "ytfgbkklhjocmjaadoor", sum := "2724a101ba8796256b5ad8e6132f83a801d2877f5af1f4f7ed15d83417d8a61f", func := "dataflow/dataflowlaw04.GraphTells", spec := "graphTells", unfollowed := true, recurses := true, named := ["math/bits.deBruijn64tab"], apart := false, laid := [("math/bits.deBruijn64tab", laid_math_bits_deBruijn64tab)] }
def GraphTellsSaid : Prop := graphTellsRow.holds Tryd.pinned (OpenSpec.ofChange graphTellsSpec)

/-- ITS FALSE NEIGHBOUR: 'it returns false'. Refute it at one input. -/
def graphTellsWrong : ChangeSpec := { name := "graphTells", fn := fun _ => fun
  | [d1, d2] => { results := [.lit (.bool false)], args := [d1, d2] }
  | _ => none }
def GraphTellsWrongFalsely : Prop := graphTellsRow.holds Tryd.pinned (OpenSpec.ofChange graphTellsWrong)

/-- 'dataflowlaw04.GraphReverses': WHATEVER THE INPUT: true; the input reads as it did. -/
def graphReversesSpec : ChangeSpec := { name := "graphReverses", fn := fun _ => fun
  | [d1, d2, d3] => { results := [.lit (.bool true)], args := [d1, d2, d3] }
  | _ => none }
def graphReversesRow : OpenClaim := { program := "ytfgbkklhjocmjaadoor", sum := "2724a101ba8796256b5ad8e6132f83a801d2877f5af1f4f7ed15d83417d8a61f", func := "dataflow/dataflowlaw04.GraphReverses", spec := "graphReverses", unfollowed := true, recurses := true, named := ["math/bits.deBruijn64tab"], apart := false, laid := [("math/bits.deBruijn64tab", laid_math_bits_deBruijn64tab)] }
def GraphReversesSaid : Prop := graphReversesRow.holds Tryd.pinned (OpenSpec.ofChange graphReversesSpec)

/-- ITS FALSE NEIGHBOUR: 'it returns false'. Refute it at one input. -/
def graphReversesWrong : ChangeSpec := { name := "graphReverses", fn := fun _ => fun
  | [d1, d2, d3] => { results := [.lit (.bool false)], args := [d1, d2, d3] }
  | _ => none }
def GraphReversesWrongFalsely : Prop := graphReversesRow.holds Tryd.pinned (OpenSpec.ofChange graphReversesWrong)

/-- 'dataflowlaw06.DomTells': WHATEVER THE INPUT: true; the input reads as it did. -/
def domTellsSpec : ChangeSpec := { name := "domTells", fn := fun _ => fun
  | [d1, d2, d3] => { results := [.lit (.bool true)], args := [d1, d2, d3] }
  | _ => none }
def domTellsRow : OpenClaim := { program := "ytfgbkklhjocmjaadoor", sum := "2724a101ba8796256b5ad8e6132f83a801d2877f5af1f4f7ed15d83417d8a61f", func := "dataflow/dataflowlaw06.DomTells", spec := "domTells", unfollowed := true, recurses := true, named := ["math/bits.deBruijn64tab"], apart := false, laid := [("math/bits.deBruijn64tab", laid_math_bits_deBruijn64tab)] }
def DomTellsSaid : Prop := domTellsRow.holds Tryd.pinned (OpenSpec.ofChange domTellsSpec)

/-- ITS FALSE NEIGHBOUR: 'it returns false'. Refute it at one input. -/
def domTellsWrong : ChangeSpec := { name := "domTells", fn := fun _ => fun
  | [d1, d2, d3] => { results := [.lit (.bool false)], args := [d1, d2, d3] }
  | _ => none }
def DomTellsWrongFalsely : Prop := domTellsRow.holds Tryd.pinned (OpenSpec.ofChange domTellsWrong)

/-- 'dataflowlaw06.DomTree': WHATEVER THE INPUT: true; the input reads as it did. -/
def domTreeSpec : ChangeSpec := { name := "domTree", fn := fun _ => fun
  | [d1, d2, d3] => { results := [.lit (.bool true)], args := [d1, d2, d3] }
  | _ => none }
def domTreeRow : OpenClaim := { program := "ytfgbkklhjocmjaadoor", sum := "2724a101ba8796256b5ad8e6132f83a801d2877f5af1f4f7ed15d83417d8a61f", func := "dataflow/dataflowlaw06.DomTree", spec := "domTree", unfollowed := true, recurses := true, named := ["math/bits.deBruijn64tab"], apart := false, laid := [("math/bits.deBruijn64tab", laid_math_bits_deBruijn64tab)] }
def DomTreeSaid : Prop := domTreeRow.holds Tryd.pinned (OpenSpec.ofChange domTreeSpec)

/-- ITS FALSE NEIGHBOUR: 'it returns false'. Refute it at one input. -/
def domTreeWrong : ChangeSpec := { name := "domTree", fn := fun _ => fun
  | [d1, d2, d3] => { results := [.lit (.bool false)], args := [d1, d2, d3] }
  | _ => none }
def DomTreeWrongFalsely : Prop := domTreeRow.holds Tryd.pinned (OpenSpec.ofChange domTreeWrong)

/-- 'dataflowlaw06.DomRemoves': WHATEVER THE INPUT: true; the input reads as it did. -/
def domRemovesSpec : ChangeSpec := { name := "domRemoves", fn := fun _ => fun
  | [d1, d2, d3] => { results := [.lit (.bool true)], args := [d1, d2, d3] }
  | _ => none }
def domRemovesRow : OpenClaim := { program := "ytfgbkklhjocmjaadoor", sum := "2724a101ba8796256b5ad8e6132f83a801d2877f5af1f4f7ed15d83417d8a61f", func := "dataflow/dataflowlaw06.DomRemoves", spec := "domRemoves", unfollowed := true, recurses := true, named := ["math/bits.deBruijn64tab"], apart := false, laid := [("math/bits.deBruijn64tab", laid_math_bits_deBruijn64tab)] }
def DomRemovesSaid : Prop := domRemovesRow.holds Tryd.pinned (OpenSpec.ofChange domRemovesSpec)

/-- ITS FALSE NEIGHBOUR: 'it returns false'. Refute it at one input. -/
def domRemovesWrong : ChangeSpec := { name := "domRemoves", fn := fun _ => fun
  | [d1, d2, d3] => { results := [.lit (.bool false)], args := [d1, d2, d3] }
  | _ => none }
def DomRemovesWrongFalsely : Prop := domRemovesRow.holds Tryd.pinned (OpenSpec.ofChange domRemovesWrong)

/- THE SECOND FORM. 'bulk': how many values and letters a reading holds, each counted each time it is reached (what is shared counts as often as it is met; a slice's spare places count too). A statement '..UptoSaid' is the law's where the arguments, and the package variables that the reading takes, are together of bulk at most 1048576: NARROWER than '..Said'. Prove '..Said' where nothing that the law and all that it calls make is longer than what came in: it says more and counts as full. Else prove '..UptoSaid'. A law counts once. -/
mutual
def uptoBulk {H : Type} : DataW H → Nat
  | .lit (.string bytes) => bytes.length + 1
  | .lit _ => 1
  | .nil => 1
  | .ptr d => uptoBulk d + 1
  | .slice elems spare => uptoBulkAll elems + uptoBulkAll spare + 1
  | .agg parts => uptoBulkAll parts + 1
  | .iface _ d => uptoBulk d + 1
  | .map entries => uptoBulkEntries entries + 1
  | .held _ => 1
def uptoBulkAll {H : Type} : List (DataW H) → Nat
  | [] => 0
  | d :: r => uptoBulk d + uptoBulkAll r
def uptoBulkEntries {H : Type} : List (Lit × DataW H) → Nat
  | [] => 0
  | x :: r => uptoBulkEntry x + uptoBulkEntries r
def uptoBulkEntry {H : Type} : Lit × DataW H → Nat
  | (.string bytes, d) => bytes.length + uptoBulk d + 1
  | (_, d) => uptoBulk d + 1
 end
def uptoSmall : (H : Type) → List (DataW H) → Bool := fun _ ds => decide (uptoBulkAll ds ≤ 1048576)
def OpenSpec.upto (s : _root_.Go.ChangeSpec) : _root_.Go.OpenSpec := { _root_.Go.OpenSpec.ofChange s with cond := some uptoSmall }

/-- 'dataflowlaw06.DomHeads', WHERE WHAT IT READS IS OF BULK AT MOST 1048576: true; the input reads as it did. -/
def domHeadsUptoRow : OpenClaim := { program := "ytfgbkklhjocmjaadoor", sum := "2724a101ba8796256b5ad8e6132f83a801d2877f5af1f4f7ed15d83417d8a61f", func := "dataflow/dataflowlaw06.DomHeads", spec := "domHeads", unfollowed := true, recurses := true, named := ["math/bits.deBruijn64tab"], apart := false, laid := [("math/bits.deBruijn64tab", laid_math_bits_deBruijn64tab)], narrowed := true }
def DomHeadsUptoSaid : Prop := domHeadsUptoRow.holds Tryd.pinned (OpenSpec.upto domHeadsSpec)

/-- 'dataflowlaw06.DomFrontiers', WHERE WHAT IT READS IS OF BULK AT MOST 1048576: true; the input reads as it did. -/
def domFrontiersUptoRow : OpenClaim := { program := "ytfgbkklhjocmjaadoor", sum := "2724a101ba8796256b5ad8e6132f83a801d2877f5af1f4f7ed15d83417d8a61f", func := "dataflow/dataflowlaw06.DomFrontiers", spec := "domFrontiers", unfollowed := true, recurses := true, named := ["math/bits.deBruijn64tab"], apart := false, laid := [("math/bits.deBruijn64tab", laid_math_bits_deBruijn64tab)], narrowed := true }
def DomFrontiersUptoSaid : Prop := domFrontiersUptoRow.holds Tryd.pinned (OpenSpec.upto domFrontiersSpec)

/-- 'dataflowlaw06.DomLoops', WHERE WHAT IT READS IS OF BULK AT MOST 1048576: true; the input reads as it did. -/
def domLoopsUptoRow : OpenClaim := { program := "ytfgbkklhjocmjaadoor", sum := "2724a101ba8796256b5ad8e6132f83a801d2877f5af1f4f7ed15d83417d8a61f", func := "dataflow/dataflowlaw06.DomLoops", spec := "domLoops", unfollowed := true, recurses := true, named := ["math/bits.deBruijn64tab"], apart := false, laid := [("math/bits.deBruijn64tab", laid_math_bits_deBruijn64tab)], narrowed := true }
def DomLoopsUptoSaid : Prop := domLoopsUptoRow.holds Tryd.pinned (OpenSpec.upto domLoopsSpec)

/-- 'dataflowlaw04.GraphMakes', WHERE WHAT IT READS IS OF BULK AT MOST 1048576: true; the input reads as it did. -/
def graphMakesUptoRow : OpenClaim := { program := "ytfgbkklhjocmjaadoor", sum := "2724a101ba8796256b5ad8e6132f83a801d2877f5af1f4f7ed15d83417d8a61f", func := "dataflow/dataflowlaw04.GraphMakes", spec := "graphMakes", unfollowed := true, recurses := true, named := ["math/bits.deBruijn64tab"], apart := false, laid := [("math/bits.deBruijn64tab", laid_math_bits_deBruijn64tab)], narrowed := true }
def GraphMakesUptoSaid : Prop := graphMakesUptoRow.holds Tryd.pinned (OpenSpec.upto graphMakesSpec)

/-- 'dataflowlaw04.GraphReach', WHERE WHAT IT READS IS OF BULK AT MOST 1048576: true; the input reads as it did. -/
def graphReachUptoRow : OpenClaim := { program := "ytfgbkklhjocmjaadoor", sum := "2724a101ba8796256b5ad8e6132f83a801d2877f5af1f4f7ed15d83417d8a61f", func := "dataflow/dataflowlaw04.GraphReach", spec := "graphReach", unfollowed := true, recurses := true, named := ["math/bits.deBruijn64tab"], apart := false, laid := [("math/bits.deBruijn64tab", laid_math_bits_deBruijn64tab)], narrowed := true }
def GraphReachUptoSaid : Prop := graphReachUptoRow.holds Tryd.pinned (OpenSpec.upto graphReachSpec)

/-- 'dataflowlaw04.GraphShortest', WHERE WHAT IT READS IS OF BULK AT MOST 1048576: true; the input reads as it did. -/
def graphShortestUptoRow : OpenClaim := { program := "ytfgbkklhjocmjaadoor", sum := "2724a101ba8796256b5ad8e6132f83a801d2877f5af1f4f7ed15d83417d8a61f", func := "dataflow/dataflowlaw04.GraphShortest", spec := "graphShortest", unfollowed := true, recurses := true, named := ["math/bits.deBruijn64tab"], apart := false, laid := [("math/bits.deBruijn64tab", laid_math_bits_deBruijn64tab)], narrowed := true }
def GraphShortestUptoSaid : Prop := graphShortestUptoRow.holds Tryd.pinned (OpenSpec.upto graphShortestSpec)

/-- 'dataflowlaw04.GraphPostorder', WHERE WHAT IT READS IS OF BULK AT MOST 1048576: true; the input reads as it did. -/
def graphPostorderUptoRow : OpenClaim := { program := "ytfgbkklhjocmjaadoor", sum := "2724a101ba8796256b5ad8e6132f83a801d2877f5af1f4f7ed15d83417d8a61f", func := "dataflow/dataflowlaw04.GraphPostorder", spec := "graphPostorder", unfollowed := true, recurses := true, named := ["math/bits.deBruijn64tab"], apart := false, laid := [("math/bits.deBruijn64tab", laid_math_bits_deBruijn64tab)], narrowed := true }
def GraphPostorderUptoSaid : Prop := graphPostorderUptoRow.holds Tryd.pinned (OpenSpec.upto graphPostorderSpec)

/-- 'dataflowlaw04.GraphOrder', WHERE WHAT IT READS IS OF BULK AT MOST 1048576: true; the input reads as it did. -/
def graphOrderUptoRow : OpenClaim := { program := "ytfgbkklhjocmjaadoor", sum := "2724a101ba8796256b5ad8e6132f83a801d2877f5af1f4f7ed15d83417d8a61f", func := "dataflow/dataflowlaw04.GraphOrder", spec := "graphOrder", unfollowed := true, recurses := true, named := ["math/bits.deBruijn64tab"], apart := false, laid := [("math/bits.deBruijn64tab", laid_math_bits_deBruijn64tab)], narrowed := true }
def GraphOrderUptoSaid : Prop := graphOrderUptoRow.holds Tryd.pinned (OpenSpec.upto graphOrderSpec)

/-- 'dataflowlaw04.GraphTells', WHERE WHAT IT READS IS OF BULK AT MOST 1048576: true; the input reads as it did. -/
def graphTellsUptoRow : OpenClaim := { program := "ytfgbkklhjocmjaadoor", sum := "2724a101ba8796256b5ad8e6132f83a801d2877f5af1f4f7ed15d83417d8a61f", func := "dataflow/dataflowlaw04.GraphTells", spec := "graphTells", unfollowed := true, recurses := true, named := ["math/bits.deBruijn64tab"], apart := false, laid := [("math/bits.deBruijn64tab", laid_math_bits_deBruijn64tab)], narrowed := true }
def GraphTellsUptoSaid : Prop := graphTellsUptoRow.holds Tryd.pinned (OpenSpec.upto graphTellsSpec)

/-- 'dataflowlaw04.GraphReverses', WHERE WHAT IT READS IS OF BULK AT MOST 1048576: true; the input reads as it did. -/
def graphReversesUptoRow : OpenClaim := { program := "ytfgbkklhjocmjaadoor", sum := "2724a101ba8796256b5ad8e6132f83a801d2877f5af1f4f7ed15d83417d8a61f", func := "dataflow/dataflowlaw04.GraphReverses", spec := "graphReverses", unfollowed := true, recurses := true, named := ["math/bits.deBruijn64tab"], apart := false, laid := [("math/bits.deBruijn64tab", laid_math_bits_deBruijn64tab)], narrowed := true }
def GraphReversesUptoSaid : Prop := graphReversesUptoRow.holds Tryd.pinned (OpenSpec.upto graphReversesSpec)

/-- 'dataflowlaw06.DomTells', WHERE WHAT IT READS IS OF BULK AT MOST 1048576: true; the input reads as it did. -/
def domTellsUptoRow : OpenClaim := { program := "ytfgbkklhjocmjaadoor", sum := "2724a101ba8796256b5ad8e6132f83a801d2877f5af1f4f7ed15d83417d8a61f", func := "dataflow/dataflowlaw06.DomTells", spec := "domTells", unfollowed := true, recurses := true, named := ["math/bits.deBruijn64tab"], apart := false, laid := [("math/bits.deBruijn64tab", laid_math_bits_deBruijn64tab)], narrowed := true }
def DomTellsUptoSaid : Prop := domTellsUptoRow.holds Tryd.pinned (OpenSpec.upto domTellsSpec)

/-- 'dataflowlaw06.DomTree', WHERE WHAT IT READS IS OF BULK AT MOST 1048576: true; the input reads as it did. -/
def domTreeUptoRow : OpenClaim := { program := "ytfgbkklhjocmjaadoor", sum := "2724a101ba8796256b5ad8e6132f83a801d2877f5af1f4f7ed15d83417d8a61f", func := "dataflow/dataflowlaw06.DomTree", spec := "domTree", unfollowed := true, recurses := true, named := ["math/bits.deBruijn64tab"], apart := false, laid := [("math/bits.deBruijn64tab", laid_math_bits_deBruijn64tab)], narrowed := true }
def DomTreeUptoSaid : Prop := domTreeUptoRow.holds Tryd.pinned (OpenSpec.upto domTreeSpec)

/-- 'dataflowlaw06.DomRemoves', WHERE WHAT IT READS IS OF BULK AT MOST 1048576: true; the input reads as it did. -/
def domRemovesUptoRow : OpenClaim := { program := "ytfgbkklhjocmjaadoor", sum := "2724a101ba8796256b5ad8e6132f83a801d2877f5af1f4f7ed15d83417d8a61f", func := "dataflow/dataflowlaw06.DomRemoves", spec := "domRemoves", unfollowed := true, recurses := true, named := ["math/bits.deBruijn64tab"], apart := false, laid := [("math/bits.deBruijn64tab", laid_math_bits_deBruijn64tab)], narrowed := true }
def DomRemovesUptoSaid : Prop := domRemovesUptoRow.holds Tryd.pinned (OpenSpec.upto domRemovesSpec)

end Rows
end Go.Proofs.YtfgbkklhjocmjaaDoor
