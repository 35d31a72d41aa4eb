/-
  NARROWER THAN 'FOR EVERY INPUT', by the rows' own cells (each row's printed sentence says how): BuildEnds: laid · BuildTells: laid · BuildChunks: laid · BuildPlays: laid · BuildNone: laid.
  DERIVED. THE GIVEN ROWS OF THIS SEAT. 5 by the template 'for every input the law returns true; each argument reads behind the call as it read before'; 0 by the template 'total and deterministic' (their statements: YtemhlafdlflilaaGreatDoorTotals.lean).
  GIVEN WITH THE SEED: the statements are not yours to turn. If you find one false, say at which input.
  Laid BY PROGRAM, IN A SANDBOX (cutbox-rows.mjs): the forced cells as the released guide's own fill.sh prints them over the translation 0340ab6af5a077e9… (all of the seat's roots in one cut). By AI agents, Wed Nov 11 2026. No macro, syntax, notation, axiom, sorry.
-/
import Derived.Test.YtemhlafdlflilaaGreatDoorChecked
import GoSem.Claim
import GoSem.ClaimJoined
import GoSem.ClaimMapViews
import Derived.JoinedTies
import Derived.KernelRfl
namespace Go.Proofs.YtemhlafdlflilaaGreatDoor
/- THE CELL 'sum', in the pinned program and in every row, IS THE sha256 OF THE DUMP (.gsa) THAT YtemhlafdlflilaaGreatDoorProg.lean LOADS. Nothing in Lean hashes anything: it is a label: what it is worth is what the hold of that sum in a sandbox is worth. -/
noncomputable def Tryz.pinned : Pinned := { name := "ytemhlafdlflilaagreatdoor", sum := "0340ab6af5a077e9b1536eccb1d865c6794cf6aa28e2912ba34e14e82319496a", checked := Tryz.checked }
namespace Rows
def none {H : Type} : Left H := { results := [], args := [] }

/- WHAT THE LISTED PACKAGE-LEVEL VARIABLES READ AS WHEN THE CALL BEGINS. Each datum BY PROGRAM (the guide's laid-datum.mjs) off the statement by which the dump's own 'gosem.cut.vars' lays the variable. In a bare row this is a premise. The card (YtemhlafdlflilaaGreatDoorCards.lean) ties it to the program's text. -/
def laid_hedgerow_hedgerowlaw23_exists {H : Type} : DataW H := .agg [.lit (.int .i64 0), .lit (.int .i64 2), .lit (.string [109, 97, 110]), .lit (.string [110, 97, 109, 101]), .lit (.string []), .lit (.string []), .lit (.int .i64 0), .lit (.int .i64 0)]

/-- 'hedgerowlaw23.BuildEnds': WHATEVER THE INPUT: true; the input reads as it did. -/
def buildEndsSpec : ChangeSpec := { name := "buildEnds", fn := fun _ => fun
  | [d1, d2, d3] => { results := [.lit (.bool true)], args := [d1, d2, d3] }
  | _ => none }
def buildEndsRow : OpenClaim := { program := "ytemhlafdlflilaagreatdoor", sum := "0340ab6af5a077e9b1536eccb1d865c6794cf6aa28e2912ba34e14e82319496a", func := "hedgerow/hedgerowlaw23.BuildEnds", spec := "buildEnds", inPlace := ["slices.overlaps[hedgerow/api.Prop]"], unfollowed := true, recurses := true, named := ["hedgerow/hedgerowlaw23.exists"], plainKeys := false, apart := false, laid := [("hedgerow/hedgerowlaw23.exists", laid_hedgerow_hedgerowlaw23_exists)] }
def BuildEndsSaid : Prop := buildEndsRow.holds Tryz.pinned (OpenSpec.ofChange buildEndsSpec)

/-- ITS FALSE NEIGHBOUR: 'it returns false'. Refute it at one input. -/
def buildEndsWrong : ChangeSpec := { name := "buildEnds", fn := fun _ => fun
  | [d1, d2, d3] => { results := [.lit (.bool false)], args := [d1, d2, d3] }
  | _ => none }
def BuildEndsWrongFalsely : Prop := buildEndsRow.holds Tryz.pinned (OpenSpec.ofChange buildEndsWrong)

/-- 'hedgerowlaw23.BuildTells': WHATEVER THE INPUT: true; the input reads as it did. -/
def buildTellsSpec : ChangeSpec := { name := "buildTells", fn := fun _ => fun
  | [d1, d2] => { results := [.lit (.bool true)], args := [d1, d2] }
  | _ => none }
def buildTellsRow : OpenClaim := { program := "ytemhlafdlflilaagreatdoor", sum := "0340ab6af5a077e9b1536eccb1d865c6794cf6aa28e2912ba34e14e82319496a", func := "hedgerow/hedgerowlaw23.BuildTells", spec := "buildTells", inPlace := ["slices.overlaps[hedgerow/api.Prop]"], unfollowed := true, recurses := true, named := ["hedgerow/hedgerowlaw23.exists"], plainKeys := false, apart := false, laid := [("hedgerow/hedgerowlaw23.exists", laid_hedgerow_hedgerowlaw23_exists)] }
def BuildTellsSaid : Prop := buildTellsRow.holds Tryz.pinned (OpenSpec.ofChange buildTellsSpec)

/-- ITS FALSE NEIGHBOUR: 'it returns false'. Refute it at one input. -/
def buildTellsWrong : ChangeSpec := { name := "buildTells", fn := fun _ => fun
  | [d1, d2] => { results := [.lit (.bool false)], args := [d1, d2] }
  | _ => none }
def BuildTellsWrongFalsely : Prop := buildTellsRow.holds Tryz.pinned (OpenSpec.ofChange buildTellsWrong)

/-- 'hedgerowlaw23.BuildChunks': WHATEVER THE INPUT: true; the input reads as it did. -/
def buildChunksSpec : ChangeSpec := { name := "buildChunks", fn := fun _ => fun
  | [d1, d2] => { results := [.lit (.bool true)], args := [d1, d2] }
  | _ => none }
def buildChunksRow : OpenClaim := { program := "ytemhlafdlflilaagreatdoor", sum := "0340ab6af5a077e9b1536eccb1d865c6794cf6aa28e2912ba34e14e82319496a", func := "hedgerow/hedgerowlaw23.BuildChunks", spec := "buildChunks", inPlace := ["slices.overlaps[hedgerow/api.Prop]"], unfollowed := true, recurses := true, named := ["hedgerow/hedgerowlaw23.exists"], plainKeys := false, apart := false, laid := [("hedgerow/hedgerowlaw23.exists", laid_hedgerow_hedgerowlaw23_exists)] }
def BuildChunksSaid : Prop := buildChunksRow.holds Tryz.pinned (OpenSpec.ofChange buildChunksSpec)

/-- ITS FALSE NEIGHBOUR: 'it returns false'. Refute it at one input. -/
def buildChunksWrong : ChangeSpec := { name := "buildChunks", fn := fun _ => fun
  | [d1, d2] => { results := [.lit (.bool false)], args := [d1, d2] }
  | _ => none }
def BuildChunksWrongFalsely : Prop := buildChunksRow.holds Tryz.pinned (OpenSpec.ofChange buildChunksWrong)

/-- 'hedgerowlaw23.BuildPlays': WHATEVER THE INPUT: true; the input reads as it did. -/
def buildPlaysSpec : ChangeSpec := { name := "buildPlays", fn := fun _ => fun
  | [d1, d2, d3] => { results := [.lit (.bool true)], args := [d1, d2, d3] }
  | _ => none }
def buildPlaysRow : OpenClaim := { program := "ytemhlafdlflilaagreatdoor", sum := "0340ab6af5a077e9b1536eccb1d865c6794cf6aa28e2912ba34e14e82319496a", func := "hedgerow/hedgerowlaw23.BuildPlays", spec := "buildPlays", inPlace := ["slices.overlaps[hedgerow/api.Prop]"], unfollowed := true, recurses := true, named := ["hedgerow/hedgerowlaw23.exists"], plainKeys := false, apart := false, laid := [("hedgerow/hedgerowlaw23.exists", laid_hedgerow_hedgerowlaw23_exists)] }
def BuildPlaysSaid : Prop := buildPlaysRow.holds Tryz.pinned (OpenSpec.ofChange buildPlaysSpec)

/-- ITS FALSE NEIGHBOUR: 'it returns false'. Refute it at one input. -/
def buildPlaysWrong : ChangeSpec := { name := "buildPlays", fn := fun _ => fun
  | [d1, d2, d3] => { results := [.lit (.bool false)], args := [d1, d2, d3] }
  | _ => none }
def BuildPlaysWrongFalsely : Prop := buildPlaysRow.holds Tryz.pinned (OpenSpec.ofChange buildPlaysWrong)

/-- 'hedgerowlaw23.BuildNone': WHATEVER THE INPUT: true; the input reads as it did. -/
def buildNoneSpec : ChangeSpec := { name := "buildNone", fn := fun _ => fun
  | [d] => { results := [.lit (.bool true)], args := [d] }
  | _ => none }
def buildNoneRow : OpenClaim := { program := "ytemhlafdlflilaagreatdoor", sum := "0340ab6af5a077e9b1536eccb1d865c6794cf6aa28e2912ba34e14e82319496a", func := "hedgerow/hedgerowlaw23.BuildNone", spec := "buildNone", inPlace := ["slices.overlaps[hedgerow/api.Prop]"], unfollowed := true, recurses := true, named := ["hedgerow/hedgerowlaw23.exists"], plainKeys := false, apart := false, laid := [("hedgerow/hedgerowlaw23.exists", laid_hedgerow_hedgerowlaw23_exists)] }
def BuildNoneSaid : Prop := buildNoneRow.holds Tryz.pinned (OpenSpec.ofChange buildNoneSpec)

/-- ITS FALSE NEIGHBOUR: 'it returns false'. Refute it at one input. -/
def buildNoneWrong : ChangeSpec := { name := "buildNone", fn := fun _ => fun
  | [d] => { results := [.lit (.bool false)], args := [d] }
  | _ => none }
def BuildNoneWrongFalsely : Prop := buildNoneRow.holds Tryz.pinned (OpenSpec.ofChange buildNoneWrong)

/- THE SECOND FORM. 'bulk': how many values and letters a reading holds, each counted each time it is reached (what is shared counts as often as it is met; a slice's spare places count too). A statement '..UptoSaid' is the law's where the arguments, and the package variables that the reading takes, are together of bulk at most 1048576: NARROWER than '..Said'. Prove '..Said' where nothing that the law and all that it calls make is longer than what came in: it says more and counts as full. Else prove '..UptoSaid'. A law counts once. -/
mutual
def uptoBulk {H : Type} : DataW H → Nat
  | .lit (.string bytes) => bytes.length + 1
  | .lit _ => 1
  | .nil => 1
  | .ptr d => uptoBulk d + 1
  | .slice elems spare => uptoBulkAll elems + uptoBulkAll spare + 1
  | .agg parts => uptoBulkAll parts + 1
  | .iface _ d => uptoBulk d + 1
  | .map entries => uptoBulkEntries entries + 1
  | .held _ => 1
def uptoBulkAll {H : Type} : List (DataW H) → Nat
  | [] => 0
  | d :: r => uptoBulk d + uptoBulkAll r
def uptoBulkEntries {H : Type} : List (Lit × DataW H) → Nat
  | [] => 0
  | x :: r => uptoBulkEntry x + uptoBulkEntries r
def uptoBulkEntry {H : Type} : Lit × DataW H → Nat
  | (.string bytes, d) => bytes.length + uptoBulk d + 1
  | (_, d) => uptoBulk d + 1
 end
def uptoSmall : (H : Type) → List (DataW H) → Bool := fun _ ds => decide (uptoBulkAll ds ≤ 1048576)
def OpenSpec.upto (s : _root_.Go.ChangeSpec) : _root_.Go.OpenSpec := { _root_.Go.OpenSpec.ofChange s with cond := some uptoSmall }

/-- 'hedgerowlaw23.BuildEnds', WHERE WHAT IT READS IS OF BULK AT MOST 1048576: true; the input reads as it did. -/
def buildEndsUptoRow : OpenClaim := { program := "ytemhlafdlflilaagreatdoor", sum := "0340ab6af5a077e9b1536eccb1d865c6794cf6aa28e2912ba34e14e82319496a", func := "hedgerow/hedgerowlaw23.BuildEnds", spec := "buildEnds", inPlace := ["slices.overlaps[hedgerow/api.Prop]"], unfollowed := true, recurses := true, named := ["hedgerow/hedgerowlaw23.exists"], plainKeys := false, apart := false, laid := [("hedgerow/hedgerowlaw23.exists", laid_hedgerow_hedgerowlaw23_exists)], narrowed := true }
def BuildEndsUptoSaid : Prop := buildEndsUptoRow.holds Tryz.pinned (OpenSpec.upto buildEndsSpec)

/-- 'hedgerowlaw23.BuildTells', WHERE WHAT IT READS IS OF BULK AT MOST 1048576: true; the input reads as it did. -/
def buildTellsUptoRow : OpenClaim := { program := "ytemhlafdlflilaagreatdoor", sum := "0340ab6af5a077e9b1536eccb1d865c6794cf6aa28e2912ba34e14e82319496a", func := "hedgerow/hedgerowlaw23.BuildTells", spec := "buildTells", inPlace := ["slices.overlaps[hedgerow/api.Prop]"], unfollowed := true, recurses := true, named := ["hedgerow/hedgerowlaw23.exists"], plainKeys := false, apart := false, laid := [("hedgerow/hedgerowlaw23.exists", laid_hedgerow_hedgerowlaw23_exists)], narrowed := true }
def BuildTellsUptoSaid : Prop := buildTellsUptoRow.holds Tryz.pinned (OpenSpec.upto buildTellsSpec)

/-- 'hedgerowlaw23.BuildChunks', WHERE WHAT IT READS IS OF BULK AT MOST 1048576: true; the input reads as it did. -/
def buildChunksUptoRow : OpenClaim := { program := "ytemhlafdlflilaagreatdoor", sum := "0340ab6af5a077e9b1536eccb1d865c6794cf6aa28e2912ba34e14e82319496a", func := "hedgerow/hedgerowlaw23.BuildChunks", spec := "buildChunks", inPlace := ["slices.overlaps[hedgerow/api.Prop]"], unfollowed := true, recurses := true, named := ["hedgerow/hedgerowlaw23.exists"], plainKeys := false, apart := false, laid := [("hedgerow/hedgerowlaw23.exists", laid_hedgerow_hedgerowlaw23_exists)], narrowed := true }
def BuildChunksUptoSaid : Prop := buildChunksUptoRow.holds Tryz.pinned (OpenSpec.upto buildChunksSpec)

/-- 'hedgerowlaw23.BuildPlays', WHERE WHAT IT READS IS OF BULK AT MOST 1048576: true; the input reads as it did. -/
def buildPlaysUptoRow : OpenClaim := { program := "ytemhlafdlflilaagreatdoor", sum := "0340ab6af5a077e9b1536eccb1d865c6794cf6aa28e2912ba34e14e82319496a", func := "hedgerow/hedgerowlaw23.BuildPlays", spec := "buildPlays", inPlace := ["slices.overlaps[hedgerow/api.Prop]"], unfollowed := true, recurses := true, named := ["hedgerow/hedgerowlaw23.exists"], plainKeys := false, apart := false, laid := [("hedgerow/hedgerowlaw23.exists", laid_hedgerow_hedgerowlaw23_exists)], narrowed := true }
def BuildPlaysUptoSaid : Prop := buildPlaysUptoRow.holds Tryz.pinned (OpenSpec.upto buildPlaysSpec)

/-- 'hedgerowlaw23.BuildNone', WHERE WHAT IT READS IS OF BULK AT MOST 1048576: true; the input reads as it did. -/
def buildNoneUptoRow : OpenClaim := { program := "ytemhlafdlflilaagreatdoor", sum := "0340ab6af5a077e9b1536eccb1d865c6794cf6aa28e2912ba34e14e82319496a", func := "hedgerow/hedgerowlaw23.BuildNone", spec := "buildNone", inPlace := ["slices.overlaps[hedgerow/api.Prop]"], unfollowed := true, recurses := true, named := ["hedgerow/hedgerowlaw23.exists"], plainKeys := false, apart := false, laid := [("hedgerow/hedgerowlaw23.exists", laid_hedgerow_hedgerowlaw23_exists)], narrowed := true }
def BuildNoneUptoSaid : Prop := buildNoneUptoRow.holds Tryz.pinned (OpenSpec.upto buildNoneSpec)

end Rows
end Go.Proofs.YtemhlafdlflilaaGreatDoor
