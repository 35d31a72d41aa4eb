/-
  DERIVED. GIVEN WITH THE SEED: THE CARDS: each row of YtemhlafdlflilaaGreatDoorRows.lean that lists a variable, with what it lists TIED to the program's text (the seventh form; the later family's looks); each row that meets fmt, with fmt's text TOLD by the authors' own Lean function (tested against real Go, not proved from fmt's source: count such statements apart). THE CARD IS WHAT COUNTS. Prove the row's statement (the work); the ties are given (YtemhlafdlflilaaGreatDoorTie.lean); close each card by the builder's one call (the guide's Derived/Test/ToyasCard.lean, 'card_holds'). Laid BY PROGRAM, IN A SANDBOX (cutbox-door.mjs). By AI agents, Wed Nov 11 2026. No macro, syntax, notation, axiom, sorry.
-/
import Derived.Test.YtemhlafdlflilaaGreatDoorRows
import GoSem.ClaimSeven
namespace Go.Proofs.YtemhlafdlflilaaGreatDoor
namespace Rows

/-- THE TIED CARD OF 'hedgerowlaw23.BuildEnds'. -/
def buildEndsCard : Claim7 := { stood := { row := buildEndsRow, standIns := [], harness := (true, "ba5ed3eae29820b22506c80e18b37703eca98633784239bc18131f3bcec62a03"), looks := false }, kinds := [], alts := [], laidByText := true, laidKinds := [.data], laidTests := true, laidLooks := .later }
def BuildEndsCardSaid : Prop := Claim7.holds Tryz.pinned (.plain (OpenSpec.ofChange buildEndsSpec)) buildEndsCard

/-- THE TIED CARD OF 'hedgerowlaw23.BuildTells'. -/
def buildTellsCard : Claim7 := { stood := { row := buildTellsRow, standIns := [], harness := (true, "ba5ed3eae29820b22506c80e18b37703eca98633784239bc18131f3bcec62a03"), looks := false }, kinds := [], alts := [], laidByText := true, laidKinds := [.data], laidTests := true, laidLooks := .later }
def BuildTellsCardSaid : Prop := Claim7.holds Tryz.pinned (.plain (OpenSpec.ofChange buildTellsSpec)) buildTellsCard

/-- THE TIED CARD OF 'hedgerowlaw23.BuildChunks'. -/
def buildChunksCard : Claim7 := { stood := { row := buildChunksRow, standIns := [], harness := (true, "ba5ed3eae29820b22506c80e18b37703eca98633784239bc18131f3bcec62a03"), looks := false }, kinds := [], alts := [], laidByText := true, laidKinds := [.data], laidTests := true, laidLooks := .later }
def BuildChunksCardSaid : Prop := Claim7.holds Tryz.pinned (.plain (OpenSpec.ofChange buildChunksSpec)) buildChunksCard

/-- THE TIED CARD OF 'hedgerowlaw23.BuildPlays'. -/
def buildPlaysCard : Claim7 := { stood := { row := buildPlaysRow, standIns := [], harness := (true, "ba5ed3eae29820b22506c80e18b37703eca98633784239bc18131f3bcec62a03"), looks := false }, kinds := [], alts := [], laidByText := true, laidKinds := [.data], laidTests := true, laidLooks := .later }
def BuildPlaysCardSaid : Prop := Claim7.holds Tryz.pinned (.plain (OpenSpec.ofChange buildPlaysSpec)) buildPlaysCard

/-- THE TIED CARD OF 'hedgerowlaw23.BuildNone'. -/
def buildNoneCard : Claim7 := { stood := { row := buildNoneRow, standIns := [], harness := (true, "ba5ed3eae29820b22506c80e18b37703eca98633784239bc18131f3bcec62a03"), looks := false }, kinds := [], alts := [], laidByText := true, laidKinds := [.data], laidTests := true, laidLooks := .later }
def BuildNoneCardSaid : Prop := Claim7.holds Tryz.pinned (.plain (OpenSpec.ofChange buildNoneSpec)) buildNoneCard

/-- THE SECOND FORM's CARD OF 'hedgerowlaw23.BuildEnds'. -/
def buildEndsUptoCard : Claim7 := { stood := { row := buildEndsUptoRow, standIns := [], harness := (true, "ba5ed3eae29820b22506c80e18b37703eca98633784239bc18131f3bcec62a03"), looks := false }, kinds := [], alts := [], laidByText := true, laidKinds := [.data], laidTests := true, laidLooks := .later }
def BuildEndsUptoCardSaid : Prop := Claim7.holds Tryz.pinned (.plain (OpenSpec.upto buildEndsSpec)) buildEndsUptoCard

/-- THE SECOND FORM's CARD OF 'hedgerowlaw23.BuildTells'. -/
def buildTellsUptoCard : Claim7 := { stood := { row := buildTellsUptoRow, standIns := [], harness := (true, "ba5ed3eae29820b22506c80e18b37703eca98633784239bc18131f3bcec62a03"), looks := false }, kinds := [], alts := [], laidByText := true, laidKinds := [.data], laidTests := true, laidLooks := .later }
def BuildTellsUptoCardSaid : Prop := Claim7.holds Tryz.pinned (.plain (OpenSpec.upto buildTellsSpec)) buildTellsUptoCard

/-- THE SECOND FORM's CARD OF 'hedgerowlaw23.BuildChunks'. -/
def buildChunksUptoCard : Claim7 := { stood := { row := buildChunksUptoRow, standIns := [], harness := (true, "ba5ed3eae29820b22506c80e18b37703eca98633784239bc18131f3bcec62a03"), looks := false }, kinds := [], alts := [], laidByText := true, laidKinds := [.data], laidTests := true, laidLooks := .later }
def BuildChunksUptoCardSaid : Prop := Claim7.holds Tryz.pinned (.plain (OpenSpec.upto buildChunksSpec)) buildChunksUptoCard

/-- THE SECOND FORM's CARD OF 'hedgerowlaw23.BuildPlays'. -/
def buildPlaysUptoCard : Claim7 := { stood := { row := buildPlaysUptoRow, standIns := [], harness := (true, "ba5ed3eae29820b22506c80e18b37703eca98633784239bc18131f3bcec62a03"), looks := false }, kinds := [], alts := [], laidByText := true, laidKinds := [.data], laidTests := true, laidLooks := .later }
def BuildPlaysUptoCardSaid : Prop := Claim7.holds Tryz.pinned (.plain (OpenSpec.upto buildPlaysSpec)) buildPlaysUptoCard

/-- THE SECOND FORM's CARD OF 'hedgerowlaw23.BuildNone'. -/
def buildNoneUptoCard : Claim7 := { stood := { row := buildNoneUptoRow, standIns := [], harness := (true, "ba5ed3eae29820b22506c80e18b37703eca98633784239bc18131f3bcec62a03"), looks := false }, kinds := [], alts := [], laidByText := true, laidKinds := [.data], laidTests := true, laidLooks := .later }
def BuildNoneUptoCardSaid : Prop := Claim7.holds Tryz.pinned (.plain (OpenSpec.upto buildNoneSpec)) buildNoneUptoCard
end Rows
end Go.Proofs.YtemhlafdlflilaaGreatDoor
