/-
  No cell of these rows narrows 'for every input' (looked for: loops, veiled, ifaces, maps, wideKeys, modest, calm, conditions, laid).
  DERIVED. THE GIVEN ROWS OF THIS SEAT. 9 by the template 'for every input the law returns true; each argument reads behind the call as it read before'; 0 by the template 'total and deterministic' (their statements: YtohhobcipfmkbaaTotals.lean).
  GIVEN WITH THE SEED: the statements are not yours to turn. If you find one false, say at which input.
  Laid BY PROGRAM, IN A SANDBOX (cutbox-rows.mjs): the forced cells as the released guide's own fill.sh prints them over the translation 6ac166a113fd82d9… (all of the seat's roots in one cut). By AI agents, Wed Nov 11 2026. No macro, syntax, notation, axiom, sorry.
-/
import Derived.Test.YtohhobcipfmkbaaChecked
import GoSem.Claim
import GoSem.ClaimJoined
import GoSem.ClaimMapViews
import Derived.JoinedTies
import Derived.KernelRfl
namespace Go.Proofs.Ytohhobcipfmkbaa
/- THE CELL 'sum', in the pinned program and in every row, IS THE sha256 OF THE DUMP (.gsa) THAT YtohhobcipfmkbaaProg.lean LOADS. Nothing in Lean hashes anything: it is a label: what it is worth is what the hold of that sum in a sandbox is worth. -/
noncomputable def Try.pinned : Pinned := { name := "ytohhobcipfmkbaa", sum := "6ac166a113fd82d9fab2cf0aa4f37dba37b21d2642b2f5bee619ba1c8bbebc06", checked := Try.checked }
namespace Rows
def none {H : Type} : Left H := { results := [], args := [] }

/-- 'naskhlaw12.CellsLive': WHATEVER THE INPUT: true; the input reads as it did. -/
def cellsLiveSpec : ChangeSpec := { name := "cellsLive", fn := fun _ => fun
  | [d1, d2] => { results := [.lit (.bool true)], args := [d1, d2] }
  | _ => none }
def cellsLiveRow : OpenClaim := { program := "ytohhobcipfmkbaa", sum := "6ac166a113fd82d9fab2cf0aa4f37dba37b21d2642b2f5bee619ba1c8bbebc06", func := "naskh/naskhlaw12.CellsLive", spec := "cellsLive", unfollowed := true, recurses := true, apart := false }
def CellsLiveSaid : Prop := cellsLiveRow.holds Try.pinned (OpenSpec.ofChange cellsLiveSpec)

/-- ITS FALSE NEIGHBOUR: 'it returns false'. Refute it at one input. -/
def cellsLiveWrong : ChangeSpec := { name := "cellsLive", fn := fun _ => fun
  | [d1, d2] => { results := [.lit (.bool false)], args := [d1, d2] }
  | _ => none }
def CellsLiveWrongFalsely : Prop := cellsLiveRow.holds Try.pinned (OpenSpec.ofChange cellsLiveWrong)

/-- 'naskhlaw12.CellsNobody': WHATEVER THE INPUT: true; the input reads as it did. -/
def cellsNobodySpec : ChangeSpec := { name := "cellsNobody", fn := fun _ => fun
  | [d1, d2, d3] => { results := [.lit (.bool true)], args := [d1, d2, d3] }
  | _ => none }
def cellsNobodyRow : OpenClaim := { program := "ytohhobcipfmkbaa", sum := "6ac166a113fd82d9fab2cf0aa4f37dba37b21d2642b2f5bee619ba1c8bbebc06", func := "naskh/naskhlaw12.CellsNobody", spec := "cellsNobody", unfollowed := true, recurses := true, apart := false }
def CellsNobodySaid : Prop := cellsNobodyRow.holds Try.pinned (OpenSpec.ofChange cellsNobodySpec)

/-- ITS FALSE NEIGHBOUR: 'it returns false'. Refute it at one input. -/
def cellsNobodyWrong : ChangeSpec := { name := "cellsNobody", fn := fun _ => fun
  | [d1, d2, d3] => { results := [.lit (.bool false)], args := [d1, d2, d3] }
  | _ => none }
def CellsNobodyWrongFalsely : Prop := cellsNobodyRow.holds Try.pinned (OpenSpec.ofChange cellsNobodyWrong)

/-- 'naskhlaw04.ClusterChecks': WHATEVER THE INPUT: true; the input reads as it did. -/
def clusterChecksSpec : ChangeSpec := { name := "clusterChecks", fn := fun _ => fun
  | [d1, d2, d3] => { results := [.lit (.bool true)], args := [d1, d2, d3] }
  | _ => none }
def clusterChecksRow : OpenClaim := { program := "ytohhobcipfmkbaa", sum := "6ac166a113fd82d9fab2cf0aa4f37dba37b21d2642b2f5bee619ba1c8bbebc06", func := "naskh/naskhlaw04.ClusterChecks", spec := "clusterChecks", unfollowed := true, recurses := true, apart := false }
def ClusterChecksSaid : Prop := clusterChecksRow.holds Try.pinned (OpenSpec.ofChange clusterChecksSpec)

/-- ITS FALSE NEIGHBOUR: 'it returns false'. Refute it at one input. -/
def clusterChecksWrong : ChangeSpec := { name := "clusterChecks", fn := fun _ => fun
  | [d1, d2, d3] => { results := [.lit (.bool false)], args := [d1, d2, d3] }
  | _ => none }
def ClusterChecksWrongFalsely : Prop := clusterChecksRow.holds Try.pinned (OpenSpec.ofChange clusterChecksWrong)

/-- 'naskhlaw04.ClusterFinest': WHATEVER THE INPUT: true; the input reads as it did. -/
def clusterFinestSpec : ChangeSpec := { name := "clusterFinest", fn := fun _ => fun
  | [d1, d2, d3] => { results := [.lit (.bool true)], args := [d1, d2, d3] }
  | _ => none }
def clusterFinestRow : OpenClaim := { program := "ytohhobcipfmkbaa", sum := "6ac166a113fd82d9fab2cf0aa4f37dba37b21d2642b2f5bee619ba1c8bbebc06", func := "naskh/naskhlaw04.ClusterFinest", spec := "clusterFinest", unfollowed := true, recurses := true, apart := false }
def ClusterFinestSaid : Prop := clusterFinestRow.holds Try.pinned (OpenSpec.ofChange clusterFinestSpec)

/-- ITS FALSE NEIGHBOUR: 'it returns false'. Refute it at one input. -/
def clusterFinestWrong : ChangeSpec := { name := "clusterFinest", fn := fun _ => fun
  | [d1, d2, d3] => { results := [.lit (.bool false)], args := [d1, d2, d3] }
  | _ => none }
def ClusterFinestWrongFalsely : Prop := clusterFinestRow.holds Try.pinned (OpenSpec.ofChange clusterFinestWrong)

/-- 'naskhlaw04.ClusterWhole': WHATEVER THE INPUT: true; the input reads as it did. -/
def clusterWholeSpec : ChangeSpec := { name := "clusterWhole", fn := fun _ => fun
  | [d1, d2, d3] => { results := [.lit (.bool true)], args := [d1, d2, d3] }
  | _ => none }
def clusterWholeRow : OpenClaim := { program := "ytohhobcipfmkbaa", sum := "6ac166a113fd82d9fab2cf0aa4f37dba37b21d2642b2f5bee619ba1c8bbebc06", func := "naskh/naskhlaw04.ClusterWhole", spec := "clusterWhole", unfollowed := true, recurses := true, apart := false }
def ClusterWholeSaid : Prop := clusterWholeRow.holds Try.pinned (OpenSpec.ofChange clusterWholeSpec)

/-- ITS FALSE NEIGHBOUR: 'it returns false'. Refute it at one input. -/
def clusterWholeWrong : ChangeSpec := { name := "clusterWhole", fn := fun _ => fun
  | [d1, d2, d3] => { results := [.lit (.bool false)], args := [d1, d2, d3] }
  | _ => none }
def ClusterWholeWrongFalsely : Prop := clusterWholeRow.holds Try.pinned (OpenSpec.ofChange clusterWholeWrong)

/-- 'naskhlaw04.ClusterTurns': WHATEVER THE INPUT: true; the input reads as it did. -/
def clusterTurnsSpec : ChangeSpec := { name := "clusterTurns", fn := fun _ => fun
  | [d1, d2] => { results := [.lit (.bool true)], args := [d1, d2] }
  | _ => none }
def clusterTurnsRow : OpenClaim := { program := "ytohhobcipfmkbaa", sum := "6ac166a113fd82d9fab2cf0aa4f37dba37b21d2642b2f5bee619ba1c8bbebc06", func := "naskh/naskhlaw04.ClusterTurns", spec := "clusterTurns", unfollowed := true, recurses := true, apart := false }
def ClusterTurnsSaid : Prop := clusterTurnsRow.holds Try.pinned (OpenSpec.ofChange clusterTurnsSpec)

/-- ITS FALSE NEIGHBOUR: 'it returns false'. Refute it at one input. -/
def clusterTurnsWrong : ChangeSpec := { name := "clusterTurns", fn := fun _ => fun
  | [d1, d2] => { results := [.lit (.bool false)], args := [d1, d2] }
  | _ => none }
def ClusterTurnsWrongFalsely : Prop := clusterTurnsRow.holds Try.pinned (OpenSpec.ofChange clusterTurnsWrong)

/-- 'naskhlaw04.ClusterComposes': WHATEVER THE INPUT: true; the input reads as it did. -/
def clusterComposesSpec : ChangeSpec := { name := "clusterComposes", fn := fun _ => fun
  | [d1, d2] => { results := [.lit (.bool true)], args := [d1, d2] }
  | _ => none }
def clusterComposesRow : OpenClaim := { program := "ytohhobcipfmkbaa", sum := "6ac166a113fd82d9fab2cf0aa4f37dba37b21d2642b2f5bee619ba1c8bbebc06", func := "naskh/naskhlaw04.ClusterComposes", spec := "clusterComposes", unfollowed := true, recurses := true, apart := false }
def ClusterComposesSaid : Prop := clusterComposesRow.holds Try.pinned (OpenSpec.ofChange clusterComposesSpec)

/-- ITS FALSE NEIGHBOUR: 'it returns false'. Refute it at one input. -/
def clusterComposesWrong : ChangeSpec := { name := "clusterComposes", fn := fun _ => fun
  | [d1, d2] => { results := [.lit (.bool false)], args := [d1, d2] }
  | _ => none }
def ClusterComposesWrongFalsely : Prop := clusterComposesRow.holds Try.pinned (OpenSpec.ofChange clusterComposesWrong)

/-- 'naskhlaw04.ClusterSame': WHATEVER THE INPUT: true; the input reads as it did. -/
def clusterSameSpec : ChangeSpec := { name := "clusterSame", fn := fun _ => fun
  | [d1, d2, d3] => { results := [.lit (.bool true)], args := [d1, d2, d3] }
  | _ => none }
def clusterSameRow : OpenClaim := { program := "ytohhobcipfmkbaa", sum := "6ac166a113fd82d9fab2cf0aa4f37dba37b21d2642b2f5bee619ba1c8bbebc06", func := "naskh/naskhlaw04.ClusterSame", spec := "clusterSame", unfollowed := true, recurses := true, apart := false }
def ClusterSameSaid : Prop := clusterSameRow.holds Try.pinned (OpenSpec.ofChange clusterSameSpec)

/-- ITS FALSE NEIGHBOUR: 'it returns false'. Refute it at one input. -/
def clusterSameWrong : ChangeSpec := { name := "clusterSame", fn := fun _ => fun
  | [d1, d2, d3] => { results := [.lit (.bool false)], args := [d1, d2, d3] }
  | _ => none }
def ClusterSameWrongFalsely : Prop := clusterSameRow.holds Try.pinned (OpenSpec.ofChange clusterSameWrong)

/-- 'naskhlaw12.CellsMap': WHATEVER THE INPUT: true; the input reads as it did. -/
def cellsMapSpec : ChangeSpec := { name := "cellsMap", fn := fun _ => fun
  | [d1, d2] => { results := [.lit (.bool true)], args := [d1, d2] }
  | _ => none }
def cellsMapRow : OpenClaim := { program := "ytohhobcipfmkbaa", sum := "6ac166a113fd82d9fab2cf0aa4f37dba37b21d2642b2f5bee619ba1c8bbebc06", func := "naskh/naskhlaw12.CellsMap", spec := "cellsMap", unfollowed := true, recurses := true, apart := false }
def CellsMapSaid : Prop := cellsMapRow.holds Try.pinned (OpenSpec.ofChange cellsMapSpec)

/-- ITS FALSE NEIGHBOUR: 'it returns false'. Refute it at one input. -/
def cellsMapWrong : ChangeSpec := { name := "cellsMap", fn := fun _ => fun
  | [d1, d2] => { results := [.lit (.bool false)], args := [d1, d2] }
  | _ => none }
def CellsMapWrongFalsely : Prop := cellsMapRow.holds Try.pinned (OpenSpec.ofChange cellsMapWrong)

/- THE SECOND FORM. 'bulk': how many values and letters a reading holds, each counted each time it is reached (what is shared counts as often as it is met; a slice's spare places count too). A statement '..UptoSaid' is the law's where the arguments, and the package variables that the reading takes, are together of bulk at most 1048576: NARROWER than '..Said'. Prove '..Said' where nothing that the law and all that it calls make is longer than what came in: it says more and counts as full. Else prove '..UptoSaid'. A law counts once. -/
mutual
def uptoBulk {H : Type} : DataW H → Nat
  | .lit (.string bytes) => bytes.length + 1
  | .lit _ => 1
  | .nil => 1
  | .ptr d => uptoBulk d + 1
  | .slice elems spare => uptoBulkAll elems + uptoBulkAll spare + 1
  | .agg parts => uptoBulkAll parts + 1
  | .iface _ d => uptoBulk d + 1
  | .map entries => uptoBulkEntries entries + 1
  | .held _ => 1
def uptoBulkAll {H : Type} : List (DataW H) → Nat
  | [] => 0
  | d :: r => uptoBulk d + uptoBulkAll r
def uptoBulkEntries {H : Type} : List (Lit × DataW H) → Nat
  | [] => 0
  | x :: r => uptoBulkEntry x + uptoBulkEntries r
def uptoBulkEntry {H : Type} : Lit × DataW H → Nat
  | (.string bytes, d) => bytes.length + uptoBulk d + 1
  | (_, d) => uptoBulk d + 1
 end
def uptoSmall : (H : Type) → List (DataW H) → Bool := fun _ ds => decide (uptoBulkAll ds ≤ 1048576)
def OpenSpec.upto (s : _root_.Go.ChangeSpec) : _root_.Go.OpenSpec := { _root_.Go.OpenSpec.ofChange s with cond := some uptoSmall }

/-- 'naskhlaw12.CellsLive', WHERE WHAT IT READS IS OF BULK AT MOST 1048576: true; the input reads as it did. -/
def cellsLiveUptoRow : OpenClaim := { program := "ytohhobcipfmkbaa", sum := "6ac166a113fd82d9fab2cf0aa4f37dba37b21d2642b2f5bee619ba1c8bbebc06", func := "naskh/naskhlaw12.CellsLive", spec := "cellsLive", unfollowed := true, recurses := true, apart := false, narrowed := true }
def CellsLiveUptoSaid : Prop := cellsLiveUptoRow.holds Try.pinned (OpenSpec.upto cellsLiveSpec)

/-- 'naskhlaw12.CellsNobody', WHERE WHAT IT READS IS OF BULK AT MOST 1048576: true; the input reads as it did. -/
def cellsNobodyUptoRow : OpenClaim := { program := "ytohhobcipfmkbaa", sum := "6ac166a113fd82d9fab2cf0aa4f37dba37b21d2642b2f5bee619ba1c8bbebc06", func := "naskh/naskhlaw12.CellsNobody", spec := "cellsNobody", unfollowed := true, recurses := true, apart := false, narrowed := true }
def CellsNobodyUptoSaid : Prop := cellsNobodyUptoRow.holds Try.pinned (OpenSpec.upto cellsNobodySpec)

/-- 'naskhlaw04.ClusterChecks', WHERE WHAT IT READS IS OF BULK AT MOST 1048576: true; the input reads as it did. -/
def clusterChecksUptoRow : OpenClaim := { program := "ytohhobcipfmkbaa", sum := "6ac166a113fd82d9fab2cf0aa4f37dba37b21d2642b2f5bee619ba1c8bbebc06", func := "naskh/naskhlaw04.ClusterChecks", spec := "clusterChecks", unfollowed := true, recurses := true, apart := false, narrowed := true }
def ClusterChecksUptoSaid : Prop := clusterChecksUptoRow.holds Try.pinned (OpenSpec.upto clusterChecksSpec)

/-- 'naskhlaw04.ClusterFinest', WHERE WHAT IT READS IS OF BULK AT MOST 1048576: true; the input reads as it did. -/
def clusterFinestUptoRow : OpenClaim := { program := "ytohhobcipfmkbaa", sum := "6ac166a113fd82d9fab2cf0aa4f37dba37b21d2642b2f5bee619ba1c8bbebc06", func := "naskh/naskhlaw04.ClusterFinest", spec := "clusterFinest", unfollowed := true, recurses := true, apart := false, narrowed := true }
def ClusterFinestUptoSaid : Prop := clusterFinestUptoRow.holds Try.pinned (OpenSpec.upto clusterFinestSpec)

/-- 'naskhlaw04.ClusterWhole', WHERE WHAT IT READS IS OF BULK AT MOST 1048576: true; the input reads as it did. -/
def clusterWholeUptoRow : OpenClaim := { program := "ytohhobcipfmkbaa", sum := "6ac166a113fd82d9fab2cf0aa4f37dba37b21d2642b2f5bee619ba1c8bbebc06", func := "naskh/naskhlaw04.ClusterWhole", spec := "clusterWhole", unfollowed := true, recurses := true, apart := false, narrowed := true }
def ClusterWholeUptoSaid : Prop := clusterWholeUptoRow.holds Try.pinned (OpenSpec.upto clusterWholeSpec)

/-- 'naskhlaw04.ClusterTurns', WHERE WHAT IT READS IS OF BULK AT MOST 1048576: true; the input reads as it did. -/
def clusterTurnsUptoRow : OpenClaim := { program := "ytohhobcipfmkbaa", sum := "6ac166a113fd82d9fab2cf0aa4f37dba37b21d2642b2f5bee619ba1c8bbebc06", func := "naskh/naskhlaw04.ClusterTurns", spec := "clusterTurns", unfollowed := true, recurses := true, apart := false, narrowed := true }
def ClusterTurnsUptoSaid : Prop := clusterTurnsUptoRow.holds Try.pinned (OpenSpec.upto clusterTurnsSpec)

/-- 'naskhlaw04.ClusterComposes', WHERE WHAT IT READS IS OF BULK AT MOST 1048576: true; the input reads as it did. -/
def clusterComposesUptoRow : OpenClaim := { program := "ytohhobcipfmkbaa", sum := "6ac166a113fd82d9fab2cf0aa4f37dba37b21d2642b2f5bee619ba1c8bbebc06", func := "naskh/naskhlaw04.ClusterComposes", spec := "clusterComposes", unfollowed := true, recurses := true, apart := false, narrowed := true }
def ClusterComposesUptoSaid : Prop := clusterComposesUptoRow.holds Try.pinned (OpenSpec.upto clusterComposesSpec)

/-- 'naskhlaw04.ClusterSame', WHERE WHAT IT READS IS OF BULK AT MOST 1048576: true; the input reads as it did. -/
def clusterSameUptoRow : OpenClaim := { program := "ytohhobcipfmkbaa", sum := "6ac166a113fd82d9fab2cf0aa4f37dba37b21d2642b2f5bee619ba1c8bbebc06", func := "naskh/naskhlaw04.ClusterSame", spec := "clusterSame", unfollowed := true, recurses := true, apart := false, narrowed := true }
def ClusterSameUptoSaid : Prop := clusterSameUptoRow.holds Try.pinned (OpenSpec.upto clusterSameSpec)

/-- 'naskhlaw12.CellsMap', WHERE WHAT IT READS IS OF BULK AT MOST 1048576: true; the input reads as it did. -/
def cellsMapUptoRow : OpenClaim := { program := "ytohhobcipfmkbaa", sum := "6ac166a113fd82d9fab2cf0aa4f37dba37b21d2642b2f5bee619ba1c8bbebc06", func := "naskh/naskhlaw12.CellsMap", spec := "cellsMap", unfollowed := true, recurses := true, apart := false, narrowed := true }
def CellsMapUptoSaid : Prop := cellsMapUptoRow.holds Try.pinned (OpenSpec.upto cellsMapSpec)

end Rows
end Go.Proofs.Ytohhobcipfmkbaa
