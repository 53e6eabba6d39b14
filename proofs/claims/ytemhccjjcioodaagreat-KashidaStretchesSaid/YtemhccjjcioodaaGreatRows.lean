/-
  No cell of these rows narrows 'for every input' (looked for: loops, veiled, ifaces, maps, wideKeys, modest, calm, conditions, laid).
  DERIVED. THE GIVEN ROWS OF THIS SEAT. 10 by the template 'for every input the law returns true; each argument reads behind the call as it read before'; 0 by the template 'total and deterministic' (their statements: YtemhccjjcioodaaGreatTotals.lean).
  GIVEN WITH THE SEED: the statements are not yours to turn. If you find one false, say at which input.
  Laid BY PROGRAM, IN A SANDBOX (cutbox-rows.mjs): the forced cells as the released guide's own fill.sh prints them over the translation 76be6f80e6eb2871… (all of the seat's roots in one cut). By AI agents, Wed Nov 11 2026. No macro, syntax, notation, axiom, sorry.
-/
import Derived.Test.YtemhccjjcioodaaGreatChecked
import GoSem.Claim
import GoSem.ClaimJoined
import GoSem.ClaimMapViews
import Derived.JoinedTies
import Derived.KernelRfl
namespace Go.Proofs.YtemhccjjcioodaaGreat
/- THE CELL 'sum', in the pinned program and in every row, IS THE sha256 OF THE DUMP (.gsa) THAT YtemhccjjcioodaaGreatProg.lean LOADS. Nothing in Lean hashes anything: it is a label: what it is worth is what the hold of that sum in a sandbox is worth. -/
noncomputable def Tryz.pinned : Pinned := { name := "ytemhccjjcioodaagreat", sum := "76be6f80e6eb2871f8bbf8e2ca535160bd506c8ec5ed02d763735d743d2ce250", checked := Tryz.checked }
namespace Rows
def none {H : Type} : Left H := { results := [], args := [] }

/-- 'naskhlaw42.KashidaStretches': WHATEVER THE INPUT: true; the input reads as it did. -/
def kashidaStretchesSpec : ChangeSpec := { name := "kashidaStretches", fn := fun _ => fun
  | [d1, d2, d3] => { results := [.lit (.bool true)], args := [d1, d2, d3] }
  | _ => none }
def kashidaStretchesRow : OpenClaim := { program := "ytemhccjjcioodaagreat", sum := "76be6f80e6eb2871f8bbf8e2ca535160bd506c8ec5ed02d763735d743d2ce250", func := "naskh/naskhlaw42.KashidaStretches", spec := "kashidaStretches", unfollowed := true, recurses := true, apart := false }
def KashidaStretchesSaid : Prop := kashidaStretchesRow.holds Tryz.pinned (OpenSpec.ofChange kashidaStretchesSpec)

/-- ITS FALSE NEIGHBOUR: 'it returns false'. Refute it at one input. -/
def kashidaStretchesWrong : ChangeSpec := { name := "kashidaStretches", fn := fun _ => fun
  | [d1, d2, d3] => { results := [.lit (.bool false)], args := [d1, d2, d3] }
  | _ => none }
def KashidaStretchesWrongFalsely : Prop := kashidaStretchesRow.holds Tryz.pinned (OpenSpec.ofChange kashidaStretchesWrong)

/-- 'naskhlaw42.KashidaPlaces': WHATEVER THE INPUT: true; the input reads as it did. -/
def kashidaPlacesSpec : ChangeSpec := { name := "kashidaPlaces", fn := fun _ => fun
  | [d] => { results := [.lit (.bool true)], args := [d] }
  | _ => none }
def kashidaPlacesRow : OpenClaim := { program := "ytemhccjjcioodaagreat", sum := "76be6f80e6eb2871f8bbf8e2ca535160bd506c8ec5ed02d763735d743d2ce250", func := "naskh/naskhlaw42.KashidaPlaces", spec := "kashidaPlaces", unfollowed := true, recurses := true, apart := false }
def KashidaPlacesSaid : Prop := kashidaPlacesRow.holds Tryz.pinned (OpenSpec.ofChange kashidaPlacesSpec)

/-- ITS FALSE NEIGHBOUR: 'it returns false'. Refute it at one input. -/
def kashidaPlacesWrong : ChangeSpec := { name := "kashidaPlaces", fn := fun _ => fun
  | [d] => { results := [.lit (.bool false)], args := [d] }
  | _ => none }
def KashidaPlacesWrongFalsely : Prop := kashidaPlacesRow.holds Tryz.pinned (OpenSpec.ofChange kashidaPlacesWrong)

/-- 'naskhlaw18.UnshapeBack': WHATEVER THE INPUT: true; the input reads as it did. -/
def unshapeBackSpec : ChangeSpec := { name := "unshapeBack", fn := fun _ => fun
  | [d] => { results := [.lit (.bool true)], args := [d] }
  | _ => none }
def unshapeBackRow : OpenClaim := { program := "ytemhccjjcioodaagreat", sum := "76be6f80e6eb2871f8bbf8e2ca535160bd506c8ec5ed02d763735d743d2ce250", func := "naskh/naskhlaw18.UnshapeBack", spec := "unshapeBack", unfollowed := true, recurses := true, apart := false }
def UnshapeBackSaid : Prop := unshapeBackRow.holds Tryz.pinned (OpenSpec.ofChange unshapeBackSpec)

/-- ITS FALSE NEIGHBOUR: 'it returns false'. Refute it at one input. -/
def unshapeBackWrong : ChangeSpec := { name := "unshapeBack", fn := fun _ => fun
  | [d] => { results := [.lit (.bool false)], args := [d] }
  | _ => none }
def UnshapeBackWrongFalsely : Prop := unshapeBackRow.holds Tryz.pinned (OpenSpec.ofChange unshapeBackWrong)

/-- 'naskhlaw18.UnshapeTakes': WHATEVER THE INPUT: true; the input reads as it did. -/
def unshapeTakesSpec : ChangeSpec := { name := "unshapeTakes", fn := fun _ => fun
  | [d1, d2] => { results := [.lit (.bool true)], args := [d1, d2] }
  | _ => none }
def unshapeTakesRow : OpenClaim := { program := "ytemhccjjcioodaagreat", sum := "76be6f80e6eb2871f8bbf8e2ca535160bd506c8ec5ed02d763735d743d2ce250", func := "naskh/naskhlaw18.UnshapeTakes", spec := "unshapeTakes", unfollowed := true, recurses := true, apart := false }
def UnshapeTakesSaid : Prop := unshapeTakesRow.holds Tryz.pinned (OpenSpec.ofChange unshapeTakesSpec)

/-- ITS FALSE NEIGHBOUR: 'it returns false'. Refute it at one input. -/
def unshapeTakesWrong : ChangeSpec := { name := "unshapeTakes", fn := fun _ => fun
  | [d1, d2] => { results := [.lit (.bool false)], args := [d1, d2] }
  | _ => none }
def UnshapeTakesWrongFalsely : Prop := unshapeTakesRow.holds Tryz.pinned (OpenSpec.ofChange unshapeTakesWrong)

/-- 'naskhlaw19.ShapeMap': WHATEVER THE INPUT: true; the input reads as it did. -/
def shapeMapSpec : ChangeSpec := { name := "shapeMap", fn := fun _ => fun
  | [d1, d2] => { results := [.lit (.bool true)], args := [d1, d2] }
  | _ => none }
def shapeMapRow : OpenClaim := { program := "ytemhccjjcioodaagreat", sum := "76be6f80e6eb2871f8bbf8e2ca535160bd506c8ec5ed02d763735d743d2ce250", func := "naskh/naskhlaw19.ShapeMap", spec := "shapeMap", unfollowed := true, recurses := true, apart := false }
def ShapeMapSaid : Prop := shapeMapRow.holds Tryz.pinned (OpenSpec.ofChange shapeMapSpec)

/-- ITS FALSE NEIGHBOUR: 'it returns false'. Refute it at one input. -/
def shapeMapWrong : ChangeSpec := { name := "shapeMap", fn := fun _ => fun
  | [d1, d2] => { results := [.lit (.bool false)], args := [d1, d2] }
  | _ => none }
def ShapeMapWrongFalsely : Prop := shapeMapRow.holds Tryz.pinned (OpenSpec.ofChange shapeMapWrong)

/-- 'naskhlaw19.ShapeCells': WHATEVER THE INPUT: true; the input reads as it did. -/
def shapeCellsSpec : ChangeSpec := { name := "shapeCells", fn := fun _ => fun
  | [d1, d2] => { results := [.lit (.bool true)], args := [d1, d2] }
  | _ => none }
def shapeCellsRow : OpenClaim := { program := "ytemhccjjcioodaagreat", sum := "76be6f80e6eb2871f8bbf8e2ca535160bd506c8ec5ed02d763735d743d2ce250", func := "naskh/naskhlaw19.ShapeCells", spec := "shapeCells", unfollowed := true, recurses := true, apart := false }
def ShapeCellsSaid : Prop := shapeCellsRow.holds Tryz.pinned (OpenSpec.ofChange shapeCellsSpec)

/-- ITS FALSE NEIGHBOUR: 'it returns false'. Refute it at one input. -/
def shapeCellsWrong : ChangeSpec := { name := "shapeCells", fn := fun _ => fun
  | [d1, d2] => { results := [.lit (.bool false)], args := [d1, d2] }
  | _ => none }
def ShapeCellsWrongFalsely : Prop := shapeCellsRow.holds Tryz.pinned (OpenSpec.ofChange shapeCellsWrong)

/-- 'naskhlaw19.ShapeGives': WHATEVER THE INPUT: true; the input reads as it did. -/
def shapeGivesSpec : ChangeSpec := { name := "shapeGives", fn := fun _ => fun
  | [d1, d2] => { results := [.lit (.bool true)], args := [d1, d2] }
  | _ => none }
def shapeGivesRow : OpenClaim := { program := "ytemhccjjcioodaagreat", sum := "76be6f80e6eb2871f8bbf8e2ca535160bd506c8ec5ed02d763735d743d2ce250", func := "naskh/naskhlaw19.ShapeGives", spec := "shapeGives", unfollowed := true, recurses := true, apart := false }
def ShapeGivesSaid : Prop := shapeGivesRow.holds Tryz.pinned (OpenSpec.ofChange shapeGivesSpec)

/-- ITS FALSE NEIGHBOUR: 'it returns false'. Refute it at one input. -/
def shapeGivesWrong : ChangeSpec := { name := "shapeGives", fn := fun _ => fun
  | [d1, d2] => { results := [.lit (.bool false)], args := [d1, d2] }
  | _ => none }
def ShapeGivesWrongFalsely : Prop := shapeGivesRow.holds Tryz.pinned (OpenSpec.ofChange shapeGivesWrong)

/-- 'naskhlaw42.KashidaForms': WHATEVER THE INPUT: true; the input reads as it did. -/
def kashidaFormsSpec : ChangeSpec := { name := "kashidaForms", fn := fun _ => fun
  | [d1, d2] => { results := [.lit (.bool true)], args := [d1, d2] }
  | _ => none }
def kashidaFormsRow : OpenClaim := { program := "ytemhccjjcioodaagreat", sum := "76be6f80e6eb2871f8bbf8e2ca535160bd506c8ec5ed02d763735d743d2ce250", func := "naskh/naskhlaw42.KashidaForms", spec := "kashidaForms", unfollowed := true, recurses := true, apart := false }
def KashidaFormsSaid : Prop := kashidaFormsRow.holds Tryz.pinned (OpenSpec.ofChange kashidaFormsSpec)

/-- ITS FALSE NEIGHBOUR: 'it returns false'. Refute it at one input. -/
def kashidaFormsWrong : ChangeSpec := { name := "kashidaForms", fn := fun _ => fun
  | [d1, d2] => { results := [.lit (.bool false)], args := [d1, d2] }
  | _ => none }
def KashidaFormsWrongFalsely : Prop := kashidaFormsRow.holds Tryz.pinned (OpenSpec.ofChange kashidaFormsWrong)

/-- 'naskhlaw19.ShapeBack': WHATEVER THE INPUT: true; the input reads as it did. -/
def shapeBackSpec : ChangeSpec := { name := "shapeBack", fn := fun _ => fun
  | [d1, d2] => { results := [.lit (.bool true)], args := [d1, d2] }
  | _ => none }
def shapeBackRow : OpenClaim := { program := "ytemhccjjcioodaagreat", sum := "76be6f80e6eb2871f8bbf8e2ca535160bd506c8ec5ed02d763735d743d2ce250", func := "naskh/naskhlaw19.ShapeBack", spec := "shapeBack", unfollowed := true, recurses := true, apart := false }
def ShapeBackSaid : Prop := shapeBackRow.holds Tryz.pinned (OpenSpec.ofChange shapeBackSpec)

/-- ITS FALSE NEIGHBOUR: 'it returns false'. Refute it at one input. -/
def shapeBackWrong : ChangeSpec := { name := "shapeBack", fn := fun _ => fun
  | [d1, d2] => { results := [.lit (.bool false)], args := [d1, d2] }
  | _ => none }
def ShapeBackWrongFalsely : Prop := shapeBackRow.holds Tryz.pinned (OpenSpec.ofChange shapeBackWrong)

/-- 'naskhlaw19.ShapeAgain': WHATEVER THE INPUT: true; the input reads as it did. -/
def shapeAgainSpec : ChangeSpec := { name := "shapeAgain", fn := fun _ => fun
  | [d1, d2] => { results := [.lit (.bool true)], args := [d1, d2] }
  | _ => none }
def shapeAgainRow : OpenClaim := { program := "ytemhccjjcioodaagreat", sum := "76be6f80e6eb2871f8bbf8e2ca535160bd506c8ec5ed02d763735d743d2ce250", func := "naskh/naskhlaw19.ShapeAgain", spec := "shapeAgain", unfollowed := true, recurses := true, apart := false }
def ShapeAgainSaid : Prop := shapeAgainRow.holds Tryz.pinned (OpenSpec.ofChange shapeAgainSpec)

/-- ITS FALSE NEIGHBOUR: 'it returns false'. Refute it at one input. -/
def shapeAgainWrong : ChangeSpec := { name := "shapeAgain", fn := fun _ => fun
  | [d1, d2] => { results := [.lit (.bool false)], args := [d1, d2] }
  | _ => none }
def ShapeAgainWrongFalsely : Prop := shapeAgainRow.holds Tryz.pinned (OpenSpec.ofChange shapeAgainWrong)

/- THE SECOND FORM. 'bulk': how many values and letters a reading holds, each counted each time it is reached (what is shared counts as often as it is met; a slice's spare places count too). A statement '..UptoSaid' is the law's where the arguments, and the package variables that the reading takes, are together of bulk at most 1048576: NARROWER than '..Said'. Prove '..Said' where nothing that the law and all that it calls make is longer than what came in: it says more and counts as full. Else prove '..UptoSaid'. A law counts once. -/
mutual
def uptoBulk {H : Type} : DataW H → Nat
  | .lit (.string bytes) => bytes.length + 1
  | .lit _ => 1
  | .nil => 1
  | .ptr d => uptoBulk d + 1
  | .slice elems spare => uptoBulkAll elems + uptoBulkAll spare + 1
  | .agg parts => uptoBulkAll parts + 1
  | .iface _ d => uptoBulk d + 1
  | .map entries => uptoBulkEntries entries + 1
  | .held _ => 1
def uptoBulkAll {H : Type} : List (DataW H) → Nat
  | [] => 0
  | d :: r => uptoBulk d + uptoBulkAll r
def uptoBulkEntries {H : Type} : List (Lit × DataW H) → Nat
  | [] => 0
  | x :: r => uptoBulkEntry x + uptoBulkEntries r
def uptoBulkEntry {H : Type} : Lit × DataW H → Nat
  | (.string bytes, d) => bytes.length + uptoBulk d + 1
  | (_, d) => uptoBulk d + 1
 end
def uptoSmall : (H : Type) → List (DataW H) → Bool := fun _ ds => decide (uptoBulkAll ds ≤ 1048576)
def OpenSpec.upto (s : _root_.Go.ChangeSpec) : _root_.Go.OpenSpec := { _root_.Go.OpenSpec.ofChange s with cond := some uptoSmall }

/-- 'naskhlaw42.KashidaStretches', WHERE WHAT IT READS IS OF BULK AT MOST 1048576: true; the input reads as it did. -/
def kashidaStretchesUptoRow : OpenClaim := { program := "ytemhccjjcioodaagreat", sum := "76be6f80e6eb2871f8bbf8e2ca535160bd506c8ec5ed02d763735d743d2ce250", func := "naskh/naskhlaw42.KashidaStretches", spec := "kashidaStretches", unfollowed := true, recurses := true, apart := false, narrowed := true }
def KashidaStretchesUptoSaid : Prop := kashidaStretchesUptoRow.holds Tryz.pinned (OpenSpec.upto kashidaStretchesSpec)

/-- 'naskhlaw42.KashidaPlaces', WHERE WHAT IT READS IS OF BULK AT MOST 1048576: true; the input reads as it did. -/
def kashidaPlacesUptoRow : OpenClaim := { program := "ytemhccjjcioodaagreat", sum := "76be6f80e6eb2871f8bbf8e2ca535160bd506c8ec5ed02d763735d743d2ce250", func := "naskh/naskhlaw42.KashidaPlaces", spec := "kashidaPlaces", unfollowed := true, recurses := true, apart := false, narrowed := true }
def KashidaPlacesUptoSaid : Prop := kashidaPlacesUptoRow.holds Tryz.pinned (OpenSpec.upto kashidaPlacesSpec)

/-- 'naskhlaw18.UnshapeBack', WHERE WHAT IT READS IS OF BULK AT MOST 1048576: true; the input reads as it did. -/
def unshapeBackUptoRow : OpenClaim := { program := "ytemhccjjcioodaagreat", sum := "76be6f80e6eb2871f8bbf8e2ca535160bd506c8ec5ed02d763735d743d2ce250", func := "naskh/naskhlaw18.UnshapeBack", spec := "unshapeBack", unfollowed := true, recurses := true, apart := false, narrowed := true }
def UnshapeBackUptoSaid : Prop := unshapeBackUptoRow.holds Tryz.pinned (OpenSpec.upto unshapeBackSpec)

/-- 'naskhlaw18.UnshapeTakes', WHERE WHAT IT READS IS OF BULK AT MOST 1048576: true; the input reads as it did. -/
def unshapeTakesUptoRow : OpenClaim := { program := "ytemhccjjcioodaagreat", sum := "76be6f80e6eb2871f8bbf8e2ca535160bd506c8ec5ed02d763735d743d2ce250", func := "naskh/naskhlaw18.UnshapeTakes", spec := "unshapeTakes", unfollowed := true, recurses := true, apart := false, narrowed := true }
def UnshapeTakesUptoSaid : Prop := unshapeTakesUptoRow.holds Tryz.pinned (OpenSpec.upto unshapeTakesSpec)

/-- 'naskhlaw19.ShapeMap', WHERE WHAT IT READS IS OF BULK AT MOST 1048576: true; the input reads as it did. -/
def shapeMapUptoRow : OpenClaim := { program := "ytemhccjjcioodaagreat", sum := "76be6f80e6eb2871f8bbf8e2ca535160bd506c8ec5ed02d763735d743d2ce250", func := "naskh/naskhlaw19.ShapeMap", spec := "shapeMap", unfollowed := true, recurses := true, apart := false, narrowed := true }
def ShapeMapUptoSaid : Prop := shapeMapUptoRow.holds Tryz.pinned (OpenSpec.upto shapeMapSpec)

/-- 'naskhlaw19.ShapeCells', WHERE WHAT IT READS IS OF BULK AT MOST 1048576: true; the input reads as it did. -/
def shapeCellsUptoRow : OpenClaim := { program := "ytemhccjjcioodaagreat", sum := "76be6f80e6eb2871f8bbf8e2ca535160bd506c8ec5ed02d763735d743d2ce250", func := "naskh/naskhlaw19.ShapeCells", spec := "shapeCells", unfollowed := true, recurses := true, apart := false, narrowed := true }
def ShapeCellsUptoSaid : Prop := shapeCellsUptoRow.holds Tryz.pinned (OpenSpec.upto shapeCellsSpec)

/-- 'naskhlaw19.ShapeGives', WHERE WHAT IT READS IS OF BULK AT MOST 1048576: true; the input reads as it did. -/
def shapeGivesUptoRow : OpenClaim := { program := "ytemhccjjcioodaagreat", sum := "76be6f80e6eb2871f8bbf8e2ca535160bd506c8ec5ed02d763735d743d2ce250", func := "naskh/naskhlaw19.ShapeGives", spec := "shapeGives", unfollowed := true, recurses := true, apart := false, narrowed := true }
def ShapeGivesUptoSaid : Prop := shapeGivesUptoRow.holds Tryz.pinned (OpenSpec.upto shapeGivesSpec)

/-- 'naskhlaw42.KashidaForms', WHERE WHAT IT READS IS OF BULK AT MOST 1048576: true; the input reads as it did. -/
def kashidaFormsUptoRow : OpenClaim := { program := "ytemhccjjcioodaagreat", sum := "76be6f80e6eb2871f8bbf8e2ca535160bd506c8ec5ed02d763735d743d2ce250", func := "naskh/naskhlaw42.KashidaForms", spec := "kashidaForms", unfollowed := true, recurses := true, apart := false, narrowed := true }
def KashidaFormsUptoSaid : Prop := kashidaFormsUptoRow.holds Tryz.pinned (OpenSpec.upto kashidaFormsSpec)

/-- 'naskhlaw19.ShapeBack', WHERE WHAT IT READS IS OF BULK AT MOST 1048576: true; the input reads as it did. -/
def shapeBackUptoRow : OpenClaim := { program := "ytemhccjjcioodaagreat", sum := "76be6f80e6eb2871f8bbf8e2ca535160bd506c8ec5ed02d763735d743d2ce250", func := "naskh/naskhlaw19.ShapeBack", spec := "shapeBack", unfollowed := true, recurses := true, apart := false, narrowed := true }
def ShapeBackUptoSaid : Prop := shapeBackUptoRow.holds Tryz.pinned (OpenSpec.upto shapeBackSpec)

/-- 'naskhlaw19.ShapeAgain', WHERE WHAT IT READS IS OF BULK AT MOST 1048576: true; the input reads as it did. -/
def shapeAgainUptoRow : OpenClaim := { program := "ytemhccjjcioodaagreat", sum := "76be6f80e6eb2871f8bbf8e2ca535160bd506c8ec5ed02d763735d743d2ce250", func := "naskh/naskhlaw19.ShapeAgain", spec := "shapeAgain", unfollowed := true, recurses := true, apart := false, narrowed := true }
def ShapeAgainUptoSaid : Prop := shapeAgainUptoRow.holds Tryz.pinned (OpenSpec.upto shapeAgainSpec)

end Rows
end Go.Proofs.YtemhccjjcioodaaGreat
