/-
  No cell of these rows narrows 'for every input' (looked for: loops, veiled, ifaces, maps, wideKeys, modest, calm, conditions, laid).
  DERIVED. THE GIVEN ROWS OF THIS SEAT. 16 by the template 'for every input the law returns true; each argument reads behind the call as it read before'; 0 by the template 'total and deterministic' (their statements: YtfkgjoflekemaaaTotals.lean).
  GIVEN WITH THE SEED: the statements are not yours to turn. If you find one false, say at which input.
  Laid BY PROGRAM, IN A SANDBOX (cutbox-rows.mjs): the forced cells as the released guide's own fill.sh prints them over the translation 8e69cd5f1b397999… (all of the seat's roots in one cut). By AI agents, Wed Nov 11 2026. No macro, syntax, notation, axiom, sorry.
-/
import Derived.Test.YtfkgjoflekemaaaChecked
import GoSem.Claim
import GoSem.ClaimJoined
import GoSem.ClaimMapViews
import Derived.JoinedTies
import Derived.KernelRfl
namespace Go.Proofs.Ytfkgjoflekemaaa
/- THE CELL 'sum', in the pinned program and in every row, IS THE sha256 OF THE DUMP (.gsa) THAT YtfkgjoflekemaaaProg.lean LOADS. Nothing in Lean hashes anything: it is a label: what it is worth is what the hold of that sum in a sandbox is worth. -/
noncomputable def Try.pinned : Pinned := { name := "ytfkgjoflekemaaa", sum := "8e69cd5f1b397999a9caf888d71d4557747e68cd608591525e8247fde50abb22", checked := Try.checked }
namespace Rows
def none {H : Type} : Left H := { results := [], args := [] }

/-- 'naskhlaw27.ResolveLine': WHATEVER THE INPUT: true; the input reads as it did. -/
def resolveLineSpec : ChangeSpec := { name := "resolveLine", fn := fun _ => fun
  | [d1, d2, d3, d4] => { results := [.lit (.bool true)], args := [d1, d2, d3, d4] }
  | _ => none }
def resolveLineRow : OpenClaim := { program := "ytfkgjoflekemaaa", sum := "8e69cd5f1b397999a9caf888d71d4557747e68cd608591525e8247fde50abb22", func := "naskh/naskhlaw27.ResolveLine", spec := "resolveLine", apart := false }
def ResolveLineSaid : Prop := resolveLineRow.holds Try.pinned (OpenSpec.ofChange resolveLineSpec)

/-- ITS FALSE NEIGHBOUR: 'it returns false'. Refute it at one input. -/
def resolveLineWrong : ChangeSpec := { name := "resolveLine", fn := fun _ => fun
  | [d1, d2, d3, d4] => { results := [.lit (.bool false)], args := [d1, d2, d3, d4] }
  | _ => none }
def ResolveLineWrongFalsely : Prop := resolveLineRow.holds Try.pinned (OpenSpec.ofChange resolveLineWrong)

/-- 'naskhlaw27.ResolveStays': WHATEVER THE INPUT: true; the input reads as it did. -/
def resolveStaysSpec : ChangeSpec := { name := "resolveStays", fn := fun _ => fun
  | [d1, d2, d3, d4] => { results := [.lit (.bool true)], args := [d1, d2, d3, d4] }
  | _ => none }
def resolveStaysRow : OpenClaim := { program := "ytfkgjoflekemaaa", sum := "8e69cd5f1b397999a9caf888d71d4557747e68cd608591525e8247fde50abb22", func := "naskh/naskhlaw27.ResolveStays", spec := "resolveStays", apart := false }
def ResolveStaysSaid : Prop := resolveStaysRow.holds Try.pinned (OpenSpec.ofChange resolveStaysSpec)

/-- ITS FALSE NEIGHBOUR: 'it returns false'. Refute it at one input. -/
def resolveStaysWrong : ChangeSpec := { name := "resolveStays", fn := fun _ => fun
  | [d1, d2, d3, d4] => { results := [.lit (.bool false)], args := [d1, d2, d3, d4] }
  | _ => none }
def ResolveStaysWrongFalsely : Prop := resolveStaysRow.holds Try.pinned (OpenSpec.ofChange resolveStaysWrong)

/-- 'naskhlaw13.JoinForms': WHATEVER THE INPUT: true; the input reads as it did. -/
def joinFormsSpec : ChangeSpec := { name := "joinForms", fn := fun _ => fun
  | [d] => { results := [.lit (.bool true)], args := [d] }
  | _ => none }
def joinFormsRow : OpenClaim := { program := "ytfkgjoflekemaaa", sum := "8e69cd5f1b397999a9caf888d71d4557747e68cd608591525e8247fde50abb22", func := "naskh/naskhlaw13.JoinForms", spec := "joinForms", unfollowed := true, recurses := true, apart := false }
def JoinFormsSaid : Prop := joinFormsRow.holds Try.pinned (OpenSpec.ofChange joinFormsSpec)

/-- ITS FALSE NEIGHBOUR: 'it returns false'. Refute it at one input. -/
def joinFormsWrong : ChangeSpec := { name := "joinForms", fn := fun _ => fun
  | [d] => { results := [.lit (.bool false)], args := [d] }
  | _ => none }
def JoinFormsWrongFalsely : Prop := joinFormsRow.holds Try.pinned (OpenSpec.ofChange joinFormsWrong)

/-- 'naskhlaw13.JoinPlaces': WHATEVER THE INPUT: true; the input reads as it did. -/
def joinPlacesSpec : ChangeSpec := { name := "joinPlaces", fn := fun _ => fun
  | [d1, d2] => { results := [.lit (.bool true)], args := [d1, d2] }
  | _ => none }
def joinPlacesRow : OpenClaim := { program := "ytfkgjoflekemaaa", sum := "8e69cd5f1b397999a9caf888d71d4557747e68cd608591525e8247fde50abb22", func := "naskh/naskhlaw13.JoinPlaces", spec := "joinPlaces", unfollowed := true, recurses := true, apart := false }
def JoinPlacesSaid : Prop := joinPlacesRow.holds Try.pinned (OpenSpec.ofChange joinPlacesSpec)

/-- ITS FALSE NEIGHBOUR: 'it returns false'. Refute it at one input. -/
def joinPlacesWrong : ChangeSpec := { name := "joinPlaces", fn := fun _ => fun
  | [d1, d2] => { results := [.lit (.bool false)], args := [d1, d2] }
  | _ => none }
def JoinPlacesWrongFalsely : Prop := joinPlacesRow.holds Try.pinned (OpenSpec.ofChange joinPlacesWrong)

/-- 'naskhlaw13.JoinMeets': WHATEVER THE INPUT: true; the input reads as it did. -/
def joinMeetsSpec : ChangeSpec := { name := "joinMeets", fn := fun _ => fun
  | [d] => { results := [.lit (.bool true)], args := [d] }
  | _ => none }
def joinMeetsRow : OpenClaim := { program := "ytfkgjoflekemaaa", sum := "8e69cd5f1b397999a9caf888d71d4557747e68cd608591525e8247fde50abb22", func := "naskh/naskhlaw13.JoinMeets", spec := "joinMeets", unfollowed := true, recurses := true, apart := false }
def JoinMeetsSaid : Prop := joinMeetsRow.holds Try.pinned (OpenSpec.ofChange joinMeetsSpec)

/-- ITS FALSE NEIGHBOUR: 'it returns false'. Refute it at one input. -/
def joinMeetsWrong : ChangeSpec := { name := "joinMeets", fn := fun _ => fun
  | [d] => { results := [.lit (.bool false)], args := [d] }
  | _ => none }
def JoinMeetsWrongFalsely : Prop := joinMeetsRow.holds Try.pinned (OpenSpec.ofChange joinMeetsWrong)

/-- 'naskhlaw13.JoinApart': WHATEVER THE INPUT: true; the input reads as it did. -/
def joinApartSpec : ChangeSpec := { name := "joinApart", fn := fun _ => fun
  | [d1, d2, d3] => { results := [.lit (.bool true)], args := [d1, d2, d3] }
  | _ => none }
def joinApartRow : OpenClaim := { program := "ytfkgjoflekemaaa", sum := "8e69cd5f1b397999a9caf888d71d4557747e68cd608591525e8247fde50abb22", func := "naskh/naskhlaw13.JoinApart", spec := "joinApart", unfollowed := true, recurses := true, apart := false }
def JoinApartSaid : Prop := joinApartRow.holds Try.pinned (OpenSpec.ofChange joinApartSpec)

/-- ITS FALSE NEIGHBOUR: 'it returns false'. Refute it at one input. -/
def joinApartWrong : ChangeSpec := { name := "joinApart", fn := fun _ => fun
  | [d1, d2, d3] => { results := [.lit (.bool false)], args := [d1, d2, d3] }
  | _ => none }
def JoinApartWrongFalsely : Prop := joinApartRow.holds Try.pinned (OpenSpec.ofChange joinApartWrong)

/-- 'naskhlaw24.WeakGone': WHATEVER THE INPUT: true; the input reads as it did. -/
def weakGoneSpec : ChangeSpec := { name := "weakGone", fn := fun _ => fun
  | [d1, d2] => { results := [.lit (.bool true)], args := [d1, d2] }
  | _ => none }
def weakGoneRow : OpenClaim := { program := "ytfkgjoflekemaaa", sum := "8e69cd5f1b397999a9caf888d71d4557747e68cd608591525e8247fde50abb22", func := "naskh/naskhlaw24.WeakGone", spec := "weakGone", unfollowed := true, recurses := true, apart := false }
def WeakGoneSaid : Prop := weakGoneRow.holds Try.pinned (OpenSpec.ofChange weakGoneSpec)

/-- ITS FALSE NEIGHBOUR: 'it returns false'. Refute it at one input. -/
def weakGoneWrong : ChangeSpec := { name := "weakGone", fn := fun _ => fun
  | [d1, d2] => { results := [.lit (.bool false)], args := [d1, d2] }
  | _ => none }
def WeakGoneWrongFalsely : Prop := weakGoneRow.holds Try.pinned (OpenSpec.ofChange weakGoneWrong)

/-- 'naskhlaw15.MarkOne': WHATEVER THE INPUT: true; the input reads as it did. -/
def markOneSpec : ChangeSpec := { name := "markOne", fn := fun _ => fun
  | [d1, d2, d3] => { results := [.lit (.bool true)], args := [d1, d2, d3] }
  | _ => none }
def markOneRow : OpenClaim := { program := "ytfkgjoflekemaaa", sum := "8e69cd5f1b397999a9caf888d71d4557747e68cd608591525e8247fde50abb22", func := "naskh/naskhlaw15.MarkOne", spec := "markOne", apart := false }
def MarkOneSaid : Prop := markOneRow.holds Try.pinned (OpenSpec.ofChange markOneSpec)

/-- ITS FALSE NEIGHBOUR: 'it returns false'. Refute it at one input. -/
def markOneWrong : ChangeSpec := { name := "markOne", fn := fun _ => fun
  | [d1, d2, d3] => { results := [.lit (.bool false)], args := [d1, d2, d3] }
  | _ => none }
def MarkOneWrongFalsely : Prop := markOneRow.holds Try.pinned (OpenSpec.ofChange markOneWrong)

/-- 'naskhlaw24.WeakParts': WHATEVER THE INPUT: true; the input reads as it did. -/
def weakPartsSpec : ChangeSpec := { name := "weakParts", fn := fun _ => fun
  | [d1, d2, d3] => { results := [.lit (.bool true)], args := [d1, d2, d3] }
  | _ => none }
def weakPartsRow : OpenClaim := { program := "ytfkgjoflekemaaa", sum := "8e69cd5f1b397999a9caf888d71d4557747e68cd608591525e8247fde50abb22", func := "naskh/naskhlaw24.WeakParts", spec := "weakParts", unfollowed := true, recurses := true, apart := false }
def WeakPartsSaid : Prop := weakPartsRow.holds Try.pinned (OpenSpec.ofChange weakPartsSpec)

/-- ITS FALSE NEIGHBOUR: 'it returns false'. Refute it at one input. -/
def weakPartsWrong : ChangeSpec := { name := "weakParts", fn := fun _ => fun
  | [d1, d2, d3] => { results := [.lit (.bool false)], args := [d1, d2, d3] }
  | _ => none }
def WeakPartsWrongFalsely : Prop := weakPartsRow.holds Try.pinned (OpenSpec.ofChange weakPartsWrong)

/-- 'naskhlaw15.MarkEach': WHATEVER THE INPUT: true; the input reads as it did. -/
def markEachSpec : ChangeSpec := { name := "markEach", fn := fun _ => fun
  | [d1, d2, d3] => { results := [.lit (.bool true)], args := [d1, d2, d3] }
  | _ => none }
def markEachRow : OpenClaim := { program := "ytfkgjoflekemaaa", sum := "8e69cd5f1b397999a9caf888d71d4557747e68cd608591525e8247fde50abb22", func := "naskh/naskhlaw15.MarkEach", spec := "markEach", apart := false }
def MarkEachSaid : Prop := markEachRow.holds Try.pinned (OpenSpec.ofChange markEachSpec)

/-- ITS FALSE NEIGHBOUR: 'it returns false'. Refute it at one input. -/
def markEachWrong : ChangeSpec := { name := "markEach", fn := fun _ => fun
  | [d1, d2, d3] => { results := [.lit (.bool false)], args := [d1, d2, d3] }
  | _ => none }
def MarkEachWrongFalsely : Prop := markEachRow.holds Try.pinned (OpenSpec.ofChange markEachWrong)

/-- 'naskhlaw15.MarkAll': WHATEVER THE INPUT: true; the input reads as it did. -/
def markAllSpec : ChangeSpec := { name := "markAll", fn := fun _ => fun
  | [d1, d2, d3, d4] => { results := [.lit (.bool true)], args := [d1, d2, d3, d4] }
  | _ => none }
def markAllRow : OpenClaim := { program := "ytfkgjoflekemaaa", sum := "8e69cd5f1b397999a9caf888d71d4557747e68cd608591525e8247fde50abb22", func := "naskh/naskhlaw15.MarkAll", spec := "markAll", unfollowed := true, recurses := true, apart := false }
def MarkAllSaid : Prop := markAllRow.holds Try.pinned (OpenSpec.ofChange markAllSpec)

/-- ITS FALSE NEIGHBOUR: 'it returns false'. Refute it at one input. -/
def markAllWrong : ChangeSpec := { name := "markAll", fn := fun _ => fun
  | [d1, d2, d3, d4] => { results := [.lit (.bool false)], args := [d1, d2, d3, d4] }
  | _ => none }
def MarkAllWrongFalsely : Prop := markAllRow.holds Try.pinned (OpenSpec.ofChange markAllWrong)

/-- 'naskhlaw13.JoinMarks': WHATEVER THE INPUT: true; the input reads as it did. -/
def joinMarksSpec : ChangeSpec := { name := "joinMarks", fn := fun _ => fun
  | [d1, d2] => { results := [.lit (.bool true)], args := [d1, d2] }
  | _ => none }
def joinMarksRow : OpenClaim := { program := "ytfkgjoflekemaaa", sum := "8e69cd5f1b397999a9caf888d71d4557747e68cd608591525e8247fde50abb22", func := "naskh/naskhlaw13.JoinMarks", spec := "joinMarks", inPlace := ["slices.overlaps[int]"], unfollowed := true, recurses := true, apart := false }
def JoinMarksSaid : Prop := joinMarksRow.holds Try.pinned (OpenSpec.ofChange joinMarksSpec)

/-- ITS FALSE NEIGHBOUR: 'it returns false'. Refute it at one input. -/
def joinMarksWrong : ChangeSpec := { name := "joinMarks", fn := fun _ => fun
  | [d1, d2] => { results := [.lit (.bool false)], args := [d1, d2] }
  | _ => none }
def JoinMarksWrongFalsely : Prop := joinMarksRow.holds Try.pinned (OpenSpec.ofChange joinMarksWrong)

/-- 'naskhlaw48.EmbedJoins': WHATEVER THE INPUT: true; the input reads as it did. -/
def embedJoinsSpec : ChangeSpec := { name := "embedJoins", fn := fun _ => fun
  | [d1, d2, d3] => { results := [.lit (.bool true)], args := [d1, d2, d3] }
  | _ => none }
def embedJoinsRow : OpenClaim := { program := "ytfkgjoflekemaaa", sum := "8e69cd5f1b397999a9caf888d71d4557747e68cd608591525e8247fde50abb22", func := "naskh/naskhlaw48.EmbedJoins", spec := "embedJoins", unfollowed := true, recurses := true, apart := false }
def EmbedJoinsSaid : Prop := embedJoinsRow.holds Try.pinned (OpenSpec.ofChange embedJoinsSpec)

/-- ITS FALSE NEIGHBOUR: 'it returns false'. Refute it at one input. -/
def embedJoinsWrong : ChangeSpec := { name := "embedJoins", fn := fun _ => fun
  | [d1, d2, d3] => { results := [.lit (.bool false)], args := [d1, d2, d3] }
  | _ => none }
def EmbedJoinsWrongFalsely : Prop := embedJoinsRow.holds Try.pinned (OpenSpec.ofChange embedJoinsWrong)

/-- 'naskhlaw25.BrackFinds': WHATEVER THE INPUT: true; the input reads as it did. -/
def brackFindsSpec : ChangeSpec := { name := "brackFinds", fn := fun _ => fun
  | [d1, d2] => { results := [.lit (.bool true)], args := [d1, d2] }
  | _ => none }
def brackFindsRow : OpenClaim := { program := "ytfkgjoflekemaaa", sum := "8e69cd5f1b397999a9caf888d71d4557747e68cd608591525e8247fde50abb22", func := "naskh/naskhlaw25.BrackFinds", spec := "brackFinds", unfollowed := true, recurses := true, apart := false }
def BrackFindsSaid : Prop := brackFindsRow.holds Try.pinned (OpenSpec.ofChange brackFindsSpec)

/-- ITS FALSE NEIGHBOUR: 'it returns false'. Refute it at one input. -/
def brackFindsWrong : ChangeSpec := { name := "brackFinds", fn := fun _ => fun
  | [d1, d2] => { results := [.lit (.bool false)], args := [d1, d2] }
  | _ => none }
def BrackFindsWrongFalsely : Prop := brackFindsRow.holds Try.pinned (OpenSpec.ofChange brackFindsWrong)

/-- 'naskhlaw25.BrackApart': WHATEVER THE INPUT: true; the input reads as it did. -/
def brackApartSpec : ChangeSpec := { name := "brackApart", fn := fun _ => fun
  | [d1, d2] => { results := [.lit (.bool true)], args := [d1, d2] }
  | _ => none }
def brackApartRow : OpenClaim := { program := "ytfkgjoflekemaaa", sum := "8e69cd5f1b397999a9caf888d71d4557747e68cd608591525e8247fde50abb22", func := "naskh/naskhlaw25.BrackApart", spec := "brackApart", unfollowed := true, recurses := true, apart := false }
def BrackApartSaid : Prop := brackApartRow.holds Try.pinned (OpenSpec.ofChange brackApartSpec)

/-- ITS FALSE NEIGHBOUR: 'it returns false'. Refute it at one input. -/
def brackApartWrong : ChangeSpec := { name := "brackApart", fn := fun _ => fun
  | [d1, d2] => { results := [.lit (.bool false)], args := [d1, d2] }
  | _ => none }
def BrackApartWrongFalsely : Prop := brackApartRow.holds Try.pinned (OpenSpec.ofChange brackApartWrong)

/-- 'naskhlaw25.BrackDeep': WHATEVER THE INPUT: true; the input reads as it did. -/
def brackDeepSpec : ChangeSpec := { name := "brackDeep", fn := fun _ => fun
  | [d] => { results := [.lit (.bool true)], args := [d] }
  | _ => none }
def brackDeepRow : OpenClaim := { program := "ytfkgjoflekemaaa", sum := "8e69cd5f1b397999a9caf888d71d4557747e68cd608591525e8247fde50abb22", func := "naskh/naskhlaw25.BrackDeep", spec := "brackDeep", unfollowed := true, recurses := true, apart := false }
def BrackDeepSaid : Prop := brackDeepRow.holds Try.pinned (OpenSpec.ofChange brackDeepSpec)

/-- ITS FALSE NEIGHBOUR: 'it returns false'. Refute it at one input. -/
def brackDeepWrong : ChangeSpec := { name := "brackDeep", fn := fun _ => fun
  | [d] => { results := [.lit (.bool false)], args := [d] }
  | _ => none }
def BrackDeepWrongFalsely : Prop := brackDeepRow.holds Try.pinned (OpenSpec.ofChange brackDeepWrong)

/- THE SECOND FORM. 'bulk': how many values and letters a reading holds, each counted each time it is reached (what is shared counts as often as it is met; a slice's spare places count too). A statement '..UptoSaid' is the law's where the arguments, and the package variables that the reading takes, are together of bulk at most 1048576: NARROWER than '..Said'. Prove '..Said' where nothing that the law and all that it calls make is longer than what came in: it says more and counts as full. Else prove '..UptoSaid'. A law counts once. -/
mutual
def uptoBulk {H : Type} : DataW H → Nat
  | .lit (.string bytes) => bytes.length + 1
  | .lit _ => 1
  | .nil => 1
  | .ptr d => uptoBulk d + 1
  | .slice elems spare => uptoBulkAll elems + uptoBulkAll spare + 1
  | .agg parts => uptoBulkAll parts + 1
  | .iface _ d => uptoBulk d + 1
  | .map entries => uptoBulkEntries entries + 1
  | .held _ => 1
def uptoBulkAll {H : Type} : List (DataW H) → Nat
  | [] => 0
  | d :: r => uptoBulk d + uptoBulkAll r
def uptoBulkEntries {H : Type} : List (Lit × DataW H) → Nat
  | [] => 0
  | x :: r => uptoBulkEntry x + uptoBulkEntries r
def uptoBulkEntry {H : Type} : Lit × DataW H → Nat
  | (.string bytes, d) => bytes.length + uptoBulk d + 1
  | (_, d) => uptoBulk d + 1
 end
def uptoSmall : (H : Type) → List (DataW H) → Bool := fun _ ds => decide (uptoBulkAll ds ≤ 1048576)
def OpenSpec.upto (s : _root_.Go.ChangeSpec) : _root_.Go.OpenSpec := { _root_.Go.OpenSpec.ofChange s with cond := some uptoSmall }

/-- 'naskhlaw27.ResolveLine', WHERE WHAT IT READS IS OF BULK AT MOST 1048576: true; the input reads as it did. -/
def resolveLineUptoRow : OpenClaim := { program := "ytfkgjoflekemaaa", sum := "8e69cd5f1b397999a9caf888d71d4557747e68cd608591525e8247fde50abb22", func := "naskh/naskhlaw27.ResolveLine", spec := "resolveLine", apart := false, narrowed := true }
def ResolveLineUptoSaid : Prop := resolveLineUptoRow.holds Try.pinned (OpenSpec.upto resolveLineSpec)

/-- 'naskhlaw27.ResolveStays', WHERE WHAT IT READS IS OF BULK AT MOST 1048576: true; the input reads as it did. -/
def resolveStaysUptoRow : OpenClaim := { program := "ytfkgjoflekemaaa", sum := "8e69cd5f1b397999a9caf888d71d4557747e68cd608591525e8247fde50abb22", func := "naskh/naskhlaw27.ResolveStays", spec := "resolveStays", apart := false, narrowed := true }
def ResolveStaysUptoSaid : Prop := resolveStaysUptoRow.holds Try.pinned (OpenSpec.upto resolveStaysSpec)

/-- 'naskhlaw13.JoinForms', WHERE WHAT IT READS IS OF BULK AT MOST 1048576: true; the input reads as it did. -/
def joinFormsUptoRow : OpenClaim := { program := "ytfkgjoflekemaaa", sum := "8e69cd5f1b397999a9caf888d71d4557747e68cd608591525e8247fde50abb22", func := "naskh/naskhlaw13.JoinForms", spec := "joinForms", unfollowed := true, recurses := true, apart := false, narrowed := true }
def JoinFormsUptoSaid : Prop := joinFormsUptoRow.holds Try.pinned (OpenSpec.upto joinFormsSpec)

/-- 'naskhlaw13.JoinPlaces', WHERE WHAT IT READS IS OF BULK AT MOST 1048576: true; the input reads as it did. -/
def joinPlacesUptoRow : OpenClaim := { program := "ytfkgjoflekemaaa", sum := "8e69cd5f1b397999a9caf888d71d4557747e68cd608591525e8247fde50abb22", func := "naskh/naskhlaw13.JoinPlaces", spec := "joinPlaces", unfollowed := true, recurses := true, apart := false, narrowed := true }
def JoinPlacesUptoSaid : Prop := joinPlacesUptoRow.holds Try.pinned (OpenSpec.upto joinPlacesSpec)

/-- 'naskhlaw13.JoinMeets', WHERE WHAT IT READS IS OF BULK AT MOST 1048576: true; the input reads as it did. -/
def joinMeetsUptoRow : OpenClaim := { program := "ytfkgjoflekemaaa", sum := "8e69cd5f1b397999a9caf888d71d4557747e68cd608591525e8247fde50abb22", func := "naskh/naskhlaw13.JoinMeets", spec := "joinMeets", unfollowed := true, recurses := true, apart := false, narrowed := true }
def JoinMeetsUptoSaid : Prop := joinMeetsUptoRow.holds Try.pinned (OpenSpec.upto joinMeetsSpec)

/-- 'naskhlaw13.JoinApart', WHERE WHAT IT READS IS OF BULK AT MOST 1048576: true; the input reads as it did. -/
def joinApartUptoRow : OpenClaim := { program := "ytfkgjoflekemaaa", sum := "8e69cd5f1b397999a9caf888d71d4557747e68cd608591525e8247fde50abb22", func := "naskh/naskhlaw13.JoinApart", spec := "joinApart", unfollowed := true, recurses := true, apart := false, narrowed := true }
def JoinApartUptoSaid : Prop := joinApartUptoRow.holds Try.pinned (OpenSpec.upto joinApartSpec)

/-- 'naskhlaw24.WeakGone', WHERE WHAT IT READS IS OF BULK AT MOST 1048576: true; the input reads as it did. -/
def weakGoneUptoRow : OpenClaim := { program := "ytfkgjoflekemaaa", sum := "8e69cd5f1b397999a9caf888d71d4557747e68cd608591525e8247fde50abb22", func := "naskh/naskhlaw24.WeakGone", spec := "weakGone", unfollowed := true, recurses := true, apart := false, narrowed := true }
def WeakGoneUptoSaid : Prop := weakGoneUptoRow.holds Try.pinned (OpenSpec.upto weakGoneSpec)

/-- 'naskhlaw15.MarkOne', WHERE WHAT IT READS IS OF BULK AT MOST 1048576: true; the input reads as it did. -/
def markOneUptoRow : OpenClaim := { program := "ytfkgjoflekemaaa", sum := "8e69cd5f1b397999a9caf888d71d4557747e68cd608591525e8247fde50abb22", func := "naskh/naskhlaw15.MarkOne", spec := "markOne", apart := false, narrowed := true }
def MarkOneUptoSaid : Prop := markOneUptoRow.holds Try.pinned (OpenSpec.upto markOneSpec)

/-- 'naskhlaw24.WeakParts', WHERE WHAT IT READS IS OF BULK AT MOST 1048576: true; the input reads as it did. -/
def weakPartsUptoRow : OpenClaim := { program := "ytfkgjoflekemaaa", sum := "8e69cd5f1b397999a9caf888d71d4557747e68cd608591525e8247fde50abb22", func := "naskh/naskhlaw24.WeakParts", spec := "weakParts", unfollowed := true, recurses := true, apart := false, narrowed := true }
def WeakPartsUptoSaid : Prop := weakPartsUptoRow.holds Try.pinned (OpenSpec.upto weakPartsSpec)

/-- 'naskhlaw15.MarkEach', WHERE WHAT IT READS IS OF BULK AT MOST 1048576: true; the input reads as it did. -/
def markEachUptoRow : OpenClaim := { program := "ytfkgjoflekemaaa", sum := "8e69cd5f1b397999a9caf888d71d4557747e68cd608591525e8247fde50abb22", func := "naskh/naskhlaw15.MarkEach", spec := "markEach", apart := false, narrowed := true }
def MarkEachUptoSaid : Prop := markEachUptoRow.holds Try.pinned (OpenSpec.upto markEachSpec)

/-- 'naskhlaw15.MarkAll', WHERE WHAT IT READS IS OF BULK AT MOST 1048576: true; the input reads as it did. -/
def markAllUptoRow : OpenClaim := { program := "ytfkgjoflekemaaa", sum := "8e69cd5f1b397999a9caf888d71d4557747e68cd608591525e8247fde50abb22", func := "naskh/naskhlaw15.MarkAll", spec := "markAll", unfollowed := true, recurses := true, apart := false, narrowed := true }
def MarkAllUptoSaid : Prop := markAllUptoRow.holds Try.pinned (OpenSpec.upto markAllSpec)

/-- 'naskhlaw13.JoinMarks', WHERE WHAT IT READS IS OF BULK AT MOST 1048576: true; the input reads as it did. -/
def joinMarksUptoRow : OpenClaim := { program := "ytfkgjoflekemaaa", sum := "8e69cd5f1b397999a9caf888d71d4557747e68cd608591525e8247fde50abb22", func := "naskh/naskhlaw13.JoinMarks", spec := "joinMarks", inPlace := ["slices.overlaps[int]"], unfollowed := true, recurses := true, apart := false, narrowed := true }
def JoinMarksUptoSaid : Prop := joinMarksUptoRow.holds Try.pinned (OpenSpec.upto joinMarksSpec)

/-- 'naskhlaw48.EmbedJoins', WHERE WHAT IT READS IS OF BULK AT MOST 1048576: true; the input reads as it did. -/
def embedJoinsUptoRow : OpenClaim := { program := "ytfkgjoflekemaaa", sum := "8e69cd5f1b397999a9caf888d71d4557747e68cd608591525e8247fde50abb22", func := "naskh/naskhlaw48.EmbedJoins", spec := "embedJoins", unfollowed := true, recurses := true, apart := false, narrowed := true }
def EmbedJoinsUptoSaid : Prop := embedJoinsUptoRow.holds Try.pinned (OpenSpec.upto embedJoinsSpec)

/-- 'naskhlaw25.BrackFinds', WHERE WHAT IT READS IS OF BULK AT MOST 1048576: true; the input reads as it did. -/
def brackFindsUptoRow : OpenClaim := { program := "ytfkgjoflekemaaa", sum := "8e69cd5f1b397999a9caf888d71d4557747e68cd608591525e8247fde50abb22", func := "naskh/naskhlaw25.BrackFinds", spec := "brackFinds", unfollowed := true, recurses := true, apart := false, narrowed := true }
def BrackFindsUptoSaid : Prop := brackFindsUptoRow.holds Try.pinned (OpenSpec.upto brackFindsSpec)

/-- 'naskhlaw25.BrackApart', WHERE WHAT IT READS IS OF BULK AT MOST 1048576: true; the input reads as it did. -/
def brackApartUptoRow : OpenClaim := { program := "ytfkgjoflekemaaa", sum := "8e69cd5f1b397999a9caf888d71d4557747e68cd608591525e8247fde50abb22", func := "naskh/naskhlaw25.BrackApart", spec := "brackApart", unfollowed := true, recurses := true, apart := false, narrowed := true }
def BrackApartUptoSaid : Prop := brackApartUptoRow.holds Try.pinned (OpenSpec.upto brackApartSpec)

/-- 'naskhlaw25.BrackDeep', WHERE WHAT IT READS IS OF BULK AT MOST 1048576: true; the input reads as it did. -/
def brackDeepUptoRow : OpenClaim := { program := "ytfkgjoflekemaaa", sum := "8e69cd5f1b397999a9caf888d71d4557747e68cd608591525e8247fde50abb22", func := "naskh/naskhlaw25.BrackDeep", spec := "brackDeep", unfollowed := true, recurses := true, apart := false, narrowed := true }
def BrackDeepUptoSaid : Prop := brackDeepUptoRow.holds Try.pinned (OpenSpec.upto brackDeepSpec)

end Rows
end Go.Proofs.Ytfkgjoflekemaaa
