/- A map from whole numbers to whole numbers, read as a Lean function. -/
import Derived.Test.YtohhobcipfmkbaaCFin8
import Derived.Maps.Own
import Derived.Maps.Views
namespace Go.Proofs.Ytohhobcipfmkbaa.CFin
open Go.RowKit Go.Maps Go.Proofs.YtohhobcipfmkbaaW.PrintWords Go.Proofs.YtohhobcipfmkbaaW.PrintMore Go.Proofs.YtohhobcipfmkbaaW.PrintLast Go.Proofs.Ytohhobcipfmkbaa.U Go.Proofs.Ytohhobcipfmkbaa.PClusterFinest Go.Proofs.Ytohhobcipfmkbaa.UFinest Go.Proofs.Ytohhobcipfmkbaa.UFinEv
set_option linter.unusedVariables false
set_option linter.unusedSimpArgs false
theorem keyed3 : Keyed Try.prog 3 := int_keyed Try.underlying3
/-- block b is a map of at most n entries that tells f -/
def MV (w : World) (b n : Nat) (f : Nat → Nat) : Prop := ∃ D : DataW Unit, IsMap D ∧ w.ownsMap Try.prog 3 (plainElem Try.prog 3) b n D ∧ ∀ v : Nat, D.atKey (.int .i64 v) (.lit (.int .i64 0)) = .lit (.int .i64 (f v : Nat))
theorem MV.made (w : World) : MV (w.alloc (.map #[] 0)) w.heap.size 0 (fun _ => 0) := ⟨.map [], isMap_empty, World.ownsMap_made w _ _ _, fun v => rfl⟩
theorem MV.kept {w w' : World} {b n : Nat} {f : Nat → Nat} (h : MV w b n f) {row : Option Nat} (hg : w.grownBy w' row) (hne : some b ≠ row) : MV w' b n f := by
  obtain ⟨D, h1, h2, h3⟩ := h
  exact ⟨D, h1, h2.kept hg hne, h3⟩
theorem MV.lt {w : World} {b n : Nat} {f : Nat → Nat} (h : MV w b n f) : b < w.heap.size := by
  obtain ⟨D, h1, h2, h3⟩ := h
  exact h2.lt
theorem key3 (v : Nat) (hv : v ≤ 1000000) : keyOf Try.prog 3 (.int .i64 v) = some (.int .i64 v) := by
  simp [keyOf, mapKey, Try.underlying3, Lit.wf]
  have : IntKind.i64.min = -9223372036854775808 := by decide
  omega
set_option maxRecDepth 100000 in
theorem MV.lookup {w : World} {b n : Nat} {f : Nat → Nat} (h : MV w b n f) (v : Nat) (hv : v ≤ 1000000) (hz : (zeroValue 3).run Try.prog w = .ok (.int .i64 0) w) : (Instr.lookup 112 (.map (some b)) (.int .i64 v) false).run Try.prog w = .ok (.int .i64 (f v : Nat)) w := by
  obtain ⟨D, h1, h2, h3⟩ := h
  obtain ⟨c, hr, hc, _⟩ := h2.lookup_int keyed3 Try.underlying112 Try.underlying3 hz (key3 v hv)
  rw [h3 v] at hc
  injection hc with hc
  injection hc with _ hc
  rw [hc]
  exact hr
/-- what the map tells behind a write -/
theorem MV.put {w w' : World} {b n v i : Nat} {f : Nat → Nat} {D : DataW Unit} (h1 : IsMap D) (h3 : ∀ v : Nat, D.atKey (.int .i64 v) (.lit (.int .i64 0)) = .lit (.int .i64 (f v : Nat))) (hv : v ≤ 1000000) (h2 : w'.ownsMap Try.prog 3 (plainElem Try.prog 3) b (n + 1) (D.put (.int .i64 v) (.lit (.int .i64 i)))) : MV w' b (n + 1) (fun x => if x = v then i else f x) := by
  refine ⟨_, h1.put _ _, h2, fun x => ?_⟩
  by_cases e : x = v
  · subst e
    rw [atKey_put_same h1 (keyed3.key (key3 x hv))]
    dsimp only
    rw [if_pos rfl]
  · rw [atKey_put_other (fun h => e (by injection h with _ h; omega))]
    dsimp only
    rw [if_neg e]
    exact h3 x
theorem elem3 (i : Nat) (hi : i ≤ 1000000) : (plainElem Try.prog 3 (.int .i64 i) : Option (DataW Unit × List MemPlace)) = some (.lit (.int .i64 i), []) := plainElem_int Try.underlying3 (by
  simp [Lit.wf]
  have : IntKind.i64.min = -9223372036854775808 := by decide
  omega)
theorem zero3 (w : World) : (zeroValue 3).run Try.prog w = .ok (.int .i64 0) w := by
  obtain ⟨i, hi, hz⟩ := Option.map_eq_some_iff.1 info3
  simp only [Prod.mk.injEq] at hz
  simp [zeroValue, typeInfo, hi, hz.1]
end Go.Proofs.Ytohhobcipfmkbaa.CFin
