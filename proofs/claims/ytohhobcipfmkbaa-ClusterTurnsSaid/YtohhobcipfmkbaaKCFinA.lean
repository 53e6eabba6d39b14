/- Texts of this claim, cut to what it needs. -/
import Derived.Test.YtohhobcipfmkbaaKUFinDoc
import Derived.Laws.CopyOwn
import Derived.BigQuiet
namespace Go.Proofs.Ytohhobcipfmkbaa.CFin
open Go.RowKit Go.Proofs.YtohhobcipfmkbaaW.PrintWords Go.Proofs.YtohhobcipfmkbaaW.PrintMore Go.Proofs.YtohhobcipfmkbaaW.PrintLast Go.Proofs.Ytohhobcipfmkbaa.U Go.Proofs.Ytohhobcipfmkbaa.PClusterFinest Go.Proofs.Ytohhobcipfmkbaa.UFinest Go.Proofs.Ytohhobcipfmkbaa.UFinEv
set_option linter.unusedVariables false
set_option linter.unusedSimpArgs false
theorem ev_some {α : Type} {f : Nat → Option α} {r : α} (h : Ev f r) : ∃ k, f k = some r := by
  obtain ⟨k, h⟩ := h
  exact ⟨k, h k (Nat.le_refl _)⟩
end Go.Proofs.Ytohhobcipfmkbaa.CFin

namespace Go.Proofs.Ytohhobcipfmkbaa.CFin
open Go.RowKit Go.Proofs.YtohhobcipfmkbaaW.PrintWords Go.Proofs.YtohhobcipfmkbaaW.PrintMore Go.Proofs.YtohhobcipfmkbaaW.PrintLast Go.Proofs.Ytohhobcipfmkbaa.U Go.Proofs.Ytohhobcipfmkbaa.PClusterFinest Go.Proofs.Ytohhobcipfmkbaa.UFinest Go.Proofs.Ytohhobcipfmkbaa.UFinEv
set_option linter.unusedVariables false
set_option linter.unusedSimpArgs false
def LI (w : World) (base g n cap : Nat) (xs : List Int) : Prop := Kd.R (Kd.int .i64) 3 w base (fun k => k = g) (.slice (some ⟨g, 0, none⟩) n cap) xs
theorem LI.len {w : World} {base g n cap : Nat} {xs : List Int} (h : LI w base g n cap xs) : n = xs.length := (Kd.R_reads' h).1
theorem LI.lt {w : World} {base g n cap : Nat} {xs : List Int} (h : LI w base g n cap xs) : base ≤ g := by
  obtain ⟨_, _, ho, _⟩ := h
  rcases ho.2 with ⟨e, _⟩ | ⟨g', _, _, e, hb, _⟩
  · cases e
  · injection e with e1 e2 e3; injection e1 with e1; injection e1 with e1 e4; rw [e1]; exact hb
theorem LI.ltw {w : World} {base g n cap : Nat} {xs : List Int} (h : LI w base g n cap xs) : g < w.heap.size := by
  obtain ⟨_, _, h2, _⟩ := (Kd.R_bound h).1 g rfl
  exact h2
theorem LI.below {w w' : World} {base g n cap : Nat} {xs : List Int} (h : LI w base g n cap xs) (hb : Below w.heap.size w w') : LI w' base g n cap xs := Kd.R_below h hb
theorem LI.of_R {w : World} {base n cap g : Nat} {ok : Nat → Prop} {xs : List Int} (h : Kd.R (Kd.int .i64) 3 w base ok (.slice (some ⟨g, 0, none⟩) n cap) xs) : LI w base g n cap xs := by
  obtain ⟨_, inner, ho, hr⟩ := h
  refine ⟨fun k hk => by simpa [Value.ownBlock] using hk.symm, inner, ho, hr.imp_ (fun _ _ hp => hp)⟩
theorem LI.put {w : World} {base g n cap : Nat} {xs : List Int} (h : LI w base g n cap xs) (i : Nat) (x : Int) : LI (w.setCell ⟨g, i, none⟩ (.int .i64 x)) base g n cap (xs.set i x) := by
  have := (Kd.R_putg h (i : Int) x).1
  rwa [Int.toNat_natCast] at this
theorem LI.other {w : World} {base g n cap : Nat} {xs : List Int} (h : LI w base g n cap xs) {g' : Nat} (hg : g ≠ g') (i : Nat) (v : Value) : LI (w.setCell ⟨g', i, none⟩ v) base g n cap xs :=
  Kd.R_grown h (grown_set w g' i v) (fun k hk e => hg (by rw [← hk]; exact Option.some.inj e))
theorem LI.cell {w : World} {base g n cap : Nat} {xs : List Int} (h : LI w base g n cap xs) (i : Nat) (hi : i < n) : w.cell? ⟨g, i, none⟩ = some (.int .i64 (xs.getD i 0)) ∧ w.frozen? ⟨g, i, none⟩ = false := by
  have := Kd.R_celln (0 : Int) h (i : Int) (by omega) (by omega)
  rw [Int.toNat_natCast] at this
  refine ⟨this.1.trans ?_, this.2⟩
  unfold rdOf
  rw [Int.toNat_natCast]
def Upto (b k : Nat) (xs : List Int) : Prop := ∀ i, i < k → xs.getD i 0 = ((b + i : Nat) : Int)
theorem Upto.set {b k : Nat} {xs : List Int} (h : Upto b k xs) (hk : k < xs.length) : Upto b (k + 1) (xs.set k ((b + k : Nat) : Int)) := by
  intro i hi
  by_cases e : i = k
  · subst e
    rw [List.getD_eq_getElem?_getD, List.getElem?_set_self hk]
    rfl
  · rw [List.getD_eq_getElem?_getD, List.getElem?_set_ne (fun h => e h.symm), ← List.getD_eq_getElem?_getD]
    exact h i (by omega)
def LB (w : World) (base g n cap : Nat) (xs : List Bool) : Prop := Kd.R Kd.bool 4 w base (fun k => k = g) (.slice (some ⟨g, 0, none⟩) n cap) xs
theorem LB.below {w w' : World} {base g n cap : Nat} {xs : List Bool} (h : LB w base g n cap xs) (hb : Below w.heap.size w w') : LB w' base g n cap xs := Kd.R_below h hb
theorem LB.of_R {w : World} {base n cap g : Nat} {ok : Nat → Prop} {xs : List Bool} (h : Kd.R Kd.bool 4 w base ok (.slice (some ⟨g, 0, none⟩) n cap) xs) : LB w base g n cap xs := by
  obtain ⟨_, inner, ho, hr⟩ := h
  refine ⟨fun k hk => by simpa [Value.ownBlock] using hk.symm, inner, ho, hr.imp_ (fun _ _ hp => hp)⟩
theorem LB.ltw {w : World} {base g n cap : Nat} {xs : List Bool} (h : LB w base g n cap xs) : g < w.heap.size := by
  obtain ⟨_, _, h2, _⟩ := (Kd.R_bound h).1 g rfl
  exact h2
theorem LB.cell {w : World} {base g n cap : Nat} {xs : List Bool} (h : LB w base g n cap xs) (i : Nat) (hi : i < n) : w.cell? ⟨g, i, none⟩ = some (.bool (xs.getD i false)) := by
  have := (Kd.R_celln false h (i : Int) (by omega) (by omega)).1
  rw [Int.toNat_natCast] at this
  refine this.trans ?_
  unfold rdOf
  rw [Int.toNat_natCast]
def toS (x : Clu) : S45 := ⟨⟨(x.1.1 : Nat), (x.1.2 : Nat)⟩, ⟨(x.2.1 : Nat), (x.2.2 : Nat)⟩⟩
def cluS (n m : Nat) (L : Lab) (k : Nat) : List S45 := (cluTo n m L k).map toS
end Go.Proofs.Ytohhobcipfmkbaa.CFin
