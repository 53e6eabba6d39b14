/- Rows of whole numbers and of truths; clusters of labels. -/
import Derived.Test.YtohhobcipfmkbaaUFinDoc
import Derived.Laws.CopyOwn
import Derived.BigQuiet
namespace Go.Proofs.Ytohhobcipfmkbaa.CFin
open Go.RowKit Go.Proofs.YtohhobcipfmkbaaW.PrintWords Go.Proofs.YtohhobcipfmkbaaW.PrintMore Go.Proofs.YtohhobcipfmkbaaW.PrintLast Go.Proofs.Ytohhobcipfmkbaa.U Go.Proofs.Ytohhobcipfmkbaa.PClusterFinest Go.Proofs.Ytohhobcipfmkbaa.UFinest Go.Proofs.Ytohhobcipfmkbaa.UFinEv
set_option linter.unusedVariables false
set_option linter.unusedSimpArgs false
theorem ev_some {α : Type} {f : Nat → Option α} {r : α} (h : Ev f r) : ∃ k, f k = some r := by
  obtain ⟨k, h⟩ := h
  exact ⟨k, h k (Nat.le_refl _)⟩
end Go.Proofs.Ytohhobcipfmkbaa.CFin

namespace Go.Proofs.Ytohhobcipfmkbaa.CFin
open Go.RowKit Go.Proofs.YtohhobcipfmkbaaW.PrintWords Go.Proofs.YtohhobcipfmkbaaW.PrintMore Go.Proofs.YtohhobcipfmkbaaW.PrintLast Go.Proofs.Ytohhobcipfmkbaa.U Go.Proofs.Ytohhobcipfmkbaa.PClusterFinest Go.Proofs.Ytohhobcipfmkbaa.UFinest Go.Proofs.Ytohhobcipfmkbaa.UFinEv
set_option linter.unusedVariables false
set_option linter.unusedSimpArgs false
theorem cell_al {w : World} {p : Addr} {v : Value} (h : w.cell? p = some v) (o : Obj) : (w.alloc o).cell? p = some v := ((below_alloc (Below.refl _ _) o).cell (World.block_lt_of_cell? _ _ h)).trans h
/-- a slice of whole numbers that owns its block -/
def LI (w : World) (base g n cap : Nat) (xs : List Int) : Prop := Kd.R (Kd.int .i64) 3 w base (fun k => k = g) (.slice (some ⟨g, 0, none⟩) n cap) xs
theorem LI.len {w : World} {base g n cap : Nat} {xs : List Int} (h : LI w base g n cap xs) : n = xs.length := (Kd.R_reads' h).1
theorem LI.lt {w : World} {base g n cap : Nat} {xs : List Int} (h : LI w base g n cap xs) : base ≤ g := by
  obtain ⟨_, _, ho, _⟩ := h
  rcases ho.2 with ⟨e, _⟩ | ⟨g', _, _, e, hb, _⟩
  · cases e
  · injection e with e1 e2 e3; injection e1 with e1; injection e1 with e1 e4; rw [e1]; exact hb
theorem LI.ltw {w : World} {base g n cap : Nat} {xs : List Int} (h : LI w base g n cap xs) : g < w.heap.size := by
  obtain ⟨_, _, h2, _⟩ := (Kd.R_bound h).1 g rfl
  exact h2
theorem LI.below {w w' : World} {base g n cap : Nat} {xs : List Int} (h : LI w base g n cap xs) (hb : Below w.heap.size w w') : LI w' base g n cap xs := Kd.R_below h hb
theorem LI.of_R {w : World} {base n cap g : Nat} {ok : Nat → Prop} {xs : List Int} (h : Kd.R (Kd.int .i64) 3 w base ok (.slice (some ⟨g, 0, none⟩) n cap) xs) : LI w base g n cap xs := by
  obtain ⟨_, inner, ho, hr⟩ := h
  refine ⟨fun k hk => by simpa [Value.ownBlock] using hk.symm, inner, ho, hr.imp_ (fun _ _ hp => hp)⟩
theorem LI.slk {w : World} {base g n cap : Nat} {xs : List Int} (h : LI w base g n cap xs) : SLk (Kd.int .i64) w (.slice (some ⟨g, 0, none⟩) n cap) xs := SLk.of_R h
theorem LI.put {w : World} {base g n cap : Nat} {xs : List Int} (h : LI w base g n cap xs) (i : Nat) (x : Int) : LI (w.setCell ⟨g, i, none⟩ (.int .i64 x)) base g n cap (xs.set i x) := by
  have := (Kd.R_putg h (i : Int) x).1
  rwa [Int.toNat_natCast] at this
theorem LI.other {w : World} {base g n cap : Nat} {xs : List Int} (h : LI w base g n cap xs) {g' : Nat} (hg : g ≠ g') (i : Nat) (v : Value) : LI (w.setCell ⟨g', i, none⟩ v) base g n cap xs :=
  Kd.R_grown h (grown_set w g' i v) (fun k hk e => hg (by rw [← hk]; exact Option.some.inj e))
theorem LI.cell {w : World} {base g n cap : Nat} {xs : List Int} (h : LI w base g n cap xs) (i : Nat) (hi : i < n) : w.cell? ⟨g, i, none⟩ = some (.int .i64 (xs.getD i 0)) ∧ w.frozen? ⟨g, i, none⟩ = false := by
  have := Kd.R_celln (0 : Int) h (i : Int) (by omega) (by omega)
  rw [Int.toNat_natCast] at this
  refine ⟨this.1.trans ?_, this.2⟩
  unfold rdOf
  rw [Int.toNat_natCast]
/-- up to k, the list tells base, base + 1 and so on -/
def Upto (b k : Nat) (xs : List Int) : Prop := ∀ i, i < k → xs.getD i 0 = ((b + i : Nat) : Int)
theorem Upto.set {b k : Nat} {xs : List Int} (h : Upto b k xs) (hk : k < xs.length) : Upto b (k + 1) (xs.set k ((b + k : Nat) : Int)) := by
  intro i hi
  by_cases e : i = k
  · subst e
    rw [List.getD_eq_getElem?_getD, List.getElem?_set_self hk]
    rfl
  · rw [List.getD_eq_getElem?_getD, List.getElem?_set_ne (fun h => e h.symm), ← List.getD_eq_getElem?_getD]
    exact h i (by omega)
theorem Upto.rep {b : Nat} {xs : List Int} (h : Upto b xs.length xs) : Rep idL b xs := fun i hi => h i hi
/-- a slice of Bools that owns its block -/
def LB (w : World) (base g n cap : Nat) (xs : List Bool) : Prop := Kd.R Kd.bool 4 w base (fun k => k = g) (.slice (some ⟨g, 0, none⟩) n cap) xs
theorem LB.below {w w' : World} {base g n cap : Nat} {xs : List Bool} (h : LB w base g n cap xs) (hb : Below w.heap.size w w') : LB w' base g n cap xs := Kd.R_below h hb
theorem LB.of_R {w : World} {base n cap g : Nat} {ok : Nat → Prop} {xs : List Bool} (h : Kd.R Kd.bool 4 w base ok (.slice (some ⟨g, 0, none⟩) n cap) xs) : LB w base g n cap xs := by
  obtain ⟨_, inner, ho, hr⟩ := h
  refine ⟨fun k hk => by simpa [Value.ownBlock] using hk.symm, inner, ho, hr.imp_ (fun _ _ hp => hp)⟩
theorem LB.ltw {w : World} {base g n cap : Nat} {xs : List Bool} (h : LB w base g n cap xs) : g < w.heap.size := by
  obtain ⟨_, _, h2, _⟩ := (Kd.R_bound h).1 g rfl
  exact h2
theorem LB.cell {w : World} {base g n cap : Nat} {xs : List Bool} (h : LB w base g n cap xs) (i : Nat) (hi : i < n) : w.cell? ⟨g, i, none⟩ = some (.bool (xs.getD i false)) := by
  have := (Kd.R_celln false h (i : Int) (by omega) (by omega)).1
  rw [Int.toNat_natCast] at this
  refine this.trans ?_
  unfold rdOf
  rw [Int.toNat_natCast]
/-- the links of a place and the one ahead of it -/
def stray1 (i : Nat) : S45 := ⟨⟨(i : Int) - 1, (i : Int) + 1⟩, ⟨0, 0⟩⟩
theorem stray1_lk {i : Nat} (h : 1 ≤ i) : lkOf (stray1 i) = ⟨i - 1, i + 1, 0, 0⟩ := by
  unfold lkOf stray1
  dsimp only
  rw [show ((i : Int) - 1).toNat = i - 1 by omega, show ((i : Int) + 1).toNat = i + 1 by omega]
  rfl
theorem stray1_nn {i : Nat} (h : 1 ≤ i) : NonNeg (stray1 i) := ⟨by show 0 ≤ (i : Int) - 1; omega, by show 0 ≤ (i : Int) + 1; omega, Int.le_refl 0, Int.le_refl 0⟩
abbrev AL (w : World) (base g1 g2 gh : Nat) (v : Value) (al : List S45) : Prop := Kd.R k45 45 w base (fun k => (k ≠ g1 ∧ k ≠ g2) ∧ k ≠ gh) v al
/-- the link that joins the places ahead -/
def aheadS (L : List Lk) (n : Nat) : List S45 := if 0 < firstF L n ∧ firstF L n < n then [⟨⟨0, (firstF L n : Int) + 1⟩, ⟨0, 0⟩⟩] else []
theorem aheadS_lk (L : List Lk) (n : Nat) : (aheadS L n).map lkOf = aheadL L n := by
  unfold aheadS aheadL
  split
  · rw [List.map_cons, List.map_nil]
    unfold lkOf
    dsimp only
    rw [show ((firstF L n : Int) + 1).toNat = firstF L n + 1 by omega]
    rfl
  · rfl
theorem aheadS_nn (L : List Lk) (n : Nat) : ∀ x ∈ aheadS L n, NonNeg x := by
  intro x hx
  unfold aheadS at hx
  split at hx
  · rw [List.mem_singleton.1 hx]
    exact ⟨Int.le_refl 0, by show 0 ≤ (firstF L n : Int) + 1; omega, Int.le_refl 0, Int.le_refl 0⟩
  · cases hx
theorem aheadS_len (L : List Lk) (n : Nat) : (aheadS L n).length ≤ 1 := by
  unfold aheadS
  split <;> simp
theorem linkOk_in {n m : Nat} {x : S45} (h : LinkOk n m x) : LkIn n m (lkOf x) := by
  have := h.a0; have := h.ab; have := h.bn; have := h.c0; have := h.cd; have := h.dm
  unfold lkOf
  exact ⟨by dsimp only; omega, by dsimp only; omega, fun _ => by dsimp only; omega⟩
theorem linkOk_out {n m : Nat} {x : S45} (h : LinkOk n m x) : (lkOf x).c < (lkOf x).d := by
  have := h.c0; have := h.cd
  unfold lkOf
  dsimp only
  omega
def toS (x : Clu) : S45 := ⟨⟨(x.1.1 : Nat), (x.1.2 : Nat)⟩, ⟨(x.2.1 : Nat), (x.2.2 : Nat)⟩⟩
/-- the clusters of labels, of the places below k -/
def cluS (n m : Nat) (L : Lab) (k : Nat) : List S45 := (cluTo n m L k).map toS
theorem cluS_zero (n m : Nat) (L : Lab) : cluS n m L 0 = [] := rfl
theorem cluS_yes {n m : Nat} {L : Lab} {k : Nat} (h : k = 0 ∨ L k ≠ L (k - 1)) : cluS n m L (k + 1) = cluS n m L k ++ [toS (hullL L 0 (L k) n, hullL L n (L k) m)] := by
  unfold cluS
  rw [cluTo_add, if_pos h, List.map_append]
  rfl
theorem cluS_no {n m : Nat} {L : Lab} {k : Nat} (h : ¬ (k = 0 ∨ L k ≠ L (k - 1))) : cluS n m L (k + 1) = cluS n m L k := by
  unfold cluS
  rw [cluTo_add, if_neg h, List.append_nil]
theorem cluS_len (n m : Nat) (L : Lab) (k : Nat) : (cluS n m L k).length ≤ k := by
  induction k with
  | zero => exact Nat.le_refl _
  | succ k ih =>
    by_cases h : k = 0 ∨ L k ≠ L (k - 1)
    · rw [cluS_yes h, List.length_append]; simp; exact ih
    · rw [cluS_no h]; omega
end Go.Proofs.Ytohhobcipfmkbaa.CFin

