/- Merged of own texts: UFinEv, UFinEv2, UFinEv3. -/
import Derived.Test.YtohhobcipfmkbaaCFinQ
import Derived.Test.YtohhobcipfmkbaaUFinest
import Derived.Test.YtohhobcipfmkbaaUBase
/-! The document's reckoning of the finest map, as the printed functions do it, is the plain law's. -/
namespace Go.Proofs.Ytohhobcipfmkbaa.UFinEv
open Go.RowKit Go.Proofs.YtohhobcipfmkbaaW.PrintWords Go.Proofs.Ytohhobcipfmkbaa.U Go.Proofs.Ytohhobcipfmkbaa.PClusterFinest Go.Proofs.Ytohhobcipfmkbaa.UFinest
set_option linter.unusedVariables false
set_option linter.unusedSimpArgs false
/-- a row holds the numbers of a side -/
def Rep (L : Lab) (lo : Nat) (l : List Int) : Prop := ∀ i, i < l.length → l.getD i 0 = ((L (lo + i) : Nat) : Int)
theorem rep_rd {L : Lab} {lo : Nat} {l : List Int} (h : Rep L lo l) (i : Nat) (hi : i < l.length) : rd l (i : Int) = ((L (lo + i) : Nat) : Int) := by
  rw [rd_nat]; exact h i hi
theorem mn_nat (a b : Nat) : mn (a : Int) (b : Int) = ((min a b : Nat) : Int) := by unfold mn; split <;> omega
/-! ### a turn -/
def lkOf (x : S45) : Lk := ⟨x.f0.f0.toNat, x.f0.f1.toNat, x.f1.f0.toNat, x.f1.f1.toNat⟩
structure NonNeg (x : S45) : Prop where
  a : 0 ≤ x.f0.f0
  b : 0 ≤ x.f0.f1
  c : 0 ≤ x.f1.f0
  d : 0 ≤ x.f1.f1
theorem right_f (a b : Int) (h : 0 ≤ a) : naskhref03_Right.f a b = some (decide (a < b)) := by unfold naskhref03_Right.f; rw [if_pos (by omega)]
theorem rep_out {L : Lab} {lo c d v : Nat} {l : List Int} (h : Rep L lo l) (hd : d ≤ lo ∨ lo + l.length ≤ c) : Rep (setL L c d v) lo l := by
  intro i hi
  rw [h i hi]
  unfold setL
  rw [if_neg (by omega)]
theorem rd45 {l : List S45} {i : Nat} (h : i < l.length) : rd_T45 l (i : Int) = l[i] := by
  unfold rd_T45
  rw [Int.toNat_natCast, List.getD_eq_getElem?_getD, List.getElem?_eq_getElem h]
  rfl
theorem foldl_take {α β : Type} (f : β → α → β) (s : β) (l : List α) (i : Nat) (h : i < l.length) : (l.take (i + 1)).foldl f s = f ((l.take i).foldl f s) l[i] := by
  rw [List.take_succ_eq_append_getElem h, List.foldl_append]; rfl
theorem wholeTo_out (L : Lab) (lo len : Nat) (x : Nat) (hx : x < lo ∨ lo + len ≤ x) (k : Nat) (hk : k ≤ len) : (wholeTo L lo len k).1 x = L x := by
  induction k with
  | zero => rfl
  | succ k ih =>
    have ih' := ih (by omega)
    unfold wholeTo
    dsimp only
    generalize wholeTo L lo len k = q at ih' ⊢
    have hs : (hullL q.1 lo (q.1 (lo + k)) len).2 ≤ len := by
      rcases hullL_is q.1 lo (q.1 (lo + k)) len with ⟨e, _⟩ | ⟨_, g, _⟩
      · rw [e]; exact Nat.zero_le _
      · exact g
    generalize hullL q.1 lo (q.1 (lo + k)) len = s at hs
    unfold setL
    by_cases hc : lo + s.1 ≤ x ∧ x < lo + s.1 + (s.2 - s.1)
    · omega
    · rw [if_neg hc]; exact ih'
end Go.Proofs.Ytohhobcipfmkbaa.UFinEv
/-! The document's tests of links, as the printed functions do them. -/
namespace Go.Proofs.Ytohhobcipfmkbaa.UFinEv
open Go.RowKit Go.Proofs.YtohhobcipfmkbaaW.PrintWords Go.Proofs.Ytohhobcipfmkbaa.U Go.Proofs.Ytohhobcipfmkbaa.PClusterFinest Go.Proofs.Ytohhobcipfmkbaa.UFinest
set_option linter.unusedVariables false
set_option linter.unusedSimpArgs false
def RepB (P : Nat → Bool) (l : List Bool) : Prop := ∀ i, i < l.length → l.getD i false = P i
theorem repB_set {P : Nat → Bool} {l : List Bool} (h : RepB P l) (i : Nat) (hi : i < l.length) : RepB (fun j => P j || decide (j = i)) (l.set i true) := by
  intro j hj
  rw [List.length_set] at hj
  by_cases hji : j = i
  · subst hji
    rw [List.getD_eq_getElem?_getD, List.getElem?_set_self (by omega)]
    simp
  · rw [List.getD_eq_getElem?_getD, List.getElem?_set_ne (Ne.symm hji), ← List.getD_eq_getElem?_getD, h j hj]
    simp [hji]
theorem rdB (l : List Bool) (i : Nat) : rdOf false l (i : Int) = l.getD i false := by
  unfold rdOf
  rw [Int.toNat_natCast]
/-- a link that may be: it lies within the places -/
structure LinkOk (n m : Nat) (x : S45) : Prop where
  a0 : 0 ≤ x.f0.f0
  ab : x.f0.f0 < x.f0.f1
  bn : x.f0.f1 ≤ n
  c0 : 0 ≤ x.f1.f0
  cd : x.f1.f0 < x.f1.f1
  dm : x.f1.f1 ≤ m
theorem LinkOk.nn {n m : Nat} {x : S45} (h : LinkOk n m x) : NonNeg x := by
  have := h.a0; have := h.ab; have := h.c0; have := h.cd
  exact ⟨by omega, by omega, by omega, by omega⟩
theorem linkedB_cons (x : Lk) (l : List Lk) (i : Nat) : linkedB (x :: l) i = ((decide (x.a ≤ i) && decide (i < x.b)) || linkedB l i) := by unfold linkedB; rw [List.any_cons]
/-! ### places ahead of all that are in a link -/
end Go.Proofs.Ytohhobcipfmkbaa.UFinEv
/-! The document's test of what is wrong with links, as the printed functions do it. -/
namespace Go.Proofs.Ytohhobcipfmkbaa.UFinEv
open Go.RowKit Go.Proofs.YtohhobcipfmkbaaW.PrintWords Go.Proofs.Ytohhobcipfmkbaa.U Go.Proofs.Ytohhobcipfmkbaa.PClusterFinest Go.Proofs.Ytohhobcipfmkbaa.UFinest
set_option linter.unusedVariables false
set_option linter.unusedSimpArgs false
def fitB (lo hi n : Int) : Bool := decide (0 ≤ lo) && decide (lo < hi) && decide (hi ≤ n)
def okB (n m : Int) (x : S45) : Bool := fitB x.f0.f0 x.f0.f1 n && fitB x.f1.f0 x.f1.f1 m
def outB (l : List S45) (k : Nat) : Bool := l.any fun x => decide (x.f1.f0 ≤ k) && decide ((k : Int) < x.f1.f1)
/-- what is wrong, when the links lie within the places -/
def wrongIn (n m : Int) (l : List S45) : Int := if m = 0 ∧ n > 0 then 8 else if n = 0 ∧ m > 0 then 13 else if (List.range m.toNat).all (outB l) then 0 else 13
def wrongR (n m : Int) (l : List S45) : Int := if n < 0 ∨ n > 16777216 ∨ m < 0 ∨ m > 16777216 then 1 else if l.all (okB n m) then wrongIn n m l else 1
theorem outB_add (l : List S45) (x : S45) (k : Nat) : outB (l ++ [x]) k = (outB l k || (decide (x.f1.f0 ≤ k) && decide ((k : Int) < x.f1.f1))) := by
  unfold outB
  rw [List.any_append]
  simp
theorem fitB_right {lo hi n : Int} (h : fitB lo hi n = true) : 0 ≤ lo ∧ lo < hi ∧ hi ≤ n := by
  unfold fitB at h
  simp at h
  exact ⟨h.1.1, h.1.2, h.2⟩
theorem right_is (lo hi : Int) : naskhref03_Right.f lo hi = some (decide (0 ≤ lo) && decide (lo < hi)) := by
  unfold naskhref03_Right.f
  split
  · rename_i h; simp [h]
  · rename_i h; simp [h]
end Go.Proofs.Ytohhobcipfmkbaa.UFinEv
