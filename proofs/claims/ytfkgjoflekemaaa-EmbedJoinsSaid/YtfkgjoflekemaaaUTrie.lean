/- Plain: a table of ranges in blocks of 128: what each block holds, and that each code's value is that of the first range that has it. -/
import Derived.Test.YtfkgjoflekemaaaPEmbedJoinsx0
import Derived.Test.YtfkgjoflekemaaaUBase
namespace Go.Proofs.Ytfkgjoflekemaaa.UTrie
open Go.RowKit Go.Proofs.YtfkgjoflekemaaaW.PrintWords Go.Proofs.Ytfkgjoflekemaaa.U Go.Proofs.Ytfkgjoflekemaaa.PEmbedJoins
/-- a code is in a range -/
def inR (c : Int) (r : S127) : Bool := decide (r.f0 ≤ c) && decide (c ≤ r.f1)
def getR (l : List S127) (n c : Int) : Int := match l.find? (inR c) with | some r => r.f2 | none => n
structure Ok (l : List S127) : Prop where
  apart : l.Pairwise (fun a b => a.f1 < b.f0)
  right : ∀ r ∈ l, 0 ≤ r.f0 ∧ r.f0 ≤ r.f1 ∧ r.f1 ≤ 1114111
theorem inR_iff (c : Int) (r : S127) : inR c r = true ↔ r.f0 ≤ c ∧ c ≤ r.f1 := by simp [inR]
theorem getR_none (l : List S127) (n c : Int) (h : ∀ r ∈ l, ¬ (r.f0 ≤ c ∧ c ≤ r.f1)) : getR l n c = n := by
  unfold getR
  rw [List.find?_eq_none.2 (fun r hr => by rw [inR_iff]; exact h r hr)]
theorem getR_append (a b : List S127) (n c : Int) : getR (a ++ b) n c = if (a.find? (inR c)).isSome then getR a n c else getR b n c := by
  unfold getR
  rw [List.find?_append]
  cases h : a.find? (inR c) with
  | none => simp
  | some r => simp
/-- one range more -/
theorem getR_take (l : List S127) (ok : Ok l) (n c : Int) (k : Nat) (hk : k < l.length) : getR (l.take (k + 1)) n c = if l[k].f0 ≤ c ∧ c ≤ l[k].f1 then l[k].f2 else getR (l.take k) n c := by
  rw [List.take_succ_eq_append_getElem hk, getR_append]
  by_cases h : l[k].f0 ≤ c ∧ c ≤ l[k].f1
  · rw [if_pos h]
    have hn : (l.take k).find? (inR c) = none := List.find?_eq_none.2 (fun r hr => by
      rw [inR_iff]
      obtain ⟨i, hi, rfl⟩ := List.mem_iff_getElem.1 hr
      rw [List.length_take] at hi
      rw [List.getElem_take]
      have := List.pairwise_iff_getElem.1 ok.apart i k (by omega) hk (by omega)
      omega)
    rw [hn]
    unfold getR
    rw [List.find?_cons, (inR_iff c l[k]).2 h]
    rfl
  · rw [if_neg h]
    have h1 : getR [l[k]] n c = n := getR_none _ _ _ (fun r hr => by rw [List.mem_singleton.1 hr]; exact h)
    rw [h1]
    cases hf : (l.take k).find? (inR c) with
    | none => unfold getR; rw [hf]; rfl
    | some r => rfl
/-- ranges that begin behind a code do not matter -/
theorem getR_behind (l : List S127) (n c : Int) (k : Nat) (h : ∀ (i : Nat) (hi : i < l.length), k ≤ i → c < l[i].f0) : getR l n c = getR (l.take k) n c := by
  have e : l = l.take k ++ l.drop k := (List.take_append_drop k l).symm
  have h2 : getR (l.drop k) n c = n := getR_none _ _ _ (fun r hr => by
    obtain ⟨i, hi, rfl⟩ := List.mem_iff_getElem.1 hr
    rw [List.length_drop] at hi
    rw [List.getElem_drop]
    have := h (k + i) (by omega) (by omega)
    omega)
  have h3 : getR l n c = getR (l.take k ++ l.drop k) n c := by rw [List.take_append_drop]
  rw [h3, getR_append, h2]
  cases hf : (l.take k).find? (inR c) with
  | none => unfold getR; rw [hf]; rfl
  | some r => rfl
/-- ranges that end ahead of a code do not matter -/
theorem getR_ahead (l : List S127) (n c : Int) (k : Nat) (h : ∀ (i : Nat) (hi : i < l.length), i < k → l[i].f1 < c) : getR (l.take k) n c = n := getR_none _ _ _ (fun r hr => by
  obtain ⟨i, hi, rfl⟩ := List.mem_iff_getElem.1 hr
  rw [List.length_take] at hi
  rw [List.getElem_take]
  have := h i (by omega) (by omega)
  omega)
/-- the block of a part -/
def blockL (l : List S127) (n : Int) (p : Nat) : List Int := (List.range 128).map fun j => getR l n ((128 * p + j : Nat) : Int)
/-- the block of a part when ranges below k are in, and of number k the codes below c -/
def partL (l : List S127) (n : Int) (p k : Nat) : List Int := (List.range 128).map fun j => getR (l.take k) n ((128 * p + j : Nat) : Int)
def withL (l : List S127) (n : Int) (p k : Nat) (r : S127) (c : Int) : List Int := (List.range 128).map fun j => if r.f0 ≤ ((128 * p + j : Nat) : Int) ∧ ((128 * p + j : Nat) : Int) < c then r.f2 else getR (l.take k) n ((128 * p + j : Nat) : Int)
theorem blockL_length (l : List S127) (n : Int) (p : Nat) : (blockL l n p).length = 128 := by simp [blockL]
theorem partL_length (l : List S127) (n : Int) (p k : Nat) : (partL l n p k).length = 128 := by simp [partL]
theorem withL_length (l : List S127) (n : Int) (p k : Nat) (r : S127) (c : Int) : (withL l n p k r c).length = 128 := by simp [withL]
theorem partL_start (l : List S127) (n : Int) (p k : Nat) (h : ∀ (i : Nat) (hi : i < l.length), i < k → l[i].f1 < 128 * (p : Int)) : partL l n p k = List.replicate 128 n := by
  unfold partL
  apply List.ext_getElem
  · simp
  · intro j h1 h2
    rw [List.getElem_map, List.getElem_range, List.getElem_replicate]
    exact getR_ahead l n _ k (fun i hi hk => by have := h i hi hk; omega)
/-- ahead of the first code of number k nothing is changed -/
theorem withL_start (l : List S127) (n : Int) (p k : Nat) (r : S127) (c : Int) (h : c ≤ r.f0 ∨ c ≤ 128 * (p : Int)) : withL l n p k r c = partL l n p k := by
  unfold withL partL
  apply List.map_congr_left
  intro j _
  rw [if_neg (by omega)]
theorem withL_succ (l : List S127) (n : Int) (p k : Nat) (r : S127) (c : Int) (h1 : r.f0 ≤ c) (h2 : 128 * (p : Int) ≤ c) (h3 : c < 128 * (p : Int) + 128) : (withL l n p k r c).set (c - 128 * (p : Int)).toNat r.f2 = withL l n p k r (c + 1) := by
  apply List.ext_getElem
  · simp [withL]
  · intro j g1 g2
    rw [List.getElem_set]
    by_cases e : (c - 128 * (p : Int)).toNat = j
    · rw [if_pos e]
      simp only [withL, List.getElem_map, List.getElem_range]
      rw [if_pos (by omega)]
    · rw [if_neg e]
      simp only [withL, List.getElem_map, List.getElem_range]
      by_cases h : r.f0 ≤ ((128 * p + j : Nat) : Int) ∧ ((128 * p + j : Nat) : Int) < c
      · rw [if_pos h, if_pos (by omega)]
      · rw [if_neg h, if_neg (by omega)]
theorem withL_end (l : List S127) (ok : Ok l) (n : Int) (p k : Nat) (hk : k < l.length) (c : Int) (h : l[k].f1 < c ∨ 128 * (p : Int) + 128 ≤ c) (h2 : c ≤ l[k].f1 + 1 ∨ c ≤ 128 * (p : Int)) : withL l n p k l[k] c = partL l n p (k + 1) := by
  unfold withL partL
  apply List.map_congr_left
  intro j hj
  have hj := List.mem_range.1 hj
  rw [getR_take l ok n _ k hk]
  by_cases g : l[k].f0 ≤ ((128 * p + j : Nat) : Int) ∧ ((128 * p + j : Nat) : Int) < c
  · rw [if_pos g, if_pos (by omega)]
  · rw [if_neg g, if_neg (by omega)]
theorem partL_end (l : List S127) (n : Int) (p k : Nat) (h : ∀ (i : Nat) (hi : i < l.length), k ≤ i → 128 * (p : Int) + 128 ≤ l[i].f0) : partL l n p k = blockL l n p := by
  unfold partL blockL
  apply List.map_congr_left
  intro j hj
  have hj := List.mem_range.1 hj
  exact (getR_behind l n _ k (fun i hi hk => by have := h i hi hk; omega)).symm
/-- ranges behind one begin behind it -/
theorem lo_from (l : List S127) (ok : Ok l) (k i : Nat) (hk : k < l.length) (hi : i < l.length) (h : k ≤ i) : l[k].f0 ≤ l[i].f0 := by
  by_cases e : k = i
  · subst e; exact Int.le_refl _
  · have h1 := List.pairwise_iff_getElem.1 ok.apart k i hk hi (by omega)
    have h2 := ok.right _ (List.getElem_mem hk)
    omega
theorem lo_behind (l : List S127) (ok : Ok l) (k i : Nat) (hk : k < l.length) (hi : i < l.length) (h : k < i) : l[k].f1 < l[i].f0 := List.pairwise_iff_getElem.1 ok.apart k i hk hi h
theorem blockL_get (l : List S127) (n : Int) (c : Nat) : (blockL l n (c / 128)).getD (c % 128) 0 = getR l n (c : Int) := by
  unfold blockL
  rw [List.getD_eq_getElem?_getD, List.getElem?_map, List.getElem?_range (by omega)]
  simp only [Option.map_some, Option.getD_some]
  congr 1
  omega
theorem round_facts (l : List S127) (ok : Ok l) (n : Int) (p k : Nat) (hk : k < l.length) : ∃ F : Int → List Int, (∀ c, c ≤ l[k].f0 ∨ c ≤ (p : Int) * 128 → F c = partL l n p k) ∧ (∀ c, l[k].f0 ≤ c → (p : Int) * 128 ≤ c → c < (p : Int) * 128 + 128 → (F c).set (c - (p : Int) * 128).toNat l[k].f2 = F (c + 1)) ∧ (∀ c, (l[k].f1 < c ∨ (p : Int) * 128 + 128 ≤ c) → (c ≤ l[k].f1 + 1 ∨ c ≤ (p : Int) * 128) → F c = partL l n p (k + 1)) ∧ (∀ c, (F c).length = 128) :=
  ⟨fun c => withL l n p k l[k] c, fun c h => withL_start l n p k l[k] c (by omega), fun c h1 h2 h3 => by have := withL_succ l n p k l[k] c h1 (by omega) (by omega); rwa [Int.mul_comm] at this, fun c h1 h2 => withL_end l ok n p k hk c (by omega) (by omega), fun c => withL_length l n p k l[k] c⟩
/-- a table: each part's block is one of the blocks -/
structure Tab (l : List S127) (n : Int) (first : List Int) (second : List (List Int)) (p : Nat) : Prop where
  len : first.length = 8704
  small : second.length ≤ p
  each : ∀ q : Nat, q < p → ∃ i : Nat, i < second.length ∧ first.getD q 0 = i ∧ second.getD i [] = blockL l n q
end Go.Proofs.Ytfkgjoflekemaaa.UTrie
