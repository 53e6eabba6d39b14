/- Words of this session's own for walks: a row of slices of the call's own, whose elements read as lists. -/
import Derived.Test.YtfkgjoflekemaaaUKit
namespace Go.Proofs.Ytfkgjoflekemaaa.U
open Go.RowKit Go.Proofs.YtfkgjoflekemaaaW.PrintWords
set_option linter.unusedVariables false

/-- A slice's header. -/
abbrev Hd := Option Addr × Nat × Nat
def encH (h : Hd) : Value := .slice h.1 h.2.1 h.2.2
def KH : Kd Hd := Kd.scalar encH (fun _ => rfl)
/-- A row of slices of the call's own (elements of type e), that read as lists. -/
def RS (e : TypeId) (w : World) (base : Nat) (v : Value) (xss : List (List Int)) : Prop :=
  ∃ hs : List Hd, Kd.R KH e w base (fun _ => True) v hs ∧ hs.length = xss.length ∧ ∀ (i : Nat) (x : List Int), xss[i]? = some x → ∃ h : Hd, hs[i]? = some h ∧ SL w (encH h) x
theorem SL.header {w : World} {v : Value} {xs : List Int} (h : SL w v xs) : ∃ hd : Hd, v = encH hd := by
  obtain ⟨A, c, rfl, _⟩ := h
  exact ⟨(A, xs.length, c), rfl⟩
theorem RS.below {e : TypeId} {w w' : World} {base : Nat} {v : Value} {xss : List (List Int)} (h : RS e w base v xss) (hb : Below w.heap.size w w') : RS e w' base v xss := by
  obtain ⟨hs, h1, h2, h3⟩ := h
  exact ⟨hs, Kd.R_below h1 hb, h2, fun i x hx => let ⟨hd, a, b⟩ := h3 i x hx; ⟨hd, a, SLk.below b hb⟩⟩
/-- What reads as numbers lives on where a slice's cell is written. -/
theorem SL.set_slice {w : World} {v : Value} {xs : List Int} (h : SL w v xs) {g i : Nat} {hd : Hd} (hc : w.cell? ⟨g, i, none⟩ = some (encH hd)) (u : Value) : SL (w.setCell ⟨g, i, none⟩ u) v xs := by
  obtain ⟨A, c, rfl, hl, h1, h2, h3⟩ := h
  refine ⟨A, c, rfl, hl, h1, h2, fun hn => ?_⟩
  obtain ⟨ad, rfl, hcell⟩ := h3 hn
  refine ⟨ad, rfl, fun j p hj => ?_⟩
  obtain ⟨cs, hcl, hk, hcc⟩ := hcell j p hj
  refine ⟨cs, hcl, hk, fun k u' hu => ?_⟩
  have hold := hcc k u' hu
  have hne : ad.add (j * (Kd.int .i64).sz + k) ≠ ⟨g, i, none⟩ := by
    intro e
    rw [e, hc] at hold
    have hk' : cs = [.int .i64 p] := hk
    subst hk'
    cases k with
    | zero => simp at hu; subst hu; simp [encH] at hold
    | succ k => simp at hu
  have hlt := World.block_lt_of_cell? w _ hold
  rw [← hold]
  unfold World.cell? World.setCell
  simp only [Array.getElem?_modify]
  by_cases hb : g = (ad.add (j * (Kd.int .i64).sz + k)).block
  · rw [if_pos hb]
    generalize hg : w.heap[(ad.add (j * (Kd.int .i64).sz + k)).block]? = o
    cases o with
    | none => rfl
    | some o =>
      cases o with
      | cells c t f =>
        simp only [Option.map_some]
        by_cases hsp : (ad.add (j * (Kd.int .i64).sz + k)).spot.isSome
        · simp [hsp]
        · simp only [hsp]
          simp
          rw [Array.getElem?_setIfInBounds_ne]
          intro ei
          apply hne
          generalize ad.add (j * (Kd.int .i64).sz + k) = q at *
          obtain ⟨qb, qo, qs⟩ := q
          simp at hb ei hsp
          subst hb ei hsp
          rfl
      | _ => rfl
  · rw [if_neg hb]
theorem RS.put {e : TypeId} {w : World} {base g n cap : Nat} {xss : List (List Int)} (h : RS e w base (.slice (some ⟨g, 0, none⟩) n cap) xss) (hn : n = xss.length) (i : Nat) (hi : i < xss.length) {v' : Value} {x : List Int} (hx : SL w v' x) :
    RS e (w.setCell ⟨g, i, none⟩ v') base (.slice (some ⟨g, 0, none⟩) n cap) (xss.set i x) ∧ w.grownBy (w.setCell ⟨g, i, none⟩ v') (some g) := by
  obtain ⟨hs, h1, h2, h3⟩ := h
  obtain ⟨hd, rfl⟩ := hx.header
  have hp := Kd.R_putg h1 (i : Int) hd
  have hc := Kd.R_celln ((none, 0, 0) : Hd) h1 (i : Int) (by omega) (by omega)
  rw [Int.toNat_natCast] at hp hc
  refine ⟨⟨hs.set i hd, hp.1, by simp [h2], fun j y hy => ?_⟩, hp.2⟩
  by_cases hji : j = i
  · subst hji
    rw [List.getElem?_set_self hi] at hy
    obtain rfl := Option.some.inj hy
    exact ⟨hd, List.getElem?_set_self (by omega), SL.set_slice hx hc.1 _⟩
  · rw [List.getElem?_set_ne (Ne.symm hji)] at hy
    obtain ⟨hd', a, b⟩ := h3 j y hy
    exact ⟨hd', by rw [List.getElem?_set_ne (Ne.symm hji)]; exact a, SL.set_slice b hc.1 _⟩
theorem RS.cell {e : TypeId} {w : World} {base g n cap : Nat} {xss : List (List Int)} (h : RS e w base (.slice (some ⟨g, 0, none⟩) n cap) xss) (i : Nat) (hi : i < n) : (∃ hd : Hd, w.cell? ⟨g, i, none⟩ = some (encH hd)) ∧ w.frozen? ⟨g, i, none⟩ = false := by
  obtain ⟨hs, h1, h2, h3⟩ := h
  have hc := Kd.R_celln ((none, 0, 0) : Hd) h1 (i : Int) (by omega) (by omega)
  rw [Int.toNat_natCast] at hc
  exact ⟨⟨_, hc.1⟩, hc.2⟩
theorem RS.form {e : TypeId} {w : World} {base : Nat} {v : Value} {xss : List (List Int)} (h : RS e w base v xss) (hn : 0 < xss.length) : ∃ g cap, v = .slice (some ⟨g, 0, none⟩) xss.length cap ∧ base ≤ g ∧ xss.length ≤ cap := by
  obtain ⟨hs, h1, h2, h3⟩ := h
  obtain ⟨inner, a, b⟩ := Kd.R_own h1
  rcases b with ⟨_, b⟩ | ⟨g, cap, cur, rfl, hg, _, h4, _⟩
  · omega
  · exact ⟨g, cap, by rw [h2], hg, by omega⟩
theorem RS.slice {e : TypeId} {w : World} {base : Nat} {v : Value} {xss : List (List Int)} (h : RS e w base v xss) : ∃ A c, v = .slice A xss.length c := by
  obtain ⟨hs, h1, h2, h3⟩ := h
  obtain ⟨A, c, rfl⟩ := Kd.R_slice h1
  exact ⟨A, c, by rw [h2]⟩
theorem RS.lower {e : TypeId} {w : World} {base base' : Nat} {v : Value} {xss : List (List Int)} (h : RS e w base v xss) (hb : base' ≤ base) : RS e w base' v xss := by
  obtain ⟨hs, h1, h2⟩ := h
  exact ⟨hs, Kd.R_lower h1 hb, h2⟩
theorem RS.nils {e : TypeId} {w : World} {base : Nat} {v : Value} {n : Nat} (h : Kd.R KH e w base (fun _ => True) v (List.replicate n ((none, 0, 0) : Hd))) : RS e w base v (List.replicate n []) := by
  refine ⟨_, h, by simp, fun i x hx => ?_⟩
  rw [List.getElem?_replicate] at hx
  split at hx
  · rename_i hi
    obtain rfl := Option.some.inj hx
    exact ⟨(none, 0, 0), by rw [List.getElem?_replicate, if_pos hi], SLk.nil w⟩
  · cases hx
theorem RS.nil (e : TypeId) (w : World) (base : Nat) : RS e w base (.slice none 0 0) [] := ⟨[], Kd.R_nil _ _ _ _ _, rfl, fun i x hx => by simp at hx⟩
/-- such a row reads as a list of lists -/
theorem RS.reads {e : TypeId} {w : World} {base : Nat} {v : Value} {xss : List (List Int)} (h : RS e w base v xss) (t : Nat) : SLk (Kd.slice t (Kd.int .i64)) w v xss := by
  obtain ⟨hs, h1, h2, h3⟩ := h
  obtain ⟨A, c, rfl, hc, hC⟩ := Kd.R_reads h1
  rw [h2] at hC hc ⊢
  refine ⟨A, c, rfl, hc, rfl, hC.2.1, fun hn => ?_⟩
  obtain ⟨ad, rfl, hcell⟩ := hC.2.2 hn
  refine ⟨ad, rfl, fun j p hj => ?_⟩
  obtain ⟨hd, a, b⟩ := h3 j p hj
  obtain ⟨cs, _, hk, hcc⟩ := hcell j hd a
  obtain ⟨A', c', e', hl, hC'⟩ := b
  refine ⟨[encH hd], rfl, ⟨A', c', by rw [e'], hl, hC'⟩, fun k u hu => ?_⟩
  have hk' : cs = [encH hd] := hk
  subst hk'
  exact hcc k u hu
end Go.Proofs.Ytfkgjoflekemaaa.U
