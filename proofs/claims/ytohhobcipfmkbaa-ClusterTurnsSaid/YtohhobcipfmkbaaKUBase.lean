/- Texts of this claim, cut to what it needs. -/
import Derived.Test.YtohhobcipfmkbaaKWWords
import Derived.Test.YtohhobcipfmkbaaKWMore
import Derived.Lib.Hide
import Derived.StillTailTactics
import Derived.Deep.RegionWith
import Derived.Tactics
import Derived.WalkKit
import Derived.KernelRfl
import Derived.LoopN
namespace Go.Proofs.Ytohhobcipfmkbaa.U
open Go.RowKit Go.Proofs.YtohhobcipfmkbaaW.PrintWords

theorem ev_now {α : Type} (r : α) : Ev (fun _ => some r) r := ⟨0, fun _ _ => rfl⟩
theorem ev_pos {α : Type} {c : Prop} [Decidable c] {f g : Nat → Option α} {r : α} (hc : c) (h : Ev f r) : Ev (fun k => if c then f k else g k) r := by
  simpa only [if_pos hc] using h
theorem ev_neg {α : Type} {c : Prop} [Decidable c] {f g : Nat → Option α} {r : α} (hc : ¬ c) (h : Ev g r) : Ev (fun k => if c then f k else g k) r := by
  simpa only [if_neg hc] using h
theorem ev_bindc {α β : Type} {x : Option α} {f : Nat → α → Option β} {a : α} {r : β} (h : x = some a) (k : Ev (fun n => f n a) r) : Ev (fun n => x.bind (f n)) r := by
  simpa only [h, Option.bind_some] using k
theorem ev_eq {α : Type} {g : Nat → Option α} {r r' : α} (h : Ev g r) (e : r = r') : Ev g r' := e ▸ h
theorem w64 {n : Int} (h0 : -9223372036854775808 ≤ n) (h1 : n ≤ 9223372036854775807) : wrap64 n = n := by unfold wrap64; omega

end Go.Proofs.Ytohhobcipfmkbaa.U
namespace Go.Proofs.Ytohhobcipfmkbaa.U
open Go.RowKit Go.Proofs.YtohhobcipfmkbaaW.PrintWords
set_option linter.unusedVariables false

theorem R_form {α : Type} {d : Kd α} {e : TypeId} {w : World} {base : Nat} {ok : Nat → Prop} {v : Value} {xs : List α} (h : d.R e w base ok v xs) (hb : ∃ b, v.ownBlock = some b) : ∃ g cap, v = .slice (some ⟨g, 0, none⟩) xs.length cap ∧ base ≤ g := by
  obtain ⟨inner, h1, h2⟩ := Kd.R_own h
  obtain ⟨b, hb⟩ := hb
  rcases h2 with ⟨rfl, _⟩ | ⟨g, cap, cur, rfl, hg, _⟩
  · simp [Value.ownBlock] at hb
  · exact ⟨g, cap, rfl, hg⟩
theorem grown_set (w : World) (g j : Nat) (u : Value) : w.grownBy (w.setCell ⟨g, j, none⟩ u) (some g) :=
  ⟨rfl, rfl, rfl, by simp [World.setCell], fun k _ hk => Below.heap_setCell w ⟨g, j, none⟩ u k (fun e => hk (by rw [e]))⟩

def SLk {α : Type} (d : Kd α) (w : World) (v : Value) (xs : List α) : Prop := ∃ A c, v = .slice A xs.length c ∧ xs.length ≤ c ∧ d.C w A xs.length xs
abbrev SL (w : World) (v : Value) (xs : List Int) : Prop := SLk (Kd.int .i64) w v xs
theorem SLk.mk {α : Type} {d : Kd α} {w : World} {A : Option Addr} {c : Nat} {xs : List α} (h : d.C w A xs.length xs) (hc : xs.length ≤ c) : SLk d w (.slice A xs.length c) xs := ⟨A, c, rfl, hc, h⟩
theorem SLk.of_R {α : Type} {d : Kd α} {e : TypeId} {w : World} {base : Nat} {ok : Nat → Prop} {v : Value} {xs : List α} (h : d.R e w base ok v xs) : SLk d w v xs := by
  obtain ⟨A, c, rfl, h1, h2⟩ := Kd.R_reads h
  exact ⟨A, c, rfl, h1, h2⟩
theorem SLk.below {α : Type} {d : Kd α} {w w' : World} {v : Value} {xs : List α} (h : SLk d w v xs) (hb : Below w.heap.size w w') : SLk d w' v xs := by
  obtain ⟨A, c, rfl, h1, h2⟩ := h
  exact ⟨A, c, rfl, h1, Kd.C_below h2 hb⟩
theorem SLk.nil {α : Type} {d : Kd α} (w : World) : SLk d w (.slice none 0 0) ([] : List α) := by
  refine ⟨none, 0, rfl, Nat.le_refl _, ?_⟩
  exact ⟨rfl, by simp, fun h => absurd h (by simp)⟩
end Go.Proofs.Ytohhobcipfmkbaa.U
namespace Go.Proofs.Ytohhobcipfmkbaa.U
open Go.RowKit Go.Proofs.YtohhobcipfmkbaaW.PrintWords
set_option linter.unusedVariables false

abbrev Hd := Option Addr × Nat × Nat
def encH (h : Hd) : Value := .slice h.1 h.2.1 h.2.2
def KH : Kd Hd := Kd.scalar encH (fun _ => rfl)
def RS (e : TypeId) (w : World) (base : Nat) (v : Value) (xss : List (List Int)) : Prop :=
  ∃ hs : List Hd, Kd.R KH e w base (fun _ => True) v hs ∧ hs.length = xss.length ∧ ∀ (i : Nat) (x : List Int), xss[i]? = some x → ∃ h : Hd, hs[i]? = some h ∧ SL w (encH h) x
theorem SL.header {w : World} {v : Value} {xs : List Int} (h : SL w v xs) : ∃ hd : Hd, v = encH hd := by
  obtain ⟨A, c, rfl, _⟩ := h
  exact ⟨(A, xs.length, c), rfl⟩
theorem RS.below {e : TypeId} {w w' : World} {base : Nat} {v : Value} {xss : List (List Int)} (h : RS e w base v xss) (hb : Below w.heap.size w w') : RS e w' base v xss := by
  obtain ⟨hs, h1, h2, h3⟩ := h
  exact ⟨hs, Kd.R_below h1 hb, h2, fun i x hx => let ⟨hd, a, b⟩ := h3 i x hx; ⟨hd, a, SLk.below b hb⟩⟩
theorem SL.set_slice {w : World} {v : Value} {xs : List Int} (h : SL w v xs) {g i : Nat} {hd : Hd} (hc : w.cell? ⟨g, i, none⟩ = some (encH hd)) (u : Value) : SL (w.setCell ⟨g, i, none⟩ u) v xs := by
  obtain ⟨A, c, rfl, hl, h1, h2, h3⟩ := h
  refine ⟨A, c, rfl, hl, h1, h2, fun hn => ?_⟩
  obtain ⟨ad, rfl, hcell⟩ := h3 hn
  refine ⟨ad, rfl, fun j p hj => ?_⟩
  obtain ⟨cs, hcl, hk, hcc⟩ := hcell j p hj
  refine ⟨cs, hcl, hk, fun k u' hu => ?_⟩
  have hold := hcc k u' hu
  have hne : ad.add (j * (Kd.int .i64).sz + k) ≠ ⟨g, i, none⟩ := by
    intro e
    rw [e, hc] at hold
    have hk' : cs = [.int .i64 p] := hk
    subst hk'
    cases k with
    | zero => simp at hu; subst hu; simp [encH] at hold
    | succ k => simp at hu
  have hlt := World.block_lt_of_cell? w _ hold
  rw [← hold]
  unfold World.cell? World.setCell
  simp only [Array.getElem?_modify]
  by_cases hb : g = (ad.add (j * (Kd.int .i64).sz + k)).block
  · rw [if_pos hb]
    generalize hg : w.heap[(ad.add (j * (Kd.int .i64).sz + k)).block]? = o
    cases o with
    | none => rfl
    | some o =>
      cases o with
      | cells c t f =>
        simp only [Option.map_some]
        by_cases hsp : (ad.add (j * (Kd.int .i64).sz + k)).spot.isSome
        · simp [hsp]
        · simp only [hsp]
          simp
          rw [Array.getElem?_setIfInBounds_ne]
          intro ei
          apply hne
          generalize ad.add (j * (Kd.int .i64).sz + k) = q at *
          obtain ⟨qb, qo, qs⟩ := q
          simp at hb ei hsp
          subst hb ei hsp
          rfl
      | _ => rfl
  · rw [if_neg hb]
theorem RS.put {e : TypeId} {w : World} {base g n cap : Nat} {xss : List (List Int)} (h : RS e w base (.slice (some ⟨g, 0, none⟩) n cap) xss) (hn : n = xss.length) (i : Nat) (hi : i < xss.length) {v' : Value} {x : List Int} (hx : SL w v' x) :
    RS e (w.setCell ⟨g, i, none⟩ v') base (.slice (some ⟨g, 0, none⟩) n cap) (xss.set i x) ∧ w.grownBy (w.setCell ⟨g, i, none⟩ v') (some g) := by
  obtain ⟨hs, h1, h2, h3⟩ := h
  obtain ⟨hd, rfl⟩ := hx.header
  have hp := Kd.R_putg h1 (i : Int) hd
  have hc := Kd.R_celln ((none, 0, 0) : Hd) h1 (i : Int) (by omega) (by omega)
  rw [Int.toNat_natCast] at hp hc
  refine ⟨⟨hs.set i hd, hp.1, by simp [h2], fun j y hy => ?_⟩, hp.2⟩
  by_cases hji : j = i
  · subst hji
    rw [List.getElem?_set_self hi] at hy
    obtain rfl := Option.some.inj hy
    exact ⟨hd, List.getElem?_set_self (by omega), SL.set_slice hx hc.1 _⟩
  · rw [List.getElem?_set_ne (Ne.symm hji)] at hy
    obtain ⟨hd', a, b⟩ := h3 j y hy
    exact ⟨hd', by rw [List.getElem?_set_ne (Ne.symm hji)]; exact a, SL.set_slice b hc.1 _⟩
theorem RS.cell {e : TypeId} {w : World} {base g n cap : Nat} {xss : List (List Int)} (h : RS e w base (.slice (some ⟨g, 0, none⟩) n cap) xss) (i : Nat) (hi : i < n) : (∃ hd : Hd, w.cell? ⟨g, i, none⟩ = some (encH hd)) ∧ w.frozen? ⟨g, i, none⟩ = false := by
  obtain ⟨hs, h1, h2, h3⟩ := h
  have hc := Kd.R_celln ((none, 0, 0) : Hd) h1 (i : Int) (by omega) (by omega)
  rw [Int.toNat_natCast] at hc
  exact ⟨⟨_, hc.1⟩, hc.2⟩
theorem RS.form {e : TypeId} {w : World} {base : Nat} {v : Value} {xss : List (List Int)} (h : RS e w base v xss) (hn : 0 < xss.length) : ∃ g cap, v = .slice (some ⟨g, 0, none⟩) xss.length cap ∧ base ≤ g ∧ xss.length ≤ cap := by
  obtain ⟨hs, h1, h2, h3⟩ := h
  obtain ⟨inner, a, b⟩ := Kd.R_own h1
  rcases b with ⟨_, b⟩ | ⟨g, cap, cur, rfl, hg, _, h4, _⟩
  · omega
  · exact ⟨g, cap, by rw [h2], hg, by omega⟩
theorem RS.slice {e : TypeId} {w : World} {base : Nat} {v : Value} {xss : List (List Int)} (h : RS e w base v xss) : ∃ A c, v = .slice A xss.length c := by
  obtain ⟨hs, h1, h2, h3⟩ := h
  obtain ⟨A, c, rfl⟩ := Kd.R_slice h1
  exact ⟨A, c, by rw [h2]⟩
theorem RS.nil (e : TypeId) (w : World) (base : Nat) : RS e w base (.slice none 0 0) [] := ⟨[], Kd.R_nil _ _ _ _ _, rfl, fun i x hx => by simp at hx⟩
theorem RS.reads {e : TypeId} {w : World} {base : Nat} {v : Value} {xss : List (List Int)} (h : RS e w base v xss) (t : Nat) : SLk (Kd.slice t (Kd.int .i64)) w v xss := by
  obtain ⟨hs, h1, h2, h3⟩ := h
  obtain ⟨A, c, rfl, hc, hC⟩ := Kd.R_reads h1
  rw [h2] at hC hc ⊢
  refine ⟨A, c, rfl, hc, rfl, hC.2.1, fun hn => ?_⟩
  obtain ⟨ad, rfl, hcell⟩ := hC.2.2 hn
  refine ⟨ad, rfl, fun j p hj => ?_⟩
  obtain ⟨hd, a, b⟩ := h3 j p hj
  obtain ⟨cs, _, hk, hcc⟩ := hcell j hd a
  obtain ⟨A', c', e', hl, hC'⟩ := b
  refine ⟨[encH hd], rfl, ⟨A', c', by rw [e'], hl, hC'⟩, fun k u hu => ?_⟩
  have hk' : cs = [encH hd] := hk
  subst hk'
  exact hcc k u hu
end Go.Proofs.Ytohhobcipfmkbaa.U
