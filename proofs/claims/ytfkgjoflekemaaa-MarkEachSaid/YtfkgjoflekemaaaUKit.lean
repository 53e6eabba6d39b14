/- Words of this session's own for walks: a slice that reads as a list (SL), kept from world to world; a row's form; a written cell. -/
import Derived.Test.YtfkgjoflekemaaaUEv
import Derived.Test.YtfkgjoflekemaaaWMore
import Derived.Lib.Hide
import Derived.StillTailTactics
import Derived.Deep.RegionWith
namespace Go.Proofs.Ytfkgjoflekemaaa.U
open Go.RowKit Go.Proofs.YtfkgjoflekemaaaW.PrintWords
set_option linter.unusedVariables false

theorem R_form {α : Type} {d : Kd α} {e : TypeId} {w : World} {base : Nat} {ok : Nat → Prop} {v : Value} {xs : List α} (h : d.R e w base ok v xs) (hb : ∃ b, v.ownBlock = some b) : ∃ g cap, v = .slice (some ⟨g, 0, none⟩) xs.length cap ∧ base ≤ g := by
  obtain ⟨inner, h1, h2⟩ := Kd.R_own h
  obtain ⟨b, hb⟩ := hb
  rcases h2 with ⟨rfl, _⟩ | ⟨g, cap, cur, rfl, hg, _⟩
  · simp [Value.ownBlock] at hb
  · exact ⟨g, cap, rfl, hg⟩
theorem grown_set (w : World) (g j : Nat) (u : Value) : w.grownBy (w.setCell ⟨g, j, none⟩ u) (some g) :=
  ⟨rfl, rfl, rfl, by simp [World.setCell], fun k _ hk => Below.heap_setCell w ⟨g, j, none⟩ u k (fun e => hk (by rw [e]))⟩

/-- A slice value that reads as a list in a world. -/
def SLk {α : Type} (d : Kd α) (w : World) (v : Value) (xs : List α) : Prop := ∃ A c, v = .slice A xs.length c ∧ xs.length ≤ c ∧ d.C w A xs.length xs
abbrev SL (w : World) (v : Value) (xs : List Int) : Prop := SLk (Kd.int .i64) w v xs
theorem SLk.mk {α : Type} {d : Kd α} {w : World} {A : Option Addr} {c : Nat} {xs : List α} (h : d.C w A xs.length xs) (hc : xs.length ≤ c) : SLk d w (.slice A xs.length c) xs := ⟨A, c, rfl, hc, h⟩
theorem SLk.of_R {α : Type} {d : Kd α} {e : TypeId} {w : World} {base : Nat} {ok : Nat → Prop} {v : Value} {xs : List α} (h : d.R e w base ok v xs) : SLk d w v xs := by
  obtain ⟨A, c, rfl, h1, h2⟩ := Kd.R_reads h
  exact ⟨A, c, rfl, h1, h2⟩
theorem SLk.below {α : Type} {d : Kd α} {w w' : World} {v : Value} {xs : List α} (h : SLk d w v xs) (hb : Below w.heap.size w w') : SLk d w' v xs := by
  obtain ⟨A, c, rfl, h1, h2⟩ := h
  exact ⟨A, c, rfl, h1, Kd.C_below h2 hb⟩
theorem SLk.nil {α : Type} {d : Kd α} (w : World) : SLk d w (.slice none 0 0) ([] : List α) := by
  refine ⟨none, 0, rfl, Nat.le_refl _, ?_⟩
  exact ⟨rfl, by simp, fun h => absurd h (by simp)⟩
theorem SLk.at_int {k : IntKind} {w : World} {v : Value} {xs : List Int} (h : SLk (Kd.int k) w v xs) (i : Int) (h0 : 0 ≤ i) (h1 : i < xs.length) : ∃ ad c, v = .slice (some ad) xs.length c ∧ w.cell? (ad.add i.toNat) = some (.int k (rd xs i)) := by
  obtain ⟨A, c, rfl, _, h2⟩ := h
  obtain ⟨ad, rfl, h⟩ := Kd.at_int h2 i h0 h1
  exact ⟨ad, c, rfl, h⟩
end Go.Proofs.Ytfkgjoflekemaaa.U
