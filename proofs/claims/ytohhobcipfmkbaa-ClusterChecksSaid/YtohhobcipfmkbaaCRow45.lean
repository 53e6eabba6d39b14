/- A slice of clusters that comes in, read as a list. -/
import Derived.Deep.Slices
import Derived.Deep.Fields
import Derived.ChangeSame
import Derived.Test.YtohhobcipfmkbaaPClusterFinestx0
namespace Go.Proofs.Ytohhobcipfmkbaa.CRow
open Go.RowKit Go.ChangeShapes Go.WideShapes Go.Deep Go.Proofs.YtohhobcipfmkbaaW.PrintWords Go.Proofs.Ytohhobcipfmkbaa.PClusterFinest
set_option linter.unusedVariables false
set_option linter.unusedSimpArgs false
section
variable {H : Type} {enc : TypeId × Value → H} {w : World} {base : Nat} {spare : Nat → Bool} {held : Bool}
theorem cellsOf33 : Try.prog.cellsOf 33 = 2 := by kernel_rfl
theorem cellsOf45 : Try.prog.cellsOf 45 = 4 := by kernel_rfl
theorem cellsOf3 : Try.prog.cellsOf 3 = 1 := by kernel_rfl
theorem read33 {n : Nat} {cs : List Value} {x : DataW H × List MemPlace} (h : DataW.trod enc Try.prog w base spare held n 33 cs = some x) : ∃ s : S33, cs = [.int .i64 s.f0, .int .i64 s.f1] := by
  obtain ⟨y0, y1, m, _, hl, h0, h1⟩ := trod_struct2 Try.underlying33 h
  rw [cellsOf33] at hl
  dsimp only at h0 h1
  rw [cellsOf3] at h0 h1
  obtain ⟨a, ha, _⟩ := DataW.trod_int Try.underlying3 h0
  obtain ⟨b, hb, _⟩ := DataW.trod_int Try.underlying3 h1
  match cs, hl with
  | [c0, c1], _ =>
    simp at ha hb
    exact ⟨⟨a, b⟩, by rw [ha, hb]⟩
theorem read45 {n : Nat} {cs : List Value} {x : DataW H × List MemPlace} (h : DataW.trod enc Try.prog w base spare held n 45 cs = some x) : ∃ s : S45, cs = [.int .i64 s.f0.f0, .int .i64 s.f0.f1, .int .i64 s.f1.f0, .int .i64 s.f1.f1] := by
  obtain ⟨y0, y1, m, _, hl, h0, h1⟩ := trod_struct2 Try.underlying45 h
  rw [cellsOf45] at hl
  dsimp only at h0 h1
  rw [cellsOf33] at h0 h1
  obtain ⟨a, ha⟩ := read33 h0
  obtain ⟨b, hb⟩ := read33 h1
  match cs, hl with
  | [c0, c1, c2, c3], _ =>
    simp at ha hb
    exact ⟨⟨a, b⟩, by rw [ha.1, ha.2, hb.1, hb.2]⟩
theorem open45 {fuel : Nat} {A : Option Addr} {len cap : Nat} {x : DataW H × List MemPlace} (h : DataW.trod enc Try.prog w base (fun _ => true) held fuel 40 (Value.slice A len cap).cells.toList = some x) :
    ∃ l : List S45, len = l.length ∧ Kd.C k45 w A l.length l ∧ l.length ≤ cap ∧ cap ≤ maxLen := by
  rcases open_slice Try.underlying40 h with ⟨hcs, _⟩ | ⟨a, len', cap', m, n, D, Pl, hcs, hb, hl, hm, hmm, hx, hi⟩
  · simp [Value.cells] at hcs
    obtain ⟨rfl, rfl, rfl⟩ := hcs
    exact ⟨[], rfl, ⟨rfl, by simp, fun h => absurd h (Nat.lt_irrefl 0)⟩, Nat.le_refl _, Nat.zero_le _⟩
  · simp [Value.cells] at hcs
    obtain ⟨rfl, rfl, rfl⟩ := hcs
    rw [if_pos rfl] at hmm
    subst hmm
    rw [cellsOf45] at hi
    have key : ∀ i, i < m → ∃ s : S45, ∀ j u, ([.int .i64 s.f0.f0, .int .i64 s.f0.f1, .int .i64 s.f1.f0, .int .i64 s.f1.f1] : List Value)[j]? = some u → w.cell? (a.add (i * 4 + j)) = some u := fun i him => by
      obtain ⟨cs', hc, ht⟩ := hi i him
      obtain ⟨s, rfl⟩ := read45 ht
      obtain ⟨_, _, hat⟩ := World.cells?_some hc
      refine ⟨s, fun j u hu => ?_⟩
      have hj : j < 4 := (List.getElem?_eq_some_iff.1 hu).1
      have := hat j hj
      rw [hu] at this
      rw [← this]
      rw [Go.Deep.add_add]
    let f : Nat → S45 := fun i => if h : i < m then (key i h).choose else z45
    have hf : ∀ i (h : i < m), f i = (key i h).choose := fun i h => dif_pos h
    refine ⟨(List.range len).map f, by simp, ?_, by simpa using hl, hm⟩
    refine ⟨rfl, ?_, fun hn => ⟨a, rfl, fun j p hj => ?_⟩⟩
    · have : maxLen = 9223372036854775807 := rfl
      simp; omega
    · obtain ⟨hjl, hp⟩ := List.getElem?_eq_some_iff.1 hj
      have hjl' : j < len := by simpa using hjl
      have e : f j = p := by simpa using hp
      have hk := (key j (by omega)).choose_spec
      rw [← hf j (by omega), e] at hk
      exact ⟨_, rfl, k45_mk w p, fun i u hu => hk i u hu⟩
end
end Go.Proofs.Ytohhobcipfmkbaa.CRow
