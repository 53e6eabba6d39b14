/- Two rows of spans, each with one span to be appended: what holds between the operations. -/
import Derived.Test.YtohhobcipfmkbaaCFin8
namespace Go.Proofs.Ytohhobcipfmkbaa.CFin
open Go.RowKit Go.Proofs.YtohhobcipfmkbaaW.PrintWords Go.Proofs.YtohhobcipfmkbaaW.PrintMore Go.Proofs.YtohhobcipfmkbaaW.PrintLast Go.Proofs.Ytohhobcipfmkbaa.U Go.Proofs.Ytohhobcipfmkbaa.PClusterFinest Go.Proofs.Ytohhobcipfmkbaa.UFinest Go.Proofs.Ytohhobcipfmkbaa.UFinEv
set_option linter.unusedVariables false
set_option linter.unusedSimpArgs false
theorem info33 : (Try.prog.info? 33).map (fun i => (i.zero, i.size, i.bytes)) = some (some (.agg #[(.int .i64 0), (.int .i64 0)]), 2, 16) := by kernel_rfl
abbrev cells33 (p : S33) : Obj := .cells #[.int .i64 p.f0, .int .i64 p.f1] 33 (0, 0)
theorem one33 {W : World} {b : Nat} {p : S33} (h : W.heap[b]? = some (cells33 p)) : Kd.C k33 W (some ⟨b, 0, none⟩) 1 [p] := by
  refine ⟨rfl, by simp, fun hn => ⟨_, rfl, fun j x hj => ?_⟩⟩
  obtain ⟨hl, hx⟩ := List.getElem?_eq_some_iff.1 hj
  obtain rfl : j = 0 := by simpa using hl
  obtain rfl : p = x := by simpa using hx
  refine ⟨_, rfl, k33_mk W p, fun i u hu => ?_⟩
  have ea : (⟨b, 0, none⟩ : Addr).add (0 * k33.sz + i) = ⟨b, i, none⟩ := by rw [add_plain, Nat.zero_mul, Nat.zero_add]
  rw [ea, blk_cell h i]
  match i, hu with
  | 0, hu => exact hu
  | 1, hu => exact hu
/-- the rows v1, v2 (their blocks apart, and apart from those of G, which are as in W0); c1, c2: the blocks that hold p, q -/
structure PR (W0 W : World) (base : Nat) (G : Nat → Prop) (p q : S33) (v1 : Value) (xs : List S33) (v2 : Value) (ys : List S33) (c1 c2 : Option Nat) : Prop where
  r1 : Kd.R k33 33 W base (fun k => some k = v1.ownBlock) v1 xs
  r2 : Kd.R k33 33 W base (fun k => some k = v2.ownBlock) v2 ys
  ne : ∀ k, v1.ownBlock = some k → v2.ownBlock ≠ some k
  sz : W0.heap.size ≤ W.heap.size
  lt : ∀ k, G k → k < W0.heap.size
  keep : ∀ k, G k → W.heap[k]? = W0.heap[k]?
  n1 : ∀ k, G k → v1.ownBlock ≠ some k
  n2 : ∀ k, G k → v2.ownBlock ≠ some k
  b1 : ∀ b, c1 = some b → W.heap[b]? = some (cells33 p) ∧ v1.ownBlock ≠ some b ∧ v2.ownBlock ≠ some b
  b2 : ∀ b, c2 = some b → W.heap[b]? = some (cells33 q) ∧ v1.ownBlock ≠ some b ∧ v2.ownBlock ≠ some b
theorem PR.symm {W0 W : World} {base : Nat} {G : Nat → Prop} {p q : S33} {v1 v2 : Value} {xs ys : List S33} {c1 c2 : Option Nat} (h : PR W0 W base G p q v1 xs v2 ys c1 c2) : PR W0 W base G q p v2 ys v1 xs c2 c1 :=
  ⟨h.r2, h.r1, fun k h1 h2 => h.ne k h2 h1, h.sz, h.lt, h.keep, h.n2, h.n1, fun b hb => ⟨(h.b2 b hb).1, (h.b2 b hb).2.2, (h.b2 b hb).2.1⟩, fun b hb => ⟨(h.b1 b hb).1, (h.b1 b hb).2.2, (h.b1 b hb).2.1⟩⟩
theorem PR.drew {W0 W : World} {base : Nat} {G : Nat → Prop} {p q : S33} {v1 v2 : Value} {xs ys : List S33} {c1 c2 : Option Nat} (h : PR W0 W base G p q v1 xs v2 ys c1 c2) : PR W0 W.drew base G p q v1 xs v2 ys c1 c2 :=
  ⟨Kd.R_drew h.r1, Kd.R_drew h.r2, h.ne, h.sz, h.lt, h.keep, h.n1, h.n2, h.b1, h.b2⟩
theorem PR.build {W0 W : World} {base : Nat} {G : Nat → Prop} {p q : S33} {v1 v2 : Value} {xs ys : List S33} {c2 : Option Nat} (h : PR W0 W base G p q v1 xs v2 ys none c2) : PR W0 (W.alloc (cells33 p)) base G p q v1 xs v2 ys (some W.heap.size) c2 := by
  have hg := World.grownBy_alloc W (cells33 p) none
  have hold : ∀ k, k < W.heap.size → (W.alloc (cells33 p)).heap[k]? = W.heap[k]? := fun k hk => hg.block k hk (by simp)
  refine ⟨Kd.R_alloc h.r1 _, Kd.R_alloc h.r2 _, h.ne, Nat.le_trans h.sz hg.size, h.lt, fun k hk => (hold k (Nat.lt_of_lt_of_le (h.lt k hk) h.sz)).trans (h.keep k hk), h.n1, h.n2, fun b hb => ?_, fun b hb => ?_⟩
  · obtain rfl := Option.some.inj hb
    exact ⟨(MapKept.heap_alloc W _).1, fun e => by have := Kd.R_lt h.r1 _ e; omega, fun e => by have := Kd.R_lt h.r2 _ e; omega⟩
  · obtain ⟨h1, h2⟩ := h.b2 b hb
    exact ⟨(hold b (blk_lt h1)).trans h1, h2⟩
theorem PR.append {W0 w1 W : World} {base : Nat} {G : Nat → Prop} {p q : S33} {v1 v2 v : Value} {xs ys : List S33} {c1 c2 : Option Nat} (h : PR W0 W base G p q v1 xs v2 ys c1 c2)
    (hr : Kd.R k33 33 w1 base (fun _ => True) v (xs ++ [p])) (hg : W.grownBy w1 v1.ownBlock) (hat : v.ownBlock = v1.ownBlock ∨ ∃ b, v.ownBlock = some b ∧ W.heap.size ≤ b) : PR W0 w1 base G p q v (xs ++ [p]) v2 ys none c2 := by
  have hv : ∀ k, k < W.heap.size → v1.ownBlock ≠ some k → v.ownBlock ≠ some k := fun k hk hne e => by
    rcases hat with h' | ⟨b, hb, hb2⟩
    · exact hne (h'.symm.trans e)
    · rw [hb] at e; have := Option.some.inj e; omega
  refine ⟨Kd.R_mono (Kd.R_tight rfl hr) (fun _ h => h), Kd.R_grown h.r2 hg (fun k hk e => h.ne k e.symm hk.symm), fun k h1 h2 => hv k (Kd.R_lt h.r2 k h2) (fun e => h.ne k e h2) h1, Nat.le_trans h.sz hg.size, h.lt, fun k hk => (hg.block k (Nat.lt_of_lt_of_le (h.lt k hk) h.sz) (fun e => h.n1 k hk e.symm)).trans (h.keep k hk), fun k hk => hv k (Nat.lt_of_lt_of_le (h.lt k hk) h.sz) (h.n1 k hk), h.n2, fun b hb => (by cases hb), fun b hb => ?_⟩
  obtain ⟨h1, h2, h3⟩ := h.b2 b hb
  exact ⟨(hg.block b (blk_lt h1) (fun e => h2 e.symm)).trans h1, hv b (blk_lt h1) h2, h3⟩
theorem PR.start {W : World} {base : Nat} {G : Nat → Prop} {p q : S33} {v1 v2 : Value} {xs ys : List S33} (h1 : Kd.R k33 33 W base (fun k => some k = v1.ownBlock) v1 xs) (h2 : Kd.R k33 33 W base (fun k => some k = v2.ownBlock) v2 ys) (hne : ∀ k, v1.ownBlock = some k → v2.ownBlock ≠ some k)
    (hlt : ∀ k, G k → k < W.heap.size) (n1 : ∀ k, G k → v1.ownBlock ≠ some k) (n2 : ∀ k, G k → v2.ownBlock ≠ some k) : PR W W base G p q v1 xs v2 ys none none :=
  ⟨h1, h2, hne, Nat.le_refl _, hlt, fun _ _ => rfl, n1, n2, fun b hb => (by cases hb), fun b hb => (by cases hb)⟩
/-- a row that is made with room for n -/
theorem made33 {W : World} {base : Nat} (n : Nat) (hn : n ≤ 1000000) (hb : base ≤ W.heap.size) : ∃ w', (Instr.makeSlice 49 (.int .i64 0) (.int .i64 (n : Int))).run Try.prog W = .ok (.slice (some ⟨W.heap.size, 0, none⟩) 0 n) w' ∧ Kd.R k33 33 w' base (fun k => k = W.heap.size) (.slice (some ⟨W.heap.size, 0, none⟩) 0 n) [] ∧ W.grownBy w' none := by
  obtain ⟨i0, hi, hzz⟩ := Option.map_eq_some_iff.1 info33
  simp only [Prod.mk.injEq] at hzz
  obtain ⟨hz0, hz1, hz2⟩ := hzz
  obtain ⟨w', h1, h2, h3⟩ := run_make_own (P := Try.prog) W base 49 33 i0 _ 2 Try.underlying49 hi hz0 hz1 .i64 .i64 n (by rw [hz2]; omega) (by unfold maxLen; omega) hb
  exact ⟨w', h1, ⟨fun k hk => by simpa [Value.ownBlock] using hk.symm, [], h2, Reps.none _ _⟩, h3⟩
end Go.Proofs.Ytohhobcipfmkbaa.CFin
