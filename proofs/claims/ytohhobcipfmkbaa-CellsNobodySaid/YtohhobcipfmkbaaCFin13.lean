/- Merged of own texts: CPair, CFin13. -/
import Derived.Test.YtohhobcipfmkbaaCFin3
/-! Two rows of spans, each with one span to be appended: what holds between the operations. -/
namespace Go.Proofs.Ytohhobcipfmkbaa.CFin
open Go.RowKit Go.Proofs.YtohhobcipfmkbaaW.PrintWords Go.Proofs.YtohhobcipfmkbaaW.PrintMore Go.Proofs.YtohhobcipfmkbaaW.PrintLast Go.Proofs.Ytohhobcipfmkbaa.U Go.Proofs.Ytohhobcipfmkbaa.PClusterFinest Go.Proofs.Ytohhobcipfmkbaa.UFinest Go.Proofs.Ytohhobcipfmkbaa.UFinEv
set_option linter.unusedVariables false
set_option linter.unusedSimpArgs false
theorem info33 : (Try.prog.info? 33).map (fun i => (i.zero, i.size, i.bytes)) = some (some (.agg #[(.int .i64 0), (.int .i64 0)]), 2, 16) := by kernel_rfl
abbrev cells33 (p : S33) : Obj := .cells #[.int .i64 p.f0, .int .i64 p.f1] 33 (0, 0)
theorem one33 {W : World} {b : Nat} {p : S33} (h : W.heap[b]? = some (cells33 p)) : Kd.C k33 W (some ⟨b, 0, none⟩) 1 [p] := by
  refine ⟨rfl, by simp, fun hn => ⟨_, rfl, fun j x hj => ?_⟩⟩
  obtain ⟨hl, hx⟩ := List.getElem?_eq_some_iff.1 hj
  obtain rfl : j = 0 := by simpa using hl
  obtain rfl : p = x := by simpa using hx
  refine ⟨_, rfl, k33_mk W p, fun i u hu => ?_⟩
  have ea : (⟨b, 0, none⟩ : Addr).add (0 * k33.sz + i) = ⟨b, i, none⟩ := by rw [add_plain, Nat.zero_mul, Nat.zero_add]
  rw [ea, blk_cell h i]
  match i, hu with
  | 0, hu => exact hu
  | 1, hu => exact hu
/-- the rows v1, v2 (their blocks apart, and apart from those of G, which are as in W0); c1, c2: the blocks that hold p, q -/
structure PR (W0 W : World) (base : Nat) (G : Nat → Prop) (p q : S33) (v1 : Value) (xs : List S33) (v2 : Value) (ys : List S33) (c1 c2 : Option Nat) : Prop where
  r1 : Kd.R k33 33 W base (fun k => some k = v1.ownBlock) v1 xs
  r2 : Kd.R k33 33 W base (fun k => some k = v2.ownBlock) v2 ys
  ne : ∀ k, v1.ownBlock = some k → v2.ownBlock ≠ some k
  sz : W0.heap.size ≤ W.heap.size
  lt : ∀ k, G k → k < W0.heap.size
  keep : ∀ k, G k → W.heap[k]? = W0.heap[k]?
  n1 : ∀ k, G k → v1.ownBlock ≠ some k
  n2 : ∀ k, G k → v2.ownBlock ≠ some k
  b1 : ∀ b, c1 = some b → W.heap[b]? = some (cells33 p) ∧ v1.ownBlock ≠ some b ∧ v2.ownBlock ≠ some b
  b2 : ∀ b, c2 = some b → W.heap[b]? = some (cells33 q) ∧ v1.ownBlock ≠ some b ∧ v2.ownBlock ≠ some b
theorem PR.symm {W0 W : World} {base : Nat} {G : Nat → Prop} {p q : S33} {v1 v2 : Value} {xs ys : List S33} {c1 c2 : Option Nat} (h : PR W0 W base G p q v1 xs v2 ys c1 c2) : PR W0 W base G q p v2 ys v1 xs c2 c1 :=
  ⟨h.r2, h.r1, fun k h1 h2 => h.ne k h2 h1, h.sz, h.lt, h.keep, h.n2, h.n1, fun b hb => ⟨(h.b2 b hb).1, (h.b2 b hb).2.2, (h.b2 b hb).2.1⟩, fun b hb => ⟨(h.b1 b hb).1, (h.b1 b hb).2.2, (h.b1 b hb).2.1⟩⟩
theorem PR.drew {W0 W : World} {base : Nat} {G : Nat → Prop} {p q : S33} {v1 v2 : Value} {xs ys : List S33} {c1 c2 : Option Nat} (h : PR W0 W base G p q v1 xs v2 ys c1 c2) : PR W0 W.drew base G p q v1 xs v2 ys c1 c2 :=
  ⟨Kd.R_drew h.r1, Kd.R_drew h.r2, h.ne, h.sz, h.lt, h.keep, h.n1, h.n2, h.b1, h.b2⟩
theorem PR.build {W0 W : World} {base : Nat} {G : Nat → Prop} {p q : S33} {v1 v2 : Value} {xs ys : List S33} {c2 : Option Nat} (h : PR W0 W base G p q v1 xs v2 ys none c2) : PR W0 (W.alloc (cells33 p)) base G p q v1 xs v2 ys (some W.heap.size) c2 := by
  have hg := World.grownBy_alloc W (cells33 p) none
  have hold : ∀ k, k < W.heap.size → (W.alloc (cells33 p)).heap[k]? = W.heap[k]? := fun k hk => hg.block k hk (by simp)
  refine ⟨Kd.R_alloc h.r1 _, Kd.R_alloc h.r2 _, h.ne, Nat.le_trans h.sz hg.size, h.lt, fun k hk => (hold k (Nat.lt_of_lt_of_le (h.lt k hk) h.sz)).trans (h.keep k hk), h.n1, h.n2, fun b hb => ?_, fun b hb => ?_⟩
  · obtain rfl := Option.some.inj hb
    exact ⟨(MapKept.heap_alloc W _).1, fun e => by have := Kd.R_lt h.r1 _ e; omega, fun e => by have := Kd.R_lt h.r2 _ e; omega⟩
  · obtain ⟨h1, h2⟩ := h.b2 b hb
    exact ⟨(hold b (blk_lt h1)).trans h1, h2⟩
theorem PR.append {W0 w1 W : World} {base : Nat} {G : Nat → Prop} {p q : S33} {v1 v2 v : Value} {xs ys : List S33} {c1 c2 : Option Nat} (h : PR W0 W base G p q v1 xs v2 ys c1 c2)
    (hr : Kd.R k33 33 w1 base (fun _ => True) v (xs ++ [p])) (hg : W.grownBy w1 v1.ownBlock) (hat : v.ownBlock = v1.ownBlock ∨ ∃ b, v.ownBlock = some b ∧ W.heap.size ≤ b) : PR W0 w1 base G p q v (xs ++ [p]) v2 ys none c2 := by
  have hv : ∀ k, k < W.heap.size → v1.ownBlock ≠ some k → v.ownBlock ≠ some k := fun k hk hne e => by
    rcases hat with h' | ⟨b, hb, hb2⟩
    · exact hne (h'.symm.trans e)
    · rw [hb] at e; have := Option.some.inj e; omega
  refine ⟨Kd.R_mono (Kd.R_tight rfl hr) (fun _ h => h), Kd.R_grown h.r2 hg (fun k hk e => h.ne k e.symm hk.symm), fun k h1 h2 => hv k (Kd.R_lt h.r2 k h2) (fun e => h.ne k e h2) h1, Nat.le_trans h.sz hg.size, h.lt, fun k hk => (hg.block k (Nat.lt_of_lt_of_le (h.lt k hk) h.sz) (fun e => h.n1 k hk e.symm)).trans (h.keep k hk), fun k hk => hv k (Nat.lt_of_lt_of_le (h.lt k hk) h.sz) (h.n1 k hk), h.n2, fun b hb => (by cases hb), fun b hb => ?_⟩
  obtain ⟨h1, h2, h3⟩ := h.b2 b hb
  exact ⟨(hg.block b (blk_lt h1) (fun e => h2 e.symm)).trans h1, hv b (blk_lt h1) h2, h3⟩
theorem PR.start {W : World} {base : Nat} {G : Nat → Prop} {p q : S33} {v1 v2 : Value} {xs ys : List S33} (h1 : Kd.R k33 33 W base (fun k => some k = v1.ownBlock) v1 xs) (h2 : Kd.R k33 33 W base (fun k => some k = v2.ownBlock) v2 ys) (hne : ∀ k, v1.ownBlock = some k → v2.ownBlock ≠ some k)
    (hlt : ∀ k, G k → k < W.heap.size) (n1 : ∀ k, G k → v1.ownBlock ≠ some k) (n2 : ∀ k, G k → v2.ownBlock ≠ some k) : PR W W base G p q v1 xs v2 ys none none :=
  ⟨h1, h2, hne, Nat.le_refl _, hlt, fun _ _ => rfl, n1, n2, fun b hb => (by cases hb), fun b hb => (by cases hb)⟩
/-- a row that is made with room for n -/
theorem made33 {W : World} {base : Nat} (n : Nat) (hn : n ≤ 1000000) (hb : base ≤ W.heap.size) : ∃ w', (Instr.makeSlice 49 (.int .i64 0) (.int .i64 (n : Int))).run Try.prog W = .ok (.slice (some ⟨W.heap.size, 0, none⟩) 0 n) w' ∧ Kd.R k33 33 w' base (fun k => k = W.heap.size) (.slice (some ⟨W.heap.size, 0, none⟩) 0 n) [] ∧ W.grownBy w' none := by
  obtain ⟨i0, hi, hzz⟩ := Option.map_eq_some_iff.1 info33
  simp only [Prod.mk.injEq] at hzz
  obtain ⟨hz0, hz1, hz2⟩ := hzz
  obtain ⟨w', h1, h2, h3⟩ := run_make_own (P := Try.prog) W base 49 33 i0 _ 2 Try.underlying49 hi hz0 hz1 .i64 .i64 n (by rw [hz2]; omega) (by unfold maxLen; omega) hb
  exact ⟨w', h1, ⟨fun k hk => by simpa [Value.ownBlock] using hk.symm, [], h2, Reps.none _ _⟩, h3⟩
end Go.Proofs.Ytohhobcipfmkbaa.CFin
/-! cluster.sides: walked. -/
namespace Go.Proofs.Ytohhobcipfmkbaa.CFin
open Go.RowKit Go.Proofs.YtohhobcipfmkbaaW.PrintWords Go.Proofs.YtohhobcipfmkbaaW.PrintMore Go.Proofs.YtohhobcipfmkbaaW.PrintLast Go.Proofs.Ytohhobcipfmkbaa.U Go.Proofs.Ytohhobcipfmkbaa.PClusterFinest Go.Proofs.Ytohhobcipfmkbaa.UFinest Go.Proofs.Ytohhobcipfmkbaa.UFinEv
set_option linter.unusedVariables false
set_option linter.unusedSimpArgs false
set_option maxRecDepth 100000 in
set_option maxHeartbeats 2000000 in
theorem sides_c {w : World} {v : Value} {l : List S45} (h : SLk k45 w v l) (hl : l.length ≤ 1000000) :
    Calls Try.prog 52 #[v] w fun e w' => ∃ u1 u2, e = .returned (.tuple #[u1, u2]) ∧ Kd.R k33 33 w' w.heap.size (fun k => some k = u1.ownBlock) u1 (l.map (·.f0)) ∧ Kd.R k33 33 w' w.heap.size (fun k => some k = u2.ownBlock) u2 (l.map (·.f1)) ∧ (∀ k, u1.ownBlock = some k → u2.ownBlock ≠ some k) ∧ Below w.heap.size w w' := by
  obtain ⟨A, c, rfl, hcc, hC⟩ := h
  have HC := Aside0.mk hC
  have HL := Aside0.mk hl
  clear hC hcc
  go_enter Try.func52, Try.ntmps52
  go_wp2_with fail
  refine start_ (n := 8) (S := (fun W => True)) (ds := []) #[false, false, false, false, false, false, false, false] (by kernel_rfl) (by kernel_rfl) (by rfl) trivial (fun hS0 => ?_)
  refine pure_ (i := 0) (N := (some 8)) (v := ?_) (a' := ?_) #[true, false, false, false, false, false, false, false] rfl rfl (by kernel_rfl) (fun _ _ _ h => h) (Or.inl ⟨by rfl, ?_⟩) ?_ ?_
  rotate_left
  · intro w'
    go_simp
    with_reducible rfl
  rotate_left
  · simp only [Act.put, List.setIfInBounds_toArray, List.set_cons_zero, List.set_cons_succ]
    rfl
  refine pure_ (i := 1) (N := (some 9)) (v := ?_) (a' := ?_) #[true, true, false, false, false, false, false, false] rfl rfl (by kernel_rfl) (fun _ _ _ h => h) (Or.inl ⟨by rfl, ?_⟩) ?_ ?_
  rotate_left
  · intro w'
    go_simp
    with_reducible rfl
  rotate_left
  · simp only [Act.put, List.setIfInBounds_toArray, List.set_cons_zero, List.set_cons_succ]
    rfl
  refine pure_ (i := 3) (N := (some 11)) (v := ?_) (a' := ?_) #[true, true, false, true, false, false, false, false] rfl rfl (by kernel_rfl) (fun _ _ _ h => h) (Or.inl ⟨by rfl, ?_⟩) ?_ ?_
  rotate_left
  · intro w'
    go_simp
    with_reducible rfl
  rotate_left
  · simp only [Act.put, List.setIfInBounds_toArray, List.set_cons_zero, List.set_cons_succ]
    rfl
  refine pure_ (i := 4) (N := (some 12)) (v := ?_) (a' := ?_) #[true, true, false, true, true, false, false, false] rfl rfl (by kernel_rfl) (fun _ _ _ h => h) (Or.inl ⟨by rfl, ?_⟩) ?_ ?_
  rotate_left
  · intro w'
    go_simp
    with_reducible rfl
  rotate_left
  · simp only [Act.put, List.setIfInBounds_toArray, List.set_cons_zero, List.set_cons_succ]
    rfl
  clear hS0
  refine join_ (σ := Nat × Nat) 1 #[true, true, true, true, true, true, true, false] (fun s => [(10, .slice (some ⟨s.1, 0, none⟩) 0 l.length), (13, .slice (some ⟨s.2, 0, none⟩) 0 l.length), (4, .slice (some ⟨s.1, 0, none⟩) 0 l.length)]) (fun s w' => Below w.heap.size w w' ∧ Kd.R k33 33 w' w.heap.size (fun k => k = s.1) (.slice (some ⟨s.1, 0, none⟩) 0 l.length) [] ∧ Kd.R k33 33 w' w.heap.size (fun k => k = s.2) (.slice (some ⟨s.2, 0, none⟩) 0 l.length) [] ∧ s.1 ≠ s.2) ?_ (fun hcont => ?_)
  rotate_left
  · refine two_ (i := 2) (j := 5) (Ni := some 10) (Nj := some 13) #[true, true, true, true, true, false, false, false] #[true, true, false, true, true, true, false, false] rfl rfl rfl rfl (by kernel_rfl) (by decide) (by decide) (fun K hK => ?_) (fun K hK => ?_)
    · obtain ⟨wA, hr1, hR1, hg1⟩ := made33 (W := w.drew) (base := w.heap.size) l.length HL.out (Nat.le_refl _)
      refine value_ (w1 := wA) (v := .slice (some ⟨w.drew.heap.size, 0, none⟩) 0 l.length) (by rfl) rfl (by unfold execOp; simp [Act.eval, hr1]) ?_
      change K (Act.put _ (some 10) _) _
      refine hK.out _ _ trivial (fun hS0 => ?_)
      clear hK
      refine norm_ (a' := ?_) ?_ ?_
      rotate_left
      · simp only [Act.put, List.setIfInBounds_toArray, List.set_cons_zero, List.set_cons_succ]
        rfl
      refine pure_ (i := 6) (N := (some 4)) (v := ?_) (a' := ?_) #[true, true, true, true, true, false, true, false] rfl rfl (by kernel_rfl) (fun _ _ _ h => h) (Or.inl ⟨by rfl, ?_⟩) ?_ ?_
      rotate_left
      · intro w'
        go_simp
        with_reducible rfl
      rotate_left
      · simp only [Act.put, List.setIfInBounds_toArray, List.set_cons_zero, List.set_cons_succ]
        rfl
      clear hS0
      refine one_ (i := 5) (N := (some 13)) #[true, true, true, true, true, true, true, false] rfl rfl (by kernel_rfl) (by decide) (fun K hK => ?_)
      obtain ⟨wB, hr2, hR2, hg2⟩ := made33 (W := wA) (base := w.heap.size) l.length HL.out (Nat.le_trans (Nat.le_refl _) hg1.size)
      refine value_ (w1 := wB) (v := .slice (some ⟨wA.heap.size, 0, none⟩) 0 l.length) (by rfl) rfl (by unfold execOp; simp [Act.eval, hr2]) ?_
      change K (Act.put _ (some 13) _) _
      refine hK.out _ _ trivial (fun hS0 => ?_)
      clear hK
      have hR1' := Kd.R_grown hR1 hg2 (fun k hk e => by cases e)
      have hlt : w.drew.heap.size < wA.heap.size := Kd.R_lt hR1 w.drew.heap.size (by simp [Value.ownBlock])
      have hbw : Below w.heap.size w wB := (below_drew (Below.refl _ _)).grown (World.grownBy.trans hg1 hg2) (Nat.le_refl _) (fun j hj => by cases hj)
      exact hcont (_, _) wB ⟨hbw, hR1', hR2, fun e => by have : w.drew.heap.size = wA.heap.size := e; omega⟩
    · obtain ⟨wA, hr1, hR1, hg1⟩ := made33 (W := w.drew) (base := w.heap.size) l.length HL.out (Nat.le_refl _)
      refine value_ (w1 := wA) (v := .slice (some ⟨w.drew.heap.size, 0, none⟩) 0 l.length) (by rfl) rfl (by unfold execOp; simp [Act.eval, hr1]) ?_
      change K (Act.put _ (some 13) _) _
      refine hK.out _ _ trivial (fun hS0 => ?_)
      clear hK
      refine norm_ (a' := ?_) ?_ ?_
      rotate_left
      · simp only [Act.put, List.setIfInBounds_toArray, List.set_cons_zero, List.set_cons_succ]
        rfl
      clear hS0
      refine one_ (i := 2) (N := (some 10)) #[true, true, true, true, true, true, false, false] rfl rfl (by kernel_rfl) (by decide) (fun K hK => ?_)
      obtain ⟨wB, hr2, hR2, hg2⟩ := made33 (W := wA) (base := w.heap.size) l.length HL.out (Nat.le_trans (Nat.le_refl _) hg1.size)
      refine value_ (w1 := wB) (v := .slice (some ⟨wA.heap.size, 0, none⟩) 0 l.length) (by rfl) rfl (by unfold execOp; simp [Act.eval, hr2]) ?_
      change K (Act.put _ (some 10) _) _
      refine hK.out _ _ trivial (fun hS0 => ?_)
      clear hK
      refine norm_ (a' := ?_) ?_ ?_
      rotate_left
      · simp only [Act.put, List.setIfInBounds_toArray, List.set_cons_zero, List.set_cons_succ]
        rfl
      refine pure_ (i := 6) (N := (some 4)) (v := ?_) (a' := ?_) #[true, true, true, true, true, true, true, false] rfl rfl (by kernel_rfl) (fun _ _ _ h => h) (Or.inl ⟨by rfl, ?_⟩) ?_ ?_
      rotate_left
      · intro w'
        go_simp
        with_reducible rfl
      rotate_left
      · simp only [Act.put, List.setIfInBounds_toArray, List.set_cons_zero, List.set_cons_succ]
        rfl
      have hR1' := Kd.R_grown hR1 hg2 (fun k hk e => by cases e)
      have hlt : w.drew.heap.size < wA.heap.size := Kd.R_lt hR1 w.drew.heap.size (by simp [Value.ownBlock])
      have hbw : Below w.heap.size w wB := (below_drew (Below.refl _ _)).grown (World.grownBy.trans hg1 hg2) (Nat.le_refl _) (fun j hj => by cases hj)
      exact hcont (_, _) wB ⟨hbw, hR2, hR1', fun e => by have : wA.heap.size = w.drew.heap.size := e; omega⟩
  rintro ⟨g1, g2⟩ w3 ⟨hb3, hv1, hv2, hne⟩
  dsimp only [putAll]
  dsimp only at hv1 hv2 hne
  have HB3 := Aside0.mk hb3
  have HV1 := Aside0.mk (Kd.R_tight rfl hv1)
  have HV2 := Aside0.mk (Kd.R_tight rfl hv2)
  have HNE : Aside0 (∀ k, (Value.slice (some ⟨g1, 0, none⟩) 0 l.length).ownBlock = some k → (Value.slice (some ⟨g2, 0, none⟩) 0 l.length).ownBlock ≠ some k) := ⟨fun k h1 h2 => hne ((Option.some.inj h1).trans (Option.some.inj h2).symm)⟩
  clear hb3 hv1 hv2 hne
  refine norm_ (a' := ?_) ?_ ?_
  rotate_left
  · simp only [Act.put, List.setIfInBounds_toArray, List.set_cons_zero, List.set_cons_succ]
    rfl
  refine pure_ (i := 7) (N := (some 5)) (v := ?_) (a' := ?_) #[true, true, true, true, true, true, true, true] rfl rfl (by kernel_rfl) (fun _ _ _ h => h) (Or.inl ⟨by rfl, ?_⟩) ?_ ?_
  rotate_left
  · intro w'
    go_simp
    with_reducible rfl
  rotate_left
  · simp only [Act.put, List.setIfInBounds_toArray, List.set_cons_zero, List.set_cons_succ]
    rfl
  refine done_ (by kernel_rfl) ?_
  have e0 : (0 : Int).toNat = 0 := rfl
  go_wp2_with fail
  go_loopw [4, 5, 16] (fun v4 v5 v wr => ∃ k : Nat, v = .int .i64 (k : Int) ∧ k ≤ l.length ∧ Aside0 (Kd.R k33 33 wr w.heap.size (fun k => some k = v4.ownBlock) v4 ((l.take k).map (·.f0))) ∧ Aside0 (Kd.R k33 33 wr w.heap.size (fun k => some k = v5.ownBlock) v5 ((l.take k).map (·.f1))) ∧ Aside0 (∀ k, v4.ownBlock = some k → v5.ownBlock ≠ some k) ∧ Aside0 (Below w.heap.size w wr)) (fun _ _ v _ => l.length - (intOf v).toNat)
  case atStart => exact ⟨0, rfl, Nat.zero_le _, HV1, HV2, HNE, HB3⟩
  case round =>
    clear HB3 HV1 HV2 HNE e0
    obtain ⟨k, rfl, hk, HR1, HR2, HNE, HB⟩ := hrel
    by_cases hlt : k < l.length
    · obtain ⟨ad, ead, c0, c1, c2, c3⟩ := at_T45 (Kd.C_below HC.out HB.out) (k : Int) (by omega) (by omega)
      rw [rd45 hlt, Int.toNat_natCast] at c0 c1 c2 c3
      obtain ⟨x, hx⟩ : ∃ x, x = l[k] := ⟨_, rfl⟩
      rw [← hx] at c0 c1 c2 c3
      have HXE := Aside0.mk hx
      have hkI : (k : Int) < (l.length : Int) := by omega
      subst ead
      clear hx
      go_wp2_with (first | ((with_reducible refine gate_dst (N := 7) rfl ?_); refine box_event ?hg (N := 7) ?hd (cs := #[.int .i64 0, .int .i64 0, .int .i64 0, .int .i64 0]) (t := 45) ?hr ?_; (case hd => rfl); (case hg => rfl); (case hr => first | (go_simp; done) | (go_simp; rfl)); intro gb hg w6 hbox hb; have HX6 := Aside0.mk hbox; have HGB := Aside0.mk hg; have HB6 : Aside0 (Below w.heap.size w w6) := ⟨below_step HB.out hb⟩; have HR16 : Aside0 (Kd.R k33 33 w6 w.heap.size (fun k => some k = u4.ownBlock) u4 ((l.take k).map (·.f0))) := ⟨Kd.R_below HR1.out hb⟩; have HR26 : Aside0 (Kd.R k33 33 w6 w.heap.size (fun k => some k = u5.ownBlock) u5 ((l.take k).map (·.f1))) := ⟨Kd.R_below HR2.out hb⟩; have HBS := Aside0.mk HB.out.size; have z0 : w6.cell? ⟨gb, 0, none⟩ = some (.int .i64 0) := (blk_cell hbox 0).trans rfl; have z1 : w6.cell? ⟨gb, 1, none⟩ = some (.int .i64 0) := (blk_cell hbox 1).trans rfl; have z2 : w6.cell? ⟨gb, 2, none⟩ = some (.int .i64 0) := (blk_cell hbox 2).trans rfl; have z3 : w6.cell? ⟨gb, 3, none⟩ = some (.int .i64 0) := (blk_cell hbox 3).trans rfl; have f0 := blk_frozen hbox 0; have f1 := blk_frozen hbox 1; have f2 := blk_frozen hbox 2; have f3 := blk_frozen hbox 3; have HN1 : Aside0 (u4.ownBlock ≠ some gb) := ⟨fun e => by have := Kd.R_lt HR1.out gb e; omega⟩; have HN2 : Aside0 (u5.ownBlock ≠ some gb) := ⟨fun e => by have := Kd.R_lt HR2.out gb e; omega⟩; have HGE : Aside0 (w.heap.size ≤ gb) := ⟨by rw [hg]; exact HB.out.size⟩; clear hg hbox hb HB HR1 HR2))
      have HX := Aside0.mk (blk_put (blk_put (blk_put (blk_put HX6.out 0 (.int .i64 x.f0.f0) rfl) 1 (.int .i64 x.f0.f1) rfl) 2 (.int .i64 x.f1.f0) rfl) 3 (.int .i64 x.f1.f1) rfl)
      have HG7 := Aside0.mk (World.grownBy.trans (World.grownBy.trans (World.grownBy.trans (grown_set w6 gb 0 (.int .i64 x.f0.f0)) (grown_set _ gb 1 (.int .i64 x.f0.f1))) (grown_set _ gb 2 (.int .i64 x.f1.f0))) (grown_set _ gb 3 (.int .i64 x.f1.f1)))
      generalize (((w6.setCell ⟨gb, 0, none⟩ (.int .i64 x.f0.f0)).setCell ⟨gb, 1, none⟩ (.int .i64 x.f0.f1)).setCell ⟨gb, 2, none⟩ (.int .i64 x.f1.f0)).setCell ⟨gb, 3, none⟩ (.int .i64 x.f1.f1) = w7 at HX HG7 ⊢
      have HB7 : Aside0 (Below w.heap.size w w7) := ⟨HB6.out.grown HG7.out HB6.out.size (fun j hj => by obtain rfl := Option.some.inj hj; exact HGE.out)⟩
      have HR1 : Aside0 (Kd.R k33 33 w7 w.heap.size (fun k => some k = u4.ownBlock) u4 ((l.take k).map (·.f0))) := ⟨Kd.R_grown HR16.out HG7.out (fun j hj e => HN1.out (hj.symm.trans e))⟩
      have HR2 : Aside0 (Kd.R k33 33 w7 w.heap.size (fun k => some k = u5.ownBlock) u5 ((l.take k).map (·.f1))) := ⟨Kd.R_grown HR26.out HG7.out (fun j hj e => HN2.out (hj.symm.trans e))⟩
      have HPR : Aside0 (PR w7 w7.drew w.heap.size (fun k => k = gb) x.f0 x.f1 u4 ((l.take k).map (·.f0)) u5 ((l.take k).map (·.f1)) none none) := ⟨(PR.start HR1.out HR2.out HNE.out (fun k hk => by rw [hk]; exact blk_lt HX.out) (fun k hk => by rw [hk]; exact HN1.out) (fun k hk => by rw [hk]; exact HN2.out)).drew⟩
      have hlen : (l.take k).length = k := by rw [List.length_take]; omega
      have HLE := Aside0.mk hlen
      clear z0 z1 z2 z3 f0 f1 f2 f3 HX6 HB6 HR16 HR26 c0 c1 c2 c3 hlen HR1 HR2 HNE
      refine start_ (n := 12) (S := (fun W => W.heap[gb]? = some (.cells #[.int .i64 x.f0.f0, .int .i64 x.f0.f1, .int .i64 x.f1.f0, .int .i64 x.f1.f1] 45 (0, 0)))) (ds := [9]) #[false, false, false, false, false, false, false, false, false, false, false, false] (by kernel_rfl) (by kernel_rfl) (by rfl) HX.out (fun hS0 => ?_)
      refine pure_ (i := 0) (N := (some 20)) (v := ?_) (a' := ?_) #[true, false, false, false, false, false, false, false, false, false, false, false] rfl rfl (by kernel_rfl) (fun _ _ _ h => h) (Or.inl ⟨by rfl, ?_⟩) ?_ ?_
      rotate_left
      · intro w'
        go_simp
        with_reducible rfl
      rotate_left
      · simp only [Act.put, List.setIfInBounds_toArray, List.set_cons_zero, List.set_cons_succ]
        rfl
      refine pure_ (i := 1) (N := (some 21)) (v := ?_) (a' := ?_) #[true, true, false, false, false, false, false, false, false, false, false, false] rfl rfl (by kernel_rfl) (fun _ _ _ h => h) (Or.inl ⟨by rfl, ?_⟩) ?_ ?_
      rotate_left
      · intro w'
        go_simp
        with_reducible rfl
      rotate_left
      · simp only [Act.put, List.setIfInBounds_toArray, List.set_cons_zero, List.set_cons_succ]
        rfl
      refine take_ (i := 2) (N := (some 22)) (v := ?_) (a' := ?_) #[true, true, true, false, false, false, false, false, false, false, false, false] rfl rfl (by kernel_rfl) (fun _ _ _ h => h) (Or.inl ⟨by rfl, ?_⟩) hS0 ?_ ?_
      rotate_left
      · intro w' s0
        have q0 := (blk_cell s0 0).trans rfl
        have q1 := (blk_cell s0 1).trans rfl
        go_simp
        with_reducible rfl
      rotate_left
      · simp only [Act.put, List.setIfInBounds_toArray, List.set_cons_zero, List.set_cons_succ]
        rfl
      refine pure_ (i := 5) (N := (some 25)) (v := ?_) (a' := ?_) #[true, true, true, false, false, true, false, false, false, false, false, false] rfl rfl (by kernel_rfl) (fun _ _ _ h => h) (Or.inl ⟨by rfl, ?_⟩) ?_ ?_
      rotate_left
      · intro w'
        go_simp
        with_reducible rfl
      rotate_left
      · simp only [Act.put, List.setIfInBounds_toArray, List.set_cons_zero, List.set_cons_succ]
        rfl
      refine pure_ (i := 6) (N := (some 26)) (v := ?_) (a' := ?_) #[true, true, true, false, false, true, true, false, false, false, false, false] rfl rfl (by kernel_rfl) (fun _ _ _ h => h) (Or.inl ⟨by rfl, ?_⟩) ?_ ?_
      rotate_left
      · intro w'
        go_simp
        with_reducible rfl
      rotate_left
      · simp only [Act.put, List.setIfInBounds_toArray, List.set_cons_zero, List.set_cons_succ]
        rfl
      refine take_ (i := 7) (N := (some 27)) (v := ?_) (a' := ?_) #[true, true, true, false, false, true, true, true, false, false, false, false] rfl rfl (by kernel_rfl) (fun _ _ _ h => h) (Or.inl ⟨by rfl, ?_⟩) hS0 ?_ ?_
      rotate_left
      · intro w' s0
        have q0 := (blk_cell s0 2).trans rfl
        have q1 := (blk_cell s0 3).trans rfl
        go_simp
        with_reducible rfl
      rotate_left
      · simp only [Act.put, List.setIfInBounds_toArray, List.set_cons_zero, List.set_cons_succ]
        rfl
      clear hS0
      refine join_ (σ := Value × Nat × Nat) 3 #[true, true, true, true, true, true, true, true, true, false, false, false] (fun s => [(23, .slice (some ⟨s.2.1, 0, none⟩) 1 1), (24, s.1), (28, .slice (some ⟨s.2.2, 0, none⟩) 1 1)]) (fun s w' => Below w.heap.size w w' ∧ PR w7 w' w.heap.size (fun k => k = gb) x.f0 x.f1 s.1 ((l.take k).map (·.f0) ++ [x.f0]) u5 ((l.take k).map (·.f1)) none (some s.2.2)) ?_ (fun hcont => ?_)
      rotate_left
      · refine two_ (i := 3) (j := 8) (Ni := some 23) (Nj := some 28) #[true, true, true, true, false, true, true, true, false, false, false, false] #[true, true, true, false, false, true, true, true, true, false, false, false] rfl rfl rfl rfl (by kernel_rfl) (by decide) (by decide) (fun K hK => ?_) (fun K hK => ?_)
        · obtain ⟨wA, ewA⟩ : ∃ W, W = w7.drew.alloc (cells33 x.f0) := ⟨_, rfl⟩
          have hp1 := HPR.out.build
          rw [← ewA] at hp1
          have hbwA : Below w.heap.size w wA := by rw [ewA]; exact below_alloc (below_drew HB7.out) _
          refine value_ (w1 := wA) (v := .slice (some ⟨w7.drew.heap.size, 0, none⟩) 1 1) (by rfl) rfl (by rw [ewA]; go_simp) ?_
          change K (Act.put _ (some 23) _) _
          refine hK.out _ _ ((hp1.keep gb rfl).trans HX.out) (fun hS0 => ?_)
          clear hK
          refine norm_ (a' := ?_) ?_ ?_
          rotate_left
          · simp only [Act.put, List.setIfInBounds_toArray, List.set_cons_zero, List.set_cons_succ]
            rfl
          clear hS0
          refine two_ (i := 4) (j := 8) (Ni := some 24) (Nj := some 28) #[true, true, true, true, true, true, true, true, false, false, false, false] #[true, true, true, true, false, true, true, true, true, false, false, false] rfl rfl rfl rfl (by kernel_rfl) (by decide) (by decide) (fun K hK => ?_) (fun K hK => ?_)
          · refine Kd.R_append_rows_step k33 (w0 := w) w.heap.size (by rfl) (.tmp 20) (.tmp 23) 49 33 (.agg #[(.int .i64 0), (.int .i64 0)]) 16 rfl Try.underlying49 info33 rfl (by decide) (by omega) _ ((l.take k).map (·.f0)) [x.f0] (some ⟨w7.drew.heap.size, 0, none⟩) 1 1 (fun _ => True) (fun _ => False) rfl rfl (Kd.R_mono hp1.r1 (fun _ _ => trivial)) (one33 (hp1.b1 _ rfl).1) (fun y cs h => by rw [k33_open h]; exact k33_mkM _ _ _ y) (fun _ h => h.elim) (fun _ _ => trivial) hbwA (hbwA).size (by rw [List.length_map, HLE.out]; have := HL.out; omega) ?_
            intro v1 wB hv hbwB hg hat
            have hp2 := hp1.append hv hg hat
            clear hv hg hat
            change K (Act.put _ (some 24) _) _
            refine hK.out _ _ ((hp2.keep gb rfl).trans HX.out) (fun hS0 => ?_)
            clear hK
            refine norm_ (a' := ?_) ?_ ?_
            rotate_left
            · simp only [Act.put, List.setIfInBounds_toArray, List.set_cons_zero, List.set_cons_succ]
              rfl
            clear hS0
            refine one_ (i := 8) (N := (some 28)) #[true, true, true, true, true, true, true, true, true, false, false, false] rfl rfl (by kernel_rfl) (by decide) (fun K hK => ?_)
            obtain ⟨wC, ewC⟩ : ∃ W, W = wB.alloc (cells33 x.f1) := ⟨_, rfl⟩
            have hp3 := hp2.symm.build.symm
            rw [← ewC] at hp3
            have hbwC : Below w.heap.size w wC := by rw [ewC]; exact below_alloc hbwB _
            refine value_ (w1 := wC) (v := .slice (some ⟨wB.heap.size, 0, none⟩) 1 1) (by rfl) rfl (by rw [ewC]; go_simp) ?_
            change K (Act.put _ (some 28) _) _
            refine hK.out _ _ ((hp3.keep gb rfl).trans HX.out) (fun hS0 => ?_)
            clear hK
            exact hcont (v1, _, _) wC ⟨hbwC, hp3⟩
          · obtain ⟨wB, ewB⟩ : ∃ W, W = wA.alloc (cells33 x.f1) := ⟨_, rfl⟩
            have hp2 := hp1.symm.build.symm
            rw [← ewB] at hp2
            have hbwB : Below w.heap.size w wB := by rw [ewB]; exact below_alloc hbwA _
            refine value_ (w1 := wB) (v := .slice (some ⟨wA.heap.size, 0, none⟩) 1 1) (by rfl) rfl (by rw [ewB]; go_simp) ?_
            change K (Act.put _ (some 28) _) _
            refine hK.out _ _ ((hp2.keep gb rfl).trans HX.out) (fun hS0 => ?_)
            clear hK
            refine norm_ (a' := ?_) ?_ ?_
            rotate_left
            · simp only [Act.put, List.setIfInBounds_toArray, List.set_cons_zero, List.set_cons_succ]
              rfl
            clear hS0
            refine one_ (i := 4) (N := (some 24)) #[true, true, true, true, true, true, true, true, true, false, false, false] rfl rfl (by kernel_rfl) (by decide) (fun K hK => ?_)
            refine Kd.R_append_rows_step k33 (w0 := w) w.heap.size (by rfl) (.tmp 20) (.tmp 23) 49 33 (.agg #[(.int .i64 0), (.int .i64 0)]) 16 rfl Try.underlying49 info33 rfl (by decide) (by omega) _ ((l.take k).map (·.f0)) [x.f0] (some ⟨w7.drew.heap.size, 0, none⟩) 1 1 (fun _ => True) (fun _ => False) rfl rfl (Kd.R_mono hp2.r1 (fun _ _ => trivial)) (one33 (hp2.b1 _ rfl).1) (fun y cs h => by rw [k33_open h]; exact k33_mkM _ _ _ y) (fun _ h => h.elim) (fun _ _ => trivial) hbwB (hbwB).size (by rw [List.length_map, HLE.out]; have := HL.out; omega) ?_
            intro v1 wC hv hbwC hg hat
            have hp3 := hp2.append hv hg hat
            clear hv hg hat
            change K (Act.put _ (some 24) _) _
            refine hK.out _ _ ((hp3.keep gb rfl).trans HX.out) (fun hS0 => ?_)
            clear hK
            exact hcont (v1, _, _) wC ⟨hbwC, hp3⟩
        · obtain ⟨wA, ewA⟩ : ∃ W, W = w7.drew.alloc (cells33 x.f1) := ⟨_, rfl⟩
          have hp1 := HPR.out.symm.build.symm
          rw [← ewA] at hp1
          have hbwA : Below w.heap.size w wA := by rw [ewA]; exact below_alloc (below_drew HB7.out) _
          refine value_ (w1 := wA) (v := .slice (some ⟨w7.drew.heap.size, 0, none⟩) 1 1) (by rfl) rfl (by rw [ewA]; go_simp) ?_
          change K (Act.put _ (some 28) _) _
          refine hK.out _ _ ((hp1.keep gb rfl).trans HX.out) (fun hS0 => ?_)
          clear hK
          refine norm_ (a' := ?_) ?_ ?_
          rotate_left
          · simp only [Act.put, List.setIfInBounds_toArray, List.set_cons_zero, List.set_cons_succ]
            rfl
          clear hS0
          refine one_ (i := 3) (N := (some 23)) #[true, true, true, true, false, true, true, true, true, false, false, false] rfl rfl (by kernel_rfl) (by decide) (fun K hK => ?_)
          obtain ⟨wB, ewB⟩ : ∃ W, W = wA.alloc (cells33 x.f0) := ⟨_, rfl⟩
          have hp2 := hp1.build
          rw [← ewB] at hp2
          have hbwB : Below w.heap.size w wB := by rw [ewB]; exact below_alloc hbwA _
          refine value_ (w1 := wB) (v := .slice (some ⟨wA.heap.size, 0, none⟩) 1 1) (by rfl) rfl (by rw [ewB]; go_simp) ?_
          change K (Act.put _ (some 23) _) _
          refine hK.out _ _ ((hp2.keep gb rfl).trans HX.out) (fun hS0 => ?_)
          clear hK
          refine norm_ (a' := ?_) ?_ ?_
          rotate_left
          · simp only [Act.put, List.setIfInBounds_toArray, List.set_cons_zero, List.set_cons_succ]
            rfl
          clear hS0
          refine one_ (i := 4) (N := (some 24)) #[true, true, true, true, true, true, true, true, true, false, false, false] rfl rfl (by kernel_rfl) (by decide) (fun K hK => ?_)
          refine Kd.R_append_rows_step k33 (w0 := w) w.heap.size (by rfl) (.tmp 20) (.tmp 23) 49 33 (.agg #[(.int .i64 0), (.int .i64 0)]) 16 rfl Try.underlying49 info33 rfl (by decide) (by omega) _ ((l.take k).map (·.f0)) [x.f0] (some ⟨wA.heap.size, 0, none⟩) 1 1 (fun _ => True) (fun _ => False) rfl rfl (Kd.R_mono hp2.r1 (fun _ _ => trivial)) (one33 (hp2.b1 _ rfl).1) (fun y cs h => by rw [k33_open h]; exact k33_mkM _ _ _ y) (fun _ h => h.elim) (fun _ _ => trivial) hbwB (hbwB).size (by rw [List.length_map, HLE.out]; have := HL.out; omega) ?_
          intro v1 wC hv hbwC hg hat
          have hp3 := hp2.append hv hg hat
          clear hv hg hat
          change K (Act.put _ (some 24) _) _
          refine hK.out _ _ ((hp3.keep gb rfl).trans HX.out) (fun hS0 => ?_)
          clear hK
          exact hcont (v1, _, _) wC ⟨hbwC, hp3⟩
      rintro ⟨v1, b1, b2⟩ w8 ⟨hb8, hp8⟩
      dsimp only [putAll]
      dsimp only at hp8
      have HB8 := Aside0.mk hb8
      have HP8 := Aside0.mk hp8.symm
      clear hb8 hp8
      refine norm_ (a' := ?_) ?_ ?_
      rotate_left
      · simp only [Act.put, List.setIfInBounds_toArray, List.set_cons_zero, List.set_cons_succ]
        rfl
      refine last_ (i := 9) (N := (some 29)) #[true, true, true, true, true, true, true, true, true, true, false, false] rfl rfl (by kernel_rfl) (by decide) (fun K hK => ?_)
      refine Kd.R_append_rows_step k33 (w0 := w) w.heap.size (by rfl) (.tmp 25) (.tmp 28) 49 33 (.agg #[(.int .i64 0), (.int .i64 0)]) 16 rfl Try.underlying49 info33 rfl (by decide) (by omega) _ ((l.take k).map (·.f1)) [x.f1] (some ⟨b2, 0, none⟩) 1 1 (fun _ => True) (fun _ => False) rfl rfl (Kd.R_mono HP8.out.r1 (fun _ _ => trivial)) (one33 (HP8.out.b1 _ rfl).1) (fun y cs h => by rw [k33_open h]; exact k33_mkM _ _ _ y) (fun _ h => h.elim) (fun _ _ => trivial) HB8.out (HB8.out).size (by rw [List.length_map, HLE.out]; have := HL.out; omega) ?_
      intro v2 w9 hv hbw9 hg hat
      have hp9 := HP8.out.append hv hg hat
      clear hv hg hat
      have HP9 := Aside0.mk hp9.symm
      have HB9 := Aside0.mk hbw9
      clear hp9 hbw9
      change K (Act.put _ (some 29) _) _
      refine hK.out _ _ ?_
      clear hK
      refine norm_ (a' := ?_) ?_ ?_
      rotate_left
      · simp only [Act.put, List.setIfInBounds_toArray, List.set_cons_zero, List.set_cons_succ]
        rfl
      refine pure_ (i := 10) (N := (some 4)) (v := ?_) (a' := ?_) #[true, true, true, true, true, true, true, true, true, true, true, false] rfl rfl (by kernel_rfl) (fun _ _ _ h => h) (Or.inl ⟨by rfl, ?_⟩) ?_ ?_
      rotate_left
      · intro w'
        go_simp
        with_reducible rfl
      rotate_left
      · simp only [Act.put, List.setIfInBounds_toArray, List.set_cons_zero, List.set_cons_succ]
        rfl
      refine pure_ (i := 11) (N := (some 5)) (v := ?_) (a' := ?_) #[true, true, true, true, true, true, true, true, true, true, true, true] rfl rfl (by kernel_rfl) (fun _ _ _ h => h) (Or.inl ⟨by rfl, ?_⟩) ?_ ?_
      rotate_left
      · intro w'
        go_simp
        with_reducible rfl
      rotate_left
      · simp only [Act.put, List.setIfInBounds_toArray, List.set_cons_zero, List.set_cons_succ]
        rfl
      refine done_ (by kernel_rfl) ?_
      go_wp2_with fail
      have e1 : (l.take (k + 1)).map (·.f0) = (l.take k).map (·.f0) ++ [x.f0] := by rw [List.take_succ_eq_append_getElem hlt, List.map_append, ← HXE.out]; rfl
      have e2 : (l.take (k + 1)).map (·.f1) = (l.take k).map (·.f1) ++ [x.f1] := by rw [List.take_succ_eq_append_getElem hlt, List.map_append, ← HXE.out]; rfl
      exact ⟨⟨k + 1, by go_num, by omega, ⟨by rw [e1]; exact HP9.out.r1⟩, ⟨by rw [e2]; exact HP9.out.r2⟩, ⟨HP9.out.ne⟩, HB9⟩, by simp [intOf]; omega⟩
    · have ek : k = l.length := by omega
      subst ek
      go_wp2_with fail
      refine bodyPost_ret (results_tmp2 rfl _ _ _) rfl ?_
      rw [List.take_length] at HR1 HR2
      exact ⟨_, _, rfl, HR1.out, HR2.out, HNE.out, HB.out⟩
end Go.Proofs.Ytohhobcipfmkbaa.CFin
