/- Texts of this claim, cut to what it needs. -/
import Derived.Test.YtohhobcipfmkbaaKCFin3
set_option linter.unusedSimpArgs false
set_option linter.unusedVariables false
section
namespace Go.Proofs.Ytohhobcipfmkbaa.CFin
open Go.RowKit Go.Proofs.YtohhobcipfmkbaaW.PrintWords Go.Proofs.YtohhobcipfmkbaaW.PrintMore Go.Proofs.YtohhobcipfmkbaaW.PrintLast Go.Proofs.Ytohhobcipfmkbaa.U Go.Proofs.Ytohhobcipfmkbaa.PClusterFinest Go.Proofs.Ytohhobcipfmkbaa.UFinest Go.Proofs.Ytohhobcipfmkbaa.UFinEv
theorem info33 : (Try.prog.info? 33).map (fun i => (i.zero, i.size, i.bytes)) = some (some (.agg #[(.int .i64 0), (.int .i64 0)]), 2, 16) := by kernel_rfl
abbrev cells33 (p : S33) : Obj := .cells #[.int .i64 p.f0, .int .i64 p.f1] 33 (0, 0)
theorem one33 {W : World} {b : Nat} {p : S33} (h : W.heap[b]? = some (cells33 p)) : Kd.C k33 W (some ⟨b, 0, none⟩) 1 [p] := by
 refine ⟨rfl, by simp, fun hn => ⟨_, rfl, fun j x hj => ?_⟩⟩
 obtain ⟨hl, hx⟩ := List.getElem?_eq_some_iff.1 hj
 obtain rfl : j = 0 := by simpa using hl
 obtain rfl : p = x := by simpa using hx
 refine ⟨_, rfl, k33_mk W p, fun i u hu => ?_⟩
 have ea : (⟨b, 0, none⟩ : Addr).add (0 * k33.sz + i) = ⟨b, i, none⟩ := by rw [add_plain, Nat.zero_mul, Nat.zero_add]
 rw [ea, blk_cell h i]
 match i, hu with
 | 0, hu => exact hu
 | 1, hu => exact hu
structure PR (W0 W : World) (base : Nat) (G : Nat → Prop) (p q : S33) (v1 : Value) (xs : List S33) (v2 : Value) (ys : List S33) (c1 c2 : Option Nat) : Prop where
 r1 : Kd.R k33 33 W base (fun k => some k = v1.ownBlock) v1 xs
 r2 : Kd.R k33 33 W base (fun k => some k = v2.ownBlock) v2 ys
 ne : ∀ k, v1.ownBlock = some k → v2.ownBlock ≠ some k
 sz : W0.heap.size ≤ W.heap.size
 lt : ∀ k, G k → k < W0.heap.size
 keep : ∀ k, G k → W.heap[k]? = W0.heap[k]?
 n1 : ∀ k, G k → v1.ownBlock ≠ some k
 n2 : ∀ k, G k → v2.ownBlock ≠ some k
 b1 : ∀ b, c1 = some b → W.heap[b]? = some (cells33 p) ∧ v1.ownBlock ≠ some b ∧ v2.ownBlock ≠ some b
 b2 : ∀ b, c2 = some b → W.heap[b]? = some (cells33 q) ∧ v1.ownBlock ≠ some b ∧ v2.ownBlock ≠ some b
theorem PR.symm {W0 W : World} {base : Nat} {G : Nat → Prop} {p q : S33} {v1 v2 : Value} {xs ys : List S33} {c1 c2 : Option Nat} (h : PR W0 W base G p q v1 xs v2 ys c1 c2) : PR W0 W base G q p v2 ys v1 xs c2 c1 :=
 ⟨h.r2, h.r1, fun k h1 h2 => h.ne k h2 h1, h.sz, h.lt, h.keep, h.n2, h.n1, fun b hb => ⟨(h.b2 b hb).1, (h.b2 b hb).2.2, (h.b2 b hb).2.1⟩, fun b hb => ⟨(h.b1 b hb).1, (h.b1 b hb).2.2, (h.b1 b hb).2.1⟩⟩
theorem PR.drew {W0 W : World} {base : Nat} {G : Nat → Prop} {p q : S33} {v1 v2 : Value} {xs ys : List S33} {c1 c2 : Option Nat} (h : PR W0 W base G p q v1 xs v2 ys c1 c2) : PR W0 W.drew base G p q v1 xs v2 ys c1 c2 :=
 ⟨Kd.R_drew h.r1, Kd.R_drew h.r2, h.ne, h.sz, h.lt, h.keep, h.n1, h.n2, h.b1, h.b2⟩
theorem PR.build {W0 W : World} {base : Nat} {G : Nat → Prop} {p q : S33} {v1 v2 : Value} {xs ys : List S33} {c2 : Option Nat} (h : PR W0 W base G p q v1 xs v2 ys none c2) : PR W0 (W.alloc (cells33 p)) base G p q v1 xs v2 ys (some W.heap.size) c2 := by
 have hg := World.grownBy_alloc W (cells33 p) none
 have hold : ∀ k, k < W.heap.size → (W.alloc (cells33 p)).heap[k]? = W.heap[k]? := fun k hk => hg.block k hk (by simp)
 refine ⟨Kd.R_alloc h.r1 _, Kd.R_alloc h.r2 _, h.ne, Nat.le_trans h.sz hg.size, h.lt, fun k hk => (hold k (Nat.lt_of_lt_of_le (h.lt k hk) h.sz)).trans (h.keep k hk), h.n1, h.n2, fun b hb => ?_, fun b hb => ?_⟩
 ·obtain rfl := Option.some.inj hb
  exact ⟨(MapKept.heap_alloc W _).1, fun e => by have := Kd.R_lt h.r1 _ e; omega, fun e => by have := Kd.R_lt h.r2 _ e; omega⟩
 ·obtain ⟨h1, h2⟩ := h.b2 b hb
  exact ⟨(hold b (blk_lt h1)).trans h1, h2⟩
theorem PR.append {W0 w1 W : World} {base : Nat} {G : Nat → Prop} {p q : S33} {v1 v2 v : Value} {xs ys : List S33} {c1 c2 : Option Nat} (h : PR W0 W base G p q v1 xs v2 ys c1 c2)
 (hr : Kd.R k33 33 w1 base (fun _ => True) v (xs ++ [p])) (hg : W.grownBy w1 v1.ownBlock) (hat : v.ownBlock = v1.ownBlock ∨ ∃ b, v.ownBlock = some b ∧ W.heap.size ≤ b) : PR W0 w1 base G p q v (xs ++ [p]) v2 ys none c2 := by
 have hv : ∀ k, k < W.heap.size → v1.ownBlock ≠ some k → v.ownBlock ≠ some k := fun k hk hne e => by
  rcases hat with h' | ⟨b, hb, hb2⟩
  ·exact hne (h'.symm.trans e)
  ·rw [hb] at e; have := Option.some.inj e; omega
 refine ⟨Kd.R_mono (Kd.R_tight rfl hr) (fun _ h => h), Kd.R_grown h.r2 hg (fun k hk e => h.ne k e.symm hk.symm), fun k h1 h2 => hv k (Kd.R_lt h.r2 k h2) (fun e => h.ne k e h2) h1, Nat.le_trans h.sz hg.size, h.lt, fun k hk => (hg.block k (Nat.lt_of_lt_of_le (h.lt k hk) h.sz) (fun e => h.n1 k hk e.symm)).trans (h.keep k hk), fun k hk => hv k (Nat.lt_of_lt_of_le (h.lt k hk) h.sz) (h.n1 k hk), h.n2, fun b hb => (by cases hb), fun b hb => ?_⟩
 obtain ⟨h1, h2, h3⟩ := h.b2 b hb
 exact ⟨(hg.block b (blk_lt h1) (fun e => h2 e.symm)).trans h1, hv b (blk_lt h1) h2, h3⟩
theorem PR.start {W : World} {base : Nat} {G : Nat → Prop} {p q : S33} {v1 v2 : Value} {xs ys : List S33} (h1 : Kd.R k33 33 W base (fun k => some k = v1.ownBlock) v1 xs) (h2 : Kd.R k33 33 W base (fun k => some k = v2.ownBlock) v2 ys) (hne : ∀ k, v1.ownBlock = some k → v2.ownBlock ≠ some k)
 (hlt : ∀ k, G k → k < W.heap.size) (n1 : ∀ k, G k → v1.ownBlock ≠ some k) (n2 : ∀ k, G k → v2.ownBlock ≠ some k) : PR W W base G p q v1 xs v2 ys none none :=
 ⟨h1, h2, hne, Nat.le_refl _, hlt, fun _ _ => rfl, n1, n2, fun b hb => (by cases hb), fun b hb => (by cases hb)⟩
theorem made33 {W : World} {base : Nat} (n : Nat) (hn : n ≤ 1000000) (hb : base ≤ W.heap.size) : ∃ w', (Instr.makeSlice 49 (.int .i64 0) (.int .i64 (n : Int))).run Try.prog W = .ok (.slice (some ⟨W.heap.size, 0, none⟩) 0 n) w' ∧ Kd.R k33 33 w' base (fun k => k = W.heap.size) (.slice (some ⟨W.heap.size, 0, none⟩) 0 n) [] ∧ W.grownBy w' none := by
 obtain ⟨i0, hi, hzz⟩ := Option.map_eq_some_iff.1 info33
 simp only [Prod.mk.injEq] at hzz
 obtain ⟨hz0, hz1, hz2⟩ := hzz
 obtain ⟨w', h1, h2, h3⟩ := run_make_own (P := Try.prog) W base 49 33 i0 _ 2 Try.underlying49 hi hz0 hz1 .i64 .i64 n (by rw [hz2]; omega) (by unfold maxLen; omega) hb
 exact ⟨w', h1, ⟨fun k hk => by simpa [Value.ownBlock] using hk.symm, [], h2, Reps.none _ _⟩, h3⟩
end Go.Proofs.Ytohhobcipfmkbaa.CFin
namespace Go.Proofs.Ytohhobcipfmkbaa.CFin
open Go.RowKit Go.Proofs.YtohhobcipfmkbaaW.PrintWords Go.Proofs.YtohhobcipfmkbaaW.PrintMore Go.Proofs.YtohhobcipfmkbaaW.PrintLast Go.Proofs.Ytohhobcipfmkbaa.U Go.Proofs.Ytohhobcipfmkbaa.PClusterFinest Go.Proofs.Ytohhobcipfmkbaa.UFinest Go.Proofs.Ytohhobcipfmkbaa.UFinEv
set_option maxRecDepth 100000 in
set_option maxHeartbeats 2000000 in
theorem sides_c {w : World} {v : Value} {l : List S45} (h : SLk k45 w v l) (hl : l.length ≤ 1000000) :
 Calls Try.prog 52 #[v] w fun e w' => ∃ u1 u2, e = .returned (.tuple #[u1, u2]) ∧ Kd.R k33 33 w' w.heap.size (fun k => some k = u1.ownBlock) u1 (l.map (·.f0)) ∧ Kd.R k33 33 w' w.heap.size (fun k => some k = u2.ownBlock) u2 (l.map (·.f1)) ∧ (∀ k, u1.ownBlock = some k → u2.ownBlock ≠ some k) ∧ Below w.heap.size w w' := by
 obtain ⟨A, c, rfl, hcc, hC⟩ := h
 have HC := Aside0.mk hC
 have HL := Aside0.mk hl
 clear hC hcc
 go_enter Try.func52, Try.ntmps52
 go_wp2_with fail
 refine start_ (n := 8) (S := (fun W => True)) (ds := []) #[false, false, false, false, false, false, false, false] (by kernel_rfl) (by kernel_rfl) (by rfl) trivial (fun hS0 => ?_)
 refine pure_ (i := 0) (N := (some 8)) (v := ?_) (a' := ?_) #[true, false, false, false, false, false, false, false] rfl rfl (by kernel_rfl) (fun _ _ _ h => h) (Or.inl ⟨by rfl, ?_⟩) ?_ ?_
 rotate_left
 ·intro w'
  go_simp
  with_reducible rfl
 rotate_left
 ·simp only [Act.put, List.setIfInBounds_toArray, List.set_cons_zero, List.set_cons_succ]
  rfl
 refine pure_ (i := 1) (N := (some 9)) (v := ?_) (a' := ?_) #[true, true, false, false, false, false, false, false] rfl rfl (by kernel_rfl) (fun _ _ _ h => h) (Or.inl ⟨by rfl, ?_⟩) ?_ ?_
 rotate_left
 ·intro w'
  go_simp
  with_reducible rfl
 rotate_left
 ·simp only [Act.put, List.setIfInBounds_toArray, List.set_cons_zero, List.set_cons_succ]
  rfl
 refine pure_ (i := 3) (N := (some 11)) (v := ?_) (a' := ?_) #[true, true, false, true, false, false, false, false] rfl rfl (by kernel_rfl) (fun _ _ _ h => h) (Or.inl ⟨by rfl, ?_⟩) ?_ ?_
 rotate_left
 ·intro w'
  go_simp
  with_reducible rfl
 rotate_left
 ·simp only [Act.put, List.setIfInBounds_toArray, List.set_cons_zero, List.set_cons_succ]
  rfl
 refine pure_ (i := 4) (N := (some 12)) (v := ?_) (a' := ?_) #[true, true, false, true, true, false, false, false] rfl rfl (by kernel_rfl) (fun _ _ _ h => h) (Or.inl ⟨by rfl, ?_⟩) ?_ ?_
 rotate_left
 ·intro w'
  go_simp
  with_reducible rfl
 rotate_left
 ·simp only [Act.put, List.setIfInBounds_toArray, List.set_cons_zero, List.set_cons_succ]
  rfl
 clear hS0
 refine join_ (σ := Nat × Nat) 1 #[true, true, true, true, true, true, true, false] (fun s => [(10, .slice (some ⟨s.1, 0, none⟩) 0 l.length), (13, .slice (some ⟨s.2, 0, none⟩) 0 l.length), (4, .slice (some ⟨s.1, 0, none⟩) 0 l.length)]) (fun s w' => Below w.heap.size w w' ∧ Kd.R k33 33 w' w.heap.size (fun k => k = s.1) (.slice (some ⟨s.1, 0, none⟩) 0 l.length) [] ∧ Kd.R k33 33 w' w.heap.size (fun k => k = s.2) (.slice (some ⟨s.2, 0, none⟩) 0 l.length) [] ∧ s.1 ≠ s.2) ?_ (fun hcont => ?_)
 rotate_left
 ·refine two_ (i := 2) (j := 5) (Ni := some 10) (Nj := some 13) #[true, true, true, true, true, false, false, false] #[true, true, false, true, true, true, false, false] rfl rfl rfl rfl (by kernel_rfl) (by decide) (by decide) (fun K hK => ?_) (fun K hK => ?_)
  ·obtain ⟨wA, hr1, hR1, hg1⟩ := made33 (W := w.drew) (base := w.heap.size) l.length HL.out (Nat.le_refl _)
   refine value_ (w1 := wA) (v := .slice (some ⟨w.drew.heap.size, 0, none⟩) 0 l.length) (by rfl) rfl (by unfold execOp; simp [Act.eval, hr1]) ?_
   change K (Act.put _ (some 10) _) _
   refine hK.out _ _ trivial (fun hS0 => ?_)
   clear hK
   refine norm_ (a' := ?_) ?_ ?_
   rotate_left
   ·simp only [Act.put, List.setIfInBounds_toArray, List.set_cons_zero, List.set_cons_succ]
    rfl
   refine pure_ (i := 6) (N := (some 4)) (v := ?_) (a' := ?_) #[true, true, true, true, true, false, true, false] rfl rfl (by kernel_rfl) (fun _ _ _ h => h) (Or.inl ⟨by rfl, ?_⟩) ?_ ?_
   rotate_left
   ·intro w'
    go_simp
    with_reducible rfl
   rotate_left
   ·simp only [Act.put, List.setIfInBounds_toArray, List.set_cons_zero, List.set_cons_succ]
    rfl
   clear hS0
   refine one_ (i := 5) (N := (some 13)) #[true, true, true, true, true, true, true, false] rfl rfl (by kernel_rfl) (by decide) (fun K hK => ?_)
   obtain ⟨wB, hr2, hR2, hg2⟩ := made33 (W := wA) (base := w.heap.size) l.length HL.out (Nat.le_trans (Nat.le_refl _) hg1.size)
   refine value_ (w1 := wB) (v := .slice (some ⟨wA.heap.size, 0, none⟩) 0 l.length) (by rfl) rfl (by unfold execOp; simp [Act.eval, hr2]) ?_
   change K (Act.put _ (some 13) _) _
   refine hK.out _ _ trivial (fun hS0 => ?_)
   clear hK
   have hR1' := Kd.R_grown hR1 hg2 (fun k hk e => by cases e)
   have hlt : w.drew.heap.size < wA.heap.size := Kd.R_lt hR1 w.drew.heap.size (by simp [Value.ownBlock])
   have hbw : Below w.heap.size w wB := (below_drew (Below.refl _ _)).grown (World.grownBy.trans hg1 hg2) (Nat.le_refl _) (fun j hj => by cases hj)
   exact hcont (_, _) wB ⟨hbw, hR1', hR2, fun e => by have : w.drew.heap.size = wA.heap.size := e; omega⟩
  ·obtain ⟨wA, hr1, hR1, hg1⟩ := made33 (W := w.drew) (base := w.heap.size) l.length HL.out (Nat.le_refl _)
   refine value_ (w1 := wA) (v := .slice (some ⟨w.drew.heap.size, 0, none⟩) 0 l.length) (by rfl) rfl (by unfold execOp; simp [Act.eval, hr1]) ?_
   change K (Act.put _ (some 13) _) _
   refine hK.out _ _ trivial (fun hS0 => ?_)
   clear hK
   refine norm_ (a' := ?_) ?_ ?_
   rotate_left
   ·simp only [Act.put, List.setIfInBounds_toArray, List.set_cons_zero, List.set_cons_succ]
    rfl
   clear hS0
   refine one_ (i := 2) (N := (some 10)) #[true, true, true, true, true, true, false, false] rfl rfl (by kernel_rfl) (by decide) (fun K hK => ?_)
   obtain ⟨wB, hr2, hR2, hg2⟩ := made33 (W := wA) (base := w.heap.size) l.length HL.out (Nat.le_trans (Nat.le_refl _) hg1.size)
   refine value_ (w1 := wB) (v := .slice (some ⟨wA.heap.size, 0, none⟩) 0 l.length) (by rfl) rfl (by unfold execOp; simp [Act.eval, hr2]) ?_
   change K (Act.put _ (some 10) _) _
   refine hK.out _ _ trivial (fun hS0 => ?_)
   clear hK
   refine norm_ (a' := ?_) ?_ ?_
   rotate_left
   ·simp only [Act.put, List.setIfInBounds_toArray, List.set_cons_zero, List.set_cons_succ]
    rfl
   refine pure_ (i := 6) (N := (some 4)) (v := ?_) (a' := ?_) #[true, true, true, true, true, true, true, false] rfl rfl (by kernel_rfl) (fun _ _ _ h => h) (Or.inl ⟨by rfl, ?_⟩) ?_ ?_
   rotate_left
   ·intro w'
    go_simp
    with_reducible rfl
   rotate_left
   ·simp only [Act.put, List.setIfInBounds_toArray, List.set_cons_zero, List.set_cons_succ]
    rfl
   have hR1' := Kd.R_grown hR1 hg2 (fun k hk e => by cases e)
   have hlt : w.drew.heap.size < wA.heap.size := Kd.R_lt hR1 w.drew.heap.size (by simp [Value.ownBlock])
   have hbw : Below w.heap.size w wB := (below_drew (Below.refl _ _)).grown (World.grownBy.trans hg1 hg2) (Nat.le_refl _) (fun j hj => by cases hj)
   exact hcont (_, _) wB ⟨hbw, hR2, hR1', fun e => by have : wA.heap.size = w.drew.heap.size := e; omega⟩
 rintro ⟨g1, g2⟩ w3 ⟨hb3, hv1, hv2, hne⟩
 dsimp only [putAll]
 dsimp only at hv1 hv2 hne
 have HB3 := Aside0.mk hb3
 have HV1 := Aside0.mk (Kd.R_tight rfl hv1)
 have HV2 := Aside0.mk (Kd.R_tight rfl hv2)
 have HNE : Aside0 (∀ k, (Value.slice (some ⟨g1, 0, none⟩) 0 l.length).ownBlock = some k → (Value.slice (some ⟨g2, 0, none⟩) 0 l.length).ownBlock ≠ some k) := ⟨fun k h1 h2 => hne ((Option.some.inj h1).trans (Option.some.inj h2).symm)⟩
 clear hb3 hv1 hv2 hne
 refine norm_ (a' := ?_) ?_ ?_
 rotate_left
 ·simp only [Act.put, List.setIfInBounds_toArray, List.set_cons_zero, List.set_cons_succ]
  rfl
 refine pure_ (i := 7) (N := (some 5)) (v := ?_) (a' := ?_) #[true, true, true, true, true, true, true, true] rfl rfl (by kernel_rfl) (fun _ _ _ h => h) (Or.inl ⟨by rfl, ?_⟩) ?_ ?_
 rotate_left
 ·intro w'
  go_simp
  with_reducible rfl
 rotate_left
 ·simp only [Act.put, List.setIfInBounds_toArray, List.set_cons_zero, List.set_cons_succ]
  rfl
 refine done_ (by kernel_rfl) ?_
 have e0 : (0 : Int).toNat = 0 := rfl
 go_wp2_with fail
 go_loopw [4, 5, 16] (fun v4 v5 v wr => ∃ k : Nat, v = .int .i64 (k : Int) ∧ k ≤ l.length ∧ Aside0 (Kd.R k33 33 wr w.heap.size (fun k => some k = v4.ownBlock) v4 ((l.take k).map (·.f0))) ∧ Aside0 (Kd.R k33 33 wr w.heap.size (fun k => some k = v5.ownBlock) v5 ((l.take k).map (·.f1))) ∧ Aside0 (∀ k, v4.ownBlock = some k → v5.ownBlock ≠ some k) ∧ Aside0 (Below w.heap.size w wr)) (fun _ _ v _ => l.length - (intOf v).toNat)
 case atStart => exact ⟨0, rfl, Nat.zero_le _, HV1, HV2, HNE, HB3⟩
 case round =>
  clear HB3 HV1 HV2 HNE e0
  obtain ⟨k, rfl, hk, HR1, HR2, HNE, HB⟩ := hrel
  by_cases hlt : k < l.length
  ·obtain ⟨ad, ead, c0, c1, c2, c3⟩ := at_T45 (Kd.C_below HC.out HB.out) (k : Int) (by omega) (by omega)
   rw [rd45 hlt, Int.toNat_natCast] at c0 c1 c2 c3
   obtain ⟨x, hx⟩ : ∃ x, x = l[k] := ⟨_, rfl⟩
   rw [← hx] at c0 c1 c2 c3
   have HXE := Aside0.mk hx
   have hkI : (k : Int) < (l.length : Int) := by omega
   subst ead
   clear hx
   go_wp2_with (first | ((with_reducible refine gate_dst (N := 7) rfl ?_); refine box_event ?hg (N := 7) ?hd (cs := #[.int .i64 0, .int .i64 0, .int .i64 0, .int .i64 0]) (t := 45) ?hr ?_; (case hd => rfl); (case hg => rfl); (case hr => first | (go_simp; done) | (go_simp; rfl)); intro gb hg w6 hbox hb; have HX6 := Aside0.mk hbox; have HGB := Aside0.mk hg; have HB6 : Aside0 (Below w.heap.size w w6) := ⟨below_step HB.out hb⟩; have HR16 : Aside0 (Kd.R k33 33 w6 w.heap.size (fun k => some k = u4.ownBlock) u4 ((l.take k).map (·.f0))) := ⟨Kd.R_below HR1.out hb⟩; have HR26 : Aside0 (Kd.R k33 33 w6 w.heap.size (fun k => some k = u5.ownBlock) u5 ((l.take k).map (·.f1))) := ⟨Kd.R_below HR2.out hb⟩; have HBS := Aside0.mk HB.out.size; have z0 : w6.cell? ⟨gb, 0, none⟩ = some (.int .i64 0) := (blk_cell hbox 0).trans rfl; have z1 : w6.cell? ⟨gb, 1, none⟩ = some (.int .i64 0) := (blk_cell hbox 1).trans rfl; have z2 : w6.cell? ⟨gb, 2, none⟩ = some (.int .i64 0) := (blk_cell hbox 2).trans rfl; have z3 : w6.cell? ⟨gb, 3, none⟩ = some (.int .i64 0) := (blk_cell hbox 3).trans rfl; have f0 := blk_frozen hbox 0; have f1 := blk_frozen hbox 1; have f2 := blk_frozen hbox 2; have f3 := blk_frozen hbox 3; have HN1 : Aside0 (u4.ownBlock ≠ some gb) := ⟨fun e => by have := Kd.R_lt HR1.out gb e; omega⟩; have HN2 : Aside0 (u5.ownBlock ≠ some gb) := ⟨fun e => by have := Kd.R_lt HR2.out gb e; omega⟩; have HGE : Aside0 (w.heap.size ≤ gb) := ⟨by rw [hg]; exact HB.out.size⟩; clear hg hbox hb HB HR1 HR2))
   have HX := Aside0.mk (blk_put (blk_put (blk_put (blk_put HX6.out 0 (.int .i64 x.f0.f0) rfl) 1 (.int .i64 x.f0.f1) rfl) 2 (.int .i64 x.f1.f0) rfl) 3 (.int .i64 x.f1.f1) rfl)
   have HG7 := Aside0.mk (World.grownBy.trans (World.grownBy.trans (World.grownBy.trans (grown_set w6 gb 0 (.int .i64 x.f0.f0)) (grown_set _ gb 1 (.int .i64 x.f0.f1))) (grown_set _ gb 2 (.int .i64 x.f1.f0))) (grown_set _ gb 3 (.int .i64 x.f1.f1)))
   generalize (((w6.setCell ⟨gb, 0, none⟩ (.int .i64 x.f0.f0)).setCell ⟨gb, 1, none⟩ (.int .i64 x.f0.f1)).setCell ⟨gb, 2, none⟩ (.int .i64 x.f1.f0)).setCell ⟨gb, 3, none⟩ (.int .i64 x.f1.f1) = w7 at HX HG7 ⊢
   have HB7 : Aside0 (Below w.heap.size w w7) := ⟨HB6.out.grown HG7.out HB6.out.size (fun j hj => by obtain rfl := Option.some.inj hj; exact HGE.out)⟩
   have HR1 : Aside0 (Kd.R k33 33 w7 w.heap.size (fun k => some k = u4.ownBlock) u4 ((l.take k).map (·.f0))) := ⟨Kd.R_grown HR16.out HG7.out (fun j hj e => HN1.out (hj.symm.trans e))⟩
   have HR2 : Aside0 (Kd.R k33 33 w7 w.heap.size (fun k => some k = u5.ownBlock) u5 ((l.take k).map (·.f1))) := ⟨Kd.R_grown HR26.out HG7.out (fun j hj e => HN2.out (hj.symm.trans e))⟩
   have HPR : Aside0 (PR w7 w7.drew w.heap.size (fun k => k = gb) x.f0 x.f1 u4 ((l.take k).map (·.f0)) u5 ((l.take k).map (·.f1)) none none) := ⟨(PR.start HR1.out HR2.out HNE.out (fun k hk => by rw [hk]; exact blk_lt HX.out) (fun k hk => by rw [hk]; exact HN1.out) (fun k hk => by rw [hk]; exact HN2.out)).drew⟩
   have hlen : (l.take k).length = k := by rw [List.length_take]; omega
   have HLE := Aside0.mk hlen
   clear z0 z1 z2 z3 f0 f1 f2 f3 HX6 HB6 HR16 HR26 c0 c1 c2 c3 hlen HR1 HR2 HNE
   refine start_ (n := 12) (S := (fun W => W.heap[gb]? = some (.cells #[.int .i64 x.f0.f0, .int .i64 x.f0.f1, .int .i64 x.f1.f0, .int .i64 x.f1.f1] 45 (0, 0)))) (ds := [9]) #[false, false, false, false, false, false, false, false, false, false, false, false] (by kernel_rfl) (by kernel_rfl) (by rfl) HX.out (fun hS0 => ?_)
   refine pure_ (i := 0) (N := (some 20)) (v := ?_) (a' := ?_) #[true, false, false, false, false, false, false, false, false, false, false, false] rfl rfl (by kernel_rfl) (fun _ _ _ h => h) (Or.inl ⟨by rfl, ?_⟩) ?_ ?_
   rotate_left
   ·intro w'
    go_simp
    with_reducible rfl
   rotate_left
   ·simp only [Act.put, List.setIfInBounds_toArray, List.set_cons_zero, List.set_cons_succ]
    rfl
   refine pure_ (i := 1) (N := (some 21)) (v := ?_) (a' := ?_) #[true, true, false, false, false, false, false, false, false, false, false, false] rfl rfl (by kernel_rfl) (fun _ _ _ h => h) (Or.inl ⟨by rfl, ?_⟩) ?_ ?_
   rotate_left
   ·intro w'
    go_simp
    with_reducible rfl
   rotate_left
   ·simp only [Act.put, List.setIfInBounds_toArray, List.set_cons_zero, List.set_cons_succ]
    rfl
   refine take_ (i := 2) (N := (some 22)) (v := ?_) (a' := ?_) #[true, true, true, false, false, false, false, false, false, false, false, false] rfl rfl (by kernel_rfl) (fun _ _ _ h => h) (Or.inl ⟨by rfl, ?_⟩) hS0 ?_ ?_
   rotate_left
   ·intro w' s0
    have q0 := (blk_cell s0 0).trans rfl
    have q1 := (blk_cell s0 1).trans rfl
    go_simp
    with_reducible rfl
   rotate_left
   ·simp only [Act.put, List.setIfInBounds_toArray, List.set_cons_zero, List.set_cons_succ]
    rfl
   refine pure_ (i := 5) (N := (some 25)) (v := ?_) (a' := ?_) #[true, true, true, false, false, true, false, false, false, false, false, false] rfl rfl (by kernel_rfl) (fun _ _ _ h => h) (Or.inl ⟨by rfl, ?_⟩) ?_ ?_
   rotate_left
   ·intro w'
    go_simp
    with_reducible rfl
   rotate_left
   ·simp only [Act.put, List.setIfInBounds_toArray, List.set_cons_zero, List.set_cons_succ]
    rfl
   refine pure_ (i := 6) (N := (some 26)) (v := ?_) (a' := ?_) #[true, true, true, false, false, true, true, false, false, false, false, false] rfl rfl (by kernel_rfl) (fun _ _ _ h => h) (Or.inl ⟨by rfl, ?_⟩) ?_ ?_
   rotate_left
   ·intro w'
    go_simp
    with_reducible rfl
   rotate_left
   ·simp only [Act.put, List.setIfInBounds_toArray, List.set_cons_zero, List.set_cons_succ]
    rfl
   refine take_ (i := 7) (N := (some 27)) (v := ?_) (a' := ?_) #[true, true, true, false, false, true, true, true, false, false, false, false] rfl rfl (by kernel_rfl) (fun _ _ _ h => h) (Or.inl ⟨by rfl, ?_⟩) hS0 ?_ ?_
   rotate_left
   ·intro w' s0
    have q0 := (blk_cell s0 2).trans rfl
    have q1 := (blk_cell s0 3).trans rfl
    go_simp
    with_reducible rfl
   rotate_left
   ·simp only [Act.put, List.setIfInBounds_toArray, List.set_cons_zero, List.set_cons_succ]
    rfl
   clear hS0
   refine join_ (σ := Value × Nat × Nat) 3 #[true, true, true, true, true, true, true, true, true, false, false, false] (fun s => [(23, .slice (some ⟨s.2.1, 0, none⟩) 1 1), (24, s.1), (28, .slice (some ⟨s.2.2, 0, none⟩) 1 1)]) (fun s w' => Below w.heap.size w w' ∧ PR w7 w' w.heap.size (fun k => k = gb) x.f0 x.f1 s.1 ((l.take k).map (·.f0) ++ [x.f0]) u5 ((l.take k).map (·.f1)) none (some s.2.2)) ?_ (fun hcont => ?_)
   rotate_left
   ·refine two_ (i := 3) (j := 8) (Ni := some 23) (Nj := some 28) #[true, true, true, true, false, true, true, true, false, false, false, false] #[true, true, true, false, false, true, true, true, true, false, false, false] rfl rfl rfl rfl (by kernel_rfl) (by decide) (by decide) (fun K hK => ?_) (fun K hK => ?_)
    ·obtain ⟨wA, ewA⟩ : ∃ W, W = w7.drew.alloc (cells33 x.f0) := ⟨_, rfl⟩
     have hp1 := HPR.out.build
     rw [← ewA] at hp1
     have hbwA : Below w.heap.size w wA := by rw [ewA]; exact below_alloc (below_drew HB7.out) _
     refine value_ (w1 := wA) (v := .slice (some ⟨w7.drew.heap.size, 0, none⟩) 1 1) (by rfl) rfl (by rw [ewA]; go_simp) ?_
     change K (Act.put _ (some 23) _) _
     refine hK.out _ _ ((hp1.keep gb rfl).trans HX.out) (fun hS0 => ?_)
     clear hK
     refine norm_ (a' := ?_) ?_ ?_
     rotate_left
     ·simp only [Act.put, List.setIfInBounds_toArray, List.set_cons_zero, List.set_cons_succ]
      rfl
     clear hS0
     refine two_ (i := 4) (j := 8) (Ni := some 24) (Nj := some 28) #[true, true, true, true, true, true, true, true, false, false, false, false] #[true, true, true, true, false, true, true, true, true, false, false, false] rfl rfl rfl rfl (by kernel_rfl) (by decide) (by decide) (fun K hK => ?_) (fun K hK => ?_)
     ·refine Kd.R_append_rows_step k33 (w0 := w) w.heap.size (by rfl) (.tmp 20) (.tmp 23) 49 33 (.agg #[(.int .i64 0), (.int .i64 0)]) 16 rfl Try.underlying49 info33 rfl (by decide) (by omega) _ ((l.take k).map (·.f0)) [x.f0] (some ⟨w7.drew.heap.size, 0, none⟩) 1 1 (fun _ => True) (fun _ => False) rfl rfl (Kd.R_mono hp1.r1 (fun _ _ => trivial)) (one33 (hp1.b1 _ rfl).1) (fun y cs h => by rw [k33_open h]; exact k33_mkM _ _ _ y) (fun _ h => h.elim) (fun _ _ => trivial) hbwA (hbwA).size (by rw [List.length_map, HLE.out]; have := HL.out; omega) ?_
      intro v1 wB hv hbwB hg hat
      have hp2 := hp1.append hv hg hat
      clear hv hg hat
      change K (Act.put _ (some 24) _) _
      refine hK.out _ _ ((hp2.keep gb rfl).trans HX.out) (fun hS0 => ?_)
      clear hK
      refine norm_ (a' := ?_) ?_ ?_
      rotate_left
      ·simp only [Act.put, List.setIfInBounds_toArray, List.set_cons_zero, List.set_cons_succ]
       rfl
      clear hS0
      refine one_ (i := 8) (N := (some 28)) #[true, true, true, true, true, true, true, true, true, false, false, false] rfl rfl (by kernel_rfl) (by decide) (fun K hK => ?_)
      obtain ⟨wC, ewC⟩ : ∃ W, W = wB.alloc (cells33 x.f1) := ⟨_, rfl⟩
      have hp3 := hp2.symm.build.symm
      rw [← ewC] at hp3
      have hbwC : Below w.heap.size w wC := by rw [ewC]; exact below_alloc hbwB _
      refine value_ (w1 := wC) (v := .slice (some ⟨wB.heap.size, 0, none⟩) 1 1) (by rfl) rfl (by rw [ewC]; go_simp) ?_
      change K (Act.put _ (some 28) _) _
      refine hK.out _ _ ((hp3.keep gb rfl).trans HX.out) (fun hS0 => ?_)
      clear hK
      exact hcont (v1, _, _) wC ⟨hbwC, hp3⟩
     ·obtain ⟨wB, ewB⟩ : ∃ W, W = wA.alloc (cells33 x.f1) := ⟨_, rfl⟩
      have hp2 := hp1.symm.build.symm
      rw [← ewB] at hp2
      have hbwB : Below w.heap.size w wB := by rw [ewB]; exact below_alloc hbwA _
      refine value_ (w1 := wB) (v := .slice (some ⟨wA.heap.size, 0, none⟩) 1 1) (by rfl) rfl (by rw [ewB]; go_simp) ?_
      change K (Act.put _ (some 28) _) _
      refine hK.out _ _ ((hp2.keep gb rfl).trans HX.out) (fun hS0 => ?_)
      clear hK
      refine norm_ (a' := ?_) ?_ ?_
      rotate_left
      ·simp only [Act.put, List.setIfInBounds_toArray, List.set_cons_zero, List.set_cons_succ]
       rfl
      clear hS0
      refine one_ (i := 4) (N := (some 24)) #[true, true, true, true, true, true, true, true, true, false, false, false] rfl rfl (by kernel_rfl) (by decide) (fun K hK => ?_)
      refine Kd.R_append_rows_step k33 (w0 := w) w.heap.size (by rfl) (.tmp 20) (.tmp 23) 49 33 (.agg #[(.int .i64 0), (.int .i64 0)]) 16 rfl Try.underlying49 info33 rfl (by decide) (by omega) _ ((l.take k).map (·.f0)) [x.f0] (some ⟨w7.drew.heap.size, 0, none⟩) 1 1 (fun _ => True) (fun _ => False) rfl rfl (Kd.R_mono hp2.r1 (fun _ _ => trivial)) (one33 (hp2.b1 _ rfl).1) (fun y cs h => by rw [k33_open h]; exact k33_mkM _ _ _ y) (fun _ h => h.elim) (fun _ _ => trivial) hbwB (hbwB).size (by rw [List.length_map, HLE.out]; have := HL.out; omega) ?_
      intro v1 wC hv hbwC hg hat
      have hp3 := hp2.append hv hg hat
      clear hv hg hat
      change K (Act.put _ (some 24) _) _
      refine hK.out _ _ ((hp3.keep gb rfl).trans HX.out) (fun hS0 => ?_)
      clear hK
      exact hcont (v1, _, _) wC ⟨hbwC, hp3⟩
    ·obtain ⟨wA, ewA⟩ : ∃ W, W = w7.drew.alloc (cells33 x.f1) := ⟨_, rfl⟩
     have hp1 := HPR.out.symm.build.symm
     rw [← ewA] at hp1
     have hbwA : Below w.heap.size w wA := by rw [ewA]; exact below_alloc (below_drew HB7.out) _
     refine value_ (w1 := wA) (v := .slice (some ⟨w7.drew.heap.size, 0, none⟩) 1 1) (by rfl) rfl (by rw [ewA]; go_simp) ?_
     change K (Act.put _ (some 28) _) _
     refine hK.out _ _ ((hp1.keep gb rfl).trans HX.out) (fun hS0 => ?_)
     clear hK
     refine norm_ (a' := ?_) ?_ ?_
     rotate_left
     ·simp only [Act.put, List.setIfInBounds_toArray, List.set_cons_zero, List.set_cons_succ]
      rfl
     clear hS0
     refine one_ (i := 3) (N := (some 23)) #[true, true, true, true, false, true, true, true, true, false, false, false] rfl rfl (by kernel_rfl) (by decide) (fun K hK => ?_)
     obtain ⟨wB, ewB⟩ : ∃ W, W = wA.alloc (cells33 x.f0) := ⟨_, rfl⟩
     have hp2 := hp1.build
     rw [← ewB] at hp2
     have hbwB : Below w.heap.size w wB := by rw [ewB]; exact below_alloc hbwA _
     refine value_ (w1 := wB) (v := .slice (some ⟨wA.heap.size, 0, none⟩) 1 1) (by rfl) rfl (by rw [ewB]; go_simp) ?_
     change K (Act.put _ (some 23) _) _
     refine hK.out _ _ ((hp2.keep gb rfl).trans HX.out) (fun hS0 => ?_)
     clear hK
     refine norm_ (a' := ?_) ?_ ?_
     rotate_left
     ·simp only [Act.put, List.setIfInBounds_toArray, List.set_cons_zero, List.set_cons_succ]
      rfl
     clear hS0
     refine one_ (i := 4) (N := (some 24)) #[true, true, true, true, true, true, true, true, true, false, false, false] rfl rfl (by kernel_rfl) (by decide) (fun K hK => ?_)
     refine Kd.R_append_rows_step k33 (w0 := w) w.heap.size (by rfl) (.tmp 20) (.tmp 23) 49 33 (.agg #[(.int .i64 0), (.int .i64 0)]) 16 rfl Try.underlying49 info33 rfl (by decide) (by omega) _ ((l.take k).map (·.f0)) [x.f0] (some ⟨wA.heap.size, 0, none⟩) 1 1 (fun _ => True) (fun _ => False) rfl rfl (Kd.R_mono hp2.r1 (fun _ _ => trivial)) (one33 (hp2.b1 _ rfl).1) (fun y cs h => by rw [k33_open h]; exact k33_mkM _ _ _ y) (fun _ h => h.elim) (fun _ _ => trivial) hbwB (hbwB).size (by rw [List.length_map, HLE.out]; have := HL.out; omega) ?_
     intro v1 wC hv hbwC hg hat
     have hp3 := hp2.append hv hg hat
     clear hv hg hat
     change K (Act.put _ (some 24) _) _
     refine hK.out _ _ ((hp3.keep gb rfl).trans HX.out) (fun hS0 => ?_)
     clear hK
     exact hcont (v1, _, _) wC ⟨hbwC, hp3⟩
   rintro ⟨v1, b1, b2⟩ w8 ⟨hb8, hp8⟩
   dsimp only [putAll]
   dsimp only at hp8
   have HB8 := Aside0.mk hb8
   have HP8 := Aside0.mk hp8.symm
   clear hb8 hp8
   refine norm_ (a' := ?_) ?_ ?_
   rotate_left
   ·simp only [Act.put, List.setIfInBounds_toArray, List.set_cons_zero, List.set_cons_succ]
    rfl
   refine last_ (i := 9) (N := (some 29)) #[true, true, true, true, true, true, true, true, true, true, false, false] rfl rfl (by kernel_rfl) (by decide) (fun K hK => ?_)
   refine Kd.R_append_rows_step k33 (w0 := w) w.heap.size (by rfl) (.tmp 25) (.tmp 28) 49 33 (.agg #[(.int .i64 0), (.int .i64 0)]) 16 rfl Try.underlying49 info33 rfl (by decide) (by omega) _ ((l.take k).map (·.f1)) [x.f1] (some ⟨b2, 0, none⟩) 1 1 (fun _ => True) (fun _ => False) rfl rfl (Kd.R_mono HP8.out.r1 (fun _ _ => trivial)) (one33 (HP8.out.b1 _ rfl).1) (fun y cs h => by rw [k33_open h]; exact k33_mkM _ _ _ y) (fun _ h => h.elim) (fun _ _ => trivial) HB8.out (HB8.out).size (by rw [List.length_map, HLE.out]; have := HL.out; omega) ?_
   intro v2 w9 hv hbw9 hg hat
   have hp9 := HP8.out.append hv hg hat
   clear hv hg hat
   have HP9 := Aside0.mk hp9.symm
   have HB9 := Aside0.mk hbw9
   clear hp9 hbw9
   change K (Act.put _ (some 29) _) _
   refine hK.out _ _ ?_
   clear hK
   refine norm_ (a' := ?_) ?_ ?_
   rotate_left
   ·simp only [Act.put, List.setIfInBounds_toArray, List.set_cons_zero, List.set_cons_succ]
    rfl
   refine pure_ (i := 10) (N := (some 4)) (v := ?_) (a' := ?_) #[true, true, true, true, true, true, true, true, true, true, true, false] rfl rfl (by kernel_rfl) (fun _ _ _ h => h) (Or.inl ⟨by rfl, ?_⟩) ?_ ?_
   rotate_left
   ·intro w'
    go_simp
    with_reducible rfl
   rotate_left
   ·simp only [Act.put, List.setIfInBounds_toArray, List.set_cons_zero, List.set_cons_succ]
    rfl
   refine pure_ (i := 11) (N := (some 5)) (v := ?_) (a' := ?_) #[true, true, true, true, true, true, true, true, true, true, true, true] rfl rfl (by kernel_rfl) (fun _ _ _ h => h) (Or.inl ⟨by rfl, ?_⟩) ?_ ?_
   rotate_left
   ·intro w'
    go_simp
    with_reducible rfl
   rotate_left
   ·simp only [Act.put, List.setIfInBounds_toArray, List.set_cons_zero, List.set_cons_succ]
    rfl
   refine done_ (by kernel_rfl) ?_
   go_wp2_with fail
   have e1 : (l.take (k + 1)).map (·.f0) = (l.take k).map (·.f0) ++ [x.f0] := by rw [List.take_succ_eq_append_getElem hlt, List.map_append, ← HXE.out]; rfl
   have e2 : (l.take (k + 1)).map (·.f1) = (l.take k).map (·.f1) ++ [x.f1] := by rw [List.take_succ_eq_append_getElem hlt, List.map_append, ← HXE.out]; rfl
   exact ⟨⟨k + 1, by go_num, by omega, ⟨by rw [e1]; exact HP9.out.r1⟩, ⟨by rw [e2]; exact HP9.out.r2⟩, ⟨HP9.out.ne⟩, HB9⟩, by simp [intOf]; omega⟩
  ·have ek : k = l.length := by omega
   subst ek
   go_wp2_with fail
   refine bodyPost_ret (results_tmp2 rfl _ _ _) rfl ?_
   rw [List.take_length] at HR1 HR2
   exact ⟨_, _, rfl, HR1.out, HR2.out, HNE.out, HB.out⟩
end Go.Proofs.Ytohhobcipfmkbaa.CFin
end
section
namespace Go.Proofs.Ytohhobcipfmkbaa.PClusterFinest
open Go.Proofs.Ytohhobcipfmkbaa.CFin (info33)
open Go.RowKit Go.Proofs.YtohhobcipfmkbaaW.PrintWords Go.Proofs.YtohhobcipfmkbaaW.PrintLast Go.Proofs.YtohhobcipfmkbaaW.PrintMore
attribute [local go_sem] max2_int min2_int max_two min_two max_three min_three max_four min_four   -- for this text's walks alone
mutual
def span_Groups.l0 : Nat → Int → List Int → List (S33) → Int → Int → Option ((List (S33)))
 | 0, _, _, _, _, _ => none
 | k + 1, x0, x5, x16, x17, x18 => if x18 < x17 then (if 0 ≤ x18 then (if x18 < (x16.length : Int) then ((span_Right.f ((rd_T33 x16 x18).f0) ((rd_T33 x16 x18).f1)).bind fun t139 => (if t139 = true then (if ((rd_T33 x16 x18).f1) ≤ x0 then (if 0 ≤ ((rd_T33 x16 x18).f0) then (if ((rd_T33 x16 x18).f0) < (x5.length : Int) then (span_Groups.l0 k x0 (x5.set (((rd_T33 x16 x18).f0) : Int).toNat (mx (rd x5 ((rd_T33 x16 x18).f0)) ((rd_T33 x16 x18).f1))) x16 x17 (wrap64 (x18 + 1))) else (none)) else (none)) else (span_Groups.l0 k x0 x5 x16 x17 (wrap64 (x18 + 1)))) else (span_Groups.l0 k x0 x5 x16 x17 (wrap64 (x18 + 1))))) else (none)) else (none)) else (span_Groups.l1 k ([] : List (S33)) x5 (x5.length : Int) 0 0 1)
def span_Groups.l1 : Nat → List (S33) → List Int → Int → Int → Int → Int → Option ((List (S33)))
 | 0, _, _, _, _, _, _ => none
 | k + 1, x8, x44, x45, x46, x143000, x143001 => if x46 < x45 then (if 0 ≤ x46 then (if x46 < (x44.length : Int) then (if x46 = x143001 then (if x8.length < 8796093022208 then (span_Groups.l1 k (x8 ++ [(⟨x143000, x143001⟩ : S33)]) x44 x45 (wrap64 (x46 + 1)) x46 (mx (wrap64 (x46 + 1)) (rd x44 x46))) else (none)) else (span_Groups.l1 k x8 x44 x45 (wrap64 (x46 + 1)) x143000 (mx x143001 (rd x44 x46)))) else (none)) else (none)) else (if x8.length < 8796093022208 then (some (x8 ++ [(⟨x143000, x143001⟩ : S33)])) else (none))
end
def span_Groups.f (k : Nat) (a0 : Int) (l1 : List (S33)) : Option ((List (S33))) := if a0 < 1 then (some ([] : List (S33))) else (if 0 ≤ a0 then (if (a0 : Int).toNat ≤ 35184372088832 then (span_Groups.l0 k a0 (List.replicate (a0 : Int).toNat 0) l1 (l1.length : Int) 0) else (none)) else (none))
theorem span_Groups.mono_l : ∀ k, (∀ y0 y1 y2 y3 y4, LeO (span_Groups.l0 k y0 y1 y2 y3 y4) (span_Groups.l0 (k + 1) y0 y1 y2 y3 y4)) ∧ (∀ y0 y1 y2 y3 y4 y5, LeO (span_Groups.l1 k y0 y1 y2 y3 y4 y5) (span_Groups.l1 (k + 1) y0 y1 y2 y3 y4 y5))
 | 0 => ⟨fun _ _ _ _ _ r h => by simp [span_Groups.l0] at h, fun _ _ _ _ _ _ r h => by simp [span_Groups.l1] at h⟩
 | k + 1 => by
  obtain ⟨ih0, ih1⟩ := span_Groups.mono_l k
  refine ⟨?_, ?_⟩
  ·intro y0 y1 y2 y3 y4
   unfold span_Groups.l0
   repeat' first
   | (with_reducible exact ih0 _ _ _ _ _)
   | (with_reducible exact ih1 _ _ _ _ _ _)
   | (with_reducible exact LeO.refl _)
   | (with_reducible exact LeO.none _)
   | (with_reducible refine LeO.ite ?_ ?_)
   | (with_reducible refine LeO.bind ?_ (fun _ => ?_))
   | exact ih0 _ _ _ _ _
   | exact ih1 _ _ _ _ _ _
   | exact LeO.none _
   | refine LeO.ite ?_ ?_
   | refine LeO.bind ?_ (fun _ => ?_)
  ·intro y0 y1 y2 y3 y4 y5
   unfold span_Groups.l1
   repeat' first
   | (with_reducible exact ih0 _ _ _ _ _)
   | (with_reducible exact ih1 _ _ _ _ _ _)
   | (with_reducible exact LeO.refl _)
   | (with_reducible exact LeO.none _)
   | (with_reducible refine LeO.ite ?_ ?_)
   | (with_reducible refine LeO.bind ?_ (fun _ => ?_))
   | exact ih0 _ _ _ _ _
   | exact ih1 _ _ _ _ _ _
   | exact LeO.none _
   | refine LeO.ite ?_ ?_
   | refine LeO.bind ?_ (fun _ => ?_)
theorem span_Groups.mono : ∀ a0 a1 k, LeO (span_Groups.f k a0 a1) (span_Groups.f (k + 1) a0 a1) := by
 intro a0 a1 k
 obtain ⟨ih0, ih1⟩ := span_Groups.mono_l k
 unfold span_Groups.f
 repeat' first
  | (with_reducible exact ih0 _ _ _ _ _)
  | (with_reducible exact ih1 _ _ _ _ _ _)
  | (with_reducible exact LeO.refl _)
  | (with_reducible exact LeO.none _)
  | (with_reducible refine LeO.ite ?_ ?_)
  | (with_reducible refine LeO.bind ?_ (fun _ => ?_))
  | exact ih0 _ _ _ _ _
  | exact ih1 _ _ _ _ _ _
  | exact LeO.none _
  | refine LeO.ite ?_ ?_
  | refine LeO.bind ?_ (fun _ => ?_)
def span_Groups.T8 : Bool × List (List Nat × List Nat) := (true, [([], []), ([], []), ([1], [1]), ([], []), ([], []), ([4], [4]), ([3, 5], [3, 5]), ([6], [6]), ([], []), ([8], [8]), ([7, 9], [7, 9]), ([0, 2, 0, 1, 2, 3, 4, 5, 6, 7, 8, 9, 10], [0, 2]), ([11, 10, 0, 1, 2, 3, 4, 5, 6, 7, 8, 9, 10], [10, 11])])
def span_Groups.B8 : List Nat := [0, 0, 2, 0, 0, 16, 56, 120, 0, 256, 1016, 2047, 4095]
theorem span_Groups.tab8 : rtab .any (opsOf Try.f49 8) = span_Groups.T8 := by kernel_rfl
theorem span_Groups.bits8 : waitsOk span_Groups.T8.2 span_Groups.B8 = true := by kernel_rfl
set_option maxHeartbeats 8000000 in
set_option maxRecDepth 100000 in
theorem span_Groups.calls (k : Nat) (a0 : Int) (A1 : Option Addr) (c1 : Nat) (l1 : List (S33)) (r : List (S33)) (w : World) (hr1 : Kd.C k33 w A1 l1.length l1) (hc1 : l1.length ≤ c1) (h : span_Groups.f k a0 l1 = some r) :
 Calls Try.prog 49 #[.int .i64 a0, .slice A1 l1.length c1] w fun e w' => ∃ v0_ : Value, e = .returned (v0_) ∧ Kd.R k33 33 w' w.heap.size (fun _ => True) v0_ r ∧ Below w.heap.size w w' := by
 have hu33 := Try.underlying33
 have HR1 := Aside0.mk hr1
 have HC1 := Aside0.mk hc1
 clear hr1 hc1
 have HB := Aside0.mk (Below.refl w.heap.size w)
 have H : (if a0 < 1 then (some ([] : List (S33))) else (if 0 ≤ a0 then (if (a0 : Int).toNat ≤ 35184372088832 then (span_Groups.l0 k a0 (List.replicate (a0 : Int).toNat 0) l1 (l1.length : Int) 0) else (none)) else (none))) = some r := h
 clear h
 by_cases c3 : a0 < 1
 ·rw [if_pos c3] at H
  have c3b0 : decide (a0 < 1) = true := decide_eq_true c3
  clear c3
  obtain rfl := Option.some.inj H
  go_enter Try.func49, Try.ntmps49
  go_wp2
  go_ret
  exact ⟨_, by first | rfl | (simp [errW_none, errW_some] <;> rfl) | (simp [*, errW_none, errW_some] <;> rfl), by first | exact Kd.R_nil _ _ _ _ _ | exact Kd.N_nil _ _ _ _ _ | exact Kd.V_nil _ _ _ _ _ | exact Kd.Q_nil _ _ _ _ _ | exact Kd.S_nil _ _ _ _ _, by repeat (first | (with_reducible first | exact HB.out | apply below_alloc | apply pw_below_drewN | apply below_drew1) | exact HB.out)⟩
 ·rw [if_neg c3] at H
  have c3b0 : decide (a0 < 1) = false := decide_eq_false c3
  clear c3
  by_cases c4 : 0 ≤ a0
  ·rw [if_pos c4] at H
   have c4b0 := eq_true c4
   have c4b1 : decide (0 ≤ a0) = true := decide_eq_true c4
   clear c4
   by_cases c5 : (a0 : Int).toNat ≤ 35184372088832
   ·rw [if_pos c5] at H
    have c5b0 := eq_true c5
    have c5b1 : decide ((a0 : Int).toNat ≤ 35184372088832) = true := decide_eq_true c5
    clear c5
    obtain ⟨y134, hy134⟩ : ∃ y_ : List Int, y_ = (List.replicate (a0 : Int).toNat 0) := ⟨_, rfl⟩
    replace H : (span_Groups.l0 k a0 y134 l1 (l1.length : Int) 0) = some r := by first | (rw [hy134]; with_reducible exact H) | (have H2_ := (Option.bind_some _ _).symm.trans H; rw [hy134]; with_reducible exact H2_) | (have H2_ := (Option.bind_some _ _).symm.trans H; with_reducible exact H2_) | with_reducible exact H | (rw [hy134]; exact H) | exact H
    have Ny134 := Aside0.mk hy134; clear hy134
    have H' := Aside0.mk H
    clear H
    go_enter Try.func49, Try.ntmps49
    go_wp2_with (first | ((with_reducible refine gate_dst (N := 15) rfl ?_); refine Kd.R_make (Kd.int .i64) _ 3 rfl (N := 15) rfl 31 _ _ rfl a0 rfl rfl Try.underlying31 (.int .i64 0) 8 info3 rfl (by decide) (by omega) 0 (ok := fun _ => True) (okp := fun _ => True) rfl (fun _ hk => hk) trivial (of_decide_eq_true (by first | (with_reducible assumption) | assumption)) (Nat.le_trans (Nat.mul_le_mul_right _ (of_decide_eq_true (by first | (with_reducible assumption) | assumption) : a0.toNat ≤ 35184372088832)) (by omega)) (Below.refl _ _) (Nat.le_refl _) ?_; intro v135 w6 ho7 hb hg_ hnew_; clear hg_ hnew_; (first | rw [← Ny134.out] at ho7 | (simp only [Int.reduceToNat] at ho7; rw [← Ny134.out] at ho7)); have n0_ := Aside0.mk (Kd.R_lower ho7 (below_size (by repeat (first | (with_reducible first | exact HB.out | apply below_alloc | apply pw_below_drewN | apply below_drew1) | exact HB.out)))); have n1_ := Aside0.mk (below_step (by repeat (first | (with_reducible first | exact HB.out | apply below_alloc | apply pw_below_drewN | apply below_drew1) | exact HB.out)) hb); clear HB; have HO136 := n0_; have HB := n1_; clear n0_ n1_; clear hb ho7))
    go_loopg [18] k (fun kq v18 w' => ∃ (x5_1 : List Int) (x18_1 : Int), v18 = .int .i64 x18_1 ∧ Aside0 (span_Groups.l0 kq a0 x5_1 l1 (l1.length : Int) x18_1 = some r) ∧ Aside0 (kq ≤ k) ∧ Aside0 (Kd.R (Kd.int .i64) 3 w' w.heap.size (fun _ => True) v135 x5_1) ∧ Aside0 (Below w.heap.size w w'))
    case atStart => exact ⟨(y134), (0), (by first | rfl | (simp; done) | (simp [*]; done)), H', ⟨Nat.le_refl _⟩, ⟨by (with_reducible repeat (first | apply Kd.R_alloc | apply Kd.R_drewN | apply Kd.R_drew)); exact HO136.out⟩, ⟨by repeat (first | (with_reducible first | exact HB.out | apply below_alloc | apply pw_below_drewN | apply below_drew1) | exact HB.out)⟩⟩
    case round =>
     clear H'
     try clear c1
     try clear p2
     try clear c3
     try clear c3b0
     try clear c4
     try clear c4b0
     try clear c4b1
     try clear c5
     try clear c5b0
     try clear c5b1
     obtain ⟨x5_1, x18_1, rfl, HA, HK1, HO_5, HB⟩ := hrel
     cases gk with
     | zero => exact absurd HA.out (by simp [span_Groups.l0])
     | succ k1 =>
      have H := HA.out
      clear HA
      simp only [span_Groups.l0] at H
      by_cases c8 : x18_1 < (l1.length : Int)
      ·rw [if_pos c8] at H
       have c8b0 : decide (x18_1 < (l1.length : Int)) = true := decide_eq_true c8
       clear c8
       by_cases c9 : 0 ≤ x18_1
       ·rw [if_pos c9] at H
        have c9b0 : decide (0 ≤ x18_1) = true := decide_eq_true c9
        clear c9
        by_cases c10 : x18_1 < (l1.length : Int)
        ·rw [if_pos c10] at H
         have c10b0 : decide (x18_1 < (l1.length : Int)) = true := decide_eq_true c10
         clear c10
         replace H := Option.bind_eq_some_iff.mp H
         obtain ⟨t139, A110, H⟩ := H
         try dsimp only at H
         have A11 := Aside0.mk A110; clear A110
         by_cases c12 : t139 = true
         ·subst c12
          rw [if_pos rfl] at H
          by_cases c13 : ((rd_T33 l1 x18_1).f1) ≤ a0
          ·rw [if_pos c13] at H
           have c13b0 : decide (((rd_T33 l1 x18_1).f1) ≤ a0) = true := decide_eq_true c13
           clear c13
           by_cases c14 : 0 ≤ ((rd_T33 l1 x18_1).f0)
           ·rw [if_pos c14] at H
            have c14b0 : decide (0 ≤ ((rd_T33 l1 x18_1).f0)) = true := decide_eq_true c14
            clear c14
            by_cases c15 : ((rd_T33 l1 x18_1).f0) < (x5_1.length : Int)
            ·rw [if_pos c15] at H
             have c15b0 : decide (((rd_T33 l1 x18_1).f0) < (x5_1.length : Int)) = true := decide_eq_true c15
             clear c15
             obtain ⟨ji16, hji16⟩ : ∃ j_ : Int, (mx (rd x5_1 ((rd_T33 l1 x18_1).f0)) ((rd_T33 l1 x18_1).f1)) = j_ := ⟨_, rfl⟩
             replace H : (span_Groups.l0 k1 a0 (x5_1.set (((rd_T33 l1 x18_1).f0) : Int).toNat (ji16)) l1 (l1.length : Int) (wrap64 (x18_1 + 1))) = some r := by first | (rw [hji16] at H; exact H) | (simp only [hji16] at H ⊢; exact H)
             (try rw [hji16] at A11)
             have hji16_ : (if (rd x5_1 ((rd_T33 l1 x18_1).f0)) < ((rd_T33 l1 x18_1).f1) then ((rd_T33 l1 x18_1).f1) else (rd x5_1 ((rd_T33 l1 x18_1).f0))) = ji16 := hji16
             obtain ⟨y141, hy141⟩ : ∃ y_ : List Int, y_ = (x5_1.set (((rd_T33 l1 x18_1).f0) : Int).toNat (ji16)) := ⟨_, rfl⟩
             replace H : (span_Groups.l0 k1 a0 y141 l1 (l1.length : Int) (wrap64 (x18_1 + 1))) = some r := by first | (rw [hy141]; with_reducible exact H) | (have H2_ := (Option.bind_some _ _).symm.trans H; rw [hy141]; with_reducible exact H2_) | (have H2_ := (Option.bind_some _ _).symm.trans H; with_reducible exact H2_) | with_reducible exact H | (rw [hy141]; exact H) | exact H
             have Ny141 := Aside0.mk hy141; clear hy141
             have H' := Aside0.mk H
             clear H
             have p137 : 0 ≤ (x18_1 : Int) := of_decide_eq_true (by first | (with_reducible assumption) | assumption)
             have q137 : x18_1 < (l1.length : Int) := of_decide_eq_true (by first | (with_reducible assumption) | assumption)
             obtain ⟨ad137, e137, hx137_0, hx137_1⟩ := at_T33 HR1.out x18_1 p137 q137
             cases e137
             replace hx137_0 := (HB.out.cell (World.block_lt_of_cell? w _ hx137_0)).trans hx137_0
             replace hx137_1 := (HB.out.cell (World.block_lt_of_cell? w _ hx137_1)).trans hx137_1
             replace p137 := eq_true p137
             replace q137 := eq_true q137
             try go_wp2_with (first | ((with_reducible refine gate_dst (N := 7) rfl ?_); refine box_event ?hg (N := 7) ?hd (cs := #[.int .i64 0, .int .i64 0]) (t := 33) ?hr ?_; (case hd => rfl); (case hg => rfl); (case hr => first | (go_simp; done) | (go_simp; rfl)); intro gb138 hg w18 hbox hb; have n0_ := Aside0.mk (Kd.R_below (by (with_reducible repeat (first | apply Kd.R_alloc | apply Kd.R_drewN | apply Kd.R_drew)); exact HO_5.out) hb); have n1_ := Aside0.mk (below_step (by repeat (first | (with_reducible first | exact HB.out | apply below_alloc | apply pw_below_drewN | apply below_drew1) | exact HB.out)) hb); have n2_ := Aside0.mk (hbox); have n3_ := Aside0.mk ((by rw [hg]; exact (below_size (by repeat (first | (with_reducible first | exact HB.out | apply below_alloc | apply pw_below_drewN | apply below_drew1) | exact HB.out))) : w.heap.size ≤ gb138)); have n4_ := Aside0.mk ((by rw [hg]; exact (below_size (by repeat (first | (with_reducible first | exact HB.out | apply below_alloc | apply pw_below_drewN | apply below_drew1) | exact HB.out))) : w.heap.size ≤ gb138)); clear HO_5; clear HB; have HO_5 := n0_; have HB := n1_; have BK138 := n2_; have GW138 := n3_; have GE138 := n4_; clear n0_ n1_ n2_ n3_ n4_; clear hb hbox hg; have hcz19_0 : w18.cell? ⟨gb138, 0, none⟩ = some (.int .i64 0) := (blk_cell BK138.out 0).trans rfl; have hcz19_1 : w18.cell? ⟨gb138, 1, none⟩ = some (.int .i64 0) := (blk_cell BK138.out 1).trans rfl; have hfz19_0 := blk_frozen BK138.out 0; have hfz19_1 := blk_frozen BK138.out 1) | ((with_reducible refine gate_callee (f := 50) rfl ?_); refine goesL_ (some 23) rfl rfl Try.func50 (by kernel_rfl) rfl #[.agg #[.int .i64 ((rd_T33 l1 x18_1).f0), .int .i64 ((rd_T33 l1 x18_1).f1)]] rfl (by (try simp only [List.map_toArray, List.map_cons, List.map_nil]); first | done | rfl | (simp only [List.length_drop, List.length_take]; rfl)) ?_; (with_reducible refine (span_Right.calls ((rd_T33 l1 x18_1).f0) ((rd_T33 l1 x18_1).f1) true _ A11.out).mono ?_); rintro e w20 ⟨rfl, hb⟩; refine ⟨_, rfl, ?_⟩; have n0_ := Aside0.mk (Kd.R_below (by (with_reducible repeat (first | apply Kd.R_alloc | apply Kd.R_drewN | apply Kd.R_drew)); exact (Kd.R_mono (Kd.R_far (p := ⟨gb138, 1, none⟩) (Kd.R_far (p := ⟨gb138, 0, none⟩) (Kd.R_types HO_5.out BK138.out (by decide)) (fun _ hk => hk.2) (.int .i64 ((rd_T33 l1 x18_1).f0))) (fun _ hk => hk.2) (.int .i64 ((rd_T33 l1 x18_1).f1))) (fun _ h_ => h_.1))) hb); have n1_ := Aside0.mk (blk_below (g := gb138) (o := .cells #[.int .i64 ((rd_T33 l1 x18_1).f0), .int .i64 ((rd_T33 l1 x18_1).f1)] 33 (0, 0)) (by (with_reducible repeat (first | refine blk_drewN ?_ _ | refine blk_drew ?_ | refine blk_alloc ?_ _)); refine blk_put (cs := #[.int .i64 ((rd_T33 l1 x18_1).f0), .int .i64 0]) ?_ 1 _ rfl; (with_reducible repeat (first | refine blk_drewN ?_ _ | refine blk_drew ?_ | refine blk_alloc ?_ _)); refine blk_put (cs := #[.int .i64 0, .int .i64 0]) ?_ 0 _ rfl; (with_reducible repeat (first | refine blk_drewN ?_ _ | refine blk_drew ?_ | refine blk_alloc ?_ _)); exact BK138.out) hb); have n2_ := Aside0.mk (below_step (by repeat (first | (with_reducible first | exact HB.out | apply below_alloc | apply pw_below_drewN | apply below_drew1 | refine below_set ?_ GE138.out) | exact HB.out)) hb); clear HO_5; clear BK138; clear HB; have HO_5 := n0_; have BK138 := n1_; have HB := n2_; clear n0_ n1_ n2_; (try clear hb); (try clear hb2); (try clear hk); (try clear hi); have hcz21_0 : w20.cell? ⟨gb138, 0, none⟩ = some (.int .i64 ((rd_T33 l1 x18_1).f0)) := (blk_cell BK138.out 0).trans rfl; have hcz21_1 : w20.cell? ⟨gb138, 1, none⟩ = some (.int .i64 ((rd_T33 l1 x18_1).f1)) := (blk_cell BK138.out 1).trans rfl; have hfz21_0 := blk_frozen BK138.out 0; have hfz21_1 := blk_frozen BK138.out 1))
             have n0_ := Aside0.mk (Kd.R_drew HO_5.out)
             have n1_ := Aside0.mk (blk_drew BK138.out)
             have n2_ := Aside0.mk (below_drew1 HB.out)
             clear HO_5
             clear BK138
             clear HB
             have HO_5 := n0_
             have BK138 := n1_
             have HB := n2_
             clear n0_ n1_ n2_
             obtain ⟨Ao23, co23, eo23⟩ := Kd.R_slice HO_5.out
             (first | subst eo23 | (injection eo23 with f1_ f2_ f3_; have f4_ := f1_.symm; have f5_ := f3_.symm; clear f1_ f2_ f3_; subst f4_; subst f5_))
             have p140 : 0 ≤ (((rd_T33 l1 x18_1).f0) : Int) := of_decide_eq_true (by first | (with_reducible assumption) | assumption)
             have q140 : ((rd_T33 l1 x18_1).f0) < (x5_1.length : Int) := of_decide_eq_true (by first | (with_reducible assumption) | assumption)
             obtain ⟨ad140, e140, hx140_0⟩ := Kd.at_int (Kd.R_reads' HO_5.out).2.2 ((rd_T33 l1 x18_1).f0) p140 q140
             cases e140
             replace p140 := eq_true p140
             replace q140 := eq_true q140
             have p17 : 0 ≤ (((rd_T33 l1 x18_1).f0) : Int) := of_decide_eq_true (by first | (with_reducible assumption) | assumption)
             have q17 : (((rd_T33 l1 x18_1).f0) : Int) < ((x5_1.length : Int) : Int) := of_decide_eq_true (by first | (with_reducible assumption) | assumption)
             obtain ⟨go17, co17, eo17, gb17, gl17, cl17, HG17⟩ := Kd.R_form HO_5.out (by omega)
             (first | cases eo17 | (injection eo17 with ea_ en_ ec_; (first | subst ea_ | (injection ea_ with ea_; subst ea_)); subst ec_; clear en_))
             have GB17 := Aside0.mk gb17
             have GG17 := Aside0.mk HG17
             clear gb17 gl17 HG17
             (first | simp only [add_plain] at hx140_0 | skip)
             obtain ⟨hx17_0, hf17_0⟩ := Kd.R_celln 0 HO_5.out (((rd_T33 l1 x18_1).f0) : Int) p17 q17
             replace p17 := eq_true p17
             replace q17 := eq_true q17
             have HP24 := Kd.R_putn HO_5.out (((rd_T33 l1 x18_1).f0) : Int) ji16
             rw [← Ny141.out] at HP24
             have HQ24 := Aside0.mk HP24; clear HP24
             refine start_ (n := 13) (S := fun w' => w'.cell? ⟨gb138, 0, none⟩ = some (.int .i64 ((rd_T33 l1 x18_1).f0)) ∧ w'.cell? ⟨gb138, 1, none⟩ = some (.int .i64 ((rd_T33 l1 x18_1).f1)) ∧ w'.cell? ⟨go17, (((rd_T33 l1 x18_1).f0)).toNat, none⟩ = some (.int .i64 (rd x5_1 ((rd_T33 l1 x18_1).f0)))) (ds := [12]) #[false, false, false, false, false, false, false, false, false, false, false, false, false] (by kernel_rfl) rfl rfl ⟨(blk_cell BK138.out 0).trans rfl, (blk_cell BK138.out 1).trans rfl, hx140_0⟩ (fun hHeld => ?_); refine with_tabW span_Groups.tab8 span_Groups.bits8 (fun HT_ HW_ => ?_)
             generalize w20.drew = w22 at HO_5 BK138 HB GG17 HQ24 hf17_0 hx140_0 hx17_0 hHeld ⊢
             refine pure_ (i := 0) (N := some 30) (v := ?_) (a' := ?_) #[true, false, false, false, false, false, false, false, false, false, false, false, false] rfl rfl (any_of HT_.out (by kernel_rfl)) (fun _ _ _ h => h) (Or.inl ⟨by rfl, ?_⟩) ?_ ?_
             rotate_left
             ·intro w'
              go_simp
              with_reducible rfl
             rotate_left
             ·simp only [Act.put, List.setIfInBounds_toArray, List.set_cons_zero, List.set_cons_succ, i64_w, i32_w]
              rfl
             refine pure_ (i := 1) (N := some 31) (v := ?_) (a' := ?_) #[true, true, false, false, false, false, false, false, false, false, false, false, false] rfl rfl (any_of HT_.out (by kernel_rfl)) (fun _ _ _ h => h) (Or.inl ⟨by rfl, ?_⟩) ?_ ?_
             rotate_left
             ·intro w'
              go_simp
              with_reducible rfl
             rotate_left
             ·simp only [Act.put, List.setIfInBounds_toArray, List.set_cons_zero, List.set_cons_succ, i64_w, i32_w]
              rfl
             refine pure_ (i := 3) (N := some 33) (v := ?_) (a' := ?_) #[true, true, false, true, false, false, false, false, false, false, false, false, false] rfl rfl (any_of HT_.out (by kernel_rfl)) (fun _ _ _ h => h) (Or.inl ⟨by rfl, ?_⟩) ?_ ?_
             rotate_left
             ·intro w'
              go_simp
              with_reducible rfl
             rotate_left
             ·simp only [Act.put, List.setIfInBounds_toArray, List.set_cons_zero, List.set_cons_succ, i64_w, i32_w]
              rfl
             refine pure_ (i := 4) (N := some 34) (v := ?_) (a' := ?_) #[true, true, false, true, true, false, false, false, false, false, false, false, false] rfl rfl (any_of HT_.out (by kernel_rfl)) (fun _ _ _ h => h) (Or.inl ⟨by rfl, ?_⟩) ?_ ?_
             rotate_left
             ·intro w'
              go_simp
              with_reducible rfl
             rotate_left
             ·simp only [Act.put, List.setIfInBounds_toArray, List.set_cons_zero, List.set_cons_succ, i64_w, i32_w]
              rfl
             refine pure_ (i := 8) (N := some 38) (v := ?_) (a' := ?_) #[true, true, false, true, true, false, false, false, true, false, false, false, false] rfl rfl (any_of HT_.out (by kernel_rfl)) (fun _ _ _ h => h) (Or.inl ⟨by rfl, ?_⟩) ?_ ?_
             rotate_left
             ·intro w'
              go_simp
              with_reducible rfl
             rotate_left
             ·simp only [Act.put, List.setIfInBounds_toArray, List.set_cons_zero, List.set_cons_succ, i64_w, i32_w]
              rfl
             refine take_ (i := 2) (N := some 32) (v := ?_) (a' := ?_) #[true, true, true, true, true, false, false, false, true, false, false, false, false] rfl rfl (take_ofW HT_.out HW_.out (by kernel_rfl)) (fun _ _ _ h => h) (Or.inl ⟨by rfl, ?_⟩) hHeld ?_ ?_
             rotate_left
             ·rintro w' ⟨s0, s1, s2⟩
              go_simp
              with_reducible rfl
             rotate_left
             ·simp only [Act.put, List.setIfInBounds_toArray, List.set_cons_zero, List.set_cons_succ, i64_w, i32_w]
              rfl
             refine take_ (i := 5) (N := some 35) (v := ?_) (a' := ?_) #[true, true, true, true, true, true, false, false, true, false, false, false, false] rfl rfl (take_ofW HT_.out HW_.out (by kernel_rfl)) (fun _ _ _ h => h) (Or.inl ⟨by rfl, ?_⟩) hHeld ?_ ?_
             rotate_left
             ·rintro w' ⟨s0, s1, s2⟩
              go_simp
              with_reducible rfl
             rotate_left
             ·simp only [Act.put, List.setIfInBounds_toArray, List.set_cons_zero, List.set_cons_succ, i64_w, i32_w]
              rfl
             refine pure_ (i := 6) (N := some 36) (v := ?_) (a' := ?_) #[true, true, true, true, true, true, true, false, true, false, false, false, false] rfl rfl (any_of HT_.out (by kernel_rfl)) (fun _ _ _ h => h) (Or.inl ⟨by rfl, ?_⟩) ?_ ?_
             rotate_left
             ·intro w'
              go_simp
              with_reducible rfl
             rotate_left
             ·simp only [Act.put, List.setIfInBounds_toArray, List.set_cons_zero, List.set_cons_succ, i64_w, i32_w]
              rfl
             refine take_ (i := 7) (N := some 37) (v := ?_) (a' := ?_) #[true, true, true, true, true, true, true, true, true, false, false, false, false] rfl rfl (take_ofW HT_.out HW_.out (by kernel_rfl)) (fun _ _ _ h => h) (Or.inl ⟨by rfl, ?_⟩) hHeld ?_ ?_
             rotate_left
             ·rintro w' ⟨s0, s1, s2⟩
              go_simp
              with_reducible rfl
             rotate_left
             ·simp only [Act.put, List.setIfInBounds_toArray, List.set_cons_zero, List.set_cons_succ, i64_w, i32_w]
              rfl
             refine take_ (i := 9) (N := some 39) (v := ?_) (a' := ?_) #[true, true, true, true, true, true, true, true, true, true, false, false, false] rfl rfl (take_ofW HT_.out HW_.out (by kernel_rfl)) (fun _ _ _ h => h) (Or.inl ⟨by rfl, ?_⟩) hHeld ?_ ?_
             rotate_left
             ·rintro w' ⟨s0, s1, s2⟩
              go_simp
              with_reducible rfl
             rotate_left
             ·simp only [Act.put, List.setIfInBounds_toArray, List.set_cons_zero, List.set_cons_succ, i64_w, i32_w]
              rfl
             refine pure_ (i := 10) (N := some 40) (v := ?_) (a' := ?_) #[true, true, true, true, true, true, true, true, true, true, true, false, false] rfl rfl (any_of HT_.out (by kernel_rfl)) (fun _ _ _ h => h) (Or.inl ⟨by rfl, ?_⟩) ?_ ?_
             rotate_left
             ·intro w'
              go_simp
              with_reducible rfl
             rotate_left
             ·simp only [Act.put, List.setIfInBounds_toArray, List.set_cons_zero, List.set_cons_succ, i64_w, i32_w]
              rfl
             refine pure_ (i := 11) (N := some 41) (v := ?_) (a' := ?_) #[true, true, true, true, true, true, true, true, true, true, true, true, false] rfl rfl (any_of HT_.out (by kernel_rfl)) (fun _ _ _ h => h) (Or.inl ⟨by rfl, ?_⟩) ?_ ?_
             rotate_left
             ·intro w'
              go_simp
              with_reducible rfl
             rotate_left
             ·simp only [Act.put, List.setIfInBounds_toArray, List.set_cons_zero, List.set_cons_succ, i64_w, i32_w]
              rfl
             refine last_ (i := 12) (N := none) #[true, true, true, true, true, true, true, true, true, true, true, true, true] rfl rfl (one_of HT_.out (by kernel_rfl)) (by decide) (fun K hK => ?_)
             refine skip_ (w1 := ?_) (by rfl) rfl ?_ ?_
             rotate_left
             ·go_simp
              rfl
             refine hK.out _ _ ?_
             clear hK K
             refine done_ (done_of HT_.out (by kernel_rfl)) ?_
             try go_wp2
             go_roundg k1
             case measure => have := HK1.out; omega
             case rel => exact ⟨(y141), (wrap64 (x18_1 + 1)), (by first | rfl | (simp; done) | (simp [*]; done)), H', ⟨by have := HK1.out; omega⟩, ⟨by (with_reducible repeat (first | apply Kd.R_alloc | apply Kd.R_drewN | apply Kd.R_drew)); exact HQ24.out⟩, ⟨by repeat (first | (with_reducible first | exact HB.out | apply below_alloc | apply pw_below_drewN | apply below_drew1 | refine below_set ?_ GB17.out | refine below_set ?_ GE138.out) | exact HB.out)⟩⟩
            ·rw [if_neg c15] at H
             exact absurd H (by simp)
           ·rw [if_neg c14] at H
            exact absurd H (by simp)
          ·rw [if_neg c13] at H
           have c13b0 : decide (((rd_T33 l1 x18_1).f1) ≤ a0) = false := decide_eq_false c13
           clear c13
           have H' := Aside0.mk H
           clear H
           have p137 : 0 ≤ (x18_1 : Int) := of_decide_eq_true (by first | (with_reducible assumption) | assumption)
           have q137 : x18_1 < (l1.length : Int) := of_decide_eq_true (by first | (with_reducible assumption) | assumption)
           obtain ⟨ad137, e137, hx137_0, hx137_1⟩ := at_T33 HR1.out x18_1 p137 q137
           cases e137
           replace hx137_0 := (HB.out.cell (World.block_lt_of_cell? w _ hx137_0)).trans hx137_0
           replace hx137_1 := (HB.out.cell (World.block_lt_of_cell? w _ hx137_1)).trans hx137_1
           replace p137 := eq_true p137
           replace q137 := eq_true q137
           go_wp2_with (first | ((with_reducible refine gate_dst (N := 7) rfl ?_); refine box_event ?hg (N := 7) ?hd (cs := #[.int .i64 0, .int .i64 0]) (t := 33) ?hr ?_; (case hd => rfl); (case hg => rfl); (case hr => first | (go_simp; done) | (go_simp; rfl)); intro gb138 hg w25 hbox hb; have n0_ := Aside0.mk (Kd.R_below (by (with_reducible repeat (first | apply Kd.R_alloc | apply Kd.R_drewN | apply Kd.R_drew)); exact HO_5.out) hb); have n1_ := Aside0.mk (below_step (by repeat (first | (with_reducible first | exact HB.out | apply below_alloc | apply pw_below_drewN | apply below_drew1) | exact HB.out)) hb); have n2_ := Aside0.mk (hbox); have n3_ := Aside0.mk ((by rw [hg]; exact (below_size (by repeat (first | (with_reducible first | exact HB.out | apply below_alloc | apply pw_below_drewN | apply below_drew1) | exact HB.out))) : w.heap.size ≤ gb138)); have n4_ := Aside0.mk ((by rw [hg]; exact (below_size (by repeat (first | (with_reducible first | exact HB.out | apply below_alloc | apply pw_below_drewN | apply below_drew1) | exact HB.out))) : w.heap.size ≤ gb138)); clear HO_5; clear HB; have HO_5 := n0_; have HB := n1_; have BK138 := n2_; have GW138 := n3_; have GE138 := n4_; clear n0_ n1_ n2_ n3_ n4_; clear hb hbox hg; have hcz26_0 : w25.cell? ⟨gb138, 0, none⟩ = some (.int .i64 0) := (blk_cell BK138.out 0).trans rfl; have hcz26_1 : w25.cell? ⟨gb138, 1, none⟩ = some (.int .i64 0) := (blk_cell BK138.out 1).trans rfl; have hfz26_0 := blk_frozen BK138.out 0; have hfz26_1 := blk_frozen BK138.out 1) | ((with_reducible refine gate_callee (f := 50) rfl ?_); refine goesL_ (some 23) rfl rfl Try.func50 (by kernel_rfl) rfl #[.agg #[.int .i64 ((rd_T33 l1 x18_1).f0), .int .i64 ((rd_T33 l1 x18_1).f1)]] rfl (by (try simp only [List.map_toArray, List.map_cons, List.map_nil]); first | done | rfl | (simp only [List.length_drop, List.length_take]; rfl)) ?_; (with_reducible refine (span_Right.calls ((rd_T33 l1 x18_1).f0) ((rd_T33 l1 x18_1).f1) true _ A11.out).mono ?_); rintro e w27 ⟨rfl, hb⟩; refine ⟨_, rfl, ?_⟩; have n0_ := Aside0.mk (Kd.R_below (by (with_reducible repeat (first | apply Kd.R_alloc | apply Kd.R_drewN | apply Kd.R_drew)); exact (Kd.R_mono (Kd.R_far (p := ⟨gb138, 1, none⟩) (Kd.R_far (p := ⟨gb138, 0, none⟩) (Kd.R_types HO_5.out BK138.out (by decide)) (fun _ hk => hk.2) (.int .i64 ((rd_T33 l1 x18_1).f0))) (fun _ hk => hk.2) (.int .i64 ((rd_T33 l1 x18_1).f1))) (fun _ h_ => h_.1))) hb); have n1_ := Aside0.mk (blk_below (g := gb138) (o := .cells #[.int .i64 ((rd_T33 l1 x18_1).f0), .int .i64 ((rd_T33 l1 x18_1).f1)] 33 (0, 0)) (by (with_reducible repeat (first | refine blk_drewN ?_ _ | refine blk_drew ?_ | refine blk_alloc ?_ _)); refine blk_put (cs := #[.int .i64 ((rd_T33 l1 x18_1).f0), .int .i64 0]) ?_ 1 _ rfl; (with_reducible repeat (first | refine blk_drewN ?_ _ | refine blk_drew ?_ | refine blk_alloc ?_ _)); refine blk_put (cs := #[.int .i64 0, .int .i64 0]) ?_ 0 _ rfl; (with_reducible repeat (first | refine blk_drewN ?_ _ | refine blk_drew ?_ | refine blk_alloc ?_ _)); exact BK138.out) hb); have n2_ := Aside0.mk (below_step (by repeat (first | (with_reducible first | exact HB.out | apply below_alloc | apply pw_below_drewN | apply below_drew1 | refine below_set ?_ GE138.out) | exact HB.out)) hb); clear HO_5; clear BK138; clear HB; have HO_5 := n0_; have BK138 := n1_; have HB := n2_; clear n0_ n1_ n2_; (try clear hb); (try clear hb2); (try clear hk); (try clear hi); have hcz28_0 : w27.cell? ⟨gb138, 0, none⟩ = some (.int .i64 ((rd_T33 l1 x18_1).f0)) := (blk_cell BK138.out 0).trans rfl; have hcz28_1 : w27.cell? ⟨gb138, 1, none⟩ = some (.int .i64 ((rd_T33 l1 x18_1).f1)) := (blk_cell BK138.out 1).trans rfl; have hfz28_0 := blk_frozen BK138.out 0; have hfz28_1 := blk_frozen BK138.out 1))
           go_roundg k1
           case measure => have := HK1.out; omega
           case rel => exact ⟨(x5_1), (wrap64 (x18_1 + 1)), (by first | rfl | (simp; done) | (simp [*]; done)), H', ⟨by have := HK1.out; omega⟩, ⟨by (with_reducible repeat (first | apply Kd.R_alloc | apply Kd.R_drewN | apply Kd.R_drew)); exact HO_5.out⟩, ⟨by repeat (first | (with_reducible first | exact HB.out | apply below_alloc | apply pw_below_drewN | apply below_drew1 | refine below_set ?_ GE138.out) | exact HB.out)⟩⟩
         ·replace c12 := Bool.eq_false_iff.mpr c12
          subst c12
          rw [if_neg (show ¬ (false = true) by decide)] at H
          have H' := Aside0.mk H
          clear H
          have p137 : 0 ≤ (x18_1 : Int) := of_decide_eq_true (by first | (with_reducible assumption) | assumption)
          have q137 : x18_1 < (l1.length : Int) := of_decide_eq_true (by first | (with_reducible assumption) | assumption)
          obtain ⟨ad137, e137, hx137_0, hx137_1⟩ := at_T33 HR1.out x18_1 p137 q137
          cases e137
          replace hx137_0 := (HB.out.cell (World.block_lt_of_cell? w _ hx137_0)).trans hx137_0
          replace hx137_1 := (HB.out.cell (World.block_lt_of_cell? w _ hx137_1)).trans hx137_1
          replace p137 := eq_true p137
          replace q137 := eq_true q137
          go_wp2_with (first | ((with_reducible refine gate_dst (N := 7) rfl ?_); refine box_event ?hg (N := 7) ?hd (cs := #[.int .i64 0, .int .i64 0]) (t := 33) ?hr ?_; (case hd => rfl); (case hg => rfl); (case hr => first | (go_simp; done) | (go_simp; rfl)); intro gb138 hg w29 hbox hb; have n0_ := Aside0.mk (Kd.R_below (by (with_reducible repeat (first | apply Kd.R_alloc | apply Kd.R_drewN | apply Kd.R_drew)); exact HO_5.out) hb); have n1_ := Aside0.mk (below_step (by repeat (first | (with_reducible first | exact HB.out | apply below_alloc | apply pw_below_drewN | apply below_drew1) | exact HB.out)) hb); have n2_ := Aside0.mk (hbox); have n3_ := Aside0.mk ((by rw [hg]; exact (below_size (by repeat (first | (with_reducible first | exact HB.out | apply below_alloc | apply pw_below_drewN | apply below_drew1) | exact HB.out))) : w.heap.size ≤ gb138)); have n4_ := Aside0.mk ((by rw [hg]; exact (below_size (by repeat (first | (with_reducible first | exact HB.out | apply below_alloc | apply pw_below_drewN | apply below_drew1) | exact HB.out))) : w.heap.size ≤ gb138)); clear HO_5; clear HB; have HO_5 := n0_; have HB := n1_; have BK138 := n2_; have GW138 := n3_; have GE138 := n4_; clear n0_ n1_ n2_ n3_ n4_; clear hb hbox hg; have hcz30_0 : w29.cell? ⟨gb138, 0, none⟩ = some (.int .i64 0) := (blk_cell BK138.out 0).trans rfl; have hcz30_1 : w29.cell? ⟨gb138, 1, none⟩ = some (.int .i64 0) := (blk_cell BK138.out 1).trans rfl; have hfz30_0 := blk_frozen BK138.out 0; have hfz30_1 := blk_frozen BK138.out 1) | ((with_reducible refine gate_callee (f := 50) rfl ?_); refine goesL_ (some 23) rfl rfl Try.func50 (by kernel_rfl) rfl #[.agg #[.int .i64 ((rd_T33 l1 x18_1).f0), .int .i64 ((rd_T33 l1 x18_1).f1)]] rfl (by (try simp only [List.map_toArray, List.map_cons, List.map_nil]); first | done | rfl | (simp only [List.length_drop, List.length_take]; rfl)) ?_; (with_reducible refine (span_Right.calls ((rd_T33 l1 x18_1).f0) ((rd_T33 l1 x18_1).f1) false _ A11.out).mono ?_); rintro e w31 ⟨rfl, hb⟩; refine ⟨_, rfl, ?_⟩; have n0_ := Aside0.mk (Kd.R_below (by (with_reducible repeat (first | apply Kd.R_alloc | apply Kd.R_drewN | apply Kd.R_drew)); exact (Kd.R_mono (Kd.R_far (p := ⟨gb138, 1, none⟩) (Kd.R_far (p := ⟨gb138, 0, none⟩) (Kd.R_types HO_5.out BK138.out (by decide)) (fun _ hk => hk.2) (.int .i64 ((rd_T33 l1 x18_1).f0))) (fun _ hk => hk.2) (.int .i64 ((rd_T33 l1 x18_1).f1))) (fun _ h_ => h_.1))) hb); have n1_ := Aside0.mk (blk_below (g := gb138) (o := .cells #[.int .i64 ((rd_T33 l1 x18_1).f0), .int .i64 ((rd_T33 l1 x18_1).f1)] 33 (0, 0)) (by (with_reducible repeat (first | refine blk_drewN ?_ _ | refine blk_drew ?_ | refine blk_alloc ?_ _)); refine blk_put (cs := #[.int .i64 ((rd_T33 l1 x18_1).f0), .int .i64 0]) ?_ 1 _ rfl; (with_reducible repeat (first | refine blk_drewN ?_ _ | refine blk_drew ?_ | refine blk_alloc ?_ _)); refine blk_put (cs := #[.int .i64 0, .int .i64 0]) ?_ 0 _ rfl; (with_reducible repeat (first | refine blk_drewN ?_ _ | refine blk_drew ?_ | refine blk_alloc ?_ _)); exact BK138.out) hb); have n2_ := Aside0.mk (below_step (by repeat (first | (with_reducible first | exact HB.out | apply below_alloc | apply pw_below_drewN | apply below_drew1 | refine below_set ?_ GE138.out) | exact HB.out)) hb); clear HO_5; clear BK138; clear HB; have HO_5 := n0_; have BK138 := n1_; have HB := n2_; clear n0_ n1_ n2_; (try clear hb); (try clear hb2); (try clear hk); (try clear hi)))
          go_roundg k1
          case measure => have := HK1.out; omega
          case rel => exact ⟨(x5_1), (wrap64 (x18_1 + 1)), (by first | rfl | (simp; done) | (simp [*]; done)), H', ⟨by have := HK1.out; omega⟩, ⟨by (with_reducible repeat (first | apply Kd.R_alloc | apply Kd.R_drewN | apply Kd.R_drew)); exact HO_5.out⟩, ⟨by repeat (first | (with_reducible first | exact HB.out | apply below_alloc | apply pw_below_drewN | apply below_drew1 | refine below_set ?_ GE138.out) | exact HB.out)⟩⟩
        ·rw [if_neg c10] at H
         exact absurd H (by simp)
       ·rw [if_neg c9] at H
        exact absurd H (by simp)
      ·rw [if_neg c8] at H
       have c8b0 : decide (x18_1 < (l1.length : Int)) = false := decide_eq_false c8
       clear c8
       have H' := Aside0.mk H
       clear H
       go_wp2_with (first | ((with_reducible refine gate_dst (N := 9) rfl ?_); refine box_event ?hg (N := 9) ?hd (cs := #[.int .i64 0, .int .i64 0]) (t := 33) ?hr ?_; (case hd => rfl); (case hg => rfl); (case hr => first | (go_simp; done) | (go_simp; rfl)); intro gb142 hg w32 hbox hb; have n0_ := Aside0.mk (Kd.R_below (by (with_reducible repeat (first | apply Kd.R_alloc | apply Kd.R_drewN | apply Kd.R_drew)); exact HO_5.out) hb); have n1_ := Aside0.mk (below_step (by repeat (first | (with_reducible first | exact HB.out | apply below_alloc | apply pw_below_drewN | apply below_drew1) | exact HB.out)) hb); have n2_ := Aside0.mk (hbox); have n3_ := Aside0.mk ((by rw [hg]; exact (below_size (by repeat (first | (with_reducible first | exact HB.out | apply below_alloc | apply pw_below_drewN | apply below_drew1) | exact HB.out))) : w.heap.size ≤ gb142)); have n4_ := Aside0.mk ((by rw [hg]; exact (below_size (by repeat (first | (with_reducible first | exact HB.out | apply below_alloc | apply pw_below_drewN | apply below_drew1) | exact HB.out))) : w.heap.size ≤ gb142)); clear HO_5; clear HB; have HO_5 := n0_; have HB := n1_; have BK142 := n2_; have GW142 := n3_; have GE142 := n4_; clear n0_ n1_ n2_ n3_ n4_; clear hb hbox hg; have hcz33_0 : w32.cell? ⟨gb142, 0, none⟩ = some (.int .i64 0) := (blk_cell BK142.out 0).trans rfl; have hcz33_1 : w32.cell? ⟨gb142, 1, none⟩ = some (.int .i64 0) := (blk_cell BK142.out 1).trans rfl; have hfz33_0 := blk_frozen BK142.out 0; have hfz33_1 := blk_frozen BK142.out 1; obtain ⟨Ao34, co34, eo34⟩ := Kd.R_slice HO_5.out; subst eo34))
       go_loopg [8, 46] k1 (fun kq v8 v46 w' => ∃ (x8_2 : List (S33)) (x46_2 : Int) (x143000_2 : Int) (x143001_2 : Int), v46 = .int .i64 x46_2 ∧ Aside0 (span_Groups.l1 kq x8_2 x5_1 (x5_1.length : Int) x46_2 x143000_2 x143001_2 = some r) ∧ Aside0 (kq ≤ k1) ∧ Aside0 (Kd.R k33 33 w' w.heap.size (fun k_ => k_ ≠ gb142) v8 x8_2) ∧ Aside0 (Kd.R (Kd.int .i64) 3 w' w.heap.size (fun _ => True) (.slice Ao34 x5_1.length co34) x5_1) ∧ Aside0 (w'.heap[gb142]? = some (.cells #[.int .i64 x143000_2, .int .i64 x143001_2] 33 (0, 0))) ∧ Aside0 (Below w.heap.size w w'))
       case atStart => exact ⟨(([] : List (S33))), (0), (0), (1), (by first | rfl | (simp; done) | (simp [*]; done)), H', ⟨Nat.le_refl _⟩, ⟨by first | exact Kd.R_nil _ _ _ _ _ | exact Kd.N_nil _ _ _ _ _ | exact Kd.V_nil _ _ _ _ _ | exact Kd.Q_nil _ _ _ _ _ | exact Kd.S_nil _ _ _ _ _⟩, ⟨by (with_reducible repeat (first | apply Kd.R_alloc | apply Kd.R_drewN | apply Kd.R_drew)); exact Kd.R_mono (Kd.R_far (p := ⟨gb142, 1, none⟩) (Kd.R_far (p := ⟨gb142, 0, none⟩) (Kd.R_types HO_5.out BK142.out (by decide)) (fun _ hk => hk.2) (.int .i64 0)) (fun _ hk => hk.2) (.int .i64 1)) (fun _ hk => trivial)⟩, ⟨by (with_reducible repeat (first | refine blk_drewN ?_ _ | refine blk_drew ?_ | refine blk_alloc ?_ _)); refine blk_put (cs := #[.int .i64 0, .int .i64 0]) ?_ 1 _ rfl; (with_reducible repeat (first | refine blk_drewN ?_ _ | refine blk_drew ?_ | refine blk_alloc ?_ _)); refine blk_put (cs := #[.int .i64 0, .int .i64 0]) ?_ 0 _ rfl; (with_reducible repeat (first | refine blk_drewN ?_ _ | refine blk_drew ?_ | refine blk_alloc ?_ _)); exact BK142.out⟩, ⟨by repeat (first | (with_reducible first | exact HB.out | apply below_alloc | apply pw_below_drewN | apply below_drew1 | refine below_set ?_ GE142.out) | exact HB.out)⟩⟩
       case round =>
        clear H'
        try clear c1
        try clear p1
        try clear q1
        try clear hx1
        try clear p2
        try clear c3
        try clear c3b0
        try clear c4
        try clear c4b0
        try clear c4b1
        try clear c5
        try clear c5b0
        try clear c5b1
        try clear p6
        try clear c8
        try clear c8b0
        try clear c9
        try clear c9b0
        try clear c10
        try clear c10b0
        try clear c12
        try clear c13
        try clear c13b0
        try clear p13
        try clear q13
        try clear hx13
        try clear c14
        try clear c14b0
        try clear p14
        try clear q14
        try clear hx14
        try clear c15
        try clear c15b0
        try clear p17
        try clear q17
        try clear hx17
        try clear hf17
        try clear hcz19_0
        try clear hcz19_1
        try clear hcz21_0
        try clear hcz21_1
        try clear hcz26_0
        try clear hcz26_1
        try clear hcz28_0
        try clear hcz28_1
        try clear hcz30_0
        try clear hcz30_1
        try clear hcz33_0
        try clear hcz33_1
        try clear hfz19_0
        try clear hfz19_1
        try clear hfz21_0
        try clear hfz21_1
        try clear hfz26_0
        try clear hfz26_1
        try clear hfz28_0
        try clear hfz28_1
        try clear hfz30_0
        try clear hfz30_1
        try clear hfz33_0
        try clear hfz33_1
        try clear hx137_0
        try clear hx137_1
        try clear hx140_0
        try clear hx17_0
        try clear p137
        try clear p140
        try clear p17
        try clear p2
        try clear q137
        try clear q140
        try clear q17
        obtain ⟨x8_2, x46_2, x143000_2, x143001_2, rfl, HA, HK2, HO_8, HO_44, BK142, HB⟩ := hrel
        cases gk with
        | zero => exact absurd HA.out (by simp [span_Groups.l1])
        | succ k2 =>
         have H := HA.out
         clear HA
         simp only [span_Groups.l1] at H
         by_cases c35 : x46_2 < (x5_1.length : Int)
         ·rw [if_pos c35] at H
          have c35b0 : decide (x46_2 < (x5_1.length : Int)) = true := decide_eq_true c35
          clear c35
          by_cases c36 : 0 ≤ x46_2
          ·rw [if_pos c36] at H
           have c36b0 : decide (0 ≤ x46_2) = true := decide_eq_true c36
           clear c36
           by_cases c37 : x46_2 < (x5_1.length : Int)
           ·rw [if_pos c37] at H
            have c37b0 : decide (x46_2 < (x5_1.length : Int)) = true := decide_eq_true c37
            clear c37
            by_cases c38 : x46_2 = x143001_2
            ·rw [if_pos c38] at H
             have c38b0 : (x46_2 == x143001_2) = true := beq_iff_eq.mpr c38
             have c38b1 : (x46_2 != x143001_2) = false := bne_eq_false_iff_eq.mpr c38
             clear c38
             by_cases c39 : x8_2.length < 8796093022208
             ·rw [if_pos c39] at H
              have LMc39 := Aside0.mk c39; clear c39
              obtain ⟨y144, hy144⟩ : ∃ y_ : List (S33), y_ = (x8_2 ++ [(⟨x143000_2, x143001_2⟩ : S33)]) := ⟨_, rfl⟩
              replace H : (span_Groups.l1 k2 y144 x5_1 (x5_1.length : Int) (wrap64 (x46_2 + 1)) x46_2 (mx (wrap64 (x46_2 + 1)) (rd x5_1 x46_2))) = some r := by first | (rw [hy144]; with_reducible exact H) | (have H2_ := (Option.bind_some _ _).symm.trans H; rw [hy144]; with_reducible exact H2_) | (have H2_ := (Option.bind_some _ _).symm.trans H; with_reducible exact H2_) | with_reducible exact H | (rw [hy144]; exact H) | exact H
              have Ny144 := Aside0.mk hy144; clear hy144
              obtain ⟨ji40, hji40⟩ : ∃ j_ : Int, (mx (wrap64 (x46_2 + 1)) (rd x5_1 x46_2)) = j_ := ⟨_, rfl⟩
              replace H : (span_Groups.l1 k2 y144 x5_1 (x5_1.length : Int) (wrap64 (x46_2 + 1)) x46_2 ji40) = some r := by first | (rw [hji40] at H; exact H) | (simp only [hji40] at H ⊢; exact H)
              have hji40_ : (if (wrap64 (x46_2 + 1)) < (rd x5_1 x46_2) then (rd x5_1 x46_2) else (wrap64 (x46_2 + 1))) = ji40 := hji40
              have H' := Aside0.mk H
              clear H
              have p143 : 0 ≤ (x46_2 : Int) := of_decide_eq_true (by first | (with_reducible assumption) | assumption)
              have q143 : x46_2 < (x5_1.length : Int) := of_decide_eq_true (by first | (with_reducible assumption) | assumption)
              obtain ⟨ad143, e143, hx143_0⟩ := Kd.at_int (Kd.R_reads' HO_44.out).2.2 x46_2 p143 q143
              cases e143
              replace p143 := eq_true p143
              replace q143 := eq_true q143
              have hcz41_0 : wr.cell? ⟨gb142, 0, none⟩ = some (.int .i64 x143000_2) := (blk_cell BK142.out 0).trans rfl
              have hcz41_1 : wr.cell? ⟨gb142, 1, none⟩ = some (.int .i64 x143001_2) := (blk_cell BK142.out 1).trans rfl
              have hfz41_0 := blk_frozen BK142.out 0
              have hfz41_1 := blk_frozen BK142.out 1
              go_wp2_with (first | ((with_reducible refine gate_builtin (b := .append) (xs := #[.tmp 55, .tmp 57]) rfl ?_); at_builtin; refine Kd.R_append k33 (w0 := w) w.heap.size rfl (.tmp 55) (.tmp 57) 49 33 (.agg #[(.int .i64 0), (.int .i64 0)]) 16 rfl Try.underlying49 info33 rfl (by decide) (by omega) u8 x8_2 (⟨x143000_2, x143001_2⟩ : S33) [.int .i64 x143000_2, .int .i64 x143001_2] (fun k_ => k_ ≠ gb142) (fun _ => False) rfl rfl ?aP (fun _ hk => hk.elim) ?aF ?aO ?aB ?aS ?aL ?_; (case aP => exact k33_mkM _ _ _ (⟨x143000_2, x143001_2⟩ : S33)); (case aB => exact (by repeat (first | (with_reducible first | exact HB.out | apply below_alloc | apply pw_below_drewN | apply below_drew1 | refine below_set ?_ GE142.out) | exact HB.out))); (case aF => exact (fun k_ hk => Kd.freshB (g := gb142) (o := .cells #[.int .i64 x143000_2, .int .i64 x143001_2] 33 (0, 0)) (by (with_reducible repeat (first | refine blk_drewN ?_ _ | refine blk_drew ?_ | refine blk_alloc ?_ _)); exact BK142.out) k_ hk)); (case aO => exact (by (with_reducible repeat (first | apply Kd.R_alloc | apply Kd.R_drewN | apply Kd.R_drew)); exact HO_8.out)); (case aS => exact (below_size (by repeat (first | (with_reducible first | exact HB.out | apply below_alloc | apply pw_below_drewN | apply below_drew1 | refine below_set ?_ GE142.out) | exact HB.out)))); (case aL => have := LMc39.out; omega); intro v145 w42 ho hb hg hat; rw [← Ny144.out] at ho; have n0_ := Aside0.mk (Kd.R_over' (by (with_reducible repeat (first | apply Kd.R_alloc | apply Kd.R_drewN | apply Kd.R_drew)); exact HO_44.out) (Kd.R_typed (by (with_reducible repeat (first | apply Kd.R_alloc | apply Kd.R_drewN | apply Kd.R_drew)); exact HO_8.out)) (by decide) hg); have n1_ := Aside0.mk (blk_grown (g := gb142) (o := .cells #[.int .i64 x143000_2, .int .i64 x143001_2] 33 (0, 0)) (by (with_reducible repeat (first | refine blk_drewN ?_ _ | refine blk_drew ?_ | refine blk_alloc ?_ _)); exact BK142.out) hg (Kd.R_away HO_8.out (fun _ hk => hk))); have n2_ := Aside0.mk (hb); have n3_ := Aside0.mk (ho); clear HO_44; clear BK142; clear HB; clear HO_8; have HO_44 := n0_; have BK142 := n1_; have HB := n2_; have HO146 := n3_; clear n0_ n1_ n2_ n3_; clear ho hb hg hat; have hcz43_0 : w42.cell? ⟨gb142, 0, none⟩ = some (.int .i64 x143000_2) := (blk_cell BK142.out 0).trans rfl; have hcz43_1 : w42.cell? ⟨gb142, 1, none⟩ = some (.int .i64 x143001_2) := (blk_cell BK142.out 1).trans rfl; have hfz43_0 := blk_frozen BK142.out 0; have hfz43_1 := blk_frozen BK142.out 1))
              go_roundg k2
              case measure => have := HK1.out; have := HK2.out; omega
              case rel => exact ⟨(y144), (wrap64 (x46_2 + 1)), (x46_2), (ji40), (by first | rfl | (simp; done) | (simp [*]; done)), H', ⟨by have := HK1.out; have := HK2.out; omega⟩, ⟨by (with_reducible repeat (first | apply Kd.R_alloc | apply Kd.R_drewN | apply Kd.R_drew)); exact Kd.R_mono (Kd.R_far (p := ⟨gb142, 1, none⟩) (Kd.R_far (p := ⟨gb142, 1, none⟩) (Kd.R_far (p := ⟨gb142, 0, none⟩) (Kd.R_mono HO146.out (fun k_ hk => (⟨hk, hk⟩ : _ ∧ k_ ≠ gb142))) (fun _ hk => hk.2) (.int .i64 x46_2)) (fun _ hk => hk.2) (.int .i64 (wrap64 (x46_2 + 1)))) (fun _ hk => hk.2) (.int .i64 ji40)) (fun _ hk => hk.1)⟩, ⟨by (with_reducible repeat (first | apply Kd.R_alloc | apply Kd.R_drewN | apply Kd.R_drew)); exact Kd.R_mono (Kd.R_far (p := ⟨gb142, 1, none⟩) (Kd.R_far (p := ⟨gb142, 1, none⟩) (Kd.R_far (p := ⟨gb142, 0, none⟩) (Kd.R_types HO_44.out BK142.out (by decide)) (fun _ hk => hk.2) (.int .i64 x46_2)) (fun _ hk => hk.2) (.int .i64 (wrap64 (x46_2 + 1)))) (fun _ hk => hk.2) (.int .i64 ji40)) (fun _ hk => trivial)⟩, ⟨by (with_reducible repeat (first | refine blk_drewN ?_ _ | refine blk_drew ?_ | refine blk_alloc ?_ _)); refine blk_put (cs := #[.int .i64 x46_2, .int .i64 (wrap64 (x46_2 + 1))]) ?_ 1 _ rfl; (with_reducible repeat (first | refine blk_drewN ?_ _ | refine blk_drew ?_ | refine blk_alloc ?_ _)); refine blk_put (cs := #[.int .i64 x46_2, .int .i64 x143001_2]) ?_ 1 _ rfl; (with_reducible repeat (first | refine blk_drewN ?_ _ | refine blk_drew ?_ | refine blk_alloc ?_ _)); refine blk_put (cs := #[.int .i64 x143000_2, .int .i64 x143001_2]) ?_ 0 _ rfl; (with_reducible repeat (first | refine blk_drewN ?_ _ | refine blk_drew ?_ | refine blk_alloc ?_ _)); exact BK142.out⟩, ⟨by repeat (first | (with_reducible first | exact HB.out | apply below_alloc | apply pw_below_drewN | apply below_drew1 | refine below_set ?_ GE142.out) | exact HB.out)⟩⟩
             ·rw [if_neg c39] at H
              exact absurd H (by simp)
            ·rw [if_neg c38] at H
             have c38b0 : (x46_2 == x143001_2) = false := beq_eq_false_iff_ne.mpr c38
             have c38b1 : (x46_2 != x143001_2) = true := bne_iff_ne.mpr c38
             obtain ⟨ji44, hji44⟩ : ∃ j_ : Int, (mx x143001_2 (rd x5_1 x46_2)) = j_ := ⟨_, rfl⟩
             replace H : (span_Groups.l1 k2 x8_2 x5_1 (x5_1.length : Int) (wrap64 (x46_2 + 1)) x143000_2 ji44) = some r := by first | (rw [hji44] at H; exact H) | (simp only [hji44] at H ⊢; exact H)
             have hji44_ : (if x143001_2 < (rd x5_1 x46_2) then (rd x5_1 x46_2) else x143001_2) = ji44 := hji44
             have H' := Aside0.mk H
             clear H
             have p143 : 0 ≤ (x46_2 : Int) := of_decide_eq_true (by first | (with_reducible assumption) | assumption)
             have q143 : x46_2 < (x5_1.length : Int) := of_decide_eq_true (by first | (with_reducible assumption) | assumption)
             obtain ⟨ad143, e143, hx143_0⟩ := Kd.at_int (Kd.R_reads' HO_44.out).2.2 x46_2 p143 q143
             cases e143
             replace p143 := eq_true p143
             replace q143 := eq_true q143
             have hcz45_0 : wr.cell? ⟨gb142, 0, none⟩ = some (.int .i64 x143000_2) := (blk_cell BK142.out 0).trans rfl
             have hcz45_1 : wr.cell? ⟨gb142, 1, none⟩ = some (.int .i64 x143001_2) := (blk_cell BK142.out 1).trans rfl
             have hfz45_0 := blk_frozen BK142.out 0
             have hfz45_1 := blk_frozen BK142.out 1
             go_wp2
             go_roundg k2
             case measure => have := HK1.out; have := HK2.out; omega
             case rel => exact ⟨(x8_2), (wrap64 (x46_2 + 1)), (x143000_2), (ji44), (by first | rfl | (simp; done) | (simp [*]; done)), H', ⟨by have := HK1.out; have := HK2.out; omega⟩, ⟨by (with_reducible repeat (first | apply Kd.R_alloc | apply Kd.R_drewN | apply Kd.R_drew)); exact Kd.R_mono (Kd.R_far (p := ⟨gb142, 1, none⟩) (Kd.R_mono HO_8.out (fun k_ hk => (⟨hk, hk⟩ : _ ∧ k_ ≠ gb142))) (fun _ hk => hk.2) (.int .i64 ji44)) (fun _ hk => hk.1)⟩, ⟨by (with_reducible repeat (first | apply Kd.R_alloc | apply Kd.R_drewN | apply Kd.R_drew)); exact Kd.R_mono (Kd.R_far (p := ⟨gb142, 1, none⟩) (Kd.R_types HO_44.out BK142.out (by decide)) (fun _ hk => hk.2) (.int .i64 ji44)) (fun _ hk => trivial)⟩, ⟨by (with_reducible repeat (first | refine blk_drewN ?_ _ | refine blk_drew ?_ | refine blk_alloc ?_ _)); refine blk_put (cs := #[.int .i64 x143000_2, .int .i64 x143001_2]) ?_ 1 _ rfl; (with_reducible repeat (first | refine blk_drewN ?_ _ | refine blk_drew ?_ | refine blk_alloc ?_ _)); exact BK142.out⟩, ⟨by repeat (first | (with_reducible first | exact HB.out | apply below_alloc | apply pw_below_drewN | apply below_drew1 | refine below_set ?_ GE142.out) | exact HB.out)⟩⟩
           ·rw [if_neg c37] at H
            exact absurd H (by simp)
          ·rw [if_neg c36] at H
           exact absurd H (by simp)
         ·rw [if_neg c35] at H
          have c35b0 : decide (x46_2 < (x5_1.length : Int)) = false := decide_eq_false c35
          clear c35
          by_cases c46 : x8_2.length < 8796093022208
          ·rw [if_pos c46] at H
           have LMc46 := Aside0.mk c46; clear c46
           obtain ⟨y147, hy147⟩ : ∃ y_ : List (S33), y_ = (x8_2 ++ [(⟨x143000_2, x143001_2⟩ : S33)]) := ⟨_, rfl⟩
           replace H : (some y147) = some r := by first | (rw [hy147]; with_reducible exact H) | (have H2_ := (Option.bind_some _ _).symm.trans H; rw [hy147]; with_reducible exact H2_) | (have H2_ := (Option.bind_some _ _).symm.trans H; with_reducible exact H2_) | with_reducible exact H | (rw [hy147]; exact H) | exact H
           have Ny147 := Aside0.mk hy147; clear hy147
           obtain rfl := Option.some.inj H
           have hcz47_0 : wr.cell? ⟨gb142, 0, none⟩ = some (.int .i64 x143000_2) := (blk_cell BK142.out 0).trans rfl
           have hcz47_1 : wr.cell? ⟨gb142, 1, none⟩ = some (.int .i64 x143001_2) := (blk_cell BK142.out 1).trans rfl
           have hfz47_0 := blk_frozen BK142.out 0
           have hfz47_1 := blk_frozen BK142.out 1
           go_wp2_with (first | ((with_reducible refine gate_builtin (b := .append) (xs := #[.tmp 69, .tmp 71]) rfl ?_); at_builtin; refine Kd.R_append k33 (w0 := w) w.heap.size rfl (.tmp 69) (.tmp 71) 49 33 (.agg #[(.int .i64 0), (.int .i64 0)]) 16 rfl Try.underlying49 info33 rfl (by decide) (by omega) u8 x8_2 (⟨x143000_2, x143001_2⟩ : S33) [.int .i64 x143000_2, .int .i64 x143001_2] (fun k_ => k_ ≠ gb142) (fun _ => False) rfl rfl ?aP (fun _ hk => hk.elim) ?aF ?aO ?aB ?aS ?aL ?_; (case aP => exact k33_mkM _ _ _ (⟨x143000_2, x143001_2⟩ : S33)); (case aB => exact (by repeat (first | (with_reducible first | exact HB.out | apply below_alloc | apply pw_below_drewN | apply below_drew1 | refine below_set ?_ GE142.out) | exact HB.out))); (case aF => exact (fun k_ hk => Kd.freshB (g := gb142) (o := .cells #[.int .i64 x143000_2, .int .i64 x143001_2] 33 (0, 0)) (by (with_reducible repeat (first | refine blk_drewN ?_ _ | refine blk_drew ?_ | refine blk_alloc ?_ _)); exact BK142.out) k_ hk)); (case aO => exact (by (with_reducible repeat (first | apply Kd.R_alloc | apply Kd.R_drewN | apply Kd.R_drew)); exact HO_8.out)); (case aS => exact (below_size (by repeat (first | (with_reducible first | exact HB.out | apply below_alloc | apply pw_below_drewN | apply below_drew1 | refine below_set ?_ GE142.out) | exact HB.out)))); (case aL => have := LMc46.out; omega); intro v148 w48 ho hb hg hat; rw [← Ny147.out] at ho; have n0_ := Aside0.mk (Kd.R_over' (by (with_reducible repeat (first | apply Kd.R_alloc | apply Kd.R_drewN | apply Kd.R_drew)); exact HO_44.out) (Kd.R_typed (by (with_reducible repeat (first | apply Kd.R_alloc | apply Kd.R_drewN | apply Kd.R_drew)); exact HO_8.out)) (by decide) hg); have n1_ := Aside0.mk (blk_grown (g := gb142) (o := .cells #[.int .i64 x143000_2, .int .i64 x143001_2] 33 (0, 0)) (by (with_reducible repeat (first | refine blk_drewN ?_ _ | refine blk_drew ?_ | refine blk_alloc ?_ _)); exact BK142.out) hg (Kd.R_away HO_8.out (fun _ hk => hk))); have n2_ := Aside0.mk (hb); have n3_ := Aside0.mk (ho); clear HO_44; clear BK142; clear HB; clear HO_8; have HO_44 := n0_; have BK142 := n1_; have HB := n2_; have HO149 := n3_; clear n0_ n1_ n2_ n3_; clear ho hb hg hat))
           go_ret
           exact ⟨_, by first | rfl | (simp [errW_none, errW_some] <;> rfl) | (simp [*, errW_none, errW_some] <;> rfl), by (with_reducible repeat (first | apply Kd.R_alloc | apply Kd.R_drewN | apply Kd.R_drew)); exact Kd.R_mono HO149.out (fun _ hk => trivial), by repeat (first | (with_reducible first | exact HB.out | apply below_alloc | apply pw_below_drewN | apply below_drew1 | refine below_set ?_ GE142.out) | exact HB.out)⟩
          ·rw [if_neg c46] at H
           exact absurd H (by simp)
   ·rw [if_neg c5] at H
    exact absurd H (by simp)
  ·rw [if_neg c4] at H
   exact absurd H (by simp)
end Go.Proofs.Ytohhobcipfmkbaa.PClusterFinest
end
