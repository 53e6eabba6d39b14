/- Merged of own texts: CFew, CAwk. -/
import Derived.Test.YtohhobcipfmkbaaCFinQ
import Derived.Test.YtohhobcipfmkbaaCFinA
import Derived.Test.YtohhobcipfmkbaaCChk1
/-! Clusters that are few: naskhlaw04.few. -/
namespace Go.Proofs.Ytohhobcipfmkbaa.CFin
open Go.RowKit Go.Proofs.YtohhobcipfmkbaaW.PrintWords Go.Proofs.YtohhobcipfmkbaaW.PrintMore Go.Proofs.YtohhobcipfmkbaaW.PrintLast Go.Proofs.Ytohhobcipfmkbaa.U Go.Proofs.Ytohhobcipfmkbaa.PClusterFinest Go.Proofs.Ytohhobcipfmkbaa.UFinest Go.Proofs.Ytohhobcipfmkbaa.UFinEv
set_option linter.unusedVariables false
set_option linter.unusedSimpArgs false
def fewB : List S45 → Nat → Bool
  | [], _ => true
  | x :: r, i => if 30 ≤ i ∨ x.f0.f1 > 60 ∨ x.f1.f1 > 60 then false else fewB r (i + 1)
theorem few_loop (l : List S45) (hl : l.length ≤ 9223372036854775807) (d : Nat) : ∀ i : Nat, i + d = l.length → Ev (fun k => naskhlaw04_few.l0 k l (l.length : Int) (i : Int)) (fewB (l.drop i) i) := by
  induction d with
  | zero =>
    intro i hd
    rw [List.drop_of_length_le (by omega), fewB]
    exact Ev.step (fun k => by rw [naskhlaw04_few.l0]) (ev_neg (by omega) (ev_now _))
  | succ d ih =>
    intro i hd
    have hlt : i < l.length := by omega
    rw [List.drop_eq_getElem_cons hlt, fewB]
    refine Ev.step (fun k => by rw [naskhlaw04_few.l0]) (ev_pos (by omega) (ev_pos (by omega) (ev_pos (by omega) ?_)))
    rw [rd45 hlt]
    by_cases h1 : (i : Int) ≥ 30
    · rw [if_pos (.inl (by omega))]; exact ev_pos h1 (ev_now _)
    · refine ev_neg h1 ?_
      by_cases h2 : l[i].f0.f1 > 60
      · rw [if_pos (.inr (.inl h2))]; exact ev_pos h2 (ev_now _)
      · refine ev_neg h2 ?_
        by_cases h3 : l[i].f1.f1 > 60
        · rw [if_pos (.inr (.inr h3))]; exact ev_pos h3 (ev_now _)
        · rw [if_neg (by omega)]
          refine ev_neg h3 ?_
          rw [w64 (by omega) (by omega), show (i : Int) + 1 = ((i + 1 : Nat) : Int) by omega]
          exact ih (i + 1) (by omega)
theorem few_len : ∀ (l : List S45) (i : Nat), fewB l i = true → i ≤ 30 → i + l.length ≤ 30
  | [], i, _, h => by simpa using h
  | x :: r, i, h, hi => by
    unfold fewB at h
    split at h
    · cases h
    · rename_i hc
      have := few_len r (i + 1) h (by omega)
      simp; omega
theorem few_c {w : World} {v : Value} {l : List S45} (h : SLk k45 w v l) : Calls Try.prog 31 #[v] w fun e w' => e = .returned (.bool (fewB l 0)) ∧ Below w.heap.size w w' := by
  obtain ⟨A, c, rfl, hc, hC⟩ := h
  obtain ⟨k, hk⟩ := ev_some (few_loop l hC.2.1 l.length 0 (by omega))
  exact naskhlaw04_few.calls k A c l _ w hC hc hk
theorem nil_slk (w : World) : SLk k45 w (.slice none 0 0) [] := ⟨none, 0, rfl, Nat.le_refl _, rfl, by simp, fun h => absurd h (Nat.lt_irrefl 0)⟩
end Go.Proofs.Ytohhobcipfmkbaa.CFin
/-! naskhlaw04.awake answers true. -/
namespace Go.Proofs.Ytohhobcipfmkbaa.CFin
open Go.RowKit Go.Maps Go.Proofs.YtohhobcipfmkbaaW.PrintWords Go.Proofs.YtohhobcipfmkbaaW.PrintMore Go.Proofs.YtohhobcipfmkbaaW.PrintLast Go.Proofs.Ytohhobcipfmkbaa.U Go.Proofs.Ytohhobcipfmkbaa.PClusterFinest Go.Proofs.Ytohhobcipfmkbaa.UFinest Go.Proofs.Ytohhobcipfmkbaa.UFinEv
set_option linter.unusedVariables false
set_option linter.unusedSimpArgs false
abbrev awS : S33 := ⟨0, 1⟩
abbrev awT : S33 := ⟨1, 2⟩
abbrev awL : List S45 := [⟨awS, awT⟩, ⟨awT, awS⟩]
theorem aw_wrong : wrongR (2 : Nat) (2 : Nat) awL = 0 := by decide
def awC (x : Nat) : Nat := if x = 3 then 0 else if x = 2 then 1 else x
theorem aw_closed : Closed 2 2 (awL.map lkOf) (fun x y => awC x = awC y) := by
  have hm : ∀ x, x ∈ awL.map lkOf ↔ x = ⟨0, 1, 1, 2⟩ ∨ x = ⟨1, 2, 0, 1⟩ := fun x => by simp [lkOf]
  refine ⟨⟨fun _ => rfl, fun _ _ h => h.symm, fun _ _ _ h h' => h.trans h'⟩, fun x hx i h1 h2 => ?_, fun x hx i h1 h2 => ?_, fun x hx => ?_, fun i h0 h1 h2 => ?_, fun i h1 h2 => ?_, fun i j k h1 h2 h3 h4 => ?_, fun i j k h0 h1 h2 h3 h4 => ?_⟩
  · have e : x.a = i := by rcases (hm x).1 hx with rfl | rfl <;> (dsimp only at h1 h2 ⊢; omega)
    rw [e]
  · have e : x.c = i := by rcases (hm x).1 hx with rfl | rfl <;> (dsimp only at h1 h2 ⊢; omega)
    rw [e]
  · rcases (hm x).1 hx with rfl | rfl <;> rfl
  · obtain rfl : i = 1 := by omega
    exact absurd h2 (by decide)
  · exact absurd h1 (by rw [show firstF (awL.map lkOf) 2 = 0 by decide]; exact Nat.not_lt_zero _)
  · have e : i = j ∨ j = k := by omega
    rcases e with rfl | rfl
    · rfl
    · exact h4
  · have e : i = j ∨ j = k := by omega
    rcases e with rfl | rfl
    · rfl
    · exact h4
theorem aw_cluS {L : Lab} (h : FinOk 2 2 (awL.map lkOf) L) : cluS 2 2 L 2 = awL := by
  have hb := h.closed.both
  have e1 : L 0 = L 3 := hb ⟨0, 1, 1, 2⟩ (by simp [lkOf])
  have e2 : L 1 = L 2 := hb ⟨1, 2, 0, 1⟩ (by simp [lkOf])
  have hs := h.sound _ aw_closed
  have ne : L 0 ≠ L 1 := fun e => by
    have h0 := hs 0
    have h1 := hs 1
    rw [← e] at h1
    have : awC 0 = awC 1 := h0.trans h1.symm
    exact absurd this (by decide)
  have ne' : ¬ L 1 = L 0 := fun e => ne e.symm
  unfold cluS cluTo
  simp [List.range_succ, List.filterMap, hullL, ne, ne', ← e1, ← e2, toS]
abbrev awB : Obj := .cells #[.int .i64 0, .int .i64 1, .int .i64 1, .int .i64 2, .int .i64 1, .int .i64 2, .int .i64 0, .int .i64 1] 45 (0, 0)
theorem aw_slk {W : World} {b : Nat} (h : W.heap[b]? = some awB) : SLk k45 W (.slice (some ⟨b, 0, none⟩) 2 2) awL := by
  refine ⟨_, _, rfl, Nat.le_refl _, rfl, by decide, fun hn => ⟨_, rfl, fun j p hj => ?_⟩⟩
  have ea : ∀ i, (⟨b, 0, none⟩ : Addr).add (j * k45.sz + i) = ⟨b, j * 4 + i, none⟩ := fun i => by rw [add_plain]; rfl
  match j, hj with
  | 0, hj =>
    obtain rfl := Option.some.inj hj
    refine ⟨_, rfl, k45_mk W _, fun i u hu => ?_⟩
    rw [ea, blk_cell h]
    match i, hu with
    | 0, hu => exact hu
    | 1, hu => exact hu
    | 2, hu => exact hu
    | 3, hu => exact hu
  | 1, hj =>
    obtain rfl := Option.some.inj hj
    refine ⟨_, rfl, k45_mk W _, fun i u hu => ?_⟩
    rw [ea, blk_cell h]
    match i, hu with
    | 0, hu => exact hu
    | 1, hu => exact hu
    | 2, hu => exact hu
    | 3, hu => exact hu
theorem aw_check (d : List S33) (hp : d.Perm (awL.map (·.f1))) (hs : d.Pairwise (fun a b => ¬ b.f0 < a.f0)) : CSort.checkB 2 2 awL d = true := by
  unfold CSort.checkB
  rw [CSort.parts_perm 2 d [awS, awT] (hp.trans (List.Perm.swap _ _ _)) hs (by decide)]
  decide
theorem eq45_loop (xs : List S45) (hm : xs.length ≤ 1000000) (n : Nat) : ∀ i : Nat, i + n = xs.length → Ev (fun k => api_Cluster.l0 k xs xs (xs.length : Int) i) true := by
  induction n with
  | zero =>
    intro i hi
    refine Ev.step (fun k => by rw [api_Cluster.l0]) (ev_neg (by omega) (ev_now _))
  | succ n ih =>
    intro i hi
    refine Ev.step (fun k => by rw [api_Cluster.l0]) (ev_pos (by omega) (ev_pos (by omega) (ev_pos (by omega) (ev_pos (by omega) (ev_neg (by simp) ?_)))))
    rw [w64 (by omega) (by omega)]
    exact ih (i + 1) (by omega)
theorem eq45_c {u v : Value} {xs : List S45} {w : World} (h1 : SLk k45 w u xs) (h2 : SLk k45 w v xs) (hm : xs.length ≤ 1000000) : Calls Try.prog 23 #[u, v] w fun e w' => e = .returned (.bool true) ∧ Drawn0 w w' := by
  obtain ⟨A, c, rfl, hc, hC⟩ := h1
  obtain ⟨B, d, rfl, hd, hD⟩ := h2
  have he : Ev (fun k => api_Cluster.f k xs xs) true := ev_pos rfl (eq45_loop xs hm xs.length 0 (by omega))
  obtain ⟨k, hk⟩ := ev_some he
  exact api_Cluster.calls k A c xs B d xs true w hC hc hD hd hk
theorem aw_id : cluster_Identity.f 6 3 = some [⟨⟨0, 1⟩, ⟨0, 1⟩⟩, ⟨⟨1, 2⟩, ⟨1, 2⟩⟩, ⟨⟨2, 3⟩, ⟨2, 3⟩⟩] := by kernel_rfl
set_option maxRecDepth 100000 in
set_option maxHeartbeats 2000000 in
theorem awake_c {w : World} : Calls Try.prog 28 #[] w fun e w' => e = .returned (.bool true) ∧ Below w.heap.size w w' := by
  go_enter Try.func28, Try.ntmps28
  go_wp2_with (first | ((with_reducible refine gate_dst (N := 1) rfl ?_); refine box_event ?hg (N := 1) ?hd (cs := #[.int .i64 0, .int .i64 0]) (t := 33) ?hr ?_; (case hd => rfl); (case hg => rfl); (case hr => first | (go_simp; done) | (go_simp; rfl)); intro g1 hg1 w1 hbox hb; have HI1 := Aside0.mk hbox; have HB1 := Aside0.mk hb; have HG1 := Aside0.mk hg1; clear hg1 hbox hb) | ((with_reducible refine gate_dst (N := 2) rfl ?_); refine box_event ?hg (N := 2) ?hd (cs := #[.int .i64 0, .int .i64 0]) (t := 33) ?hr ?_; (case hd => rfl); (case hg => rfl); (case hr => first | (go_simp; done) | (go_simp; rfl)); intro g2 hg2 w2 hbox hb; have HI2 := Aside0.mk hbox; have HI12 : Aside0 (w2.heap[g1]? = some (.cells #[.int .i64 0, .int .i64 0] 33 (0, 0))) := ⟨(hb.block _ (blk_lt HI1.out)).trans HI1.out⟩; have HB2 : Aside0 (Below w.heap.size w w2) := ⟨below_step HB1.out hb⟩; have HG : Aside0 (w.heap.size ≤ g1 ∧ w.heap.size ≤ g2 ∧ g1 ≠ g2) := ⟨by rw [HG1.out]; exact Nat.le_refl _, by rw [hg2]; exact HB1.out.size, by have := blk_lt HI1.out; omega⟩; have z0 := (blk_cell HI12.out 0).trans rfl; have z1 := (blk_cell HI12.out 1).trans rfl; have f0 := blk_frozen HI12.out 0; have f1 := blk_frozen HI12.out 1; have y0 := (blk_cell hbox 0).trans rfl; have y1 := (blk_cell hbox 1).trans rfl; have g0' := blk_frozen hbox 0; have g1' := blk_frozen hbox 1; have hne : ¬ g1 = g2 := HG.out.2.2; have hne' : ¬ g2 = g1 := fun e => hne e.symm; clear hg2 hbox hb HI1 HB1))
  have hI := blk_put (blk_put HI12.out 0 (.int .i64 0) rfl) 1 (.int .i64 1) rfl
  have hG1 := World.grownBy.trans (grown_set w2 g1 0 (.int .i64 0)) (grown_set _ g1 1 (.int .i64 1))
  have hJ := (hG1.block g2 (blk_lt HI2.out) (fun e => hne' (Option.some.inj e))).trans HI2.out
  have hJ2 := blk_put (blk_put hJ 0 (.int .i64 1) rfl) 1 (.int .i64 2) rfl
  have hG2 := World.grownBy.trans (grown_set ((w2.setCell ⟨g1, 0, none⟩ (.int .i64 0)).setCell ⟨g1, 1, none⟩ (.int .i64 1)) g2 0 (.int .i64 1)) (grown_set _ g2 1 (.int .i64 2))
  have hI2 := (hG2.block g1 (blk_lt hI) (fun e => hne (Option.some.inj e))).trans hI
  have hB4 : Below w.heap.size w _ := (HB2.out.grown hG1 HB2.out.size (fun j hj => by obtain rfl := Option.some.inj hj; exact HG.out.1)).grown hG2 (Nat.le_trans HB2.out.size hG1.size) (fun j hj => by obtain rfl := Option.some.inj hj; exact HG.out.2.1)
  obtain ⟨w4, hw4⟩ : ∃ w4, w4 = ((((w2.setCell ⟨g1, 0, none⟩ (.int .i64 0)).setCell ⟨g1, 1, none⟩ (.int .i64 1)).setCell ⟨g2, 0, none⟩ (.int .i64 1)).setCell ⟨g2, 1, none⟩ (.int .i64 2)) := ⟨_, rfl⟩
  have hsz : w2.heap.size = w4.heap.size := by rw [hw4]; simp
  rw [← hw4] at hI2 hJ2 hB4 ⊢
  rw [hsz]
  have hX := (MapKept.heap_alloc w4 awB).1
  have hA : Below w4.heap.size w4 (w4.alloc awB) := below_alloc (Below.refl _ _) _
  have HI5 := Aside0.mk ((hA.block _ (blk_lt hI2)).trans hI2)
  have HJ5 := Aside0.mk ((hA.block _ (blk_lt hJ2)).trans hJ2)
  have HX5 := Aside0.mk (aw_slk hX)
  have HB5 : Aside0 (Below w.heap.size w (w4.alloc awB)) := ⟨below_step hB4 hA⟩
  change Calls Try.prog 32 _ (w4.alloc awB) _
  generalize w4.heap.size = b4 at HX5 ⊢
  generalize w4.alloc awB = w5 at HI5 HJ5 HX5 HB5 ⊢
  clear hI hG1 hJ hJ2 hG2 hI2 hB4 hX hA hsz hw4 z0 z1 f0 f1 y0 y1 g0' g1' HI12 HI2 HB2
  refine (finest_c (l := awL) 2 2 HX5.out (by decide) (by decide) (by decide) (by decide) aw_wrong).mono ?_
  rintro e w6 ⟨u, L, rfl, hfo, hR, hb6⟩
  rw [aw_cluS hfo] at hR
  have HU6 := Aside0.mk (SLk.of_R hR)
  have HI6 := Aside0.mk ((hb6.block _ (blk_lt HI5.out)).trans HI5.out)
  have HJ6 := Aside0.mk ((hb6.block _ (blk_lt HJ5.out)).trans HJ5.out)
  have HB6 : Aside0 (Below w.heap.size w w6) := ⟨below_step HB5.out hb6⟩
  have z0 := (blk_cell HI6.out 0).trans rfl
  have z1 := (blk_cell HI6.out 1).trans rfl
  have y0 := (blk_cell HJ6.out 0).trans rfl
  have y1 := (blk_cell HJ6.out 1).trans rfl
  clear hfo hR hb6 HX5 HI5 HJ5 HB5
  go_wp2_with fail
  have hX := (MapKept.heap_alloc w6 awB).1
  have hA : Below w6.heap.size w6 (w6.alloc awB) := below_alloc (Below.refl _ _) _
  have HX7 := Aside0.mk (aw_slk hX)
  have HU7 := Aside0.mk (SLk.below HU6.out hA)
  have HB7 : Aside0 (Below w.heap.size w (w6.alloc awB)) := ⟨below_step HB6.out hA⟩
  change Calls Try.prog 23 _ (w6.alloc awB) _
  generalize w6.heap.size = b6 at HX7 ⊢
  generalize w6.alloc awB = w7 at HX7 HU7 HB7 ⊢
  clear hX hA HU6 HI6 HJ6 HB6 z0 z1 y0 y1
  refine (eq45_c (xs := awL) HU7.out HX7.out (by decide)).mono ?_
  rintro e w8 ⟨rfl, hd8⟩
  have hb8 := drawn0_below hd8
  have HU8 := Aside0.mk (SLk.below HU7.out hb8)
  have HB8 : Aside0 (Below w.heap.size w w8) := ⟨below_step HB7.out hb8⟩
  clear hd8 hb8 HX7 HU7 HB7
  go_wp2_with (first | (go_at_call 29; refine (CSort.check_by (l := awL) 2 2 HU8.out (by decide) (fun w1 u base ok hR => CSort.stable_few hR (by decide) (by decide))).mono ?_; rintro e w9 ⟨d, p1, p2, rfl, hb9⟩; rw [aw_check d p1 p2]; have HB9 : Aside0 (Below w.heap.size w w9) := ⟨below_step HB8.out hb9⟩; clear p1 p2 hb9) | (go_at_call 36; refine (cluster_Identity.calls 6 3 _ _ aw_id).mono ?_; rintro e wA ⟨v, rfl, hv, hbA⟩; obtain ⟨A, c, rfl⟩ := Kd.R_slice hv; have HBA : Aside0 (Below w.heap.size w wA) := ⟨below_step HB9.out hbA⟩; clear hv hbA))
  go_ret
  exact ⟨rfl, HBA.out⟩
end Go.Proofs.Ytohhobcipfmkbaa.CFin
