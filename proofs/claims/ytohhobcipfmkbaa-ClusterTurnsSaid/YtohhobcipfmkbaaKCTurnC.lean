/- Texts of this claim, cut to what it needs. -/
import Derived.Test.YtohhobcipfmkbaaKCTurn
namespace Go.Proofs.Ytohhobcipfmkbaa.CTurn
open Go.RowKit Go.Maps Go.Proofs.YtohhobcipfmkbaaW.PrintWords Go.Proofs.YtohhobcipfmkbaaW.PrintMore Go.Proofs.YtohhobcipfmkbaaW.PrintLast Go.Proofs.Ytohhobcipfmkbaa.U Go.Proofs.Ytohhobcipfmkbaa.PClusterFinest Go.Proofs.Ytohhobcipfmkbaa.CFin Go.Proofs.Ytohhobcipfmkbaa.UFinEv Go.Proofs.Ytohhobcipfmkbaa.UTurn
set_option linter.unusedVariables false
set_option linter.unusedSimpArgs false
def tnTo (l : List S45) (k : Nat) : List S45 := (l.take k).map swp ++ List.replicate (l.length - k) z45
theorem tnTo_len {l : List S45} {k : Nat} (h : k ≤ l.length) : (tnTo l k).length = l.length := by
  unfold tnTo; rw [List.length_append, List.length_map, List.length_take, List.length_replicate]; omega
theorem tnTo_all (l : List S45) : tnTo l l.length = l.map swp := by unfold tnTo; simp
theorem tnTo_set {l : List S45} {k : Nat} (h : k < l.length) : (tnTo l k).set k (swp l[k]) = tnTo l (k + 1) := by
  unfold tnTo
  have e1 : ((l.take k).map swp).length = k := by rw [List.length_map, List.length_take]; omega
  rw [List.set_append_right _ _ (by omega), e1, Nat.sub_self, show l.length - k = (l.length - (k + 1)) + 1 by omega, List.replicate_succ, List.set_cons_zero, List.take_succ_eq_append_getElem h, List.map_append, List.append_assoc]
  rfl
theorem RC.put4 {w : World} {base q cap : Nat} {xs : List S45} (h : RC w base q cap xs) (i : Nat) (hi : i < xs.length) (y : S45) : RC ((((w.setCell ⟨q, i * 4, none⟩ (.int .i64 y.f0.f0)).setCell ⟨q, i * 4 + 1, none⟩ (.int .i64 y.f0.f1)).setCell ⟨q, i * 4 + 2, none⟩ (.int .i64 y.f1.f0)).setCell ⟨q, i * 4 + 3, none⟩ (.int .i64 y.f1.f1)) base q cap (xs.set i y) := by
  have h0 := h.put i hi 0 (by omega) y.f0.f0
  rw [Nat.add_zero] at h0
  have h1 := h0.put i (by simpa using hi) 1 (by omega) y.f0.f1
  have h2 := h1.put i (by simpa using hi) 2 (by omega) y.f1.f0
  have h3 := h2.put i (by simpa using hi) 3 (by omega) y.f1.f1
  simp only [List.set_set, List.getElem_set_self] at h3
  exact h3
set_option maxRecDepth 100000 in
set_option maxHeartbeats 4000000 in
theorem turn_c {w : World} {v : Value} {l : List S45} (h : SLk k45 w v l) (hm : l.length < 1000000) :
    Calls Try.prog 34 #[v] w fun e w' => ∃ u, e = .returned u ∧ SLk k45 w' u (turnT l) ∧ Below w.heap.size w w' := by
  obtain ⟨A, c, rfl, hcc, hC⟩ := h
  have HC := Aside0.mk hC
  have HM := Aside0.mk hm
  clear hcc hC
  have hn0 : 0 ≤ (l.length : Int) := by omega
  go_enter Try.func34, Try.ntmps34
  go_upto_region 2 with ((with_reducible refine gate_dst (N := 8) rfl ?_); refine Kd.R_make k45 (w0 := w) w.heap.size 45 rfl rfl 40 (.tmp 7) (.tmp 7) rfl (l.length : Int) (by first | (go_simp; done) | (go_simp; rfl)) (by first | (go_simp; done) | (go_simp; rfl)) Try.underlying40 (.agg #[(.int .i64 0), (.int .i64 0), (.int .i64 0), (.int .i64 0)]) 32 info45 rfl (by decide) (by omega) z45 (ok := fun _ => True) (okp := fun _ => False) (k45_mkM _ _ _ z45) (fun _ h => h.elim) trivial (by omega) (by have := HM.out; omega) (Below.refl _ _) (Nat.le_refl _) ?_; intro v8 w1 hv hb hg hat; have HR1 := Aside0.mk hv; have HB1 := Aside0.mk hb; have HAT := Aside0.mk hat; clear hv hb hg hat)
  rw [Int.toNat_natCast] at HR1
  have HR0 : Aside0 (Kd.R k45 45 w1 w.heap.size (fun _ => True) v8 (tnTo l 0)) := ⟨by unfold tnTo; simpa using HR1.out⟩
  clear HR1 HAT
  go_wp2
  go_loopw [11] (fun v wr => ∃ k : Nat, v = .int .i64 (k : Int) ∧ k ≤ l.length ∧ Aside0 (Kd.R k45 45 wr w.heap.size (fun _ => True) v8 (tnTo l k)) ∧ Aside0 (Below w.heap.size w wr)) (fun v _ => l.length - (intOf v).toNat)
  case atStart => exact ⟨0, rfl, Nat.zero_le _, HR0, HB1⟩
  case round =>
    clear HR0 HB1
    obtain ⟨k, rfl, hk, HR, HB⟩ := hrel
    by_cases hlt : k < l.length
    · obtain ⟨x, hx⟩ : ∃ x, x = l[k] := ⟨_, rfl⟩
      have HNX : Aside0 ((tnTo l k).set k (swp x) = tnTo l (k + 1)) := ⟨by rw [hx]; exact tnTo_set hlt⟩
      have HTL : Aside0 ((tnTo l k).length = l.length) := ⟨tnTo_len (by omega)⟩
      obtain ⟨g, cap, e1, hg, hgs, _⟩ := Kd.R_form HR.out (by have := HTL.out; omega)
      rw [HTL.out] at e1
      have HE1 := Aside0.mk e1
      obtain ⟨ad, ead, c0, c1, c2, c3⟩ := at_T45 (Kd.C_below HC.out HB.out) (k : Int) (by omega) (by omega)
      rw [rd45 hlt, Int.toNat_natCast, ← hx] at c0 c1 c2 c3
      have hkI : (k : Int) < (l.length : Int) := by omega
      have HG0 := Aside0.mk hg
      subst ead e1
      clear hx hg hgs
      go_upto_region 5 with (first | ((with_reducible refine gate_dst (N := 5) rfl ?_); refine box_event ?hg (N := 5) ?hd (cs := #[.int .i64 0, .int .i64 0, .int .i64 0, .int .i64 0]) (t := 45) ?hr ?_; (case hd => rfl); (case hg => rfl); (case hr => first | (go_simp; done) | (go_simp; rfl)); intro gb hg w6 hbox hb; have HXgb := Aside0.mk hbox; have HGEgb : Aside0 (w.heap.size ≤ gb) := ⟨by rw [hg]; exact HB.out.size⟩; have HBBgb : Aside0 (Below w.heap.size w w6) := ⟨below_step HB.out hb⟩; have zgb_0 : w6.cell? ⟨gb, 0, none⟩ = some (.int .i64 0) := (blk_cell hbox 0).trans rfl; have fgb_0 := blk_frozen hbox 0; have zgb_1 : w6.cell? ⟨gb, 1, none⟩ = some (.int .i64 0) := (blk_cell hbox 1).trans rfl; have fgb_1 := blk_frozen hbox 1; have zgb_2 : w6.cell? ⟨gb, 2, none⟩ = some (.int .i64 0) := (blk_cell hbox 2).trans rfl; have fgb_2 := blk_frozen hbox 2; have zgb_3 : w6.cell? ⟨gb, 3, none⟩ = some (.int .i64 0) := (blk_cell hbox 3).trans rfl; have fgb_3 := blk_frozen hbox 3; have HR6 : Aside0 (Kd.R k45 45 w6 w.heap.size (fun p => p ≠ gb) (.slice (some ⟨g, 0, none⟩) l.length cap) (tnTo l k)) := ⟨Kd.R_mono (Kd.R_below (Kd.R_bound HR.out) hb) (fun p hp => by omega)⟩; clear hg hbox hb HB HR))
      have HYgb := Aside0.mk (blk_put (blk_put (blk_put (blk_put HXgb.out 0 (.int .i64 x.f0.f0) rfl) 1 (.int .i64 x.f0.f1) rfl) 2 (.int .i64 x.f1.f0) rfl) 3 (.int .i64 x.f1.f1) rfl)
      have HGgb := Aside0.mk (World.grownBy.trans (World.grownBy.trans (World.grownBy.trans (grown_set w6 gb 0 (.int .i64 x.f0.f0)) (grown_set _ gb 1 (.int .i64 x.f0.f1))) (grown_set _ gb 2 (.int .i64 x.f1.f0))) (grown_set _ gb 3 (.int .i64 x.f1.f1)))
      generalize (((w6.setCell ⟨gb, 0, none⟩ (.int .i64 x.f0.f0)).setCell ⟨gb, 1, none⟩ (.int .i64 x.f0.f1)).setCell ⟨gb, 2, none⟩ (.int .i64 x.f1.f0)).setCell ⟨gb, 3, none⟩ (.int .i64 x.f1.f1) = w7 at HYgb HGgb ⊢
      have HBCgb : Aside0 (Below w.heap.size w w7) := ⟨HBBgb.out.grown HGgb.out HBBgb.out.size (fun j hj => by obtain rfl := Option.some.inj hj; exact HGEgb.out)⟩
      have qgb_0 := (blk_cell HYgb.out 0).trans rfl
      have qgb_1 := (blk_cell HYgb.out 1).trans rfl
      have qgb_2 := (blk_cell HYgb.out 2).trans rfl
      have qgb_3 := (blk_cell HYgb.out 3).trans rfl
      clear zgb_0 fgb_0 zgb_1 fgb_1 zgb_2 fgb_2 zgb_3 fgb_3 HXgb HBBgb
      have HR7 : Aside0 (Kd.R k45 45 w7 w.heap.size (fun p => p ≠ gb) (.slice (some ⟨g, 0, none⟩) l.length cap) (tnTo l k)) := ⟨Kd.R_grown HR6.out HGgb.out (fun p hp e => hp (Option.some.inj e))⟩
      have HRC : Aside0 (RC w7 w.heap.size g cap (tnTo l k)) := ⟨by
        unfold RC
        rw [HTL.out]
        exact Kd.R_mono (Kd.R_tight rfl HR7.out) (fun j hj => Option.some.inj (by simpa [Value.ownBlock] using hj))⟩
      obtain ⟨t, ht⟩ : ∃ t, t = tnTo l k := ⟨_, rfl⟩
      rw [← ht] at HRC HNX HTL
      have hkt : k < t.length := by rw [HTL.out]; exact hlt
      have r0 := HRC.out.cell k hkt 0 (by omega)
      have r1 := HRC.out.cell k hkt 1 (by omega)
      have r2 := HRC.out.cell k hkt 2 (by omega)
      have r3 := HRC.out.cell k hkt 3 (by omega)
      rw [Nat.add_zero] at r0
      obtain ⟨z0, s0, s0'⟩ : ∃ z, w7.cell? ⟨g, k * 4, none⟩ = some (.int .i64 z) ∧ w7.frozen? ⟨g, k * 4, none⟩ = false := ⟨_, r0.1, r0.2⟩
      obtain ⟨z1, s1, s1'⟩ : ∃ z, w7.cell? ⟨g, k * 4 + 1, none⟩ = some (.int .i64 z) ∧ w7.frozen? ⟨g, k * 4 + 1, none⟩ = false := ⟨_, r1.1, r1.2⟩
      obtain ⟨z2, s2, s2'⟩ : ∃ z, w7.cell? ⟨g, k * 4 + 2, none⟩ = some (.int .i64 z) ∧ w7.frozen? ⟨g, k * 4 + 2, none⟩ = false := ⟨_, r2.1, r2.2⟩
      obtain ⟨z3, s3, s3'⟩ : ∃ z, w7.cell? ⟨g, k * 4 + 3, none⟩ = some (.int .i64 z) ∧ w7.frozen? ⟨g, k * 4 + 3, none⟩ = false := ⟨_, r3.1, r3.2⟩
      have HKT := Aside0.mk hkt
      clear r0 r1 r2 r3 HR6 HR7 c0 c1 c2 c3 HGgb ht hkt
      go_wp2
      have HRC8 := CTurn.RC.put4 HRC.out k HKT.out (swp x)
      rw [HNX.out] at HRC8
      have HG8 := World.grownBy.trans (World.grownBy.trans (World.grownBy.trans (grown_set w7 g (k * 4) (.int .i64 x.f1.f0)) (grown_set _ g (k * 4 + 1) (.int .i64 x.f1.f1))) (grown_set _ g (k * 4 + 2) (.int .i64 x.f0.f0))) (grown_set _ g (k * 4 + 3) (.int .i64 x.f0.f1))
      have HB8 := HBCgb.out.grown HG8 HBCgb.out.size (fun j hj => by obtain rfl := Option.some.inj hj; exact HG0.out)
      unfold RC at HRC8
      rw [tnTo_len (by omega)] at HRC8
      exact ⟨⟨k + 1, by go_num, by omega, ⟨Kd.R_mono HRC8 (fun _ _ => trivial)⟩, ⟨HB8⟩⟩, by simp [intOf]; omega⟩
    · obtain rfl : k = l.length := by omega
      rw [tnTo_all] at HR
      clear hlt
      go_wp2_with (go_at_call 69; refine (stab45_c HR.out (by rw [List.length_map]; exact HM.out)).mono ?_; rintro e w9 ⟨rfl, hs, hgr⟩; have HS9 := Aside0.mk hs; have HB9 : Aside0 (Below w.heap.size w w9) := ⟨HB.out.grown hgr HB.out.size (fun j hj => Kd.R_base HR.out j hj)⟩; clear hs hgr)
      go_ret
      exact ⟨_, rfl, HS9.out, HB9.out⟩
end Go.Proofs.Ytohhobcipfmkbaa.CTurn
