/- Texts of this claim, cut to what it needs. -/
import Derived.Test.YtohhobcipfmkbaaKUTurn
import Derived.Test.YtohhobcipfmkbaaKWalkClusterChecks
import Derived.Test.YtohhobcipfmkbaaKCFinA
import Derived.RegionTactic
import Derived.IntWalk
namespace Go.Proofs.Ytohhobcipfmkbaa.CTurn
open Go.RowKit Go.Maps Go.Proofs.YtohhobcipfmkbaaW.PrintWords Go.Proofs.YtohhobcipfmkbaaW.PrintMore Go.Proofs.YtohhobcipfmkbaaW.PrintLast Go.Proofs.Ytohhobcipfmkbaa.U Go.Proofs.Ytohhobcipfmkbaa.PClusterFinest Go.Proofs.Ytohhobcipfmkbaa.CFin Go.Proofs.Ytohhobcipfmkbaa.UFinEv Go.Proofs.Ytohhobcipfmkbaa.UTurn
open Go.Proofs.Ytohhobcipfmkbaa.CSort (below_grown2 own_hat)
set_option linter.unusedVariables false
set_option linter.unusedSimpArgs false
theorem hi45y : ∃ i, Try.prog.info? 45 = some i ∧ i.size = 4 := by
  have h := info45
  cases hi : Try.prog.info? 45 with
  | none => rw [hi] at h; cases h
  | some i =>
    rw [hi] at h
    simp only [Option.map_some, Option.some.injEq, Prod.mk.injEq] at h
    exact ⟨i, rfl, h.2.1⟩
abbrev cells45 (p : S45) : Obj := .cells #[.int .i64 p.f0.f0, .int .i64 p.f0.f1, .int .i64 p.f1.f0, .int .i64 p.f1.f1] 45 (0, 0)
theorem one45 {W : World} {b : Nat} {p : S45} (h : W.heap[b]? = some (cells45 p)) : Kd.C k45 W (some ⟨b, 0, none⟩) 1 [p] := by
  refine ⟨rfl, by decide, fun hn => ⟨_, rfl, fun j x hj => ?_⟩⟩
  match j, hj with
  | 0, hj =>
    obtain rfl := Option.some.inj hj
    refine ⟨_, rfl, k45_mk W _, fun i u hu => ?_⟩
    rw [show (⟨b, 0, none⟩ : Addr).add (0 * k45.sz + i) = ⟨b, i, none⟩ by rw [add_plain]; simp, blk_cell h]
    match i, hu with
    | 0, hu => exact hu
    | 1, hu => exact hu
    | 2, hu => exact hu
    | 3, hu => exact hu
set_option maxRecDepth 100000 in
set_option maxHeartbeats 4000000 in
theorem refTurn_c {w : World} {v : Value} {f : List S45} (h : SLk k45 w v f) (hm : f.length ≤ 1000000) :
    Calls Try.prog 35 #[v] w fun e w' => ∃ u, e = .returned u ∧ Kd.R k45 45 w' w.heap.size (fun _ => True) u (turnT f) ∧ Below w.heap.size w w' := by
  have HM := Aside0.mk hm
  obtain ⟨A, cf, rfl, hcf, hF⟩ := h
  have HFC := Aside0.mk hcf
  have HFF := Aside0.mk hF
  obtain ⟨i45, hi45, hs45⟩ := hi45y
  have HI45 := Aside0.mk hi45
  have HS45 := Aside0.mk hs45
  clear hm hcf hF hi45 hs45
  go_enter Try.func35, Try.ntmps35
  go_wp2
  go_loopw [3, 4] (fun v3 v4 wr => ∃ i : Nat, v4 = .int .i64 i ∧ i ≤ f.length ∧ Aside0 (Kd.R k45 45 wr w.heap.size (fun _ => True) v3 (turnT (f.take i))) ∧ Aside0 (Below w.heap.size w wr)) (fun _ v _ => f.length - (intOf v).toNat)
  case atStart => exact ⟨0, rfl, Nat.zero_le _, ⟨Kd.R_nil _ _ _ _ _⟩, ⟨Below.refl _ _⟩⟩
  case round =>
    obtain ⟨i, rfl, hi, HR, HB⟩ := hrel
    obtain ⟨A3, c3, ev, hc3, hC3⟩ := SLk.of_R HR.out
    subst ev
    by_cases hlt : i < f.length
    · have hiI : (i : Int) < (f.length : Int) := by omega
      have hnx : f.take (i + 1) = f.take i ++ [f[i]] := by rw [List.take_succ_eq_append_getElem hlt]
      obtain ⟨s, hs⟩ : ∃ s, s = f[i] := ⟨_, rfl⟩
      obtain ⟨p, hp⟩ : ∃ p, p = swp s := ⟨_, rfl⟩
      obtain ⟨o, ho⟩ : ∃ o, o = turnT (f.take i) := ⟨_, rfl⟩
      have hol : o.length = i := by rw [ho]; unfold turnT; rw [sortT_len, List.length_map, List.length_take]; omega
      have HNX : Aside0 (turnT (f.take (i + 1)) = o.take (cntT p o) ++ [p] ++ o.drop (cntT p o)) := ⟨by unfold turnT at ho ⊢; rw [hnx, ← hs, List.map_append, List.map_singleton, ← hp, sortT_snoc, ← ho]; rfl⟩
      have HRo : Aside0 (Kd.R k45 45 wr w.heap.size (fun _ => True) (.slice A3 o.length c3) o) := ⟨by rw [ho]; exact HR.out⟩
      have HC3 : Aside0 (o.length ≤ c3) := ⟨by rw [ho]; exact hc3⟩
      have HK3 : Aside0 (Kd.C k45 wr A3 o.length o) := ⟨by rw [ho]; exact hC3⟩
      clear hc3 hC3
      rw [← ho]
      have hrp : rd_T45 f (i : Int) = s := by rw [hs]; exact rd45 hlt
      have HCL := Aside0.mk (cntT_le p o)
      have HCT := Aside0.mk (cntT_lt p o)
      have HCA := Aside0.mk (cntT_at p o)
      generalize cntT p o = t at HCL HCT HCA HNX
      have HOL := Aside0.mk hol
      have HPS := Aside0.mk hp
      clear hnx hs ho HR hol hp
      obtain ⟨ad, ea, b0, b1, b2, b3⟩ := at_T45 (Kd.C_below HFF.out HB.out) (i : Int) (by omega) hiI
      rw [hrp, Int.toNat_natCast] at b0 b1 b2 b3
      subst ea
      obtain ⟨⟨x0, x1⟩, ⟨x2, x3⟩⟩ := s
      have hp := HPS.out
      subst hp
      clear HPS
      simp only [swp] at HCT HCA HNX
      simp only at b0 b1 b2 b3
      obtain ⟨wo, ewo⟩ : ∃ wo : World, wo = wr := ⟨_, rfl⟩
      subst ewo
      have hi0 : 0 ≤ (i : Int) := by omega
      have eti : (i : Int).toNat = i := Int.toNat_natCast _
      go_wp2
      have HBd : Aside0 (Below wo.heap.size wo wo.drew) := ⟨below_drew (Below.refl _ _)⟩
      have hc0 := b0
      have hc1 := b1
      have hc2 := b2
      have hc3 := b3
      refine start_ (n := 13) (S := (fun W => Below wo.heap.size wo W)) (ds := [12]) #[false, false, false, false, false, false, false, false, false, false, false, false, false] (by kernel_rfl) (by kernel_rfl) (by rfl) HBd.out (fun hS0 => ?_)
      refine pure_ (i := 0) (N := (some 13)) (v := ?_) (a' := ?_) #[true, false, false, false, false, false, false, false, false, false, false, false, false] rfl rfl (by kernel_rfl) (fun _ _ _ h => h) (Or.inl ⟨by rfl, ?_⟩) ?_ ?_
      rotate_left
      · intro w'
        go_simp
        with_reducible rfl
      rotate_left
      · simp only [Act.put, List.setIfInBounds_toArray, List.set_cons_zero, List.set_cons_succ]
        rfl
      refine pure_ (i := 1) (N := (some 14)) (v := ?_) (a' := ?_) #[true, true, false, false, false, false, false, false, false, false, false, false, false] rfl rfl (by kernel_rfl) (fun _ _ _ h => h) (Or.inl ⟨by rfl, ?_⟩) ?_ ?_
      rotate_left
      · intro w'
        go_simp
        with_reducible rfl
      rotate_left
      · simp only [Act.put, List.setIfInBounds_toArray, List.set_cons_zero, List.set_cons_succ]
        rfl
      refine pure_ (i := 2) (N := (some 15)) (v := ?_) (a' := ?_) #[true, true, true, false, false, false, false, false, false, false, false, false, false] rfl rfl (by kernel_rfl) (fun _ _ _ h => h) (Or.inl ⟨by rfl, ?_⟩) ?_ ?_
      rotate_left
      · intro w'
        go_simp
        with_reducible rfl
      rotate_left
      · simp only [Act.put, List.setIfInBounds_toArray, List.set_cons_zero, List.set_cons_succ]
        rfl
      refine pure_ (i := 3) (N := (some 16)) (v := ?_) (a' := ?_) #[true, true, true, true, false, false, false, false, false, false, false, false, false] rfl rfl (by kernel_rfl) (fun _ _ _ h => h) (Or.inl ⟨by rfl, ?_⟩) ?_ ?_
      rotate_left
      · intro w'
        go_simp
        with_reducible rfl
      rotate_left
      · simp only [Act.put, List.setIfInBounds_toArray, List.set_cons_zero, List.set_cons_succ]
        rfl
      refine take_ (i := 4) (N := (some 17)) (v := ?_) (a' := ?_) #[true, true, true, true, true, false, false, false, false, false, false, false, false] rfl rfl (by kernel_rfl) (fun _ _ _ h => h) (Or.inl ⟨by rfl, ?_⟩) hS0 ?_ ?_
      rotate_left
      · intro w' s0
        have hx0 := (s0.cell (World.block_lt_of_cell? _ _ hc0)).trans hc0
        have hx1 := (s0.cell (World.block_lt_of_cell? _ _ hc1)).trans hc1
        have hx2 := (s0.cell (World.block_lt_of_cell? _ _ hc2)).trans hc2
        have hx3 := (s0.cell (World.block_lt_of_cell? _ _ hc3)).trans hc3
        go_simp
        with_reducible rfl
      rotate_left
      · simp only [Act.put, List.setIfInBounds_toArray, List.set_cons_zero, List.set_cons_succ]
        rfl
      refine pure_ (i := 5) (N := (some 18)) (v := ?_) (a' := ?_) #[true, true, true, true, true, true, false, false, false, false, false, false, false] rfl rfl (by kernel_rfl) (fun _ _ _ h => h) (Or.inl ⟨by rfl, ?_⟩) ?_ ?_
      rotate_left
      · intro w'
        go_simp
        with_reducible rfl
      rotate_left
      · simp only [Act.put, List.setIfInBounds_toArray, List.set_cons_zero, List.set_cons_succ]
        rfl
      refine pure_ (i := 6) (N := (some 19)) (v := ?_) (a' := ?_) #[true, true, true, true, true, true, true, false, false, false, false, false, false] rfl rfl (by kernel_rfl) (fun _ _ _ h => h) (Or.inl ⟨by rfl, ?_⟩) ?_ ?_
      rotate_left
      · intro w'
        go_simp
        with_reducible rfl
      rotate_left
      · simp only [Act.put, List.setIfInBounds_toArray, List.set_cons_zero, List.set_cons_succ]
        rfl
      refine pure_ (i := 7) (N := (some 20)) (v := ?_) (a' := ?_) #[true, true, true, true, true, true, true, true, false, false, false, false, false] rfl rfl (by kernel_rfl) (fun _ _ _ h => h) (Or.inl ⟨by rfl, ?_⟩) ?_ ?_
      rotate_left
      · intro w'
        go_simp
        with_reducible rfl
      rotate_left
      · simp only [Act.put, List.setIfInBounds_toArray, List.set_cons_zero, List.set_cons_succ]
        rfl
      refine pure_ (i := 8) (N := (some 21)) (v := ?_) (a' := ?_) #[true, true, true, true, true, true, true, true, true, false, false, false, false] rfl rfl (by kernel_rfl) (fun _ _ _ h => h) (Or.inl ⟨by rfl, ?_⟩) ?_ ?_
      rotate_left
      · intro w'
        go_simp
        with_reducible rfl
      rotate_left
      · simp only [Act.put, List.setIfInBounds_toArray, List.set_cons_zero, List.set_cons_succ]
        rfl
      refine take_ (i := 9) (N := (some 22)) (v := ?_) (a' := ?_) #[true, true, true, true, true, true, true, true, true, true, false, false, false] rfl rfl (by kernel_rfl) (fun _ _ _ h => h) (Or.inl ⟨by rfl, ?_⟩) hS0 ?_ ?_
      rotate_left
      · intro w' s0
        have hx0 := (s0.cell (World.block_lt_of_cell? _ _ hc0)).trans hc0
        have hx1 := (s0.cell (World.block_lt_of_cell? _ _ hc1)).trans hc1
        have hx2 := (s0.cell (World.block_lt_of_cell? _ _ hc2)).trans hc2
        have hx3 := (s0.cell (World.block_lt_of_cell? _ _ hc3)).trans hc3
        go_simp
        with_reducible rfl
      rotate_left
      · simp only [Act.put, List.setIfInBounds_toArray, List.set_cons_zero, List.set_cons_succ]
        rfl
      refine pure_ (i := 10) (N := (some 23)) (v := ?_) (a' := ?_) #[true, true, true, true, true, true, true, true, true, true, true, false, false] rfl rfl (by kernel_rfl) (fun _ _ _ h => h) (Or.inl ⟨by rfl, ?_⟩) ?_ ?_
      rotate_left
      · intro w'
        go_simp
        with_reducible rfl
      rotate_left
      · simp only [Act.put, List.setIfInBounds_toArray, List.set_cons_zero, List.set_cons_succ]
        rfl
      clear hS0
      refine one_ (i := 11) (N := (some 5)) #[true, true, true, true, true, true, true, true, true, true, true, true, false] rfl rfl (by kernel_rfl) (by decide) (fun K hK => ?_)
      refine box_step (by rfl) (N := 5) rfl (cs := #[.int .i64 0, .int .i64 0, .int .i64 0, .int .i64 0]) (t := 45) (by go_simp) ?_
      intro gb hg w6 hbox hb
      have HX6 := Aside0.mk hbox
      have HGE : Aside0 (wo.heap.size ≤ gb) := ⟨by rw [hg]; exact HBd.out.size⟩
      have HB6 := Aside0.mk hb
      have z0 : w6.cell? ⟨gb, 0, none⟩ = some (.int .i64 0) := (blk_cell hbox 0).trans rfl
      have z1 : w6.cell? ⟨gb, 1, none⟩ = some (.int .i64 0) := (blk_cell hbox 1).trans rfl
      have z2 : w6.cell? ⟨gb, 2, none⟩ = some (.int .i64 0) := (blk_cell hbox 2).trans rfl
      have z3 : w6.cell? ⟨gb, 3, none⟩ = some (.int .i64 0) := (blk_cell hbox 3).trans rfl
      have f0 := blk_frozen hbox 0
      have f1 := blk_frozen hbox 1
      have f2 := blk_frozen hbox 2
      have f3 := blk_frozen hbox 3
      clear hg hbox hb
      change K (Act.put _ (some 5) _) _
      refine hK.out _ _ (below_step HBd.out HB6.out) (fun hS0 => ?_)
      clear hK
      refine norm_ (a' := ?_) ?_ ?_
      rotate_left
      · simp only [Act.put, List.setIfInBounds_toArray, List.set_cons_zero, List.set_cons_succ]
        rfl
      clear hS0
      refine last_ (i := 12) (N := none) #[true, true, true, true, true, true, true, true, true, true, true, true, true] rfl rfl (by kernel_rfl) (by decide) (fun K hK => ?_)
      refine skip_ (w1 := (((w6.setCell ⟨gb, 0, none⟩ (.int .i64 x2)).setCell ⟨gb, 1, none⟩ (.int .i64 x3)).setCell ⟨gb, 2, none⟩ (.int .i64 x0)).setCell ⟨gb, 3, none⟩ (.int .i64 x1)) (by rfl) rfl (by go_simp) ?_
      have HY := Aside0.mk (blk_put (blk_put (blk_put (blk_put HX6.out 0 (.int .i64 x2) rfl) 1 (.int .i64 x3) rfl) 2 (.int .i64 x0) rfl) 3 (.int .i64 x1) rfl)
      have HG := Aside0.mk (World.grownBy.trans (World.grownBy.trans (World.grownBy.trans (grown_set w6 gb 0 (.int .i64 x2)) (grown_set _ gb 1 (.int .i64 x3))) (grown_set _ gb 2 (.int .i64 x0))) (grown_set _ gb 3 (.int .i64 x1)))
      generalize (((w6.setCell ⟨gb, 0, none⟩ (.int .i64 x2)).setCell ⟨gb, 1, none⟩ (.int .i64 x3)).setCell ⟨gb, 2, none⟩ (.int .i64 x0)).setCell ⟨gb, 3, none⟩ (.int .i64 x1) = w7 at HY HG ⊢
      have HBo : Aside0 (Below wo.heap.size wo w7) := ⟨(below_step HBd.out HB6.out).grown HG.out (below_step HBd.out HB6.out).size (fun j hj => by obtain rfl := Option.some.inj hj; exact HGE.out)⟩
      clear HX6 HG HB6 z0 z1 z2 z3 f0 f1 f2 f3
      refine hK.out _ _ ?_
      clear hK
      refine done_ (by kernel_rfl) ?_
      clear hc0 hc1 hc2 hc3 HBd
      have HBw7 : Aside0 (Below w.heap.size w w7) := ⟨below_step HB.out HBo.out⟩
      go_wp2
      go_loopw [6] (fun v w2 => ∃ k : Nat, v = .int .i64 k ∧ k ≤ t ∧ Aside0 (Below w7.heap.size w7 w2)) (fun v _ => t - (intOf v).toNat)
      case atStart => exact ⟨0, rfl, Nat.zero_le _, ⟨Below.refl _ _⟩⟩
      case round =>
        obtain ⟨k, rfl, hk, HBW⟩ := hrel
        have HBoW : Aside0 (Below wo.heap.size wo wr) := ⟨below_step HBo.out HBW.out⟩
        have hk0 : 0 ≤ (k : Int) := by omega
        have etk : (k : Int).toNat = k := Int.toNat_natCast _
        have HBr : Aside0 (wr.heap[gb]? = some (.cells #[.int .i64 x2, .int .i64 x3, .int .i64 x0, .int .i64 x1] 45 (0, 0))) := ⟨(HBW.out.block _ (blk_lt HY.out)).trans HY.out⟩
        have h1 : wr.cell? ⟨gb, 0, none⟩ = some (.int .i64 x2) := (blk_cell HBr.out 0).trans rfl
        by_cases hlt2 : k < o.length
        · have hkI : (k : Int) < (o.length : Int) := by omega
          obtain ⟨ad3, ea, g1, -, -, -⟩ := at_T45 (Kd.C_below HK3.out HBoW.out) (k : Int) (by omega) hkI
          subst ea
          rw [Int.toNat_natCast] at g1
          by_cases hkt : k < t
          · have hz := HCT.out k hkt
            generalize (rd_T45 o k).f0.f0 = z0 at g1 hz
            have q : decide (z0 ≤ x2) = true := decide_eq_true hz
            go_wp2
            go_region
            go_wp2
            try rw [w64 (n := (k : Int) + 1) (by omega) (by have := HCL.out; have := HM.out; have := HOL.out; omega)]
            exact ⟨⟨k + 1, by go_num, by omega, ⟨below_drew HBW.out⟩⟩, by simp [intOf]; omega⟩
          · obtain rfl : k = t := by omega
            have hz := HCA.out hlt2
            generalize (rd_T45 o k).f0.f0 = z0 at g1 hz
            have q : decide (z0 ≤ x2) = false := decide_eq_false (by omega)
            go_wp2
            go_region
            go_wp2
            clear hz q g1 h1 HBr
            obtain ⟨W1, hW1⟩ : ∃ W1, W1 = wr.drew := ⟨_, rfl⟩
            rw [← hW1]
            have hBd : Below w7.heap.size w7 W1 := by rw [hW1]; exact below_drew HBW.out
            have HBb : Aside0 (W1.heap[gb]? = some (.cells #[.int .i64 x2, .int .i64 x3, .int .i64 x0, .int .i64 x1] 45 (0, 0))) := ⟨(hBd.block _ (blk_lt HY.out)).trans HY.out⟩
            have hc0 : W1.cell? ⟨gb, 0, none⟩ = some (.int .i64 x2) := (blk_cell HBb.out 0).trans rfl
            have hc1 : W1.cell? ⟨gb, 1, none⟩ = some (.int .i64 x3) := (blk_cell HBb.out 1).trans rfl
            have hc2 : W1.cell? ⟨gb, 2, none⟩ = some (.int .i64 x0) := (blk_cell HBb.out 2).trans rfl
            have hc3 : W1.cell? ⟨gb, 3, none⟩ = some (.int .i64 x1) := (blk_cell HBb.out 3).trans rfl
            clear hW1
            have hBo : Below wo.heap.size wo W1 := below_step HBo.out hBd
            have hWw : Below w.heap.size w W1 := below_step HB.out hBo
            have hkl : k ≤ o.length := HCL.out
            have hcutT := cut_to (P := Try.prog) 40 45 .i64 Try.underlying40 HI45.out (some ad3) o.length c3 (k : Int) (by omega) (by omega) HC3.out
            have hcutF := cut_from (P := Try.prog) 40 45 .i64 Try.underlying40 HI45.out 4 HS45.out (some ad3) o.length c3 (k : Int) (by omega) (by omega)
            rw [Int.toNat_natCast] at hcutT hcutF
            have HTK : Aside0 (Kd.C k45 W1 (some ad3) k (o.take k)) := ⟨by
              have := Kd.C_take (m := k) (Kd.C_below HK3.out hBo) hkl
              rwa [List.length_take, Nat.min_eq_left hkl] at this⟩
            have HDR0 : Kd.C k45 W1 (if c3 = k then (some ad3) else Option.map (fun x => x.add (k * 4)) (some ad3)) (o.length - k) (o.drop k) := by
              have := Kd.C_drop (m := k) (c := c3) (Kd.C_below HK3.out hBo) hkl HC3.out
              rwa [List.length_drop] at this
            generalize (if c3 = k then (some ad3) else Option.map (fun x => x.add (k * 4)) (some ad3)) = A2 at hcutF HDR0
            have HDR := Aside0.mk HDR0
            have HKL := Aside0.mk hkl
            have HBx : Aside0 (Below w.heap.size w W1.drew) := ⟨below_drew hWw⟩
            have HSx : Aside0 (Below W1.heap.size W1 W1.drew) := ⟨below_drew (Below.refl _ _)⟩
            clear HDR0 hWw hBd hBo
            refine start_ (n := 12) (S := (fun W => Below W1.heap.size W1 W)) (ds := []) #[false, false, false, false, false, false, false, false, false, false, false, false] (by kernel_rfl) (by kernel_rfl) (by rfl) HSx.out (fun hS0 => ?_)
            refine pure_ (i := 0) (N := (some 42)) (v := ?_) (a' := ?_) #[true, false, false, false, false, false, false, false, false, false, false, false] rfl rfl (by kernel_rfl) (fun _ _ _ h => h) (Or.inl ⟨by rfl, ?_⟩) ?_ ?_
            rotate_left
            · intro w'
              go_simp
              with_reducible rfl
            rotate_left
            · simp only [Act.put, List.setIfInBounds_toArray, List.set_cons_zero, List.set_cons_succ]
              rfl
            refine pure_ (i := 1) (N := (some 43)) (v := ?_) (a' := ?_) #[true, true, false, false, false, false, false, false, false, false, false, false] rfl rfl (by kernel_rfl) (fun _ _ _ h => h) (Or.inl ⟨by rfl, ?_⟩) ?_ ?_
            rotate_left
            · intro w'
              go_simp
              with_reducible rfl
            rotate_left
            · simp only [Act.put, List.setIfInBounds_toArray, List.set_cons_zero, List.set_cons_succ]
              rfl
            refine pure_ (i := 2) (N := (some 44)) (v := ?_) (a' := ?_) #[true, true, true, false, false, false, false, false, false, false, false, false] rfl rfl (by kernel_rfl) (fun _ _ _ h => h) (Or.inl ⟨by rfl, ?_⟩) ?_ ?_
            rotate_left
            · intro w'
              go_simp
              with_reducible rfl
            rotate_left
            · simp only [Act.put, List.setIfInBounds_toArray, List.set_cons_zero, List.set_cons_succ]
              rfl
            refine take_ (i := 4) (N := (some 46)) (v := ?_) (a' := ?_) #[true, true, true, false, true, false, false, false, false, false, false, false] rfl rfl (by kernel_rfl) (fun _ _ _ h => h) (Or.inl ⟨by rfl, ?_⟩) hS0 ?_ ?_
            rotate_left
            · intro w' s0
              have hx0 := (s0.cell (World.block_lt_of_cell? _ _ hc0)).trans hc0
              have hx1 := (s0.cell (World.block_lt_of_cell? _ _ hc1)).trans hc1
              have hx2 := (s0.cell (World.block_lt_of_cell? _ _ hc2)).trans hc2
              have hx3 := (s0.cell (World.block_lt_of_cell? _ _ hc3)).trans hc3
              go_simp
              with_reducible rfl
            rotate_left
            · simp only [Act.put, List.setIfInBounds_toArray, List.set_cons_zero, List.set_cons_succ]
              rfl
            refine pure_ (i := 7) (N := (some 49)) (v := ?_) (a' := ?_) #[true, true, true, false, true, false, false, true, false, false, false, false] rfl rfl (by kernel_rfl) (fun _ _ _ h => h) (Or.inl ⟨by rfl, ?_⟩) ?_ ?_
            rotate_left
            · intro w'
              go_simp
              with_reducible rfl
            rotate_left
            · simp only [Act.put, List.setIfInBounds_toArray, List.set_cons_zero, List.set_cons_succ]
              rfl
            refine pure_ (i := 8) (N := (some 50)) (v := ?_) (a' := ?_) #[true, true, true, false, true, false, false, true, true, false, false, false] rfl rfl (by kernel_rfl) (fun _ _ _ h => h) (Or.inl ⟨by rfl, ?_⟩) ?_ ?_
            rotate_left
            · intro w'
              go_simp
              with_reducible rfl
            rotate_left
            · simp only [Act.put, List.setIfInBounds_toArray, List.set_cons_zero, List.set_cons_succ]
              rfl
            refine pure_ (i := 9) (N := (some 51)) (v := ?_) (a' := ?_) #[true, true, true, false, true, false, false, true, true, true, false, false] rfl rfl (by kernel_rfl) (fun _ _ _ h => h) (Or.inl ⟨by rfl, ?_⟩) ?_ ?_
            rotate_left
            · intro w'
              go_simp
              with_reducible rfl
            rotate_left
            · simp only [Act.put, List.setIfInBounds_toArray, List.set_cons_zero, List.set_cons_succ]
              rfl
            clear hS0
            refine two_ (i := 3) (j := 5) (Ni := some 45) (Nj := some 47) #[true, true, true, true, true, false, false, true, true, true, false, false] #[true, true, true, false, true, true, false, true, true, true, false, false] rfl rfl rfl rfl (by kernel_rfl) (by decide) (by decide) (fun K hK => ?_) (fun K hK => ?_)
            · refine Kd.R_append_rows_step k45 (w0 := w) w.heap.size (by rfl) (.const (.slice none 0 0)) (.tmp 44) 40 45 (.agg #[.int .i64 0, .int .i64 0, .int .i64 0, .int .i64 0]) 32 rfl Try.underlying40 info45 rfl (by decide) (by omega) (.slice none 0 0) [] (o.take k) (some ad3) k c3 (fun _ => True) (fun _ => False) rfl rfl (Kd.R_nil _ _ _ _ _) (Kd.C_below HTK.out HSx.out) (fun _ _ h => h) (fun _ h => h.elim) (fun _ _ => trivial) HBx.out HBx.out.size (by have := HM.out; have := HOL.out; simp only [List.length_append, List.length_take, List.length_cons, List.length_nil]; omega) ?_
              intro v1 wm1 hv hb hg hat
              have HV1 := Aside0.mk hv
              have HB1 := Aside0.mk hb
              have HA1 : Aside0 (∀ k, v1.ownBlock = some k → W1.heap.size ≤ k) := ⟨own_hat (fun k hk => by simp [Value.ownBlock] at hk) hat HSx.out.size⟩
              have HS1 := Aside0.mk (below_grown2 HSx.out (Nat.le_refl _) hg (fun k hk => by simp [Value.ownBlock] at hk))
              have HG1 := Aside0.mk hg
              clear hv hb hg hat
              change K (Act.put _ (some 45) _) _
              refine hK.out _ _ HS1.out (fun hS0 => ?_)
              clear hK
              refine norm_ (a' := ?_) ?_ ?_
              rotate_left
              · simp only [Act.put, List.setIfInBounds_toArray, List.set_cons_zero, List.set_cons_succ]
                rfl
              clear hS0
              refine one_ (i := 5) (N := (some 47)) #[true, true, true, true, true, true, false, true, true, true, false, false] rfl rfl (by kernel_rfl) (by decide) (fun K hK => ?_)
              refine value_ (w1 := wm1.alloc (cells45 (⟨⟨x2, x3⟩, ⟨x0, x1⟩⟩ : S45))) (v := .slice (some ⟨wm1.heap.size, 0, none⟩) 1 1) (by rfl) rfl (by go_simp) ?_
              have HVc := Aside0.mk (Kd.R_alloc HV1.out (cells45 (⟨⟨x2, x3⟩, ⟨x0, x1⟩⟩ : S45)))
              have HBc := Aside0.mk (below_alloc HB1.out (cells45 (⟨⟨x2, x3⟩, ⟨x0, x1⟩⟩ : S45)))
              have HSc := Aside0.mk (below_alloc HS1.out (cells45 (⟨⟨x2, x3⟩, ⟨x0, x1⟩⟩ : S45)))
              have HLc : Aside0 (Kd.C k45 (wm1.alloc (cells45 (⟨⟨x2, x3⟩, ⟨x0, x1⟩⟩ : S45))) (some ⟨wm1.heap.size, 0, none⟩) 1 [(⟨⟨x2, x3⟩, ⟨x0, x1⟩⟩ : S45)]) := ⟨one45 (MapKept.heap_alloc wm1 _).1⟩
              change K (Act.put _ (some 47) _) _
              refine hK.out _ _ HSc.out (fun hS0 => ?_)
              clear hK
              refine norm_ (a' := ?_) ?_ ?_
              rotate_left
              · simp only [Act.put, List.setIfInBounds_toArray, List.set_cons_zero, List.set_cons_succ]
                rfl
              clear hS0
              refine one_ (i := 6) (N := (some 48)) #[true, true, true, true, true, true, true, true, true, true, false, false] rfl rfl (by kernel_rfl) (by decide) (fun K hK => ?_)
              refine Kd.R_append_rows_step k45 (w0 := w) w.heap.size (by rfl) (.tmp 45) (.tmp 47) 40 45 (.agg #[.int .i64 0, .int .i64 0, .int .i64 0, .int .i64 0]) 32 rfl Try.underlying40 info45 rfl (by decide) (by omega) v1 (o.take k) [(⟨⟨x2, x3⟩, ⟨x0, x1⟩⟩ : S45)] (some ⟨wm1.heap.size, 0, none⟩) 1 1 (fun _ => True) (fun _ => False) rfl rfl HVc.out HLc.out (fun _ _ h => h) (fun _ h => h.elim) (fun _ _ => trivial) HBc.out HBc.out.size (by have := HM.out; have := HOL.out; simp only [List.length_append, List.length_take, List.length_cons, List.length_nil]; omega) ?_
              intro v3 wm3 hv hb hg hat
              have HV3 := Aside0.mk hv
              have HB3 := Aside0.mk hb
              have HA3 : Aside0 (∀ k, v3.ownBlock = some k → W1.heap.size ≤ k) := ⟨own_hat HA1.out hat HSc.out.size⟩
              have HS3 := Aside0.mk (below_grown2 HSc.out (Nat.le_refl _) hg HA1.out)
              have HG3 := Aside0.mk hg
              clear hv hb hg hat
              change K (Act.put _ (some 48) _) _
              refine hK.out _ _ HS3.out (fun hS0 => ?_)
              clear hK
              refine norm_ (a' := ?_) ?_ ?_
              rotate_left
              · simp only [Act.put, List.setIfInBounds_toArray, List.set_cons_zero, List.set_cons_succ]
                rfl
              clear hS0
              refine one_ (i := 10) (N := (some 52)) #[true, true, true, true, true, true, true, true, true, true, true, false] rfl rfl (by kernel_rfl) (by decide) (fun K hK => ?_)
              refine Kd.R_append_rows_step k45 (w0 := w) w.heap.size (by rfl) (.tmp 48) (.tmp 51) 40 45 (.agg #[.int .i64 0, .int .i64 0, .int .i64 0, .int .i64 0]) 32 rfl Try.underlying40 info45 rfl (by decide) (by omega) v3 (o.take k ++ [(⟨⟨x2, x3⟩, ⟨x0, x1⟩⟩ : S45)]) (o.drop k) A2 (o.length - k) (c3 - k) (fun _ => True) (fun _ => False) rfl rfl HV3.out (Kd.C_below HDR.out HS3.out) (fun _ _ h => h) (fun _ h => h.elim) (fun _ _ => trivial) HB3.out HB3.out.size (by have := HM.out; have := HOL.out; simp only [List.length_append, List.length_take, List.length_cons, List.length_nil]; omega) ?_
              intro v4 wm4 hv hb hg hat
              have HV4 := Aside0.mk hv
              have HB4 := Aside0.mk hb
              have HA4 : Aside0 (∀ k, v4.ownBlock = some k → W1.heap.size ≤ k) := ⟨own_hat HA3.out hat HS3.out.size⟩
              have HS4 := Aside0.mk (below_grown2 HS3.out (Nat.le_refl _) hg HA3.out)
              have HG4 := Aside0.mk hg
              clear hv hb hg hat
              change K (Act.put _ (some 52) _) _
              refine hK.out _ _ HS4.out (fun hS0 => ?_)
              clear hK
              refine norm_ (a' := ?_) ?_ ?_
              rotate_left
              · simp only [Act.put, List.setIfInBounds_toArray, List.set_cons_zero, List.set_cons_succ]
                rfl
              refine pure_ (i := 11) (N := (some 3)) (v := ?_) (a' := ?_) #[true, true, true, true, true, true, true, true, true, true, true, true] rfl rfl (by kernel_rfl) (fun _ _ _ h => h) (Or.inl ⟨by rfl, ?_⟩) ?_ ?_
              rotate_left
              · intro w'
                go_simp
                with_reducible rfl
              rotate_left
              · simp only [Act.put, List.setIfInBounds_toArray, List.set_cons_zero, List.set_cons_succ]
                rfl
              refine done_ (by kernel_rfl) ?_
              clear hS0
              go_wp2
              try rw [w64 (n := (i : Int) + 1) (by omega) (by have := HM.out; omega)]
              exact ⟨⟨i + 1, by go_num, by omega, ⟨by rw [HNX.out]; exact HV4.out⟩, HB4⟩, by simp [intOf]; omega⟩
            · refine value_ (w1 := W1.drew.alloc (cells45 (⟨⟨x2, x3⟩, ⟨x0, x1⟩⟩ : S45))) (v := .slice (some ⟨W1.drew.heap.size, 0, none⟩) 1 1) (by rfl) rfl (by go_simp) ?_
              have HBa := Aside0.mk (below_alloc HBx.out (cells45 (⟨⟨x2, x3⟩, ⟨x0, x1⟩⟩ : S45)))
              have HSa := Aside0.mk (below_alloc HSx.out (cells45 (⟨⟨x2, x3⟩, ⟨x0, x1⟩⟩ : S45)))
              have HLa : Aside0 (Kd.C k45 (W1.drew.alloc (cells45 (⟨⟨x2, x3⟩, ⟨x0, x1⟩⟩ : S45))) (some ⟨W1.drew.heap.size, 0, none⟩) 1 [(⟨⟨x2, x3⟩, ⟨x0, x1⟩⟩ : S45)]) := ⟨one45 (MapKept.heap_alloc W1.drew _).1⟩
              change K (Act.put _ (some 47) _) _
              refine hK.out _ _ HSa.out (fun hS0 => ?_)
              clear hK
              refine norm_ (a' := ?_) ?_ ?_
              rotate_left
              · simp only [Act.put, List.setIfInBounds_toArray, List.set_cons_zero, List.set_cons_succ]
                rfl
              clear hS0
              refine one_ (i := 3) (N := (some 45)) #[true, true, true, true, true, true, false, true, true, true, false, false] rfl rfl (by kernel_rfl) (by decide) (fun K hK => ?_)
              refine Kd.R_append_rows_step k45 (w0 := w) w.heap.size (by rfl) (.const (.slice none 0 0)) (.tmp 44) 40 45 (.agg #[.int .i64 0, .int .i64 0, .int .i64 0, .int .i64 0]) 32 rfl Try.underlying40 info45 rfl (by decide) (by omega) (.slice none 0 0) [] (o.take k) (some ad3) k c3 (fun _ => True) (fun _ => False) rfl rfl (Kd.R_nil _ _ _ _ _) (Kd.C_below HTK.out HSa.out) (fun _ _ h => h) (fun _ h => h.elim) (fun _ _ => trivial) HBa.out HBa.out.size (by have := HM.out; have := HOL.out; simp only [List.length_append, List.length_take, List.length_cons, List.length_nil]; omega) ?_
              intro v1 wm1 hv hb hg hat
              have HV1 := Aside0.mk hv
              have HB1 := Aside0.mk hb
              have HA1 : Aside0 (∀ k, v1.ownBlock = some k → W1.heap.size ≤ k) := ⟨own_hat (fun k hk => by simp [Value.ownBlock] at hk) hat HSa.out.size⟩
              have HS1 := Aside0.mk (below_grown2 HSa.out (Nat.le_refl _) hg (fun k hk => by simp [Value.ownBlock] at hk))
              have HG1 := Aside0.mk hg
              clear hv hb hg hat
              have HLc := Aside0.mk (Kd.C_below HLa.out (below_grown2 (Below.refl _ _) (Nat.le_refl _) HG1.out (fun k hk => by simp [Value.ownBlock] at hk)))
              have HVc := HV1
              have HBc := HB1
              have HSc := HS1
              change K (Act.put _ (some 45) _) _
              refine hK.out _ _ HS1.out (fun hS0 => ?_)
              clear hK
              refine norm_ (a' := ?_) ?_ ?_
              rotate_left
              · simp only [Act.put, List.setIfInBounds_toArray, List.set_cons_zero, List.set_cons_succ]
                rfl
              clear hS0
              refine one_ (i := 6) (N := (some 48)) #[true, true, true, true, true, true, true, true, true, true, false, false] rfl rfl (by kernel_rfl) (by decide) (fun K hK => ?_)
              refine Kd.R_append_rows_step k45 (w0 := w) w.heap.size (by rfl) (.tmp 45) (.tmp 47) 40 45 (.agg #[.int .i64 0, .int .i64 0, .int .i64 0, .int .i64 0]) 32 rfl Try.underlying40 info45 rfl (by decide) (by omega) v1 (o.take k) [(⟨⟨x2, x3⟩, ⟨x0, x1⟩⟩ : S45)] (some ⟨W1.drew.heap.size, 0, none⟩) 1 1 (fun _ => True) (fun _ => False) rfl rfl HVc.out HLc.out (fun _ _ h => h) (fun _ h => h.elim) (fun _ _ => trivial) HBc.out HBc.out.size (by have := HM.out; have := HOL.out; simp only [List.length_append, List.length_take, List.length_cons, List.length_nil]; omega) ?_
              intro v3 wm3 hv hb hg hat
              have HV3 := Aside0.mk hv
              have HB3 := Aside0.mk hb
              have HA3 : Aside0 (∀ k, v3.ownBlock = some k → W1.heap.size ≤ k) := ⟨own_hat HA1.out hat HSc.out.size⟩
              have HS3 := Aside0.mk (below_grown2 HSc.out (Nat.le_refl _) hg HA1.out)
              have HG3 := Aside0.mk hg
              clear hv hb hg hat
              change K (Act.put _ (some 48) _) _
              refine hK.out _ _ HS3.out (fun hS0 => ?_)
              clear hK
              refine norm_ (a' := ?_) ?_ ?_
              rotate_left
              · simp only [Act.put, List.setIfInBounds_toArray, List.set_cons_zero, List.set_cons_succ]
                rfl
              clear hS0
              refine one_ (i := 10) (N := (some 52)) #[true, true, true, true, true, true, true, true, true, true, true, false] rfl rfl (by kernel_rfl) (by decide) (fun K hK => ?_)
              refine Kd.R_append_rows_step k45 (w0 := w) w.heap.size (by rfl) (.tmp 48) (.tmp 51) 40 45 (.agg #[.int .i64 0, .int .i64 0, .int .i64 0, .int .i64 0]) 32 rfl Try.underlying40 info45 rfl (by decide) (by omega) v3 (o.take k ++ [(⟨⟨x2, x3⟩, ⟨x0, x1⟩⟩ : S45)]) (o.drop k) A2 (o.length - k) (c3 - k) (fun _ => True) (fun _ => False) rfl rfl HV3.out (Kd.C_below HDR.out HS3.out) (fun _ _ h => h) (fun _ h => h.elim) (fun _ _ => trivial) HB3.out HB3.out.size (by have := HM.out; have := HOL.out; simp only [List.length_append, List.length_take, List.length_cons, List.length_nil]; omega) ?_
              intro v4 wm4 hv hb hg hat
              have HV4 := Aside0.mk hv
              have HB4 := Aside0.mk hb
              have HA4 : Aside0 (∀ k, v4.ownBlock = some k → W1.heap.size ≤ k) := ⟨own_hat HA3.out hat HS3.out.size⟩
              have HS4 := Aside0.mk (below_grown2 HS3.out (Nat.le_refl _) hg HA3.out)
              have HG4 := Aside0.mk hg
              clear hv hb hg hat
              change K (Act.put _ (some 52) _) _
              refine hK.out _ _ HS4.out (fun hS0 => ?_)
              clear hK
              refine norm_ (a' := ?_) ?_ ?_
              rotate_left
              · simp only [Act.put, List.setIfInBounds_toArray, List.set_cons_zero, List.set_cons_succ]
                rfl
              refine pure_ (i := 11) (N := (some 3)) (v := ?_) (a' := ?_) #[true, true, true, true, true, true, true, true, true, true, true, true] rfl rfl (by kernel_rfl) (fun _ _ _ h => h) (Or.inl ⟨by rfl, ?_⟩) ?_ ?_
              rotate_left
              · intro w'
                go_simp
                with_reducible rfl
              rotate_left
              · simp only [Act.put, List.setIfInBounds_toArray, List.set_cons_zero, List.set_cons_succ]
                rfl
              refine done_ (by kernel_rfl) ?_
              clear hS0
              go_wp2
              try rw [w64 (n := (i : Int) + 1) (by omega) (by have := HM.out; omega)]
              exact ⟨⟨i + 1, by go_num, by omega, ⟨by rw [HNX.out]; exact HV4.out⟩, HB4⟩, by simp [intOf]; omega⟩
        · have hko : k = t := by have := HCL.out; omega
          subst hko
          have hkI : ¬ (k : Int) < (o.length : Int) := by omega
          go_wp2
          go_region
          go_wp2
          clear h1 HBr
          obtain ⟨W1, hW1⟩ : ∃ W1, W1 = wr.drew := ⟨_, rfl⟩
          rw [← hW1]
          have hBd : Below w7.heap.size w7 W1 := by rw [hW1]; exact below_drew HBW.out
          have HBb : Aside0 (W1.heap[gb]? = some (.cells #[.int .i64 x2, .int .i64 x3, .int .i64 x0, .int .i64 x1] 45 (0, 0))) := ⟨(hBd.block _ (blk_lt HY.out)).trans HY.out⟩
          have hc0 : W1.cell? ⟨gb, 0, none⟩ = some (.int .i64 x2) := (blk_cell HBb.out 0).trans rfl
          have hc1 : W1.cell? ⟨gb, 1, none⟩ = some (.int .i64 x3) := (blk_cell HBb.out 1).trans rfl
          have hc2 : W1.cell? ⟨gb, 2, none⟩ = some (.int .i64 x0) := (blk_cell HBb.out 2).trans rfl
          have hc3 : W1.cell? ⟨gb, 3, none⟩ = some (.int .i64 x1) := (blk_cell HBb.out 3).trans rfl
          clear hW1
          have hBo : Below wo.heap.size wo W1 := below_step HBo.out hBd
          have hWw : Below w.heap.size w W1 := below_step HB.out hBo
          have hkl : k ≤ o.length := HCL.out
          have hcutT := cut_to (P := Try.prog) 40 45 .i64 Try.underlying40 HI45.out A3 o.length c3 (k : Int) (by omega) (by omega) HC3.out
          have hcutF := cut_from (P := Try.prog) 40 45 .i64 Try.underlying40 HI45.out 4 HS45.out A3 o.length c3 (k : Int) (by omega) (by omega)
          rw [Int.toNat_natCast] at hcutT hcutF
          have HTK : Aside0 (Kd.C k45 W1 A3 k (o.take k)) := ⟨by
            have := Kd.C_take (m := k) (Kd.C_below HK3.out hBo) hkl
            rwa [List.length_take, Nat.min_eq_left hkl] at this⟩
          have HDR0 : Kd.C k45 W1 (if c3 = k then A3 else Option.map (fun x => x.add (k * 4)) A3) (o.length - k) (o.drop k) := by
            have := Kd.C_drop (m := k) (c := c3) (Kd.C_below HK3.out hBo) hkl HC3.out
            rwa [List.length_drop] at this
          generalize (if c3 = k then A3 else Option.map (fun x => x.add (k * 4)) A3) = A2 at hcutF HDR0
          have HDR := Aside0.mk HDR0
          have HKL := Aside0.mk hkl
          have HBx : Aside0 (Below w.heap.size w W1.drew) := ⟨below_drew hWw⟩
          have HSx : Aside0 (Below W1.heap.size W1 W1.drew) := ⟨below_drew (Below.refl _ _)⟩
          clear HDR0 hWw hBd hBo
          refine start_ (n := 12) (S := (fun W => Below W1.heap.size W1 W)) (ds := []) #[false, false, false, false, false, false, false, false, false, false, false, false] (by kernel_rfl) (by kernel_rfl) (by rfl) HSx.out (fun hS0 => ?_)
          refine pure_ (i := 0) (N := (some 42)) (v := ?_) (a' := ?_) #[true, false, false, false, false, false, false, false, false, false, false, false] rfl rfl (by kernel_rfl) (fun _ _ _ h => h) (Or.inl ⟨by rfl, ?_⟩) ?_ ?_
          rotate_left
          · intro w'
            go_simp
            with_reducible rfl
          rotate_left
          · simp only [Act.put, List.setIfInBounds_toArray, List.set_cons_zero, List.set_cons_succ]
            rfl
          refine pure_ (i := 1) (N := (some 43)) (v := ?_) (a' := ?_) #[true, true, false, false, false, false, false, false, false, false, false, false] rfl rfl (by kernel_rfl) (fun _ _ _ h => h) (Or.inl ⟨by rfl, ?_⟩) ?_ ?_
          rotate_left
          · intro w'
            go_simp
            with_reducible rfl
          rotate_left
          · simp only [Act.put, List.setIfInBounds_toArray, List.set_cons_zero, List.set_cons_succ]
            rfl
          refine pure_ (i := 2) (N := (some 44)) (v := ?_) (a' := ?_) #[true, true, true, false, false, false, false, false, false, false, false, false] rfl rfl (by kernel_rfl) (fun _ _ _ h => h) (Or.inl ⟨by rfl, ?_⟩) ?_ ?_
          rotate_left
          · intro w'
            go_simp
            with_reducible rfl
          rotate_left
          · simp only [Act.put, List.setIfInBounds_toArray, List.set_cons_zero, List.set_cons_succ]
            rfl
          refine take_ (i := 4) (N := (some 46)) (v := ?_) (a' := ?_) #[true, true, true, false, true, false, false, false, false, false, false, false] rfl rfl (by kernel_rfl) (fun _ _ _ h => h) (Or.inl ⟨by rfl, ?_⟩) hS0 ?_ ?_
          rotate_left
          · intro w' s0
            have hx0 := (s0.cell (World.block_lt_of_cell? _ _ hc0)).trans hc0
            have hx1 := (s0.cell (World.block_lt_of_cell? _ _ hc1)).trans hc1
            have hx2 := (s0.cell (World.block_lt_of_cell? _ _ hc2)).trans hc2
            have hx3 := (s0.cell (World.block_lt_of_cell? _ _ hc3)).trans hc3
            go_simp
            with_reducible rfl
          rotate_left
          · simp only [Act.put, List.setIfInBounds_toArray, List.set_cons_zero, List.set_cons_succ]
            rfl
          refine pure_ (i := 7) (N := (some 49)) (v := ?_) (a' := ?_) #[true, true, true, false, true, false, false, true, false, false, false, false] rfl rfl (by kernel_rfl) (fun _ _ _ h => h) (Or.inl ⟨by rfl, ?_⟩) ?_ ?_
          rotate_left
          · intro w'
            go_simp
            with_reducible rfl
          rotate_left
          · simp only [Act.put, List.setIfInBounds_toArray, List.set_cons_zero, List.set_cons_succ]
            rfl
          refine pure_ (i := 8) (N := (some 50)) (v := ?_) (a' := ?_) #[true, true, true, false, true, false, false, true, true, false, false, false] rfl rfl (by kernel_rfl) (fun _ _ _ h => h) (Or.inl ⟨by rfl, ?_⟩) ?_ ?_
          rotate_left
          · intro w'
            go_simp
            with_reducible rfl
          rotate_left
          · simp only [Act.put, List.setIfInBounds_toArray, List.set_cons_zero, List.set_cons_succ]
            rfl
          refine pure_ (i := 9) (N := (some 51)) (v := ?_) (a' := ?_) #[true, true, true, false, true, false, false, true, true, true, false, false] rfl rfl (by kernel_rfl) (fun _ _ _ h => h) (Or.inl ⟨by rfl, ?_⟩) ?_ ?_
          rotate_left
          · intro w'
            go_simp
            with_reducible rfl
          rotate_left
          · simp only [Act.put, List.setIfInBounds_toArray, List.set_cons_zero, List.set_cons_succ]
            rfl
          clear hS0
          refine two_ (i := 3) (j := 5) (Ni := some 45) (Nj := some 47) #[true, true, true, true, true, false, false, true, true, true, false, false] #[true, true, true, false, true, true, false, true, true, true, false, false] rfl rfl rfl rfl (by kernel_rfl) (by decide) (by decide) (fun K hK => ?_) (fun K hK => ?_)
          · refine Kd.R_append_rows_step k45 (w0 := w) w.heap.size (by rfl) (.const (.slice none 0 0)) (.tmp 44) 40 45 (.agg #[.int .i64 0, .int .i64 0, .int .i64 0, .int .i64 0]) 32 rfl Try.underlying40 info45 rfl (by decide) (by omega) (.slice none 0 0) [] (o.take k) A3 k c3 (fun _ => True) (fun _ => False) rfl rfl (Kd.R_nil _ _ _ _ _) (Kd.C_below HTK.out HSx.out) (fun _ _ h => h) (fun _ h => h.elim) (fun _ _ => trivial) HBx.out HBx.out.size (by have := HM.out; have := HOL.out; simp only [List.length_append, List.length_take, List.length_cons, List.length_nil]; omega) ?_
            intro v1 wm1 hv hb hg hat
            have HV1 := Aside0.mk hv
            have HB1 := Aside0.mk hb
            have HA1 : Aside0 (∀ k, v1.ownBlock = some k → W1.heap.size ≤ k) := ⟨own_hat (fun k hk => by simp [Value.ownBlock] at hk) hat HSx.out.size⟩
            have HS1 := Aside0.mk (below_grown2 HSx.out (Nat.le_refl _) hg (fun k hk => by simp [Value.ownBlock] at hk))
            have HG1 := Aside0.mk hg
            clear hv hb hg hat
            change K (Act.put _ (some 45) _) _
            refine hK.out _ _ HS1.out (fun hS0 => ?_)
            clear hK
            refine norm_ (a' := ?_) ?_ ?_
            rotate_left
            · simp only [Act.put, List.setIfInBounds_toArray, List.set_cons_zero, List.set_cons_succ]
              rfl
            clear hS0
            refine one_ (i := 5) (N := (some 47)) #[true, true, true, true, true, true, false, true, true, true, false, false] rfl rfl (by kernel_rfl) (by decide) (fun K hK => ?_)
            refine value_ (w1 := wm1.alloc (cells45 (⟨⟨x2, x3⟩, ⟨x0, x1⟩⟩ : S45))) (v := .slice (some ⟨wm1.heap.size, 0, none⟩) 1 1) (by rfl) rfl (by go_simp) ?_
            have HVc := Aside0.mk (Kd.R_alloc HV1.out (cells45 (⟨⟨x2, x3⟩, ⟨x0, x1⟩⟩ : S45)))
            have HBc := Aside0.mk (below_alloc HB1.out (cells45 (⟨⟨x2, x3⟩, ⟨x0, x1⟩⟩ : S45)))
            have HSc := Aside0.mk (below_alloc HS1.out (cells45 (⟨⟨x2, x3⟩, ⟨x0, x1⟩⟩ : S45)))
            have HLc : Aside0 (Kd.C k45 (wm1.alloc (cells45 (⟨⟨x2, x3⟩, ⟨x0, x1⟩⟩ : S45))) (some ⟨wm1.heap.size, 0, none⟩) 1 [(⟨⟨x2, x3⟩, ⟨x0, x1⟩⟩ : S45)]) := ⟨one45 (MapKept.heap_alloc wm1 _).1⟩
            change K (Act.put _ (some 47) _) _
            refine hK.out _ _ HSc.out (fun hS0 => ?_)
            clear hK
            refine norm_ (a' := ?_) ?_ ?_
            rotate_left
            · simp only [Act.put, List.setIfInBounds_toArray, List.set_cons_zero, List.set_cons_succ]
              rfl
            clear hS0
            refine one_ (i := 6) (N := (some 48)) #[true, true, true, true, true, true, true, true, true, true, false, false] rfl rfl (by kernel_rfl) (by decide) (fun K hK => ?_)
            refine Kd.R_append_rows_step k45 (w0 := w) w.heap.size (by rfl) (.tmp 45) (.tmp 47) 40 45 (.agg #[.int .i64 0, .int .i64 0, .int .i64 0, .int .i64 0]) 32 rfl Try.underlying40 info45 rfl (by decide) (by omega) v1 (o.take k) [(⟨⟨x2, x3⟩, ⟨x0, x1⟩⟩ : S45)] (some ⟨wm1.heap.size, 0, none⟩) 1 1 (fun _ => True) (fun _ => False) rfl rfl HVc.out HLc.out (fun _ _ h => h) (fun _ h => h.elim) (fun _ _ => trivial) HBc.out HBc.out.size (by have := HM.out; have := HOL.out; simp only [List.length_append, List.length_take, List.length_cons, List.length_nil]; omega) ?_
            intro v3 wm3 hv hb hg hat
            have HV3 := Aside0.mk hv
            have HB3 := Aside0.mk hb
            have HA3 : Aside0 (∀ k, v3.ownBlock = some k → W1.heap.size ≤ k) := ⟨own_hat HA1.out hat HSc.out.size⟩
            have HS3 := Aside0.mk (below_grown2 HSc.out (Nat.le_refl _) hg HA1.out)
            have HG3 := Aside0.mk hg
            clear hv hb hg hat
            change K (Act.put _ (some 48) _) _
            refine hK.out _ _ HS3.out (fun hS0 => ?_)
            clear hK
            refine norm_ (a' := ?_) ?_ ?_
            rotate_left
            · simp only [Act.put, List.setIfInBounds_toArray, List.set_cons_zero, List.set_cons_succ]
              rfl
            clear hS0
            refine one_ (i := 10) (N := (some 52)) #[true, true, true, true, true, true, true, true, true, true, true, false] rfl rfl (by kernel_rfl) (by decide) (fun K hK => ?_)
            refine Kd.R_append_rows_step k45 (w0 := w) w.heap.size (by rfl) (.tmp 48) (.tmp 51) 40 45 (.agg #[.int .i64 0, .int .i64 0, .int .i64 0, .int .i64 0]) 32 rfl Try.underlying40 info45 rfl (by decide) (by omega) v3 (o.take k ++ [(⟨⟨x2, x3⟩, ⟨x0, x1⟩⟩ : S45)]) (o.drop k) A2 (o.length - k) (c3 - k) (fun _ => True) (fun _ => False) rfl rfl HV3.out (Kd.C_below HDR.out HS3.out) (fun _ _ h => h) (fun _ h => h.elim) (fun _ _ => trivial) HB3.out HB3.out.size (by have := HM.out; have := HOL.out; simp only [List.length_append, List.length_take, List.length_cons, List.length_nil]; omega) ?_
            intro v4 wm4 hv hb hg hat
            have HV4 := Aside0.mk hv
            have HB4 := Aside0.mk hb
            have HA4 : Aside0 (∀ k, v4.ownBlock = some k → W1.heap.size ≤ k) := ⟨own_hat HA3.out hat HS3.out.size⟩
            have HS4 := Aside0.mk (below_grown2 HS3.out (Nat.le_refl _) hg HA3.out)
            have HG4 := Aside0.mk hg
            clear hv hb hg hat
            change K (Act.put _ (some 52) _) _
            refine hK.out _ _ HS4.out (fun hS0 => ?_)
            clear hK
            refine norm_ (a' := ?_) ?_ ?_
            rotate_left
            · simp only [Act.put, List.setIfInBounds_toArray, List.set_cons_zero, List.set_cons_succ]
              rfl
            refine pure_ (i := 11) (N := (some 3)) (v := ?_) (a' := ?_) #[true, true, true, true, true, true, true, true, true, true, true, true] rfl rfl (by kernel_rfl) (fun _ _ _ h => h) (Or.inl ⟨by rfl, ?_⟩) ?_ ?_
            rotate_left
            · intro w'
              go_simp
              with_reducible rfl
            rotate_left
            · simp only [Act.put, List.setIfInBounds_toArray, List.set_cons_zero, List.set_cons_succ]
              rfl
            refine done_ (by kernel_rfl) ?_
            clear hS0
            go_wp2
            try rw [w64 (n := (i : Int) + 1) (by omega) (by have := HM.out; omega)]
            exact ⟨⟨i + 1, by go_num, by omega, ⟨by rw [HNX.out]; exact HV4.out⟩, HB4⟩, by simp [intOf]; omega⟩
          · refine value_ (w1 := W1.drew.alloc (cells45 (⟨⟨x2, x3⟩, ⟨x0, x1⟩⟩ : S45))) (v := .slice (some ⟨W1.drew.heap.size, 0, none⟩) 1 1) (by rfl) rfl (by go_simp) ?_
            have HBa := Aside0.mk (below_alloc HBx.out (cells45 (⟨⟨x2, x3⟩, ⟨x0, x1⟩⟩ : S45)))
            have HSa := Aside0.mk (below_alloc HSx.out (cells45 (⟨⟨x2, x3⟩, ⟨x0, x1⟩⟩ : S45)))
            have HLa : Aside0 (Kd.C k45 (W1.drew.alloc (cells45 (⟨⟨x2, x3⟩, ⟨x0, x1⟩⟩ : S45))) (some ⟨W1.drew.heap.size, 0, none⟩) 1 [(⟨⟨x2, x3⟩, ⟨x0, x1⟩⟩ : S45)]) := ⟨one45 (MapKept.heap_alloc W1.drew _).1⟩
            change K (Act.put _ (some 47) _) _
            refine hK.out _ _ HSa.out (fun hS0 => ?_)
            clear hK
            refine norm_ (a' := ?_) ?_ ?_
            rotate_left
            · simp only [Act.put, List.setIfInBounds_toArray, List.set_cons_zero, List.set_cons_succ]
              rfl
            clear hS0
            refine one_ (i := 3) (N := (some 45)) #[true, true, true, true, true, true, false, true, true, true, false, false] rfl rfl (by kernel_rfl) (by decide) (fun K hK => ?_)
            refine Kd.R_append_rows_step k45 (w0 := w) w.heap.size (by rfl) (.const (.slice none 0 0)) (.tmp 44) 40 45 (.agg #[.int .i64 0, .int .i64 0, .int .i64 0, .int .i64 0]) 32 rfl Try.underlying40 info45 rfl (by decide) (by omega) (.slice none 0 0) [] (o.take k) A3 k c3 (fun _ => True) (fun _ => False) rfl rfl (Kd.R_nil _ _ _ _ _) (Kd.C_below HTK.out HSa.out) (fun _ _ h => h) (fun _ h => h.elim) (fun _ _ => trivial) HBa.out HBa.out.size (by have := HM.out; have := HOL.out; simp only [List.length_append, List.length_take, List.length_cons, List.length_nil]; omega) ?_
            intro v1 wm1 hv hb hg hat
            have HV1 := Aside0.mk hv
            have HB1 := Aside0.mk hb
            have HA1 : Aside0 (∀ k, v1.ownBlock = some k → W1.heap.size ≤ k) := ⟨own_hat (fun k hk => by simp [Value.ownBlock] at hk) hat HSa.out.size⟩
            have HS1 := Aside0.mk (below_grown2 HSa.out (Nat.le_refl _) hg (fun k hk => by simp [Value.ownBlock] at hk))
            have HG1 := Aside0.mk hg
            clear hv hb hg hat
            have HLc := Aside0.mk (Kd.C_below HLa.out (below_grown2 (Below.refl _ _) (Nat.le_refl _) HG1.out (fun k hk => by simp [Value.ownBlock] at hk)))
            have HVc := HV1
            have HBc := HB1
            have HSc := HS1
            change K (Act.put _ (some 45) _) _
            refine hK.out _ _ HS1.out (fun hS0 => ?_)
            clear hK
            refine norm_ (a' := ?_) ?_ ?_
            rotate_left
            · simp only [Act.put, List.setIfInBounds_toArray, List.set_cons_zero, List.set_cons_succ]
              rfl
            clear hS0
            refine one_ (i := 6) (N := (some 48)) #[true, true, true, true, true, true, true, true, true, true, false, false] rfl rfl (by kernel_rfl) (by decide) (fun K hK => ?_)
            refine Kd.R_append_rows_step k45 (w0 := w) w.heap.size (by rfl) (.tmp 45) (.tmp 47) 40 45 (.agg #[.int .i64 0, .int .i64 0, .int .i64 0, .int .i64 0]) 32 rfl Try.underlying40 info45 rfl (by decide) (by omega) v1 (o.take k) [(⟨⟨x2, x3⟩, ⟨x0, x1⟩⟩ : S45)] (some ⟨W1.drew.heap.size, 0, none⟩) 1 1 (fun _ => True) (fun _ => False) rfl rfl HVc.out HLc.out (fun _ _ h => h) (fun _ h => h.elim) (fun _ _ => trivial) HBc.out HBc.out.size (by have := HM.out; have := HOL.out; simp only [List.length_append, List.length_take, List.length_cons, List.length_nil]; omega) ?_
            intro v3 wm3 hv hb hg hat
            have HV3 := Aside0.mk hv
            have HB3 := Aside0.mk hb
            have HA3 : Aside0 (∀ k, v3.ownBlock = some k → W1.heap.size ≤ k) := ⟨own_hat HA1.out hat HSc.out.size⟩
            have HS3 := Aside0.mk (below_grown2 HSc.out (Nat.le_refl _) hg HA1.out)
            have HG3 := Aside0.mk hg
            clear hv hb hg hat
            change K (Act.put _ (some 48) _) _
            refine hK.out _ _ HS3.out (fun hS0 => ?_)
            clear hK
            refine norm_ (a' := ?_) ?_ ?_
            rotate_left
            · simp only [Act.put, List.setIfInBounds_toArray, List.set_cons_zero, List.set_cons_succ]
              rfl
            clear hS0
            refine one_ (i := 10) (N := (some 52)) #[true, true, true, true, true, true, true, true, true, true, true, false] rfl rfl (by kernel_rfl) (by decide) (fun K hK => ?_)
            refine Kd.R_append_rows_step k45 (w0 := w) w.heap.size (by rfl) (.tmp 48) (.tmp 51) 40 45 (.agg #[.int .i64 0, .int .i64 0, .int .i64 0, .int .i64 0]) 32 rfl Try.underlying40 info45 rfl (by decide) (by omega) v3 (o.take k ++ [(⟨⟨x2, x3⟩, ⟨x0, x1⟩⟩ : S45)]) (o.drop k) A2 (o.length - k) (c3 - k) (fun _ => True) (fun _ => False) rfl rfl HV3.out (Kd.C_below HDR.out HS3.out) (fun _ _ h => h) (fun _ h => h.elim) (fun _ _ => trivial) HB3.out HB3.out.size (by have := HM.out; have := HOL.out; simp only [List.length_append, List.length_take, List.length_cons, List.length_nil]; omega) ?_
            intro v4 wm4 hv hb hg hat
            have HV4 := Aside0.mk hv
            have HB4 := Aside0.mk hb
            have HA4 : Aside0 (∀ k, v4.ownBlock = some k → W1.heap.size ≤ k) := ⟨own_hat HA3.out hat HS3.out.size⟩
            have HS4 := Aside0.mk (below_grown2 HS3.out (Nat.le_refl _) hg HA3.out)
            have HG4 := Aside0.mk hg
            clear hv hb hg hat
            change K (Act.put _ (some 52) _) _
            refine hK.out _ _ HS4.out (fun hS0 => ?_)
            clear hK
            refine norm_ (a' := ?_) ?_ ?_
            rotate_left
            · simp only [Act.put, List.setIfInBounds_toArray, List.set_cons_zero, List.set_cons_succ]
              rfl
            refine pure_ (i := 11) (N := (some 3)) (v := ?_) (a' := ?_) #[true, true, true, true, true, true, true, true, true, true, true, true] rfl rfl (by kernel_rfl) (fun _ _ _ h => h) (Or.inl ⟨by rfl, ?_⟩) ?_ ?_
            rotate_left
            · intro w'
              go_simp
              with_reducible rfl
            rotate_left
            · simp only [Act.put, List.setIfInBounds_toArray, List.set_cons_zero, List.set_cons_succ]
              rfl
            refine done_ (by kernel_rfl) ?_
            clear hS0
            go_wp2
            try rw [w64 (n := (i : Int) + 1) (by omega) (by have := HM.out; omega)]
            exact ⟨⟨i + 1, by go_num, by omega, ⟨by rw [HNX.out]; exact HV4.out⟩, HB4⟩, by simp [intOf]; omega⟩
    · have ei : i = f.length := by omega
      subst ei
      clear hc3 hC3
      have h9 : Kd.R k45 45 wr w.heap.size (fun _ => True) (.slice A3 (turnT f).length c3) (turnT f) := by simpa only [List.take_length] using HR.out
      rw [List.take_length]
      go_wp2
      go_ret
      exact ⟨.slice A3 (turnT f).length c3, by first | rfl | (simp only [List.take_length]; rfl), h9, HB.out⟩
end Go.Proofs.Ytohhobcipfmkbaa.CTurn
