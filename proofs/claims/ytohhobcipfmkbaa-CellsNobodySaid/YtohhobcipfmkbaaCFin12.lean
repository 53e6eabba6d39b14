/- weave's clusters: walked. -/
import Derived.Test.YtohhobcipfmkbaaCFin11
namespace Go.Proofs.Ytohhobcipfmkbaa.CFin
open Go.RowKit Go.Maps Go.Proofs.YtohhobcipfmkbaaW.PrintWords Go.Proofs.YtohhobcipfmkbaaW.PrintMore Go.Proofs.YtohhobcipfmkbaaW.PrintLast Go.Proofs.Ytohhobcipfmkbaa.U Go.Proofs.Ytohhobcipfmkbaa.PClusterFinest Go.Proofs.Ytohhobcipfmkbaa.UFinest Go.Proofs.Ytohhobcipfmkbaa.UFinEv
set_option linter.unusedVariables false
set_option linter.unusedSimpArgs false
theorem grown_row {w a b : World} {g : Nat} {row : Option Nat} (h1 : w.grownBy a (some g)) (h2 : a.grownBy b row) (hr : ∀ k, row = some k → w.heap.size ≤ k) : w.grownBy b (some g) :=
  ⟨h2.os.trans h1.os, h2.tape.trans h1.tape, h2.output.trans h1.output, Nat.le_trans h1.size h2.size, fun k hk hne => (h2.block k (Nat.lt_of_lt_of_le hk h1.size) (fun e => by have := hr k e.symm; omega)).trans (h1.block k hk hne)⟩
attribute [local go_sem] max2_int min2_int max_two min_two
theorem step_there {r : Lab} {m k x ix : Nat} {xs : List S45} (hx : x = r k) (hth : x ∈ firsts r k) (hxs : xs = (firsts r k).map (toS ∘ clu1 r m k)) (hix : ix = (firsts r k).idxOf x) (hl : ix < xs.length) : (firsts r (k + 1)).map (toS ∘ clu1 r m (k + 1)) = xs.set ix (setF xs[ix] 1 ((k : Int) + 1)) := by
  subst hx
  rw [← List.map_map, clu1_there hth, List.map_set, List.map_map, ← hxs, ← hix]
  congr 1
  have : xs[ix] = toS (clu1 r m k (r k)) := by
    subst hxs hix
    rw [List.getElem_map, List.getElem_idxOf]; rfl
  rw [this]
  rfl
theorem step_new {r : Lab} {m k x : Nat} {xs : List S45} (hx : x = r k) (hth : x ∉ firsts r k) (hxs : xs = (firsts r k).map (toS ∘ clu1 r m k)) (y : S45) (hy : y = ⟨⟨k, 0⟩, ⟨m, 0⟩⟩) (hl : xs.length < (xs ++ [y]).length) : (firsts r (k + 1)).map (toS ∘ clu1 r m (k + 1)) = (xs ++ [y]).set xs.length (setF (xs ++ [y])[xs.length] 1 ((k : Int) + 1)) := by
  subst hx hy
  rw [← List.map_map, clu1_new hth, List.map_append, List.map_map, ← hxs, List.getElem_concat_length rfl, List.set_append_right _ _ (Nat.le_refl _), Nat.sub_self]
  rfl
theorem RC.put2 {w : World} {base q cap : Nat} {xs : List S45} (h : RC w base q cap xs) (i : Nat) (hi : i < xs.length) (u v : Int) : RC ((w.setCell ⟨q, i * 4 + 2, none⟩ (.int .i64 u)).setCell ⟨q, i * 4 + 2 + 1, none⟩ (.int .i64 v)) base q cap (xs.set i ⟨xs[i].f0, ⟨u, v⟩⟩) := by
  have h1 := h.put i hi 2 (by omega) u
  have h2 := h1.put i (by rw [List.length_set]; exact hi) 3 (by omega) v
  rw [List.set_set, List.getElem_set_self] at h2
  exact h2
theorem step_out {r : Lab} {n m t i x ix o1 : Nat} {xs : List S45} (ht : t < m) (hi : i = n + t) (hx : x = r i) (hth : x ∈ firsts r n) (hxs : xs = (firsts r n).map (toS ∘ clu2 r n m t)) (hix : ix = (firsts r n).idxOf x) (ho : o1 = (out2 r n m x t).1) (hl : ix < xs.length) (o2 : Int) (h2 : o2 = ((min o1 t : Nat) : Int)) : (firsts r n).map (toS ∘ clu2 r n m (t + 1)) = xs.set ix ⟨xs[ix].f0, ⟨o2, (t : Int) + 1⟩⟩ := by
  subst hi hx h2 ho
  rw [← List.map_map, clu2_step ht hth, List.map_set, List.map_map, ← hxs, ← hix]
  congr 1
  have : xs[ix] = toS (clu2 r n m t (r (n + t))) := by
    subst hxs hix
    rw [List.getElem_map, List.getElem_idxOf]; rfl
  rw [this]
  rfl
set_option maxRecDepth 100000 in
set_option maxHeartbeats 1000000 in
theorem clusters_c {w : World} {base B g n m N cap : Nat} {p : List Int} {r : Lab} (hW : WV w B g n m N cap) (h : LI w base g N cap p) (hne : B ≠ g) (hp : PF N r p) (ho : LabOk N r) (hN : N ≤ 1000) (hnm : n + m = N) (hn : 0 < n)
    (hb : Between (fun x y => r x = r y) 0 n) (hout : ∀ j, j < n → ∃ i, i < m ∧ r (n + i) = r j) (hin : ∀ i, i < m → ∃ j, j < n ∧ r j = r (n + i)) :
    Calls Try.prog 63 #[.pointer (some ⟨B, 0, none⟩)] w fun e w' => ∃ u, e = .returned u ∧ Kd.R k45 45 w' w.heap.size (fun _ => True) u (cluS n m r n) ∧ w.grownBy w' (some g) := by
  have HW := Aside0.mk hW
  have HV := Aside0.mk h
  have HP := Aside0.mk hp
  have HO := Aside0.mk ho
  have HBT := Aside0.mk hb
  have HOUT := Aside0.mk hout
  have HIN := Aside0.mk hin
  have hgw := h.ltw
  have hBw := blk_lt hW
  have d1 := (World.grownBy_alloc w (.map #[] 0) none).cell (hW.c1) (by simp)
  have hmm := @run_makeMap Try.prog
  have HW5 := Aside0.mk (hW.below (below_alloc (Below.refl _ _) (.map #[] 0)))
  have HV5 := Aside0.mk (h.below (below_alloc (Below.refl _ _) (.map #[] 0)))
  have HM5 := Aside0.mk (MO.made w)
  have HG5 : Aside0 (w.grownBy (w.alloc (.map #[] 0)) (some g)) := ⟨World.grownBy_alloc _ _ _⟩
  clear hW h hp ho hb hout hin
  go_enter Try.func63, Try.ntmps63
  go_wp2
  obtain ⟨gm, hgm⟩ : ∃ gm, gm = w.heap.size := ⟨_, rfl⟩
  have HGM := Aside0.mk hgm
  have HNG : Aside0 (gm ≠ g) := ⟨by omega⟩
  have HNB : Aside0 (B ≠ gm) := ⟨by omega⟩
  have HM5 : Aside0 (MO (w.alloc (.map #[] 0)) gm 0 []) := ⟨by rw [hgm]; exact HM5.out⟩
  have HGW := Aside0.mk hgw
  have HBW := Aside0.mk hBw
  rw [← hgm]
  clear hgm hmm hgw hBw
  go_loopw [3, 16] (fun v3 v wr => ∃ (k : Nat) (p : List Int), v = .int .i64 (k : Int) ∧ k ≤ n ∧ Aside0 (WV wr B g n m N cap) ∧ Aside0 (LI wr base g N cap p) ∧ Aside0 (PF N r p) ∧ Aside0 (MO wr gm k (firsts r k)) ∧ Aside0 (Kd.R k45 45 wr w.heap.size (fun q => q ≠ g ∧ q ≠ gm) v3 ((firsts r k).map (toS ∘ clu1 r m k))) ∧ Aside0 (w.grownBy wr (some g))) (fun _ v _ => n - (intOf v).toNat)
  case atStart => exact ⟨0, p, rfl, Nat.zero_le _, HW5, HV5, HP, HM5, ⟨Kd.R_nil _ _ _ _ _⟩, HG5⟩
  case round =>
    clear HW5 HV5 HP HM5 HG5 d1
    obtain ⟨k, p, rfl, hk, HW, HV, HP, HM, HR, HG⟩ := hrel
    have d0 := HW.out.c0
    have d2 := HW.out.c2
    obtain ⟨A, c, rfl⟩ := Kd.R_slice HR.out
    by_cases hlt : k < n
    · have hkI : (k : Int) < (n : Int) := by omega
      have hkN : k < N := by omega
      obtain ⟨x, hx⟩ : ∃ x, x = r k := ⟨_, rfl⟩
      have HXE := Aside0.mk hx
      have hxN : x < N := by have := HO.out.le k hkN; omega
      obtain ⟨xs, hxs⟩ : ∃ xs, xs = (firsts r k).map (toS ∘ clu1 r m k) := ⟨_, rfl⟩
      have hlen : xs.length = (firsts r k).length := by rw [hxs, List.length_map]
      have hlk := firsts_len r k
      rw [← hxs] at HR ⊢
      have HXS := Aside0.mk hxs
      have HLEN := Aside0.mk hlen
      obtain ⟨ln, hln⟩ : ∃ ln, ln = xs.length := ⟨_, rfl⟩
      have e1 : IntKind.i64.wrap ((k : Int) + 1) = ((k + 1 : Nat) : Int) := by rw [IntWalk.i64_in _ (by omega)]; omega
      have hlnN : ln ≤ k := by omega
      have HLK := Aside0.mk hlk
      have HLN := Aside0.mk hln
      rw [← hln] at HR ⊢
      clear hx hlen hlk hxs hln
      by_cases hth : x ∈ firsts r k
      · obtain ⟨ix, hix⟩ : ∃ ix, ix = (firsts r k).idxOf x := ⟨_, rfl⟩
        have hixl : ix < ln := by rw [HLN.out, HLEN.out, hix]; exact List.idxOf_lt_length_of_mem hth
        have HIX := Aside0.mk hix
        have HTH := Aside0.mk hth
        have hixI : (ix : Int) < (ln : Int) := by omega
        obtain ⟨q, cp, ev, hq1, hq2, _⟩ := Kd.R_form HR.out (by rw [← HLN.out]; omega)
        rw [← HLN.out] at ev
        have HEV := Aside0.mk ev
        injection ev with ev1 ev2 ev3
        clear ev2
        subst ev1 ev3
        have HRC : Aside0 (RC wr w.heap.size q c xs) := ⟨by
          have := HR.out
          rw [HLN.out] at this
          exact Kd.R_mono (Kd.R_tight rfl this) (fun j hj => (Option.some.inj (by simpa [Value.ownBlock] using hj)))⟩
        have HQG : Aside0 (q ≠ g ∧ q ≠ gm) := ⟨HR.out.1 q (by simp [Value.ownBlock])⟩
        have HQ1 := Aside0.mk hq1
        clear hix hth hq1 hq2 HR
        go_wp2_with (first | (go_at_call 86; refine (find_c HV.out HP.out (by omega) k hkN).mono ?_; rintro e w6 ⟨p1, rfl, a1, a2, a3⟩; rw [← HXE.out]; have HV6 := Aside0.mk a1; have HP6 := Aside0.mk a2; have HG6 : Aside0 (wr.grownBy w6 (some g)) := ⟨a3⟩; have hlk := (HM.out.kept a3 (fun e => HNG.out (Option.some.inj e))).look x (by omega); rw [if_pos HTH.out, decide_eq_true HTH.out, ← HIX.out] at hlk; have HRC6 : Aside0 (RC w6 w.heap.size q c xs) := ⟨HRC.out.grown a3 (fun e => HQG.out.1 (Option.some.inj e))⟩; obtain ⟨c1, f1⟩ := HRC6.out.cell ix (by rw [← HLN.out]; exact hixl) 1 (by omega); have HW6 := Aside0.mk (HW.out.grown a3 hne); clear a1 a2 a3 HV HP))
        have hixl' : ix < xs.length := by rw [← HLN.out]; exact hixl
        have HRC7 := Aside0.mk (HRC6.out.put ix hixl' 1 (by omega) ((k : Int) + 1))
        have HG7 : Aside0 (w6.grownBy (w6.setCell ⟨q, ix * 4 + 1, none⟩ (.int .i64 ((k : Int) + 1))) (some q)) := ⟨grown_set _ _ _ _⟩
        have hst := step_there (m := m) HXE.out HTH.out HXS.out HIX.out hixl'
        have hfs : firsts r (k + 1) = firsts r k := by rw [firsts, if_pos (by rw [← HXE.out]; exact HTH.out)]
        refine ⟨⟨k + 1, p1, by go_num, by omega, ⟨HW6.out.grown HG7.out ?_⟩, ⟨HV6.out.grown HG7.out HQG.out.1.symm⟩, HP6, ⟨?_⟩, ⟨?_⟩, ⟨grown_row (World.grownBy.trans HG.out HG6.out) HG7.out (fun j hj => by have := Option.some.inj hj; have := HQ1.out; omega)⟩⟩, by simp [intOf]; omega⟩
        · have := HQ1.out; have := HBW.out; omega
        · rw [hfs]
          exact ((HM.out.kept HG6.out (fun e => HNG.out (Option.some.inj e))).kept HG7.out (fun e => HQG.out.2 (Option.some.inj e).symm)).mono (by omega)
        · rw [hst]
          have := HRC7.out
          unfold RC at this
          rw [List.length_set, ← HLN.out] at this
          exact Kd.R_mono this (fun j hj => by rw [hj]; exact HQG.out)
      · have HTH := Aside0.mk hth
        clear hth
        have y0 : S45 := ⟨⟨k, 0⟩, ⟨m, 0⟩⟩
        go_wp2_with (first | (go_at_call 86; refine (find_c HV.out HP.out (by omega) k hkN).mono ?_; rintro e w6 ⟨p1, rfl, a1, a2, a3⟩; rw [← HXE.out]; have HV6 := Aside0.mk a1; have HP6 := Aside0.mk a2; have HG6 : Aside0 (wr.grownBy w6 (some g)) := ⟨a3⟩; have hlk := (HM.out.kept a3 (fun e => HNG.out (Option.some.inj e))).look x (by omega); rw [if_neg HTH.out, decide_eq_false HTH.out] at hlk; have HW6 := Aside0.mk (HW.out.grown a3 hne); clear a1 a2 a3 HV HP) | (at_mapUpdate; obtain ⟨D, m1, m2, m3, m4⟩ := HM.out; refine wpList_mapUpdate_own _ rfl _ _ _ 112 rfl 3 3 keyed3 Try.underlying112 (plainElem Try.prog 3) gm k D rfl (m2.kept HG6.out (by intro e; exact HNG.out (Option.some.inj e))) (by unfold maxLen; omega) _ _ (.int .i64 x) rfl rfl (key3 x (by omega)) _ [] (elem3 ln (by omega)) ?_; intro w7 m5 m6; have HM7 : Aside0 (MO w7 gm (k + 1) (firsts r k ++ [x])) := ⟨MO.put m1 m3 m4 (by omega) HTH.out (by rw [HLN.out, HLEN.out] at m5; exact m5)⟩; have HG7 : Aside0 (w6.grownBy w7 (some gm)) := ⟨m6⟩; have HR7 : Aside0 (Kd.R k45 45 w7 w.heap.size (fun q => q ≠ g ∧ q ≠ gm) (.slice A ln c) xs) := ⟨Kd.R_grown (Kd.R_grown HR.out HG6.out (fun j hj e => hj.1 (Option.some.inj e))) m6 (fun j hj e => hj.2 (Option.some.inj e))⟩; have HW7 := Aside0.mk (HW6.out.grown m6 HNB.out); have d27 := HW7.out.c2; clear m1 m2 m3 m4 m5 m6 HM HR) | ((with_reducible refine gate_builtin (b := .append) (xs := #[.tmp 38, .tmp 47]) rfl ?_); at_builtin; refine Kd.R_append k45 (w0 := w7) w.heap.size rfl (.tmp 38) (.tmp 47) 40 45 (.agg #[(.int .i64 0), (.int .i64 0), (.int .i64 0), (.int .i64 0)]) 32 rfl Try.underlying40 info45 rfl (by decide) (by omega) _ xs (⟨⟨(k : Int), 0⟩, ⟨(m : Int), 0⟩⟩ : S45) [.int .i64 k, .int .i64 0, .int .i64 m, .int .i64 0] (fun q => q ≠ g ∧ q ≠ gm) (fun _ => False) rfl (by first | (go_simp; done) | (go_simp; rfl)) (k45_mkM _ _ _ (⟨⟨(k : Int), 0⟩, ⟨(m : Int), 0⟩⟩ : S45)) (fun _ h => h.elim) (fun q hq => ⟨fun e => by have := HGW.out; have := (World.grownBy.trans HG.out HG6.out).size; have := HG7.out.size; omega, fun e => by have := HM7.out.lt; omega⟩) HR7.out (Below.refl _ _) (Nat.le_trans (World.grownBy.trans HG.out HG6.out).size HG7.out.size) (by have := HLN.out; omega) ?_; intro v8 w8 hv hb hg hat; obtain ⟨q, cp, rfl, hq1, hq2, _⟩ := Kd.R_form hv (by simp); have HQG : Aside0 (q ≠ g ∧ q ≠ gm) := ⟨hv.1 q (by simp [Value.ownBlock])⟩; have HRC : Aside0 (RC w8 w.heap.size q cp (xs ++ [(⟨⟨(k : Int), 0⟩, ⟨(m : Int), 0⟩⟩ : S45)])) := ⟨Kd.R_mono (Kd.R_tight rfl hv) (fun j hj => (Option.some.inj (by simpa [Value.ownBlock] using hj)))⟩; have hll : xs.length < (xs ++ [(⟨⟨(k : Int), 0⟩, ⟨(m : Int), 0⟩⟩ : S45)]).length := (by simp); obtain ⟨zz, c1, f1⟩ : ∃ z, w8.cell? ⟨q, ln * 4 + 1, none⟩ = some (.int .i64 z) ∧ w8.frozen? ⟨q, ln * 4 + 1, none⟩ = false := ⟨_, by rw [HLN.out]; exact HRC.out.cell xs.length hll 1 (by omega)⟩; have HQ1 := Aside0.mk hq1; have hsl : (xs ++ [(⟨⟨(k : Int), 0⟩, ⟨(m : Int), 0⟩⟩ : S45)]).length = ln + 1 := (by rw [HLN.out]; simp); rw [hsl]; have HG8 : Aside0 (w7.grownBy w8 (Value.slice A ln c).ownBlock) := ⟨hg⟩; have HRL : Aside0 (∀ j, (Value.slice A ln c).ownBlock = some j → w.heap.size ≤ j ∧ j ≠ g ∧ j ≠ gm) := ⟨fun j hj => ⟨Kd.R_base HR7.out j hj, HR7.out.1 j hj⟩⟩; have hlnI : (ln : Int) < ((ln + 1 : Nat) : Int) := (by omega); clear hv hb hg hat hll hq1 hq2 hsl HR7))
        have hll : xs.length < (xs ++ [(⟨⟨(k : Int), 0⟩, ⟨(m : Int), 0⟩⟩ : S45)]).length := by simp
        have HRC9 : Aside0 (RC (w8.setCell ⟨q, ln * 4 + 1, none⟩ (.int .i64 ((k : Int) + 1))) w.heap.size q cp ((xs ++ [(⟨⟨(k : Int), 0⟩, ⟨(m : Int), 0⟩⟩ : S45)]).set xs.length (setF (xs ++ [(⟨⟨(k : Int), 0⟩, ⟨(m : Int), 0⟩⟩ : S45)])[xs.length] 1 ((k : Int) + 1)))) := ⟨by rw [HLN.out]; exact HRC.out.put xs.length hll 1 (by omega) ((k : Int) + 1)⟩
        have HG9 : Aside0 (w8.grownBy (w8.setCell ⟨q, ln * 4 + 1, none⟩ (.int .i64 ((k : Int) + 1))) (some q)) := ⟨grown_set _ _ _ _⟩
        have hst := step_new (m := m) HXE.out HTH.out HXS.out _ rfl hll
        have hfs : firsts r (k + 1) = firsts r k ++ [x] := by rw [firsts, if_neg (by rw [← HXE.out]; exact HTH.out), HXE.out]
        refine ⟨⟨k + 1, p1, by go_num, by omega, ⟨?_⟩, ⟨?_⟩, HP6, ⟨?_⟩, ⟨?_⟩, ⟨?_⟩⟩, by simp [intOf]; omega⟩
        · have h8 : WV w8 B g n m N cap := (HG8.out.block _ (blk_lt HW7.out) (fun e => by have := (HRL.out B e.symm).1; have := HBW.out; omega)).trans HW7.out
          exact h8.grown HG9.out (by have := HQ1.out; have := HBW.out; omega)
        · have h8 : LI w8 base g N cap p1 := Kd.R_grown (Kd.R_grown HV6.out HG7.out (fun j hj e => HNG.out ((Option.some.inj e).symm.trans hj))) HG8.out (fun j hj e => (HRL.out j e.symm).2.1 hj)
          exact h8.grown HG9.out HQG.out.1.symm
        · rw [hfs]
          exact (HM7.out.kept HG8.out (fun e => (HRL.out gm e.symm).2.2 rfl)).kept HG9.out (fun e => HQG.out.2 (Option.some.inj e).symm)
        · rw [hst]
          have hl2 : ((xs ++ [(⟨⟨(k : Int), 0⟩, ⟨(m : Int), 0⟩⟩ : S45)]).set xs.length (setF (xs ++ [(⟨⟨(k : Int), 0⟩, ⟨(m : Int), 0⟩⟩ : S45)])[xs.length] 1 ((k : Int) + 1))).length = ln + 1 := by rw [HLN.out]; simp
          rw [← hl2]
          exact Kd.R_mono HRC9.out (fun j hj => by rw [hj]; exact HQG.out)
        · exact grown_row (grown_row (grown_row (World.grownBy.trans HG.out HG6.out) HG7.out (fun j hj => by have := Option.some.inj hj; have := HGM.out; omega)) HG8.out (fun j hj => (HRL.out j hj).1)) HG9.out (fun j hj => by have := Option.some.inj hj; have := HQ1.out; omega)
    · have ek : k = n := by omega
      subst ek
      have HR2 : Aside0 (Kd.R k45 45 wr w.heap.size (fun q => q ≠ g ∧ q ≠ gm) (.slice A (List.map (toS ∘ clu1 r m k) (firsts r k)).length c) ((firsts r k).map (toS ∘ clu2 r k m 0))) := ⟨by have := HR.out; rwa [show (firsts r k).map (toS ∘ clu1 r m k) = (firsts r k).map (toS ∘ clu2 r k m 0) by rw [← List.map_map, clu2_start, List.map_map]] at this⟩
      rw [List.length_map] at HR2 ⊢
      obtain ⟨ln, hln⟩ : ∃ ln, ln = (firsts r k).length := ⟨_, rfl⟩
      rw [← hln] at HR2 ⊢
      have HLN := Aside0.mk hln
      clear hln HR
      have HSG : Aside0 (∀ j, (Value.slice A ln c).ownBlock = some j → w.heap.size ≤ j ∧ j ≠ g ∧ j ≠ gm) := ⟨fun j hj => ⟨Kd.R_base HR2.out j hj, HR2.out.1 j hj⟩⟩
      go_wp2_with fail
      go_loopw [61] (fun v wr => ∃ (t : Nat) (p : List Int), v = .int .i64 (t : Int) ∧ t ≤ m ∧ Aside0 (WV wr B g k m N cap) ∧ Aside0 (LI wr base g N cap p) ∧ Aside0 (PF N r p) ∧ Aside0 (MO wr gm k (firsts r k)) ∧ Aside0 (Kd.R k45 45 wr w.heap.size (fun q => q ≠ g ∧ q ≠ gm) (.slice A ln c) ((firsts r k).map (toS ∘ clu2 r k m t))) ∧ Aside0 (w.grownBy wr (some g))) (fun v _ => m - (intOf v).toNat)
      case atStart => exact ⟨0, p, rfl, Nat.zero_le _, HW, HV, HP, HM, HR2, HG⟩
      case round =>
        clear HW HV HP HM HR2 HG d0 d2 hlt
        obtain ⟨t, p, rfl, ht, HW, HV, HP, HM, HR, HG⟩ := hrel
        have d0 := HW.out.c0
        have d1 := HW.out.c1
        by_cases hlt : t < m
        · have htI : (t : Int) < (m : Int) := by omega
          obtain ⟨i, hi⟩ : ∃ i, i = k + t := ⟨_, rfl⟩
          have hiN : i < N := by omega
          have e2 : IntKind.i64.wrap ((k : Int) + (t : Int)) = (i : Int) := by rw [IntWalk.i64_in _ (by omega)]; omega
          have HI := Aside0.mk hi
          obtain ⟨x, hx⟩ : ∃ x, x = r i := ⟨_, rfl⟩
          have hxN : x < N := by have := HO.out.le i hiN; omega
          have HX := Aside0.mk hx
          have hth : x ∈ firsts r k := by
            obtain ⟨j, hj, e⟩ := HIN.out t hlt
            exact (mem_firsts r k x).2 ⟨j, hj, by rw [hx, hi]; exact e⟩
          obtain ⟨ix, hix⟩ : ∃ ix, ix = (firsts r k).idxOf x := ⟨_, rfl⟩
          have hixl : ix < ln := by rw [HLN.out, hix]; exact List.idxOf_lt_length_of_mem hth
          have HIX := Aside0.mk hix
          have HTH := Aside0.mk hth
          have hixI : (ix : Int) < (ln : Int) := by omega
          clear hi hx hth hix
          have HVd : Aside0 (LI wr.drew base g N cap p) := ⟨Kd.R_drew HV.out⟩
          obtain ⟨q, cp, ev, hq1, hq2, _⟩ := Kd.R_form HR.out (by rw [List.length_map, ← HLN.out]; omega)
          injection ev with ev1 ev2 ev3
          clear ev2
          subst ev1 ev3
          have HQG : Aside0 (q ≠ g ∧ q ≠ gm) := ⟨HR.out.1 q (by simp [Value.ownBlock])⟩
          have HQ1 := Aside0.mk hq1
          clear hq1 hq2
          go_wp2_with fail
          refine start_ (n := 16) (S := (fun W => W.cell? ⟨B, 0, none⟩ = some (.slice (some ⟨g, 0, none⟩) N cap) ∧ W.cell? ⟨B, 1, none⟩ = some (.int .i64 k))) (ds := [12, 13]) #[false, false, false, false, false, false, false, false, false, false, false, false, false, false, false, false] (by kernel_rfl) (by kernel_rfl) (by rfl) (⟨d0, d1⟩) (fun hS0 => ?_)
          refine pure_ (i := 0) (N := (some 64)) (v := ?_) (a' := ?_) #[true, false, false, false, false, false, false, false, false, false, false, false, false, false, false, false] rfl rfl (by kernel_rfl) (fun _ _ _ h => h) (Or.inl ⟨by rfl, ?_⟩) ?_ ?_
          rotate_left
          · intro w'
            go_simp
            with_reducible rfl
          rotate_left
          · simp only [Act.put, List.setIfInBounds_toArray, List.set_cons_zero, List.set_cons_succ]
            rfl
          refine pure_ (i := 1) (N := (some 65)) (v := ?_) (a' := ?_) #[true, true, false, false, false, false, false, false, false, false, false, false, false, false, false, false] rfl rfl (by kernel_rfl) (fun _ _ _ h => h) (Or.inl ⟨by rfl, ?_⟩) ?_ ?_
          rotate_left
          · intro w'
            go_simp
            with_reducible rfl
          rotate_left
          · simp only [Act.put, List.setIfInBounds_toArray, List.set_cons_zero, List.set_cons_succ]
            rfl
          refine pure_ (i := 2) (N := (some 66)) (v := ?_) (a' := ?_) #[true, true, true, false, false, false, false, false, false, false, false, false, false, false, false, false] rfl rfl (by kernel_rfl) (fun _ _ _ h => h) (Or.inl ⟨by rfl, ?_⟩) ?_ ?_
          rotate_left
          · intro w'
            go_simp
            with_reducible rfl
          rotate_left
          · simp only [Act.put, List.setIfInBounds_toArray, List.set_cons_zero, List.set_cons_succ]
            rfl
          refine pure_ (i := 3) (N := (some 67)) (v := ?_) (a' := ?_) #[true, true, true, true, false, false, false, false, false, false, false, false, false, false, false, false] rfl rfl (by kernel_rfl) (fun _ _ _ h => h) (Or.inl ⟨by rfl, ?_⟩) ?_ ?_
          rotate_left
          · intro w'
            go_simp
            with_reducible rfl
          rotate_left
          · simp only [Act.put, List.setIfInBounds_toArray, List.set_cons_zero, List.set_cons_succ]
            rfl
          refine pure_ (i := 4) (N := (some 68)) (v := ?_) (a' := ?_) #[true, true, true, true, true, false, false, false, false, false, false, false, false, false, false, false] rfl rfl (by kernel_rfl) (fun _ _ _ h => h) (Or.inl ⟨by rfl, ?_⟩) ?_ ?_
          rotate_left
          · intro w'
            go_simp
            with_reducible rfl
          rotate_left
          · simp only [Act.put, List.setIfInBounds_toArray, List.set_cons_zero, List.set_cons_succ]
            rfl
          refine take_ (i := 5) (N := (some 69)) (v := ?_) (a' := ?_) #[true, true, true, true, true, true, false, false, false, false, false, false, false, false, false, false] rfl rfl (by kernel_rfl) (fun _ _ _ h => h) (Or.inl ⟨by rfl, ?_⟩) hS0 ?_ ?_
          rotate_left
          · intro w' s0
            obtain ⟨hx0, hx1⟩ := s0
            go_simp
            with_reducible rfl
          rotate_left
          · simp only [Act.put, List.setIfInBounds_toArray, List.set_cons_zero, List.set_cons_succ]
            rfl
          refine pure_ (i := 6) (N := (some 70)) (v := ?_) (a' := ?_) #[true, true, true, true, true, true, true, false, false, false, false, false, false, false, false, false] rfl rfl (by kernel_rfl) (fun _ _ _ h => h) (Or.inl ⟨by rfl, ?_⟩) ?_ ?_
          rotate_left
          · intro w'
            go_simp
            with_reducible rfl
          rotate_left
          · simp only [Act.put, List.setIfInBounds_toArray, List.set_cons_zero, List.set_cons_succ]
            rfl
          refine pure_ (i := 7) (N := (some 71)) (v := ?_) (a' := ?_) #[true, true, true, true, true, true, true, true, false, false, false, false, false, false, false, false] rfl rfl (by kernel_rfl) (fun _ _ _ h => h) (Or.inl ⟨by rfl, ?_⟩) ?_ ?_
          rotate_left
          · intro w'
            go_simp
            with_reducible rfl
          rotate_left
          · simp only [Act.put, List.setIfInBounds_toArray, List.set_cons_zero, List.set_cons_succ]
            rfl
          refine pure_ (i := 8) (N := (some 72)) (v := ?_) (a' := ?_) #[true, true, true, true, true, true, true, true, true, false, false, false, false, false, false, false] rfl rfl (by kernel_rfl) (fun _ _ _ h => h) (Or.inl ⟨by rfl, ?_⟩) ?_ ?_
          rotate_left
          · intro w'
            go_simp
            with_reducible rfl
          rotate_left
          · simp only [Act.put, List.setIfInBounds_toArray, List.set_cons_zero, List.set_cons_succ]
            rfl
          refine take_ (i := 9) (N := (some 73)) (v := ?_) (a' := ?_) #[true, true, true, true, true, true, true, true, true, true, false, false, false, false, false, false] rfl rfl (by kernel_rfl) (fun _ _ _ h => h) (Or.inl ⟨by rfl, ?_⟩) hS0 ?_ ?_
          rotate_left
          · intro w' s0
            obtain ⟨hx0, hx1⟩ := s0
            go_simp
            with_reducible rfl
          rotate_left
          · simp only [Act.put, List.setIfInBounds_toArray, List.set_cons_zero, List.set_cons_succ]
            rfl
          refine pure_ (i := 10) (N := (some 74)) (v := ?_) (a' := ?_) #[true, true, true, true, true, true, true, true, true, true, true, false, false, false, false, false] rfl rfl (by kernel_rfl) (fun _ _ _ h => h) (Or.inl ⟨by rfl, ?_⟩) ?_ ?_
          rotate_left
          · intro w'
            go_simp
            with_reducible rfl
          rotate_left
          · simp only [Act.put, List.setIfInBounds_toArray, List.set_cons_zero, List.set_cons_succ]
            rfl
          refine pure_ (i := 11) (N := (some 75)) (v := ?_) (a' := ?_) #[true, true, true, true, true, true, true, true, true, true, true, true, false, false, false, false] rfl rfl (by kernel_rfl) (fun _ _ _ h => h) (Or.inl ⟨by rfl, ?_⟩) ?_ ?_
          rotate_left
          · intro w'
            go_simp
            with_reducible rfl
          rotate_left
          · simp only [Act.put, List.setIfInBounds_toArray, List.set_cons_zero, List.set_cons_succ]
            rfl
          clear hS0
          refine last_ (i := 12) (N := (some 76)) #[true, true, true, true, true, true, true, true, true, true, true, true, true, false, false, false] rfl rfl (by kernel_rfl) (by decide) (fun K hK => ?_)
          refine goes_ Try.func86 (by kernel_rfl) rfl #[.slice (some ⟨g, 0, none⟩) N cap, .int .i64 i] (by rfl) rfl rfl (by go_simp; done) ?_
          refine (find_c HVd.out HP.out (by omega) i hiN).mono ?_
          rintro e w6 ⟨p1, rfl, a1, a2, a3⟩
          refine ⟨_, rfl, ?_⟩
          rw [← HX.out]
          have HV6 := Aside0.mk a1
          have HP6 := Aside0.mk a2
          have HG6 : Aside0 (wr.grownBy w6 (some g)) := ⟨World.grownBy.trans (below_grownBy (below_drew (Below.refl _ _)) _) a3⟩
          clear a1 a2 a3 HV HVd HP
          change K (Act.put _ (some 76) _) _
          refine hK.out _ _ ?_
          clear hK
          refine norm_ (a' := ?_) ?_ ?_
          rotate_left
          · simp only [Act.put, List.setIfInBounds_toArray, List.set_cons_zero, List.set_cons_succ]
            rfl
          refine last_ (i := 13) (N := (some 77)) #[true, true, true, true, true, true, true, true, true, true, true, true, true, true, false, false] rfl rfl (by kernel_rfl) (by decide) (fun K hK => ?_)
          have hlk := (HM.out.kept HG6.out (fun e => HNG.out (Option.some.inj e))).lookup x (by omega) HTH.out
          rw [← HIX.out] at hlk
          refine value_ (w1 := w6) (v := .int .i64 ix) (by rfl) rfl (by unfold execOp; simp [hlk, Act.eval]) ?_
          change K (Act.put _ (some 77) _) _
          refine hK.out _ _ ?_
          clear hK
          refine norm_ (a' := ?_) ?_ ?_
          rotate_left
          · simp only [Act.put, List.setIfInBounds_toArray, List.set_cons_zero, List.set_cons_succ]
            rfl
          refine pure_ (i := 14) (N := (some 78)) (v := ?_) (a' := ?_) #[true, true, true, true, true, true, true, true, true, true, true, true, true, true, true, false] rfl rfl (by kernel_rfl) (fun _ _ _ h => h) (Or.inl ⟨by rfl, ?_⟩) ?_ ?_
          rotate_left
          · intro w'
            go_simp
            with_reducible rfl
          rotate_left
          · simp only [Act.put, List.setIfInBounds_toArray, List.set_cons_zero, List.set_cons_succ]
            rfl
          refine pure_ (i := 15) (N := (some 10)) (v := ?_) (a' := ?_) #[true, true, true, true, true, true, true, true, true, true, true, true, true, true, true, true] rfl rfl (by kernel_rfl) (fun _ _ _ h => h) (Or.inl ⟨by rfl, ?_⟩) ?_ ?_
          rotate_left
          · intro w'
            go_simp
            with_reducible rfl
          rotate_left
          · simp only [Act.put, List.setIfInBounds_toArray, List.set_cons_zero, List.set_cons_succ]
            rfl
          refine done_ (by kernel_rfl) ?_
          obtain ⟨xs, hxs⟩ : ∃ xs, xs = (firsts r k).map (toS ∘ clu2 r k m t) := ⟨_, rfl⟩
          have hlen : xs.length = ln := by rw [hxs, List.length_map, HLN.out]
          have HXS := Aside0.mk hxs
          have HLEN := Aside0.mk hlen
          have HRC6 : Aside0 (RC w6 w.heap.size q c xs) := ⟨by
            have h6 := Kd.R_grown HR.out HG6.out (fun j hj e => hj.1 (Option.some.inj e))
            rw [← hxs, ← hlen] at h6
            exact Kd.R_mono (Kd.R_tight rfl h6) (fun j hj => (Option.some.inj (by simpa [Value.ownBlock] using hj)))⟩
          have hxi : ix < xs.length := by omega
          obtain ⟨o1, ho1⟩ : ∃ o1, o1 = (out2 r k m x t).1 := ⟨_, rfl⟩
          have HO1 := Aside0.mk ho1
          have hf2 : fld xs[ix] 2 = (o1 : Int) := by
            have : xs[ix] = toS (clu2 r k m t x) := by
              have hix := HIX.out
              subst hxs hix
              rw [List.getElem_map, List.getElem_idxOf]; rfl
            rw [this, ho1]; rfl
          obtain ⟨c2, f2⟩ := HRC6.out.cell ix hxi 2 (by omega)
          rw [hf2] at c2
          obtain ⟨c3, f3⟩ := HRC6.out.cell ix hxi 3 (by omega)
          generalize fld xs[ix] 3 = z3 at c3
          clear hxs hlen ho1 hf2
          by_cases hlo : o1 ≤ t
          · have hloI : (o1 : Int) ≤ (t : Int) := by omega
            have hloJ : ¬ (t : Int) < (o1 : Int) := by omega
            go_wp2_with fail
            have HP2 := HRC6.out.put2 ix hxi (o1 : Int) ((t : Int) + 1)
            have hg7 : w6.grownBy ((w6.setCell ⟨q, ix * 4 + 2, none⟩ (.int .i64 (o1 : Int))).setCell ⟨q, ix * 4 + 2 + 1, none⟩ (.int .i64 ((t : Int) + 1))) (some q) := World.grownBy.trans (grown_set _ _ _ _) (grown_set _ _ _ _)
            have hst := step_out hlt HI.out HX.out HTH.out HXS.out HIX.out HO1.out hxi (o1 : Int) (by omega)
            refine ⟨⟨t + 1, p1, by go_num, by omega, ⟨(HW.out.grown HG6.out hne).grown hg7 (by have := HQ1.out; have := HBW.out; omega)⟩, ⟨HV6.out.grown hg7 HQG.out.1.symm⟩, HP6, ⟨(HM.out.kept HG6.out (fun e => HNG.out (Option.some.inj e))).kept hg7 (fun e => HQG.out.2 (Option.some.inj e).symm)⟩, ⟨?_⟩, ⟨grown_row (World.grownBy.trans HG.out HG6.out) hg7 (fun j hj => by have := Option.some.inj hj; have := HQ1.out; omega)⟩⟩, by simp [intOf]; omega⟩
            rw [hst]
            unfold RC at HP2
            rw [List.length_set, HLEN.out] at HP2
            exact Kd.R_mono HP2 (fun j hj => by rw [hj]; exact HQG.out)
          · have hloI : (t : Int) < (o1 : Int) := by omega
            have hloJ : ¬ (o1 : Int) ≤ (t : Int) := by omega
            go_wp2_with fail
            have HP2 := HRC6.out.put2 ix hxi (t : Int) ((t : Int) + 1)
            have hg7 : w6.grownBy ((w6.setCell ⟨q, ix * 4 + 2, none⟩ (.int .i64 (t : Int))).setCell ⟨q, ix * 4 + 2 + 1, none⟩ (.int .i64 ((t : Int) + 1))) (some q) := World.grownBy.trans (grown_set _ _ _ _) (grown_set _ _ _ _)
            have hst := step_out hlt HI.out HX.out HTH.out HXS.out HIX.out HO1.out hxi (t : Int) (by omega)
            refine ⟨⟨t + 1, p1, by go_num, by omega, ⟨(HW.out.grown HG6.out hne).grown hg7 (by have := HQ1.out; have := HBW.out; omega)⟩, ⟨HV6.out.grown hg7 HQG.out.1.symm⟩, HP6, ⟨(HM.out.kept HG6.out (fun e => HNG.out (Option.some.inj e))).kept hg7 (fun e => HQG.out.2 (Option.some.inj e).symm)⟩, ⟨?_⟩, ⟨grown_row (World.grownBy.trans HG.out HG6.out) hg7 (fun j hj => by have := Option.some.inj hj; have := HQ1.out; omega)⟩⟩, by simp [intOf]; omega⟩
            rw [hst]
            unfold RC at HP2
            rw [List.length_set, HLEN.out] at HP2
            exact Kd.R_mono HP2 (fun j hj => by rw [hj]; exact HQG.out)
        · have et : t = m := by omega
          subst et
          have HEND : Aside0 ((firsts r k).map (toS ∘ clu2 r k t t) = cluS k t r k) := ⟨by rw [← List.map_map, clu2_end HBT.out HOUT.out]; rfl⟩
          go_wp2_with fail
          go_ret
          exact ⟨_, rfl, by rw [← HEND.out]; exact Kd.R_mono HR.out (fun _ _ => trivial), HG.out⟩
end Go.Proofs.Ytohhobcipfmkbaa.CFin
