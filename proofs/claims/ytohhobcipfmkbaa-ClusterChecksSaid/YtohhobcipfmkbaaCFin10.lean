/- weave's close: walked. -/
import Derived.Test.YtohhobcipfmkbaaCFin9
namespace Go.Proofs.Ytohhobcipfmkbaa.CFin
open Go.RowKit Go.Maps Go.Proofs.YtohhobcipfmkbaaW.PrintWords Go.Proofs.YtohhobcipfmkbaaW.PrintMore Go.Proofs.YtohhobcipfmkbaaW.PrintLast Go.Proofs.Ytohhobcipfmkbaa.U Go.Proofs.Ytohhobcipfmkbaa.PClusterFinest Go.Proofs.Ytohhobcipfmkbaa.UFinest Go.Proofs.Ytohhobcipfmkbaa.UFinEv
set_option linter.unusedVariables false
set_option linter.unusedSimpArgs false
theorem labOk_closeIn {N : Nat} (last : Nat → Nat) (i : Nat) (hi : i < N) (hl : ∀ v, last v < N) (f : Nat) : ∀ (k : Nat) (r : Lab) (t : Bool), LabOk N r → LabOk N (closeIn last i f k r t).1 := by
  induction f with
  | zero => intro k r t h; exact h
  | succ f ih =>
    intro k r t h
    unfold closeIn
    split
    · rename_i hk
      exact ih _ _ _ (h.merge _ _ hi (Nat.lt_of_le_of_lt hk (hl _)))
    · exact h
theorem labOk_closeTo {N : Nat} (last : Nat → Nat) (lo hi : Nat) (hN : hi ≤ N) (hl : ∀ v, last v < N) (k : Nat) (hk : lo + k ≤ hi) (s : Lab × Bool) (h : LabOk N s.1) : LabOk N (closeTo last lo hi k s).1 := by
  induction k with
  | zero => exact h
  | succ k ih => exact labOk_closeIn last _ (by omega) hl _ _ _ _ (ih (by omega))
theorem labOk_closeF {N : Nat} {r : Lab} (lo hi : Nat) (hlh : lo < hi) (hN : hi ≤ N) (h : LabOk N r) : LabOk N (closeF r lo hi).1 :=
  labOk_closeTo _ lo hi hN (fun v => Nat.lt_of_lt_of_le (lastF_lt r lo hi hlh v) hN) _ (by omega) _ h
theorem MV.cast {w : World} {b n : Nat} {f f' : Nat → Nat} (h : MV w b n f) (e : ∀ v, f v = f' v) : MV w b n f' := by
  obtain rfl : f = f' := funext e
  exact h
theorem grown_new {w a b : World} {g gm : Nat} (h1 : w.grownBy a (some g)) (h2 : a.grownBy b (some gm)) (hgm : w.heap.size ≤ gm) : w.grownBy b (some g) :=
  ⟨h2.os.trans h1.os, h2.tape.trans h1.tape, h2.output.trans h1.output, Nat.le_trans h1.size h2.size, fun k hk hne => (h2.block k (Nat.lt_of_lt_of_le hk h1.size) (fun e => by have := Option.some.inj e; omega)).trans (h1.block k hk hne)⟩
theorem MV.last {w' : World} {b n x i lo j : Nat} {r : Lab} {D : DataW Unit} (hx : x = r i) (hi : i = lo + j) (hv : x ≤ 1000000) (h1 : IsMap D) (h3 : ∀ v : Nat, D.atKey (.int .i64 v) (.lit (.int .i64 0)) = .lit (.int .i64 (lastF r lo j v : Nat))) (h2 : w'.ownsMap Try.prog 3 (plainElem Try.prog 3) b (n + 1) (D.put (.int .i64 x) (.lit (.int .i64 i)))) : MV w' b (n + 1) (lastF r lo (j + 1)) := by
  refine (MV.put (w := w') h1 h3 hv h2).cast fun v => ?_
  subst hx hi
  show (if v = r (lo + j) then lo + j else lastF r lo j v) = (if r (lo + j) = v then lo + j else lastF r lo j v)
  simp only [eq_comm]
set_option maxRecDepth 100000 in
set_option maxHeartbeats 1000000 in
theorem close_c {w : World} {base B g n m N cap : Nat} {p : List Int} {r : Lab} (hW : WV w B g n m N cap) (h : LI w base g N cap p) (hne : B ≠ g) (hp : PF N r p) (ho : LabOk N r) (hN : N ≤ 100000) (lo hi : Nat) (hlh : lo < hi) (hh : hi ≤ N) :
    Calls Try.prog 62 #[.pointer (some ⟨B, 0, none⟩), .agg #[.int .i64 lo, .int .i64 hi]] w fun e w' => e = .returned (.bool (closeF r lo hi).2) ∧ ∃ p', LI w' base g N cap p' ∧ PF N (closeF r lo hi).1 p' ∧ w.grownBy w' (some g) := by
  have HW := Aside0.mk hW
  have HV := Aside0.mk h
  have HP := Aside0.mk hp
  have HO := Aside0.mk ho
  have hgw := h.ltw
  clear hW h hp ho
  have hmm := @run_makeMap Try.prog
  go_enter Try.func62, Try.ntmps62
  go_wp2_with (first | ((with_reducible refine gate_dst (N := 3) rfl ?_); refine box_event ?hg (N := 3) ?hd (cs := #[.int .i64 lo, .int .i64 hi]) (t := 33) ?hr ?_; (case hd => rfl); (case hg => rfl); (case hr => first | (go_simp; done) | (go_simp; rfl)); intro gb hg w5 hbox hb; have HW5 := Aside0.mk ((HW.out.below hb).below (below_alloc (Below.refl _ _) (.map #[] 0))); have HV5 := Aside0.mk ((HV.out.below hb).below (below_alloc (Below.refl _ _) (.map #[] 0))); have HX : Aside0 ((w5.alloc (.map #[] 0)).heap[gb]? = _) := ⟨(World.grownBy_alloc w5 (.map #[] 0) none |>.block _ (blk_lt hbox) (by simp)).trans hbox⟩; have HGB : Aside0 (gb ≠ g) := ⟨by omega⟩; have HG5 : Aside0 (w.grownBy (w5.alloc (.map #[] 0)) (some g)) := ⟨World.grownBy.trans (below_grownBy hb (some g)) (World.grownBy_alloc _ _ _)⟩; have HM5 : Aside0 (MV (w5.alloc (.map #[] 0)) w5.heap.size 0 (lastF r lo 0)) := ⟨MV.made w5⟩; have HMG : Aside0 (w5.heap.size ≠ g) := ⟨by have := (HV.out.below hb).ltw; omega⟩; have HMW : Aside0 (B ≠ w5.heap.size) := ⟨by have := blk_lt (HW.out.below hb); omega⟩; have HMS : Aside0 (w.heap.size ≤ w5.heap.size) := ⟨hb.size⟩; have HMB : Aside0 (w5.heap.size ≠ gb) := ⟨by have := blk_lt hbox; omega⟩; have b0 : (w5.alloc (.map #[] 0)).cell? ⟨gb, 0, none⟩ = some (.int .i64 lo) := (blk_cell HX.out 0).trans rfl; clear hg hbox hb HW HV))
  generalize w5.heap.size = gm at *
  clear hmm
  go_loopw [6] (fun v wr => ∃ (j : Nat) (p : List Int), v = .int .i64 ((lo + j : Nat) : Int) ∧ lo + j ≤ hi ∧ Aside0 (WV wr B g n m N cap) ∧ Aside0 (LI wr base g N cap p) ∧ Aside0 (PF N r p) ∧ Aside0 (MV wr gm j (lastF r lo j)) ∧ Aside0 (wr.heap[gb]? = some (.cells #[.int .i64 lo, .int .i64 hi] 33 (0, 0))) ∧ Aside0 (w.grownBy wr (some g))) (fun v _ => hi - (intOf v).toNat)
  case atStart => exact ⟨0, p, rfl, by omega, HW5, HV5, HP, HM5, HX, HG5⟩
  case round =>
    clear HW5 HV5 HP HM5 HX HG5 b0
    obtain ⟨j, p, rfl, hj, HW, HV, HP, HM, HX, HG⟩ := hrel
    have b1 : wr.cell? ⟨gb, 1, none⟩ = some (.int .i64 hi) := (blk_cell HX.out 1).trans rfl
    have d0 := HW.out.c0
    by_cases hlt : lo + j < hi
    · obtain ⟨i, hi'⟩ : ∃ i, i = lo + j := ⟨_, rfl⟩
      rw [← hi'] at hlt ⊢
      have hiI : (i : Int) < (hi : Int) := by omega
      have hiN : i < N := by omega
      obtain ⟨x, hx⟩ : ∃ x, x = r i := ⟨_, rfl⟩
      have HXE := Aside0.mk hx
      have hxN : x < N := by have := HO.out.le i hiN; omega
      have HIE := Aside0.mk hi'
      clear hx hi'
      go_wp2_with (first | (go_at_call 86; refine (find_c HV.out HP.out (by omega) i hiN).mono ?_; rintro e w6 ⟨p1, rfl, a1, a2, a3⟩; rw [← HXE.out]; have HV6 := Aside0.mk a1; have HP6 := Aside0.mk a2; have HG6 : Aside0 (wr.grownBy w6 (some g)) := ⟨a3⟩; clear a1 a2 a3 HV HP) | (at_mapUpdate; obtain ⟨D, m1, m2, m3⟩ := HM.out; refine wpList_mapUpdate_own _ rfl _ _ _ 112 rfl 3 3 keyed3 Try.underlying112 (plainElem Try.prog 3) gm j D rfl (m2.kept HG6.out (by intro e; exact HMG.out (Option.some.inj e))) (by unfold maxLen; omega) _ _ (.int .i64 x) rfl rfl (key3 x (by omega)) _ [] (elem3 i (by omega)) ?_; intro w7 m4 m5; have HM7 := Aside0.mk (MV.last HXE.out HIE.out (by omega) m1 m3 m4); have HG7 : Aside0 (w6.grownBy w7 (some gm)) := ⟨m5⟩; clear m1 m2 m3 m4 m5 HM))
      have HW7 : Aside0 (WV w7 B g n m N cap) := ⟨(HW.out.grown HG6.out hne).grown HG7.out HMW.out⟩
      have HV7 : Aside0 (LI w7 base g N cap p1) := ⟨HV6.out.grown HG7.out HMG.out.symm⟩
      have HX7 : Aside0 (w7.heap[gb]? = some (.cells #[.int .i64 lo, .int .i64 hi] 33 (0, 0))) := ⟨(HG7.out.block _ (Nat.lt_of_lt_of_le (blk_lt HX.out) HG6.out.size) (fun e => HMB.out (Option.some.inj e).symm)).trans ((HG6.out.block _ (blk_lt HX.out) (fun e => HGB.out (Option.some.inj e))).trans HX.out)⟩
      have HG8 : Aside0 (w.grownBy w7 (some g)) := ⟨grown_new (World.grownBy.trans HG.out HG6.out) HG7.out HMS.out⟩
      exact ⟨⟨j + 1, p1, by have := HIE.out; go_num, by have := HIE.out; omega, HW7, HV7, HP6, HM7, HX7, HG8⟩, by simp [intOf]; omega⟩
    · obtain ⟨t, ht⟩ : ∃ t, t = hi - lo := ⟨_, rfl⟩
      have ejt : j = t := by omega
      subst ejt
      have ej : lo + j = hi := by omega
      rw [ej]
      obtain ⟨last, hlast⟩ : ∃ last, last = lastF r lo j := ⟨_, rfl⟩
      have HM2 : Aside0 (MV wr gm j last) := ⟨by rw [hlast]; exact HM.out⟩
      have HLB : Aside0 (∀ v, last v < hi) := ⟨fun v => by rw [hlast, ht]; exact lastF_lt r lo hi hlh v⟩
      have HCF : Aside0 (closeF r lo hi = closeTo last lo hi (hi - lo) (r, false)) := ⟨by rw [hlast, ht]; rfl⟩
      clear hlast ht HM hlt
      have b0 := (blk_cell HX.out 0).trans rfl
      go_wp2_with fail
      go_loopw [7, 8] (fun v7 v8 wr => ∃ (q : Nat) (p : List Int) (r1 : Lab) (t1 : Bool), v8 = .int .i64 ((lo + q : Nat) : Int) ∧ v7 = .bool t1 ∧ lo + q ≤ hi ∧ Aside0 (closeTo last lo hi q (r, false) = (r1, t1)) ∧ Aside0 (WV wr B g n m N cap) ∧ Aside0 (LI wr base g N cap p) ∧ Aside0 (PF N r1 p) ∧ Aside0 (LabOk N r1) ∧ Aside0 (MV wr gm j last) ∧ Aside0 (wr.heap[gb]? = some (.cells #[.int .i64 lo, .int .i64 hi] 33 (0, 0))) ∧ Aside0 (w.grownBy wr (some g))) (fun _ v _ => hi - (intOf v).toNat)
      case atStart => exact ⟨0, p, r, false, rfl, rfl, by omega, ⟨rfl⟩, HW, HV, HP, HO, HM2, HX, HG⟩
      case round =>
        clear HW HV HP HO HM2 HX HG b0 b1 d0
        obtain ⟨q, p, r1, t1, rfl, rfl, hq, HS, HW, HV, HP, HO, HM, HX, HG⟩ := hrel
        have b1 : wr.cell? ⟨gb, 1, none⟩ = some (.int .i64 hi) := (blk_cell HX.out 1).trans rfl
        by_cases hlt : lo + q < hi
        · obtain ⟨i, hi'⟩ : ∃ i, i = lo + q := ⟨_, rfl⟩
          rw [← hi'] at hlt ⊢
          have hiI : (i : Int) < (hi : Int) := by omega
          have hiN : i < N := by omega
          have HIE := Aside0.mk hi'
          have e1 : IntKind.i64.wrap ((i : Int) + 1) = ((i + 1 : Nat) : Int) := by rw [IntWalk.i64_in _ (by omega)]; omega
          clear hi'
          go_wp2_with fail
          go_loopw [7, 9] (fun v7 v9 wr => ∃ (k f : Nat) (p : List Int) (r2 : Lab) (t2 : Bool), v9 = .int .i64 (k : Int) ∧ v7 = .bool t2 ∧ i < k ∧ k ≤ hi ∧ f + k = hi + i + 2 ∧ Aside0 (closeIn last i f k r2 t2 = closeIn last i (hi + 1) (i + 1) r1 t1) ∧ Aside0 (WV wr B g n m N cap) ∧ Aside0 (LI wr base g N cap p) ∧ Aside0 (PF N r2 p) ∧ Aside0 (LabOk N r2) ∧ Aside0 (MV wr gm j last) ∧ Aside0 (wr.heap[gb]? = some (.cells #[.int .i64 lo, .int .i64 hi] 33 (0, 0))) ∧ Aside0 (w.grownBy wr (some g))) (fun _ v _ => hi + 1 - (intOf v).toNat)
          case atStart => exact ⟨i + 1, hi + 1, p, r1, t1, by go_num, rfl, by omega, by omega, by omega, ⟨rfl⟩, HW, HV, HP, HO, HM, HX, HG⟩
          case round =>
            clear HW HV HP HO HM HX HG b1
            obtain ⟨k, f, p, r2, t2, rfl, rfl, hik, hkh, hf, HC, HW, HV, HP, HO, HM, HX, HG⟩ := hrel
            have d0 := HW.out.c0
            have hkN : k ≤ N := by omega
            obtain ⟨f, rfl⟩ : ∃ f', f = f' + 1 := ⟨f - 1, by omega⟩
            obtain ⟨x, hx⟩ : ∃ x, x = r2 i := ⟨_, rfl⟩
            have hxN : x < N := by have := HO.out.le i hiN; omega
            obtain ⟨z, hz⟩ : ∃ z, z = last x := ⟨_, rfl⟩
            have hzh : z < hi := by rw [hz]; exact HLB.out x
            have hC := HC.out
            rw [closeIn] at hC
            rw [← hx, ← hz] at hC
            have HXE := Aside0.mk hx
            have HZE := Aside0.mk hz
            clear hx hz HC
            by_cases hkz : k ≤ z
            · rw [if_pos hkz] at hC
              have HC := Aside0.mk hC
              have hkzI : (k : Int) ≤ (z : Int) := by omega
              clear hC
              have hkN2 : k < N := by omega
              go_wp2_with (first | (go_at_call 86; refine (find_c HV.out HP.out (by omega) i hiN).mono ?_; rintro e w6 ⟨p1, rfl, a1, a2, a3⟩; rw [← HXE.out]; have HV6 := Aside0.mk a1; have HP6 := Aside0.mk a2; have HG6 : Aside0 (wr.grownBy w6 (some g)) := ⟨a3⟩; have hlk := (HM.out.kept a3 (fun e => HMG.out (Option.some.inj e))).lookup x (by omega) (zero3 w6); rw [← HZE.out] at hlk; have HW6 := Aside0.mk (HW.out.grown a3 hne); have d06 := HW6.out.c0; clear a1 a2 a3 HV HP) | (go_at_call 84; refine (join_c HV6.out HP6.out HO.out (by omega) i k hiN hkN2).mono ?_; rintro e w7 ⟨p2, rfl, a1, a2, a3⟩; have HV7 := Aside0.mk a1; have HP7 := Aside0.mk a2; have HG7 : Aside0 (wr.grownBy w7 (some g)) := ⟨World.grownBy.trans HG6.out a3⟩; obtain ⟨bb, hbb⟩ : ∃ bb, bb = two r2 i k := ⟨_, rfl⟩; have HBB := Aside0.mk hbb; rw [← hbb]; clear a1 a2 a3 hbb; cases bb))
              · have HC2 : Aside0 (closeIn last i f (k + 1) (merge r2 i k) t2 = closeIn last i (hi + 1) (i + 1) r1 t1) := ⟨by have := HC.out; rw [← HBB.out] at this; simpa using this⟩
                exact ⟨⟨k + 1, f, p2, _, t2, by go_num, rfl, by omega, by omega, by omega, HC2, ⟨HW.out.grown HG7.out hne⟩, HV7, HP7, ⟨HO.out.merge _ _ hiN hkN2⟩, ⟨HM.out.kept HG7.out (fun e => HMG.out (Option.some.inj e))⟩, ⟨(HG7.out.block _ (blk_lt HX.out) (fun e => HGB.out (Option.some.inj e))).trans HX.out⟩, ⟨World.grownBy.trans HG.out HG7.out⟩⟩, by simp [intOf]; omega⟩
              · have HC2 : Aside0 (closeIn last i f (k + 1) (merge r2 i k) true = closeIn last i (hi + 1) (i + 1) r1 t1) := ⟨by have := HC.out; rw [← HBB.out] at this; simpa using this⟩
                exact ⟨⟨k + 1, f, p2, _, true, by go_num, rfl, by omega, by omega, by omega, HC2, ⟨HW.out.grown HG7.out hne⟩, HV7, HP7, ⟨HO.out.merge _ _ hiN hkN2⟩, ⟨HM.out.kept HG7.out (fun e => HMG.out (Option.some.inj e))⟩, ⟨(HG7.out.block _ (blk_lt HX.out) (fun e => HGB.out (Option.some.inj e))).trans HX.out⟩, ⟨World.grownBy.trans HG.out HG7.out⟩⟩, by simp [intOf]; omega⟩
            · rw [if_neg hkz] at hC
              have HS2 : Aside0 (closeTo last lo hi (q + 1) (r, false) = (r2, t2)) := ⟨by rw [closeTo, HS.out, ← HIE.out]; exact hC.symm⟩
              have hkzI : ¬ (k : Int) ≤ (z : Int) := by omega
              clear hC
              go_wp2_with (first | (go_at_call 86; refine (find_c HV.out HP.out (by omega) i hiN).mono ?_; rintro e w6 ⟨p1, rfl, a1, a2, a3⟩; rw [← HXE.out]; have HV6 := Aside0.mk a1; have HP6 := Aside0.mk a2; have HG6 : Aside0 (wr.grownBy w6 (some g)) := ⟨a3⟩; have hlk := (HM.out.kept a3 (fun e => HMG.out (Option.some.inj e))).lookup x (by omega) (zero3 w6); rw [← HZE.out] at hlk; clear a1 a2 a3 HV HP))
              exact ⟨⟨q + 1, p1, r2, t2, by have := HIE.out; go_num, rfl, by have := HIE.out; omega, HS2, ⟨HW.out.grown HG6.out hne⟩, HV6, HP6, HO, ⟨HM.out.kept HG6.out (fun e => HMG.out (Option.some.inj e))⟩, ⟨(HG6.out.block _ (blk_lt HX.out) (fun e => HGB.out (Option.some.inj e))).trans HX.out⟩, ⟨World.grownBy.trans HG.out HG6.out⟩⟩, by simp [intOf]; omega⟩
        · have eq : lo + q = hi := by omega
          have eqt : q = hi - lo := by omega
          have HS2 : Aside0 (closeF r lo hi = (r1, t1)) := ⟨by rw [HCF.out, ← eqt]; exact HS.out⟩
          rw [eq]
          clear eqt
          go_wp2_with fail
          go_ret
          exact ⟨by rw [HS2.out]; rfl, p, HV.out, by rw [HS2.out]; exact HP.out, HG.out⟩
end Go.Proofs.Ytohhobcipfmkbaa.CFin
