/- weave's stray: walked. -/
import Derived.Test.YtohhobcipfmkbaaCFin7
import Derived.Test.YtohhobcipfmkbaaCFin3
namespace Go.Proofs.Ytohhobcipfmkbaa.CFin
open Go.RowKit Go.Proofs.YtohhobcipfmkbaaW.PrintWords Go.Proofs.YtohhobcipfmkbaaW.PrintMore Go.Proofs.YtohhobcipfmkbaaW.PrintLast Go.Proofs.Ytohhobcipfmkbaa.U Go.Proofs.Ytohhobcipfmkbaa.PClusterFinest Go.Proofs.Ytohhobcipfmkbaa.UFinest Go.Proofs.Ytohhobcipfmkbaa.UFinEv
set_option linter.unusedVariables false
set_option linter.unusedSimpArgs false
theorem drawn0_below {w w' : World} (h : Drawn0 w w') : Below w.heap.size w w' := by
  obtain ⟨q, rfl⟩ := h
  exact pw_below_drewN (Below.refl _ _) q
theorem LB.put {w : World} {base g n cap : Nat} {xs : List Bool} (h : LB w base g n cap xs) (i : Nat) (x : Bool) : LB (w.setCell ⟨g, i, none⟩ (.bool x)) base g n cap (xs.set i x) := by
  have := (Kd.R_putg h (i : Int) x).1
  rwa [Int.toNat_natCast] at this
theorem LB.fro {w : World} {base g n cap : Nat} {xs : List Bool} (h : LB w base g n cap xs) (i : Nat) (hi : i < n) : w.frozen? ⟨g, i, none⟩ = false := by
  have := (Kd.R_celln false h (i : Int) (by omega) (by omega)).2
  rwa [Int.toNat_natCast] at this
theorem LB.other {w : World} {base g n cap : Nat} {xs : List Bool} (h : LB w base g n cap xs) {g' : Nat} (hg : g ≠ g') (i : Nat) (v : Value) : LB (w.setCell ⟨g', i, none⟩ v) base g n cap xs :=
  Kd.R_grown h (grown_set w g' i v) (fun k hk e => hg (by rw [← hk]; exact Option.some.inj e))
theorem LB.len {w : World} {base g n cap : Nat} {xs : List Bool} (h : LB w base g n cap xs) : n = xs.length := (Kd.R_reads' h).1
theorem LB.lt {w : World} {base g n cap : Nat} {xs : List Bool} (h : LB w base g n cap xs) : base ≤ g := by
  obtain ⟨_, h2, _, _⟩ := (Kd.R_bound h).1 g rfl
  exact h2
set_option maxRecDepth 100000 in
set_option maxHeartbeats 1000000 in
theorem stray_c {w : World} {base B g n m N cap c : Nat} {A : Option Addr} {p : List Int} {r : Lab} {l : List S45} (hW : WV w B g n m N cap) (h : LI w base g N cap p) (hne : B ≠ g) (hp : PF N r p) (ho : LabOk N r) (hN : N ≤ 100000) (hnm : n + m = N) (hm : 0 < m)
    (hC : Kd.C k45 w A l.length l) (hl : l.length ≤ 1000) (hlk : ∀ x ∈ l, LinkOk n m x) (hf : firstF (l.map lkOf) n < n) :
    Calls Try.prog 61 #[.pointer (some ⟨B, 0, none⟩), .slice A l.length c] w fun e w' => e = .returned (.tuple #[]) ∧ ∃ p', LI w' base g N cap p' ∧ PF N (strayF (l.map lkOf) n r n) p' ∧ w.grownBy w' (some g) := by
  have HW := Aside0.mk hW
  have HV := Aside0.mk h
  have HP := Aside0.mk hp
  have HO := Aside0.mk ho
  have HC := Aside0.mk hC
  have HLK := Aside0.mk hlk
  have HF := Aside0.mk hf
  have hgw := h.ltw
  have d1 := hW.c1
  clear hW h hp ho hC hlk hf
  go_enter Try.func61, Try.ntmps61
  go_wp2_with (first | ((with_reducible refine gate_dst (N := 14) rfl ?_); refine Kd.R_make Kd.bool (w0 := w) w.heap.size 4 rfl (N := 14) rfl 91 _ _ rfl n rfl rfl Try.underlying91 (.bool false) 1 info4 rfl (by decide) (by omega) false (ok := fun _ => True) (okp := fun _ => True) rfl (fun _ hk => hk) trivial (by omega) (by omega) (Below.refl _ _) (Nat.le_refl _) ?_; intro v w1 hv hb hg hnew; obtain ⟨gl, capl, ev, hgo⟩ := R_form hv (hnew.imp fun _ h => h.1); subst ev; rw [List.length_replicate, Int.toNat_natCast] at hv ⊢; have HB0 := Aside0.mk (LB.of_R hv); have HB := Aside0.mk hb; clear hv hb hg hnew hgo d1))
  go_loopw [17] (fun v wr => ∃ (k : Nat) (bs : List Bool), v = .int .i64 k ∧ k ≤ l.length ∧ Aside0 (RepB (linkedB ((l.take k).map lkOf)) bs) ∧ Aside0 (LB wr w.heap.size gl n capl bs) ∧ Aside0 (Below w.heap.size w wr)) (fun v _ => l.length - (intOf v).toNat)
  case atStart => exact ⟨0, List.replicate n false, rfl, Nat.zero_le _, ⟨fun i hi => by simp at hi; simp [linkedB, List.getD_eq_getElem?_getD, List.getElem?_replicate, hi]⟩, HB0, HB⟩
  case round =>
    clear HB0 HB
    obtain ⟨k, bs, rfl, hk, HR, HB0, HB⟩ := hrel
    by_cases hlt : k < l.length
    · have hx := HLK.out _ (List.getElem_mem hlt)
      obtain ⟨ad, ead, c0, c1, c2, c3⟩ := at_T45 (Kd.C_below HC.out HB.out) (k : Int) (by omega) (by omega)
      rw [rd45 hlt, Int.toNat_natCast] at c0 c1 c2 c3
      have ha0 := hx.a0; have hab := hx.ab; have hbn := hx.bn
      obtain ⟨lo, hlo⟩ : ∃ lo : Nat, l[k].f0.f0 = (lo : Int) := ⟨l[k].f0.f0.toNat, by omega⟩
      obtain ⟨hi, hhi⟩ : ∃ hi : Nat, l[k].f0.f1 = (hi : Int) := ⟨l[k].f0.f1.toNat, by omega⟩
      rw [hlo] at c0
      rw [hhi] at c1
      generalize hx3 : l[k].f1.f0 = x3 at c2
      generalize hx4 : l[k].f1.f1 = x4 at c3
      have HLO := Aside0.mk hlo
      have HHI := Aside0.mk hhi
      have hlh : lo < hi := by omega
      have hhn : hi ≤ n := by omega
      have HEA := Aside0.mk ead
      subst ead
      clear hx ha0 hab hbn hlo hhi hx3 hx4
      have hkI : (k : Int) < (l.length : Int) := by omega
      go_wp2_with (first | ((with_reducible refine gate_dst (N := 6) rfl ?_); refine box_event ?hg (N := 6) ?hd (cs := #[.int .i64 0, .int .i64 0, .int .i64 0, .int .i64 0]) (t := 45) ?hr ?_; (case hd => rfl); (case hg => rfl); (case hr => first | (go_simp; done) | (go_simp; rfl)); intro gb hg w6 hbox hb; have HX6 := Aside0.mk hbox; have HGB := Aside0.mk hg; have HGW := Aside0.mk HB0.out.ltw; have HGX : Aside0 (w.heap.size ≤ gb) := ⟨by rw [hg]; exact HB.out.size⟩; have HB6 : Aside0 (Below w.heap.size w w6) := ⟨below_step HB.out hb⟩; have HB06 := Aside0.mk (HB0.out.below hb); have z0 : w6.cell? ⟨gb, 0, none⟩ = some (.int .i64 0) := (blk_cell hbox 0).trans rfl; have z1 : w6.cell? ⟨gb, 1, none⟩ = some (.int .i64 0) := (blk_cell hbox 1).trans rfl; have z2 : w6.cell? ⟨gb, 2, none⟩ = some (.int .i64 0) := (blk_cell hbox 2).trans rfl; have z3 : w6.cell? ⟨gb, 3, none⟩ = some (.int .i64 0) := (blk_cell hbox 3).trans rfl; have f0 := blk_frozen hbox 0; have f1 := blk_frozen hbox 1; have f2 := blk_frozen hbox 2; have f3 := blk_frozen hbox 3; clear hg hbox hb HB HB0))
      have hgl := HB06.out.ltw
      have HNG : Aside0 (gl ≠ gb) := ⟨by have h1 := HGB.out; have h2 := HGW.out; omega⟩
      have HGE : Aside0 (w.heap.size ≤ gb) := ⟨HGX.out⟩
      have HX := Aside0.mk (blk_put (blk_put (blk_put (blk_put HX6.out 0 (.int .i64 lo) rfl) 1 (.int .i64 hi) rfl) 2 (.int .i64 x3) rfl) 3 (.int .i64 x4) rfl)
      have HB7 := Aside0.mk ((((HB6.out.setCell (p := ⟨gb, 0, none⟩) HGE.out (.int .i64 lo)).setCell (p := ⟨gb, 1, none⟩) HGE.out (.int .i64 hi)).setCell (p := ⟨gb, 2, none⟩) HGE.out (.int .i64 x3)).setCell (p := ⟨gb, 3, none⟩) HGE.out (.int .i64 x4))
      have HB07 := Aside0.mk ((((HB06.out.other HNG.out 0 (.int .i64 lo)).other HNG.out 1 (.int .i64 hi)).other HNG.out 2 (.int .i64 x3)).other HNG.out 3 (.int .i64 x4))
      clear z0 z1 z2 z3 f0 f1 f2 f3 HX6 HB6 HB06 hgl c0 c1 c2 c3
      go_loopw [7] (fun v wr => ∃ (t : Nat) (bs : List Bool), v = .int .i64 t ∧ lo ≤ t ∧ t ≤ hi ∧ Aside0 (RepB (fun q => linkedB ((l.take k).map lkOf) q || (decide (lo ≤ q) && decide (q < t))) bs) ∧ Aside0 (LB wr w.heap.size gl n capl bs) ∧ Aside0 (wr.heap[gb]? = some (.cells #[.int .i64 lo, .int .i64 hi, .int .i64 x3, .int .i64 x4] 45 (0, 0))) ∧ Aside0 (Below w.heap.size w wr)) (fun v _ => hi - (intOf v).toNat)
      case atStart => exact ⟨lo, bs, rfl, Nat.le_refl _, by omega, ⟨fun q hq => by rw [HR.out q hq]; have : (decide (lo ≤ q) && decide (q < lo)) = false := (by simp <;> omega); dsimp only; rw [this, Bool.or_false]⟩, HB07, HX, HB7⟩
      case round =>
        clear HB07 HX HB7 HR
        obtain ⟨t, bs, rfl, ht1, ht2, HR, HB0, HX, HB⟩ := hrel
        have b1 : wr.cell? ⟨gb, 1, none⟩ = some (.int .i64 hi) := (blk_cell HX.out 1).trans rfl
        by_cases hlt2 : t < hi
        · have hcl := HB0.out.cell t (by omega)
          have hfr := HB0.out.fro t (by omega)
          have HP2 := Aside0.mk (HB0.out.put t true)
          have HR2 : Aside0 (RepB (fun q => linkedB ((l.take k).map lkOf) q || (decide (lo ≤ q) && decide (q < t + 1))) (bs.set t true)) := ⟨by
            intro q hq
            rw [repB_set HR.out t (by rw [← HB0.out.len]; omega) q hq]
            dsimp only
            by_cases e : q = t
            · subst e; simp; omega
            · have e1 : decide (q = t) = false := decide_eq_false e
              have e2 : decide (q < t + 1) = decide (q < t) := by rw [decide_eq_decide]; omega
              rw [e1, e2, Bool.or_false]⟩
          have HX2 : Aside0 ((wr.setCell ⟨gl, t, none⟩ (.bool true)).heap[gb]? = some (.cells #[.int .i64 lo, .int .i64 hi, .int .i64 x3, .int .i64 x4] 45 (0, 0))) := ⟨((grown_set wr gl t (.bool true)).block _ (blk_lt HX.out) (fun e => HNG.out (Option.some.inj e).symm)).trans HX.out⟩
          have HGL := Aside0.mk HB0.out.lt
          have htI : (t : Int) < (hi : Int) := by omega
          have htn : (t : Int) < (n : Int) := by omega
          clear HR HX HB0
          go_wp2_with fail
          exact ⟨⟨t + 1, _, by go_num, by omega, by omega, HR2, HP2, HX2, ⟨HB.out.setCell (p := ⟨gl, t, none⟩) HGL.out _⟩⟩, by simp [intOf]; omega⟩
        · have et : t = hi := by omega
          subst et
          have HR3 : Aside0 (RepB (linkedB ((l.take (k + 1)).map lkOf)) bs) := ⟨by
            intro q hq
            rw [HR.out q hq, List.take_succ_eq_append_getElem hlt, List.map_append]
            unfold linkedB
            rw [List.any_append]
            have ea : (lkOf l[k]).a = lo := by unfold lkOf; dsimp only; rw [HLO.out, Int.toNat_natCast]
            have eb : (lkOf l[k]).b = t := by unfold lkOf; dsimp only; rw [HHI.out, Int.toNat_natCast]
            simp [ea, eb]⟩
          clear HR
          go_wp2_with fail
          exact ⟨⟨k + 1, bs, by go_num, by omega, HR3, HB0, HB⟩, by simp [intOf]; omega⟩
    · have ek : k = l.length := by omega
      subst ek
      have HR2 : Aside0 (RepB (linkedB (l.map lkOf)) bs) := ⟨by have := HR.out; rwa [List.take_of_length_le (Nat.le_refl _)] at this⟩
      clear HR
      obtain ⟨f, hfe⟩ : ∃ f, f = firstF (l.map lkOf) n := ⟨_, rfl⟩
      have HFE := Aside0.mk hfe
      clear hfe
      go_wp2_with (go_at_call 85; refine (index_c n HB0.out HB0.out.len.symm (by omega) HR2.out HF.out).mono ?_; rintro e w3 ⟨rfl, hd⟩; rw [← HFE.out]; have hb3 := drawn0_below hd; have HB3 : Aside0 (Below w.heap.size w w3) := ⟨below_step HB.out hb3⟩; have HB03 := Aside0.mk (HB0.out.below hb3); clear hd hb3 HB HB0)
      have HW3 := Aside0.mk (HW.out.below HB3.out)
      have HV3 := Aside0.mk (HV.out.below HB3.out)
      have HG3 := Aside0.mk (below_grownBy HB3.out (some g))
      have HNL : Aside0 (gl ≠ g) := ⟨by have := HB03.out.lt; omega⟩
      go_loopw [39] (fun v wr => ∃ (i : Nat) (p : List Int), v = .int .i64 i ∧ i ≤ n ∧ Aside0 (WV wr B g n m N cap) ∧ Aside0 (LI wr base g N cap p) ∧ Aside0 (PF N (strayF (l.map lkOf) n r i) p) ∧ Aside0 (LabOk N (strayF (l.map lkOf) n r i)) ∧ Aside0 (LB wr w.heap.size gl n capl bs) ∧ Aside0 (w.grownBy wr (some g))) (fun v _ => n - (intOf v).toNat)
      case atStart => exact ⟨0, p, rfl, Nat.zero_le _, HW3, HV3, HP, HO, HB03, HG3⟩
      case round =>
        clear HW3 HV3 HG3 HB03 HW HV HP HO HB3
        obtain ⟨i, p, rfl, hi, HW, HV, HP, HO, HB0, HG⟩ := hrel
        by_cases hlt : i < n
        · have hcl := HB0.out.cell i hlt
          rw [HR2.out i (by rw [← HB0.out.len]; exact hlt)] at hcl
          have d0 := HW.out.c0
          have hiI : (i : Int) < (n : Int) := by omega
          obtain ⟨b, hb⟩ : ∃ b, b = linkedB (l.map lkOf) i := ⟨_, rfl⟩
          rw [← hb] at hcl
          have HBB := Aside0.mk hb
          clear hb
          cases b with
          | true =>
            have HST : Aside0 (strayF (l.map lkOf) n r (i + 1) = strayF (l.map lkOf) n r i) := ⟨by show (if linkedB (l.map lkOf) i then _ else _) = _; rw [if_pos HBB.out.symm]⟩
            go_wp2_with fail
            exact ⟨⟨i + 1, p, by go_num, by omega, HW, HV, ⟨by rw [HST.out]; exact HP.out⟩, ⟨by rw [HST.out]; exact HO.out⟩, HB0, HG⟩, by simp [intOf]; omega⟩
          | false =>
            by_cases hfi : f < i
            · have HST : Aside0 (strayF (l.map lkOf) n r (i + 1) = merge (strayF (l.map lkOf) n r i) (i - 1) i) := ⟨by show (if linkedB (l.map lkOf) i then _ else _) = _; rw [if_neg (by rw [← HBB.out]; simp), if_pos (by rw [← HFE.out]; exact hfi)]⟩
              have hfI : (f : Int) < (i : Int) := by omega
              have e1 : IntKind.i64.wrap ((i : Int) - 1) = ((i - 1 : Nat) : Int) := by rw [IntWalk.i64_in _ (by omega)]; omega
              obtain ⟨j, hj⟩ : ∃ j, j = i - 1 := ⟨_, rfl⟩
              rw [← hj] at e1
              have HJ := Aside0.mk hj
              have hjN : j < N := by omega
              have hiN : i < N := by omega
              clear hj
              go_wp2_with (go_at_call 84; refine (join_c HV.out HP.out HO.out (by omega) j i hjN hiN).mono ?_; rintro e w5 ⟨p1, rfl, a1, a2, a3⟩; have HV5 := Aside0.mk a1; have HP5 : Aside0 (PF N (strayF (l.map lkOf) n r (i + 1)) p1) := ⟨by rw [HST.out, ← HJ.out]; exact a2⟩; have HG5 := Aside0.mk a3; clear a1 a2 a3)
              exact ⟨⟨i + 1, p1, by go_num, by omega, ⟨HW.out.grown HG5.out hne⟩, HV5, HP5, ⟨by rw [HST.out]; exact HO.out.merge _ _ (by omega) hiN⟩, ⟨Kd.R_grown HB0.out HG5.out (fun q hq e => HNL.out (by rw [← hq]; exact Option.some.inj e))⟩, ⟨World.grownBy.trans HG.out HG5.out⟩⟩, by simp [intOf]; omega⟩
            · have HST : Aside0 (strayF (l.map lkOf) n r (i + 1) = merge (strayF (l.map lkOf) n r i) i (i + 1)) := ⟨by show (if linkedB (l.map lkOf) i then _ else _) = _; rw [if_neg (by rw [← HBB.out]; simp), if_neg (by rw [← HFE.out]; exact hfi)]⟩
              have hfI : ¬ (f : Int) < (i : Int) := by omega
              have hfI2 : (i : Int) ≤ (f : Int) := by omega
              have hjN : i + 1 < N := by omega
              have hiN : i < N := by omega
              have e1 : IntKind.i64.wrap ((i : Int) + 1) = ((i + 1 : Nat) : Int) := by rw [IntWalk.i64_in _ (by omega)]; omega
              go_wp2_with (go_at_call 84; refine (join_c HV.out HP.out HO.out (by omega) i (i + 1) hiN hjN).mono ?_; rintro e w5 ⟨p1, rfl, a1, a2, a3⟩; have HV5 := Aside0.mk a1; have HP5 : Aside0 (PF N (strayF (l.map lkOf) n r (i + 1)) p1) := ⟨by rw [HST.out]; exact a2⟩; have HG5 := Aside0.mk a3; clear a1 a2 a3)
              exact ⟨⟨i + 1, p1, by go_num, by omega, ⟨HW.out.grown HG5.out hne⟩, HV5, HP5, ⟨by rw [HST.out]; exact HO.out.merge _ _ hiN hjN⟩, ⟨Kd.R_grown HB0.out HG5.out (fun q hq e => HNL.out (by rw [← hq]; exact Option.some.inj e))⟩, ⟨World.grownBy.trans HG.out HG5.out⟩⟩, by simp [intOf]; omega⟩
        · have ei : i = n := by omega
          subst ei
          go_wp2_with fail
          go_end0
          exact ⟨rfl, p, HV.out, HP.out, HG.out⟩
end Go.Proofs.Ytohhobcipfmkbaa.CFin
