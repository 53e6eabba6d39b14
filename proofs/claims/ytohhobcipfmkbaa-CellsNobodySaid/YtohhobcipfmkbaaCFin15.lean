/- cluster.Finest: walked. -/
import Derived.Test.YtohhobcipfmkbaaCFin14
import Derived.Test.YtohhobcipfmkbaaCFin12
namespace Go.Proofs.Ytohhobcipfmkbaa.CFin
open Go.RowKit Go.Maps Go.Proofs.YtohhobcipfmkbaaW.PrintWords Go.Proofs.YtohhobcipfmkbaaW.PrintMore Go.Proofs.YtohhobcipfmkbaaW.PrintLast Go.Proofs.Ytohhobcipfmkbaa.U Go.Proofs.Ytohhobcipfmkbaa.PClusterFinest Go.Proofs.Ytohhobcipfmkbaa.UFinest Go.Proofs.Ytohhobcipfmkbaa.UFinEv
set_option linter.unusedVariables false
set_option linter.unusedSimpArgs false
theorem wrong_ok {n m : Nat} {l : List S45} (hn : 0 < n) (hm : 0 < m) (hw : wrongR n m l = 0) : (∀ x ∈ l, LinkOk n m x) ∧ ∀ i, i < m → outB l i = true := by
  unfold wrongR at hw
  split at hw
  · cases hw
  · split at hw
    · rename_i h1 h2
      refine ⟨fun x hx => ?_, ?_⟩
      · have := List.all_eq_true.1 h2 x hx
        unfold okB fitB at this
        simp only [Bool.and_eq_true, decide_eq_true_eq] at this
        exact ⟨this.1.1.1, this.1.1.2, this.1.2, this.2.1.1, this.2.1.2, this.2.2⟩
      · unfold wrongIn at hw
        rw [if_neg (by omega), if_neg (by omega), Int.toNat_natCast] at hw
        split at hw
        · rename_i h3
          intro i hi
          exact List.all_eq_true.1 h3 i (List.mem_range.2 hi)
        · cases hw
    · cases hw
theorem outB_met {m : Nat} {l : List S45} (hl : ∀ x ∈ l, 0 ≤ x.f1.f0) (hc : ∀ i, i < m → outB l i = true) (i : Nat) (hi : i < m) : ∃ x ∈ l.map lkOf, x.c ≤ i ∧ i < x.d := by
  have := hc i hi
  unfold outB at this
  obtain ⟨x, hx, h⟩ := List.any_eq_true.1 this
  simp only [Bool.and_eq_true, decide_eq_true_eq] at h
  have := hl x hx
  exact ⟨lkOf x, List.mem_map.2 ⟨x, hx, rfl⟩, by unfold lkOf; dsimp only; omega, by unfold lkOf; dsimp only; omega⟩
theorem lk_wf {n m : Nat} {l : List S45} (h : ∀ x ∈ l, LinkOk n m x) : (∀ x ∈ l.map lkOf, x.a < x.b ∧ x.c < x.d) ∧ (∀ x ∈ l.map lkOf, x.a < x.b ∧ x.b ≤ n) ∧ ∀ x ∈ l.map lkOf, x.d ≤ m := by
  have key : ∀ x ∈ l.map lkOf, (x.a < x.b ∧ x.b ≤ n) ∧ (x.c < x.d ∧ x.d ≤ m) := fun x hx => by
    obtain ⟨z, hz, rfl⟩ := List.mem_map.1 hx
    have h := h z hz
    have := h.a0; have := h.ab; have := h.bn; have := h.c0; have := h.cd; have := h.dm
    unfold lkOf; dsimp only; omega
  exact ⟨fun x hx => ⟨(key x hx).1.1, (key x hx).2.1⟩, fun x hx => (key x hx).1, fun x hx => (key x hx).2.2⟩
theorem first_lt {n m : Nat} {l : List S45} (hn : 0 < n) (hm : 0 < m) (h : ∀ x ∈ l, LinkOk n m x) (hc : ∀ i, i < m → outB l i = true) : firstF (l.map lkOf) n < n := by
  obtain ⟨x, hx, _, _⟩ := outB_met (fun x hx => (h x hx).c0) hc 0 hm
  have hw := (lk_wf h).2.1 x hx
  unfold firstF
  have := List.findIdx_lt_length_of_exists (xs := List.range n) (p := linkedB (l.map lkOf)) ⟨x.a, List.mem_range.2 (by omega), by
    unfold linkedB
    rw [List.any_eq_true]
    exact ⟨x, hx, by simp; omega⟩⟩
  simpa using this
theorem labOk_linkF {n N : Nat} {r : Lab} (h : LabOk N r) (x : Lk) (h1 : x.a < x.b) (h2 : x.b ≤ n) (h3 : x.c < x.d) (h4 : n + x.d ≤ N) : LabOk N (linkF n r x) := by
  unfold linkF
  exact (labOk_allF (labOk_allF h _ _ (by omega)) _ _ (by omega)).merge _ _ (by omega) (by omega)
theorem labOk_links {n N : Nat} (l : List Lk) (hl : ∀ x ∈ l, x.a < x.b ∧ x.b ≤ n ∧ x.c < x.d ∧ n + x.d ≤ N) : ∀ r, LabOk N r → LabOk N (linksF n r l) := by
  induction l with
  | nil => intro r h; exact h
  | cons x l ih =>
    intro r h
    obtain ⟨h1, h2, h3, h4⟩ := hl x List.mem_cons_self
    exact ih (fun y hy => hl y (List.mem_cons_of_mem _ hy)) _ (labOk_linkF h x h1 h2 h3 h4)
theorem labOk_stray {n N : Nat} (l : List Lk) (hf : firstF l n < n) (hN : n ≤ N) (k : Nat) (hk : k ≤ n) : ∀ r, LabOk N r → LabOk N (strayF l n r k) := by
  induction k with
  | zero => intro r h; exact h
  | succ k ih =>
    intro r h
    have h := ih (by omega) r h
    show LabOk N (if linkedB l k then strayF l n r k else if firstF l n < k then merge (strayF l n r k) (k - 1) k else merge (strayF l n r k) k (k + 1))
    split
    · exact h
    · rename_i h0
      split
      · exact h.merge _ _ (by omega) (by omega)
      · refine h.merge _ _ (by omega) ?_
        rename_i h1
        have : k ≠ firstF l n := fun e => h0 (by rw [e]; exact first_linked l n hf)
        omega
set_option maxRecDepth 100000 in
set_option maxHeartbeats 2000000 in
theorem finest_bad {w : World} {v : Value} {l : List S45} (n m : Int) (h : SLk k45 w v l) (hl : l.length ≤ 1000000) (hb : wrongR n m l ≠ 0 ∨ n = 0) :
    Calls Try.prog 32 #[.int .i64 n, .int .i64 m, v] w fun e w' => e = .returned (.tuple #[.slice none 0 0, .int .i64 (wrongR n m l)]) ∧ Below w.heap.size w w' := by
  have H := Aside0.mk h
  obtain ⟨A, c, rfl, _, _⟩ := h
  obtain ⟨r, hr⟩ : ∃ r, r = wrongR n m l := ⟨_, rfl⟩
  rw [← hr] at hb ⊢
  have HR := Aside0.mk hr
  clear hr
  go_enter Try.func32, Try.ntmps32
  by_cases h0 : r = 0
  · subst h0
    obtain rfl : n = 0 := by rcases hb with h | h; exact absurd rfl h; exact h
    clear hb
    go_wp2_with (go_at_call 58; refine (may_c 0 m H.out hl).mono ?_; rintro e w1 ⟨rfl, hb1⟩; rw [← HR.out]; have HB1 := Aside0.mk hb1; clear hb1)
    refine bodyPost_ret (results_tmp2 rfl _ _ _) rfl ?_
    exact ⟨rfl, HB1.out⟩
  · clear hb
    go_wp2_with (go_at_call 58; refine (may_c n m H.out hl).mono ?_; rintro e w1 ⟨rfl, hb1⟩; rw [← HR.out]; have HB1 := Aside0.mk hb1; clear hb1)
    refine bodyPost_ret (results_tmp2 rfl _ _ _) rfl ?_
    exact ⟨rfl, HB1.out⟩
set_option maxRecDepth 100000 in
set_option maxHeartbeats 2000000 in
theorem finest_c {w : World} {v : Value} {l : List S45} (n m : Nat) (h : SLk k45 w v l) (hl : l.length ≤ 5000) (hn : 0 < n) (hm : 0 < m) (hnm : n + m ≤ 1000) (hw : wrongR n m l = 0) :
    Calls Try.prog 32 #[.int .i64 n, .int .i64 m, v] w fun e w' => ∃ (u : Value) (L : Lab), e = .returned (.tuple #[u, .int .i64 0]) ∧ FinOk n m (l.map lkOf) L ∧ Kd.R k45 45 w' w.heap.size (fun _ => True) u (cluS n m L n) ∧ Below w.heap.size w w' := by
  have H := Aside0.mk h
  obtain ⟨A, c, rfl, hcc, hC⟩ := h
  have HC := Aside0.mk hC
  have HW := Aside0.mk hw
  obtain ⟨hlk, hcov⟩ := wrong_ok hn hm hw
  have HLK := Aside0.mk hlk
  have HCOV := Aside0.mk hcov
  have HF := Aside0.mk (first_lt hn hm hlk hcov)
  obtain ⟨N, hN⟩ : ∃ N, N = n + m := ⟨_, rfl⟩
  have e0 : IntKind.i64.wrap ((n : Int) + (m : Int)) = (N : Int) := by rw [IntWalk.i64_in _ (by omega)]; omega
  have hn0 : ¬ (n : Int) = 0 := by omega
  have hNN : N ≤ 1000 := by omega
  have HNM := Aside0.mk hN
  clear hw hlk hcov hC hcc hnm hN
  go_enter Try.func32, Try.ntmps32
  go_wp2_with (first | (go_at_call 58; refine (may_c n m H.out (by omega)).mono ?_; rintro e w1 ⟨rfl, hb1⟩; rw [HW.out]; have HB1 := Aside0.mk hb1; clear hb1) | (go_at_call 59; refine (alone_c N (by omega)).mono ?_; rintro e w2 ⟨g, cap, p, rfl, a1, a2, a3⟩; have HV2 := Aside0.mk a1; have HP2 := Aside0.mk a2; have HGB := Aside0.mk (Nat.le_trans HB1.out.size a1.lt); have HB2 : Aside0 (Below w.heap.size w w2) := ⟨below_step HB1.out a3⟩; clear a1 a2 a3 HB1) | ((with_reducible refine gate_dst (N := 35) rfl ?_); refine box_event ?hg (N := 35) ?hd (cs := #[.slice (some ⟨g, 0, none⟩) N cap, .int .i64 n, .int .i64 m]) (t := 87) ?hr ?_; (case hd => rfl); (case hg => rfl); (case hr => first | (go_simp; done) | (go_simp; rfl)); intro B hg w3 hbox hb; have HW3 : Aside0 (WV w3 B g n m N cap) := ⟨hbox⟩; have HV3 := Aside0.mk (HV2.out.below hb); have HNE : Aside0 (B ≠ g) := ⟨by have := HV2.out.ltw; omega⟩; have HBB : Aside0 (w.heap.size ≤ B) := ⟨by rw [hg]; exact HB2.out.size⟩; have HB3 : Aside0 (Below w.heap.size w w3) := ⟨below_step HB2.out hb⟩; clear hg hbox hb HV2 HB2))
  obtain ⟨w2base, hwb⟩ : ∃ b, b = w1.heap.size := ⟨_, rfl⟩
  rw [← hwb] at HV3
  clear hwb
  go_loopw [38] (fun v wr => ∃ (k : Nat) (p : List Int), v = .int .i64 (k : Int) ∧ k ≤ l.length ∧ Aside0 (WV wr B g n m N cap) ∧ Aside0 (LI wr w2base g N cap p) ∧ Aside0 (PF N (linksF n idL ((l.take k).map lkOf)) p) ∧ Aside0 (Below w.heap.size w wr)) (fun v _ => l.length - (intOf v).toNat)
  case atStart => exact ⟨0, p, rfl, Nat.zero_le _, HW3, HV3, HP2, HB3⟩
  case round =>
    clear HW3 HV3 HP2 HB3
    obtain ⟨k, p, rfl, hk, HW, HV, HP, HB⟩ := hrel
    have HO : Aside0 (LabOk N (linksF n idL ((l.take k).map lkOf))) := ⟨labOk_links _ (fun x hx => by
      obtain ⟨z, hz, rfl⟩ := List.mem_map.1 hx
      have hz' := List.mem_of_mem_take hz
      have hk1 := (lk_wf HLK.out).2.1 _ (List.mem_map.2 ⟨z, hz', rfl⟩)
      have hk2 := (lk_wf HLK.out).1 _ (List.mem_map.2 ⟨z, hz', rfl⟩)
      have hk3 := (lk_wf HLK.out).2.2 _ (List.mem_map.2 ⟨z, hz', rfl⟩)
      have := HNM.out
      exact ⟨hk1.1, hk1.2, hk2.2, by omega⟩) _ (labOk_id N)⟩
    by_cases hlt : k < l.length
    · obtain ⟨ad, ead, c0, c1, c2, c3⟩ := at_T45 (Kd.C_below HC.out HB.out) (k : Int) (by omega) (by omega)
      rw [rd45 hlt, Int.toNat_natCast] at c0 c1 c2 c3
      have hx := HLK.out _ (List.getElem_mem hlt)
      obtain ⟨a, ha⟩ : ∃ a : Nat, l[k].f0.f0 = (a : Int) := ⟨l[k].f0.f0.toNat, by have := hx.a0; omega⟩
      obtain ⟨b, hb⟩ : ∃ b : Nat, l[k].f0.f1 = (b : Int) := ⟨l[k].f0.f1.toNat, by have := hx.a0; have := hx.ab; omega⟩
      obtain ⟨d, hd⟩ : ∃ d : Nat, l[k].f1.f0 = (d : Int) := ⟨l[k].f1.f0.toNat, by have := hx.c0; omega⟩
      obtain ⟨e, he⟩ : ∃ e : Nat, l[k].f1.f1 = (e : Int) := ⟨l[k].f1.f1.toNat, by have := hx.c0; have := hx.cd; omega⟩
      have k1 := hx.ab; have k2 := hx.bn; have k3 := hx.cd; have k4 := hx.dm
      rw [ha] at c0 k1; rw [hb] at c1 k1 k2; rw [hd] at c2 k3; rw [he] at c3 k3 k4
      have HLE : Aside0 (linksF n idL ((l.take (k + 1)).map lkOf) = linkF n (linksF n idL ((l.take k).map lkOf)) ⟨a, b, d, e⟩) := ⟨by
        rw [List.take_succ_eq_append_getElem hlt, List.map_append]
        unfold linksF
        rw [List.foldl_append]
        have : lkOf l[k] = ⟨a, b, d, e⟩ := by unfold lkOf; rw [ha, hb, hd, he]; rfl
        simp [this]⟩
      have hkI : (k : Int) < (l.length : Int) := by omega
      have q1 : a < b := by omega
      have q2 : b ≤ n := by omega
      have q3 : d < e := by omega
      have q4 : e ≤ m := by omega
      subst ead
      clear hx ha hb hd he k1 k2 k3 k4
      go_upto_region 8 with (first | ((with_reducible refine gate_dst (N := 11) rfl ?_); refine box_event ?hg (N := 11) ?hd (cs := #[.int .i64 0, .int .i64 0, .int .i64 0, .int .i64 0]) (t := 45) ?hr ?_; (case hd => rfl); (case hg => rfl); (case hr => first | (go_simp; done) | (go_simp; rfl)); intro gb hg w6 hbox hb; have HX6 := Aside0.mk hbox; have HGE : Aside0 (w.heap.size ≤ gb) := ⟨by rw [hg]; exact HB.out.size⟩; have HN1 : Aside0 (g ≠ gb) := ⟨by have := HV.out.ltw; omega⟩; have HN2 : Aside0 (B ≠ gb) := ⟨by have := blk_lt HW.out; omega⟩; have HB6 : Aside0 (Below w.heap.size w w6) := ⟨below_step HB.out hb⟩; have HV6 : Aside0 (LI w6 w2base g N cap p) := ⟨HV.out.below hb⟩; have HW6 : Aside0 (WV w6 B g n m N cap) := ⟨HW.out.below hb⟩; have z0 : w6.cell? ⟨gb, 0, none⟩ = some (.int .i64 0) := (blk_cell hbox 0).trans rfl; have z1 : w6.cell? ⟨gb, 1, none⟩ = some (.int .i64 0) := (blk_cell hbox 1).trans rfl; have z2 : w6.cell? ⟨gb, 2, none⟩ = some (.int .i64 0) := (blk_cell hbox 2).trans rfl; have z3 : w6.cell? ⟨gb, 3, none⟩ = some (.int .i64 0) := (blk_cell hbox 3).trans rfl; have f0 := blk_frozen hbox 0; have f1 := blk_frozen hbox 1; have f2 := blk_frozen hbox 2; have f3 := blk_frozen hbox 3; clear hg hbox hb HB HV HW))
      have HX := Aside0.mk (blk_put (blk_put (blk_put (blk_put HX6.out 0 (.int .i64 a) rfl) 1 (.int .i64 b) rfl) 2 (.int .i64 d) rfl) 3 (.int .i64 e) rfl)
      have HG7 := Aside0.mk (World.grownBy.trans (World.grownBy.trans (World.grownBy.trans (grown_set w6 gb 0 (.int .i64 a)) (grown_set _ gb 1 (.int .i64 b))) (grown_set _ gb 2 (.int .i64 d))) (grown_set _ gb 3 (.int .i64 e)))
      generalize (((w6.setCell ⟨gb, 0, none⟩ (.int .i64 a)).setCell ⟨gb, 1, none⟩ (.int .i64 b)).setCell ⟨gb, 2, none⟩ (.int .i64 d)).setCell ⟨gb, 3, none⟩ (.int .i64 e) = w7 at HX HG7 ⊢
      have HV7 : Aside0 (LI w7 w2base g N cap p) := ⟨HV6.out.grown HG7.out HN1.out⟩
      have HW7 : Aside0 (WV w7 B g n m N cap) := ⟨HW6.out.grown HG7.out HN2.out⟩
      have HB7 : Aside0 (Below w.heap.size w w7) := ⟨HB6.out.grown HG7.out HB6.out.size (fun j hj => by obtain rfl := Option.some.inj hj; exact HGE.out)⟩
      have q0' := (blk_cell HX.out 0).trans rfl
      have q1' := (blk_cell HX.out 1).trans rfl
      have q2' := (blk_cell HX.out 2).trans rfl
      have q3' := (blk_cell HX.out 3).trans rfl
      clear z0 z1 z2 z3 f0 f1 f2 f3 HX6 HB6 HV6 HW6 c0 c1 c2 c3
      go_wp2_with (first | (go_at_call 60; refine (link_c HW7.out HV7.out HNE.out HP.out HO.out (by omega) ⟨a, b, d, e⟩ q1 q2 q3 q4 HNM.out.symm).mono ?_; rintro e8 w8 ⟨rfl, p8, a1, a2, a3⟩; have HV8 := Aside0.mk a1; have HP8 := Aside0.mk a2; have HG8 := Aside0.mk a3; clear a1 a2 a3))
      exact ⟨⟨k + 1, p8, by go_num, by omega, ⟨HW7.out.grown HG8.out HNE.out⟩, HV8, ⟨by rw [HLE.out]; exact HP8.out⟩, ⟨HB7.out.grown HG8.out HB7.out.size (fun j hj => by obtain rfl := Option.some.inj hj; exact HGB.out)⟩⟩, by simp [intOf]; omega⟩
    · have ek : k = l.length := by omega
      subst ek
      rw [List.take_length] at HP HO
      obtain ⟨r0, hr0⟩ : ∃ r0, r0 = strayF (l.map lkOf) n (linksF n idL (l.map lkOf)) n := ⟨_, rfl⟩
      have HO5 : Aside0 (LabOk N r0) := ⟨by rw [hr0]; exact labOk_stray _ HF.out (by have := HNM.out; omega) n (Nat.le_refl _) _ HO.out⟩
      have HR0 := Aside0.mk hr0
      clear hr0 hlt
      have HCW : Aside0 (Kd.C k45 wr A l.length l) := ⟨Kd.C_below HC.out HB.out⟩
      have e5 : IntKind.i64.wrap ((n : Int) + (m : Int)) = (N : Int) := e0
      go_wp2_with (first | (go_at_call 61; refine (stray_c HW.out HV.out HNE.out HP.out HO.out (by omega) HNM.out.symm hm HCW.out hl HLK.out HF.out).mono ?_; rintro e8 w5 ⟨rfl, p5, a1, a2, a3⟩; rw [← HR0.out] at a2; have HV5 := Aside0.mk a1; have HP5 := Aside0.mk a2; have HW5 := Aside0.mk (HW.out.grown a3 HNE.out); have HB5 : Aside0 (Below w.heap.size w w5) := ⟨HB.out.grown a3 HB.out.size (fun j hj => by obtain rfl := Option.some.inj hj; exact HGB.out)⟩; clear a1 a2 a3 HV HP HW HB HCW HO) | ((with_reducible refine gate_dst (N := 12) rfl ?_); refine box_event ?hg (N := 12) ?hd (cs := #[.int .i64 0, .int .i64 0]) (t := 33) ?hr ?_; (case hd => rfl); (case hg => rfl); (case hr => first | (go_simp; done) | (go_simp; rfl)); intro gi hgi w6 hbox hb; have HI6 := Aside0.mk hbox; have HV6 := Aside0.mk (HV5.out.below hb); have HW6 := Aside0.mk (HW5.out.below hb); have HB6 : Aside0 (Below w.heap.size w w6) := ⟨below_step HB5.out hb⟩; have HGI : Aside0 (g ≠ gi ∧ B ≠ gi ∧ w.heap.size ≤ gi) := ⟨by have := HV5.out.ltw; omega, by have := blk_lt HW5.out; omega, by rw [hgi]; exact HB5.out.size⟩; clear hgi hbox hb HV5 HW5 HB5) | ((with_reducible refine gate_dst (N := 13) rfl ?_); refine box_event ?hg (N := 13) ?hd (cs := #[.int .i64 0, .int .i64 0]) (t := 33) ?hr ?_; (case hd => rfl); (case hg => rfl); (case hr => first | (go_simp; done) | (go_simp; rfl)); intro go hgo w7 hbox hb; have HO7 := Aside0.mk hbox; have HI7 : Aside0 (w7.heap[gi]? = some (.cells #[.int .i64 0, .int .i64 0] 33 (0, 0))) := ⟨(hb.block _ (blk_lt HI6.out)).trans HI6.out⟩; have HV7 := Aside0.mk (HV6.out.below hb); have HW7 := Aside0.mk (HW6.out.below hb); have HB7 : Aside0 (Below w.heap.size w w7) := ⟨below_step HB6.out hb⟩; have HGO : Aside0 (g ≠ go ∧ B ≠ go ∧ w.heap.size ≤ go ∧ gi ≠ go) := ⟨by have := HV6.out.ltw; omega, by have := blk_lt HW6.out; omega, by rw [hgo]; exact HB6.out.size, by have := blk_lt HI6.out; omega⟩; have z0 := (blk_cell HI7.out 0).trans rfl; have z1 := (blk_cell HI7.out 1).trans rfl; have f0 := blk_frozen HI7.out 0; have f1 := blk_frozen HI7.out 1; have y0 := (blk_cell hbox 0).trans rfl; have y1 := (blk_cell hbox 1).trans rfl; have g0 := blk_frozen hbox 0; have g1 := blk_frozen hbox 1; have hgio : ¬ gi = go := HGO.out.2.2.2; have hgoi : ¬ go = gi := fun e => hgio e.symm; clear hgo hbox hb HV6 HW6 HB6 HI6))
      have hI8 := blk_put (blk_put HI7.out 0 (.int .i64 0) rfl) 1 (.int .i64 n) rfl
      have hG78 := World.grownBy.trans (grown_set w7 gi 0 (.int .i64 0)) (grown_set _ gi 1 (.int .i64 n))
      have hO8 := (hG78.block go (blk_lt HO7.out) (fun e => hgoi (Option.some.inj e))).trans HO7.out
      have hV8 := HV7.out.grown hG78 HGI.out.1
      have hW8 := HW7.out.grown hG78 HGI.out.2.1
      have hB8 : Below w.heap.size w _ := HB7.out.grown hG78 HB7.out.size (fun j hj => by obtain rfl := Option.some.inj hj; exact HGI.out.2.2)
      generalize (w7.setCell ⟨gi, 0, none⟩ (.int .i64 0)).setCell ⟨gi, 1, none⟩ (.int .i64 n) = w8 at hI8 hO8 hV8 hW8 hB8 ⊢
      have hO9 := blk_put (blk_put hO8 0 (.int .i64 n) rfl) 1 (.int .i64 N) rfl
      have hG89 := World.grownBy.trans (grown_set w8 go 0 (.int .i64 n)) (grown_set _ go 1 (.int .i64 N))
      have HO9 := Aside0.mk hO9
      have HI9 := Aside0.mk ((hG89.block gi (blk_lt hI8) (fun e => hgio (Option.some.inj e))).trans hI8)
      have HV9 := Aside0.mk (hV8.grown hG89 HGO.out.1)
      have HW9 := Aside0.mk (hW8.grown hG89 HGO.out.2.1)
      have HB9 : Aside0 (Below w.heap.size w _) := ⟨hB8.grown hG89 hB8.size (fun j hj => by obtain rfl := Option.some.inj hj; exact HGO.out.2.2.1)⟩
      clear hI8 hG78 hO8 hV8 hW8 hB8 hO9 hG89 z0 z1 f0 f1 y0 y1 g0 g1 HO7 HI7 HV7 HW7 HB7
      generalize (w8.setCell ⟨go, 0, none⟩ (.int .i64 n)).setCell ⟨go, 1, none⟩ (.int .i64 N) = w9 at HO9 HI9 HV9 HW9 HB9 ⊢
      go_loopg [14] (sumL r0 N + 1) (fun kq v14 wr => ∃ (r : Lab) (p : List Int) (b : Bool), v14 = .bool b ∧ Aside0 ((if b then sumL r N + 1 else 0) ≤ kq) ∧ Aside0 (if b then endF n m r = endF n m r0 else r = endF n m r0) ∧ Aside0 (wr.heap[gi]? = some (.cells #[.int .i64 0, .int .i64 n] 33 (0, 0))) ∧ Aside0 (wr.heap[go]? = some (.cells #[.int .i64 n, .int .i64 N] 33 (0, 0))) ∧ Aside0 (LI wr w2base g N cap p) ∧ Aside0 (WV wr B g n m N cap) ∧ Aside0 (PF N r p) ∧ Aside0 (LabOk N r) ∧ Aside0 (Below w.heap.size w wr))
      case atStart => exact ⟨r0, p5, true, rfl, ⟨Nat.le_refl _⟩, ⟨rfl⟩, HI9, HO9, HV9, HW9, HP5, HO5, HB9⟩
      case round =>
        clear HI9 HO9 HV9 HW9 HP5 HO5 HB9
        obtain ⟨r, p, b, rfl, HK, HE, HI, HO, HV, HW, HP, HL, HB⟩ := hrel
        cases b with
        | false =>
          have her : r = finL n m (l.map lkOf) := by rw [show r = endF n m r0 from HE.out, HR0.out]; rfl
          have hcl : Closed n m (l.map lkOf) (fun x y => r x = r y) := by rw [her]; exact finL_closed hn hm (lk_wf HLK.out).1 HF.out
          have hfo : FinOk n m (l.map lkOf) r := ⟨fun R hR => by rw [her]; exact finL_sound hR (lk_wf HLK.out).1 HF.out, hcl⟩
          have HFO := Aside0.mk hfo
          have HBT : Aside0 (Between (fun x y => r x = r y) 0 n) := ⟨fun i j k _ h1 h2 h3 h4 => hcl.conv1 i j k h1 h2 h3 h4⟩
          have HOT : Aside0 (∀ j, j < n → ∃ i, i < m ∧ r (n + i) = r j) := ⟨fun j hj => outs_met hcl (lk_wf HLK.out).1 (lk_wf HLK.out).2.2 HF.out j hj⟩
          have HIN : Aside0 (∀ i, i < m → ∃ j, j < n ∧ r j = r (n + i)) := ⟨fun i hi => ins_met hcl (lk_wf HLK.out).2.1 (outB_met (fun x hx => (HLK.out x hx).c0) HCOV.out) i hi⟩
          clear her hcl hfo HE HK
          go_wp2_with (first | (go_at_call 63; refine (clusters_c HW.out HV.out HNE.out HP.out HL.out hNN HNM.out.symm hn HBT.out HOT.out HIN.out).mono ?_; rintro e8 wf ⟨u, rfl, a1, a2⟩; have HRF := Aside0.mk a1; have HGF := Aside0.mk a2; clear a1 a2))
          refine bodyPost_ret (results_tmp2 rfl _ _ _) rfl ?_
          exact ⟨u, r, rfl, HFO.out, Kd.R_lower HRF.out HB.out.size, HB.out.grown HGF.out HB.out.size (fun j hj => by obtain rfl := Option.some.inj hj; exact HGB.out)⟩
        | true =>
          have hk : sumL r N + 1 ≤ gk := HK.out
          have hend : endF n m r = endF n m r0 := HE.out
          have HK := Aside0.mk hk
          have HEN := Aside0.mk hend
          have HST := Aside0.mk (endF_step n m hn hm r)
          have HSM := Aside0.mk (roundF_sum n m hn hm r)
          rw [← HNM.out] at HSM
          obtain ⟨q1, hq1⟩ : ∃ q, q = closeF r 0 n := ⟨_, rfl⟩
          obtain ⟨q2, hq2⟩ : ∃ q, q = closeF q1.1 n N := ⟨_, rfl⟩
          have HRF : Aside0 (roundF n m r = (q2.1, q1.2 || q2.2)) := ⟨by unfold roundF; rw [hq2, hq1, HNM.out]⟩
          have HQ1 := Aside0.mk hq1
          have HQ2 := Aside0.mk hq2
          have HL1 : Aside0 (LabOk N q1.1) := ⟨by rw [hq1]; exact labOk_closeF 0 n hn (by have := HNM.out; omega) HL.out⟩
          have HL2 : Aside0 (LabOk N q2.1) := ⟨by rw [hq2]; exact labOk_closeF n N (by have := HNM.out; omega) (Nat.le_refl _) HL1.out⟩
          have hnN : n < N := by have := HNM.out; omega
          have HNN := Aside0.mk hnN
          clear hk hend hq1 hq2
          go_wp2_with fail
          refine start_ (n := 8) (S := (fun W => W.heap[gi]? = some (.cells #[.int .i64 0, .int .i64 n] 33 (0, 0)) ∧ W.heap[go]? = some (.cells #[.int .i64 n, .int .i64 N] 33 (0, 0)))) (ds := [5]) #[false, false, false, false, false, false, false, false] (by kernel_rfl) (by kernel_rfl) (by rfl) ⟨HI.out, HO.out⟩ (fun hS0 => ?_)
          refine pure_ (i := 0) (N := (some 57)) (v := ?_) (a' := ?_) #[true, false, false, false, false, false, false, false] rfl rfl (by kernel_rfl) (fun _ _ _ h => h) (Or.inl ⟨by rfl, ?_⟩) ?_ ?_
          rotate_left
          · intro w'
            go_simp
            with_reducible rfl
          rotate_left
          · simp only [Act.put, List.setIfInBounds_toArray, List.set_cons_zero, List.set_cons_succ]
            rfl
          refine take_ (i := 1) (N := (some 58)) (v := ?_) (a' := ?_) #[true, true, false, false, false, false, false, false] rfl rfl (by kernel_rfl) (fun _ _ _ h => h) (Or.inl ⟨by rfl, ?_⟩) hS0 ?_ ?_
          rotate_left
          · intro w' s0
            have q0 := (blk_cell s0.1 0).trans rfl
            have q1 := (blk_cell s0.1 1).trans rfl
            go_simp
            with_reducible rfl
          rotate_left
          · simp only [Act.put, List.setIfInBounds_toArray, List.set_cons_zero, List.set_cons_succ]
            rfl
          refine pure_ (i := 3) (N := (some 60)) (v := ?_) (a' := ?_) #[true, true, false, true, false, false, false, false] rfl rfl (by kernel_rfl) (fun _ _ _ h => h) (Or.inl ⟨by rfl, ?_⟩) ?_ ?_
          rotate_left
          · intro w'
            go_simp
            with_reducible rfl
          rotate_left
          · simp only [Act.put, List.setIfInBounds_toArray, List.set_cons_zero, List.set_cons_succ]
            rfl
          refine take_ (i := 4) (N := (some 61)) (v := ?_) (a' := ?_) #[true, true, false, true, true, false, false, false] rfl rfl (by kernel_rfl) (fun _ _ _ h => h) (Or.inl ⟨by rfl, ?_⟩) hS0 ?_ ?_
          rotate_left
          · intro w' s0
            have q0 := (blk_cell s0.2 0).trans rfl
            have q1 := (blk_cell s0.2 1).trans rfl
            go_simp
            with_reducible rfl
          rotate_left
          · simp only [Act.put, List.setIfInBounds_toArray, List.set_cons_zero, List.set_cons_succ]
            rfl
          clear hS0
          refine one_ (i := 2) (N := (some 59)) #[true, true, true, true, true, false, false, false] rfl rfl (by kernel_rfl) (by decide) (fun K hK => ?_)
          refine goes_ Try.func62 (by kernel_rfl) rfl #[.pointer (some ⟨B, 0, none⟩), .agg #[.int .i64 ((0 : Nat) : Int), .int .i64 n]] (by rfl) rfl rfl (by go_simp; done) ?_
          refine (close_c (w := wr.drew) HW.out (Kd.R_drew HV.out) HNE.out HP.out HL.out (by omega) 0 n hn (by omega)).mono ?_
          rintro e8 wa ⟨rfl, pa, a1, a2, a3⟩
          refine ⟨_, rfl, ?_⟩
          rw [← HQ1.out] at a2 ⊢
          have HVa := Aside0.mk a1
          have HPa := Aside0.mk a2
          have HGa : Aside0 (wr.grownBy wa (some g)) := ⟨World.grownBy.trans (below_grownBy (below_drew (Below.refl _ _)) _) a3⟩
          clear a1 a2 a3
          obtain ⟨b1, hb1⟩ : ∃ b, q1.2 = b := ⟨_, rfl⟩
          have HB1 := Aside0.mk hb1
          rw [hb1]
          clear hb1
          have hIa := (HGa.out.block gi (blk_lt HI.out) (fun e => HGI.out.1 (Option.some.inj e).symm)).trans HI.out
          have hOa := (HGa.out.block go (blk_lt HO.out) (fun e => HGO.out.1 (Option.some.inj e).symm)).trans HO.out
          have HIa := Aside0.mk hIa
          have HOa := Aside0.mk hOa
          clear hIa hOa
          change K (Act.put _ (some 59) _) _
          refine hK.out _ _ ⟨HIa.out, HOa.out⟩ (fun hS0 => ?_)
          clear hK
          refine norm_ (a' := ?_) ?_ ?_
          rotate_left
          · simp only [Act.put, List.setIfInBounds_toArray, List.set_cons_zero, List.set_cons_succ]
            rfl
          clear hS0
          refine last_ (i := 5) (N := (some 62)) #[true, true, true, true, true, true, false, false] rfl rfl (by kernel_rfl) (by decide) (fun K hK => ?_)
          refine goes_ Try.func62 (by kernel_rfl) rfl #[.pointer (some ⟨B, 0, none⟩), .agg #[.int .i64 n, .int .i64 N]] (by rfl) rfl rfl (by go_simp; done) ?_
          refine (close_c (HW.out.grown HGa.out HNE.out) HVa.out HNE.out HPa.out HL1.out (by omega) n N hnN (Nat.le_refl _)).mono ?_
          rintro e8 wb ⟨rfl, pb, a1, a2, a3⟩
          refine ⟨_, rfl, ?_⟩
          rw [← HQ2.out] at a2 ⊢
          have HVb := Aside0.mk a1
          have HPb := Aside0.mk a2
          have HGb : Aside0 (wr.grownBy wb (some g)) := ⟨World.grownBy.trans HGa.out a3⟩
          clear a1 a2 a3
          obtain ⟨b2, hb2⟩ : ∃ b, q2.2 = b := ⟨_, rfl⟩
          have HB2 := Aside0.mk hb2
          rw [hb2]
          clear hb2
          change K (Act.put _ (some 62) _) _
          refine hK.out _ _ ?_
          clear hK
          refine norm_ (a' := ?_) ?_ ?_
          rotate_left
          · simp only [Act.put, List.setIfInBounds_toArray, List.set_cons_zero, List.set_cons_succ]
            rfl
          refine pure_ (i := 6) (N := (some 15)) (v := ?_) (a' := ?_) #[true, true, true, true, true, true, true, false] rfl rfl (by kernel_rfl) (fun _ _ _ h => h) (Or.inl ⟨by rfl, ?_⟩) ?_ ?_
          rotate_left
          · intro w'
            go_simp
            with_reducible rfl
          rotate_left
          · simp only [Act.put, List.setIfInBounds_toArray, List.set_cons_zero, List.set_cons_succ]
            rfl
          refine pure_ (i := 7) (N := (some 16)) (v := ?_) (a' := ?_) #[true, true, true, true, true, true, true, true] rfl rfl (by kernel_rfl) (fun _ _ _ h => h) (Or.inl ⟨by rfl, ?_⟩) ?_ ?_
          rotate_left
          · intro w'
            go_simp
            with_reducible rfl
          rotate_left
          · simp only [Act.put, List.setIfInBounds_toArray, List.set_cons_zero, List.set_cons_succ]
            rfl
          refine done_ (by kernel_rfl) ?_
          have HRB : Aside0 (roundF n m r = (q2.1, b1 || b2)) := ⟨by rw [HRF.out, HB1.out, HB2.out]⟩
          cases b1 with
          | true =>
            go_wp2_with fail
            have hsm := HSM.out.2 (by rw [HRB.out]; rfl)
            rw [HRB.out] at hsm
            have hst := HST.out
            rw [HRB.out] at hst
            have hst2 : endF n m r = endF n m q2.1 := hst
            dsimp only at hsm
            have HHK : Aside0 ((if true then sumL q2.1 N + 1 else 0) ≤ sumL q2.1 N + 1) := ⟨Nat.le_refl _⟩
            have HHE : Aside0 (if true then endF n m q2.1 = endF n m r0 else q2.1 = endF n m r0) := ⟨hst2.symm.trans HEN.out⟩
            have hkk : sumL r N + 1 ≤ gk := by have := HK.out; simpa using this
            clear hst hst2
            go_roundg (sumL q2.1 N + 1)
            case measure => omega
            case rel => exact ⟨q2.1, pb, true, rfl, HHK, HHE, ⟨(HGb.out.block gi (blk_lt HI.out) (fun e => HGI.out.1 (Option.some.inj e).symm)).trans HI.out⟩, ⟨(HGb.out.block go (blk_lt HO.out) (fun e => HGO.out.1 (Option.some.inj e).symm)).trans HO.out⟩, HVb, ⟨HW.out.grown HGb.out HNE.out⟩, HPb, HL2, ⟨HB.out.grown HGb.out HB.out.size (fun j hj => by obtain rfl := Option.some.inj hj; exact HGB.out)⟩⟩
          | false =>
            cases b2 with
            | true =>
              go_wp2_with fail
              have hsm := HSM.out.2 (by rw [HRB.out]; rfl)
              rw [HRB.out] at hsm
              have hst := HST.out
              rw [HRB.out] at hst
              have hst2 : endF n m r = endF n m q2.1 := hst
              dsimp only at hsm
              have HHK : Aside0 ((if true then sumL q2.1 N + 1 else 0) ≤ sumL q2.1 N + 1) := ⟨Nat.le_refl _⟩
              have HHE : Aside0 (if true then endF n m q2.1 = endF n m r0 else q2.1 = endF n m r0) := ⟨hst2.symm.trans HEN.out⟩
              have hkk : sumL r N + 1 ≤ gk := by have := HK.out; simpa using this
              clear hst hst2
              go_roundg (sumL q2.1 N + 1)
              case measure => omega
              case rel => exact ⟨q2.1, pb, true, rfl, HHK, HHE, ⟨(HGb.out.block gi (blk_lt HI.out) (fun e => HGI.out.1 (Option.some.inj e).symm)).trans HI.out⟩, ⟨(HGb.out.block go (blk_lt HO.out) (fun e => HGO.out.1 (Option.some.inj e).symm)).trans HO.out⟩, HVb, ⟨HW.out.grown HGb.out HNE.out⟩, HPb, HL2, ⟨HB.out.grown HGb.out HB.out.size (fun j hj => by obtain rfl := Option.some.inj hj; exact HGB.out)⟩⟩
            | false =>
              go_wp2_with fail
              have hst := HST.out
              rw [HRB.out] at hst
              have hst2 : endF n m r = q2.1 := hst
              have HHK : Aside0 ((if false then sumL q2.1 N + 1 else 0) ≤ 0) := ⟨Nat.le_refl _⟩
              have HHE : Aside0 (if false then endF n m q2.1 = endF n m r0 else q2.1 = endF n m r0) := ⟨hst2.symm.trans HEN.out⟩
              have hkk : sumL r N + 1 ≤ gk := by have := HK.out; simpa using this
              clear hst hst2
              go_roundg 0
              case measure => omega
              case rel => exact ⟨q2.1, pb, false, rfl, HHK, HHE, ⟨(HGb.out.block gi (blk_lt HI.out) (fun e => HGI.out.1 (Option.some.inj e).symm)).trans HI.out⟩, ⟨(HGb.out.block go (blk_lt HO.out) (fun e => HGO.out.1 (Option.some.inj e).symm)).trans HO.out⟩, HVb, ⟨HW.out.grown HGb.out HNE.out⟩, HPb, HL2, ⟨HB.out.grown HGb.out HB.out.size (fun j hj => by obtain rfl := Option.some.inj hj; exact HGB.out)⟩⟩
end Go.Proofs.Ytohhobcipfmkbaa.CFin
