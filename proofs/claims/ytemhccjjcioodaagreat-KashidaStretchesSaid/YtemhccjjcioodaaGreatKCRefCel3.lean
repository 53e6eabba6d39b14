/- Cut. -/
import Derived.Test.YtemhccjjcioodaaGreatKCFin12
import Derived.Test.YtemhccjjcioodaaGreatKAl
set_option linter.unusedSimpArgs false
set_option linter.unusedVariables false
set_option maxRecDepth 100000
set_option maxHeartbeats 16000000
namespace Go.Proofs.YtemhccjjcioodaaGreat
open Go.RowKit YtemhccjjcioodaaGreatW.PrintLast YtemhccjjcioodaaGreatW.PrintMore YtemhccjjcioodaaGreatW.PrintWords
section
namespace CFin
open Go.Maps U PClusterFinest UFinest UFinEv
theorem wrong_ok {n m : Nat} {l : List S45} (hn : 0 < n) (hm : 0 < m) (hw : wrongR n m l = 0) : (∀ x ∈ l, LinkOk n m x) ∧ ∀ i, i < m → outB l i = true := by
 unfold wrongR at hw
 split at hw
 ·cases hw
 ·split at hw
  ·rename_i h1 h2
   refine ⟨fun x hx => ?_, ?_⟩
   ·have := List.all_eq_true.1 h2 x hx
    unfold okB fitB at this
    simp only [Bool.and_eq_true, decide_eq_true_eq] at this
    exact ⟨this.1.1.1, this.1.1.2, this.1.2, this.2.1.1, this.2.1.2, this.2.2⟩
   ·unfold wrongIn at hw
    rw [if_neg (by omega), if_neg (by omega), qtN] at hw
    split at hw
    ·rename_i h3
     intro i hi
     exact List.all_eq_true.1 h3 i (List.mem_range.2 hi)
    ·cases hw
  ·cases hw
theorem outB_met {m : Nat} {l : List S45} (hl : ∀ x ∈ l, 0 ≤ x.f1.f0) (hc : ∀ i, i < m → outB l i = true) (i : Nat) (hi : i < m) : ∃ x ∈ l.map lkOf, x.c ≤ i ∧ i < x.d := by
 have := hc i hi
 unfold outB at this
 obtain ⟨x, hx, h⟩ := List.any_eq_true.1 this
 simp only [Bool.and_eq_true, decide_eq_true_eq] at h
 have := hl x hx
 exact ⟨lkOf x, List.mem_map.2 ⟨x, hx, rfl⟩, by unfold lkOf; dsimp only; omega, by unfold lkOf; dsimp only; omega⟩
theorem lk_wf {n m : Nat} {l : List S45} (h : ∀ x ∈ l, LinkOk n m x) : (∀ x ∈ l.map lkOf, x.a < x.b ∧ x.c < x.d) ∧ (∀ x ∈ l.map lkOf, x.a < x.b ∧ x.b ≤ n) ∧ ∀ x ∈ l.map lkOf, x.d ≤ m := by
 have key : ∀ x ∈ l.map lkOf, (x.a < x.b ∧ x.b ≤ n) ∧ (x.c < x.d ∧ x.d ≤ m) := fun x hx => by
  obtain ⟨z, hz, rfl⟩ := List.mem_map.1 hx
  have h := h z hz
  have := h.a0; have := h.ab; have := h.bn; have := h.c0; have := h.cd; have := h.dm
  unfold lkOf; dsimp only; omega
 exact ⟨fun x hx => ⟨(key x hx).1.1, (key x hx).2.1⟩, fun x hx => (key x hx).1, fun x hx => (key x hx).2.2⟩
theorem first_lt {n m : Nat} {l : List S45} (hn : 0 < n) (hm : 0 < m) (h : ∀ x ∈ l, LinkOk n m x) (hc : ∀ i, i < m → outB l i = true) : firstF (l.map lkOf) n < n := by
 obtain ⟨x, hx, _, _⟩ := outB_met (fun x hx => (h x hx).c0) hc 0 hm
 have hw := (lk_wf h).2.1 x hx
 unfold firstF
 have := List.findIdx_lt_length_of_exists (xs := List.range n) (p := linkedB (l.map lkOf)) ⟨x.a, List.mem_range.2 (by omega), by
  unfold linkedB
  rw [List.any_eq_true]
  exact ⟨x, hx, by simp; omega⟩⟩
 simpa using this
theorem labOk_linkF {n N : Nat} {r : Lab} (h : LabOk N r) (x : Lk) (h1 : x.a < x.b) (h2 : x.b ≤ n) (h3 : x.c < x.d) (h4 : n + x.d ≤ N) : LabOk N (linkF n r x) := by
 unfold linkF
 exact (labOk_allF (labOk_allF h _ _ (by omega)) _ _ (by omega)).merge _ _ (by omega) (by omega)
theorem labOk_links {n N : Nat} (l : List Lk) (hl : ∀ x ∈ l, x.a < x.b ∧ x.b ≤ n ∧ x.c < x.d ∧ n + x.d ≤ N) : ∀ r, LabOk N r → LabOk N (linksF n r l) := by
 induction l with
 | nil => intro r h; exact h
 | cons x l ih =>
  intro r h
  obtain ⟨h1, h2, h3, h4⟩ := hl x List.mem_cons_self
  exact ih (fun y hy => hl y (List.mem_cons_of_mem _ hy)) _ (labOk_linkF h x h1 h2 h3 h4)
theorem labOk_stray {n N : Nat} (l : List Lk) (hf : firstF l n < n) (hN : n ≤ N) (k : Nat) (hk : k ≤ n) : ∀ r, LabOk N r → LabOk N (strayF l n r k) := by
 induction k with
 | zero => intro r h; exact h
 | succ k ih =>
  intro r h
  have h := ih (by omega) r h
  show LabOk N (if linkedB l k then strayF l n r k else if firstF l n < k then merge (strayF l n r k) (k - 1) k else merge (strayF l n r k) k (k + 1))
  split
  ·exact h
  ·rename_i h0
   split
   ·exact h.merge _ _ (by omega) (by omega)
   ·refine h.merge _ _ (by omega) ?_
    rename_i h1
    have : k ≠ firstF l n := fun e => h0 (by rw [e]; exact first_linked l n hf)
    omega
theorem finest_bad {w : World} {v : Value} {l : List S45} (n m : Int) (h : SLk k45 w v l) (hl : l.length ≤ 1000000) (hb : wrongR n m l ≠ 0 ∨ n = 0) :
 Calls Tryz.prog 120 #[.int .i64 n, .int .i64 m, v] w fun e w' => e = .returned (.tuple #[.slice none 0 0, .int .i64 (wrongR n m l)]) ∧ Below w.heap.size w w' := by
 have H := aMk h
 obtain ⟨A, c, rfl, _, _⟩ := h
 obtain ⟨r, hr⟩ : ∃ r, r = wrongR n m l := ⟨_, rfl⟩
 rw [← hr] at hb ⊢
 have HR := aMk hr; clear hr
 go_enter Tryz.func120, Tryz.ntmps120
 by_cases h0 : r = 0
 ·subst h0
  obtain rfl : n = 0 := by rcases hb with h | h; exact absurd rfl h; exact h
  clear hb
  go_wp2_with (go_at_call 188; refine (may_c 0 m H.out hl).mono ?_; rintro e w1 ⟨rfl, hb1⟩; rw [← HR.out]; have HB1 := aMk hb1; clear hb1)
  refine bodyPost_ret (results_tmp2 rfl _ _ _) rfl ?_
  exact ⟨rfl, HB1.out⟩
 ·clear hb
  go_wp2_with (go_at_call 188; refine (may_c n m H.out hl).mono ?_; rintro e w1 ⟨rfl, hb1⟩; rw [← HR.out]; have HB1 := aMk hb1; clear hb1)
  refine bodyPost_ret (results_tmp2 rfl _ _ _) rfl ?_
  exact ⟨rfl, HB1.out⟩
theorem finest_c {w : World} {v : Value} {l : List S45} (n m : Nat) (h : SLk k45 w v l) (hl : l.length ≤ 5000) (hn : 0 < n) (hm : 0 < m) (hnm : n + m ≤ 1000) (hw : wrongR n m l = 0) :
 Calls Tryz.prog 120 #[.int .i64 n, .int .i64 m, v] w fun e w' => ∃ (u : Value) (L : Lab), e = .returned (.tuple #[u, .int .i64 0]) ∧ FinOk n m (l.map lkOf) L ∧ Kd.R k45 36 w' w.heap.size (fun _ => True) u (cluS n m L n) ∧ Below w.heap.size w w' := by
 have H := aMk h
 obtain ⟨A, c, rfl, hcc, hC⟩ := h
 have HC := aMk hC
 have HW := aMk hw
 obtain ⟨hlk, hcov⟩ := wrong_ok hn hm hw
 have HLK := aMk hlk
 have HCOV := aMk hcov
 have HF := aMk (first_lt hn hm hlk hcov)
 obtain ⟨N, hN⟩ : ∃ N, N = n + m := ⟨_, rfl⟩
 have e0 : IntKind.i64.wrap ((n : Int) + (m : Int)) = (N : Int) := by rw [IntWalk.i64_in _ (by omega)]; omega
 have hn0 : ¬ (n : Int) = 0 := by omega
 have hNN : N ≤ 1000 := by omega
 have HNM := aMk hN
 clear hw hlk hcov hC hcc hnm hN
 go_enter Tryz.func120, Tryz.ntmps120
 go_wp2_with (first | (go_at_call 188; refine (may_c n m H.out (by omega)).mono ?_; rintro e w1 ⟨rfl, hb1⟩; rw [HW.out]; have HB1 := aMk hb1; clear hb1) | (go_at_call 189; refine (alone_c N (by omega)).mono ?_; rintro e w2 ⟨g, cap, p, rfl, a1, a2, a3⟩; have HV2 := aMk a1; have HP2 := aMk a2; have HGB := aMk (qlT HB1.out.size a1.lt); have HB2 : Aside0 (Below w.heap.size w w2) := ⟨qbP HB1.out a3⟩; clear a1 a2 a3 HB1) | ((with_reducible refine gate_dst (N := 35) rfl ?_); refine box_event ?hg (N := 35) ?hd (cs := #[.slice (some ⟨g, 0, none⟩) N cap, .int .i64 n, .int .i64 m]) (t := 217) ?hr ?_; (case hd => rfl); (case hg => rfl); (case hr => go_simp; done); intro B hg w3 hbox hb; have HW3 : Aside0 (WV w3 B g n m N cap) := ⟨hbox⟩; have HV3 := aMk (HV2.out.below hb); have HNE : Aside0 (B ≠ g) := ⟨by have := HV2.out.ltw; omega⟩; have HBB : Aside0 (w.heap.size ≤ B) := ⟨by rw [hg]; exact HB2.out.size⟩; have HB3 : Aside0 (Below w.heap.size w w3) := ⟨qbP HB2.out hb⟩; clear hg hbox hb HV2 HB2))
 obtain ⟨w2base, hwb⟩ : ∃ b, b = w1.heap.size := ⟨_, rfl⟩
 rw [← hwb] at HV3
 clear hwb
 go_loopw [38] (fun v wr => ∃ (k : Nat) (p : List Int), v = .int .i64 (k : Int) ∧ k ≤ l.length ∧ Aside0 (WV wr B g n m N cap) ∧ Aside0 (LI wr w2base g N cap p) ∧ Aside0 (PF N (linksF n idL ((l.take k).map lkOf)) p) ∧ Aside0 (Below w.heap.size w wr)) (fun v _ => l.length - (intOf v).toNat)
 case atStart => exact ⟨0, p, rfl, Nat.zero_le _, HW3, HV3, HP2, HB3⟩
 case round =>
  clear HW3 HV3 HP2 HB3
  obtain ⟨k, p, rfl, hk, HW, HV, HP, HB⟩ := hrel
  have HO : Aside0 (LabOk N (linksF n idL ((l.take k).map lkOf))) := ⟨labOk_links _ (fun x hx => by
   obtain ⟨z, hz, rfl⟩ := List.mem_map.1 hx
   have hz' := List.mem_of_mem_take hz
   have hk1 := (lk_wf HLK.out).2.1 _ (List.mem_map.2 ⟨z, hz', rfl⟩)
   have hk2 := (lk_wf HLK.out).1 _ (List.mem_map.2 ⟨z, hz', rfl⟩)
   have hk3 := (lk_wf HLK.out).2.2 _ (List.mem_map.2 ⟨z, hz', rfl⟩)
   have := HNM.out
   exact ⟨hk1.1, hk1.2, hk2.2, by omega⟩) _ (labOk_id N)⟩
  by_cases hlt : k < l.length
  ·obtain ⟨ad, ead, c0, c1, c2, c3⟩ := at_T45 (Kd.C_below HC.out HB.out) (k : Int) (by omega) (by omega)
   rw [rd45 hlt, qtN] at c0 c1 c2 c3
   have hx := HLK.out _ (List.getElem_mem hlt)
   obtain ⟨a, ha⟩ : ∃ a : Nat, l[k].f0.f0 = (a : Int) := ⟨l[k].f0.f0.toNat, by have := hx.a0; omega⟩
   obtain ⟨b, hb⟩ : ∃ b : Nat, l[k].f0.f1 = (b : Int) := ⟨l[k].f0.f1.toNat, by have := hx.a0; have := hx.ab; omega⟩
   obtain ⟨d, hd⟩ : ∃ d : Nat, l[k].f1.f0 = (d : Int) := ⟨l[k].f1.f0.toNat, by have := hx.c0; omega⟩
   obtain ⟨e, he⟩ : ∃ e : Nat, l[k].f1.f1 = (e : Int) := ⟨l[k].f1.f1.toNat, by have := hx.c0; have := hx.cd; omega⟩
   have k1 := hx.ab; have k2 := hx.bn; have k3 := hx.cd; have k4 := hx.dm
   rw [ha] at c0 k1; rw [hb] at c1 k1 k2; rw [hd] at c2 k3; rw [he] at c3 k3 k4
   have HLE : Aside0 (linksF n idL ((l.take (k + 1)).map lkOf) = linkF n (linksF n idL ((l.take k).map lkOf)) ⟨a, b, d, e⟩) := ⟨by
    rw [qtS hlt, List.map_append]
    unfold linksF
    rw [List.foldl_append]
    have : lkOf l[k] = ⟨a, b, d, e⟩ := by unfold lkOf; rw [ha, hb, hd, he]; rfl
    simp [this]⟩
   have hkI : (k : Int) < (l.length : Int) := by omega
   have q1 : a < b := by omega
   have q2 : b ≤ n := by omega
   have q3 : d < e := by omega
   have q4 : e ≤ m := by omega
   subst ead
   clear hx ha hb hd he k1 k2 k3 k4
   go_upto_region 8 with (first | ((with_reducible refine gate_dst (N := 11) rfl ?_); refine box_event ?hg (N := 11) ?hd (cs := #[.int .i64 0, .int .i64 0, .int .i64 0, .int .i64 0]) (t := 36) ?hr ?_; (case hd => rfl); (case hg => rfl); (case hr => go_simp; done); intro gb hg w6 hbox hb; have HX6 := aMk hbox; have HGE : Aside0 (w.heap.size ≤ gb) := ⟨by rw [hg]; exact HB.out.size⟩; have HN1 : Aside0 (g ≠ gb) := ⟨by have := HV.out.ltw; omega⟩; have HN2 : Aside0 (B ≠ gb) := ⟨by have := blk_lt HW.out; omega⟩; have HB6 : Aside0 (Below w.heap.size w w6) := ⟨qbP HB.out hb⟩; have HV6 : Aside0 (LI w6 w2base g N cap p) := ⟨HV.out.below hb⟩; have HW6 : Aside0 (WV w6 B g n m N cap) := ⟨HW.out.below hb⟩; have z0 : w6.cell? ⟨gb, 0, none⟩ = some (.int .i64 0) := (blk_cell hbox 0).trans rfl; have z1 : w6.cell? ⟨gb, 1, none⟩ = some (.int .i64 0) := (blk_cell hbox 1).trans rfl; have z2 : w6.cell? ⟨gb, 2, none⟩ = some (.int .i64 0) := (blk_cell hbox 2).trans rfl; have z3 : w6.cell? ⟨gb, 3, none⟩ = some (.int .i64 0) := (blk_cell hbox 3).trans rfl; have f0 := qbF hbox 0; have f1 := qbF hbox 1; have f2 := qbF hbox 2; have f3 := qbF hbox 3; clear hg hbox hb HB HV HW))
   have HX := aMk (blk_put (blk_put (blk_put (blk_put HX6.out 0 (.int .i64 a) rfl) 1 (.int .i64 b) rfl) 2 (.int .i64 d) rfl) 3 (.int .i64 e) rfl)
   have HG7 := aMk (qgT (qgT (qgT (grown_set w6 gb 0 (.int .i64 a)) (grown_set _ gb 1 (.int .i64 b))) (grown_set _ gb 2 (.int .i64 d))) (grown_set _ gb 3 (.int .i64 e)))
   generalize (((w6.setCell ⟨gb, 0, none⟩ (.int .i64 a)).setCell ⟨gb, 1, none⟩ (.int .i64 b)).setCell ⟨gb, 2, none⟩ (.int .i64 d)).setCell ⟨gb, 3, none⟩ (.int .i64 e) = w7 at HX HG7 ⊢
   have HV7 : Aside0 (LI w7 w2base g N cap p) := ⟨HV6.out.grown HG7.out HN1.out⟩
   have HW7 : Aside0 (WV w7 B g n m N cap) := ⟨HW6.out.grown HG7.out HN2.out⟩
   have HB7 : Aside0 (Below w.heap.size w w7) := ⟨HB6.out.grown HG7.out HB6.out.size (fun j hj => by obtain rfl := qoI hj; exact HGE.out)⟩
   have q0' := (blk_cell HX.out 0).trans rfl
   have q1' := (blk_cell HX.out 1).trans rfl
   have q2' := (blk_cell HX.out 2).trans rfl
   have q3' := (blk_cell HX.out 3).trans rfl
   clear z0 z1 z2 z3 f0 f1 f2 f3 HX6 HB6 HV6 HW6 c0 c1 c2 c3
   go_wp2_with (first | (go_at_call 190; refine (link_c HW7.out HV7.out HNE.out HP.out HO.out (by omega) ⟨a, b, d, e⟩ q1 q2 q3 q4 HNM.out.symm).mono ?_; rintro e8 w8 ⟨rfl, p8, a1, a2, a3⟩; have HV8 := aMk a1; have HP8 := aMk a2; have HG8 := aMk a3; clear a1 a2 a3))
   exact ⟨⟨k + 1, p8, by go_num, by omega, ⟨HW7.out.grown HG8.out HNE.out⟩, HV8, ⟨by rw [HLE.out]; exact HP8.out⟩, ⟨HB7.out.grown HG8.out HB7.out.size (fun j hj => by obtain rfl := qoI hj; exact HGB.out)⟩⟩, by simp [intOf]; omega⟩
  ·have ek : k = l.length := by omega
   subst ek
   rw [List.take_length] at HP HO
   obtain ⟨r0, hr0⟩ : ∃ r0, r0 = strayF (l.map lkOf) n (linksF n idL (l.map lkOf)) n := ⟨_, rfl⟩
   have HO5 : Aside0 (LabOk N r0) := ⟨by rw [hr0]; exact labOk_stray _ HF.out (by have := HNM.out; omega) n (qlR _) _ HO.out⟩
   have HR0 := aMk hr0
   clear hr0 hlt
   have HCW : Aside0 (Kd.C k45 wr A l.length l) := ⟨Kd.C_below HC.out HB.out⟩
   have e5 : IntKind.i64.wrap ((n : Int) + (m : Int)) = (N : Int) := e0
   go_wp2_with (first | (go_at_call 191; refine (stray_c HW.out HV.out HNE.out HP.out HO.out (by omega) HNM.out.symm hm HCW.out hl HLK.out HF.out).mono ?_; rintro e8 w5 ⟨rfl, p5, a1, a2, a3⟩; rw [← HR0.out] at a2; have HV5 := aMk a1; have HP5 := aMk a2; have HW5 := aMk (HW.out.grown a3 HNE.out); have HB5 : Aside0 (Below w.heap.size w w5) := ⟨HB.out.grown a3 HB.out.size (fun j hj => by obtain rfl := qoI hj; exact HGB.out)⟩; clear a1 a2 a3 HV HP HW HB HCW HO) | ((with_reducible refine gate_dst (N := 12) rfl ?_); refine box_event ?hg (N := 12) ?hd (cs := #[.int .i64 0, .int .i64 0]) (t := 34) ?hr ?_; (case hd => rfl); (case hg => rfl); (case hr => go_simp; done); intro gi hgi w6 hbox hb; have HI6 := aMk hbox; have HV6 := aMk (HV5.out.below hb); have HW6 := aMk (HW5.out.below hb); have HB6 : Aside0 (Below w.heap.size w w6) := ⟨qbP HB5.out hb⟩; have HGI : Aside0 (g ≠ gi ∧ B ≠ gi ∧ w.heap.size ≤ gi) := ⟨by have := HV5.out.ltw; omega, by have := blk_lt HW5.out; omega, by rw [hgi]; exact HB5.out.size⟩; clear hgi hbox hb HV5 HW5 HB5) | ((with_reducible refine gate_dst (N := 13) rfl ?_); refine box_event ?hg (N := 13) ?hd (cs := #[.int .i64 0, .int .i64 0]) (t := 34) ?hr ?_; (case hd => rfl); (case hg => rfl); (case hr => go_simp; done); intro go hgo w7 hbox hb; have HO7 := aMk hbox; have HI7 : Aside0 (w7.heap[gi]? = some (.cells #[.int .i64 0, .int .i64 0] 34 (0, 0))) := ⟨(hb.block _ (blk_lt HI6.out)).trans HI6.out⟩; have HV7 := aMk (HV6.out.below hb); have HW7 := aMk (HW6.out.below hb); have HB7 : Aside0 (Below w.heap.size w w7) := ⟨qbP HB6.out hb⟩; have HGO : Aside0 (g ≠ go ∧ B ≠ go ∧ w.heap.size ≤ go ∧ gi ≠ go) := ⟨by have := HV6.out.ltw; omega, by have := blk_lt HW6.out; omega, by rw [hgo]; exact HB6.out.size, by have := blk_lt HI6.out; omega⟩; have z0 := (blk_cell HI7.out 0).trans rfl; have z1 := (blk_cell HI7.out 1).trans rfl; have f0 := qbF HI7.out 0; have f1 := qbF HI7.out 1; have y0 := (blk_cell hbox 0).trans rfl; have y1 := (blk_cell hbox 1).trans rfl; have g0 := qbF hbox 0; have g1 := qbF hbox 1; have hgio : ¬ gi = go := HGO.out.2.2.2; have hgoi : ¬ go = gi := fun e => hgio e.symm; clear hgo hbox hb HV6 HW6 HB6 HI6))
   have hI8 := blk_put (blk_put HI7.out 0 (.int .i64 0) rfl) 1 (.int .i64 n) rfl
   have hG78 := qgT (grown_set w7 gi 0 (.int .i64 0)) (grown_set _ gi 1 (.int .i64 n))
   have hO8 := (hG78.block go (blk_lt HO7.out) (fun e => hgoi (qoI e))).trans HO7.out
   have hV8 := HV7.out.grown hG78 HGI.out.1
   have hW8 := HW7.out.grown hG78 HGI.out.2.1
   have hB8 : Below w.heap.size w _ := HB7.out.grown hG78 HB7.out.size (fun j hj => by obtain rfl := qoI hj; exact HGI.out.2.2)
   generalize (w7.setCell ⟨gi, 0, none⟩ (.int .i64 0)).setCell ⟨gi, 1, none⟩ (.int .i64 n) = w8 at hI8 hO8 hV8 hW8 hB8 ⊢
   have hO9 := blk_put (blk_put hO8 0 (.int .i64 n) rfl) 1 (.int .i64 N) rfl
   have hG89 := qgT (grown_set w8 go 0 (.int .i64 n)) (grown_set _ go 1 (.int .i64 N))
   have HO9 := aMk hO9
   have HI9 := aMk ((hG89.block gi (blk_lt hI8) (fun e => hgio (qoI e))).trans hI8)
   have HV9 := aMk (hV8.grown hG89 HGO.out.1)
   have HW9 := aMk (hW8.grown hG89 HGO.out.2.1)
   have HB9 : Aside0 (Below w.heap.size w _) := ⟨hB8.grown hG89 hB8.size (fun j hj => by obtain rfl := qoI hj; exact HGO.out.2.2.1)⟩
   clear hI8 hG78 hO8 hV8 hW8 hB8 hO9 hG89 z0 z1 f0 f1 y0 y1 g0 g1 HO7 HI7 HV7 HW7 HB7
   generalize (w8.setCell ⟨go, 0, none⟩ (.int .i64 n)).setCell ⟨go, 1, none⟩ (.int .i64 N) = w9 at HO9 HI9 HV9 HW9 HB9 ⊢
   go_loopg [14] (sumL r0 N + 1) (fun kq v14 wr => ∃ (r : Lab) (p : List Int) (b : Bool), v14 = .bool b ∧ Aside0 ((if b then sumL r N + 1 else 0) ≤ kq) ∧ Aside0 (if b then endF n m r = endF n m r0 else r = endF n m r0) ∧ Aside0 (wr.heap[gi]? = some (.cells #[.int .i64 0, .int .i64 n] 34 (0, 0))) ∧ Aside0 (wr.heap[go]? = some (.cells #[.int .i64 n, .int .i64 N] 34 (0, 0))) ∧ Aside0 (LI wr w2base g N cap p) ∧ Aside0 (WV wr B g n m N cap) ∧ Aside0 (PF N r p) ∧ Aside0 (LabOk N r) ∧ Aside0 (Below w.heap.size w wr))
   case atStart => exact ⟨r0, p5, true, rfl, ⟨qlR _⟩, ⟨rfl⟩, HI9, HO9, HV9, HW9, HP5, HO5, HB9⟩
   case round =>
    clear HI9 HO9 HV9 HW9 HP5 HO5 HB9
    obtain ⟨r, p, b, rfl, HK, HE, HI, HO, HV, HW, HP, HL, HB⟩ := hrel
    cases b with
    | false =>
     have her : r = finL n m (l.map lkOf) := by rw [show r = endF n m r0 from HE.out, HR0.out]; rfl
     have hcl : Closed n m (l.map lkOf) (fun x y => r x = r y) := by rw [her]; exact finL_closed hn hm (lk_wf HLK.out).1 HF.out
     have hfo : FinOk n m (l.map lkOf) r := ⟨fun R hR => by rw [her]; exact finL_sound hR (lk_wf HLK.out).1 HF.out, hcl⟩
     have HFO := aMk hfo
     have HBT : Aside0 (Between (fun x y => r x = r y) 0 n) := ⟨fun i j k _ h1 h2 h3 h4 => hcl.conv1 i j k h1 h2 h3 h4⟩
     have HOT : Aside0 (∀ j, j < n → ∃ i, i < m ∧ r (n + i) = r j) := ⟨fun j hj => outs_met hcl (lk_wf HLK.out).1 (lk_wf HLK.out).2.2 HF.out j hj⟩
     have HIN : Aside0 (∀ i, i < m → ∃ j, j < n ∧ r j = r (n + i)) := ⟨fun i hi => ins_met hcl (lk_wf HLK.out).2.1 (outB_met (fun x hx => (HLK.out x hx).c0) HCOV.out) i hi⟩
     clear her hcl hfo HE HK
     go_wp2_with (first | (go_at_call 193; refine (clusters_c HW.out HV.out HNE.out HP.out HL.out hNN HNM.out.symm hn HBT.out HOT.out HIN.out).mono ?_; rintro e8 wf ⟨u, rfl, a1, a2⟩; have HRF := aMk a1; have HGF := aMk a2; clear a1 a2))
     refine bodyPost_ret (results_tmp2 rfl _ _ _) rfl ?_
     exact ⟨u, r, rfl, HFO.out, Kd.R_lower HRF.out HB.out.size, HB.out.grown HGF.out HB.out.size (fun j hj => by obtain rfl := qoI hj; exact HGB.out)⟩
    | true =>
     have hk : sumL r N + 1 ≤ gk := HK.out
     have hend : endF n m r = endF n m r0 := HE.out
     have HK := aMk hk
     have HEN := aMk hend
     have HST := aMk (endF_step n m hn hm r)
     have HSM := aMk (roundF_sum n m hn hm r)
     rw [← HNM.out] at HSM
     obtain ⟨q1, hq1⟩ : ∃ q, q = closeF r 0 n := ⟨_, rfl⟩
     obtain ⟨q2, hq2⟩ : ∃ q, q = closeF q1.1 n N := ⟨_, rfl⟩
     have HRF : Aside0 (roundF n m r = (q2.1, q1.2 || q2.2)) := ⟨by unfold roundF; rw [hq2, hq1, HNM.out]⟩
     have HQ1 := aMk hq1
     have HQ2 := aMk hq2
     have HL1 : Aside0 (LabOk N q1.1) := ⟨by rw [hq1]; exact labOk_closeF 0 n hn (by have := HNM.out; omega) HL.out⟩
     have HL2 : Aside0 (LabOk N q2.1) := ⟨by rw [hq2]; exact labOk_closeF n N (by have := HNM.out; omega) (qlR _) HL1.out⟩
     have hnN : n < N := by have := HNM.out; omega
     have HNN := aMk hnN
     clear hk hend hq1 hq2
     go_wp2_with fail
     refine start_ (n := 8) (S := (fun W => W.heap[gi]? = some (.cells #[.int .i64 0, .int .i64 n] 34 (0, 0)) ∧ W.heap[go]? = some (.cells #[.int .i64 n, .int .i64 N] 34 (0, 0)))) (ds := [5]) #[false, false, false, false, false, false, false, false] (by kernel_rfl) (by kernel_rfl) (by rfl) ⟨HI.out, HO.out⟩ (fun hS0 => ?_)
     refine pure_ (i := 0) (N := (some 57)) (v := ?_) (a' := ?_) #[true, false, false, false, false, false, false, false] rfl rfl (by kernel_rfl) (fun _ _ _ h => h) (Or.inl ⟨by rfl, ?_⟩) ?_ ?_
     rotate_left
     ·intro w'
      go_simp
      with_reducible rfl
     rotate_left
     ·simp only [Act.put, sqA, sq0, sq1]
      rfl
     refine take_ (i := 1) (N := (some 58)) (v := ?_) (a' := ?_) #[true, true, false, false, false, false, false, false] rfl rfl (by kernel_rfl) (fun _ _ _ h => h) (Or.inl ⟨by rfl, ?_⟩) hS0 ?_ ?_
     rotate_left
     ·intro w' s0
      have q0 := (blk_cell s0.1 0).trans rfl
      have q1 := (blk_cell s0.1 1).trans rfl
      go_simp
      with_reducible rfl
     rotate_left
     ·simp only [Act.put, sqA, sq0, sq1]
      rfl
     refine pure_ (i := 3) (N := (some 60)) (v := ?_) (a' := ?_) #[true, true, false, true, false, false, false, false] rfl rfl (by kernel_rfl) (fun _ _ _ h => h) (Or.inl ⟨by rfl, ?_⟩) ?_ ?_
     rotate_left
     ·intro w'
      go_simp
      with_reducible rfl
     rotate_left
     ·simp only [Act.put, sqA, sq0, sq1]
      rfl
     refine take_ (i := 4) (N := (some 61)) (v := ?_) (a' := ?_) #[true, true, false, true, true, false, false, false] rfl rfl (by kernel_rfl) (fun _ _ _ h => h) (Or.inl ⟨by rfl, ?_⟩) hS0 ?_ ?_
     rotate_left
     ·intro w' s0
      have q0 := (blk_cell s0.2 0).trans rfl
      have q1 := (blk_cell s0.2 1).trans rfl
      go_simp
      with_reducible rfl
     rotate_left
     ·simp only [Act.put, sqA, sq0, sq1]
      rfl
     clear hS0
     refine one_ (i := 2) (N := (some 59)) #[true, true, true, true, true, false, false, false] rfl rfl (by kernel_rfl) (by decide) (fun K hK => ?_)
     refine goes_ Tryz.func192 (by kernel_rfl) rfl #[.pointer (some ⟨B, 0, none⟩), .agg #[.int .i64 ((0 : Nat) : Int), .int .i64 n]] (by rfl) rfl rfl (by go_simp; done) ?_
     refine (close_c (w := wr.drew) HW.out (qrD HV.out) HNE.out HP.out HL.out (by omega) 0 n hn (by omega)).mono ?_
     rintro e8 wa ⟨rfl, pa, a1, a2, a3⟩
     refine ⟨_, rfl, ?_⟩
     rw [← HQ1.out] at a2 ⊢
     have HVa := aMk a1
     have HPa := aMk a2
     have HGa : Aside0 (wr.grownBy wa (some g)) := ⟨qgT (below_grownBy (below_drew (qBr _ _)) _) a3⟩
     clear a1 a2 a3
     obtain ⟨b1, hb1⟩ : ∃ b, q1.2 = b := ⟨_, rfl⟩
     have HB1 := aMk hb1
     rw [hb1]
     clear hb1
     have hIa := (HGa.out.block gi (blk_lt HI.out) (fun e => HGI.out.1 (qoI e).symm)).trans HI.out
     have hOa := (HGa.out.block go (blk_lt HO.out) (fun e => HGO.out.1 (qoI e).symm)).trans HO.out
     have HIa := aMk hIa
     have HOa := aMk hOa
     clear hIa hOa
     change K (Act.put _ (some 59) _) _
     refine hK.out _ _ ⟨HIa.out, HOa.out⟩ (fun hS0 => ?_)
     clear hK
     refine norm_ (a' := ?_) ?_ ?_
     rotate_left
     ·simp only [Act.put, sqA, sq0, sq1]
      rfl
     clear hS0
     refine last_ (i := 5) (N := (some 62)) #[true, true, true, true, true, true, false, false] rfl rfl (by kernel_rfl) (by decide) (fun K hK => ?_)
     refine goes_ Tryz.func192 (by kernel_rfl) rfl #[.pointer (some ⟨B, 0, none⟩), .agg #[.int .i64 n, .int .i64 N]] (by rfl) rfl rfl (by go_simp; done) ?_
     refine (close_c (HW.out.grown HGa.out HNE.out) HVa.out HNE.out HPa.out HL1.out (by omega) n N hnN (qlR _)).mono ?_
     rintro e8 wb ⟨rfl, pb, a1, a2, a3⟩
     refine ⟨_, rfl, ?_⟩
     rw [← HQ2.out] at a2 ⊢
     have HVb := aMk a1
     have HPb := aMk a2
     have HGb : Aside0 (wr.grownBy wb (some g)) := ⟨qgT HGa.out a3⟩
     clear a1 a2 a3
     obtain ⟨b2, hb2⟩ : ∃ b, q2.2 = b := ⟨_, rfl⟩
     have HB2 := aMk hb2
     rw [hb2]
     clear hb2
     change K (Act.put _ (some 62) _) _
     refine hK.out _ _ ?_
     clear hK
     refine norm_ (a' := ?_) ?_ ?_
     rotate_left
     ·simp only [Act.put, sqA, sq0, sq1]
      rfl
     refine pure_ (i := 6) (N := (some 15)) (v := ?_) (a' := ?_) #[true, true, true, true, true, true, true, false] rfl rfl (by kernel_rfl) (fun _ _ _ h => h) (Or.inl ⟨by rfl, ?_⟩) ?_ ?_
     rotate_left
     ·intro w'
      go_simp
      with_reducible rfl
     rotate_left
     ·simp only [Act.put, sqA, sq0, sq1]
      rfl
     refine pure_ (i := 7) (N := (some 16)) (v := ?_) (a' := ?_) #[true, true, true, true, true, true, true, true] rfl rfl (by kernel_rfl) (fun _ _ _ h => h) (Or.inl ⟨by rfl, ?_⟩) ?_ ?_
     rotate_left
     ·intro w'
      go_simp
      with_reducible rfl
     rotate_left
     ·simp only [Act.put, sqA, sq0, sq1]
      rfl
     refine done_ (by kernel_rfl) ?_
     have HRB : Aside0 (roundF n m r = (q2.1, b1 || b2)) := ⟨by rw [HRF.out, HB1.out, HB2.out]⟩
     cases b1 with
     | true =>
      go_wp2_with fail
      have hsm := HSM.out.2 (by rw [HRB.out]; rfl)
      rw [HRB.out] at hsm
      have hst := HST.out
      rw [HRB.out] at hst
      have hst2 : endF n m r = endF n m q2.1 := hst
      dsimp only at hsm
      have HHK : Aside0 ((if true then sumL q2.1 N + 1 else 0) ≤ sumL q2.1 N + 1) := ⟨qlR _⟩
      have HHE : Aside0 (if true then endF n m q2.1 = endF n m r0 else q2.1 = endF n m r0) := ⟨hst2.symm.trans HEN.out⟩
      have hkk : sumL r N + 1 ≤ gk := by have := HK.out; simpa using this
      clear hst hst2
      go_roundg (sumL q2.1 N + 1)
      case measure => omega
      case rel => exact ⟨q2.1, pb, true, rfl, HHK, HHE, ⟨(HGb.out.block gi (blk_lt HI.out) (fun e => HGI.out.1 (qoI e).symm)).trans HI.out⟩, ⟨(HGb.out.block go (blk_lt HO.out) (fun e => HGO.out.1 (qoI e).symm)).trans HO.out⟩, HVb, ⟨HW.out.grown HGb.out HNE.out⟩, HPb, HL2, ⟨HB.out.grown HGb.out HB.out.size (fun j hj => by obtain rfl := qoI hj; exact HGB.out)⟩⟩
     | false =>
      cases b2 with
      | true =>
       go_wp2_with fail
       have hsm := HSM.out.2 (by rw [HRB.out]; rfl)
       rw [HRB.out] at hsm
       have hst := HST.out
       rw [HRB.out] at hst
       have hst2 : endF n m r = endF n m q2.1 := hst
       dsimp only at hsm
       have HHK : Aside0 ((if true then sumL q2.1 N + 1 else 0) ≤ sumL q2.1 N + 1) := ⟨qlR _⟩
       have HHE : Aside0 (if true then endF n m q2.1 = endF n m r0 else q2.1 = endF n m r0) := ⟨hst2.symm.trans HEN.out⟩
       have hkk : sumL r N + 1 ≤ gk := by have := HK.out; simpa using this
       clear hst hst2
       go_roundg (sumL q2.1 N + 1)
       case measure => omega
       case rel => exact ⟨q2.1, pb, true, rfl, HHK, HHE, ⟨(HGb.out.block gi (blk_lt HI.out) (fun e => HGI.out.1 (qoI e).symm)).trans HI.out⟩, ⟨(HGb.out.block go (blk_lt HO.out) (fun e => HGO.out.1 (qoI e).symm)).trans HO.out⟩, HVb, ⟨HW.out.grown HGb.out HNE.out⟩, HPb, HL2, ⟨HB.out.grown HGb.out HB.out.size (fun j hj => by obtain rfl := qoI hj; exact HGB.out)⟩⟩
      | false =>
       go_wp2_with fail
       have hst := HST.out
       rw [HRB.out] at hst
       have hst2 : endF n m r = q2.1 := hst
       have HHK : Aside0 ((if false then sumL q2.1 N + 1 else 0) ≤ 0) := ⟨qlR _⟩
       have HHE : Aside0 (if false then endF n m q2.1 = endF n m r0 else q2.1 = endF n m r0) := ⟨hst2.symm.trans HEN.out⟩
       have hkk : sumL r N + 1 ≤ gk := by have := HK.out; simpa using this
       clear hst hst2
       go_roundg 0
       case measure => omega
       case rel => exact ⟨q2.1, pb, false, rfl, HHK, HHE, ⟨(HGb.out.block gi (blk_lt HI.out) (fun e => HGI.out.1 (qoI e).symm)).trans HI.out⟩, ⟨(HGb.out.block go (blk_lt HO.out) (fun e => HGO.out.1 (qoI e).symm)).trans HO.out⟩, HVb, ⟨HW.out.grown HGb.out HNE.out⟩, HPb, HL2, ⟨HB.out.grown HGb.out HB.out.size (fun j hj => by obtain rfl := qoI hj; exact HGB.out)⟩⟩
end CFin
end
section
namespace CSort
open U PClusterFinest
open Go.Shelf
shelf_lay_g SlLaysF0.n20 Slsf 20 at Tryz 212 as lins
end CSort
end
section
namespace UWhole
open PClusterFinest UFinest UFinEv CFin CSort
def one (i : Nat) : S33 := ⟨(i : Int), (i : Int) + 1⟩
def idS (n : Nat) : List S45 := (List.range n).map fun i => ⟨one i, one i⟩
theorem idS_len (n : Nat) : (idS n).length = n := by simp [idS]
end UWhole
end
section
namespace Cel
open U PClusterFinest UGroups UFinEv
theorem linkStep_2 (L : List (List Int)) (q : List S45 × Nat) (g : S33) : (linkStep L q g).2 = q.2 + (rowOf L g.f0.toNat g.f1.toNat).flatten.length := rfl
theorem links_end (N : Nat) (J : List S33) (L : List (List Int)) (hL : L.length = N) : ∀ t, t ≤ N → (linksOf L (grpTo N J t).1).2 = (L.take (grpTo N J t).2).flatten.length
 | 0, _ => by simp [grpTo, linksOf]
 | t + 1, ht => by
  have ih := links_end N J L hL t (by omega)
  have hlo := grp_lo N J t (by omega)
  rw [show grpTo N J (t + 1) = UGroups.stepG N J (t + 1) (grpTo N J t) from rfl]
  unfold UGroups.stepG
  by_cases hc : t + 1 = N ∨ acrossB N J (t + 1) = false
  ·rw [if_pos hc]
   dsimp only
   unfold linksOf at ih ⊢
   rw [List.foldl_append, List.foldl_cons, List.foldl_nil]
   rw [linkStep_2, ih]
   dsimp only
   unfold rowOf
   rw [qtN, qtN]
   have e : L.take (t + 1) = L.take (grpTo N J t).2 ++ (L.drop (grpTo N J t).2).take (t + 1 - (grpTo N J t).2) := by
    rw [← List.take_append_drop (grpTo N J t).2 L, List.take_append, List.take_take]
    simp only [List.length_take, List.take_append_drop]
    rw [Nat.min_eq_left (a := (grpTo N J t).2) (b := L.length) (by omega), Nat.min_eq_right (by omega)]
   rw [e, List.flatten_append, List.length_append]
  ·rw [if_neg hc]
   exact ih
theorem groups_end (J : List S33) (L : List (List Int)) : (linksOf L (groups L.length J)).2 = L.flatten.length := by
 unfold groups
 rw [links_end L.length J L rfl L.length (qlR _)]
 cases hN : L.length with
 | zero => rw [List.eq_nil_of_length_eq_zero hN]; simp
 | succ t =>
  have : (grpTo (t + 1) J (t + 1)).2 = t + 1 := by
   rw [show grpTo (t + 1) J (t + 1) = UGroups.stepG (t + 1) J (t + 1) (grpTo (t + 1) J t) from rfl]
   unfold UGroups.stepG
   rw [if_pos (.inl rfl)]
  rw [this, ← hN, List.take_length]
end Cel
namespace UMap
open PClusterFinest UFinest UGroups UFinEv Cel
open CFin (cluS wrong_ok)
def Free (ls : List S45) (g : S33) : Prop := ∀ x ∈ ls, ∀ i : Int, g.f0 ≤ i → i < g.f1 → ¬ (x.f0.f0 ≤ i ∧ i < x.f0.f1)
structure Inv (N : Nat) (J : List S33) (lo : Nat) (ls : List S45) (e : Nat) : Prop where
 ok : ∀ x ∈ ls, 0 ≤ x.f0.f0 ∧ x.f0.f0 < x.f0.f1 ∧ x.f0.f1 ≤ (lo : Int) ∧ 0 ≤ x.f1.f0 ∧ x.f1.f0 < x.f1.f1 ∧ x.f1.f1 ≤ (e : Int)
 cover : ∀ i : Nat, i < e → ∃ x ∈ ls, x.f1.f0 ≤ (i : Int) ∧ (i : Int) < x.f1.f1
 joined : ∀ s ∈ J, OkS N s → s.f0 < (lo : Int) → ∃ g : S33, 0 ≤ g.f0 ∧ g.f0 ≤ s.f0 ∧ s.f1 ≤ g.f1 ∧ g.f1 ≤ (lo : Int) ∧ ((∃ x ∈ ls, x.f0 = g) ∨ Free ls g)
theorem inv_step {N : Nat} {J : List S33} {lo e t : Nat} {ls : List S45} (h : Inv N J lo ls e) (hlo : lo < t) (hclose : ∀ s ∈ J, OkS N s → s.f0 < (t : Int) → s.f1 ≤ (t : Int)) (d : Nat) :
 Inv N J t (if e < e + d then ls ++ [⟨⟨(lo : Int), (t : Int)⟩, ⟨(e : Int), ((e + d : Nat) : Int)⟩⟩] else ls) (e + d) := by
 obtain ⟨h1, h2, h3⟩ := h
 by_cases hd : e < e + d
 ·rw [if_pos hd]
  refine ⟨fun x hx => ?_, fun i hi => ?_, fun s hs ho hlt => ?_⟩
  ·rcases List.mem_append.1 hx with hx | hx
   ·have := h1 x hx; omega
   ·rw [List.mem_singleton] at hx; subst hx; dsimp only; omega
  ·by_cases hi2 : i < e
   ·obtain ⟨x, hx, k1, k2⟩ := h2 i hi2
    exact ⟨x, List.mem_append.2 (.inl hx), k1, k2⟩
   ·exact ⟨_, List.mem_append.2 (.inr (List.mem_singleton.2 rfl)), by dsimp only; omega, by dsimp only; omega⟩
  ·by_cases hs2 : s.f0 < (lo : Int)
   ·obtain ⟨g, g0, g1, g2, g3, hg⟩ := h3 s hs ho hs2
    refine ⟨g, g0, g1, g2, by omega, ?_⟩
    rcases hg with ⟨x, hx, ex⟩ | hg
    ·exact .inl ⟨x, List.mem_append.2 (.inl hx), ex⟩
    ·refine .inr fun x hx i k1 k2 => ?_
     rcases List.mem_append.1 hx with hx | hx
     ·exact hg x hx i k1 k2
     ·rw [List.mem_singleton] at hx; subst hx; dsimp only; omega
   ·exact ⟨⟨(lo : Int), (t : Int)⟩, by dsimp only; omega, by dsimp only; omega, hclose s hs ho hlt, Int.le_refl _, .inl ⟨_, List.mem_append.2 (.inr (List.mem_singleton.2 rfl)), rfl⟩⟩
 ·rw [if_neg hd]
  have e0 : d = 0 := by omega
  subst e0
  refine ⟨fun x hx => ?_, h2, fun s hs ho hlt => ?_⟩
  ·have := h1 x hx; omega
  ·by_cases hs2 : s.f0 < (lo : Int)
   ·obtain ⟨g, g0, g1, g2, g3, hg⟩ := h3 s hs ho hs2
    exact ⟨g, g0, g1, g2, by omega, hg⟩
   ·refine ⟨⟨(lo : Int), (t : Int)⟩, by dsimp only; omega, by dsimp only; omega, hclose s hs ho hlt, Int.le_refl _, .inr fun x hx i k1 k2 => ?_⟩
    dsimp only at k1 k2
    have := h1 x hx; omega
theorem inv_all (N : Nat) (J : List S33) (L : List (List Int)) (hL : L.length = N) : ∀ t, t ≤ N → Inv N J (grpTo N J t).2 (linksOf L (grpTo N J t).1).1 (linksOf L (grpTo N J t).1).2
 | 0, _ => ⟨(fun x hx => by simp [grpTo, linksOf] at hx), (fun i hi => by simp [grpTo, linksOf] at hi), (fun s _ hs h => by simp [grpTo] at h; have := hs.1; omega)⟩
 | t + 1, ht => by
  have ih := inv_all N J L hL t (by omega)
  have hlo := grp_lo N J t (by omega)
  rw [show grpTo N J (t + 1) = UGroups.stepG N J (t + 1) (grpTo N J t) from rfl]
  unfold UGroups.stepG
  by_cases hc : t + 1 = N ∨ acrossB N J (t + 1) = false
  ·rw [if_pos hc]
   dsimp only
   have hclose : ∀ s ∈ J, OkS N s → s.f0 < ((t + 1 : Nat) : Int) → s.f1 ≤ ((t + 1 : Nat) : Int) := by
    intro s hs ho h1
    rcases hc with h | h
    ·have := ho.2.2; omega
    ·rcases Int.lt_or_le ((t + 1 : Nat) : Int) s.f1 with h2 | h2
     ·have : acrossB N J (t + 1) = true := across_iff.2 ⟨s, hs, ho, h1, h2⟩
      rw [h] at this; cases this
     ·exact h2
   rw [show linksOf L ((grpTo N J t).1 ++ [⟨((grpTo N J t).2 : Int), ((t + 1 : Nat) : Int)⟩]) = linkStep L (linksOf L (grpTo N J t).1) ⟨((grpTo N J t).2 : Int), ((t + 1 : Nat) : Int)⟩ by unfold linksOf; rw [List.foldl_append]; rfl]
   exact inv_step ih (by omega) hclose _
  ·rw [if_neg hc]
   exact ih
theorem grp_end (N : Nat) (J : List S33) (hN : 0 < N) : (grpTo N J N).2 = N := by
 obtain ⟨t, rfl⟩ : ∃ t, N = t + 1 := ⟨N - 1, by omega⟩
 rw [show grpTo (t + 1) J (t + 1) = UGroups.stepG (t + 1) J (t + 1) (grpTo (t + 1) J t) from rfl]
 unfold UGroups.stepG
 rw [if_pos (.inl rfl)]
theorem inv_end {L : List (List Int)} {J : List S33} (hL : 0 < L.length) : Inv L.length J L.length (linksOf L (groups L.length J)).1 L.flatten.length := by
 have h := inv_all L.length J L rfl L.length (qlR _)
 rw [grp_end _ _ hL] at h
 have e := groups_end J L
 unfold groups at e ⊢
 rw [e] at h
 exact h
theorem links_right {L : List (List Int)} {J : List S33} (hn : 0 < L.length) (hm : 0 < L.flatten.length) (hn2 : L.length ≤ 1000) (hm2 : L.flatten.length ≤ 1000) : wrongR (L.length : Nat) (L.flatten.length : Nat) (linksOf L (groups L.length J)).1 = 0 := by
 have hI := inv_end (J := J) hn
 unfold wrongR
 rw [if_neg (by omega), if_pos]
 ·unfold wrongIn
  rw [if_neg (by omega), if_neg (by omega), if_pos]
  rw [List.all_eq_true, qtN]
  intro i hi
  obtain ⟨x, hx, h1, h2⟩ := hI.cover i (List.mem_range.1 hi)
  unfold outB
  rw [List.any_eq_true]
  exact ⟨x, hx, by simp only [Bool.and_eq_true, decide_eq_true_eq]; exact ⟨h1, h2⟩⟩
 ·rw [List.all_eq_true]
  intro x hx
  have h := hI.ok x hx
  unfold okB fitB
  simp only [Bool.and_eq_true, decide_eq_true_eq]
  omega
theorem links_none {L : List (List Int)} {J : List S33} (hm : L.flatten.length = 0) : (linksOf L (groups L.length J)).1 = [] := by
 rcases Nat.eq_zero_or_pos L.length with h0 | h0
 ·rw [h0]; rfl
 ·have hI := inv_end (J := J) h0
  cases h : (linksOf L (groups L.length J)).1 with
  | nil => rfl
  | cons x l =>
   have := hI.ok x (by rw [h]; exact List.mem_cons_self)
   omega
theorem wrong_empty (n : Nat) (hn : n ≤ 1000) : wrongR n (0 : Nat) [] = if 0 < n then 8 else 0 := by
 unfold wrongR
 rw [if_neg (by omega), if_pos (by rfl)]
 unfold wrongIn
 by_cases h : 0 < n
 ·rw [if_pos (by omega), if_pos h]
 ·rw [if_neg (by omega), if_neg (by omega), if_pos (by rfl), if_neg h]
end UMap
namespace Cel
open U PClusterFinest UFinest UGroups UFinEv UMap
open CFin (finest_c finest_bad cluS cluS_len wrong_ok)
variable {w W W2 : World} {F G : Nat → Prop} {base b N i : Nat} {u : Value} {L : List (List Int)} {J p : List S33}
theorem clu_one {D : Nat → Prop} (hD : CellsAt 100 w D b L J) (hn : L.length ≤ 100) (hJ : J.length ≤ 1000) (hF : L.flatten.length ≤ 800) :
 Calls Tryz.prog 61 #[ptr b] w fun e W => ∃ v r, e = .returned (.tuple #[v, .int .i64 r]) ∧ Below w.heap.size w W ∧ ((L.flatten.length = 0 ∧ r = (if 0 < L.length then 8 else 0)) ∨ (0 < L.flatten.length ∧ 0 < L.length ∧ r = 0 ∧ ∃ A, FinOk L.length L.flatten.length ((linksOf L (groups L.length J)).1.map lkOf) A ∧ SLk k45 W v (cluS L.length L.flatten.length A L.length))) := by
 have hend := Cel.groups_end J L
 have hlen : (linksOf L (groups L.length J)).1.length ≤ 100 := by
  have h1 := (linksOf_le L (groups L.length J) (groups L.length J).length (qlR _)).2
  rw [List.take_length] at h1
  have h2 : (groups L.length J).length ≤ L.length := grp_len L.length J L.length
  omega
 rcases Nat.eq_zero_or_pos L.flatten.length with e0 | e0
 ·have hl := links_none (J := J) e0
  have hz : ((0 : Nat) : Int) = 0 := rfl
  have hbad : wrongR (L.length : Int) (L.flatten.length : Int) [] ≠ 0 ∨ (L.length : Int) = 0 := by
   rw [e0, wrong_empty _ (by omega)]
   by_cases h : 0 < L.length
   ·rw [if_pos h]; exact .inl (by decide)
   ·exact .inr (by omega)
  refine (clusters_c hD (by omega) (by omega) (by omega) (fun u r _ => r = (if 0 < L.length then 8 else 0)) (fun w1 u hs hb => by rw [hend]; rw [hl] at hs; exact (finest_bad _ _ hs (by simp) hbad).mono (by rintro e w' ⟨rfl, hb⟩; exact ⟨_, _, rfl, by rw [e0, wrong_empty _ (by omega)], hb⟩))).mono ?_
  rintro e W ⟨u, r, rfl, hr, hb⟩
  exact ⟨u, r, rfl, hb, .inl ⟨e0, hr⟩⟩
 ·have hN0 : 0 < L.length := by
   rcases Nat.eq_zero_or_pos L.length with h | h
   ·rw [List.eq_nil_of_length_eq_zero h] at e0; exact absurd e0 (Nat.lt_irrefl 0)
   ·exact h
  have hw := links_right (J := J) hN0 e0 (by omega) (by omega)
  refine (clusters_c hD (by omega) (by omega) (by omega) (fun u r w' => r = 0 ∧ ∃ A, FinOk L.length L.flatten.length ((linksOf L (groups L.length J)).1.map lkOf) A ∧ SLk k45 w' u (cluS L.length L.flatten.length A L.length)) (fun w1 u hs hb => by rw [hend]; exact (finest_c L.length L.flatten.length hs (by omega) hN0 e0 (by omega) hw).mono (by rintro e w' ⟨u, A, rfl, hf, hR, hb⟩; exact ⟨_, _, rfl, ⟨rfl, A, hf, SLk.of_R hR⟩, hb⟩))).mono ?_
  rintro e W ⟨u, r, rfl, ⟨hr, A, hf, hs⟩, hb⟩
  exact ⟨u, r, rfl, hb, .inr ⟨e0, hN0, hr, A, hf, hs⟩⟩
end Cel
end
section
namespace Cel
open U PClusterFinest UGroups UFinEv
open CFin (rd33 info33 cells33 one33)
theorem refNew_c (n : Nat) (h : n ≤ 16777216) {w : World} : Calls Tryz.prog 63 #[.int .i64 n] w fun e w' => ∃ b, e = .returned (.tuple #[ptr b, .int .i64 0]) ∧ CellsAt 102 w' (fun k => w.heap.size ≤ k) b (List.replicate n []) [] ∧ Below w.heap.size w w' := by
 have h0 : ¬ (n : Int) < 0 := by omega
 have h1 : ¬ (n : Int) > 16777216 := by omega
 have HN : Aside0 (n ≤ 16777216) := ⟨h⟩
 clear h
 go_enter Tryz.func63, Tryz.ntmps63
 go_wp2_with (first | ((with_reducible refine gate_dst (N := 11) rfl ?_); refine Kd.R_make KH (w0 := w) w.heap.size 22 rfl rfl 91 (.tmp 10) (.tmp 10) rfl (n : Int) (by first | (go_simp; done) | (go_simp; rfl)) (by first | (go_simp; done) | (go_simp; rfl)) Tryz.underlying91 (.slice none 0 0) 24 info31 rfl (by decide) (by omega) ((none, 0, 0) : Hd) (ok := fun k => w.heap.size ≤ k) (okp := fun _ => False) rfl (fun _ h => h.elim) (qlR _) (by omega) (by have := HN.out; simp only [qtN]; omega) (qBr _ _) (qlR _) ?_; intro v8 w1 hv hb hg hat; rw [qtN] at hv; obtain ⟨A1, c1, e8⟩ := Kd.R_slice hv; rw [qlr] at e8; subst e8; have HR1 := aMk (RowAt.bound (RowAt.nils hv)); have HB1 := aMk hb; clear hv hb hg hat) | ((with_reducible refine gate_dst (N := 13) rfl ?_); refine box_event ?hg (N := 13) ?hd (cs := #[.slice A1 n c1, .slice none 0 0]) (t := 102) ?hr ?_; (case hd => rfl); (case hg => rfl); (case hr => go_simp; done); intro gb hg w6 hbox hb; have HX := aMk hbox; have HG : Aside0 (w.heap.size ≤ gb) := ⟨by rw [hg]; exact HB1.out.size⟩; have HR6 : Aside0 (RowAt w6 (fun k => w.heap.size ≤ k ∧ k < gb) _ _) := ⟨by rw [hg]; exact (HR1.out.kept (S := fun _ => False) (Kept.of_below hb _) (fun _ _ h => h))⟩; have HB6 : Aside0 (Below w.heap.size w w6) := ⟨qbP HB1.out hb⟩; clear hg hbox hb))
 refine bodyPost_ret (results_tmp2 rfl _ _ _) rfl ?_
 exact ⟨gb, rfl, ⟨fun k => w.heap.size ≤ k ∧ k < gb, fun _ => False, _, _, fun k hk => ⟨hk.1, by omega⟩, fun _ h => h.elim, HG.out, HX.out, HR6.out, Kd.R_nil _ _ _ _ _⟩, HB6.out⟩
theorem refSet_c {w : World} {D : Nat → Prop} {b : Nat} {L : List (List Int)} {J : List S33} (h : CellsAt 102 w D b L J) (k : Nat) (hk : k < L.length) {v : Value} {x : List Int} (hx : SL w v x) (hm : x.length ≤ 1000000) :
 Calls Tryz.prog 64 #[ptr b, .int .i64 k, v] w fun e w' => e = .returned (.int .i64 0) ∧ CellsAt 102 w' (fun q => D q ∨ w.heap.size ≤ q) b (L.set k x) J ∧ Eff w w' D := by
 obtain ⟨Dr, Dt, A, c, vt, hp⟩ := h.open_
 obtain ⟨g, cap, cells, e, hg, hlt, hblk⟩ := hp.h2.form (by omega)
 injection e with e1 e2 e3
 subst e1
 subst e3
 obtain ⟨Ax, cx, rfl, hcx, hCx⟩ := hx
 have c0 := (blk_cell hp.h1 0).trans rfl
 have HP := aMk hp
 have HX := aMk hCx
 have HM := aMk hm
 have HK := aMk hk
 have hkI : (k : Int) < (L.length : Int) := by omega
 have hkn : ¬ (L.length : Int) ≤ (k : Int) := by omega
 have hk0 : 0 ≤ (k : Int) := by omega
 have hkz : ¬ (k : Int) < 0 := by omega
 have etk : (k : Int).toNat = k := qtN _
 clear h hp hm hg hblk hk hlt hcx hCx
 go_enter Tryz.func64, Tryz.ntmps64
 go_upto_region 3 with (fail)
 have HBD : Aside0 (Below w.heap.size w w.drew) := ⟨below_drew (qBr _ _)⟩
 refine start_ (n := 9) (S := (fun W => Below w.heap.size w W)) (ds := [8]) #[false, false, false, false, false, false, false, false, false] (by kernel_rfl) (by kernel_rfl) (by rfl) HBD.out (fun hS0 => ?_)
 refine pure_ (i := 0) (N := (some 18)) (v := ?_) (a' := ?_) #[true, false, false, false, false, false, false, false, false] rfl rfl (by kernel_rfl) (fun _ _ _ h => h) (Or.inl ⟨by rfl, ?_⟩) ?_ ?_
 rotate_left
 ·intro w'
  go_simp
  with_reducible rfl
 rotate_left
 ·simp only [Act.put, sqA, sq0, sq1]
  rfl
 refine pure_ (i := 1) (N := (some 19)) (v := ?_) (a' := ?_) #[true, true, false, false, false, false, false, false, false] rfl rfl (by kernel_rfl) (fun _ _ _ h => h) (Or.inl ⟨by rfl, ?_⟩) ?_ ?_
 rotate_left
 ·intro w'
  go_simp
  with_reducible rfl
 rotate_left
 ·simp only [Act.put, sqA, sq0, sq1]
  rfl
 refine pure_ (i := 2) (N := (some 20)) (v := ?_) (a' := ?_) #[true, true, true, false, false, false, false, false, false] rfl rfl (by kernel_rfl) (fun _ _ _ h => h) (Or.inl ⟨by rfl, ?_⟩) ?_ ?_
 rotate_left
 ·intro w'
  go_simp
  with_reducible rfl
 rotate_left
 ·simp only [Act.put, sqA, sq0, sq1]
  rfl
 refine take_ (i := 3) (N := (some 21)) (v := ?_) (a' := ?_) #[true, true, true, true, false, false, false, false, false] rfl rfl (by kernel_rfl) (fun _ _ _ h => h) (Or.inl ⟨by rfl, ?_⟩) hS0 ?_ ?_
 rotate_left
 ·intro w' s0
  have hx0 := (s0.cell (qwL _ _ c0)).trans c0
  go_simp
  with_reducible rfl
 rotate_left
 ·simp only [Act.put, sqA, sq0, sq1]
  rfl
 refine pure_ (i := 4) (N := (some 22)) (v := ?_) (a' := ?_) #[true, true, true, true, true, false, false, false, false] rfl rfl (by kernel_rfl) (fun _ _ _ h => h) (Or.inl ⟨by rfl, ?_⟩) ?_ ?_
 rotate_left
 ·intro w'
  go_simp
  with_reducible rfl
 rotate_left
 ·simp only [Act.put, sqA, sq0, sq1]
  rfl
 refine pure_ (i := 5) (N := (some 23)) (v := ?_) (a' := ?_) #[true, true, true, true, true, true, false, false, false] rfl rfl (by kernel_rfl) (fun _ _ _ h => h) (Or.inl ⟨by rfl, ?_⟩) ?_ ?_
 rotate_left
 ·intro w'
  go_simp
  with_reducible rfl
 rotate_left
 ·simp only [Act.put, sqA, sq0, sq1]
  rfl
 clear hS0
 refine one_ (i := 6) (N := (some 24)) #[true, true, true, true, true, true, true, false, false] rfl rfl (by kernel_rfl) (by decide) (fun K hK => ?_)
 refine Kd.R_append_rows_step (Kd.int .i64) (w0 := w) w.heap.size (by rfl) (.const (.slice none 0 0)) (.tmp 23) 22 3 (.int .i64 0) 8 rfl Tryz.underlying22 info3 rfl (by decide) (by omega) (.slice none 0 0) [] x Ax x.length cx (fun _ => True) (fun _ => False) rfl rfl (Kd.R_nil _ _ _ _ _) (Kd.C_below HX.out HBD.out) (fun _ _ h => h) (fun _ h => h.elim) (fun _ _ => trivial) HBD.out HBD.out.size (by have := HM.out; (try simp only [List.length_nil]); omega) ?_
 intro v1 w2 hv hb hg hat
 rw [List.nil_append] at hv
 obtain ⟨AU, cu, eu⟩ := Kd.R_slice hv
 subst eu
 have HU : Aside0 (SLD w2 (fun q => w.heap.size ≤ q) (.slice AU x.length cu) x) := ⟨SLD.of_R (qrM (Kd.R_bound hv) (fun q hq => hq.2.1))⟩
 have HB2 := aMk hb
 clear hv hb hg hat
 change K (Act.put _ (some 24) _) _
 refine hK.out _ _ HB2.out (fun hS0 => ?_)
 clear hK
 refine norm_ (a' := ?_) ?_ ?_
 rotate_left
 ·simp only [Act.put, sqA, sq0, sq1]
  rfl
 obtain ⟨hd2, z0, z1, -⟩ := (HP.out.below HB2.out).h2.cell k HK.out
 refine pure_ (i := 7) (N := (some 25)) (v := ?_) (a' := ?_) #[true, true, true, true, true, true, true, true, false] rfl rfl (by kernel_rfl) (fun _ _ _ h => h) (Or.inl ⟨by rfl, ?_⟩) ?_ ?_
 rotate_left
 ·intro w'
  go_simp
  with_reducible rfl
 rotate_left
 ·simp only [Act.put, sqA, sq0, sq1]
  rfl
 clear hS0
 refine last_ (i := 8) (N := none) #[true, true, true, true, true, true, true, true, true] rfl rfl (by kernel_rfl) (by decide) (fun K hK => ?_)
 refine skip_ (w1 := w2.setCell ⟨g, k, none⟩ (.slice AU x.length cu)) (by rfl) rfl (by go_simp) ?_
 refine hK.out _ _ ?_
 clear hK
 refine done_ (by kernel_rfl) ?_
 go_wp2
 go_ret
 obtain ⟨q1, _, q3⟩ := HP.out.put HB2.out k HK.out HU.out
 exact ⟨rfl, q1, q3⟩
theorem refAt_c {w : World} {D : Nat → Prop} {b : Nat} {L : List (List Int)} {J : List S33} (h : CellsAt 102 w D b L J) (k : Nat) (hk : k < L.length) :
 Calls Tryz.prog 34 #[ptr b, .int .i64 k] w fun e w' => ∃ u, e = .returned u ∧ SL w' u L[k] ∧ Below w.heap.size w w' := by
 obtain ⟨y, hy⟩ : ∃ y, y = L[k] := ⟨_, rfl⟩
 rw [← hy]
 obtain ⟨Dr, Dt, A, c, vt, hp⟩ := h.open_
 obtain ⟨g, cap, cells, e, hg, hlt, hblk⟩ := hp.h2.form (by omega)
 injection e with e1 e2 e3
 subst e1
 subst e3
 obtain ⟨hd, z0, z1, z2⟩ := hp.h2.cell k hk
 rw [← hy] at z2
 obtain ⟨Ay, cy, ey, hcy, hCy⟩ := z2.1
 rw [ey] at z0
 have HY : Aside0 (SL w (.slice Ay y.length cy) y) := ⟨⟨Ay, cy, rfl, hcy, hCy⟩⟩
 have c0 := (blk_cell hp.h1 0).trans rfl
 have hkI : (k : Int) < (L.length : Int) := by omega
 have hkn : ¬ (L.length : Int) ≤ (k : Int) := by omega
 have hk0 : 0 ≤ (k : Int) := by omega
 have hkz : ¬ (k : Int) < 0 := by omega
 have etk : (k : Int).toNat = k := qtN _
 clear h hp hg hblk hlt hk hy z1 z2 ey hcy hCy
 go_enter Tryz.func34, Tryz.ntmps34
 go_wp2
 go_ret
 exact ⟨_, rfl, HY.out, qBr _ _⟩
theorem refText_c {w : World} {D : Nat → Prop} {b : Nat} {L : List (List Int)} {J : List S33} (h : CellsAt 102 w D b L J) (hl8 : L.length ≤ 100000000) (hf : L.flatten.length ≤ 10000000) :
 Calls Tryz.prog 31 #[ptr b] w fun e w' => ∃ u, e = .returned u ∧ Kd.R (Kd.int .i64) 3 w' w.heap.size (fun _ => True) u L.flatten ∧ Below w.heap.size w w' := by
 obtain ⟨Dr, Dt, A, c, vt, hp⟩ := h.open_
 have c0 := (blk_cell hp.h1 0).trans rfl
 have HC : Aside0 (Kd.C (Kd.slice 3 (Kd.int .i64)) w A L.length L) := ⟨by obtain ⟨A', c', e', h1, h2⟩ := hp.h2.reads 3; injection e' with e1 e2 e3; subst e1; exact h2⟩
 have HL := aMk hl8
 have HF := aMk hf
 clear h hp hl8 hf
 go_enter Tryz.func31, Tryz.ntmps31
 go_wp2
 go_loopw [3, 4] (fun v3 v wr => ∃ k : Nat, v = .int .i64 (k : Int) ∧ k ≤ L.length ∧ Aside0 (Kd.R (Kd.int .i64) 3 wr w.heap.size (fun _ => True) v3 (L.take k).flatten) ∧ Aside0 (Below w.heap.size w wr)) (fun _ v _ => L.length - (intOf v).toNat)
 case atStart => exact ⟨0, rfl, Nat.zero_le _, ⟨Kd.R_nil _ _ _ _ _⟩, ⟨qBr _ _⟩⟩
 case round =>
  obtain ⟨k, rfl, hk, HR, HB⟩ := hrel
  have r0 := (HB.out.cell (qwL _ _ c0)).trans c0
  by_cases hlt : k < L.length
  ·obtain ⟨x, hx⟩ : ∃ x, x = L[k] := ⟨_, rfl⟩
   obtain ⟨ad, cs, ead, _, hK, hcell⟩ := Kd.C_get (Kd.C_below HC.out HB.out) [] (k : Int) (by omega) (by omega)
   rw [qtN, show L.getD k [] = x by rw [hx, qgD, qgG hlt]; rfl] at hK
   obtain ⟨A', c', rfl, hc', hC'⟩ := hK
   have y0 := hcell 0 _ rfl
   rw [qtN, show (Kd.slice 3 (Kd.int .i64)).sz = 1 from rfl, Nat.add_zero, Nat.mul_one] at y0
   have HNX : Aside0 ((L.take (k + 1)).flatten = (L.take k).flatten ++ x) := ⟨by rw [flat_take hlt, hx]⟩
   have HLE : Aside0 ((L.take (k + 1)).flatten.length ≤ 10000000) := ⟨qlT (flat_le L (k + 1)) HF.out⟩
   rw [HNX.out, List.length_append] at HLE
   obtain ⟨o, ho⟩ : ∃ o, o = (L.take k).flatten := ⟨_, rfl⟩
   rw [← ho] at HNX HR HLE
   obtain ⟨A6, c6, e6⟩ := Kd.R_slice HR.out
   subst e6
   have hkI : (k : Int) < (L.length : Int) := by omega
   have hk8 : (k : Int) ≤ 100000000 := by have := HL.out; omega
   have HCX := aMk hC'
   subst ead
   clear hx hcell hC' hc' ho
   go_wp2_with ((with_reducible refine gate_builtin (b := .append) (xs := #[.tmp 14, .tmp 21]) rfl ?_); at_builtin; refine Kd.R_append_rows (Kd.int .i64) (w0 := w) w.heap.size rfl (.tmp 14) (.tmp 21) 22 3 (.int .i64 0) 8 rfl Tryz.underlying22 info3 rfl (by decide) (by omega) _ o x A' x.length c' (fun _ => True) (fun _ => False) (by first | (go_simp; done) | (go_simp; rfl)) (by first | (go_simp; done) | (go_simp; rfl)) HR.out HCX.out (fun x cs h => h) (fun _ h => h.elim) (fun _ _ => trivial) HB.out HB.out.size (by have := HLE.out; omega) ?_; intro v4 w4 hv hb hg hat; have HR4 := aMk hv; have HB4 := aMk hb; clear hv hb hg hat)
   exact ⟨⟨k + 1, by go_num, by omega, ⟨by rw [HNX.out]; exact HR4.out⟩, HB4⟩, by simp [intOf]; omega⟩
  ·obtain rfl : k = L.length := by omega
   rw [List.take_length] at HR
   clear hlt
   go_wp2
   go_ret
   exact ⟨_, rfl, HR.out, HB.out⟩
end Cel
end
section
namespace Cel
open U PClusterFinest UGroups UFinEv
open CFin (rd33 info33 cells33 one33)
theorem refClusters_c {w : World} {D : Nat → Prop} {b : Nat} {L : List (List Int)} {J : List S33} (h : CellsAt 102 w D b L J) (hN : L.length ≤ 1000000) (hJ : J.length ≤ 1000000) (hF : L.flatten.length ≤ 10000000) (R : Value → Int → World → Prop)
 (hfin : ∀ w1 u, SLk k45 w1 u (linksOf L (groups L.length J)).1 → Below w.heap.size w w1 → Calls Tryz.prog 122 #[.int .i64 L.length, .int .i64 (linksOf L (groups L.length J)).2, u] w1 fun e w' => ∃ u r, e = .returned (.tuple #[u, .int .i64 r]) ∧ R u r w' ∧ Below w1.heap.size w1 w') :
 Calls Tryz.prog 65 #[ptr b] w fun e w' => ∃ u r, e = .returned (.tuple #[u, .int .i64 r]) ∧ R u r w' ∧ Below w.heap.size w w' := by
 obtain ⟨Dr, Dt, A, c, vt, hp⟩ := h.open_
 obtain ⟨At, ct, evt⟩ := Kd.R_slice hp.h3
 subst evt
 have c0 := (blk_cell hp.h1 0).trans rfl
 have c1 := (blk_cell hp.h1 1).trans rfl
 have HC : Aside0 (Kd.C (Kd.slice 3 (Kd.int .i64)) w A L.length L) := ⟨by obtain ⟨A', c', e', h1, h2⟩ := hp.h2.reads 3; injection e' with e1 e2 e3; subst e1; exact h2⟩
 have HSJ := aMk (SLk.of_R hp.h3)
 have HN := aMk hN
 have HJ := aMk hJ
 have HF := aMk hF
 have HFIN := aMk hfin
 obtain ⟨gs, hgs⟩ : ∃ gs, gs = groups L.length J := ⟨_, rfl⟩
 have HGS := aMk hgs
 have HGM : Aside0 (∀ s ∈ gs, 0 ≤ s.f0 ∧ s.f0 < s.f1 ∧ s.f1 ≤ (L.length : Int)) := ⟨by rw [hgs]; exact grp_mem L.length J L.length (qlR _)⟩
 have HGL : Aside0 (gs.length ≤ L.length) := ⟨by rw [hgs]; exact grp_len L.length J L.length⟩
 rw [← hgs] at HFIN
 clear h hp hN hJ hF hfin hgs
 go_enter Tryz.func65, Tryz.ntmps65
 go_upto_region 1 with (fail)
 have HBD : Aside0 (Below w.heap.size w w.drew) := ⟨below_drew (qBr _ _)⟩
 refine start_ (n := 11) (S := (fun W => Below w.heap.size w W)) (ds := []) #[false, false, false, false, false, false, false, false, false, false, false] (by kernel_rfl) (by kernel_rfl) (by rfl) HBD.out (fun hS0 => ?_)
 refine pure_ (i := 0) (N := (some 10)) (v := ?_) (a' := ?_) #[true, false, false, false, false, false, false, false, false, false, false] rfl rfl (by kernel_rfl) (fun _ _ _ h => h) (Or.inl ⟨by rfl, ?_⟩) ?_ ?_
 rotate_left
 ·intro w'
  go_simp
  with_reducible rfl
 rotate_left
 ·simp only [Act.put, sqA, sq0, sq1]
  rfl
 refine pure_ (i := 1) (N := (some 11)) (v := ?_) (a' := ?_) #[true, true, false, false, false, false, false, false, false, false, false] rfl rfl (by kernel_rfl) (fun _ _ _ h => h) (Or.inl ⟨by rfl, ?_⟩) ?_ ?_
 rotate_left
 ·intro w'
  go_simp
  with_reducible rfl
 rotate_left
 ·simp only [Act.put, sqA, sq0, sq1]
  rfl
 refine pure_ (i := 2) (N := (some 12)) (v := ?_) (a' := ?_) #[true, true, true, false, false, false, false, false, false, false, false] rfl rfl (by kernel_rfl) (fun _ _ _ h => h) (Or.inl ⟨by rfl, ?_⟩) ?_ ?_
 rotate_left
 ·intro w'
  go_simp
  with_reducible rfl
 rotate_left
 ·simp only [Act.put, sqA, sq0, sq1]
  rfl
 refine take_ (i := 3) (N := (some 13)) (v := ?_) (a' := ?_) #[true, true, true, true, false, false, false, false, false, false, false] rfl rfl (by kernel_rfl) (fun _ _ _ h => h) (Or.inl ⟨by rfl, ?_⟩) hS0 ?_ ?_
 rotate_left
 ·intro w' s0
  have hx0 := (s0.cell (qwL _ _ c0)).trans c0
  go_simp
  with_reducible rfl
 rotate_left
 ·simp only [Act.put, sqA, sq0, sq1]
  rfl
 refine pure_ (i := 4) (N := (some 14)) (v := ?_) (a' := ?_) #[true, true, true, true, true, false, false, false, false, false, false] rfl rfl (by kernel_rfl) (fun _ _ _ h => h) (Or.inl ⟨by rfl, ?_⟩) ?_ ?_
 rotate_left
 ·intro w'
  go_simp
  with_reducible rfl
 rotate_left
 ·simp only [Act.put, sqA, sq0, sq1]
  rfl
 refine pure_ (i := 5) (N := (some 15)) (v := ?_) (a' := ?_) #[true, true, true, true, true, true, false, false, false, false, false] rfl rfl (by kernel_rfl) (fun _ _ _ h => h) (Or.inl ⟨by rfl, ?_⟩) ?_ ?_
 rotate_left
 ·intro w'
  go_simp
  with_reducible rfl
 rotate_left
 ·simp only [Act.put, sqA, sq0, sq1]
  rfl
 refine pure_ (i := 6) (N := (some 16)) (v := ?_) (a' := ?_) #[true, true, true, true, true, true, true, false, false, false, false] rfl rfl (by kernel_rfl) (fun _ _ _ h => h) (Or.inl ⟨by rfl, ?_⟩) ?_ ?_
 rotate_left
 ·intro w'
  go_simp
  with_reducible rfl
 rotate_left
 ·simp only [Act.put, sqA, sq0, sq1]
  rfl
 refine pure_ (i := 7) (N := (some 17)) (v := ?_) (a' := ?_) #[true, true, true, true, true, true, true, true, false, false, false] rfl rfl (by kernel_rfl) (fun _ _ _ h => h) (Or.inl ⟨by rfl, ?_⟩) ?_ ?_
 rotate_left
 ·intro w'
  go_simp
  with_reducible rfl
 rotate_left
 ·simp only [Act.put, sqA, sq0, sq1]
  rfl
 refine take_ (i := 8) (N := (some 18)) (v := ?_) (a' := ?_) #[true, true, true, true, true, true, true, true, true, false, false] rfl rfl (by kernel_rfl) (fun _ _ _ h => h) (Or.inl ⟨by rfl, ?_⟩) hS0 ?_ ?_
 rotate_left
 ·intro w' s0
  have hx0 := (s0.cell (qwL _ _ c1)).trans c1
  go_simp
  with_reducible rfl
 rotate_left
 ·simp only [Act.put, sqA, sq0, sq1]
  rfl
 clear hS0
 refine one_ (i := 9) (N := (some 19)) #[true, true, true, true, true, true, true, true, true, true, false] rfl rfl (by kernel_rfl) (by decide) (fun K hK => ?_)
 refine goes_ Tryz.func121 (by kernel_rfl) rfl #[.int .i64 L.length, .slice At J.length ct] (by rfl) rfl rfl (by go_simp; done) ?_
 refine (refGroups_c L.length HN.out (SLk.below HSJ.out HBD.out) HJ.out).mono ?_
 rintro e w2 ⟨u, rfl, hR, hb2⟩
 rw [← HGS.out] at hR
 obtain ⟨A2, c2, eu⟩ := Kd.R_slice hR
 subst eu
 refine ⟨_, rfl, ?_⟩
 have HG2 := aMk (Kd.R_lower hR (Nat.zero_le _))
 have HB2 : Aside0 (Below w.heap.size w w2) := ⟨qbP HBD.out hb2⟩
 clear hR hb2
 change K (Act.put _ (some 19) _) _
 refine hK.out _ _ HB2.out (fun hS0 => ?_)
 clear hK
 refine norm_ (a' := ?_) ?_ ?_
 rotate_left
 ·simp only [Act.put, sqA, sq0, sq1]
  rfl
 refine pure_ (i := 10) (N := (some 4)) (v := ?_) (a' := ?_) #[true, true, true, true, true, true, true, true, true, true, true] rfl rfl (by kernel_rfl) (fun _ _ _ h => h) (Or.inl ⟨by rfl, ?_⟩) ?_ ?_
 rotate_left
 ·intro w'
  go_simp
  with_reducible rfl
 rotate_left
 ·simp only [Act.put, sqA, sq0, sq1]
  rfl
 refine done_ (by kernel_rfl) ?_
 clear hS0 HBD
 go_wp2
 go_loopw [5, 6, 7] (fun v5 v6 v wr => ∃ k : Nat, v = .int .i64 (k : Int) ∧ k ≤ gs.length ∧ v6 = .int .i64 ((linksOf L (gs.take k)).2 : Nat) ∧ Aside0 (Kd.R k45 36 wr w.heap.size (fun _ => True) v5 (linksOf L (gs.take k)).1) ∧ Aside0 (Kd.R k33 34 wr 0 (fun _ => True) (.slice A2 gs.length c2) gs) ∧ Aside0 (Below w.heap.size w wr)) (fun _ _ v _ => gs.length - (intOf v).toNat)
 case atStart => exact ⟨0, rfl, Nat.zero_le _, rfl, ⟨Kd.R_nil _ _ _ _ _⟩, HG2, HB2⟩
 case round =>
  clear HG2 HB2
  obtain ⟨wo, ewo⟩ : ∃ wo, wo = wr := ⟨_, rfl⟩
  subst ewo
  obtain ⟨k, rfl, hk, rfl, HR, HG, HB⟩ := hrel
  have r0 := (HB.out.cell (qwL _ _ c0)).trans c0
  by_cases hlt : k < gs.length
  ·obtain ⟨x, hx⟩ : ∃ x, x = gs[k] := ⟨_, rfl⟩
   have hxm := HGM.out x (by rw [hx]; exact List.getElem_mem hlt)
   obtain ⟨lo, hlo⟩ : ∃ lo : Nat, x.f0 = (lo : Int) := ⟨x.f0.toNat, by omega⟩
   obtain ⟨hi, hhi⟩ : ∃ hi : Nat, x.f1 = (hi : Int) := ⟨x.f1.toNat, by omega⟩
   obtain ⟨ad, ead, y0, y1⟩ := at_T33 (Kd.R_reads' HG.out).2.2 (k : Int) (by omega) (by omega)
   rw [rd33 hlt, qtN, ← hx, hlo] at y0
   rw [rd33 hlt, qtN, ← hx, hhi] at y1
   have hxe : x = ⟨(lo : Int), (hi : Int)⟩ := by rw [← hlo, ← hhi]
   obtain ⟨q, hq⟩ : ∃ q, q = linksOf L (gs.take k) := ⟨_, rfl⟩
   have HNX : Aside0 (linksOf L (gs.take (k + 1)) = linkStep L q ⟨(lo : Int), (hi : Int)⟩) := ⟨by rw [linksOf_take L hlt, ← hx, hxe, ← hq]⟩
   have hle := linksOf_le L gs k (by omega)
   rw [← hq] at hle HR ⊢
   have hF := HF.out
   have hNN := HN.out
   have hGL := HGL.out
   have hmul : k * L.flatten.length ≤ 1000000 * 10000000 := Nat.mul_le_mul (by omega) hF
   have HQ2 : Aside0 (q.2 ≤ 10000000000000) := ⟨by omega⟩
   have HQ1 : Aside0 (q.1.length ≤ 1000000) := ⟨by omega⟩
   obtain ⟨e0, he0⟩ : ∃ e0, e0 = q.2 := ⟨_, rfl⟩
   have HE0 := aMk he0
   rw [← he0] at HQ2 ⊢
   obtain ⟨AL, cL, eL⟩ := Kd.R_slice HR.out
   subst eL
   have HLH : Aside0 (lo < hi ∧ hi ≤ L.length) := ⟨by omega, by omega⟩
   have hkI : (k : Int) < (gs.length : Int) := by omega
   have hk8 : (k : Int) ≤ 1000000 := by omega
   obtain ⟨rs, hrs⟩ : ∃ rs, rs = rowOf L lo hi := ⟨_, rfl⟩
   have hrl : rs.length = hi - lo := by rw [hrs]; unfold rowOf; rw [List.length_take, List.length_drop]; omega
   have HRS := aMk hrs
   have HRL := aMk hrl
   have HFS : Aside0 (rs.flatten.length ≤ 10000000) := ⟨by rw [hrs]; exact qlT (rowOf_le L lo hi) hF⟩
   have HAT : Aside0 (∀ j, j < rs.length → lo + j < L.length ∧ L.getD (lo + j) [] = rs.getD j []) := ⟨fun j hj => by
    refine ⟨by omega, ?_⟩
    rw [hrs]
    unfold rowOf
    rw [qgD, qgD, List.getElem?_take, if_pos (by omega), List.getElem?_drop]⟩
   subst ead
   clear hx hxm hlo hhi hxe hq hle hF hNN hGL hmul he0 hrs hrl
   go_wp2
   go_loopw [6, 9] (fun v6 v wr => ∃ j : Nat, v = .int .i64 ((lo + j : Nat) : Int) ∧ j ≤ rs.length ∧ v6 = .int .i64 ((e0 + (rs.take j).flatten.length : Nat) : Int) ∧ wr = wo) (fun _ v _ => hi - (intOf v).toNat)
   case atStart => exact ⟨0, rfl, Nat.zero_le _, by simp, by first | trivial | rfl⟩
   case round =>
    obtain ⟨j, rfl, hj, rfl, ewr⟩ := hrel
    subst ewr
    by_cases hlj : j < rs.length
    ·obtain ⟨hln, hget⟩ := HAT.out j hlj
     obtain ⟨y, hy⟩ : ∃ y, y = rs[j] := ⟨_, rfl⟩
     obtain ⟨p, hp⟩ : ∃ p, p = lo + j := ⟨_, rfl⟩
     rw [← hp] at hln hget ⊢
     obtain ⟨ae, cs, eae, _, hK, hcell⟩ := Kd.C_get (Kd.C_below HC.out HB.out) [] (p : Int) (by omega) (by omega)
     rw [qtN, hget, show rs.getD j [] = y by rw [hy, qgD, qgG hlj]; rfl] at hK
     obtain ⟨A', c', rfl, hc', hC'⟩ := hK
     have z0 := hcell 0 _ rfl
     rw [qtN, show (Kd.slice 3 (Kd.int .i64)).sz = 1 from rfl, Nat.add_zero, Nat.mul_one] at z0
     have HNJ : Aside0 ((rs.take (j + 1)).flatten.length = (rs.take j).flatten.length + y.length) := ⟨by rw [flat_take hlj, List.length_append, hy]⟩
     have HLE : Aside0 ((rs.take (j + 1)).flatten.length ≤ 10000000) := ⟨qlT (flat_le rs (j + 1)) HFS.out⟩
     obtain ⟨s, hs⟩ : ∃ s, s = (rs.take j).flatten.length := ⟨_, rfl⟩
     rw [← hs] at HNJ ⊢
     have hsl : s + y.length ≤ 10000000 := by rw [← HNJ.out]; exact HLE.out
     have hq2 := HQ2.out
     have ew : IntKind.i64.wrap ((e0 : Int) + (s : Int) + (y.length : Int)) = (e0 : Int) + (s : Int) + (y.length : Int) := IntWalk.i64_in _ (by omega)
     have hes : ((e0 + s : Nat) : Int) = (e0 : Int) + (s : Int) := by omega
     rw [hes]
     clear hes
     have hpI : (p : Int) < (hi : Int) := by have := HRL.out; omega
     have hpL : (p : Int) < (L.length : Int) := by omega
     have hp8 : (p : Int) ≤ 1000000 := by have := HN.out; omega
     have HPE := aMk hp
     subst eae
     clear hy hcell hC' hc' hs hsl hq2 hp hget hln
     go_wp2
     exact ⟨⟨j + 1, by rw [show ((lo + (j + 1) : Nat) : Int) = (p : Int) + 1 by have := HPE.out; omega]; try go_num, by omega, by rw [HNJ.out, show ((e0 + (s + y.length) : Nat) : Int) = (e0 : Int) + (s : Int) + (y.length : Int) by omega], by first | trivial | rfl⟩, by have := HPE.out; simp [intOf]; omega⟩
    ·obtain rfl : j = rs.length := by omega
     rw [List.take_length]
     have elh : lo + rs.length = hi := by have := HRL.out; have := HLH.out; omega
     rw [elh]
     obtain ⟨e1, he1⟩ : ∃ e1, e1 = e0 + rs.flatten.length := ⟨_, rfl⟩
     rw [← he1]
     have HSTEP : Aside0 (linksOf L (gs.take (k + 1)) = (if e0 < e1 then q.1 ++ [⟨⟨(lo : Int), (hi : Int)⟩, ⟨(e0 : Int), (e1 : Int)⟩⟩] else q.1, e1)) := ⟨by
      rw [HNX.out]
      unfold linkStep
      dsimp only
      rw [qtN, qtN, ← HRS.out, ← HE0.out, ← he1]⟩
     clear hlj he1 elh
     by_cases hee : e0 < e1
     ·have hI : (e0 : Int) < (e1 : Int) := by omega
      have HNL := aMk hee; clear hee
      go_wp2_with ((with_reducible refine gate_builtin (b := .append) (xs := #[.tmp 54, .tmp 63]) rfl ?_); at_builtin; refine Kd.R_append k45 (w0 := w) w.heap.size rfl (.tmp 54) (.tmp 63) 26 36 (.agg #[(.int .i64 0), (.int .i64 0), (.int .i64 0), (.int .i64 0)]) 32 rfl Tryz.underlying26 info45 rfl (by decide) (by omega) _ q.1 (⟨⟨(lo : Int), (hi : Int)⟩, ⟨(e0 : Int), (e1 : Int)⟩⟩ : S45) [.int .i64 lo, .int .i64 hi, .int .i64 e0, .int .i64 e1] (fun _ => True) (fun _ => False) rfl (by first | (go_simp; done) | (go_simp; rfl)) (k45_mkM _ _ _ (⟨⟨(lo : Int), (hi : Int)⟩, ⟨(e0 : Int), (e1 : Int)⟩⟩ : S45)) (fun _ h => h.elim) (fun _ _ => trivial) HR.out HB.out HB.out.size (by have := HQ1.out; omega) ?_; intro v11 w11 hv hb hg hat; have HR11 := aMk hv; have HB11 := aMk hb; have HG11 : Aside0 (Kd.R k33 34 w11 0 (fun _ => True) (.slice (some ad) gs.length c2) gs) := ⟨qrM (Kd.R_grown (Kd.R_bound HG.out) hg (fun p hp => apart33 HR.out hp)) (fun _ _ => trivial)⟩; clear hv hb hg hat)
      exact ⟨⟨k + 1, by go_num, by omega, by rw [HSTEP.out], ⟨by rw [HSTEP.out, if_pos HNL.out]; exact HR11.out⟩, HG11, HB11⟩, by simp [intOf]; omega⟩
     ·have hI : ¬ (e0 : Int) < (e1 : Int) := by omega
      have HNL := aMk hee; clear hee
      go_wp2
      exact ⟨⟨k + 1, by go_num, by omega, by rw [HSTEP.out], ⟨by rw [HSTEP.out, if_neg HNL.out]; exact HR.out⟩, HG, HB⟩, by simp [intOf]; omega⟩
  ·obtain rfl : k = gs.length := by omega
   rw [List.take_length] at HR ⊢
   clear hlt
   have HS := aMk (SLk.of_R HR.out)
   go_wp2_with (go_at_call 122; refine (HFIN.out _ _ HS.out HB.out).mono ?_; rintro e w12 ⟨u, r, rfl, hR, hb12⟩; have HRR := aMk hR; have HB12 : Aside0 (Below w.heap.size w w12) := ⟨qbP HB.out hb12⟩; clear hR hb12)
   refine bodyPost_ret (results_tmp2 rfl _ _ _) rfl ?_
   exact ⟨_, _, rfl, HRR.out, HB12.out⟩
end Cel
end
end Go.Proofs.YtemhccjjcioodaaGreat
