/- cluster.covered, cluster.may: walked. -/
import Derived.Test.YtohhobcipfmkbaaCSort1
namespace Go.Proofs.Ytohhobcipfmkbaa.CFin
open Go.RowKit Go.Proofs.YtohhobcipfmkbaaW.PrintWords Go.Proofs.YtohhobcipfmkbaaW.PrintMore Go.Proofs.YtohhobcipfmkbaaW.PrintLast Go.Proofs.Ytohhobcipfmkbaa.U Go.Proofs.Ytohhobcipfmkbaa.PClusterFinest Go.Proofs.Ytohhobcipfmkbaa.UFinest Go.Proofs.Ytohhobcipfmkbaa.UFinEv
set_option linter.unusedVariables false
set_option linter.unusedSimpArgs false
attribute [local go_sem] max2_int min2_int max_two min_two
def covTo (m : Int) : List S33 → Int → Bool
  | [], e => decide (m ≤ e)
  | s :: r, e => if e < s.f0 then false else covTo m r (if e < s.f1 then s.f1 else e)
theorem covTo_eq (m : Nat) (d : List S33) : ∀ (e : Nat) (P : Nat → Prop) (hd : ∀ s ∈ d, 0 ≤ s.f0 ∧ s.f0 < s.f1 ∧ s.f1 ≤ m) (hs : d.Pairwise (fun a b => ¬ b.f0 < a.f0)) (h1 : ∀ i, i < e → P i) (h2 : ∀ i, P i → i < e ∨ ∃ s ∈ d, s.f0 ≤ i ∧ (i : Int) < s.f1) (h3 : ∀ s ∈ d, ∀ i : Nat, s.f0 ≤ i → (i : Int) < s.f1 → P i) , (covTo m d e = true ↔ ∀ i, i < m → P i) := by
  induction d with
  | nil =>
    intro e P hd hs h1 h2 h3
    unfold covTo
    rw [decide_eq_true_eq]
    constructor
    · intro h i hi; exact h1 i (by omega)
    · intro h
      apply Decidable.byContradiction
      intro hc
      rcases h2 e (h e (by omega)) with h | ⟨s, hs, _⟩
      · omega
      · cases hs
  | cons s r ih =>
    intro e P hd hs h1 h2 h3
    unfold covTo
    obtain ⟨d0, d1, d2⟩ := hd s List.mem_cons_self
    rw [List.pairwise_cons] at hs
    by_cases hlt : (e : Int) < s.f0
    · rw [if_pos hlt]
      constructor
      · intro h; cases h
      · intro h
        exfalso
        rcases h2 e (h e (by omega)) with h | ⟨t, ht, ht1, ht2⟩
        · omega
        · rcases List.mem_cons.1 ht with rfl | ht
          · omega
          · have := hs.1 t ht; omega
    · rw [if_neg hlt]
      have hE : ∃ e' : Nat, (if (e : Int) < s.f1 then s.f1 else (e : Int)) = (e' : Int) ∧ e ≤ e' ∧ s.f1 ≤ e' ∧ ((e' : Int) = e ∨ (e' : Int) = s.f1) := by
        by_cases h : (e : Int) < s.f1
        · rw [if_pos h]; exact ⟨s.f1.toNat, by omega, by omega, by omega, by omega⟩
        · rw [if_neg h]; exact ⟨e, rfl, by omega, by omega, by omega⟩
      obtain ⟨e', he, h4, h5, h6⟩ := hE
      rw [he]
      refine ih e' P (fun t ht => hd t (List.mem_cons_of_mem _ ht)) hs.2 (fun i hi => ?_) (fun i hi => ?_) (fun t ht => h3 t (List.mem_cons_of_mem _ ht))
      · by_cases h : i < e
        · exact h1 i h
        · exact h3 s List.mem_cons_self i (by omega) (by omega)
      · rcases h2 i hi with h | ⟨t, ht, ht1, ht2⟩
        · exact .inl (by omega)
        · rcases List.mem_cons.1 ht with rfl | ht
          · exact .inl (by omega)
          · exact .inr ⟨t, ht, ht1, ht2⟩
theorem cov_all (m : Nat) (l : List S45) (d : List S33) (hp : d.Perm (l.map (·.f1))) (hs : d.Pairwise (fun a b => ¬ b.f0 < a.f0)) (hd : ∀ x ∈ l, 0 ≤ x.f1.f0 ∧ x.f1.f0 < x.f1.f1 ∧ x.f1.f1 ≤ m) : covTo m d 0 = (List.range m).all (outB l) := by
  have hm : ∀ s, s ∈ d ↔ ∃ x ∈ l, x.f1 = s := fun s => by rw [hp.mem_iff, List.mem_map]
  have hP : ∀ i : Nat, outB l i = true ↔ ∃ x ∈ l, x.f1.f0 ≤ (i : Int) ∧ (i : Int) < x.f1.f1 := fun i => by
    unfold outB
    rw [List.any_eq_true]
    simp
  have := covTo_eq m d 0 (fun i => outB l i = true) (fun s hs => by obtain ⟨x, hx, rfl⟩ := (hm s).1 hs; exact hd x hx) hs (fun i h => absurd h (Nat.not_lt_zero i)) (fun i h => by
    obtain ⟨x, hx, h1, h2⟩ := (hP i).1 h
    exact .inr ⟨x.f1, (hm _).2 ⟨x, hx, rfl⟩, h1, h2⟩) (fun s hs i h1 h2 => by
    obtain ⟨x, hx, rfl⟩ := (hm s).1 hs
    exact (hP i).2 ⟨x, hx, h1, h2⟩)
  rw [Bool.eq_iff_iff]
  rw [List.all_eq_true]
  simp only [List.mem_range]
  exact this
theorem rd33 {xs : List S33} {k : Nat} (h : k < xs.length) : rd_T33 xs ((k : Nat) : Int) = xs[k] := by
  unfold rd_T33
  rw [Int.toNat_natCast, List.getD_eq_getElem?_getD, List.getElem?_eq_getElem h]; rfl
set_option maxRecDepth 100000 in
set_option maxHeartbeats 2000000 in
theorem covered_c {w : World} {v : Value} {l : List S45} (m : Nat) (h : SLk k45 w v l) (hl : l.length ≤ 1000000) (hd : ∀ x ∈ l, 0 ≤ x.f1.f0 ∧ x.f1.f0 < x.f1.f1 ∧ x.f1.f1 ≤ m) :
    Calls Try.prog 82 #[.int .i64 m, v] w fun e w' => e = .returned (.bool ((List.range m).all (outB l))) ∧ Below w.heap.size w w' := by
  have H := Aside0.mk h
  have HD := Aside0.mk hd
  have HL := Aside0.mk hl
  clear h hd
  go_enter Try.func82, Try.ntmps82
  go_wp2_with (first | (go_at_call 52; refine (sides_c H.out HL.out).mono ?_; rintro e w1 ⟨u1, u2, rfl, a1, a2, a3, a4⟩; have HR1 := Aside0.mk a2; have HB1 := Aside0.mk a4; clear a1 a2 a3 a4) | (go_at_call 94; refine (CSort.sort_c HR1.out (by rw [List.length_map]; exact HL.out)).mono ?_; rintro e w2 ⟨rfl, d, p1, p2, p3, p4⟩; have HP := Aside0.mk (cov_all m l d p1 p2 HD.out); have hdl := p1.length_eq; rw [List.length_map] at hdl; have HDL := Aside0.mk hdl; have HS := Aside0.mk p3; have HB2 : Aside0 (Below w.heap.size w w2) := ⟨HB1.out.grown p4 HB1.out.size (fun j hj => Kd.R_base HR1.out j hj)⟩; clear p1 p2 p3 p4 HR1 HB1 hdl; obtain ⟨A, c, rfl, _, hC⟩ := HS.out; have HC := Aside0.mk hC; clear hC HS))
  have hdm : d.length ≤ 1000000 := by rw [HDL.out]; exact hl
  have HTG : Aside0 (covTo m (d.drop 0) 0 = (List.range m).all (outB l)) := ⟨HP.out⟩
  go_loopw [7, 19] (fun v7 v wr => ∃ (k : Nat) (e : Int), v = .int .i64 (k : Int) ∧ v7 = .int .i64 e ∧ k ≤ d.length ∧ Aside0 (covTo m (d.drop k) e = (List.range m).all (outB l)) ∧ Aside0 (Kd.C k33 wr A d.length d) ∧ Aside0 (Below w.heap.size w wr)) (fun _ v _ => d.length - (intOf v).toNat)
  case atStart => exact ⟨0, 0, rfl, rfl, Nat.zero_le _, HTG, HC, HB2⟩
  case round =>
    clear HTG HC HB2
    obtain ⟨k, e, rfl, rfl, hk, HT, HC, HB⟩ := hrel
    by_cases hlt : k < d.length
    · obtain ⟨ad, ead, c0, c1⟩ := at_T33 HC.out (k : Int) (by omega) (by omega)
      rw [rd33 hlt, Int.toNat_natCast] at c0 c1
      obtain ⟨x, hx⟩ : ∃ x, x = d[k] := ⟨_, rfl⟩
      rw [← hx] at c0 c1
      have hT := HT.out
      rw [List.drop_eq_getElem_cons hlt, ← hx, covTo] at hT
      have hkI : (k : Int) < (d.length : Int) := by omega
      have HEA := Aside0.mk ead
      subst ead
      clear hx HT
      by_cases hc : e < x.f0
      · rw [if_pos hc] at hT
        have HTT := Aside0.mk hT
        clear hT
        go_wp2_with (first | ((with_reducible refine gate_dst (N := 9) rfl ?_); refine box_event ?hg (N := 9) ?hd (cs := #[.int .i64 0, .int .i64 0]) (t := 33) ?hr ?_; (case hd => rfl); (case hg => rfl); (case hr => first | (go_simp; done) | (go_simp; rfl)); intro gb hg w6 hbox hb; have HX6 := Aside0.mk hbox; have HGE : Aside0 (w.heap.size ≤ gb) := ⟨by rw [hg]; exact HB.out.size⟩; have HB6 : Aside0 (Below w.heap.size w w6) := ⟨below_step HB.out hb⟩; have z0 : w6.cell? ⟨gb, 0, none⟩ = some (.int .i64 0) := (blk_cell hbox 0).trans rfl; have z1 : w6.cell? ⟨gb, 1, none⟩ = some (.int .i64 0) := (blk_cell hbox 1).trans rfl; have f0 := blk_frozen hbox 0; have f1 := blk_frozen hbox 1; clear hg hbox hb HB))
        go_ret
        exact ⟨by rw [← HTT.out]; rfl, (HB6.out.setCell (p := ⟨gb, 0, none⟩) HGE.out _).setCell (p := ⟨gb, 1, none⟩) HGE.out _⟩
      · rw [if_neg hc] at hT
        obtain ⟨e2, he2⟩ : ∃ e2, e2 = if e < x.f1 then x.f1 else e := ⟨_, rfl⟩
        rw [← he2] at hT
        have HTT := Aside0.mk hT
        have HE2 := Aside0.mk he2
        clear hT he2
        go_wp2_with (first | ((with_reducible refine gate_dst (N := 9) rfl ?_); refine box_event ?hg (N := 9) ?hd (cs := #[.int .i64 0, .int .i64 0]) (t := 33) ?hr ?_; (case hd => rfl); (case hg => rfl); (case hr => first | (go_simp; done) | (go_simp; rfl)); intro gb hg w6 hbox hb; have HX6 := Aside0.mk hbox; have HGE : Aside0 (w.heap.size ≤ gb) := ⟨by rw [hg]; exact HB.out.size⟩; have HGW : Aside0 (gb = wr.heap.size) := ⟨hg⟩; have HB6 : Aside0 (Below w.heap.size w w6) := ⟨below_step HB.out hb⟩; have HB06 : Aside0 (Below wr.heap.size wr w6) := ⟨hb⟩; have z0 : w6.cell? ⟨gb, 0, none⟩ = some (.int .i64 0) := (blk_cell hbox 0).trans rfl; have z1 : w6.cell? ⟨gb, 1, none⟩ = some (.int .i64 0) := (blk_cell hbox 1).trans rfl; have f0 := blk_frozen hbox 0; have f1 := blk_frozen hbox 1; clear hg hbox hb HB))
        have HB8 : Below wr.heap.size wr ((w6.setCell ⟨gb, 0, none⟩ (.int .i64 x.f0)).setCell ⟨gb, 1, none⟩ (.int .i64 x.f1)) := (HB06.out.setCell (p := ⟨gb, 0, none⟩) (by rw [HGW.out]; exact Nat.le_refl _) _).setCell (p := ⟨gb, 1, none⟩) (by rw [HGW.out]; exact Nat.le_refl _) _
        exact ⟨⟨k + 1, e2, by go_num, by rw [HE2.out], by omega, HTT, ⟨Kd.C_below HC.out HB8⟩, ⟨(HB6.out.setCell (p := ⟨gb, 0, none⟩) HGE.out _).setCell (p := ⟨gb, 1, none⟩) HGE.out _⟩⟩, by simp [intOf]; omega⟩
    · have ek : k = d.length := by omega
      subst ek
      have hT := HT.out
      rw [List.drop_length, covTo] at hT
      have HTT := Aside0.mk hT
      clear hT HT
      go_wp2_with fail
      go_ret
      exact ⟨by rw [← HTT.out]; rfl, HB.out⟩
theorem fits_f (lo hi n : Int) : cluster_fits.f lo hi n = some (fitB lo hi n) := by
  unfold cluster_fits.f span_Right.f fitB
  by_cases h1 : 0 ≤ lo <;> by_cases h2 : lo < hi <;> by_cases h3 : hi ≤ n <;> simp [h1, h2, h3]
set_option maxRecDepth 100000 in
set_option maxHeartbeats 2000000 in
theorem may_c {w : World} {v : Value} {l : List S45} (n m : Int) (h : SLk k45 w v l) (hl : l.length ≤ 1000000) :
    Calls Try.prog 58 #[.int .i64 n, .int .i64 m, v] w fun e w' => e = .returned (.int .i64 (wrongR n m l)) ∧ Below w.heap.size w w' := by
  obtain ⟨A, c, rfl, hcc, hC⟩ := h
  have HCC := Aside0.mk hcc
  have HC := Aside0.mk hC
  clear hC hcc
  go_enter Try.func58, Try.ntmps58
  by_cases h1 : n < 0
  · have HE : Aside0 (wrongR n m l = 1) := ⟨by unfold wrongR; rw [if_pos (.inl h1)]⟩
    go_wp2_with fail
    go_ret
    exact ⟨by rw [HE.out]; rfl, Below.refl _ _⟩
  by_cases h2 : n > 16777216
  · have HE : Aside0 (wrongR n m l = 1) := ⟨by unfold wrongR; rw [if_pos (.inr (.inl h2))]⟩
    go_wp2_with fail
    go_ret
    exact ⟨by rw [HE.out]; rfl, Below.refl _ _⟩
  by_cases h3 : m < 0
  · have HE : Aside0 (wrongR n m l = 1) := ⟨by unfold wrongR; rw [if_pos (.inr (.inr (.inl h3)))]⟩
    go_wp2_with fail
    go_ret
    exact ⟨by rw [HE.out]; rfl, Below.refl _ _⟩
  by_cases h4 : m > 16777216
  · have HE : Aside0 (wrongR n m l = 1) := ⟨by unfold wrongR; rw [if_pos (.inr (.inr (.inr h4)))]⟩
    go_wp2_with fail
    go_ret
    exact ⟨by rw [HE.out]; rfl, Below.refl _ _⟩
  have HE : Aside0 (wrongR n m l = if l.all (okB n m) then wrongIn n m l else 1) := ⟨by unfold wrongR; rw [if_neg (by omega)]⟩
  go_wp2_with fail
  go_loopw [25] (fun v wr => ∃ k : Nat, v = .int .i64 (k : Int) ∧ k ≤ l.length ∧ Aside0 (∀ x ∈ l.take k, okB n m x = true) ∧ Aside0 (Below w.heap.size w wr)) (fun v _ => l.length - (intOf v).toNat)
  case atStart => exact ⟨0, rfl, Nat.zero_le _, ⟨fun x hx => by simp at hx⟩, ⟨Below.refl _ _⟩⟩
  case round =>
    obtain ⟨k, rfl, hk, HA, HB⟩ := hrel
    by_cases hlt : k < l.length
    · obtain ⟨ad, ead, c0, c1, c2, c3⟩ := at_T45 (Kd.C_below HC.out HB.out) (k : Int) (by omega) (by omega)
      rw [rd45 hlt, Int.toNat_natCast] at c0 c1 c2 c3
      obtain ⟨x, hx⟩ : ∃ x, x = l[k] := ⟨_, rfl⟩
      rw [← hx] at c0 c1 c2 c3
      have HXE := Aside0.mk hx
      have hkI : (k : Int) < (l.length : Int) := by omega
      subst ead
      have hxl : x ∈ l := by rw [hx]; exact List.getElem_mem hlt
      have HXL := Aside0.mk hxl
      clear hx hxl
      obtain ⟨b1, hb1⟩ : ∃ b1, fitB x.f0.f0 x.f0.f1 n = b1 := ⟨_, rfl⟩
      have HQ1 := Aside0.mk hb1
      obtain ⟨b2, hb2⟩ : ∃ b2, fitB x.f1.f0 x.f1.f1 m = b2 := ⟨_, rfl⟩
      have HQ2 := Aside0.mk hb2
      clear hb1 hb2
      go_upto_region 6 with (first | ((with_reducible refine gate_dst (N := 8) rfl ?_); refine box_event ?hg (N := 8) ?hd (cs := #[.int .i64 0, .int .i64 0, .int .i64 0, .int .i64 0]) (t := 45) ?hr ?_; (case hd => rfl); (case hg => rfl); (case hr => first | (go_simp; done) | (go_simp; rfl)); intro gb hg w6 hbox hb; have HGE : Aside0 (w.heap.size ≤ gb) := ⟨by rw [hg]; exact HB.out.size⟩; have HB6 : Aside0 (Below w.heap.size w w6) := ⟨below_step HB.out hb⟩; have z0 : w6.cell? ⟨gb, 0, none⟩ = some (.int .i64 0) := (blk_cell hbox 0).trans rfl; have z1 : w6.cell? ⟨gb, 1, none⟩ = some (.int .i64 0) := (blk_cell hbox 1).trans rfl; have z2 : w6.cell? ⟨gb, 2, none⟩ = some (.int .i64 0) := (blk_cell hbox 2).trans rfl; have z3 : w6.cell? ⟨gb, 3, none⟩ = some (.int .i64 0) := (blk_cell hbox 3).trans rfl; have f0 := blk_frozen hbox 0; have f1 := blk_frozen hbox 1; have f2 := blk_frozen hbox 2; have f3 := blk_frozen hbox 3; have HX6 := Aside0.mk hbox; clear hg hbox hb HB))
      have HX := Aside0.mk (blk_put (blk_put (blk_put (blk_put HX6.out 0 (.int .i64 x.f0.f0) rfl) 1 (.int .i64 x.f0.f1) rfl) 2 (.int .i64 x.f1.f0) rfl) 3 (.int .i64 x.f1.f1) rfl)
      have HB7 := Aside0.mk ((((HB6.out.setCell (p := ⟨gb, 0, none⟩) HGE.out (.int .i64 x.f0.f0)).setCell (p := ⟨gb, 1, none⟩) HGE.out (.int .i64 x.f0.f1)).setCell (p := ⟨gb, 2, none⟩) HGE.out (.int .i64 x.f1.f0)).setCell (p := ⟨gb, 3, none⟩) HGE.out (.int .i64 x.f1.f1))
      generalize (((w6.setCell ⟨gb, 0, none⟩ (.int .i64 x.f0.f0)).setCell ⟨gb, 1, none⟩ (.int .i64 x.f0.f1)).setCell ⟨gb, 2, none⟩ (.int .i64 x.f1.f0)).setCell ⟨gb, 3, none⟩ (.int .i64 x.f1.f1) = w7 at HX HB7 ⊢
      have q0 := (blk_cell HX.out 0).trans rfl
      have q1 := (blk_cell HX.out 1).trans rfl
      clear z0 z1 z2 z3 f0 f1 f2 f3 HX6 HB6 c0 c1 c2 c3
      have T1 : Aside0 True := ⟨trivial⟩
      cases b1 with
      | false =>
        have HR : Aside0 (wrongR n m l = 1) := ⟨by rw [HE.out, if_neg]; intro h; have := List.all_eq_true.1 h x HXL.out; unfold okB at this; rw [HQ1.out] at this; cases this⟩
        go_wp2_with (first | (go_at_call 81; have tk := T1.out; clear T1 tk; refine (cluster_fits.calls x.f0.f0 x.f0.f1 n _ _ (fits_f _ _ _)).mono ?_; rintro e w8 ⟨rfl, hb8⟩; rw [HQ1.out]; have HB8 := Aside0.mk hb8; have q2 := (blk_cell ((hb8.block _ (blk_lt HX.out)).trans HX.out) 2).trans rfl; have q3 := (blk_cell ((hb8.block _ (blk_lt HX.out)).trans HX.out) 3).trans rfl; clear hb8))
        go_ret
        exact ⟨by rw [HR.out]; rfl, below_step HB7.out HB8.out⟩
      | true =>
        cases b2 with
        | false =>
          have HR : Aside0 (wrongR n m l = 1) := ⟨by rw [HE.out, if_neg]; intro h; have := List.all_eq_true.1 h x HXL.out; unfold okB at this; rw [HQ2.out, Bool.and_false] at this; cases this⟩
          go_wp2_with (first | (go_at_call 81; have tk := T1.out; clear T1 tk; refine (cluster_fits.calls x.f0.f0 x.f0.f1 n _ _ (fits_f _ _ _)).mono ?_; rintro e w8 ⟨rfl, hb8⟩; rw [HQ1.out]; have HB8 := Aside0.mk hb8; have q2 := (blk_cell ((hb8.block _ (blk_lt HX.out)).trans HX.out) 2).trans rfl; have q3 := (blk_cell ((hb8.block _ (blk_lt HX.out)).trans HX.out) 3).trans rfl; clear hb8) | (go_at_call 81; refine (cluster_fits.calls x.f1.f0 x.f1.f1 m _ _ (fits_f _ _ _)).mono ?_; rintro e w9 ⟨rfl, hb9⟩; rw [HQ2.out]; have HB9 := Aside0.mk hb9; clear hb9))
          go_ret
          exact ⟨by rw [HR.out]; rfl, below_step (below_step HB7.out HB8.out) HB9.out⟩
        | true =>
          go_wp2_with (first | (go_at_call 81; have tk := T1.out; clear T1 tk; refine (cluster_fits.calls x.f0.f0 x.f0.f1 n _ _ (fits_f _ _ _)).mono ?_; rintro e w8 ⟨rfl, hb8⟩; rw [HQ1.out]; have HB8 := Aside0.mk hb8; have q2 := (blk_cell ((hb8.block _ (blk_lt HX.out)).trans HX.out) 2).trans rfl; have q3 := (blk_cell ((hb8.block _ (blk_lt HX.out)).trans HX.out) 3).trans rfl; clear hb8) | (go_at_call 81; refine (cluster_fits.calls x.f1.f0 x.f1.f1 m _ _ (fits_f _ _ _)).mono ?_; rintro e w9 ⟨rfl, hb9⟩; rw [HQ2.out]; have HB9 := Aside0.mk hb9; clear hb9))
          exact ⟨⟨k + 1, by go_num, by omega, ⟨fun y hy => by
            rw [List.take_succ_eq_append_getElem hlt, List.mem_append, List.mem_singleton] at hy
            rcases hy with hy | rfl
            · exact HA.out y hy
            · rw [← HXE.out]; unfold okB; rw [HQ1.out, HQ2.out]; rfl⟩, ⟨below_step (below_step HB7.out HB8.out) HB9.out⟩⟩, by simp [intOf]; omega⟩
    · have ek : k = l.length := by omega
      subst ek
      have hall := HA.out
      rw [List.take_length] at hall
      have HW : Aside0 (wrongR n m l = wrongIn n m l) := ⟨by rw [HE.out, if_pos (List.all_eq_true.2 hall)]⟩
      have HALL := Aside0.mk hall
      clear hall HA
      obtain ⟨M, rfl⟩ : ∃ M : Nat, m = (M : Int) := ⟨m.toNat, by omega⟩
      have hd : ∀ x ∈ l, 0 ≤ x.f1.f0 ∧ x.f1.f0 < x.f1.f1 ∧ x.f1.f1 ≤ M := fun x hx => by
        have := HALL.out x hx
        unfold okB fitB at this
        simp only [Bool.and_eq_true, decide_eq_true_eq] at this
        exact ⟨this.2.1.1, this.2.1.2, this.2.2⟩
      have HD := Aside0.mk hd
      clear hd hlt
      by_cases c1 : (M : Int) = 0 ∧ n > 0
      · obtain ⟨c2, c3⟩ := c1
        have HR : Aside0 (wrongR n M l = 8) := ⟨by rw [HW.out]; unfold wrongIn; rw [if_pos ⟨c2, c3⟩]⟩
        go_wp2_with fail
        go_ret
        exact ⟨by rw [HR.out]; rfl, HB.out⟩
      · by_cases d1 : n = 0 ∧ (M : Int) > 0
        · obtain ⟨d2, d3⟩ := d1
          have HR : Aside0 (wrongR n M l = 13) := ⟨by rw [HW.out]; unfold wrongIn; rw [if_neg c1, if_pos ⟨d2, d3⟩]⟩
          have d4 : ¬ (M : Int) = 0 := by omega
          clear c1
          go_wp2_with fail
          go_ret
          exact ⟨by rw [HR.out]; rfl, HB.out⟩
        · have HWI : Aside0 (wrongIn n M l = if (List.range M).all (outB l) then 0 else 13) := ⟨by unfold wrongIn; rw [if_neg c1, if_neg d1, Int.toNat_natCast]⟩
          obtain ⟨b, hb⟩ : ∃ b, (List.range M).all (outB l) = b := ⟨_, rfl⟩
          have HBB := Aside0.mk hb
          clear hb
          have HSL : Aside0 (SLk k45 wr (.slice A l.length c) l) := ⟨SLk.mk (Kd.C_below HC.out HB.out) HCC.out⟩
          have hcase : (¬ (M : Int) = 0 ∧ ¬ n = 0) ∨ ((M : Int) = 0 ∧ n = 0) := by omega
          clear c1 d1
          rcases hcase with ⟨k1, k2⟩ | ⟨k1, k2⟩
          · cases b with
            | true =>
              have HR : Aside0 (wrongR n M l = 0) := ⟨by rw [HW.out, HWI.out, HBB.out]; rfl⟩
              go_wp2_with (first | (go_at_call 82; refine (covered_c M HSL.out hl HD.out).mono ?_; rintro e w2 ⟨rfl, hb2⟩; rw [HBB.out]; have HB2 := Aside0.mk hb2; clear hb2))
              go_ret
              exact ⟨by rw [HR.out]; rfl, below_step HB.out HB2.out⟩
            | false =>
              have HR : Aside0 (wrongR n M l = 13) := ⟨by rw [HW.out, HWI.out, HBB.out]; rfl⟩
              go_wp2_with (first | (go_at_call 82; refine (covered_c M HSL.out hl HD.out).mono ?_; rintro e w2 ⟨rfl, hb2⟩; rw [HBB.out]; have HB2 := Aside0.mk hb2; clear hb2))
              go_ret
              exact ⟨by rw [HR.out]; rfl, below_step HB.out HB2.out⟩
          · obtain rfl : M = 0 := by omega
            subst k2
            have HR : Aside0 (wrongR 0 (0 : Nat) l = 0) := ⟨by rw [HW.out, HWI.out]; rfl⟩
            have hb0 : b = true := HBB.out.symm
            subst hb0
            go_wp2_with (first | (go_at_call 82; refine (covered_c 0 HSL.out hl HD.out).mono ?_; rintro e w2 ⟨rfl, hb2⟩; rw [HBB.out]; have HB2 := Aside0.mk hb2; clear hb2))
            go_ret
            exact ⟨by rw [HR.out]; rfl, below_step HB.out HB2.out⟩
end Go.Proofs.Ytohhobcipfmkbaa.CFin
