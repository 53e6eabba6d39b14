/- Cut. -/
import Derived.Test.YtemhccjjcioodaaGreatKCSort1
import Derived.Test.YtemhccjjcioodaaGreatKCCelR
import Derived.Test.YtemhccjjcioodaaGreatKPEmbedJoinsx0
import Derived.Test.YtemhccjjcioodaaGreatKAl
set_option linter.unusedSimpArgs false
set_option linter.unusedVariables false
set_option maxRecDepth 100000
set_option maxHeartbeats 16000000
namespace Go.Proofs.YtemhccjjcioodaaGreat
open Go.RowKit YtemhccjjcioodaaGreatW.PrintLast YtemhccjjcioodaaGreatW.PrintMore YtemhccjjcioodaaGreatW.PrintWords
section
namespace CFin
open U PClusterFinest UFinest UFinEv
attribute [local go_sem] max2_int min2_int max_two min_two
def covTo (m : Int) : List S33 → Int → Bool
 | [], e => decide (m ≤ e)
 | s :: r, e => if e < s.f0 then false else covTo m r (if e < s.f1 then s.f1 else e)
theorem covTo_eq (m : Nat) (d : List S33) : ∀ (e : Nat) (P : Nat → Prop) (hd : ∀ s ∈ d, 0 ≤ s.f0 ∧ s.f0 < s.f1 ∧ s.f1 ≤ m) (hs : d.Pairwise (fun a b => ¬ b.f0 < a.f0)) (h1 : ∀ i, i < e → P i) (h2 : ∀ i, P i → i < e ∨ ∃ s ∈ d, s.f0 ≤ i ∧ (i : Int) < s.f1) (h3 : ∀ s ∈ d, ∀ i : Nat, s.f0 ≤ i → (i : Int) < s.f1 → P i) , (covTo m d e = true ↔ ∀ i, i < m → P i) := by
 induction d with
 | nil =>
  intro e P hd hs h1 h2 h3
  unfold covTo
  rw [decide_eq_true_eq]
  constructor
  ·intro h i hi; exact h1 i (by omega)
  ·intro h
   apply Decidable.byContradiction
   intro hc
   rcases h2 e (h e (by omega)) with h | ⟨s, hs, _⟩
   ·omega
   ·cases hs
 | cons s r ih =>
  intro e P hd hs h1 h2 h3
  unfold covTo
  obtain ⟨d0, d1, d2⟩ := hd s List.mem_cons_self
  rw [List.pairwise_cons] at hs
  by_cases hlt : (e : Int) < s.f0
  ·rw [if_pos hlt]
   constructor
   ·intro h; cases h
   ·intro h
    exfalso
    rcases h2 e (h e (by omega)) with h | ⟨t, ht, ht1, ht2⟩
    ·omega
    ·rcases List.mem_cons.1 ht with rfl | ht
     ·omega
     ·have := hs.1 t ht; omega
  ·rw [if_neg hlt]
   have hE : ∃ e' : Nat, (if (e : Int) < s.f1 then s.f1 else (e : Int)) = (e' : Int) ∧ e ≤ e' ∧ s.f1 ≤ e' ∧ ((e' : Int) = e ∨ (e' : Int) = s.f1) := by
    by_cases h : (e : Int) < s.f1
    ·rw [if_pos h]; exact ⟨s.f1.toNat, by omega, by omega, by omega, by omega⟩
    ·rw [if_neg h]; exact ⟨e, rfl, by omega, by omega, by omega⟩
   obtain ⟨e', he, h4, h5, h6⟩ := hE
   rw [he]
   refine ih e' P (fun t ht => hd t (List.mem_cons_of_mem _ ht)) hs.2 (fun i hi => ?_) (fun i hi => ?_) (fun t ht => h3 t (List.mem_cons_of_mem _ ht))
   ·by_cases h : i < e
    ·exact h1 i h
    ·exact h3 s List.mem_cons_self i (by omega) (by omega)
   ·rcases h2 i hi with h | ⟨t, ht, ht1, ht2⟩
    ·exact .inl (by omega)
    ·rcases List.mem_cons.1 ht with rfl | ht
     ·exact .inl (by omega)
     ·exact .inr ⟨t, ht, ht1, ht2⟩
theorem cov_all (m : Nat) (l : List S45) (d : List S33) (hp : d.Perm (l.map (·.f1))) (hs : d.Pairwise (fun a b => ¬ b.f0 < a.f0)) (hd : ∀ x ∈ l, 0 ≤ x.f1.f0 ∧ x.f1.f0 < x.f1.f1 ∧ x.f1.f1 ≤ m) : covTo m d 0 = (List.range m).all (outB l) := by
 have hm : ∀ s, s ∈ d ↔ ∃ x ∈ l, x.f1 = s := fun s => by rw [hp.mem_iff, List.mem_map]
 have hP : ∀ i : Nat, outB l i = true ↔ ∃ x ∈ l, x.f1.f0 ≤ (i : Int) ∧ (i : Int) < x.f1.f1 := fun i => by
  unfold outB
  rw [List.any_eq_true]
  simp
 have := covTo_eq m d 0 (fun i => outB l i = true) (fun s hs => by obtain ⟨x, hx, rfl⟩ := (hm s).1 hs; exact hd x hx) hs (fun i h => absurd h (Nat.not_lt_zero i)) (fun i h => by
  obtain ⟨x, hx, h1, h2⟩ := (hP i).1 h
  exact .inr ⟨x.f1, (hm _).2 ⟨x, hx, rfl⟩, h1, h2⟩) (fun s hs i h1 h2 => by
  obtain ⟨x, hx, rfl⟩ := (hm s).1 hs
  exact (hP i).2 ⟨x, hx, h1, h2⟩)
 rw [Bool.eq_iff_iff]
 rw [List.all_eq_true]
 simp only [List.mem_range]
 exact this
theorem rd33 {xs : List S33} {k : Nat} (h : k < xs.length) : rd_T33 xs ((k : Nat) : Int) = xs[k] := by
 unfold rd_T33
 rw [qtN, qgD, qgG h]; rfl
theorem covered_c {w : World} {v : Value} {l : List S45} (m : Nat) (h : SLk k45 w v l) (hl : l.length ≤ 1000000) (hd : ∀ x ∈ l, 0 ≤ x.f1.f0 ∧ x.f1.f0 < x.f1.f1 ∧ x.f1.f1 ≤ m) :
 Calls Tryz.prog 249 #[.int .i64 m, v] w fun e w' => e = .returned (.bool ((List.range m).all (outB l))) ∧ Below w.heap.size w w' := by
 have H := aMk h
 have HD := aMk hd
 have HL := aMk hl
 clear h hd
 go_enter Tryz.func249, Tryz.ntmps249
 go_wp2_with (first | (go_at_call 88; refine (sides_c H.out HL.out).mono ?_; rintro e w1 ⟨u1, u2, rfl, a1, a2, a3, a4⟩; have HR1 := aMk a2; have HB1 := aMk a4; clear a1 a2 a3 a4) | (go_at_call 276; refine (CSort.sort_c HR1.out (by rw [qlm]; exact HL.out)).mono ?_; rintro e w2 ⟨rfl, d, p1, p2, p3, p4⟩; have HP := aMk (cov_all m l d p1 p2 HD.out); have hdl := p1.length_eq; rw [qlm] at hdl; have HDL := aMk hdl; have HS := aMk p3; have HB2 : Aside0 (Below w.heap.size w w2) := ⟨HB1.out.grown p4 HB1.out.size (fun j hj => Kd.R_base HR1.out j hj)⟩; clear p1 p2 p3 p4 HR1 HB1 hdl; obtain ⟨A, c, rfl, _, hC⟩ := HS.out; have HC := aMk hC; clear hC HS))
 have hdm : d.length ≤ 1000000 := by rw [HDL.out]; exact hl
 have HTG : Aside0 (covTo m (d.drop 0) 0 = (List.range m).all (outB l)) := ⟨HP.out⟩
 go_loopw [7, 19] (fun v7 v wr => ∃ (k : Nat) (e : Int), v = .int .i64 (k : Int) ∧ v7 = .int .i64 e ∧ k ≤ d.length ∧ Aside0 (covTo m (d.drop k) e = (List.range m).all (outB l)) ∧ Aside0 (Kd.C k33 wr A d.length d) ∧ Aside0 (Below w.heap.size w wr)) (fun _ v _ => d.length - (intOf v).toNat)
 case atStart => exact ⟨0, 0, rfl, rfl, Nat.zero_le _, HTG, HC, HB2⟩
 case round =>
  clear HTG HC HB2
  obtain ⟨k, e, rfl, rfl, hk, HT, HC, HB⟩ := hrel
  by_cases hlt : k < d.length
  ·obtain ⟨ad, ead, c0, c1⟩ := at_T33 HC.out (k : Int) (by omega) (by omega)
   rw [rd33 hlt, qtN] at c0 c1
   obtain ⟨x, hx⟩ : ∃ x, x = d[k] := ⟨_, rfl⟩
   rw [← hx] at c0 c1
   have hT := HT.out
   rw [List.drop_eq_getElem_cons hlt, ← hx, covTo] at hT
   have hkI : (k : Int) < (d.length : Int) := by omega
   have HEA := aMk ead
   subst ead
   clear hx HT
   by_cases hc : e < x.f0
   ·rw [if_pos hc] at hT
    have HTT := aMk hT; clear hT
    go_wp2_with (first | ((with_reducible refine gate_dst (N := 9) rfl ?_); refine box_event ?hg (N := 9) ?hd (cs := #[.int .i64 0, .int .i64 0]) (t := 34) ?hr ?_; (case hd => rfl); (case hg => rfl); (case hr => go_simp; done); intro gb hg w6 hbox hb; have HX6 := aMk hbox; have HGE : Aside0 (w.heap.size ≤ gb) := ⟨by rw [hg]; exact HB.out.size⟩; have HB6 : Aside0 (Below w.heap.size w w6) := ⟨qbP HB.out hb⟩; have z0 : w6.cell? ⟨gb, 0, none⟩ = some (.int .i64 0) := (blk_cell hbox 0).trans rfl; have z1 : w6.cell? ⟨gb, 1, none⟩ = some (.int .i64 0) := (blk_cell hbox 1).trans rfl; have f0 := qbF hbox 0; have f1 := qbF hbox 1; clear hg hbox hb HB))
    go_ret
    exact ⟨by rw [← HTT.out]; rfl, (HB6.out.setCell (p := ⟨gb, 0, none⟩) HGE.out _).setCell (p := ⟨gb, 1, none⟩) HGE.out _⟩
   ·rw [if_neg hc] at hT
    obtain ⟨e2, he2⟩ : ∃ e2, e2 = if e < x.f1 then x.f1 else e := ⟨_, rfl⟩
    rw [← he2] at hT
    have HTT := aMk hT
    have HE2 := aMk he2
    clear hT he2
    go_wp2_with (first | ((with_reducible refine gate_dst (N := 9) rfl ?_); refine box_event ?hg (N := 9) ?hd (cs := #[.int .i64 0, .int .i64 0]) (t := 34) ?hr ?_; (case hd => rfl); (case hg => rfl); (case hr => go_simp; done); intro gb hg w6 hbox hb; have HX6 := aMk hbox; have HGE : Aside0 (w.heap.size ≤ gb) := ⟨by rw [hg]; exact HB.out.size⟩; have HGW : Aside0 (gb = wr.heap.size) := ⟨hg⟩; have HB6 : Aside0 (Below w.heap.size w w6) := ⟨qbP HB.out hb⟩; have HB06 : Aside0 (Below wr.heap.size wr w6) := ⟨hb⟩; have z0 : w6.cell? ⟨gb, 0, none⟩ = some (.int .i64 0) := (blk_cell hbox 0).trans rfl; have z1 : w6.cell? ⟨gb, 1, none⟩ = some (.int .i64 0) := (blk_cell hbox 1).trans rfl; have f0 := qbF hbox 0; have f1 := qbF hbox 1; clear hg hbox hb HB))
    have HB8 : Below wr.heap.size wr ((w6.setCell ⟨gb, 0, none⟩ (.int .i64 x.f0)).setCell ⟨gb, 1, none⟩ (.int .i64 x.f1)) := (HB06.out.setCell (p := ⟨gb, 0, none⟩) (by rw [HGW.out]; exact qlR _) _).setCell (p := ⟨gb, 1, none⟩) (by rw [HGW.out]; exact qlR _) _
    exact ⟨⟨k + 1, e2, by go_num, by rw [HE2.out], by omega, HTT, ⟨Kd.C_below HC.out HB8⟩, ⟨(HB6.out.setCell (p := ⟨gb, 0, none⟩) HGE.out _).setCell (p := ⟨gb, 1, none⟩) HGE.out _⟩⟩, by simp [intOf]; omega⟩
  ·have ek : k = d.length := by omega
   subst ek
   have hT := HT.out
   rw [List.drop_length, covTo] at hT
   have HTT := aMk hT
   clear hT HT
   go_wp2_with fail
   go_ret
   exact ⟨by rw [← HTT.out]; rfl, HB.out⟩
theorem fits_f (lo hi n : Int) : cluster_fits.f lo hi n = some (fitB lo hi n) := by
 unfold cluster_fits.f span_Right.f fitB
 by_cases h1 : 0 ≤ lo <;> by_cases h2 : lo < hi <;> by_cases h3 : hi ≤ n <;> simp [h1, h2, h3]
theorem may_c {w : World} {v : Value} {l : List S45} (n m : Int) (h : SLk k45 w v l) (hl : l.length ≤ 1000000) :
 Calls Tryz.prog 188 #[.int .i64 n, .int .i64 m, v] w fun e w' => e = .returned (.int .i64 (wrongR n m l)) ∧ Below w.heap.size w w' := by
 obtain ⟨A, c, rfl, hcc, hC⟩ := h
 have HCC := aMk hcc
 have HC := aMk hC
 clear hC hcc
 go_enter Tryz.func188, Tryz.ntmps188
 by_cases h1 : n < 0
 ·have HE : Aside0 (wrongR n m l = 1) := ⟨by unfold wrongR; rw [if_pos (.inl h1)]⟩
  go_wp2_with fail
  go_ret
  exact ⟨by rw [HE.out]; rfl, qBr _ _⟩
 by_cases h2 : n > 16777216
 ·have HE : Aside0 (wrongR n m l = 1) := ⟨by unfold wrongR; rw [if_pos (.inr (.inl h2))]⟩
  go_wp2_with fail
  go_ret
  exact ⟨by rw [HE.out]; rfl, qBr _ _⟩
 by_cases h3 : m < 0
 ·have HE : Aside0 (wrongR n m l = 1) := ⟨by unfold wrongR; rw [if_pos (.inr (.inr (.inl h3)))]⟩
  go_wp2_with fail
  go_ret
  exact ⟨by rw [HE.out]; rfl, qBr _ _⟩
 by_cases h4 : m > 16777216
 ·have HE : Aside0 (wrongR n m l = 1) := ⟨by unfold wrongR; rw [if_pos (.inr (.inr (.inr h4)))]⟩
  go_wp2_with fail
  go_ret
  exact ⟨by rw [HE.out]; rfl, qBr _ _⟩
 have HE : Aside0 (wrongR n m l = if l.all (okB n m) then wrongIn n m l else 1) := ⟨by unfold wrongR; rw [if_neg (by omega)]⟩
 go_wp2_with fail
 go_loopw [25] (fun v wr => ∃ k : Nat, v = .int .i64 (k : Int) ∧ k ≤ l.length ∧ Aside0 (∀ x ∈ l.take k, okB n m x = true) ∧ Aside0 (Below w.heap.size w wr)) (fun v _ => l.length - (intOf v).toNat)
 case atStart => exact ⟨0, rfl, Nat.zero_le _, ⟨fun x hx => by simp at hx⟩, ⟨qBr _ _⟩⟩
 case round =>
  obtain ⟨k, rfl, hk, HA, HB⟩ := hrel
  by_cases hlt : k < l.length
  ·obtain ⟨ad, ead, c0, c1, c2, c3⟩ := at_T45 (Kd.C_below HC.out HB.out) (k : Int) (by omega) (by omega)
   rw [rd45 hlt, qtN] at c0 c1 c2 c3
   obtain ⟨x, hx⟩ : ∃ x, x = l[k] := ⟨_, rfl⟩
   rw [← hx] at c0 c1 c2 c3
   have HXE := aMk hx
   have hkI : (k : Int) < (l.length : Int) := by omega
   subst ead
   have hxl : x ∈ l := by rw [hx]; exact List.getElem_mem hlt
   have HXL := aMk hxl
   clear hx hxl
   obtain ⟨b1, hb1⟩ : ∃ b1, fitB x.f0.f0 x.f0.f1 n = b1 := ⟨_, rfl⟩
   have HQ1 := aMk hb1
   obtain ⟨b2, hb2⟩ : ∃ b2, fitB x.f1.f0 x.f1.f1 m = b2 := ⟨_, rfl⟩
   have HQ2 := aMk hb2
   clear hb1 hb2
   go_upto_region 6 with (first | ((with_reducible refine gate_dst (N := 8) rfl ?_); refine box_event ?hg (N := 8) ?hd (cs := #[.int .i64 0, .int .i64 0, .int .i64 0, .int .i64 0]) (t := 36) ?hr ?_; (case hd => rfl); (case hg => rfl); (case hr => go_simp; done); intro gb hg w6 hbox hb; have HGE : Aside0 (w.heap.size ≤ gb) := ⟨by rw [hg]; exact HB.out.size⟩; have HB6 : Aside0 (Below w.heap.size w w6) := ⟨qbP HB.out hb⟩; have z0 : w6.cell? ⟨gb, 0, none⟩ = some (.int .i64 0) := (blk_cell hbox 0).trans rfl; have z1 : w6.cell? ⟨gb, 1, none⟩ = some (.int .i64 0) := (blk_cell hbox 1).trans rfl; have z2 : w6.cell? ⟨gb, 2, none⟩ = some (.int .i64 0) := (blk_cell hbox 2).trans rfl; have z3 : w6.cell? ⟨gb, 3, none⟩ = some (.int .i64 0) := (blk_cell hbox 3).trans rfl; have f0 := qbF hbox 0; have f1 := qbF hbox 1; have f2 := qbF hbox 2; have f3 := qbF hbox 3; have HX6 := aMk hbox; clear hg hbox hb HB))
   have HX := aMk (blk_put (blk_put (blk_put (blk_put HX6.out 0 (.int .i64 x.f0.f0) rfl) 1 (.int .i64 x.f0.f1) rfl) 2 (.int .i64 x.f1.f0) rfl) 3 (.int .i64 x.f1.f1) rfl)
   have HB7 := aMk ((((HB6.out.setCell (p := ⟨gb, 0, none⟩) HGE.out (.int .i64 x.f0.f0)).setCell (p := ⟨gb, 1, none⟩) HGE.out (.int .i64 x.f0.f1)).setCell (p := ⟨gb, 2, none⟩) HGE.out (.int .i64 x.f1.f0)).setCell (p := ⟨gb, 3, none⟩) HGE.out (.int .i64 x.f1.f1))
   generalize (((w6.setCell ⟨gb, 0, none⟩ (.int .i64 x.f0.f0)).setCell ⟨gb, 1, none⟩ (.int .i64 x.f0.f1)).setCell ⟨gb, 2, none⟩ (.int .i64 x.f1.f0)).setCell ⟨gb, 3, none⟩ (.int .i64 x.f1.f1) = w7 at HX HB7 ⊢
   have q0 := (blk_cell HX.out 0).trans rfl
   have q1 := (blk_cell HX.out 1).trans rfl
   clear z0 z1 z2 z3 f0 f1 f2 f3 HX6 HB6 c0 c1 c2 c3
   have T1 : Aside0 True := ⟨trivial⟩
   cases b1 with
   | false =>
    have HR : Aside0 (wrongR n m l = 1) := ⟨by rw [HE.out, if_neg]; intro h; have := List.all_eq_true.1 h x HXL.out; unfold okB at this; rw [HQ1.out] at this; cases this⟩
    go_wp2_with (first | (go_at_call 248; have tk := T1.out; clear T1 tk; refine (cluster_fits.calls x.f0.f0 x.f0.f1 n _ _ (fits_f _ _ _)).mono ?_; rintro e w8 ⟨rfl, hb8⟩; rw [HQ1.out]; have HB8 := aMk hb8; have q2 := (blk_cell ((hb8.block _ (blk_lt HX.out)).trans HX.out) 2).trans rfl; have q3 := (blk_cell ((hb8.block _ (blk_lt HX.out)).trans HX.out) 3).trans rfl; clear hb8))
    go_ret
    exact ⟨by rw [HR.out]; rfl, qbP HB7.out HB8.out⟩
   | true =>
    cases b2 with
    | false =>
     have HR : Aside0 (wrongR n m l = 1) := ⟨by rw [HE.out, if_neg]; intro h; have := List.all_eq_true.1 h x HXL.out; unfold okB at this; rw [HQ2.out, Bool.and_false] at this; cases this⟩
     go_wp2_with (first | (go_at_call 248; have tk := T1.out; clear T1 tk; refine (cluster_fits.calls x.f0.f0 x.f0.f1 n _ _ (fits_f _ _ _)).mono ?_; rintro e w8 ⟨rfl, hb8⟩; rw [HQ1.out]; have HB8 := aMk hb8; have q2 := (blk_cell ((hb8.block _ (blk_lt HX.out)).trans HX.out) 2).trans rfl; have q3 := (blk_cell ((hb8.block _ (blk_lt HX.out)).trans HX.out) 3).trans rfl; clear hb8) | (go_at_call 248; refine (cluster_fits.calls x.f1.f0 x.f1.f1 m _ _ (fits_f _ _ _)).mono ?_; rintro e w9 ⟨rfl, hb9⟩; rw [HQ2.out]; have HB9 := aMk hb9; clear hb9))
     go_ret
     exact ⟨by rw [HR.out]; rfl, qbP (qbP HB7.out HB8.out) HB9.out⟩
    | true =>
     go_wp2_with (first | (go_at_call 248; have tk := T1.out; clear T1 tk; refine (cluster_fits.calls x.f0.f0 x.f0.f1 n _ _ (fits_f _ _ _)).mono ?_; rintro e w8 ⟨rfl, hb8⟩; rw [HQ1.out]; have HB8 := aMk hb8; have q2 := (blk_cell ((hb8.block _ (blk_lt HX.out)).trans HX.out) 2).trans rfl; have q3 := (blk_cell ((hb8.block _ (blk_lt HX.out)).trans HX.out) 3).trans rfl; clear hb8) | (go_at_call 248; refine (cluster_fits.calls x.f1.f0 x.f1.f1 m _ _ (fits_f _ _ _)).mono ?_; rintro e w9 ⟨rfl, hb9⟩; rw [HQ2.out]; have HB9 := aMk hb9; clear hb9))
     exact ⟨⟨k + 1, by go_num, by omega, ⟨fun y hy => by
      rw [qtS hlt, List.mem_append, List.mem_singleton] at hy
      rcases hy with hy | rfl
      ·exact HA.out y hy
      ·rw [← HXE.out]; unfold okB; rw [HQ1.out, HQ2.out]; rfl⟩, ⟨qbP (qbP HB7.out HB8.out) HB9.out⟩⟩, by simp [intOf]; omega⟩
  ·have ek : k = l.length := by omega
   subst ek
   have hall := HA.out
   rw [List.take_length] at hall
   have HW : Aside0 (wrongR n m l = wrongIn n m l) := ⟨by rw [HE.out, if_pos (List.all_eq_true.2 hall)]⟩
   have HALL := aMk hall
   clear hall HA
   obtain ⟨M, rfl⟩ : ∃ M : Nat, m = (M : Int) := ⟨m.toNat, by omega⟩
   have hd : ∀ x ∈ l, 0 ≤ x.f1.f0 ∧ x.f1.f0 < x.f1.f1 ∧ x.f1.f1 ≤ M := fun x hx => by
    have := HALL.out x hx
    unfold okB fitB at this
    simp only [Bool.and_eq_true, decide_eq_true_eq] at this
    exact ⟨this.2.1.1, this.2.1.2, this.2.2⟩
   have HD := aMk hd
   clear hd hlt
   by_cases c1 : (M : Int) = 0 ∧ n > 0
   ·obtain ⟨c2, c3⟩ := c1
    have HR : Aside0 (wrongR n M l = 8) := ⟨by rw [HW.out]; unfold wrongIn; rw [if_pos ⟨c2, c3⟩]⟩
    go_wp2_with fail
    go_ret
    exact ⟨by rw [HR.out]; rfl, HB.out⟩
   ·by_cases d1 : n = 0 ∧ (M : Int) > 0
    ·obtain ⟨d2, d3⟩ := d1
     have HR : Aside0 (wrongR n M l = 13) := ⟨by rw [HW.out]; unfold wrongIn; rw [if_neg c1, if_pos ⟨d2, d3⟩]⟩
     have d4 : ¬ (M : Int) = 0 := by omega
     clear c1
     go_wp2_with fail
     go_ret
     exact ⟨by rw [HR.out]; rfl, HB.out⟩
    ·have HWI : Aside0 (wrongIn n M l = if (List.range M).all (outB l) then 0 else 13) := ⟨by unfold wrongIn; rw [if_neg c1, if_neg d1, qtN]⟩
     obtain ⟨b, hb⟩ : ∃ b, (List.range M).all (outB l) = b := ⟨_, rfl⟩
     have HBB := aMk hb; clear hb
     have HSL : Aside0 (SLk k45 wr (.slice A l.length c) l) := ⟨SLk.mk (Kd.C_below HC.out HB.out) HCC.out⟩
     have hcase : (¬ (M : Int) = 0 ∧ ¬ n = 0) ∨ ((M : Int) = 0 ∧ n = 0) := by omega
     clear c1 d1
     rcases hcase with ⟨k1, k2⟩ | ⟨k1, k2⟩
     ·cases b with
      | true =>
       have HR : Aside0 (wrongR n M l = 0) := ⟨by rw [HW.out, HWI.out, HBB.out]; rfl⟩
       go_wp2_with (first | (go_at_call 249; refine (covered_c M HSL.out hl HD.out).mono ?_; rintro e w2 ⟨rfl, hb2⟩; rw [HBB.out]; have HB2 := aMk hb2; clear hb2))
       go_ret
       exact ⟨by rw [HR.out]; rfl, qbP HB.out HB2.out⟩
      | false =>
       have HR : Aside0 (wrongR n M l = 13) := ⟨by rw [HW.out, HWI.out, HBB.out]; rfl⟩
       go_wp2_with (first | (go_at_call 249; refine (covered_c M HSL.out hl HD.out).mono ?_; rintro e w2 ⟨rfl, hb2⟩; rw [HBB.out]; have HB2 := aMk hb2; clear hb2))
       go_ret
       exact ⟨by rw [HR.out]; rfl, qbP HB.out HB2.out⟩
     ·obtain rfl : M = 0 := by omega
      subst k2
      have HR : Aside0 (wrongR 0 (0 : Nat) l = 0) := ⟨by rw [HW.out, HWI.out]; rfl⟩
      have hb0 : b = true := HBB.out.symm
      subst hb0
      go_wp2_with (first | (go_at_call 249; refine (covered_c 0 HSL.out hl HD.out).mono ?_; rintro e w2 ⟨rfl, hb2⟩; rw [HBB.out]; have HB2 := aMk hb2; clear hb2))
      go_ret
      exact ⟨by rw [HR.out]; rfl, qbP HB.out HB2.out⟩
end CFin
end
section
namespace UGroups
open U PClusterFinest UFinEv CFin
theorem rd_is (l : List Int) (t : Nat) : rd l (t : Int) = l.getD t 0 := by unfold rd; rw [qtN]
theorem mx_max (a b : Int) : mx a b = max a b := by unfold mx; split <;> omega
theorem grp_end (N : Nat) (J : List S33) (h : 1 ≤ N) : groups N J = (grpTo N J (N - 1)).1 ++ [⟨((grpTo N J (N - 1)).2 : Int), (N : Int)⟩] := by
 unfold groups
 conv => lhs; rw [show N = (N - 1) + 1 by omega]
 rw [show grpTo (N - 1 + 1) J (N - 1 + 1) = stepG (N - 1 + 1) J (N - 1 + 1) (grpTo (N - 1 + 1) J (N - 1)) from rfl]
 rw [show N - 1 + 1 = N by omega]
 unfold stepG
 rw [if_pos (.inl rfl)]
theorem grp_l1 (N : Nat) (J : List S33) (l : List Int) (hl : Reach N J l) (hN : N ≤ 1000000) (d : Nat) : ∀ (t : Nat) (h : Int), t + d = N → 1 ≤ t → IsH N J t h → Ev (fun k => span_Groups.l1 k (grpTo N J (t - 1)).1 l (N : Int) (t : Int) ((grpTo N J (t - 1)).2 : Int) h) (groups N J) := by
 have hll := hl.1
 induction d with
 | zero =>
  intro t h hd h1 hh
  obtain rfl : t = N := by omega
  have := grp_len t J (t - 1)
  refine Ev.step (fun k => by rw [span_Groups.l1]) (ev_neg (by omega) (ev_pos (by omega) ?_))
  rw [grp_end t J h1, ← isH_last hh]
  exact ev_now _
 | succ d ih =>
  intro t h hd h1 hh
  have hlen := grp_len N J (t - 1)
  have hr := hl.2 t (by omega)
  have hs := isH_step hh hr
  have e1 : ((t + 1 : Nat) - 1) = t := by omega
  have hst : grpTo N J t = stepG N J t (grpTo N J (t - 1)) := by
   conv => lhs; rw [show t = (t - 1) + 1 by omega]
   rw [show grpTo N J (t - 1 + 1) = stepG N J (t - 1 + 1) (grpTo N J (t - 1)) from rfl, show t - 1 + 1 = t by omega]
  have hge := hh.ge
  refine Ev.step (fun k => by rw [span_Groups.l1]) (ev_pos (by omega) (ev_pos (by omega) (ev_pos (by omega) ?_)))
  have hI := ih (t + 1) _ (by omega) (by omega) hs
  rw [e1, hst] at hI
  by_cases hc : (t : Int) = h
  ·have hb : acrossB N J t = false := (isH_end hh).1 hc.symm
   refine ev_pos hc (ev_pos (by omega) ?_)
   unfold stepG at hI
   rw [if_pos (.inr hb)] at hI
   rw [w64 (by omega) (by omega), rd_is, mx_max, show (t : Int) + 1 = ((t + 1 : Nat) : Int) by omega]
   rw [show max (max h ((t : Int) + 1)) (l.getD t 0) = max (((t + 1 : Nat)) : Int) (l.getD t 0) by omega] at hI
   rw [← hc]
   exact hI
  ·have hb : ¬ (t = N ∨ acrossB N J t = false) := fun hx => by
    rcases hx with hx | hx
    ·omega
    ·exact hc ((isH_end hh).2 hx).symm
   refine ev_neg hc ?_
   unfold stepG at hI
   rw [if_neg hb] at hI
   rw [w64 (by omega) (by omega), rd_is, mx_max, show (t : Int) + 1 = ((t + 1 : Nat) : Int) by omega]
   rw [show max (max h ((t : Int) + 1)) (l.getD t 0) = max h (l.getD t 0) by omega] at hI
   exact hI
theorem right_is3 (a b : Int) : span_Right.f a b = some (decide (0 ≤ a ∧ a < b)) := by
 unfold span_Right.f
 by_cases h1 : 0 ≤ a <;> by_cases h2 : a < b <;> simp [h1, h2]
theorem grp_l0 (N : Nat) (J : List S33) (h1 : 1 ≤ N) (hN : N ≤ 1000000) (hJ : J.length ≤ 1000000) (d : Nat) : ∀ (i : Nat) (l : List Int), i + d = J.length → Reach N (J.take i) l → Ev (fun k => span_Groups.l0 k (N : Int) l J (J.length : Int) (i : Int)) (groups N J) := by
 induction d with
 | zero =>
  intro i l hd hl
  rw [List.take_of_length_le (by omega)] at hl
  have hll := hl.1
  refine Ev.step (fun k => by rw [span_Groups.l0]) (ev_neg (by omega) ?_)
  have h0 := isH_one (hl.2 0 (by omega))
  have hI := grp_l1 N J l hl hN (N - 1) 1 _ (by omega) (qlR _) h0
  rw [hll]
  refine Ev.step (fun k => by rw [span_Groups.l1]) (ev_pos (by omega) (ev_pos (by omega) (ev_pos (by omega) (ev_neg (by omega) ?_))))
  rw [show rd l 0 = l.getD 0 0 from rfl, mx_max, show wrap64 (0 + 1) = ((1 : Nat) : Int) by rw [w64 (by omega) (by omega)]; rfl]
  exact hI
 | succ d ih =>
  intro i l hd hl
  have hlt : i < J.length := by omega
  have hll := hl.1
  have htk : J.take (i + 1) = J.take i ++ [J[i]] := by rw [qtS hlt]
  refine Ev.step (fun k => by rw [span_Groups.l0]) (ev_pos (by omega) (ev_pos (by omega) (ev_pos (by omega) ?_)))
  rw [rd33 hlt, right_is3, w64 (by omega) (by omega), show (i : Int) + 1 = ((i + 1 : Nat) : Int) by omega]
  by_cases hr : 0 ≤ J[i].f0 ∧ J[i].f0 < J[i].f1
  ·rw [qdT hr]
   refine ev_bindc rfl (ev_pos rfl ?_)
   by_cases hh : J[i].f1 ≤ (N : Int)
   ·have hok : OkS N J[i] := ⟨hr.1, hr.2, hh⟩
    refine ev_pos hh (ev_pos hr.1 (ev_pos (by omega) ?_))
    refine ih (i + 1) _ (by omega) ?_
    rw [htk]
    have := reach_yes hl hok
    rw [show rd l J[i].f0 = l.getD J[i].f0.toNat 0 from rfl, mx_max]
    exact this
   ·refine ev_neg hh (ih (i + 1) _ (by omega) ?_)
    rw [htk]
    exact reach_no hl (fun h => hh h.2.2)
  ·rw [qdF hr]
   refine ev_bindc rfl (ev_neg (by decide) (ih (i + 1) _ (by omega) ?_))
   rw [htk]
   exact reach_no hl (fun h => hr ⟨h.1, h.2.1⟩)
theorem groups_c (N : Nat) (hN : N ≤ 1000000) {w : World} {v : Value} {J : List S33} (h : SLk k33 w v J) (hJ : J.length ≤ 1000000) : Calls Tryz.prog 118 #[.int .i64 N, v] w fun e w' => ∃ u, e = .returned u ∧ Kd.R k33 34 w' w.heap.size (fun _ => True) u (groups N J) ∧ Below w.heap.size w w' := by
 obtain ⟨A, c, rfl, hc, hC⟩ := h
 have he : Ev (fun k => span_Groups.f k (N : Int) J) (groups N J) := by
  unfold span_Groups.f
  by_cases h0 : N = 0
  ·subst h0
   exact ev_pos (by decide) (ev_now _)
  ·refine ev_neg (by omega) (ev_pos (by omega) (ev_pos (by omega) ?_))
   rw [qtN]
   exact grp_l0 N J (by omega) hN hJ J.length 0 _ (by omega) (by rw [List.take_zero]; exact reach_zero N)
 obtain ⟨k, hk⟩ := ev_some he
 refine (span_Groups.calls k N A c J _ w hC hc hk).mono ?_
 rintro e w' ⟨u, rfl, hu, hb⟩
 exact ⟨u, rfl, hu, hb⟩
theorem refRight_is3 (a b : Int) : naskhref03_Right.f a b = some (decide (0 ≤ a ∧ a < b)) := by
 unfold naskhref03_Right.f
 by_cases h1 : 0 ≤ a <;> by_cases h2 : a < b <;> simp [h1, h2]
theorem parted_l0 (N t : Nat) (J : List S33) (hJ : J.length ≤ 1000000) (d : Nat) : ∀ i : Nat, i + d = J.length → Ev (fun k => naskhref03_parted.l0 k (t : Int) (N : Int) J (i : Int)) (!acrossB N (J.drop i) t) := by
 induction d with
 | zero =>
  intro i hd
  rw [List.drop_of_length_le (by omega)]
  rw [show (!acrossB N [] t) = true from rfl]
  exact Ev.step (fun k => by rw [naskhref03_parted.l0]) (ev_neg (by omega) (ev_now _))
 | succ d ih =>
  intro i hd
  have hlt : i < J.length := by omega
  have hI := ih (i + 1) (by omega)
  have hcons : acrossB N (J.drop i) t = ((decide (OkS N J[i]) && (decide (J[i].f0 < (t : Int)) && decide ((t : Int) < J[i].f1))) || acrossB N (J.drop (i + 1)) t) := by
   rw [List.drop_eq_getElem_cons hlt]; rfl
  refine Ev.step (fun k => by rw [naskhref03_parted.l0]) (ev_pos (by omega) (ev_pos (by omega) ?_))
  rw [rd33 hlt, refRight_is3, w64 (by omega) (by omega), show (i : Int) + 1 = ((i + 1 : Nat) : Int) by omega, hcons]
  by_cases hr : 0 ≤ J[i].f0 ∧ J[i].f0 < J[i].f1
  ·rw [qdT hr]
   refine ev_bindc rfl (ev_pos rfl ?_)
   by_cases hh : J[i].f1 ≤ (N : Int)
   ·refine ev_pos hh ?_
    rw [qdT (show OkS N J[i] from ⟨hr.1, hr.2, hh⟩), Bool.true_and]
    by_cases h3 : J[i].f0 < (t : Int)
    ·refine ev_pos h3 ?_
     rw [qdT h3, Bool.true_and]
     by_cases h4 : (t : Int) < J[i].f1
     ·rw [qdT h4]
      exact ev_pos h4 (ev_now _)
     ·rw [qdF h4, Bool.false_or]
      exact ev_neg h4 hI
    ·refine ev_neg h3 ?_
     rw [qdF h3, Bool.false_and, Bool.false_or]
     exact hI
   ·refine ev_neg hh ?_
    rw [qdF (show ¬ OkS N J[i] from fun h => hh h.2.2), Bool.false_and, Bool.false_or]
    exact hI
  ·rw [qdF hr]
   refine ev_bindc rfl (ev_neg (by decide) ?_)
   rw [qdF (show ¬ OkS N J[i] from fun h => hr ⟨h.1, h.2.1⟩), Bool.false_and, Bool.false_or]
   exact hI
theorem parted_ev (N t : Nat) (J : List S33) (hJ : J.length ≤ 1000000) : Ev (fun k => naskhref03_parted.f k (t : Int) (N : Int) J) (!acrossB N J t) := parted_l0 N t J hJ J.length 0 (by omega)
theorem refGrp_l0 (N : Nat) (J : List S33) (hN : N ≤ 1000000) (hJ : J.length ≤ 1000000) (d : Nat) : ∀ t : Nat, t + d = N → Ev (fun k => naskhref03_Groups.l0 k (N : Int) J (grpTo N J t).1 ((grpTo N J t).2 : Int) ((t : Int) + 1)) (groups N J) := by
 induction d with
 | zero =>
  intro t hd
  obtain rfl : t = N := by omega
  rw [show groups t J = (grpTo t J t).1 from rfl]
  exact Ev.step (fun k => by rw [naskhref03_Groups.l0]) (ev_neg (by omega) (ev_now _))
 | succ d ih =>
  intro t hd
  have hlen := grp_len N J t
  have hI := ih (t + 1) (by omega)
  have hst : grpTo N J (t + 1) = stepG N J (t + 1) (grpTo N J t) := rfl
  rw [hst] at hI
  unfold stepG at hI
  refine Ev.step (fun k => by rw [naskhref03_Groups.l0]) (ev_pos (by omega) ?_)
  by_cases he : (t : Int) + 1 = (N : Int)
  ·refine ev_pos he (ev_pos (by omega) ?_)
   rw [if_pos (.inl (by omega))] at hI
   rw [w64 (by omega) (by omega)]
   rw [show (((t + 1 : Nat)) : Int) = (t : Int) + 1 by omega] at hI
   exact hI
  ·refine ev_neg he ?_
   have hp := parted_ev N (t + 1) J hJ
   rw [show (((t + 1 : Nat)) : Int) = (t : Int) + 1 by omega] at hp
   refine ev_bind hp ?_
   cases hc : acrossB N J (t + 1) with
   | true =>
    refine ev_neg (by decide) ?_
    rw [if_neg (by rw [hc]; intro h; rcases h with h | h; omega; cases h)] at hI
    rw [w64 (by omega) (by omega)]
    rw [show (((t + 1 : Nat)) : Int) = (t : Int) + 1 by omega] at hI
    exact hI
   | false =>
    refine ev_pos rfl (ev_pos (by omega) ?_)
    rw [if_pos (.inr hc)] at hI
    rw [w64 (by omega) (by omega)]
    rw [show (((t + 1 : Nat)) : Int) = (t : Int) + 1 by omega] at hI
    exact hI
theorem refGroups_c (N : Nat) (hN : N ≤ 1000000) {w : World} {v : Value} {J : List S33} (h : SLk k33 w v J) (hJ : J.length ≤ 1000000) : Calls Tryz.prog 121 #[.int .i64 N, v] w fun e w' => ∃ u, e = .returned u ∧ Kd.R k33 34 w' w.heap.size (fun _ => True) u (groups N J) ∧ Below w.heap.size w w' := by
 obtain ⟨A, c, rfl, hc, hC⟩ := h
 have he : Ev (fun k => naskhref03_Groups.f k (N : Int) J) (groups N J) := refGrp_l0 N J hN hJ N 0 (by omega)
 obtain ⟨k, hk⟩ := ev_some he
 refine (naskhref03_Groups.calls k N A c J _ w hC hc hk).mono ?_
 rintro e w' ⟨u, rfl, hu, hb⟩
 exact ⟨u, rfl, hu, hb⟩
end UGroups
end
section
namespace Cel
open U PClusterFinest UGroups UFinEv
open CFin (rd33 info33 cells33 one33)
def rowOf (L : List (List Int)) (lo hi : Nat) : List (List Int) := (L.drop lo).take (hi - lo)
def linkStep (L : List (List Int)) (q : List S45 × Nat) (g : S33) : List S45 × Nat :=
 let e := q.2 + (rowOf L g.f0.toNat g.f1.toNat).flatten.length
 (if q.2 < e then q.1 ++ [⟨g, ⟨(q.2 : Int), (e : Int)⟩⟩] else q.1, e)
def linksOf (L : List (List Int)) (gs : List S33) : List S45 × Nat := gs.foldl (linkStep L) ([], 0)
theorem linksOf_take (L : List (List Int)) {gs : List S33} {k : Nat} (h : k < gs.length) : linksOf L (gs.take (k + 1)) = linkStep L (linksOf L (gs.take k)) gs[k] := by
 unfold linksOf
 rw [qtS h, List.foldl_append]
 rfl
theorem rowOf_le (L : List (List Int)) (lo hi : Nat) : (rowOf L lo hi).flatten.length ≤ L.flatten.length := by
 unfold rowOf
 have h1 : ∀ (l : List (List Int)) (k : Nat), (l.drop k).flatten.length ≤ l.flatten.length := fun l k => by
  conv => rhs; rw [← List.take_append_drop k l, List.flatten_append, List.length_append]
  omega
 exact qlT (flat_le _ _) (h1 _ _)
theorem linksOf_le (L : List (List Int)) (gs : List S33) (k : Nat) (hk : k ≤ gs.length) : (linksOf L (gs.take k)).2 ≤ k * L.flatten.length ∧ (linksOf L (gs.take k)).1.length ≤ k := by
 induction k with
 | zero => exact ⟨Nat.zero_le _, qlR _⟩
 | succ k ih =>
  obtain ⟨h1, h2⟩ := ih (by omega)
  rw [linksOf_take L (by omega)]
  unfold linkStep
  have := rowOf_le L (gs[k]'(by omega)).f0.toNat (gs[k]'(by omega)).f1.toNat
  refine ⟨by rw [Nat.add_mul, Nat.one_mul]; dsimp only; omega, ?_⟩
  dsimp only
  split
  ·rw [List.length_append]; simp; exact h2
  ·omega
theorem grp_mem (N : Nat) (J : List S33) (t : Nat) (ht : t ≤ N) : ∀ s ∈ (grpTo N J t).1, 0 ≤ s.f0 ∧ s.f0 < s.f1 ∧ s.f1 ≤ (N : Int) := by
 induction t with
 | zero => intro s hs; cases hs
 | succ t ih =>
  intro s hs
  rw [show grpTo N J (t + 1) = UGroups.stepG N J (t + 1) (grpTo N J t) from rfl] at hs
  unfold UGroups.stepG at hs
  split at hs
  ·rcases List.mem_append.1 hs with hs | hs
   ·exact ih (by omega) s hs
   ·rw [List.mem_singleton] at hs
    subst hs
    have := grp_lo N J t (by omega)
    dsimp only
    omega
  ·exact ih (by omega) s hs
theorem apart33 {w : World} {base base2 : Nat} {ok : Nat → Prop} {v : Value} {xs : List S45} (h : Kd.R k45 36 w base ok v xs) {p : Nat} {P : Prop} (hp : P ∧ base2 ≤ p ∧ p < w.heap.size ∧ ∃ q, q ∈ 34 :: (k33).E ∧ ∃ cells, w.heap[p]? = some (.cells cells q (0, 0))) : some p ≠ v.ownBlock := by
 obtain ⟨_, _, _, q, hq, cells, hc⟩ := hp
 have hE : (k33).E = [] := rfl
 rw [hE, List.mem_singleton] at hq
 subst hq
 exact Kd.R_ne h hc (by decide)
theorem clusters_c {w : World} {D : Nat → Prop} {b : Nat} {L : List (List Int)} {J : List S33} (h : CellsAt 100 w D b L J) (hN : L.length ≤ 1000000) (hJ : J.length ≤ 1000000) (hF : L.flatten.length ≤ 10000000) (R : Value → Int → World → Prop)
 (hfin : ∀ w1 u, SLk k45 w1 u (linksOf L (groups L.length J)).1 → Below w.heap.size w w1 → Calls Tryz.prog 120 #[.int .i64 L.length, .int .i64 (linksOf L (groups L.length J)).2, u] w1 fun e w' => ∃ u r, e = .returned (.tuple #[u, .int .i64 r]) ∧ R u r w' ∧ Below w1.heap.size w1 w') :
 Calls Tryz.prog 61 #[ptr b] w fun e w' => ∃ u r, e = .returned (.tuple #[u, .int .i64 r]) ∧ R u r w' ∧ Below w.heap.size w w' := by
 obtain ⟨Dr, Dt, A, c, vt, hp⟩ := h.open_
 obtain ⟨At, ct, evt⟩ := Kd.R_slice hp.h3
 subst evt
 obtain ⟨i31, hi31, hs31⟩ : ∃ i, Tryz.prog.info? 22 = some i ∧ i.size = 1 := by
  have h := info31
  cases hi : Tryz.prog.info? 22 with
  | none => rw [hi] at h; cases h
  | some i =>
   rw [hi] at h
   simp only [Option.map_some, Option.some.injEq, Prod.mk.injEq] at h
   exact ⟨i, rfl, h.2.1⟩
 have HI31 := aMk hi31
 have HS31 := aMk hs31
 have c0 := (blk_cell hp.h1 0).trans rfl
 have c1 := (blk_cell hp.h1 1).trans rfl
 have HP := aMk hp
 have HRD := aMk (hp.h2.reads 3)
 have HSJ := aMk (SLk.of_R hp.h3)
 have HN := aMk hN
 have HJ := aMk hJ
 have HF := aMk hF
 have HFIN := aMk hfin
 obtain ⟨gs, hgs⟩ : ∃ gs, gs = groups L.length J := ⟨_, rfl⟩
 have HGS := aMk hgs
 have HGM : Aside0 (∀ s ∈ gs, 0 ≤ s.f0 ∧ s.f0 < s.f1 ∧ s.f1 ≤ (L.length : Int)) := ⟨by rw [hgs]; exact grp_mem L.length J L.length (qlR _)⟩
 have HGL : Aside0 (gs.length ≤ L.length) := ⟨by rw [hgs]; exact grp_len L.length J L.length⟩
 rw [← hgs] at HFIN
 clear h hp hN hJ hF hfin hi31 hs31 hgs
 go_enter Tryz.func61, Tryz.ntmps61
 go_upto_region 5 with (fail)
 have HBD : Aside0 (Below w.heap.size w w.drew) := ⟨below_drew (qBr _ _)⟩
 refine start_ (n := 12) (S := (fun W => Below w.heap.size w W)) (ds := []) #[false, false, false, false, false, false, false, false, false, false, false, false] (by kernel_rfl) (by kernel_rfl) (by rfl) HBD.out (fun hS0 => ?_)
 refine pure_ (i := 0) (N := (some 13)) (v := ?_) (a' := ?_) #[true, false, false, false, false, false, false, false, false, false, false, false] rfl rfl (by kernel_rfl) (fun _ _ _ h => h) (Or.inl ⟨by rfl, ?_⟩) ?_ ?_
 rotate_left
 ·intro w'
  go_simp
  with_reducible rfl
 rotate_left
 ·simp only [Act.put, sqA, sq0, sq1]
  rfl
 refine pure_ (i := 1) (N := (some 14)) (v := ?_) (a' := ?_) #[true, true, false, false, false, false, false, false, false, false, false, false] rfl rfl (by kernel_rfl) (fun _ _ _ h => h) (Or.inl ⟨by rfl, ?_⟩) ?_ ?_
 rotate_left
 ·intro w'
  go_simp
  with_reducible rfl
 rotate_left
 ·simp only [Act.put, sqA, sq0, sq1]
  rfl
 refine pure_ (i := 2) (N := (some 15)) (v := ?_) (a' := ?_) #[true, true, true, false, false, false, false, false, false, false, false, false] rfl rfl (by kernel_rfl) (fun _ _ _ h => h) (Or.inl ⟨by rfl, ?_⟩) ?_ ?_
 rotate_left
 ·intro w'
  go_simp
  with_reducible rfl
 rotate_left
 ·simp only [Act.put, sqA, sq0, sq1]
  rfl
 refine take_ (i := 3) (N := (some 16)) (v := ?_) (a' := ?_) #[true, true, true, true, false, false, false, false, false, false, false, false] rfl rfl (by kernel_rfl) (fun _ _ _ h => h) (Or.inl ⟨by rfl, ?_⟩) hS0 ?_ ?_
 rotate_left
 ·intro w' s0
  have hx0 := (s0.cell (qwL _ _ c0)).trans c0
  go_simp
  with_reducible rfl
 rotate_left
 ·simp only [Act.put, sqA, sq0, sq1]
  rfl
 refine pure_ (i := 4) (N := (some 17)) (v := ?_) (a' := ?_) #[true, true, true, true, true, false, false, false, false, false, false, false] rfl rfl (by kernel_rfl) (fun _ _ _ h => h) (Or.inl ⟨by rfl, ?_⟩) ?_ ?_
 rotate_left
 ·intro w'
  go_simp
  with_reducible rfl
 rotate_left
 ·simp only [Act.put, sqA, sq0, sq1]
  rfl
 refine pure_ (i := 5) (N := (some 18)) (v := ?_) (a' := ?_) #[true, true, true, true, true, true, false, false, false, false, false, false] rfl rfl (by kernel_rfl) (fun _ _ _ h => h) (Or.inl ⟨by rfl, ?_⟩) ?_ ?_
 rotate_left
 ·intro w'
  go_simp
  with_reducible rfl
 rotate_left
 ·simp only [Act.put, sqA, sq0, sq1]
  rfl
 refine pure_ (i := 6) (N := (some 19)) (v := ?_) (a' := ?_) #[true, true, true, true, true, true, true, false, false, false, false, false] rfl rfl (by kernel_rfl) (fun _ _ _ h => h) (Or.inl ⟨by rfl, ?_⟩) ?_ ?_
 rotate_left
 ·intro w'
  go_simp
  with_reducible rfl
 rotate_left
 ·simp only [Act.put, sqA, sq0, sq1]
  rfl
 refine pure_ (i := 7) (N := (some 20)) (v := ?_) (a' := ?_) #[true, true, true, true, true, true, true, true, false, false, false, false] rfl rfl (by kernel_rfl) (fun _ _ _ h => h) (Or.inl ⟨by rfl, ?_⟩) ?_ ?_
 rotate_left
 ·intro w'
  go_simp
  with_reducible rfl
 rotate_left
 ·simp only [Act.put, sqA, sq0, sq1]
  rfl
 refine take_ (i := 8) (N := (some 21)) (v := ?_) (a' := ?_) #[true, true, true, true, true, true, true, true, true, false, false, false] rfl rfl (by kernel_rfl) (fun _ _ _ h => h) (Or.inl ⟨by rfl, ?_⟩) hS0 ?_ ?_
 rotate_left
 ·intro w' s0
  have hx0 := (s0.cell (qwL _ _ c1)).trans c1
  go_simp
  with_reducible rfl
 rotate_left
 ·simp only [Act.put, sqA, sq0, sq1]
  rfl
 refine pure_ (i := 11) (N := (some 24)) (v := ?_) (a' := ?_) #[true, true, true, true, true, true, true, true, true, false, false, true] rfl rfl (by kernel_rfl) (fun _ _ _ h => h) (Or.inl ⟨by rfl, ?_⟩) ?_ ?_
 rotate_left
 ·intro w'
  go_simp
  with_reducible rfl
 rotate_left
 ·simp only [Act.put, sqA, sq0, sq1]
  rfl
 clear hS0
 refine one_ (i := 9) (N := (some 22)) #[true, true, true, true, true, true, true, true, true, true, false, true] rfl rfl (by kernel_rfl) (by decide) (fun K hK => ?_)
 refine goes_ Tryz.func118 (by kernel_rfl) rfl #[.int .i64 L.length, .slice At J.length ct] (by rfl) rfl rfl (by go_simp; done) ?_
 refine (groups_c L.length HN.out (SLk.below HSJ.out HBD.out) HJ.out).mono ?_
 rintro e w2 ⟨u, rfl, hR, hb2⟩
 rw [← HGS.out] at hR
 obtain ⟨A2, c2, eu⟩ := Kd.R_slice hR
 subst eu
 refine ⟨_, rfl, ?_⟩
 have HG2 := aMk (Kd.R_lower hR (Nat.zero_le _))
 have HB2 : Aside0 (Below w.heap.size w w2) := ⟨qbP HBD.out hb2⟩
 clear hR hb2
 change K (Act.put _ (some 22) _) _
 refine hK.out _ _ HB2.out (fun hS0 => ?_)
 clear hK
 refine norm_ (a' := ?_) ?_ ?_
 rotate_left
 ·simp only [Act.put, sqA, sq0, sq1]
  rfl
 refine pure_ (i := 10) (N := (some 23)) (v := ?_) (a' := ?_) #[true, true, true, true, true, true, true, true, true, true, true, true] rfl rfl (by kernel_rfl) (fun _ _ _ h => h) (Or.inl ⟨by rfl, ?_⟩) ?_ ?_
 rotate_left
 ·intro w'
  go_simp
  with_reducible rfl
 rotate_left
 ·simp only [Act.put, sqA, sq0, sq1]
  rfl
 refine done_ (by kernel_rfl) ?_
 clear hS0 HBD
 go_wp2
 go_loopw [4, 5, 24] (fun v4 v5 v wr => ∃ k : Nat, v = .int .i64 (k : Int) ∧ k ≤ gs.length ∧ v5 = .int .i64 ((linksOf L (gs.take k)).2 : Nat) ∧ Aside0 (Kd.R k45 36 wr w.heap.size (fun _ => True) v4 (linksOf L (gs.take k)).1) ∧ Aside0 (Kd.R k33 34 wr 0 (fun _ => True) (.slice A2 gs.length c2) gs) ∧ Aside0 (Below w.heap.size w wr)) (fun _ _ v _ => gs.length - (intOf v).toNat)
 case atStart => exact ⟨0, rfl, Nat.zero_le _, rfl, ⟨Kd.R_nil _ _ _ _ _⟩, HG2, HB2⟩
 case round =>
  clear HG2 HB2
  obtain ⟨wo, ewo⟩ : ∃ wo, wo = wr := ⟨_, rfl⟩
  subst ewo
  obtain ⟨k, rfl, hk, rfl, HR, HG, HB⟩ := hrel
  by_cases hlt : k < gs.length
  ·obtain ⟨x, hx⟩ : ∃ x, x = gs[k] := ⟨_, rfl⟩
   have hxm := HGM.out x (by rw [hx]; exact List.getElem_mem hlt)
   obtain ⟨lo, hlo⟩ : ∃ lo : Nat, x.f0 = (lo : Int) := ⟨x.f0.toNat, by omega⟩
   obtain ⟨hi, hhi⟩ : ∃ hi : Nat, x.f1 = (hi : Int) := ⟨x.f1.toNat, by omega⟩
   obtain ⟨ad, ead, y0, y1⟩ := at_T33 (Kd.R_reads' HG.out).2.2 (k : Int) (by omega) (by omega)
   rw [rd33 hlt, qtN, ← hx, hlo] at y0
   rw [rd33 hlt, qtN, ← hx, hhi] at y1
   have hxe : x = ⟨(lo : Int), (hi : Int)⟩ := by rw [← hlo, ← hhi]
   obtain ⟨q, hq⟩ : ∃ q, q = linksOf L (gs.take k) := ⟨_, rfl⟩
   have HNX : Aside0 (linksOf L (gs.take (k + 1)) = linkStep L q ⟨(lo : Int), (hi : Int)⟩) := ⟨by rw [linksOf_take L hlt, ← hx, hxe, ← hq]⟩
   have hle := linksOf_le L gs k (by omega)
   rw [← hq] at hle HR ⊢
   have hF := HF.out
   have hNN := HN.out
   have hGL := HGL.out
   have hmul : k * L.flatten.length ≤ 1000000 * 10000000 := Nat.mul_le_mul (by omega) hF
   have HQ2 : Aside0 (q.2 ≤ 10000000000000) := ⟨by omega⟩
   have HQ1 : Aside0 (q.1.length ≤ 1000000) := ⟨by omega⟩
   obtain ⟨e0, he0⟩ : ∃ e0, e0 = q.2 := ⟨_, rfl⟩
   have HE0 := aMk he0
   rw [← he0] at HQ2 ⊢
   obtain ⟨AL, cL, eL⟩ := Kd.R_slice HR.out
   subst eL
   have hloI : (lo : Int) < (hi : Int) := by omega
   have hhiI : (hi : Int) ≤ (L.length : Int) := by omega
   have HLH : Aside0 (lo < hi ∧ hi ≤ L.length) := ⟨by omega, by omega⟩
   have hkI : (k : Int) < (gs.length : Int) := by omega
   have hk8 : (k : Int) ≤ 1000000 := by omega
   subst ead
   clear hx hxm hlo hhi hxe hq hle hF hNN hGL hmul he0
   go_upto_region 8 with (first | ((with_reducible refine gate_dst (N := 7) rfl ?_); refine box_event ?hg (N := 7) ?hd (cs := #[.int .i64 0, .int .i64 0]) (t := 34) ?hr ?_; (case hd => rfl); (case hg => rfl); (case hr => go_simp; done); intro gb hg w6 hbox hb; have HXgb := aMk hbox; have HGEgb : Aside0 (w.heap.size ≤ gb) := ⟨by rw [hg]; exact HB.out.size⟩; have HBBgb : Aside0 (Below w.heap.size w w6) := ⟨qbP HB.out hb⟩; have zgb_0 : w6.cell? ⟨gb, 0, none⟩ = some (.int .i64 0) := (blk_cell hbox 0).trans rfl; have fgb_0 := qbF hbox 0; have zgb_1 : w6.cell? ⟨gb, 1, none⟩ = some (.int .i64 0) := (blk_cell hbox 1).trans rfl; have fgb_1 := qbF hbox 1; have HR6 : Aside0 (Kd.R k45 36 w6 w.heap.size (fun p => p ≠ gb) (.slice AL q.1.length cL) q.1) := ⟨qrM (qrB (Kd.R_bound HR.out) hb) (fun p hp => by omega)⟩; have HG6 : Aside0 (Kd.R k33 34 w6 0 (fun p => p ≠ gb) (.slice (some ad) gs.length c2) gs) := ⟨qrM (qrB (Kd.R_bound HG.out) hb) (fun p hp => by omega)⟩; clear hg hbox hb HB HR HG))
   have HYgb := aMk (blk_put (blk_put HXgb.out 0 (.int .i64 lo) rfl) 1 (.int .i64 hi) rfl)
   have HGgb := aMk (qgT (grown_set w6 gb 0 (.int .i64 lo)) (grown_set _ gb 1 (.int .i64 hi)))
   generalize (w6.setCell ⟨gb, 0, none⟩ (.int .i64 lo)).setCell ⟨gb, 1, none⟩ (.int .i64 hi) = w7 at HYgb HGgb ⊢
   have HBCgb : Aside0 (Below w.heap.size w w7) := ⟨HBBgb.out.grown HGgb.out HBBgb.out.size (fun j hj => by obtain rfl := qoI hj; exact HGEgb.out)⟩
   have qgb_0 := (blk_cell HYgb.out 0).trans rfl
   have qgb_1 := (blk_cell HYgb.out 1).trans rfl
   clear zgb_0 fgb_0 zgb_1 fgb_1 HXgb HBBgb
   have HR7 : Aside0 (Kd.R k45 36 w7 w.heap.size (fun p => p ≠ gb) (.slice AL q.1.length cL) q.1) := ⟨Kd.R_grown HR6.out HGgb.out (fun p hp e => hp (qoI e))⟩
   have HG7 : Aside0 (Kd.R k33 34 w7 0 (fun p => p ≠ gb) (.slice (some ad) gs.length c2) gs) := ⟨Kd.R_grown HG6.out HGgb.out (fun p hp e => hp (qoI e))⟩
   clear HR6 y0 y1 HGgb HG6 qgb_0 qgb_1
   go_upto_region 9 with (first | ((with_reducible refine gate_dst (N := 8) rfl ?_); refine box_event ?hg (N := 8) ?hd (cs := #[.int .i64 0, .int .i64 0]) (t := 34) ?hr ?_; (case hd => rfl); (case hg => rfl); (case hr => go_simp; done); intro gc hg w8 hbox hb; have HXgc := aMk hbox; have HGEgc : Aside0 (w.heap.size ≤ gc) := ⟨by rw [hg]; exact HBCgb.out.size⟩; have HBBgc : Aside0 (Below w.heap.size w w8) := ⟨qbP HBCgb.out hb⟩; have zgc_0 : w8.cell? ⟨gc, 0, none⟩ = some (.int .i64 0) := (blk_cell hbox 0).trans rfl; have fgc_0 := qbF hbox 0; have zgc_1 : w8.cell? ⟨gc, 1, none⟩ = some (.int .i64 0) := (blk_cell hbox 1).trans rfl; have fgc_1 := qbF hbox 1; have HR8 : Aside0 (Kd.R k45 36 w8 w.heap.size (fun p => p ≠ gb ∧ p ≠ gc) (.slice AL q.1.length cL) q.1) := ⟨qrM (qrB (Kd.R_bound HR7.out) hb) (fun p hp => ⟨hp.1, by omega⟩)⟩; have HX8 : Aside0 (w8.heap[gb]? = some (.cells #[.int .i64 lo, .int .i64 hi] 34 (0, 0))) := ⟨(hb.block _ (blk_lt HYgb.out)).trans HYgb.out⟩; have HNE : Aside0 (gb ≠ gc) := ⟨by have := blk_lt HYgb.out; omega⟩; have HG8 : Aside0 (Kd.R k33 34 w8 0 (fun p => p ≠ gb ∧ p ≠ gc) (.slice (some ad) gs.length c2) gs) := ⟨qrM (qrB (Kd.R_bound HG7.out) hb) (fun p hp => ⟨hp.1, by omega⟩)⟩; have HGO2 : Aside0 (w.heap.size ≤ gc) := ⟨by rw [hg]; exact HBCgb.out.size⟩; clear hg hbox hb HBCgb HR7 HG7))
   have HYgc := aMk (blk_put (blk_put HXgc.out 0 (.int .i64 e0) rfl) 1 (.int .i64 0) rfl)
   have HGgc := aMk (qgT (grown_set w8 gc 0 (.int .i64 e0)) (grown_set _ gc 1 (.int .i64 0)))
   generalize (w8.setCell ⟨gc, 0, none⟩ (.int .i64 e0)).setCell ⟨gc, 1, none⟩ (.int .i64 0) = w9 at HYgc HGgc ⊢
   have HBCgc : Aside0 (Below w.heap.size w w9) := ⟨HBBgc.out.grown HGgc.out HBBgc.out.size (fun j hj => by obtain rfl := qoI hj; exact HGEgc.out)⟩
   have qgc_0 := (blk_cell HYgc.out 0).trans rfl
   have qgc_1 := (blk_cell HYgc.out 1).trans rfl
   clear zgc_0 fgc_0 zgc_1 fgc_1 HXgc HBBgc
   have HR9 : Aside0 (Kd.R k45 36 w9 w.heap.size (fun p => p ≠ gb ∧ p ≠ gc) (.slice AL q.1.length cL) q.1) := ⟨Kd.R_grown HR8.out HGgc.out (fun p hp e => hp.2 (qoI e))⟩
   have HX9 : Aside0 (w9.heap[gb]? = some (.cells #[.int .i64 lo, .int .i64 hi] 34 (0, 0))) := ⟨(HGgc.out.block gb (blk_lt HX8.out) (fun e => HNE.out (qoI e))).trans HX8.out⟩
   have HG9 : Aside0 (Kd.R k33 34 w9 0 (fun p => p ≠ gb ∧ p ≠ gc) (.slice (some ad) gs.length c2) gs) := ⟨Kd.R_grown HG8.out HGgc.out (fun p hp e => hp.2 (qoI e))⟩
   have p0 := (blk_cell HX9.out 0).trans rfl
   have p1 := (blk_cell HX9.out 1).trans rfl
   have r0 := (HBCgc.out.cell (qwL _ _ c0)).trans c0
   have hca : L.length ≤ c := by
    obtain ⟨A', c', e', h1, h2⟩ := HRD.out
    injection e' with e1 e2 e3
    omega
   have hcut := cut_mid (P := Tryz.prog) 97 22 .i64 .i64 Tryz.underlying97 HI31.out 1 HS31.out A L.length c (lo : Int) (hi : Int) (by omega) (by omega) (by omega) hca
   rw [qtN, qtN, Nat.mul_one] at hcut
   have HSUB0 : Kd.C (Kd.slice 3 (Kd.int .i64)) w (if c = lo then A else A.map (·.add lo)) (hi - lo) (rowOf L lo hi) := by
    have hd := Kd.C_drop (m := lo) (c := c) (k := Kd.slice 3 (Kd.int .i64)) (by obtain ⟨A', c', e', h1, h2⟩ := HRD.out; injection e' with e1 e2 e3; subst e1; exact h2) (by have := HLH.out; omega) hca
    rw [show (Kd.slice 3 (Kd.int .i64)).sz = 1 from rfl, Nat.mul_one] at hd
    have ht := Kd.C_take (m := hi - lo) hd (by rw [List.length_drop]; have := HLH.out; omega)
    unfold rowOf
    rwa [show ((L.drop lo).take (hi - lo)).length = hi - lo by rw [List.length_take, List.length_drop]; have := HLH.out; omega] at ht
   have hrl : (rowOf L lo hi).length = hi - lo := by have := HSUB0.1; omega
   generalize (if c = lo then A else A.map (·.add lo)) = A3 at hcut HSUB0
   have HSUB := aMk HSUB0
   have HRL := aMk hrl
   have HFS : Aside0 ((rowOf L lo hi).flatten.length ≤ 10000000) := ⟨qlT (rowOf_le L lo hi) HF.out⟩
   obtain ⟨rs, hrs⟩ : ∃ rs, rs = rowOf L lo hi := ⟨_, rfl⟩
   have HRS := aMk hrs
   rw [← hrs] at HSUB HRL HFS
   clear hca HSUB0 hrl hrs HR8 HX8 HG8 HGgc qgc_0 qgc_1
   go_quiet (fail)
   go_wp2
   obtain ⟨wq, hwq⟩ : ∃ W, W = w9.drewN nq := ⟨_, rfl⟩
   have HBq : Aside0 (Below w9.heap.size w9 wq) := ⟨by rw [hwq]; exact qbN (qBr _ _) _⟩
   rw [← hwq]
   have HRq : Aside0 (Kd.R k45 36 wq w.heap.size (fun p => p ≠ gb ∧ p ≠ gc) (.slice AL q.1.length cL) q.1) := ⟨qrB HR9.out HBq.out⟩
   have HBwq : Aside0 (Below w.heap.size w wq) := ⟨qbP HBCgc.out HBq.out⟩
   have HGq : Aside0 (Kd.R k33 34 wq 0 (fun p => p ≠ gb ∧ p ≠ gc) (.slice (some ad) gs.length c2) gs) := ⟨qrB HG9.out HBq.out⟩
   have HXq : Aside0 (wq.heap[gb]? = some (.cells #[.int .i64 lo, .int .i64 hi] 34 (0, 0))) := ⟨(HBq.out.block _ (blk_lt HX9.out)).trans HX9.out⟩
   have HYq : Aside0 (wq.heap[gc]? = some (.cells #[.int .i64 e0, .int .i64 0] 34 (0, 0))) := ⟨(HBq.out.block _ (blk_lt HYgc.out)).trans HYgc.out⟩
   clear hwq HR9 HBCgc HG9 HX9 HYgc p0 p1 r0 hcut HBq
   have hsub : ((hi - lo : Nat) : Int) = (rs.length : Int) := by rw [HRL.out]
   rw [← HRL.out]
   clear hsub
   go_loopw [5, 40] (fun v5 v wr => ∃ j : Nat, v = .int .i64 (j : Int) ∧ j ≤ rs.length ∧ v5 = .int .i64 ((e0 + (rs.take j).flatten.length : Nat) : Int) ∧ wr = wq) (fun _ v _ => rs.length - (intOf v).toNat)
   case atStart => exact ⟨0, rfl, Nat.zero_le _, by simp, rfl⟩
   case round =>
    obtain ⟨j, rfl, hj, rfl, ewr⟩ := hrel
    subst ewr
    by_cases hlj : j < rs.length
    ·obtain ⟨y, hy⟩ : ∃ y, y = rs[j] := ⟨_, rfl⟩
     obtain ⟨ae, cs, eae, _, hK, hcell⟩ := Kd.C_get (Kd.C_below HSUB.out HBwq.out) [] (j : Int) (by omega) (by have := HRL.out; omega)
     rw [qtN, show rs.getD j [] = y by rw [hy, qgD, qgG hlj]; rfl] at hK
     obtain ⟨A', c', rfl, hc', hC'⟩ := hK
     have z0 := hcell 0 _ rfl
     rw [qtN, show (Kd.slice 3 (Kd.int .i64)).sz = 1 from rfl, Nat.add_zero, Nat.mul_one] at z0
     have HNJ : Aside0 ((rs.take (j + 1)).flatten.length = (rs.take j).flatten.length + y.length) := ⟨by rw [flat_take hlj, List.length_append, hy]⟩
     have HLE : Aside0 ((rs.take (j + 1)).flatten.length ≤ 10000000) := ⟨qlT (flat_le rs (j + 1)) HFS.out⟩
     obtain ⟨s, hs⟩ : ∃ s, s = (rs.take j).flatten.length := ⟨_, rfl⟩
     rw [← hs] at HNJ ⊢
     have hsl : s + y.length ≤ 10000000 := by rw [← HNJ.out]; exact HLE.out
     have hq2 := HQ2.out
     have ew : IntKind.i64.wrap ((e0 : Int) + (s : Int) + (y.length : Int)) = (e0 : Int) + (s : Int) + (y.length : Int) := IntWalk.i64_in _ (by omega)
     have hes : ((e0 + s : Nat) : Int) = (e0 : Int) + (s : Int) := by omega
     rw [hes]
     clear hes
     have hjI : (j : Int) < (rs.length : Int) := by omega
     have hj8 : (j : Int) ≤ 1000000 := by have := HRL.out; have := HLH.out; have := HN.out; omega
     subst eae
     clear hy hcell hC' hc' hs hsl hq2
     go_wp2
     exact ⟨⟨j + 1, by go_num, by omega, by rw [HNJ.out, show ((e0 + (s + y.length) : Nat) : Int) = (e0 : Int) + (s : Int) + (y.length : Int) by omega], by first | trivial | rfl⟩, by simp [intOf]; omega⟩
    ·obtain rfl : j = rs.length := by omega
     rw [List.take_length]
     obtain ⟨e1, he1⟩ : ∃ e1, e1 = e0 + rs.flatten.length := ⟨_, rfl⟩
     rw [← he1]
     have HE1 := aMk he1
     have y0 := (blk_cell HYq.out 0).trans rfl
     have y1 := (blk_cell HYq.out 1).trans rfl
     have f1 := qbF HYq.out 1
     have HSTEP : Aside0 (linksOf L (gs.take (k + 1)) = (if e0 < e1 then q.1 ++ [⟨⟨(lo : Int), (hi : Int)⟩, ⟨(e0 : Int), (e1 : Int)⟩⟩] else q.1, e1)) := ⟨by
      rw [HNX.out]
      unfold linkStep
      dsimp only
      rw [qtN, qtN, ← HRS.out, ← HE0.out, ← he1]⟩
     clear hlj he1
     go_upto_region 15 with (fail)
     obtain ⟨wz, hwz⟩ : ∃ W, W = wr.setCell ⟨gc, 1, none⟩ (.int .i64 e1) := ⟨_, rfl⟩
     have hgz := grown_set wr gc 1 (.int .i64 e1)
     rw [← hwz] at hgz ⊢
     have HYz : Aside0 (wz.heap[gc]? = some (.cells #[.int .i64 e0, .int .i64 e1] 34 (0, 0))) := ⟨by rw [hwz]; exact blk_put HYq.out 1 (.int .i64 e1) rfl⟩
     have HXz : Aside0 (wz.heap[gb]? = some (.cells #[.int .i64 lo, .int .i64 hi] 34 (0, 0))) := ⟨(hgz.block gb (blk_lt HXq.out) (fun e => HNE.out (qoI e))).trans HXq.out⟩
     have HRz : Aside0 (Kd.R k45 36 wz w.heap.size (fun p => p ≠ gb ∧ p ≠ gc) (.slice AL q.1.length cL) q.1) := ⟨Kd.R_grown HRq.out hgz (fun p hp e => hp.2 (qoI e))⟩
     have HBz : Aside0 (Below w.heap.size w wz) := ⟨HBwq.out.grown hgz HBwq.out.size (fun j hj => by obtain rfl := qoI hj; exact HGO2.out)⟩
     have HGz : Aside0 (Kd.R k33 34 wz 0 (fun p => p ≠ gb ∧ p ≠ gc) (.slice (some ad) gs.length c2) gs) := ⟨Kd.R_grown HGq.out hgz (fun p hp e => hp.2 (qoI e))⟩
     clear hwz hgz y0 y1 f1 HYq HXq HRq HBwq HGq
     have s0 := (blk_cell HYz.out 0).trans rfl
     have s1 := (blk_cell HYz.out 1).trans rfl
     obtain ⟨rb, hrb⟩ : ∃ rb, rb = decide (0 ≤ (e0 : Int) ∧ (e0 : Int) < (e1 : Int)) := ⟨_, rfl⟩
     have HRB := aMk hrb; clear hrb
     cases rb with
     | false =>
      have HNL : Aside0 (¬ e0 < e1) := ⟨by have := of_decide_eq_false HRB.out.symm; omega⟩
      go_wp2_with (go_at_call 119; refine (span_Right.calls (e0 : Int) (e1 : Int) _ _ (right_is3 e0 e1)).mono ?_; rintro e w10 ⟨rfl, hb10⟩; rw [← HRB.out]; have HR10 := aMk (qrB HRz.out hb10); have HB10 : Aside0 (Below w.heap.size w w10) := ⟨qbP HBz.out hb10⟩; have HG10 := aMk (qrB HGz.out hb10); clear hb10)
      exact ⟨⟨k + 1, by go_num, by omega, by rw [HSTEP.out], ⟨by rw [HSTEP.out, if_neg HNL.out]; exact qrM HR10.out (fun _ _ => trivial)⟩, ⟨qrM HG10.out (fun _ _ => trivial)⟩, HB10⟩, by simp [intOf]; omega⟩
     | true =>
      have HNL : Aside0 (e0 < e1) := ⟨by have := qoD HRB.out.symm; omega⟩
      go_upto_region 16 with (go_at_call 119; refine (span_Right.calls (e0 : Int) (e1 : Int) _ _ (right_is3 e0 e1)).mono ?_; rintro e w10 ⟨rfl, hb10⟩; rw [← HRB.out]; have HR10 := aMk (qrB HRz.out hb10); have HB10 : Aside0 (Below w.heap.size w w10) := ⟨qbP HBz.out hb10⟩; have HG10 := aMk (qrB HGz.out hb10); have HX10 : Aside0 (w10.heap[gb]? = some (.cells #[.int .i64 lo, .int .i64 hi] 34 (0, 0))) := ⟨(hb10.block _ (blk_lt HXz.out)).trans HXz.out⟩; have HY10 : Aside0 (w10.heap[gc]? = some (.cells #[.int .i64 e0, .int .i64 e1] 34 (0, 0))) := ⟨(hb10.block _ (blk_lt HYz.out)).trans HYz.out⟩; have t0 := (blk_cell HX10.out 0).trans rfl; have t1 := (blk_cell HX10.out 1).trans rfl; have t2 := (blk_cell HY10.out 0).trans rfl; have t3 := (blk_cell HY10.out 1).trans rfl; clear hb10)
      clear s0 s1
      go_wp2_with ((with_reducible refine gate_builtin (b := .append) (xs := #[.tmp 53, .tmp 57]) rfl ?_); at_builtin; refine Kd.R_append k45 (w0 := w) w.heap.size rfl (.tmp 53) (.tmp 57) 26 36 (.agg #[(.int .i64 0), (.int .i64 0), (.int .i64 0), (.int .i64 0)]) 32 rfl Tryz.underlying26 info45 rfl (by decide) (by omega) _ q.1 (⟨⟨(lo : Int), (hi : Int)⟩, ⟨(e0 : Int), (e1 : Int)⟩⟩ : S45) [.int .i64 lo, .int .i64 hi, .int .i64 e0, .int .i64 e1] (fun _ => True) (fun _ => False) rfl (by first | (go_simp; done) | (go_simp; rfl)) (k45_mkM _ _ _ (⟨⟨(lo : Int), (hi : Int)⟩, ⟨(e0 : Int), (e1 : Int)⟩⟩ : S45)) (fun _ h => h.elim) (fun _ _ => trivial) (qrM HR10.out (fun _ _ => trivial)) HB10.out HB10.out.size (by have := HQ1.out; omega) ?_; intro v11 w11 hv hb hg hat; have HR11 := aMk hv; have HB11 := aMk hb; have HG11 : Aside0 (Kd.R k33 34 w11 0 (fun _ => True) (.slice (some ad) gs.length c2) gs) := ⟨qrM (Kd.R_grown (Kd.R_bound HG10.out) hg (fun p hp => apart33 HR10.out hp)) (fun _ _ => trivial)⟩; clear hv hb hg hat)
      exact ⟨⟨k + 1, by go_num, by omega, by rw [HSTEP.out], ⟨by rw [HSTEP.out, if_pos HNL.out]; exact HR11.out⟩, HG11, HB11⟩, by simp [intOf]; omega⟩
  ·obtain rfl : k = gs.length := by omega
   rw [List.take_length] at HR ⊢
   clear hlt
   have r0 := (HB.out.cell (qwL _ _ c0)).trans c0
   have HS := aMk (SLk.of_R HR.out)
   go_wp2_with (go_at_call 120; refine (HFIN.out _ _ HS.out HB.out).mono ?_; rintro e w12 ⟨u, r, rfl, hR, hb12⟩; have HRR := aMk hR; have HB12 : Aside0 (Below w.heap.size w w12) := ⟨qbP HB.out hb12⟩; clear hR hb12)
   refine bodyPost_ret (results_tmp2 rfl _ _ _) rfl ?_
   exact ⟨_, _, rfl, HRR.out, HB12.out⟩
end Cel
end
section
namespace CFin
open Go.Maps U PClusterFinest UFinest UFinEv
def MO (w : World) (b n : Nat) (l : List Nat) : Prop := ∃ D : DataW Unit, IsMap D ∧ w.ownsMap Tryz.prog 3 (plainElem Tryz.prog 3) b n D ∧ (∀ v : Nat, has D (.int .i64 v) = decide (v ∈ l)) ∧ ∀ v : Nat, v ∈ l → D.atKey (.int .i64 v) (.lit (.int .i64 0)) = .lit (.int .i64 (l.idxOf v : Nat))
theorem MO.made (w : World) : MO (w.alloc (.map #[] 0)) w.heap.size 0 [] := ⟨.map [], isMap_empty, World.ownsMap_made w _ _ _, fun v => rfl, fun v h => by cases h⟩
theorem MO.kept {w w' : World} {b n : Nat} {l : List Nat} (h : MO w b n l) {row : Option Nat} (hg : w.grownBy w' row) (hne : some b ≠ row) : MO w' b n l := by
 obtain ⟨D, h1, h2, h3⟩ := h
 exact ⟨D, h1, h2.kept hg hne, h3⟩
theorem MO.mono {w : World} {b n n' : Nat} {l : List Nat} (h : MO w b n l) (hn : n ≤ n') : MO w b n' l := by
 obtain ⟨D, h1, h2, h3⟩ := h
 exact ⟨D, h1, h2.mono hn, h3⟩
theorem MO.lt {w : World} {b n : Nat} {l : List Nat} (h : MO w b n l) : b < w.heap.size := by
 obtain ⟨D, h1, h2, h3⟩ := h
 exact h2.lt
theorem MO.lookup {w : World} {b n : Nat} {l : List Nat} (h : MO w b n l) (v : Nat) (hv : v ≤ 1000000) (hl : v ∈ l) : (Instr.lookup 259 (.map (some b)) (.int .i64 v) false).run Tryz.prog w = .ok (.int .i64 (l.idxOf v : Nat)) w := by
 obtain ⟨D, h1, h2, h3, h4⟩ := h
 obtain ⟨c, hr, hc, _⟩ := h2.lookup_int keyed3 Tryz.underlying259 Tryz.underlying3 (zero3 w) (key3 v hv)
 rw [h4 v hl] at hc
 injection hc with hc
 injection hc with _ hc
 rw [hc]
 exact hr
theorem MO.look {w : World} {b n : Nat} {l : List Nat} (h : MO w b n l) (v : Nat) (hv : v ≤ 1000000) : (Instr.lookup 259 (.map (some b)) (.int .i64 v) true).run Tryz.prog w = .ok (.tuple #[.int .i64 (if v ∈ l then l.idxOf v else 0 : Nat), .bool (decide (v ∈ l))]) w := by
 obtain ⟨D, h1, h2, h3, h4⟩ := h
 obtain ⟨es, clock, hb, F, _, rfl⟩ := h2
 rcases Maps.fit_look true keyed3 Tryz.underlying259 (zero3 w) hb F (key3 v hv) with ⟨hrun, _, hat⟩ | ⟨e0, y, _, _, hrun, hRv, hat, _⟩
 ·have hf := has_false_of_atKey hat
  rw [h3 v, decide_eq_false_iff_not] at hf
  rw [if_neg hf, qdF hf]
  exact hrun
 ·have hf := has_true_of_atKey hat
  rw [h3 v, decide_eq_true_eq] at hf
  rw [if_pos hf, qdT hf]
  obtain ⟨a, ha, rfl, _⟩ := plainElem_int_inv Tryz.underlying3 hRv
  have := (h4 v hf).symm.trans (hat _)
  injection this with hc
  injection hc with _ hc
  rw [hc, ← ha]
  exact hrun
theorem MO.put {w' : World} {b n v : Nat} {l : List Nat} {D : DataW Unit} (h1 : IsMap D) (h3 : ∀ v : Nat, has D (.int .i64 v) = decide (v ∈ l)) (h4 : ∀ v : Nat, v ∈ l → D.atKey (.int .i64 v) (.lit (.int .i64 0)) = .lit (.int .i64 (l.idxOf v : Nat))) (hv : v ≤ 1000000) (hl : v ∉ l) (h2 : w'.ownsMap Tryz.prog 3 (plainElem Tryz.prog 3) b (n + 1) (D.put (.int .i64 v) (.lit (.int .i64 (l.length : Nat))))) : MO w' b (n + 1) (l ++ [v]) := by
 have hk := keyed3.key (key3 v hv)
 refine ⟨_, h1.put _ _, h2, fun x => ?_, fun x hx => ?_⟩
 ·by_cases e : x = v
  ·subst e
   rw [has_put_same h1 hk, qdT (by simp)]
  ·rw [has_put_other (fun h => e (by injection h with _ h; omega)), h3]
   simp [e]
 ·by_cases e : x = v
  ·subst e
   rw [atKey_put_same h1 hk, List.idxOf_append, if_neg hl]
   simp
  ·have hx' : x ∈ l := by simpa [e] using hx
   rw [atKey_put_other (fun h => e (by injection h with _ h; omega)), h4 x hx', List.idxOf_append, if_pos hx']
def fld (x : S45) : Nat → Int
 | 0 => x.f0.f0
 | 1 => x.f0.f1
 | 2 => x.f1.f0
 | _ => x.f1.f1
def setF (x : S45) (j : Nat) (u : Int) : S45 :=
 match j with
 | 0 => ⟨⟨u, x.f0.f1⟩, x.f1⟩
 | 1 => ⟨⟨x.f0.f0, u⟩, x.f1⟩
 | 2 => ⟨x.f0, ⟨u, x.f1.f1⟩⟩
 | _ => ⟨x.f0, ⟨x.f1.f0, u⟩⟩
def RC (w : World) (base q cap : Nat) (xs : List S45) : Prop := Kd.R k45 36 w base (fun k => k = q) (.slice (some ⟨q, 0, none⟩) xs.length cap) xs
theorem RC.cell {w : World} {base q cap : Nat} {xs : List S45} (h : RC w base q cap xs) (i : Nat) (hi : i < xs.length) (j : Nat) (hj : j < 4) : w.cell? ⟨q, i * 4 + j, none⟩ = some (.int .i64 (fld xs[i] j)) ∧ w.frozen? ⟨q, i * 4 + j, none⟩ = false := by
 obtain ⟨c, _, hM, hc, hf⟩ := Kd.R_elem h z45 (i : Int) (by omega) (by omega)
 rw [qtN, qgD, qgG hi] at hM
 obtain rfl := k45_openM hM
 rw [qtN] at hc hf
 refine ⟨?_, hf j⟩
 match j, hj with
 | 0, _ => exact hc 0 _ rfl
 | 1, _ => exact hc 1 _ rfl
 | 2, _ => exact hc 2 _ rfl
 | 3, _ => exact hc 3 _ rfl
theorem RC.put {w : World} {base q cap : Nat} {xs : List S45} (h : RC w base q cap xs) (i : Nat) (hi : i < xs.length) (j : Nat) (hj : j < 4) (u : Int) : RC (w.setCell ⟨q, i * 4 + j, none⟩ (.int .i64 u)) base q cap (xs.set i (setF xs[i] j u)) := by
 obtain ⟨c, hl, hM, hc, hf⟩ := Kd.R_elem h z45 (i : Int) (by omega) (by omega)
 rw [qtN, qgD, qgG hi] at hM
 obtain rfl := k45_openM hM
 unfold RC
 rw [List.length_set]
 have := (Kd.R_seg h (i : Int) (by omega) (by omega) (c := _) (seg := [.int .i64 u]) (j := j) (x' := setF xs[i] j u) (okp := fun _ => False) hl hc (by show j + 1 ≤ 4; omega) (by
  match j, hj with
  | 0, _ => exact k45_mkM _ _ _ _
  | 1, _ => exact k45_mkM _ _ _ _
  | 2, _ => exact k45_mkM _ _ _ _
  | 3, _ => exact k45_mkM _ _ _ _) (fun _ h => h.elim)).1
 rw [qtN] at this
 exact this
theorem RC.grown {w w' : World} {base q cap : Nat} {xs : List S45} (h : RC w base q cap xs) {row : Option Nat} (hg : w.grownBy w' row) (hne : some q ≠ row) : RC w' base q cap xs := Kd.R_grown h hg (fun k hk => by rw [hk]; exact hne)
end CFin
end
section
namespace CFin
open Go.Maps U PClusterFinest UFinest UFinEv
theorem grown_row {w a b : World} {g : Nat} {row : Option Nat} (h1 : w.grownBy a (some g)) (h2 : a.grownBy b row) (hr : ∀ k, row = some k → w.heap.size ≤ k) : w.grownBy b (some g) :=
 ⟨h2.os.trans h1.os, h2.tape.trans h1.tape, h2.output.trans h1.output, qlT h1.size h2.size, fun k hk hne => (h2.block k (Nat.lt_of_lt_of_le hk h1.size) (fun e => by have := hr k e.symm; omega)).trans (h1.block k hk hne)⟩
attribute [local go_sem] max2_int min2_int max_two min_two
theorem step_there {r : Lab} {m k x ix : Nat} {xs : List S45} (hx : x = r k) (hth : x ∈ firsts r k) (hxs : xs = (firsts r k).map (toS ∘ clu1 r m k)) (hix : ix = (firsts r k).idxOf x) (hl : ix < xs.length) : (firsts r (k + 1)).map (toS ∘ clu1 r m (k + 1)) = xs.set ix (setF xs[ix] 1 ((k : Int) + 1)) := by
 subst hx
 rw [← List.map_map, clu1_there hth, List.map_set, List.map_map, ← hxs, ← hix]
 congr 1
 have : xs[ix] = toS (clu1 r m k (r k)) := by
  subst hxs hix
  rw [List.getElem_map, List.getElem_idxOf]; rfl
 rw [this]
 rfl
theorem step_new {r : Lab} {m k x : Nat} {xs : List S45} (hx : x = r k) (hth : x ∉ firsts r k) (hxs : xs = (firsts r k).map (toS ∘ clu1 r m k)) (y : S45) (hy : y = ⟨⟨k, 0⟩, ⟨m, 0⟩⟩) (hl : xs.length < (xs ++ [y]).length) : (firsts r (k + 1)).map (toS ∘ clu1 r m (k + 1)) = (xs ++ [y]).set xs.length (setF (xs ++ [y])[xs.length] 1 ((k : Int) + 1)) := by
 subst hx hy
 rw [← List.map_map, clu1_new hth, List.map_append, List.map_map, ← hxs, List.getElem_concat_length rfl, List.set_append_right _ _ (qlR _), Nat.sub_self]
 rfl
theorem RC.put2 {w : World} {base q cap : Nat} {xs : List S45} (h : RC w base q cap xs) (i : Nat) (hi : i < xs.length) (u v : Int) : RC ((w.setCell ⟨q, i * 4 + 2, none⟩ (.int .i64 u)).setCell ⟨q, i * 4 + 2 + 1, none⟩ (.int .i64 v)) base q cap (xs.set i ⟨xs[i].f0, ⟨u, v⟩⟩) := by
 have h1 := h.put i hi 2 (by omega) u
 have h2 := h1.put i (by rw [List.length_set]; exact hi) 3 (by omega) v
 rw [List.set_set, List.getElem_set_self] at h2
 exact h2
theorem step_out {r : Lab} {n m t i x ix o1 : Nat} {xs : List S45} (ht : t < m) (hi : i = n + t) (hx : x = r i) (hth : x ∈ firsts r n) (hxs : xs = (firsts r n).map (toS ∘ clu2 r n m t)) (hix : ix = (firsts r n).idxOf x) (ho : o1 = (out2 r n m x t).1) (hl : ix < xs.length) (o2 : Int) (h2 : o2 = ((min o1 t : Nat) : Int)) : (firsts r n).map (toS ∘ clu2 r n m (t + 1)) = xs.set ix ⟨xs[ix].f0, ⟨o2, (t : Int) + 1⟩⟩ := by
 subst hi hx h2 ho
 rw [← List.map_map, clu2_step ht hth, List.map_set, List.map_map, ← hxs, ← hix]
 congr 1
 have : xs[ix] = toS (clu2 r n m t (r (n + t))) := by
  subst hxs hix
  rw [List.getElem_map, List.getElem_idxOf]; rfl
 rw [this]
 rfl
theorem clusters_c {w : World} {base B g n m N cap : Nat} {p : List Int} {r : Lab} (hW : WV w B g n m N cap) (h : LI w base g N cap p) (hne : B ≠ g) (hp : PF N r p) (ho : LabOk N r) (hN : N ≤ 1000) (hnm : n + m = N) (hn : 0 < n)
 (hb : Between (fun x y => r x = r y) 0 n) (hout : ∀ j, j < n → ∃ i, i < m ∧ r (n + i) = r j) (hin : ∀ i, i < m → ∃ j, j < n ∧ r j = r (n + i)) :
 Calls Tryz.prog 193 #[.pointer (some ⟨B, 0, none⟩)] w fun e w' => ∃ u, e = .returned u ∧ Kd.R k45 36 w' w.heap.size (fun _ => True) u (cluS n m r n) ∧ w.grownBy w' (some g) := by
 have HW := aMk hW
 have HV := aMk h
 have HP := aMk hp
 have HO := aMk ho
 have HBT := aMk hb
 have HOUT := aMk hout
 have HIN := aMk hin
 have hgw := h.ltw
 have hBw := blk_lt hW
 have d1 := (World.grownBy_alloc w (.map #[] 0) none).cell (hW.c1) (by simp)
 have hmm := @run_makeMap Tryz.prog
 have HW5 := aMk (hW.below (qbA (qBr _ _) (.map #[] 0)))
 have HV5 := aMk (h.below (qbA (qBr _ _) (.map #[] 0)))
 have HM5 := aMk (MO.made w)
 have HG5 : Aside0 (w.grownBy (w.alloc (.map #[] 0)) (some g)) := ⟨World.grownBy_alloc _ _ _⟩
 clear hW h hp ho hb hout hin
 go_enter Tryz.func193, Tryz.ntmps193
 go_wp2
 obtain ⟨gm, hgm⟩ : ∃ gm, gm = w.heap.size := ⟨_, rfl⟩
 have HGM := aMk hgm
 have HNG : Aside0 (gm ≠ g) := ⟨by omega⟩
 have HNB : Aside0 (B ≠ gm) := ⟨by omega⟩
 have HM5 : Aside0 (MO (w.alloc (.map #[] 0)) gm 0 []) := ⟨by rw [hgm]; exact HM5.out⟩
 have HGW := aMk hgw
 have HBW := aMk hBw
 rw [← hgm]
 clear hgm hmm hgw hBw
 go_loopw [3, 16] (fun v3 v wr => ∃ (k : Nat) (p : List Int), v = .int .i64 (k : Int) ∧ k ≤ n ∧ Aside0 (WV wr B g n m N cap) ∧ Aside0 (LI wr base g N cap p) ∧ Aside0 (PF N r p) ∧ Aside0 (MO wr gm k (firsts r k)) ∧ Aside0 (Kd.R k45 36 wr w.heap.size (fun q => q ≠ g ∧ q ≠ gm) v3 ((firsts r k).map (toS ∘ clu1 r m k))) ∧ Aside0 (w.grownBy wr (some g))) (fun _ v _ => n - (intOf v).toNat)
 case atStart => exact ⟨0, p, rfl, Nat.zero_le _, HW5, HV5, HP, HM5, ⟨Kd.R_nil _ _ _ _ _⟩, HG5⟩
 case round =>
  clear HW5 HV5 HP HM5 HG5 d1
  obtain ⟨k, p, rfl, hk, HW, HV, HP, HM, HR, HG⟩ := hrel
  have d0 := HW.out.c0
  have d2 := HW.out.c2
  obtain ⟨A, c, rfl⟩ := Kd.R_slice HR.out
  by_cases hlt : k < n
  ·have hkI : (k : Int) < (n : Int) := by omega
   have hkN : k < N := by omega
   obtain ⟨x, hx⟩ : ∃ x, x = r k := ⟨_, rfl⟩
   have HXE := aMk hx
   have hxN : x < N := by have := HO.out.le k hkN; omega
   obtain ⟨xs, hxs⟩ : ∃ xs, xs = (firsts r k).map (toS ∘ clu1 r m k) := ⟨_, rfl⟩
   have hlen : xs.length = (firsts r k).length := by rw [hxs, qlm]
   have hlk := firsts_len r k
   rw [← hxs] at HR ⊢
   have HXS := aMk hxs
   have HLEN := aMk hlen
   obtain ⟨ln, hln⟩ : ∃ ln, ln = xs.length := ⟨_, rfl⟩
   have e1 : IntKind.i64.wrap ((k : Int) + 1) = ((k + 1 : Nat) : Int) := by rw [IntWalk.i64_in _ (by omega)]; omega
   have hlnN : ln ≤ k := by omega
   have HLK := aMk hlk
   have HLN := aMk hln
   rw [← hln] at HR ⊢
   clear hx hlen hlk hxs hln
   by_cases hth : x ∈ firsts r k
   ·obtain ⟨ix, hix⟩ : ∃ ix, ix = (firsts r k).idxOf x := ⟨_, rfl⟩
    have hixl : ix < ln := by rw [HLN.out, HLEN.out, hix]; exact List.idxOf_lt_length_of_mem hth
    have HIX := aMk hix
    have HTH := aMk hth
    have hixI : (ix : Int) < (ln : Int) := by omega
    obtain ⟨q, cp, ev, hq1, hq2, _⟩ := Kd.R_form HR.out (by rw [← HLN.out]; omega)
    rw [← HLN.out] at ev
    have HEV := aMk ev
    injection ev with ev1 ev2 ev3
    clear ev2
    subst ev1 ev3
    have HRC : Aside0 (RC wr w.heap.size q c xs) := ⟨by
     have := HR.out
     rw [HLN.out] at this
     exact qrM (Kd.R_tight rfl this) (fun j hj => (qoI (by simpa [Value.ownBlock] using hj)))⟩
    have HQG : Aside0 (q ≠ g ∧ q ≠ gm) := ⟨HR.out.1 q (by simp [Value.ownBlock])⟩
    have HQ1 := aMk hq1
    clear hix hth hq1 hq2 HR
    go_wp2_with (first | (go_at_call 253; refine (find_c HV.out HP.out (by omega) k hkN).mono ?_; rintro e w6 ⟨p1, rfl, a1, a2, a3⟩; rw [← HXE.out]; have HV6 := aMk a1; have HP6 := aMk a2; have HG6 : Aside0 (wr.grownBy w6 (some g)) := ⟨a3⟩; have hlk := (HM.out.kept a3 (fun e => HNG.out (qoI e))).look x (by omega); rw [if_pos HTH.out, qdT HTH.out, ← HIX.out] at hlk; have HRC6 : Aside0 (RC w6 w.heap.size q c xs) := ⟨HRC.out.grown a3 (fun e => HQG.out.1 (qoI e))⟩; obtain ⟨c1, f1⟩ := HRC6.out.cell ix (by rw [← HLN.out]; exact hixl) 1 (by omega); have HW6 := aMk (HW.out.grown a3 hne); clear a1 a2 a3 HV HP))
    have hixl' : ix < xs.length := by rw [← HLN.out]; exact hixl
    have HRC7 := aMk (HRC6.out.put ix hixl' 1 (by omega) ((k : Int) + 1))
    have HG7 : Aside0 (w6.grownBy (w6.setCell ⟨q, ix * 4 + 1, none⟩ (.int .i64 ((k : Int) + 1))) (some q)) := ⟨grown_set _ _ _ _⟩
    have hst := step_there (m := m) HXE.out HTH.out HXS.out HIX.out hixl'
    have hfs : firsts r (k + 1) = firsts r k := by rw [firsts, if_pos (by rw [← HXE.out]; exact HTH.out)]
    refine ⟨⟨k + 1, p1, by go_num, by omega, ⟨HW6.out.grown HG7.out ?_⟩, ⟨HV6.out.grown HG7.out HQG.out.1.symm⟩, HP6, ⟨?_⟩, ⟨?_⟩, ⟨grown_row (qgT HG.out HG6.out) HG7.out (fun j hj => by have := qoI hj; have := HQ1.out; omega)⟩⟩, by simp [intOf]; omega⟩
    ·have := HQ1.out; have := HBW.out; omega
    ·rw [hfs]
     exact ((HM.out.kept HG6.out (fun e => HNG.out (qoI e))).kept HG7.out (fun e => HQG.out.2 (qoI e).symm)).mono (by omega)
    ·rw [hst]
     have := HRC7.out
     unfold RC at this
     rw [List.length_set, ← HLN.out] at this
     exact qrM this (fun j hj => by rw [hj]; exact HQG.out)
   ·have HTH := aMk hth
    clear hth
    have y0 : S45 := ⟨⟨k, 0⟩, ⟨m, 0⟩⟩
    go_wp2_with (first | (go_at_call 253; refine (find_c HV.out HP.out (by omega) k hkN).mono ?_; rintro e w6 ⟨p1, rfl, a1, a2, a3⟩; rw [← HXE.out]; have HV6 := aMk a1; have HP6 := aMk a2; have HG6 : Aside0 (wr.grownBy w6 (some g)) := ⟨a3⟩; have hlk := (HM.out.kept a3 (fun e => HNG.out (qoI e))).look x (by omega); rw [if_neg HTH.out, qdF HTH.out] at hlk; have HW6 := aMk (HW.out.grown a3 hne); clear a1 a2 a3 HV HP) | (at_mapUpdate; obtain ⟨D, m1, m2, m3, m4⟩ := HM.out; refine wpList_mapUpdate_own _ rfl _ _ _ 259 rfl 3 3 keyed3 Tryz.underlying259 (plainElem Tryz.prog 3) gm k D rfl (m2.kept HG6.out (by intro e; exact HNG.out (qoI e))) (by unfold maxLen; omega) _ _ (.int .i64 x) rfl rfl (key3 x (by omega)) _ [] (elem3 ln (by omega)) ?_; intro w7 m5 m6; have HM7 : Aside0 (MO w7 gm (k + 1) (firsts r k ++ [x])) := ⟨MO.put m1 m3 m4 (by omega) HTH.out (by rw [HLN.out, HLEN.out] at m5; exact m5)⟩; have HG7 : Aside0 (w6.grownBy w7 (some gm)) := ⟨m6⟩; have HR7 : Aside0 (Kd.R k45 36 w7 w.heap.size (fun q => q ≠ g ∧ q ≠ gm) (.slice A ln c) xs) := ⟨Kd.R_grown (Kd.R_grown HR.out HG6.out (fun j hj e => hj.1 (qoI e))) m6 (fun j hj e => hj.2 (qoI e))⟩; have HW7 := aMk (HW6.out.grown m6 HNB.out); have d27 := HW7.out.c2; clear m1 m2 m3 m4 m5 m6 HM HR) | ((with_reducible refine gate_builtin (b := .append) (xs := #[.tmp 38, .tmp 47]) rfl ?_); at_builtin; refine Kd.R_append k45 (w0 := w7) w.heap.size rfl (.tmp 38) (.tmp 47) 26 36 (.agg #[(.int .i64 0), (.int .i64 0), (.int .i64 0), (.int .i64 0)]) 32 rfl Tryz.underlying26 info45 rfl (by decide) (by omega) _ xs (⟨⟨(k : Int), 0⟩, ⟨(m : Int), 0⟩⟩ : S45) [.int .i64 k, .int .i64 0, .int .i64 m, .int .i64 0] (fun q => q ≠ g ∧ q ≠ gm) (fun _ => False) rfl (by first | (go_simp; done) | (go_simp; rfl)) (k45_mkM _ _ _ (⟨⟨(k : Int), 0⟩, ⟨(m : Int), 0⟩⟩ : S45)) (fun _ h => h.elim) (fun q hq => ⟨fun e => by have := HGW.out; have := (qgT HG.out HG6.out).size; have := HG7.out.size; omega, fun e => by have := HM7.out.lt; omega⟩) HR7.out (qBr _ _) (qlT (qgT HG.out HG6.out).size HG7.out.size) (by have := HLN.out; omega) ?_; intro v8 w8 hv hb hg hat; obtain ⟨q, cp, rfl, hq1, hq2, _⟩ := Kd.R_form hv (by simp); have HQG : Aside0 (q ≠ g ∧ q ≠ gm) := ⟨hv.1 q (by simp [Value.ownBlock])⟩; have HRC : Aside0 (RC w8 w.heap.size q cp (xs ++ [(⟨⟨(k : Int), 0⟩, ⟨(m : Int), 0⟩⟩ : S45)])) := ⟨qrM (Kd.R_tight rfl hv) (fun j hj => (qoI (by simpa [Value.ownBlock] using hj)))⟩; have hll : xs.length < (xs ++ [(⟨⟨(k : Int), 0⟩, ⟨(m : Int), 0⟩⟩ : S45)]).length := (by simp); obtain ⟨zz, c1, f1⟩ : ∃ z, w8.cell? ⟨q, ln * 4 + 1, none⟩ = some (.int .i64 z) ∧ w8.frozen? ⟨q, ln * 4 + 1, none⟩ = false := ⟨_, by rw [HLN.out]; exact HRC.out.cell xs.length hll 1 (by omega)⟩; have HQ1 := aMk hq1; have hsl : (xs ++ [(⟨⟨(k : Int), 0⟩, ⟨(m : Int), 0⟩⟩ : S45)]).length = ln + 1 := (by rw [HLN.out]; simp); rw [hsl]; have HG8 : Aside0 (w7.grownBy w8 (Value.slice A ln c).ownBlock) := ⟨hg⟩; have HRL : Aside0 (∀ j, (Value.slice A ln c).ownBlock = some j → w.heap.size ≤ j ∧ j ≠ g ∧ j ≠ gm) := ⟨fun j hj => ⟨Kd.R_base HR7.out j hj, HR7.out.1 j hj⟩⟩; have hlnI : (ln : Int) < ((ln + 1 : Nat) : Int) := (by omega); clear hv hb hg hat hll hq1 hq2 hsl HR7))
    have hll : xs.length < (xs ++ [(⟨⟨(k : Int), 0⟩, ⟨(m : Int), 0⟩⟩ : S45)]).length := by simp
    have HRC9 : Aside0 (RC (w8.setCell ⟨q, ln * 4 + 1, none⟩ (.int .i64 ((k : Int) + 1))) w.heap.size q cp ((xs ++ [(⟨⟨(k : Int), 0⟩, ⟨(m : Int), 0⟩⟩ : S45)]).set xs.length (setF (xs ++ [(⟨⟨(k : Int), 0⟩, ⟨(m : Int), 0⟩⟩ : S45)])[xs.length] 1 ((k : Int) + 1)))) := ⟨by rw [HLN.out]; exact HRC.out.put xs.length hll 1 (by omega) ((k : Int) + 1)⟩
    have HG9 : Aside0 (w8.grownBy (w8.setCell ⟨q, ln * 4 + 1, none⟩ (.int .i64 ((k : Int) + 1))) (some q)) := ⟨grown_set _ _ _ _⟩
    have hst := step_new (m := m) HXE.out HTH.out HXS.out _ rfl hll
    have hfs : firsts r (k + 1) = firsts r k ++ [x] := by rw [firsts, if_neg (by rw [← HXE.out]; exact HTH.out), HXE.out]
    refine ⟨⟨k + 1, p1, by go_num, by omega, ⟨?_⟩, ⟨?_⟩, HP6, ⟨?_⟩, ⟨?_⟩, ⟨?_⟩⟩, by simp [intOf]; omega⟩
    ·have h8 : WV w8 B g n m N cap := (HG8.out.block _ (blk_lt HW7.out) (fun e => by have := (HRL.out B e.symm).1; have := HBW.out; omega)).trans HW7.out
     exact h8.grown HG9.out (by have := HQ1.out; have := HBW.out; omega)
    ·have h8 : LI w8 base g N cap p1 := Kd.R_grown (Kd.R_grown HV6.out HG7.out (fun j hj e => HNG.out ((qoI e).symm.trans hj))) HG8.out (fun j hj e => (HRL.out j e.symm).2.1 hj)
     exact h8.grown HG9.out HQG.out.1.symm
    ·rw [hfs]
     exact (HM7.out.kept HG8.out (fun e => (HRL.out gm e.symm).2.2 rfl)).kept HG9.out (fun e => HQG.out.2 (qoI e).symm)
    ·rw [hst]
     have hl2 : ((xs ++ [(⟨⟨(k : Int), 0⟩, ⟨(m : Int), 0⟩⟩ : S45)]).set xs.length (setF (xs ++ [(⟨⟨(k : Int), 0⟩, ⟨(m : Int), 0⟩⟩ : S45)])[xs.length] 1 ((k : Int) + 1))).length = ln + 1 := by rw [HLN.out]; simp
     rw [← hl2]
     exact qrM HRC9.out (fun j hj => by rw [hj]; exact HQG.out)
    ·exact grown_row (grown_row (grown_row (qgT HG.out HG6.out) HG7.out (fun j hj => by have := qoI hj; have := HGM.out; omega)) HG8.out (fun j hj => (HRL.out j hj).1)) HG9.out (fun j hj => by have := qoI hj; have := HQ1.out; omega)
  ·have ek : k = n := by omega
   subst ek
   have HR2 : Aside0 (Kd.R k45 36 wr w.heap.size (fun q => q ≠ g ∧ q ≠ gm) (.slice A (List.map (toS ∘ clu1 r m k) (firsts r k)).length c) ((firsts r k).map (toS ∘ clu2 r k m 0))) := ⟨by have := HR.out; rwa [show (firsts r k).map (toS ∘ clu1 r m k) = (firsts r k).map (toS ∘ clu2 r k m 0) by rw [← List.map_map, clu2_start, List.map_map]] at this⟩
   rw [qlm] at HR2 ⊢
   obtain ⟨ln, hln⟩ : ∃ ln, ln = (firsts r k).length := ⟨_, rfl⟩
   rw [← hln] at HR2 ⊢
   have HLN := aMk hln
   clear hln HR
   have HSG : Aside0 (∀ j, (Value.slice A ln c).ownBlock = some j → w.heap.size ≤ j ∧ j ≠ g ∧ j ≠ gm) := ⟨fun j hj => ⟨Kd.R_base HR2.out j hj, HR2.out.1 j hj⟩⟩
   go_wp2_with fail
   go_loopw [61] (fun v wr => ∃ (t : Nat) (p : List Int), v = .int .i64 (t : Int) ∧ t ≤ m ∧ Aside0 (WV wr B g k m N cap) ∧ Aside0 (LI wr base g N cap p) ∧ Aside0 (PF N r p) ∧ Aside0 (MO wr gm k (firsts r k)) ∧ Aside0 (Kd.R k45 36 wr w.heap.size (fun q => q ≠ g ∧ q ≠ gm) (.slice A ln c) ((firsts r k).map (toS ∘ clu2 r k m t))) ∧ Aside0 (w.grownBy wr (some g))) (fun v _ => m - (intOf v).toNat)
   case atStart => exact ⟨0, p, rfl, Nat.zero_le _, HW, HV, HP, HM, HR2, HG⟩
   case round =>
    clear HW HV HP HM HR2 HG d0 d2 hlt
    obtain ⟨t, p, rfl, ht, HW, HV, HP, HM, HR, HG⟩ := hrel
    have d0 := HW.out.c0
    have d1 := HW.out.c1
    by_cases hlt : t < m
    ·have htI : (t : Int) < (m : Int) := by omega
     obtain ⟨i, hi⟩ : ∃ i, i = k + t := ⟨_, rfl⟩
     have hiN : i < N := by omega
     have e2 : IntKind.i64.wrap ((k : Int) + (t : Int)) = (i : Int) := by rw [IntWalk.i64_in _ (by omega)]; omega
     have HI := aMk hi
     obtain ⟨x, hx⟩ : ∃ x, x = r i := ⟨_, rfl⟩
     have hxN : x < N := by have := HO.out.le i hiN; omega
     have HX := aMk hx
     have hth : x ∈ firsts r k := by
      obtain ⟨j, hj, e⟩ := HIN.out t hlt
      exact (mem_firsts r k x).2 ⟨j, hj, by rw [hx, hi]; exact e⟩
     obtain ⟨ix, hix⟩ : ∃ ix, ix = (firsts r k).idxOf x := ⟨_, rfl⟩
     have hixl : ix < ln := by rw [HLN.out, hix]; exact List.idxOf_lt_length_of_mem hth
     have HIX := aMk hix
     have HTH := aMk hth
     have hixI : (ix : Int) < (ln : Int) := by omega
     clear hi hx hth hix
     have HVd : Aside0 (LI wr.drew base g N cap p) := ⟨qrD HV.out⟩
     obtain ⟨q, cp, ev, hq1, hq2, _⟩ := Kd.R_form HR.out (by rw [qlm, ← HLN.out]; omega)
     injection ev with ev1 ev2 ev3
     clear ev2
     subst ev1 ev3
     have HQG : Aside0 (q ≠ g ∧ q ≠ gm) := ⟨HR.out.1 q (by simp [Value.ownBlock])⟩
     have HQ1 := aMk hq1
     clear hq1 hq2
     go_wp2_with fail
     refine start_ (n := 16) (S := (fun W => W.cell? ⟨B, 0, none⟩ = some (.slice (some ⟨g, 0, none⟩) N cap) ∧ W.cell? ⟨B, 1, none⟩ = some (.int .i64 k))) (ds := [12, 13]) #[false, false, false, false, false, false, false, false, false, false, false, false, false, false, false, false] (by kernel_rfl) (by kernel_rfl) (by rfl) (⟨d0, d1⟩) (fun hS0 => ?_)
     refine pure_ (i := 0) (N := (some 64)) (v := ?_) (a' := ?_) #[true, false, false, false, false, false, false, false, false, false, false, false, false, false, false, false] rfl rfl (by kernel_rfl) (fun _ _ _ h => h) (Or.inl ⟨by rfl, ?_⟩) ?_ ?_
     rotate_left
     ·intro w'
      go_simp
      with_reducible rfl
     rotate_left
     ·simp only [Act.put, sqA, sq0, sq1]
      rfl
     refine pure_ (i := 1) (N := (some 65)) (v := ?_) (a' := ?_) #[true, true, false, false, false, false, false, false, false, false, false, false, false, false, false, false] rfl rfl (by kernel_rfl) (fun _ _ _ h => h) (Or.inl ⟨by rfl, ?_⟩) ?_ ?_
     rotate_left
     ·intro w'
      go_simp
      with_reducible rfl
     rotate_left
     ·simp only [Act.put, sqA, sq0, sq1]
      rfl
     refine pure_ (i := 2) (N := (some 66)) (v := ?_) (a' := ?_) #[true, true, true, false, false, false, false, false, false, false, false, false, false, false, false, false] rfl rfl (by kernel_rfl) (fun _ _ _ h => h) (Or.inl ⟨by rfl, ?_⟩) ?_ ?_
     rotate_left
     ·intro w'
      go_simp
      with_reducible rfl
     rotate_left
     ·simp only [Act.put, sqA, sq0, sq1]
      rfl
     refine pure_ (i := 3) (N := (some 67)) (v := ?_) (a' := ?_) #[true, true, true, true, false, false, false, false, false, false, false, false, false, false, false, false] rfl rfl (by kernel_rfl) (fun _ _ _ h => h) (Or.inl ⟨by rfl, ?_⟩) ?_ ?_
     rotate_left
     ·intro w'
      go_simp
      with_reducible rfl
     rotate_left
     ·simp only [Act.put, sqA, sq0, sq1]
      rfl
     refine pure_ (i := 4) (N := (some 68)) (v := ?_) (a' := ?_) #[true, true, true, true, true, false, false, false, false, false, false, false, false, false, false, false] rfl rfl (by kernel_rfl) (fun _ _ _ h => h) (Or.inl ⟨by rfl, ?_⟩) ?_ ?_
     rotate_left
     ·intro w'
      go_simp
      with_reducible rfl
     rotate_left
     ·simp only [Act.put, sqA, sq0, sq1]
      rfl
     refine take_ (i := 5) (N := (some 69)) (v := ?_) (a' := ?_) #[true, true, true, true, true, true, false, false, false, false, false, false, false, false, false, false] rfl rfl (by kernel_rfl) (fun _ _ _ h => h) (Or.inl ⟨by rfl, ?_⟩) hS0 ?_ ?_
     rotate_left
     ·intro w' s0
      obtain ⟨hx0, hx1⟩ := s0
      go_simp
      with_reducible rfl
     rotate_left
     ·simp only [Act.put, sqA, sq0, sq1]
      rfl
     refine pure_ (i := 6) (N := (some 70)) (v := ?_) (a' := ?_) #[true, true, true, true, true, true, true, false, false, false, false, false, false, false, false, false] rfl rfl (by kernel_rfl) (fun _ _ _ h => h) (Or.inl ⟨by rfl, ?_⟩) ?_ ?_
     rotate_left
     ·intro w'
      go_simp
      with_reducible rfl
     rotate_left
     ·simp only [Act.put, sqA, sq0, sq1]
      rfl
     refine pure_ (i := 7) (N := (some 71)) (v := ?_) (a' := ?_) #[true, true, true, true, true, true, true, true, false, false, false, false, false, false, false, false] rfl rfl (by kernel_rfl) (fun _ _ _ h => h) (Or.inl ⟨by rfl, ?_⟩) ?_ ?_
     rotate_left
     ·intro w'
      go_simp
      with_reducible rfl
     rotate_left
     ·simp only [Act.put, sqA, sq0, sq1]
      rfl
     refine pure_ (i := 8) (N := (some 72)) (v := ?_) (a' := ?_) #[true, true, true, true, true, true, true, true, true, false, false, false, false, false, false, false] rfl rfl (by kernel_rfl) (fun _ _ _ h => h) (Or.inl ⟨by rfl, ?_⟩) ?_ ?_
     rotate_left
     ·intro w'
      go_simp
      with_reducible rfl
     rotate_left
     ·simp only [Act.put, sqA, sq0, sq1]
      rfl
     refine take_ (i := 9) (N := (some 73)) (v := ?_) (a' := ?_) #[true, true, true, true, true, true, true, true, true, true, false, false, false, false, false, false] rfl rfl (by kernel_rfl) (fun _ _ _ h => h) (Or.inl ⟨by rfl, ?_⟩) hS0 ?_ ?_
     rotate_left
     ·intro w' s0
      obtain ⟨hx0, hx1⟩ := s0
      go_simp
      with_reducible rfl
     rotate_left
     ·simp only [Act.put, sqA, sq0, sq1]
      rfl
     refine pure_ (i := 10) (N := (some 74)) (v := ?_) (a' := ?_) #[true, true, true, true, true, true, true, true, true, true, true, false, false, false, false, false] rfl rfl (by kernel_rfl) (fun _ _ _ h => h) (Or.inl ⟨by rfl, ?_⟩) ?_ ?_
     rotate_left
     ·intro w'
      go_simp
      with_reducible rfl
     rotate_left
     ·simp only [Act.put, sqA, sq0, sq1]
      rfl
     refine pure_ (i := 11) (N := (some 75)) (v := ?_) (a' := ?_) #[true, true, true, true, true, true, true, true, true, true, true, true, false, false, false, false] rfl rfl (by kernel_rfl) (fun _ _ _ h => h) (Or.inl ⟨by rfl, ?_⟩) ?_ ?_
     rotate_left
     ·intro w'
      go_simp
      with_reducible rfl
     rotate_left
     ·simp only [Act.put, sqA, sq0, sq1]
      rfl
     clear hS0
     refine last_ (i := 12) (N := (some 76)) #[true, true, true, true, true, true, true, true, true, true, true, true, true, false, false, false] rfl rfl (by kernel_rfl) (by decide) (fun K hK => ?_)
     refine goes_ Tryz.func253 (by kernel_rfl) rfl #[.slice (some ⟨g, 0, none⟩) N cap, .int .i64 i] (by rfl) rfl rfl (by go_simp; done) ?_
     refine (find_c HVd.out HP.out (by omega) i hiN).mono ?_
     rintro e w6 ⟨p1, rfl, a1, a2, a3⟩
     refine ⟨_, rfl, ?_⟩
     rw [← HX.out]
     have HV6 := aMk a1
     have HP6 := aMk a2
     have HG6 : Aside0 (wr.grownBy w6 (some g)) := ⟨qgT (below_grownBy (below_drew (qBr _ _)) _) a3⟩
     clear a1 a2 a3 HV HVd HP
     change K (Act.put _ (some 76) _) _
     refine hK.out _ _ ?_
     clear hK
     refine norm_ (a' := ?_) ?_ ?_
     rotate_left
     ·simp only [Act.put, sqA, sq0, sq1]
      rfl
     refine last_ (i := 13) (N := (some 77)) #[true, true, true, true, true, true, true, true, true, true, true, true, true, true, false, false] rfl rfl (by kernel_rfl) (by decide) (fun K hK => ?_)
     have hlk := (HM.out.kept HG6.out (fun e => HNG.out (qoI e))).lookup x (by omega) HTH.out
     rw [← HIX.out] at hlk
     refine value_ (w1 := w6) (v := .int .i64 ix) (by rfl) rfl (by unfold execOp; simp [hlk, Act.eval]) ?_
     change K (Act.put _ (some 77) _) _
     refine hK.out _ _ ?_
     clear hK
     refine norm_ (a' := ?_) ?_ ?_
     rotate_left
     ·simp only [Act.put, sqA, sq0, sq1]
      rfl
     refine pure_ (i := 14) (N := (some 78)) (v := ?_) (a' := ?_) #[true, true, true, true, true, true, true, true, true, true, true, true, true, true, true, false] rfl rfl (by kernel_rfl) (fun _ _ _ h => h) (Or.inl ⟨by rfl, ?_⟩) ?_ ?_
     rotate_left
     ·intro w'
      go_simp
      with_reducible rfl
     rotate_left
     ·simp only [Act.put, sqA, sq0, sq1]
      rfl
     refine pure_ (i := 15) (N := (some 10)) (v := ?_) (a' := ?_) #[true, true, true, true, true, true, true, true, true, true, true, true, true, true, true, true] rfl rfl (by kernel_rfl) (fun _ _ _ h => h) (Or.inl ⟨by rfl, ?_⟩) ?_ ?_
     rotate_left
     ·intro w'
      go_simp
      with_reducible rfl
     rotate_left
     ·simp only [Act.put, sqA, sq0, sq1]
      rfl
     refine done_ (by kernel_rfl) ?_
     obtain ⟨xs, hxs⟩ : ∃ xs, xs = (firsts r k).map (toS ∘ clu2 r k m t) := ⟨_, rfl⟩
     have hlen : xs.length = ln := by rw [hxs, qlm, HLN.out]
     have HXS := aMk hxs
     have HLEN := aMk hlen
     have HRC6 : Aside0 (RC w6 w.heap.size q c xs) := ⟨by
      have h6 := Kd.R_grown HR.out HG6.out (fun j hj e => hj.1 (qoI e))
      rw [← hxs, ← hlen] at h6
      exact qrM (Kd.R_tight rfl h6) (fun j hj => (qoI (by simpa [Value.ownBlock] using hj)))⟩
     have hxi : ix < xs.length := by omega
     obtain ⟨o1, ho1⟩ : ∃ o1, o1 = (out2 r k m x t).1 := ⟨_, rfl⟩
     have HO1 := aMk ho1
     have hf2 : fld xs[ix] 2 = (o1 : Int) := by
      have : xs[ix] = toS (clu2 r k m t x) := by
       have hix := HIX.out
       subst hxs hix
       rw [List.getElem_map, List.getElem_idxOf]; rfl
      rw [this, ho1]; rfl
     obtain ⟨c2, f2⟩ := HRC6.out.cell ix hxi 2 (by omega)
     rw [hf2] at c2
     obtain ⟨c3, f3⟩ := HRC6.out.cell ix hxi 3 (by omega)
     generalize fld xs[ix] 3 = z3 at c3
     clear hxs hlen ho1 hf2
     by_cases hlo : o1 ≤ t
     ·have hloI : (o1 : Int) ≤ (t : Int) := by omega
      have hloJ : ¬ (t : Int) < (o1 : Int) := by omega
      go_wp2_with fail
      have HP2 := HRC6.out.put2 ix hxi (o1 : Int) ((t : Int) + 1)
      have hg7 : w6.grownBy ((w6.setCell ⟨q, ix * 4 + 2, none⟩ (.int .i64 (o1 : Int))).setCell ⟨q, ix * 4 + 2 + 1, none⟩ (.int .i64 ((t : Int) + 1))) (some q) := qgT (grown_set _ _ _ _) (grown_set _ _ _ _)
      have hst := step_out hlt HI.out HX.out HTH.out HXS.out HIX.out HO1.out hxi (o1 : Int) (by omega)
      refine ⟨⟨t + 1, p1, by go_num, by omega, ⟨(HW.out.grown HG6.out hne).grown hg7 (by have := HQ1.out; have := HBW.out; omega)⟩, ⟨HV6.out.grown hg7 HQG.out.1.symm⟩, HP6, ⟨(HM.out.kept HG6.out (fun e => HNG.out (qoI e))).kept hg7 (fun e => HQG.out.2 (qoI e).symm)⟩, ⟨?_⟩, ⟨grown_row (qgT HG.out HG6.out) hg7 (fun j hj => by have := qoI hj; have := HQ1.out; omega)⟩⟩, by simp [intOf]; omega⟩
      rw [hst]
      unfold RC at HP2
      rw [List.length_set, HLEN.out] at HP2
      exact qrM HP2 (fun j hj => by rw [hj]; exact HQG.out)
     ·have hloI : (t : Int) < (o1 : Int) := by omega
      have hloJ : ¬ (o1 : Int) ≤ (t : Int) := by omega
      go_wp2_with fail
      have HP2 := HRC6.out.put2 ix hxi (t : Int) ((t : Int) + 1)
      have hg7 : w6.grownBy ((w6.setCell ⟨q, ix * 4 + 2, none⟩ (.int .i64 (t : Int))).setCell ⟨q, ix * 4 + 2 + 1, none⟩ (.int .i64 ((t : Int) + 1))) (some q) := qgT (grown_set _ _ _ _) (grown_set _ _ _ _)
      have hst := step_out hlt HI.out HX.out HTH.out HXS.out HIX.out HO1.out hxi (t : Int) (by omega)
      refine ⟨⟨t + 1, p1, by go_num, by omega, ⟨(HW.out.grown HG6.out hne).grown hg7 (by have := HQ1.out; have := HBW.out; omega)⟩, ⟨HV6.out.grown hg7 HQG.out.1.symm⟩, HP6, ⟨(HM.out.kept HG6.out (fun e => HNG.out (qoI e))).kept hg7 (fun e => HQG.out.2 (qoI e).symm)⟩, ⟨?_⟩, ⟨grown_row (qgT HG.out HG6.out) hg7 (fun j hj => by have := qoI hj; have := HQ1.out; omega)⟩⟩, by simp [intOf]; omega⟩
      rw [hst]
      unfold RC at HP2
      rw [List.length_set, HLEN.out] at HP2
      exact qrM HP2 (fun j hj => by rw [hj]; exact HQG.out)
    ·have et : t = m := by omega
     subst et
     have HEND : Aside0 ((firsts r k).map (toS ∘ clu2 r k t t) = cluS k t r k) := ⟨by rw [← List.map_map, clu2_end HBT.out HOUT.out]; rfl⟩
     go_wp2_with fail
     go_ret
     exact ⟨_, rfl, by rw [← HEND.out]; exact qrM HR.out (fun _ _ => trivial), HG.out⟩
end CFin
end
end Go.Proofs.YtemhccjjcioodaaGreat
