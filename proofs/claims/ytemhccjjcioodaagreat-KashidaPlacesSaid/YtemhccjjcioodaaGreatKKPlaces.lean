/- Texts of this claim, cut to what it needs. -/
import Derived.Test.YtemhccjjcioodaaGreatKCTrie2
import Derived.Test.YtemhccjjcioodaaGreatKKProps
import Derived.Shelf.SlSortCmp.WholeK
import Derived.Shelf.SlSortCmp.NoneTotal
import Derived.Shelf.SlicesG.Cmp
import Derived.Ground.SlgcProg
import Derived.Ground.SlsfProg
set_option linter.unusedSimpArgs false
set_option linter.unusedVariables false
section
namespace Go.Proofs.YtemhccjjcioodaaGreat.KPlace
open Go.RowKit Go.Proofs.YtemhccjjcioodaaGreatW.PrintWords Go.Proofs.YtemhccjjcioodaaGreatW.PrintMore Go.Proofs.YtemhccjjcioodaaGreatW.PrintLast Go.Proofs.YtemhccjjcioodaaGreat.U Go.Proofs.YtemhccjjcioodaaGreat.PKashidaStretches Go.Proofs.YtemhccjjcioodaaGreat.KRank Go.Proofs.YtemhccjjcioodaaGreat.UJoin
def rk2 (own next : Int) : Int := mn (if own > 2 then 6 else own) (if next < 3 then 6 else next)
theorem textRank_f (xs ts : List Int) (i b : Int) (h0 : 0 ≤ i) (h1 : i < xs.length) (h2 : 0 ≤ b) (h3 : b < xs.length) : kashida_text_rank.f 20 xs ts i b = some (rk2 (rankO (rd xs i)) (rankO (rd xs b))) := by
 unfold kashida_text_rank.f rk2
 rw [if_pos h0, if_pos h1, rank_f]
 simp only [Option.bind_some]
 rw [if_pos h2, if_pos h3, rank_f]
 simp only [Option.bind_some]
 by_cases h4 : rankO (rd xs i) > 2 <;> by_cases h5 : rankO (rd xs b) < 3 <;> simp only [h4, h5, if_true, if_false]
theorem textRank_c {w : World} {A B : Option Addr} {c d : Nat} {xs ts : List Int} (hx : SL w (.slice A xs.length c) xs) (ht : SL w (.slice B ts.length d) ts) (i b : Int) (h0 : 0 ≤ i) (h1 : i < xs.length) (h2 : 0 ≤ b) (h3 : b < xs.length) :
 Calls Tryz.prog 182 #[.agg #[.slice A xs.length c, .slice B ts.length d], .int .i64 i, .int .i64 b] w fun e w' => e = .returned (.int .i64 (rk2 (rankO (rd xs i)) (rankO (rd xs b)))) ∧ Below w.heap.size w w' := by
 obtain ⟨A', c', e1, hc1, hC1⟩ := hx
 obtain ⟨B', d', e2, hc2, hC2⟩ := ht
 injection e1 with e1 e3 e4
 injection e2 with e5 e6 e7
 subst e1; subst e4; subst e5; subst e7
 exact kashida_text_rank.calls 20 A c xs B d ts i b _ w hC1 hc1 hC2 hc2 (textRank_f xs ts i b h0 h1 h2 h3)
def placeB (xs ts : List Int) (i : Int) : Bool := joinedI ts i && !(decide (rd xs i = 1604) && alefB (rd xs (behindI ts i)))
def prank (xs ts : List Int) (i : Int) : Int := rk2 (rankO (rd xs i)) (rankO (rd xs (behindI ts i)))
set_option maxRecDepth 100000 in
set_option maxHeartbeats 8000000 in
theorem place_c {w : World} {A B : Option Addr} {c d : Nat} {xs ts : List Int} (hx : SL w (.slice A xs.length c) xs) (ht : SL w (.slice B ts.length d) ts) (hl : ts.length = xs.length) (hm : xs.length ≤ 1000000) (i : Nat) (hi : i < xs.length) :
 Calls Tryz.prog 114 #[.agg #[.slice A xs.length c, .slice B ts.length d], .int .i64 i] w fun e w' => ∃ a r : Int, e = .returned (.tuple #[.agg #[.int .i64 a, .int .i64 r], .bool (placeB xs ts i)]) ∧ (placeB xs ts i = true → a = i ∧ r = prank xs ts i) ∧ Below w.heap.size w w' := by
 have HX := Aside0.mk hx
 have HT := Aside0.mk ht
 have HM : Aside0 (ts.length ≤ 1000000) := ⟨by omega⟩
 obtain ⟨ad, cx, ea, c0⟩ := SLk.at_int hx (i : Int) (by omega) (by omega)
 injection ea with ea e2 e3
 clear e2
 subst e3
 subst ea
 rw [Int.toNat_natCast, rd_get hi] at c0
 have hiI : (i : Int) < (xs.length : Int) := by omega
 have hi0 : 0 ≤ (i : Int) := by omega
 have HI := Aside0.mk hi
 have HL := Aside0.mk hl
 have HP0 : Aside0 (placeB xs ts i = (joinedI ts i && !(decide (xs[i] = 1604) && alefB (rd xs (behindI ts i))))) := ⟨by unfold placeB; rw [rd_get hi]⟩
 have HPR : Aside0 (prank xs ts i = rk2 (rankO (rd xs i)) (rankO (rd xs (behindI ts i)))) := ⟨rfl⟩
 have HBR : Aside0 (joinedI ts i = true → 0 ≤ behindI ts i ∧ behindI ts i < xs.length) := ⟨fun hj => by
  have h1 : 0 ≤ behindI ts i := by
   unfold joinedI at hj
   simp only [Bool.and_eq_true, decide_eq_true_eq] at hj
   exact hj.1.1
  have h2 := PureJoin.behindI_range ts i
  omega⟩
 generalize placeB xs ts i = P at HP0 ⊢
 generalize xs[i] = x at c0 HP0
 clear hx ht hl hm hi
 go_enter Tryz.func114, Tryz.ntmps114
 cases hj : joinedI ts i with
 | false =>
  have HJ := Aside0.mk hj
  rw [hj, Bool.false_and] at HP0
  obtain rfl := HP0.out
  clear hj HP0
  go_wp2_with (first | ((with_reducible refine gate_dst (N := 2) rfl ?_); refine box_event ?hg (N := 2) ?hd (cs := #[.slice (some ad) xs.length c, .slice B ts.length d]) (t := 82) ?hr ?_; (case hd => rfl); (case hg => rfl); (case hr => first | (go_simp; done) | (go_simp; rfl)); intro g2 hg w2 hbox hb; have HX2 := Aside0.mk hbox; have HB2 := Aside0.mk hb; clear hg hbox hb) | ((with_reducible refine gate_dst (N := 4) rfl ?_); refine box_event ?hg (N := 4) ?hd (cs := #[.int .i64 0, .int .i64 0]) (t := 154) ?hr ?_; (case hd => rfl); (case hg => rfl); (case hr => first | (go_simp; done) | (go_simp; rfl)); intro g4 hg w4 hbox hb; have HX4 := Aside0.mk hbox; have HX2 : Aside0 (w4.heap[g2]? = some (.cells #[.slice (some ad) xs.length c, .slice B ts.length d] 82 (0, 0))) := ⟨(hb.block _ (blk_lt HX2.out)).trans HX2.out⟩; have HG4 : Aside0 (w.heap.size ≤ g4) := ⟨by rw [hg]; exact HB2.out.size⟩; have HB4 : Aside0 (Below w.heap.size w w4) := ⟨below_step HB2.out hb⟩; have y0 := (blk_cell HX2.out 0).trans rfl; have y1 := (blk_cell HX2.out 1).trans rfl; have z0 := (blk_cell HX4.out 0).trans rfl; have z1 := (blk_cell HX4.out 1).trans rfl; have f0 := blk_frozen HX4.out 0; have f1 := blk_frozen HX4.out 1; clear hg hbox hb) | (go_at_call 179; refine (CJoin3.joined_c (SLk.below HT.out HB4.out) HM.out i).mono ?_; rintro e w5 ⟨rfl, hb⟩; rw [HJ.out]; have HX2 : Aside0 (w5.heap[g2]? = some (.cells #[.slice (some ad) xs.length c, .slice B ts.length d] 82 (0, 0))) := ⟨(hb.block _ (blk_lt HX2.out)).trans HX2.out⟩; have HX4 : Aside0 (w5.heap[g4]? = some (.cells #[.int .i64 0, .int .i64 0] 154 (0, 0))) := ⟨(hb.block _ (blk_lt HX4.out)).trans HX4.out⟩; have HB5 : Aside0 (Below w.heap.size w w5) := ⟨below_step HB4.out hb⟩; have y0 := (blk_cell HX2.out 0).trans rfl; have y1 := (blk_cell HX2.out 1).trans rfl; have z0 := (blk_cell HX4.out 0).trans rfl; have z1 := (blk_cell HX4.out 1).trans rfl; have f0 := blk_frozen HX4.out 0; have f1 := blk_frozen HX4.out 1; clear hb))
  refine bodyPost_ret (results_ct rfl _ _ g4 154 #[.int .i64 0, .int .i64 0] (0, 0) _ rfl (blk_put (cs := #[.int .i64 0, .int .i64 0]) (blk_put (cs := #[.int .i64 0, .int .i64 0]) HX4.out 0 _ rfl) 1 _ rfl) Tryz.underlying154 rfl (by kernel_rfl)) rfl ?_
  exact ⟨_, _, rfl, (fun h => by cases h), (HB5.out.setCell (p := ⟨g4, 0, none⟩) HG4.out _).setCell (p := ⟨g4, 1, none⟩) HG4.out _⟩
 | true =>
  have HJ := Aside0.mk hj
  obtain ⟨hb0, hb1⟩ := HBR.out hj
  obtain ⟨adb, cb', eb, cb⟩ := SLk.at_int HX.out (behindI ts i) hb0 hb1
  injection eb with eb e2 e3
  obtain rfl := Option.some.inj eb
  clear e2 e3
  rw [hj, Bool.true_and] at HP0
  obtain ⟨b, hb⟩ : ∃ b, b = behindI ts i := ⟨_, rfl⟩
  have HBB : Aside0 (behindI ts i = b) := ⟨hb.symm⟩
  have HRK := HPR
  rw [← hb] at cb hb0 hb1 HP0 HRK
  have HXB : Aside0 (rd xs b = rd xs b) := ⟨rfl⟩
  obtain ⟨xb, hxb⟩ : ∃ xb, xb = rd xs b := ⟨_, rfl⟩
  rw [← hxb] at cb HP0
  clear hj hb hxb eb HBR HPR
  by_cases hx4 : x = 1604
  ·cases ha : alefB xb with
   | true =>
    have HAL := Aside0.mk ha
    rw [ha] at HP0
    obtain rfl : P = false := by rw [HP0.out, decide_eq_true hx4]; rfl
    clear ha HP0
    subst hx4
    go_wp2_with (first | ((with_reducible refine gate_dst (N := 2) rfl ?_); refine box_event ?hg (N := 2) ?hd (cs := #[.slice (some ad) xs.length c, .slice B ts.length d]) (t := 82) ?hr ?_; (case hd => rfl); (case hg => rfl); (case hr => first | (go_simp; done) | (go_simp; rfl)); intro g2 hg w2 hbox hb; have HX2 := Aside0.mk hbox; have HB2 := Aside0.mk hb; clear hg hbox hb) | ((with_reducible refine gate_dst (N := 4) rfl ?_); refine box_event ?hg (N := 4) ?hd (cs := #[.int .i64 0, .int .i64 0]) (t := 154) ?hr ?_; (case hd => rfl); (case hg => rfl); (case hr => first | (go_simp; done) | (go_simp; rfl)); intro g4 hg w4 hbox hb; have HX4 := Aside0.mk hbox; have HX2 : Aside0 (w4.heap[g2]? = some (.cells #[.slice (some ad) xs.length c, .slice B ts.length d] 82 (0, 0))) := ⟨(hb.block _ (blk_lt HX2.out)).trans HX2.out⟩; have HG4 : Aside0 (w.heap.size ≤ g4) := ⟨by rw [hg]; exact HB2.out.size⟩; have HB4 : Aside0 (Below w.heap.size w w4) := ⟨below_step HB2.out hb⟩; have y0 := (blk_cell HX2.out 0).trans rfl; have y1 := (blk_cell HX2.out 1).trans rfl; have z0 := (blk_cell HX4.out 0).trans rfl; have z1 := (blk_cell HX4.out 1).trans rfl; have f0 := blk_frozen HX4.out 0; have f1 := blk_frozen HX4.out 1; clear hg hbox hb) | (go_at_call 179; refine (CJoin3.joined_c (SLk.below HT.out HB4.out) HM.out i).mono ?_; rintro e w5 ⟨rfl, hb⟩; rw [HJ.out]; have HX2 : Aside0 (w5.heap[g2]? = some (.cells #[.slice (some ad) xs.length c, .slice B ts.length d] 82 (0, 0))) := ⟨(hb.block _ (blk_lt HX2.out)).trans HX2.out⟩; have HX4 : Aside0 (w5.heap[g4]? = some (.cells #[.int .i64 0, .int .i64 0] 154 (0, 0))) := ⟨(hb.block _ (blk_lt HX4.out)).trans HX4.out⟩; have HB5 : Aside0 (Below w.heap.size w w5) := ⟨below_step HB4.out hb⟩; have y0 := (blk_cell HX2.out 0).trans rfl; have y1 := (blk_cell HX2.out 1).trans rfl; have z0 := (blk_cell HX4.out 0).trans rfl; have z1 := (blk_cell HX4.out 1).trans rfl; have f0 := blk_frozen HX4.out 0; have f1 := blk_frozen HX4.out 1; clear hb) | (go_at_call 180; refine (CJoin3.behind_c (SLk.below HT.out HB5.out) HM.out i).mono ?_; rintro e w6 ⟨rfl, hb⟩; rw [HBB.out]; have HX2 : Aside0 (w6.heap[g2]? = some (.cells #[.slice (some ad) xs.length c, .slice B ts.length d] 82 (0, 0))) := ⟨(hb.block _ (blk_lt HX2.out)).trans HX2.out⟩; have HX4 : Aside0 (w6.heap[g4]? = some (.cells #[.int .i64 0, .int .i64 0] 154 (0, 0))) := ⟨(hb.block _ (blk_lt HX4.out)).trans HX4.out⟩; have HB6 : Aside0 (Below w.heap.size w w6) := ⟨below_step HB5.out hb⟩; have y0 := (blk_cell HX2.out 0).trans rfl; have y1 := (blk_cell HX2.out 1).trans rfl; have z0 := (blk_cell HX4.out 0).trans rfl; have z1 := (blk_cell HX4.out 1).trans rfl; have f0 := blk_frozen HX4.out 0; have f1 := blk_frozen HX4.out 1; clear hb; have c0 := (HB6.out.cell (World.block_lt_of_cell? _ _ c0)).trans c0; have cb := (HB6.out.cell (World.block_lt_of_cell? _ _ cb)).trans cb) | (go_at_call 181; refine (alef_c xb _).mono ?_; rintro e w7 ⟨rfl, hb⟩; rw [HAL.out]; have HX2 : Aside0 (w7.heap[g2]? = some (.cells #[.slice (some ad) xs.length c, .slice B ts.length d] 82 (0, 0))) := ⟨(hb.block _ (blk_lt HX2.out)).trans HX2.out⟩; have HX4 : Aside0 (w7.heap[g4]? = some (.cells #[.int .i64 0, .int .i64 0] 154 (0, 0))) := ⟨(hb.block _ (blk_lt HX4.out)).trans HX4.out⟩; have HB7 : Aside0 (Below w.heap.size w w7) := ⟨below_step HB6.out hb⟩; have y0 := (blk_cell HX2.out 0).trans rfl; have y1 := (blk_cell HX2.out 1).trans rfl; have z0 := (blk_cell HX4.out 0).trans rfl; have z1 := (blk_cell HX4.out 1).trans rfl; have f0 := blk_frozen HX4.out 0; have f1 := blk_frozen HX4.out 1; clear hb))
    refine bodyPost_ret (results_ct rfl _ _ g4 154 #[.int .i64 0, .int .i64 0] (0, 0) _ rfl (blk_put (cs := #[.int .i64 0, .int .i64 0]) (blk_put (cs := #[.int .i64 0, .int .i64 0]) HX4.out 0 _ rfl) 1 _ rfl) Tryz.underlying154 rfl (by kernel_rfl)) rfl ?_
    exact ⟨_, _, rfl, (fun h => by cases h), (HB7.out.setCell (p := ⟨g4, 0, none⟩) HG4.out _).setCell (p := ⟨g4, 1, none⟩) HG4.out _⟩
   | false =>
    have HAL := Aside0.mk ha
    rw [ha] at HP0
    obtain rfl : P = true := by rw [HP0.out, Bool.and_false]; rfl
    clear ha HP0
    subst hx4
    go_wp2_with (first | ((with_reducible refine gate_dst (N := 2) rfl ?_); refine box_event ?hg (N := 2) ?hd (cs := #[.slice (some ad) xs.length c, .slice B ts.length d]) (t := 82) ?hr ?_; (case hd => rfl); (case hg => rfl); (case hr => first | (go_simp; done) | (go_simp; rfl)); intro g2 hg w2 hbox hb; have HX2 := Aside0.mk hbox; have HB2 := Aside0.mk hb; clear hg hbox hb) | ((with_reducible refine gate_dst (N := 4) rfl ?_); refine box_event ?hg (N := 4) ?hd (cs := #[.int .i64 0, .int .i64 0]) (t := 154) ?hr ?_; (case hd => rfl); (case hg => rfl); (case hr => first | (go_simp; done) | (go_simp; rfl)); intro g4 hg w4 hbox hb; have HX4 := Aside0.mk hbox; have HX2 : Aside0 (w4.heap[g2]? = some (.cells #[.slice (some ad) xs.length c, .slice B ts.length d] 82 (0, 0))) := ⟨(hb.block _ (blk_lt HX2.out)).trans HX2.out⟩; have HG4 : Aside0 (w.heap.size ≤ g4) := ⟨by rw [hg]; exact HB2.out.size⟩; have HB4 : Aside0 (Below w.heap.size w w4) := ⟨below_step HB2.out hb⟩; have y0 := (blk_cell HX2.out 0).trans rfl; have y1 := (blk_cell HX2.out 1).trans rfl; have z0 := (blk_cell HX4.out 0).trans rfl; have z1 := (blk_cell HX4.out 1).trans rfl; have f0 := blk_frozen HX4.out 0; have f1 := blk_frozen HX4.out 1; clear hg hbox hb) | (go_at_call 179; refine (CJoin3.joined_c (SLk.below HT.out HB4.out) HM.out i).mono ?_; rintro e w5 ⟨rfl, hb⟩; rw [HJ.out]; have HX2 : Aside0 (w5.heap[g2]? = some (.cells #[.slice (some ad) xs.length c, .slice B ts.length d] 82 (0, 0))) := ⟨(hb.block _ (blk_lt HX2.out)).trans HX2.out⟩; have HX4 : Aside0 (w5.heap[g4]? = some (.cells #[.int .i64 0, .int .i64 0] 154 (0, 0))) := ⟨(hb.block _ (blk_lt HX4.out)).trans HX4.out⟩; have HB5 : Aside0 (Below w.heap.size w w5) := ⟨below_step HB4.out hb⟩; have y0 := (blk_cell HX2.out 0).trans rfl; have y1 := (blk_cell HX2.out 1).trans rfl; have z0 := (blk_cell HX4.out 0).trans rfl; have z1 := (blk_cell HX4.out 1).trans rfl; have f0 := blk_frozen HX4.out 0; have f1 := blk_frozen HX4.out 1; clear hb) | (go_at_call 180; refine (CJoin3.behind_c (SLk.below HT.out HB5.out) HM.out i).mono ?_; rintro e w6 ⟨rfl, hb⟩; rw [HBB.out]; have HX2 : Aside0 (w6.heap[g2]? = some (.cells #[.slice (some ad) xs.length c, .slice B ts.length d] 82 (0, 0))) := ⟨(hb.block _ (blk_lt HX2.out)).trans HX2.out⟩; have HX4 : Aside0 (w6.heap[g4]? = some (.cells #[.int .i64 0, .int .i64 0] 154 (0, 0))) := ⟨(hb.block _ (blk_lt HX4.out)).trans HX4.out⟩; have HB6 : Aside0 (Below w.heap.size w w6) := ⟨below_step HB5.out hb⟩; have y0 := (blk_cell HX2.out 0).trans rfl; have y1 := (blk_cell HX2.out 1).trans rfl; have z0 := (blk_cell HX4.out 0).trans rfl; have z1 := (blk_cell HX4.out 1).trans rfl; have f0 := blk_frozen HX4.out 0; have f1 := blk_frozen HX4.out 1; clear hb; have c0 := (HB6.out.cell (World.block_lt_of_cell? _ _ c0)).trans c0; have cb := (HB6.out.cell (World.block_lt_of_cell? _ _ cb)).trans cb) | (go_at_call 181; refine (alef_c xb _).mono ?_; rintro e w7 ⟨rfl, hb⟩; rw [HAL.out]; have HX2 : Aside0 (w7.heap[g2]? = some (.cells #[.slice (some ad) xs.length c, .slice B ts.length d] 82 (0, 0))) := ⟨(hb.block _ (blk_lt HX2.out)).trans HX2.out⟩; have HX4 : Aside0 (w7.heap[g4]? = some (.cells #[.int .i64 0, .int .i64 0] 154 (0, 0))) := ⟨(hb.block _ (blk_lt HX4.out)).trans HX4.out⟩; have HB7 : Aside0 (Below w.heap.size w w7) := ⟨below_step HB6.out hb⟩; have y0 := (blk_cell HX2.out 0).trans rfl; have y1 := (blk_cell HX2.out 1).trans rfl; have z0 := (blk_cell HX4.out 0).trans rfl; have z1 := (blk_cell HX4.out 1).trans rfl; have f0 := blk_frozen HX4.out 0; have f1 := blk_frozen HX4.out 1; clear hb) | (go_at_call 182; refine (textRank_c (ts := ts) (SLk.below HX.out HB7.out) (SLk.below HT.out HB7.out) i b (by omega) (by omega) (by omega) (by omega)).mono ?_; rintro e w8 ⟨rfl, hb⟩; rw [← HRK.out]; have HX2 : Aside0 (w8.heap[g2]? = some (.cells #[.slice (some ad) xs.length c, .slice B ts.length d] 82 (0, 0))) := ⟨(hb.block _ (blk_lt HX2.out)).trans HX2.out⟩; have HX4 : Aside0 (w8.heap[g4]? = some (.cells #[.int .i64 0, .int .i64 0] 154 (0, 0))) := ⟨(hb.block _ (blk_lt HX4.out)).trans HX4.out⟩; have HB8 : Aside0 (Below w.heap.size w w8) := ⟨below_step HB7.out hb⟩; have y0 := (blk_cell HX2.out 0).trans rfl; have y1 := (blk_cell HX2.out 1).trans rfl; have z0 := (blk_cell HX4.out 0).trans rfl; have z1 := (blk_cell HX4.out 1).trans rfl; have f0 := blk_frozen HX4.out 0; have f1 := blk_frozen HX4.out 1; clear hb))
    refine bodyPost_ret (results_ct rfl _ _ g4 154 #[.int .i64 i, .int .i64 (prank xs ts i)] (0, 0) _ rfl (blk_put (cs := #[.int .i64 i, .int .i64 0]) (blk_put (cs := #[.int .i64 0, .int .i64 0]) HX4.out 0 _ rfl) 1 _ rfl) Tryz.underlying154 rfl (by kernel_rfl)) rfl ?_
    exact ⟨_, _, rfl, ⟨rfl, rfl⟩, (HB8.out.setCell (p := ⟨g4, 0, none⟩) HG4.out _).setCell (p := ⟨g4, 1, none⟩) HG4.out _⟩
  ·obtain rfl : P = true := by rw [HP0.out, decide_eq_false hx4]; rfl
   clear HP0
   go_wp2_with (first | ((with_reducible refine gate_dst (N := 2) rfl ?_); refine box_event ?hg (N := 2) ?hd (cs := #[.slice (some ad) xs.length c, .slice B ts.length d]) (t := 82) ?hr ?_; (case hd => rfl); (case hg => rfl); (case hr => first | (go_simp; done) | (go_simp; rfl)); intro g2 hg w2 hbox hb; have HX2 := Aside0.mk hbox; have HB2 := Aside0.mk hb; clear hg hbox hb) | ((with_reducible refine gate_dst (N := 4) rfl ?_); refine box_event ?hg (N := 4) ?hd (cs := #[.int .i64 0, .int .i64 0]) (t := 154) ?hr ?_; (case hd => rfl); (case hg => rfl); (case hr => first | (go_simp; done) | (go_simp; rfl)); intro g4 hg w4 hbox hb; have HX4 := Aside0.mk hbox; have HX2 : Aside0 (w4.heap[g2]? = some (.cells #[.slice (some ad) xs.length c, .slice B ts.length d] 82 (0, 0))) := ⟨(hb.block _ (blk_lt HX2.out)).trans HX2.out⟩; have HG4 : Aside0 (w.heap.size ≤ g4) := ⟨by rw [hg]; exact HB2.out.size⟩; have HB4 : Aside0 (Below w.heap.size w w4) := ⟨below_step HB2.out hb⟩; have y0 := (blk_cell HX2.out 0).trans rfl; have y1 := (blk_cell HX2.out 1).trans rfl; have z0 := (blk_cell HX4.out 0).trans rfl; have z1 := (blk_cell HX4.out 1).trans rfl; have f0 := blk_frozen HX4.out 0; have f1 := blk_frozen HX4.out 1; clear hg hbox hb) | (go_at_call 179; refine (CJoin3.joined_c (SLk.below HT.out HB4.out) HM.out i).mono ?_; rintro e w5 ⟨rfl, hb⟩; rw [HJ.out]; have HX2 : Aside0 (w5.heap[g2]? = some (.cells #[.slice (some ad) xs.length c, .slice B ts.length d] 82 (0, 0))) := ⟨(hb.block _ (blk_lt HX2.out)).trans HX2.out⟩; have HX4 : Aside0 (w5.heap[g4]? = some (.cells #[.int .i64 0, .int .i64 0] 154 (0, 0))) := ⟨(hb.block _ (blk_lt HX4.out)).trans HX4.out⟩; have HB5 : Aside0 (Below w.heap.size w w5) := ⟨below_step HB4.out hb⟩; have y0 := (blk_cell HX2.out 0).trans rfl; have y1 := (blk_cell HX2.out 1).trans rfl; have z0 := (blk_cell HX4.out 0).trans rfl; have z1 := (blk_cell HX4.out 1).trans rfl; have f0 := blk_frozen HX4.out 0; have f1 := blk_frozen HX4.out 1; clear hb) | (go_at_call 180; refine (CJoin3.behind_c (SLk.below HT.out HB5.out) HM.out i).mono ?_; rintro e w6 ⟨rfl, hb⟩; rw [HBB.out]; have HX2 : Aside0 (w6.heap[g2]? = some (.cells #[.slice (some ad) xs.length c, .slice B ts.length d] 82 (0, 0))) := ⟨(hb.block _ (blk_lt HX2.out)).trans HX2.out⟩; have HX4 : Aside0 (w6.heap[g4]? = some (.cells #[.int .i64 0, .int .i64 0] 154 (0, 0))) := ⟨(hb.block _ (blk_lt HX4.out)).trans HX4.out⟩; have HB6 : Aside0 (Below w.heap.size w w6) := ⟨below_step HB5.out hb⟩; have y0 := (blk_cell HX2.out 0).trans rfl; have y1 := (blk_cell HX2.out 1).trans rfl; have z0 := (blk_cell HX4.out 0).trans rfl; have z1 := (blk_cell HX4.out 1).trans rfl; have f0 := blk_frozen HX4.out 0; have f1 := blk_frozen HX4.out 1; clear hb; have c0 := (HB6.out.cell (World.block_lt_of_cell? _ _ c0)).trans c0; have cb := (HB6.out.cell (World.block_lt_of_cell? _ _ cb)).trans cb) | (go_at_call 182; refine (textRank_c (ts := ts) (SLk.below HX.out HB6.out) (SLk.below HT.out HB6.out) i b (by omega) (by omega) (by omega) (by omega)).mono ?_; rintro e w8 ⟨rfl, hb⟩; rw [← HRK.out]; have HX2 : Aside0 (w8.heap[g2]? = some (.cells #[.slice (some ad) xs.length c, .slice B ts.length d] 82 (0, 0))) := ⟨(hb.block _ (blk_lt HX2.out)).trans HX2.out⟩; have HX4 : Aside0 (w8.heap[g4]? = some (.cells #[.int .i64 0, .int .i64 0] 154 (0, 0))) := ⟨(hb.block _ (blk_lt HX4.out)).trans HX4.out⟩; have HB8 : Aside0 (Below w.heap.size w w8) := ⟨below_step HB6.out hb⟩; have y0 := (blk_cell HX2.out 0).trans rfl; have y1 := (blk_cell HX2.out 1).trans rfl; have z0 := (blk_cell HX4.out 0).trans rfl; have z1 := (blk_cell HX4.out 1).trans rfl; have f0 := blk_frozen HX4.out 0; have f1 := blk_frozen HX4.out 1; clear hb))
   refine bodyPost_ret (results_ct rfl _ _ g4 154 #[.int .i64 i, .int .i64 (prank xs ts i)] (0, 0) _ rfl (blk_put (cs := #[.int .i64 i, .int .i64 0]) (blk_put (cs := #[.int .i64 0, .int .i64 0]) HX4.out 0 _ rfl) 1 _ rfl) Tryz.underlying154 rfl (by kernel_rfl)) rfl ?_
   exact ⟨_, _, rfl, ⟨rfl, rfl⟩, (HB8.out.setCell (p := ⟨g4, 0, none⟩) HG4.out _).setCell (p := ⟨g4, 1, none⟩) HG4.out _⟩
end Go.Proofs.YtemhccjjcioodaaGreat.KPlace
end
section
namespace Go.Proofs.YtemhccjjcioodaaGreat.CFin
open Go.RowKit Go.Proofs.YtemhccjjcioodaaGreatW.PrintWords Go.Proofs.YtemhccjjcioodaaGreatW.PrintMore Go.Proofs.YtemhccjjcioodaaGreatW.PrintLast Go.Proofs.YtemhccjjcioodaaGreat.U Go.Proofs.YtemhccjjcioodaaGreat.PClusterFinest Go.Proofs.YtemhccjjcioodaaGreat.UFinest Go.Proofs.YtemhccjjcioodaaGreat.UFinEv
theorem info33 : (Tryz.prog.info? 34).map (fun i => (i.zero, i.size, i.bytes)) = some (some (.agg #[(.int .i64 0), (.int .i64 0)]), 2, 16) := by kernel_rfl
abbrev cells33 (p : S33) : Obj := .cells #[.int .i64 p.f0, .int .i64 p.f1] 34 (0, 0)
theorem one33 {W : World} {b : Nat} {p : S33} (h : W.heap[b]? = some (cells33 p)) : Kd.C k33 W (some ⟨b, 0, none⟩) 1 [p] := by
 refine ⟨rfl, by simp, fun hn => ⟨_, rfl, fun j x hj => ?_⟩⟩
 obtain ⟨hl, hx⟩ := List.getElem?_eq_some_iff.1 hj
 obtain rfl : j = 0 := by simpa using hl
 obtain rfl : p = x := by simpa using hx
 refine ⟨_, rfl, k33_mk W p, fun i u hu => ?_⟩
 have ea : (⟨b, 0, none⟩ : Addr).add (0 * k33.sz + i) = ⟨b, i, none⟩ := by rw [add_plain, Nat.zero_mul, Nat.zero_add]
 rw [ea, blk_cell h i]
 match i, hu with
 | 0, hu => exact hu
 | 1, hu => exact hu
structure PR (W0 W : World) (base : Nat) (G : Nat → Prop) (p q : S33) (v1 : Value) (xs : List S33) (v2 : Value) (ys : List S33) (c1 c2 : Option Nat) : Prop where
 r1 : Kd.R k33 34 W base (fun k => some k = v1.ownBlock) v1 xs
 r2 : Kd.R k33 34 W base (fun k => some k = v2.ownBlock) v2 ys
 ne : ∀ k, v1.ownBlock = some k → v2.ownBlock ≠ some k
 sz : W0.heap.size ≤ W.heap.size
 lt : ∀ k, G k → k < W0.heap.size
 keep : ∀ k, G k → W.heap[k]? = W0.heap[k]?
 n1 : ∀ k, G k → v1.ownBlock ≠ some k
 n2 : ∀ k, G k → v2.ownBlock ≠ some k
 b1 : ∀ b, c1 = some b → W.heap[b]? = some (cells33 p) ∧ v1.ownBlock ≠ some b ∧ v2.ownBlock ≠ some b
 b2 : ∀ b, c2 = some b → W.heap[b]? = some (cells33 q) ∧ v1.ownBlock ≠ some b ∧ v2.ownBlock ≠ some b
theorem PR.symm {W0 W : World} {base : Nat} {G : Nat → Prop} {p q : S33} {v1 v2 : Value} {xs ys : List S33} {c1 c2 : Option Nat} (h : PR W0 W base G p q v1 xs v2 ys c1 c2) : PR W0 W base G q p v2 ys v1 xs c2 c1 :=
 ⟨h.r2, h.r1, fun k h1 h2 => h.ne k h2 h1, h.sz, h.lt, h.keep, h.n2, h.n1, fun b hb => ⟨(h.b2 b hb).1, (h.b2 b hb).2.2, (h.b2 b hb).2.1⟩, fun b hb => ⟨(h.b1 b hb).1, (h.b1 b hb).2.2, (h.b1 b hb).2.1⟩⟩
theorem PR.drew {W0 W : World} {base : Nat} {G : Nat → Prop} {p q : S33} {v1 v2 : Value} {xs ys : List S33} {c1 c2 : Option Nat} (h : PR W0 W base G p q v1 xs v2 ys c1 c2) : PR W0 W.drew base G p q v1 xs v2 ys c1 c2 :=
 ⟨Kd.R_drew h.r1, Kd.R_drew h.r2, h.ne, h.sz, h.lt, h.keep, h.n1, h.n2, h.b1, h.b2⟩
theorem PR.build {W0 W : World} {base : Nat} {G : Nat → Prop} {p q : S33} {v1 v2 : Value} {xs ys : List S33} {c2 : Option Nat} (h : PR W0 W base G p q v1 xs v2 ys none c2) : PR W0 (W.alloc (cells33 p)) base G p q v1 xs v2 ys (some W.heap.size) c2 := by
 have hg := World.grownBy_alloc W (cells33 p) none
 have hold : ∀ k, k < W.heap.size → (W.alloc (cells33 p)).heap[k]? = W.heap[k]? := fun k hk => hg.block k hk (by simp)
 refine ⟨Kd.R_alloc h.r1 _, Kd.R_alloc h.r2 _, h.ne, Nat.le_trans h.sz hg.size, h.lt, fun k hk => (hold k (Nat.lt_of_lt_of_le (h.lt k hk) h.sz)).trans (h.keep k hk), h.n1, h.n2, fun b hb => ?_, fun b hb => ?_⟩
 ·obtain rfl := Option.some.inj hb
  exact ⟨(MapKept.heap_alloc W _).1, fun e => by have := Kd.R_lt h.r1 _ e; omega, fun e => by have := Kd.R_lt h.r2 _ e; omega⟩
 ·obtain ⟨h1, h2⟩ := h.b2 b hb
  exact ⟨(hold b (blk_lt h1)).trans h1, h2⟩
theorem PR.append {W0 w1 W : World} {base : Nat} {G : Nat → Prop} {p q : S33} {v1 v2 v : Value} {xs ys : List S33} {c1 c2 : Option Nat} (h : PR W0 W base G p q v1 xs v2 ys c1 c2)
 (hr : Kd.R k33 34 w1 base (fun _ => True) v (xs ++ [p])) (hg : W.grownBy w1 v1.ownBlock) (hat : v.ownBlock = v1.ownBlock ∨ ∃ b, v.ownBlock = some b ∧ W.heap.size ≤ b) : PR W0 w1 base G p q v (xs ++ [p]) v2 ys none c2 := by
 have hv : ∀ k, k < W.heap.size → v1.ownBlock ≠ some k → v.ownBlock ≠ some k := fun k hk hne e => by
  rcases hat with h' | ⟨b, hb, hb2⟩
  ·exact hne (h'.symm.trans e)
  ·rw [hb] at e; have := Option.some.inj e; omega
 refine ⟨Kd.R_mono (Kd.R_tight rfl hr) (fun _ h => h), Kd.R_grown h.r2 hg (fun k hk e => h.ne k e.symm hk.symm), fun k h1 h2 => hv k (Kd.R_lt h.r2 k h2) (fun e => h.ne k e h2) h1, Nat.le_trans h.sz hg.size, h.lt, fun k hk => (hg.block k (Nat.lt_of_lt_of_le (h.lt k hk) h.sz) (fun e => h.n1 k hk e.symm)).trans (h.keep k hk), fun k hk => hv k (Nat.lt_of_lt_of_le (h.lt k hk) h.sz) (h.n1 k hk), h.n2, fun b hb => (by cases hb), fun b hb => ?_⟩
 obtain ⟨h1, h2, h3⟩ := h.b2 b hb
 exact ⟨(hg.block b (blk_lt h1) (fun e => h2 e.symm)).trans h1, hv b (blk_lt h1) h2, h3⟩
theorem PR.start {W : World} {base : Nat} {G : Nat → Prop} {p q : S33} {v1 v2 : Value} {xs ys : List S33} (h1 : Kd.R k33 34 W base (fun k => some k = v1.ownBlock) v1 xs) (h2 : Kd.R k33 34 W base (fun k => some k = v2.ownBlock) v2 ys) (hne : ∀ k, v1.ownBlock = some k → v2.ownBlock ≠ some k)
 (hlt : ∀ k, G k → k < W.heap.size) (n1 : ∀ k, G k → v1.ownBlock ≠ some k) (n2 : ∀ k, G k → v2.ownBlock ≠ some k) : PR W W base G p q v1 xs v2 ys none none :=
 ⟨h1, h2, hne, Nat.le_refl _, hlt, fun _ _ => rfl, n1, n2, fun b hb => (by cases hb), fun b hb => (by cases hb)⟩
theorem made33 {W : World} {base : Nat} (n : Nat) (hn : n ≤ 1000000) (hb : base ≤ W.heap.size) : ∃ w', (Instr.makeSlice 98 (.int .i64 0) (.int .i64 (n : Int))).run Tryz.prog W = .ok (.slice (some ⟨W.heap.size, 0, none⟩) 0 n) w' ∧ Kd.R k33 34 w' base (fun k => k = W.heap.size) (.slice (some ⟨W.heap.size, 0, none⟩) 0 n) [] ∧ W.grownBy w' none := by
 obtain ⟨i0, hi, hzz⟩ := Option.map_eq_some_iff.1 info33
 simp only [Prod.mk.injEq] at hzz
 obtain ⟨hz0, hz1, hz2⟩ := hzz
 obtain ⟨w', h1, h2, h3⟩ := run_make_own (P := Tryz.prog) W base 98 34 i0 _ 2 Tryz.underlying98 hi hz0 hz1 .i64 .i64 n (by rw [hz2]; omega) (by unfold maxLen; omega) hb
 exact ⟨w', h1, ⟨fun k hk => by simpa [Value.ownBlock] using hk.symm, [], h2, Reps.none _ _⟩, h3⟩
end Go.Proofs.YtemhccjjcioodaaGreat.CFin
namespace Go.Proofs.YtemhccjjcioodaaGreat.CFin
open Go.RowKit Go.Proofs.YtemhccjjcioodaaGreatW.PrintWords Go.Proofs.YtemhccjjcioodaaGreatW.PrintMore Go.Proofs.YtemhccjjcioodaaGreatW.PrintLast Go.Proofs.YtemhccjjcioodaaGreat.U Go.Proofs.YtemhccjjcioodaaGreat.PClusterFinest Go.Proofs.YtemhccjjcioodaaGreat.UFinest Go.Proofs.YtemhccjjcioodaaGreat.UFinEv
set_option maxRecDepth 100000 in
set_option maxHeartbeats 2000000 in
theorem sides_c {w : World} {v : Value} {l : List S45} (h : SLk k45 w v l) (hl : l.length ≤ 1000000) :
 Calls Tryz.prog 88 #[v] w fun e w' => ∃ u1 u2, e = .returned (.tuple #[u1, u2]) ∧ Kd.R k33 34 w' w.heap.size (fun k => some k = u1.ownBlock) u1 (l.map (·.f0)) ∧ Kd.R k33 34 w' w.heap.size (fun k => some k = u2.ownBlock) u2 (l.map (·.f1)) ∧ (∀ k, u1.ownBlock = some k → u2.ownBlock ≠ some k) ∧ Below w.heap.size w w' := by
 obtain ⟨A, c, rfl, hcc, hC⟩ := h
 have HC := Aside0.mk hC
 have HL := Aside0.mk hl
 clear hC hcc
 go_enter Tryz.func88, Tryz.ntmps88
 go_wp2_with fail
 refine start_ (n := 8) (S := (fun W => True)) (ds := []) #[false, false, false, false, false, false, false, false] (by kernel_rfl) (by kernel_rfl) (by rfl) trivial (fun hS0 => ?_)
 refine pure_ (i := 0) (N := (some 8)) (v := ?_) (a' := ?_) #[true, false, false, false, false, false, false, false] rfl rfl (by kernel_rfl) (fun _ _ _ h => h) (Or.inl ⟨by rfl, ?_⟩) ?_ ?_
 rotate_left
 ·intro w'
  go_simp
  with_reducible rfl
 rotate_left
 ·simp only [Act.put, List.setIfInBounds_toArray, List.set_cons_zero, List.set_cons_succ]
  rfl
 refine pure_ (i := 1) (N := (some 9)) (v := ?_) (a' := ?_) #[true, true, false, false, false, false, false, false] rfl rfl (by kernel_rfl) (fun _ _ _ h => h) (Or.inl ⟨by rfl, ?_⟩) ?_ ?_
 rotate_left
 ·intro w'
  go_simp
  with_reducible rfl
 rotate_left
 ·simp only [Act.put, List.setIfInBounds_toArray, List.set_cons_zero, List.set_cons_succ]
  rfl
 refine pure_ (i := 3) (N := (some 11)) (v := ?_) (a' := ?_) #[true, true, false, true, false, false, false, false] rfl rfl (by kernel_rfl) (fun _ _ _ h => h) (Or.inl ⟨by rfl, ?_⟩) ?_ ?_
 rotate_left
 ·intro w'
  go_simp
  with_reducible rfl
 rotate_left
 ·simp only [Act.put, List.setIfInBounds_toArray, List.set_cons_zero, List.set_cons_succ]
  rfl
 refine pure_ (i := 4) (N := (some 12)) (v := ?_) (a' := ?_) #[true, true, false, true, true, false, false, false] rfl rfl (by kernel_rfl) (fun _ _ _ h => h) (Or.inl ⟨by rfl, ?_⟩) ?_ ?_
 rotate_left
 ·intro w'
  go_simp
  with_reducible rfl
 rotate_left
 ·simp only [Act.put, List.setIfInBounds_toArray, List.set_cons_zero, List.set_cons_succ]
  rfl
 clear hS0
 refine join_ (σ := Nat × Nat) 1 #[true, true, true, true, true, true, true, false] (fun s => [(10, .slice (some ⟨s.1, 0, none⟩) 0 l.length), (13, .slice (some ⟨s.2, 0, none⟩) 0 l.length), (4, .slice (some ⟨s.1, 0, none⟩) 0 l.length)]) (fun s w' => Below w.heap.size w w' ∧ Kd.R k33 34 w' w.heap.size (fun k => k = s.1) (.slice (some ⟨s.1, 0, none⟩) 0 l.length) [] ∧ Kd.R k33 34 w' w.heap.size (fun k => k = s.2) (.slice (some ⟨s.2, 0, none⟩) 0 l.length) [] ∧ s.1 ≠ s.2) ?_ (fun hcont => ?_)
 rotate_left
 ·refine two_ (i := 2) (j := 5) (Ni := some 10) (Nj := some 13) #[true, true, true, true, true, false, false, false] #[true, true, false, true, true, true, false, false] rfl rfl rfl rfl (by kernel_rfl) (by decide) (by decide) (fun K hK => ?_) (fun K hK => ?_)
  ·obtain ⟨wA, hr1, hR1, hg1⟩ := made33 (W := w.drew) (base := w.heap.size) l.length HL.out (Nat.le_refl _)
   refine value_ (w1 := wA) (v := .slice (some ⟨w.drew.heap.size, 0, none⟩) 0 l.length) (by rfl) rfl (by unfold execOp; simp [Act.eval, hr1]) ?_
   change K (Act.put _ (some 10) _) _
   refine hK.out _ _ trivial (fun hS0 => ?_)
   clear hK
   refine norm_ (a' := ?_) ?_ ?_
   rotate_left
   ·simp only [Act.put, List.setIfInBounds_toArray, List.set_cons_zero, List.set_cons_succ]
    rfl
   refine pure_ (i := 6) (N := (some 4)) (v := ?_) (a' := ?_) #[true, true, true, true, true, false, true, false] rfl rfl (by kernel_rfl) (fun _ _ _ h => h) (Or.inl ⟨by rfl, ?_⟩) ?_ ?_
   rotate_left
   ·intro w'
    go_simp
    with_reducible rfl
   rotate_left
   ·simp only [Act.put, List.setIfInBounds_toArray, List.set_cons_zero, List.set_cons_succ]
    rfl
   clear hS0
   refine one_ (i := 5) (N := (some 13)) #[true, true, true, true, true, true, true, false] rfl rfl (by kernel_rfl) (by decide) (fun K hK => ?_)
   obtain ⟨wB, hr2, hR2, hg2⟩ := made33 (W := wA) (base := w.heap.size) l.length HL.out (Nat.le_trans (Nat.le_refl _) hg1.size)
   refine value_ (w1 := wB) (v := .slice (some ⟨wA.heap.size, 0, none⟩) 0 l.length) (by rfl) rfl (by unfold execOp; simp [Act.eval, hr2]) ?_
   change K (Act.put _ (some 13) _) _
   refine hK.out _ _ trivial (fun hS0 => ?_)
   clear hK
   have hR1' := Kd.R_grown hR1 hg2 (fun k hk e => by cases e)
   have hlt : w.drew.heap.size < wA.heap.size := Kd.R_lt hR1 w.drew.heap.size (by simp [Value.ownBlock])
   have hbw : Below w.heap.size w wB := (below_drew (Below.refl _ _)).grown (World.grownBy.trans hg1 hg2) (Nat.le_refl _) (fun j hj => by cases hj)
   exact hcont (_, _) wB ⟨hbw, hR1', hR2, fun e => by have : w.drew.heap.size = wA.heap.size := e; omega⟩
  ·obtain ⟨wA, hr1, hR1, hg1⟩ := made33 (W := w.drew) (base := w.heap.size) l.length HL.out (Nat.le_refl _)
   refine value_ (w1 := wA) (v := .slice (some ⟨w.drew.heap.size, 0, none⟩) 0 l.length) (by rfl) rfl (by unfold execOp; simp [Act.eval, hr1]) ?_
   change K (Act.put _ (some 13) _) _
   refine hK.out _ _ trivial (fun hS0 => ?_)
   clear hK
   refine norm_ (a' := ?_) ?_ ?_
   rotate_left
   ·simp only [Act.put, List.setIfInBounds_toArray, List.set_cons_zero, List.set_cons_succ]
    rfl
   clear hS0
   refine one_ (i := 2) (N := (some 10)) #[true, true, true, true, true, true, false, false] rfl rfl (by kernel_rfl) (by decide) (fun K hK => ?_)
   obtain ⟨wB, hr2, hR2, hg2⟩ := made33 (W := wA) (base := w.heap.size) l.length HL.out (Nat.le_trans (Nat.le_refl _) hg1.size)
   refine value_ (w1 := wB) (v := .slice (some ⟨wA.heap.size, 0, none⟩) 0 l.length) (by rfl) rfl (by unfold execOp; simp [Act.eval, hr2]) ?_
   change K (Act.put _ (some 10) _) _
   refine hK.out _ _ trivial (fun hS0 => ?_)
   clear hK
   refine norm_ (a' := ?_) ?_ ?_
   rotate_left
   ·simp only [Act.put, List.setIfInBounds_toArray, List.set_cons_zero, List.set_cons_succ]
    rfl
   refine pure_ (i := 6) (N := (some 4)) (v := ?_) (a' := ?_) #[true, true, true, true, true, true, true, false] rfl rfl (by kernel_rfl) (fun _ _ _ h => h) (Or.inl ⟨by rfl, ?_⟩) ?_ ?_
   rotate_left
   ·intro w'
    go_simp
    with_reducible rfl
   rotate_left
   ·simp only [Act.put, List.setIfInBounds_toArray, List.set_cons_zero, List.set_cons_succ]
    rfl
   have hR1' := Kd.R_grown hR1 hg2 (fun k hk e => by cases e)
   have hlt : w.drew.heap.size < wA.heap.size := Kd.R_lt hR1 w.drew.heap.size (by simp [Value.ownBlock])
   have hbw : Below w.heap.size w wB := (below_drew (Below.refl _ _)).grown (World.grownBy.trans hg1 hg2) (Nat.le_refl _) (fun j hj => by cases hj)
   exact hcont (_, _) wB ⟨hbw, hR2, hR1', fun e => by have : wA.heap.size = w.drew.heap.size := e; omega⟩
 rintro ⟨g1, g2⟩ w3 ⟨hb3, hv1, hv2, hne⟩
 dsimp only [putAll]
 dsimp only at hv1 hv2 hne
 have HB3 := Aside0.mk hb3
 have HV1 := Aside0.mk (Kd.R_tight rfl hv1)
 have HV2 := Aside0.mk (Kd.R_tight rfl hv2)
 have HNE : Aside0 (∀ k, (Value.slice (some ⟨g1, 0, none⟩) 0 l.length).ownBlock = some k → (Value.slice (some ⟨g2, 0, none⟩) 0 l.length).ownBlock ≠ some k) := ⟨fun k h1 h2 => hne ((Option.some.inj h1).trans (Option.some.inj h2).symm)⟩
 clear hb3 hv1 hv2 hne
 refine norm_ (a' := ?_) ?_ ?_
 rotate_left
 ·simp only [Act.put, List.setIfInBounds_toArray, List.set_cons_zero, List.set_cons_succ]
  rfl
 refine pure_ (i := 7) (N := (some 5)) (v := ?_) (a' := ?_) #[true, true, true, true, true, true, true, true] rfl rfl (by kernel_rfl) (fun _ _ _ h => h) (Or.inl ⟨by rfl, ?_⟩) ?_ ?_
 rotate_left
 ·intro w'
  go_simp
  with_reducible rfl
 rotate_left
 ·simp only [Act.put, List.setIfInBounds_toArray, List.set_cons_zero, List.set_cons_succ]
  rfl
 refine done_ (by kernel_rfl) ?_
 have e0 : (0 : Int).toNat = 0 := rfl
 go_wp2_with fail
 go_loopw [4, 5, 16] (fun v4 v5 v wr => ∃ k : Nat, v = .int .i64 (k : Int) ∧ k ≤ l.length ∧ Aside0 (Kd.R k33 34 wr w.heap.size (fun k => some k = v4.ownBlock) v4 ((l.take k).map (·.f0))) ∧ Aside0 (Kd.R k33 34 wr w.heap.size (fun k => some k = v5.ownBlock) v5 ((l.take k).map (·.f1))) ∧ Aside0 (∀ k, v4.ownBlock = some k → v5.ownBlock ≠ some k) ∧ Aside0 (Below w.heap.size w wr)) (fun _ _ v _ => l.length - (intOf v).toNat)
 case atStart => exact ⟨0, rfl, Nat.zero_le _, HV1, HV2, HNE, HB3⟩
 case round =>
  clear HB3 HV1 HV2 HNE e0
  obtain ⟨k, rfl, hk, HR1, HR2, HNE, HB⟩ := hrel
  by_cases hlt : k < l.length
  ·obtain ⟨ad, ead, c0, c1, c2, c3⟩ := at_T45 (Kd.C_below HC.out HB.out) (k : Int) (by omega) (by omega)
   rw [rd45 hlt, Int.toNat_natCast] at c0 c1 c2 c3
   obtain ⟨x, hx⟩ : ∃ x, x = l[k] := ⟨_, rfl⟩
   rw [← hx] at c0 c1 c2 c3
   have HXE := Aside0.mk hx
   have hkI : (k : Int) < (l.length : Int) := by omega
   subst ead
   clear hx
   go_wp2_with (first | ((with_reducible refine gate_dst (N := 7) rfl ?_); refine box_event ?hg (N := 7) ?hd (cs := #[.int .i64 0, .int .i64 0, .int .i64 0, .int .i64 0]) (t := 36) ?hr ?_; (case hd => rfl); (case hg => rfl); (case hr => first | (go_simp; done) | (go_simp; rfl)); intro gb hg w6 hbox hb; have HX6 := Aside0.mk hbox; have HGB := Aside0.mk hg; have HB6 : Aside0 (Below w.heap.size w w6) := ⟨below_step HB.out hb⟩; have HR16 : Aside0 (Kd.R k33 34 w6 w.heap.size (fun k => some k = u4.ownBlock) u4 ((l.take k).map (·.f0))) := ⟨Kd.R_below HR1.out hb⟩; have HR26 : Aside0 (Kd.R k33 34 w6 w.heap.size (fun k => some k = u5.ownBlock) u5 ((l.take k).map (·.f1))) := ⟨Kd.R_below HR2.out hb⟩; have HBS := Aside0.mk HB.out.size; have z0 : w6.cell? ⟨gb, 0, none⟩ = some (.int .i64 0) := (blk_cell hbox 0).trans rfl; have z1 : w6.cell? ⟨gb, 1, none⟩ = some (.int .i64 0) := (blk_cell hbox 1).trans rfl; have z2 : w6.cell? ⟨gb, 2, none⟩ = some (.int .i64 0) := (blk_cell hbox 2).trans rfl; have z3 : w6.cell? ⟨gb, 3, none⟩ = some (.int .i64 0) := (blk_cell hbox 3).trans rfl; have f0 := blk_frozen hbox 0; have f1 := blk_frozen hbox 1; have f2 := blk_frozen hbox 2; have f3 := blk_frozen hbox 3; have HN1 : Aside0 (u4.ownBlock ≠ some gb) := ⟨fun e => by have := Kd.R_lt HR1.out gb e; omega⟩; have HN2 : Aside0 (u5.ownBlock ≠ some gb) := ⟨fun e => by have := Kd.R_lt HR2.out gb e; omega⟩; have HGE : Aside0 (w.heap.size ≤ gb) := ⟨by rw [hg]; exact HB.out.size⟩; clear hg hbox hb HB HR1 HR2))
   have HX := Aside0.mk (blk_put (blk_put (blk_put (blk_put HX6.out 0 (.int .i64 x.f0.f0) rfl) 1 (.int .i64 x.f0.f1) rfl) 2 (.int .i64 x.f1.f0) rfl) 3 (.int .i64 x.f1.f1) rfl)
   have HG7 := Aside0.mk (World.grownBy.trans (World.grownBy.trans (World.grownBy.trans (grown_set w6 gb 0 (.int .i64 x.f0.f0)) (grown_set _ gb 1 (.int .i64 x.f0.f1))) (grown_set _ gb 2 (.int .i64 x.f1.f0))) (grown_set _ gb 3 (.int .i64 x.f1.f1)))
   generalize (((w6.setCell ⟨gb, 0, none⟩ (.int .i64 x.f0.f0)).setCell ⟨gb, 1, none⟩ (.int .i64 x.f0.f1)).setCell ⟨gb, 2, none⟩ (.int .i64 x.f1.f0)).setCell ⟨gb, 3, none⟩ (.int .i64 x.f1.f1) = w7 at HX HG7 ⊢
   have HB7 : Aside0 (Below w.heap.size w w7) := ⟨HB6.out.grown HG7.out HB6.out.size (fun j hj => by obtain rfl := Option.some.inj hj; exact HGE.out)⟩
   have HR1 : Aside0 (Kd.R k33 34 w7 w.heap.size (fun k => some k = u4.ownBlock) u4 ((l.take k).map (·.f0))) := ⟨Kd.R_grown HR16.out HG7.out (fun j hj e => HN1.out (hj.symm.trans e))⟩
   have HR2 : Aside0 (Kd.R k33 34 w7 w.heap.size (fun k => some k = u5.ownBlock) u5 ((l.take k).map (·.f1))) := ⟨Kd.R_grown HR26.out HG7.out (fun j hj e => HN2.out (hj.symm.trans e))⟩
   have HPR : Aside0 (PR w7 w7.drew w.heap.size (fun k => k = gb) x.f0 x.f1 u4 ((l.take k).map (·.f0)) u5 ((l.take k).map (·.f1)) none none) := ⟨(PR.start HR1.out HR2.out HNE.out (fun k hk => by rw [hk]; exact blk_lt HX.out) (fun k hk => by rw [hk]; exact HN1.out) (fun k hk => by rw [hk]; exact HN2.out)).drew⟩
   have hlen : (l.take k).length = k := by rw [List.length_take]; omega
   have HLE := Aside0.mk hlen
   clear z0 z1 z2 z3 f0 f1 f2 f3 HX6 HB6 HR16 HR26 c0 c1 c2 c3 hlen HR1 HR2 HNE
   refine start_ (n := 12) (S := (fun W => W.heap[gb]? = some (.cells #[.int .i64 x.f0.f0, .int .i64 x.f0.f1, .int .i64 x.f1.f0, .int .i64 x.f1.f1] 36 (0, 0)))) (ds := [9]) #[false, false, false, false, false, false, false, false, false, false, false, false] (by kernel_rfl) (by kernel_rfl) (by rfl) HX.out (fun hS0 => ?_)
   refine pure_ (i := 0) (N := (some 20)) (v := ?_) (a' := ?_) #[true, false, false, false, false, false, false, false, false, false, false, false] rfl rfl (by kernel_rfl) (fun _ _ _ h => h) (Or.inl ⟨by rfl, ?_⟩) ?_ ?_
   rotate_left
   ·intro w'
    go_simp
    with_reducible rfl
   rotate_left
   ·simp only [Act.put, List.setIfInBounds_toArray, List.set_cons_zero, List.set_cons_succ]
    rfl
   refine pure_ (i := 1) (N := (some 21)) (v := ?_) (a' := ?_) #[true, true, false, false, false, false, false, false, false, false, false, false] rfl rfl (by kernel_rfl) (fun _ _ _ h => h) (Or.inl ⟨by rfl, ?_⟩) ?_ ?_
   rotate_left
   ·intro w'
    go_simp
    with_reducible rfl
   rotate_left
   ·simp only [Act.put, List.setIfInBounds_toArray, List.set_cons_zero, List.set_cons_succ]
    rfl
   refine take_ (i := 2) (N := (some 22)) (v := ?_) (a' := ?_) #[true, true, true, false, false, false, false, false, false, false, false, false] rfl rfl (by kernel_rfl) (fun _ _ _ h => h) (Or.inl ⟨by rfl, ?_⟩) hS0 ?_ ?_
   rotate_left
   ·intro w' s0
    have q0 := (blk_cell s0 0).trans rfl
    have q1 := (blk_cell s0 1).trans rfl
    go_simp
    with_reducible rfl
   rotate_left
   ·simp only [Act.put, List.setIfInBounds_toArray, List.set_cons_zero, List.set_cons_succ]
    rfl
   refine pure_ (i := 5) (N := (some 25)) (v := ?_) (a' := ?_) #[true, true, true, false, false, true, false, false, false, false, false, false] rfl rfl (by kernel_rfl) (fun _ _ _ h => h) (Or.inl ⟨by rfl, ?_⟩) ?_ ?_
   rotate_left
   ·intro w'
    go_simp
    with_reducible rfl
   rotate_left
   ·simp only [Act.put, List.setIfInBounds_toArray, List.set_cons_zero, List.set_cons_succ]
    rfl
   refine pure_ (i := 6) (N := (some 26)) (v := ?_) (a' := ?_) #[true, true, true, false, false, true, true, false, false, false, false, false] rfl rfl (by kernel_rfl) (fun _ _ _ h => h) (Or.inl ⟨by rfl, ?_⟩) ?_ ?_
   rotate_left
   ·intro w'
    go_simp
    with_reducible rfl
   rotate_left
   ·simp only [Act.put, List.setIfInBounds_toArray, List.set_cons_zero, List.set_cons_succ]
    rfl
   refine take_ (i := 7) (N := (some 27)) (v := ?_) (a' := ?_) #[true, true, true, false, false, true, true, true, false, false, false, false] rfl rfl (by kernel_rfl) (fun _ _ _ h => h) (Or.inl ⟨by rfl, ?_⟩) hS0 ?_ ?_
   rotate_left
   ·intro w' s0
    have q0 := (blk_cell s0 2).trans rfl
    have q1 := (blk_cell s0 3).trans rfl
    go_simp
    with_reducible rfl
   rotate_left
   ·simp only [Act.put, List.setIfInBounds_toArray, List.set_cons_zero, List.set_cons_succ]
    rfl
   clear hS0
   refine join_ (σ := Value × Nat × Nat) 3 #[true, true, true, true, true, true, true, true, true, false, false, false] (fun s => [(23, .slice (some ⟨s.2.1, 0, none⟩) 1 1), (24, s.1), (28, .slice (some ⟨s.2.2, 0, none⟩) 1 1)]) (fun s w' => Below w.heap.size w w' ∧ PR w7 w' w.heap.size (fun k => k = gb) x.f0 x.f1 s.1 ((l.take k).map (·.f0) ++ [x.f0]) u5 ((l.take k).map (·.f1)) none (some s.2.2)) ?_ (fun hcont => ?_)
   rotate_left
   ·refine two_ (i := 3) (j := 8) (Ni := some 23) (Nj := some 28) #[true, true, true, true, false, true, true, true, false, false, false, false] #[true, true, true, false, false, true, true, true, true, false, false, false] rfl rfl rfl rfl (by kernel_rfl) (by decide) (by decide) (fun K hK => ?_) (fun K hK => ?_)
    ·obtain ⟨wA, ewA⟩ : ∃ W, W = w7.drew.alloc (cells33 x.f0) := ⟨_, rfl⟩
     have hp1 := HPR.out.build
     rw [← ewA] at hp1
     have hbwA : Below w.heap.size w wA := by rw [ewA]; exact below_alloc (below_drew HB7.out) _
     refine value_ (w1 := wA) (v := .slice (some ⟨w7.drew.heap.size, 0, none⟩) 1 1) (by rfl) rfl (by rw [ewA]; go_simp) ?_
     change K (Act.put _ (some 23) _) _
     refine hK.out _ _ ((hp1.keep gb rfl).trans HX.out) (fun hS0 => ?_)
     clear hK
     refine norm_ (a' := ?_) ?_ ?_
     rotate_left
     ·simp only [Act.put, List.setIfInBounds_toArray, List.set_cons_zero, List.set_cons_succ]
      rfl
     clear hS0
     refine two_ (i := 4) (j := 8) (Ni := some 24) (Nj := some 28) #[true, true, true, true, true, true, true, true, false, false, false, false] #[true, true, true, true, false, true, true, true, true, false, false, false] rfl rfl rfl rfl (by kernel_rfl) (by decide) (by decide) (fun K hK => ?_) (fun K hK => ?_)
     ·refine Kd.R_append_rows_step k33 (w0 := w) w.heap.size (by rfl) (.tmp 20) (.tmp 23) 98 34 (.agg #[(.int .i64 0), (.int .i64 0)]) 16 rfl Tryz.underlying98 info33 rfl (by decide) (by omega) _ ((l.take k).map (·.f0)) [x.f0] (some ⟨w7.drew.heap.size, 0, none⟩) 1 1 (fun _ => True) (fun _ => False) rfl rfl (Kd.R_mono hp1.r1 (fun _ _ => trivial)) (one33 (hp1.b1 _ rfl).1) (fun y cs h => by rw [k33_open h]; exact k33_mkM _ _ _ y) (fun _ h => h.elim) (fun _ _ => trivial) hbwA (hbwA).size (by rw [List.length_map, HLE.out]; have := HL.out; omega) ?_
      intro v1 wB hv hbwB hg hat
      have hp2 := hp1.append hv hg hat
      clear hv hg hat
      change K (Act.put _ (some 24) _) _
      refine hK.out _ _ ((hp2.keep gb rfl).trans HX.out) (fun hS0 => ?_)
      clear hK
      refine norm_ (a' := ?_) ?_ ?_
      rotate_left
      ·simp only [Act.put, List.setIfInBounds_toArray, List.set_cons_zero, List.set_cons_succ]
       rfl
      clear hS0
      refine one_ (i := 8) (N := (some 28)) #[true, true, true, true, true, true, true, true, true, false, false, false] rfl rfl (by kernel_rfl) (by decide) (fun K hK => ?_)
      obtain ⟨wC, ewC⟩ : ∃ W, W = wB.alloc (cells33 x.f1) := ⟨_, rfl⟩
      have hp3 := hp2.symm.build.symm
      rw [← ewC] at hp3
      have hbwC : Below w.heap.size w wC := by rw [ewC]; exact below_alloc hbwB _
      refine value_ (w1 := wC) (v := .slice (some ⟨wB.heap.size, 0, none⟩) 1 1) (by rfl) rfl (by rw [ewC]; go_simp) ?_
      change K (Act.put _ (some 28) _) _
      refine hK.out _ _ ((hp3.keep gb rfl).trans HX.out) (fun hS0 => ?_)
      clear hK
      exact hcont (v1, _, _) wC ⟨hbwC, hp3⟩
     ·obtain ⟨wB, ewB⟩ : ∃ W, W = wA.alloc (cells33 x.f1) := ⟨_, rfl⟩
      have hp2 := hp1.symm.build.symm
      rw [← ewB] at hp2
      have hbwB : Below w.heap.size w wB := by rw [ewB]; exact below_alloc hbwA _
      refine value_ (w1 := wB) (v := .slice (some ⟨wA.heap.size, 0, none⟩) 1 1) (by rfl) rfl (by rw [ewB]; go_simp) ?_
      change K (Act.put _ (some 28) _) _
      refine hK.out _ _ ((hp2.keep gb rfl).trans HX.out) (fun hS0 => ?_)
      clear hK
      refine norm_ (a' := ?_) ?_ ?_
      rotate_left
      ·simp only [Act.put, List.setIfInBounds_toArray, List.set_cons_zero, List.set_cons_succ]
       rfl
      clear hS0
      refine one_ (i := 4) (N := (some 24)) #[true, true, true, true, true, true, true, true, true, false, false, false] rfl rfl (by kernel_rfl) (by decide) (fun K hK => ?_)
      refine Kd.R_append_rows_step k33 (w0 := w) w.heap.size (by rfl) (.tmp 20) (.tmp 23) 98 34 (.agg #[(.int .i64 0), (.int .i64 0)]) 16 rfl Tryz.underlying98 info33 rfl (by decide) (by omega) _ ((l.take k).map (·.f0)) [x.f0] (some ⟨w7.drew.heap.size, 0, none⟩) 1 1 (fun _ => True) (fun _ => False) rfl rfl (Kd.R_mono hp2.r1 (fun _ _ => trivial)) (one33 (hp2.b1 _ rfl).1) (fun y cs h => by rw [k33_open h]; exact k33_mkM _ _ _ y) (fun _ h => h.elim) (fun _ _ => trivial) hbwB (hbwB).size (by rw [List.length_map, HLE.out]; have := HL.out; omega) ?_
      intro v1 wC hv hbwC hg hat
      have hp3 := hp2.append hv hg hat
      clear hv hg hat
      change K (Act.put _ (some 24) _) _
      refine hK.out _ _ ((hp3.keep gb rfl).trans HX.out) (fun hS0 => ?_)
      clear hK
      exact hcont (v1, _, _) wC ⟨hbwC, hp3⟩
    ·obtain ⟨wA, ewA⟩ : ∃ W, W = w7.drew.alloc (cells33 x.f1) := ⟨_, rfl⟩
     have hp1 := HPR.out.symm.build.symm
     rw [← ewA] at hp1
     have hbwA : Below w.heap.size w wA := by rw [ewA]; exact below_alloc (below_drew HB7.out) _
     refine value_ (w1 := wA) (v := .slice (some ⟨w7.drew.heap.size, 0, none⟩) 1 1) (by rfl) rfl (by rw [ewA]; go_simp) ?_
     change K (Act.put _ (some 28) _) _
     refine hK.out _ _ ((hp1.keep gb rfl).trans HX.out) (fun hS0 => ?_)
     clear hK
     refine norm_ (a' := ?_) ?_ ?_
     rotate_left
     ·simp only [Act.put, List.setIfInBounds_toArray, List.set_cons_zero, List.set_cons_succ]
      rfl
     clear hS0
     refine one_ (i := 3) (N := (some 23)) #[true, true, true, true, false, true, true, true, true, false, false, false] rfl rfl (by kernel_rfl) (by decide) (fun K hK => ?_)
     obtain ⟨wB, ewB⟩ : ∃ W, W = wA.alloc (cells33 x.f0) := ⟨_, rfl⟩
     have hp2 := hp1.build
     rw [← ewB] at hp2
     have hbwB : Below w.heap.size w wB := by rw [ewB]; exact below_alloc hbwA _
     refine value_ (w1 := wB) (v := .slice (some ⟨wA.heap.size, 0, none⟩) 1 1) (by rfl) rfl (by rw [ewB]; go_simp) ?_
     change K (Act.put _ (some 23) _) _
     refine hK.out _ _ ((hp2.keep gb rfl).trans HX.out) (fun hS0 => ?_)
     clear hK
     refine norm_ (a' := ?_) ?_ ?_
     rotate_left
     ·simp only [Act.put, List.setIfInBounds_toArray, List.set_cons_zero, List.set_cons_succ]
      rfl
     clear hS0
     refine one_ (i := 4) (N := (some 24)) #[true, true, true, true, true, true, true, true, true, false, false, false] rfl rfl (by kernel_rfl) (by decide) (fun K hK => ?_)
     refine Kd.R_append_rows_step k33 (w0 := w) w.heap.size (by rfl) (.tmp 20) (.tmp 23) 98 34 (.agg #[(.int .i64 0), (.int .i64 0)]) 16 rfl Tryz.underlying98 info33 rfl (by decide) (by omega) _ ((l.take k).map (·.f0)) [x.f0] (some ⟨wA.heap.size, 0, none⟩) 1 1 (fun _ => True) (fun _ => False) rfl rfl (Kd.R_mono hp2.r1 (fun _ _ => trivial)) (one33 (hp2.b1 _ rfl).1) (fun y cs h => by rw [k33_open h]; exact k33_mkM _ _ _ y) (fun _ h => h.elim) (fun _ _ => trivial) hbwB (hbwB).size (by rw [List.length_map, HLE.out]; have := HL.out; omega) ?_
     intro v1 wC hv hbwC hg hat
     have hp3 := hp2.append hv hg hat
     clear hv hg hat
     change K (Act.put _ (some 24) _) _
     refine hK.out _ _ ((hp3.keep gb rfl).trans HX.out) (fun hS0 => ?_)
     clear hK
     exact hcont (v1, _, _) wC ⟨hbwC, hp3⟩
   rintro ⟨v1, b1, b2⟩ w8 ⟨hb8, hp8⟩
   dsimp only [putAll]
   dsimp only at hp8
   have HB8 := Aside0.mk hb8
   have HP8 := Aside0.mk hp8.symm
   clear hb8 hp8
   refine norm_ (a' := ?_) ?_ ?_
   rotate_left
   ·simp only [Act.put, List.setIfInBounds_toArray, List.set_cons_zero, List.set_cons_succ]
    rfl
   refine last_ (i := 9) (N := (some 29)) #[true, true, true, true, true, true, true, true, true, true, false, false] rfl rfl (by kernel_rfl) (by decide) (fun K hK => ?_)
   refine Kd.R_append_rows_step k33 (w0 := w) w.heap.size (by rfl) (.tmp 25) (.tmp 28) 98 34 (.agg #[(.int .i64 0), (.int .i64 0)]) 16 rfl Tryz.underlying98 info33 rfl (by decide) (by omega) _ ((l.take k).map (·.f1)) [x.f1] (some ⟨b2, 0, none⟩) 1 1 (fun _ => True) (fun _ => False) rfl rfl (Kd.R_mono HP8.out.r1 (fun _ _ => trivial)) (one33 (HP8.out.b1 _ rfl).1) (fun y cs h => by rw [k33_open h]; exact k33_mkM _ _ _ y) (fun _ h => h.elim) (fun _ _ => trivial) HB8.out (HB8.out).size (by rw [List.length_map, HLE.out]; have := HL.out; omega) ?_
   intro v2 w9 hv hbw9 hg hat
   have hp9 := HP8.out.append hv hg hat
   clear hv hg hat
   have HP9 := Aside0.mk hp9.symm
   have HB9 := Aside0.mk hbw9
   clear hp9 hbw9
   change K (Act.put _ (some 29) _) _
   refine hK.out _ _ ?_
   clear hK
   refine norm_ (a' := ?_) ?_ ?_
   rotate_left
   ·simp only [Act.put, List.setIfInBounds_toArray, List.set_cons_zero, List.set_cons_succ]
    rfl
   refine pure_ (i := 10) (N := (some 4)) (v := ?_) (a' := ?_) #[true, true, true, true, true, true, true, true, true, true, true, false] rfl rfl (by kernel_rfl) (fun _ _ _ h => h) (Or.inl ⟨by rfl, ?_⟩) ?_ ?_
   rotate_left
   ·intro w'
    go_simp
    with_reducible rfl
   rotate_left
   ·simp only [Act.put, List.setIfInBounds_toArray, List.set_cons_zero, List.set_cons_succ]
    rfl
   refine pure_ (i := 11) (N := (some 5)) (v := ?_) (a' := ?_) #[true, true, true, true, true, true, true, true, true, true, true, true] rfl rfl (by kernel_rfl) (fun _ _ _ h => h) (Or.inl ⟨by rfl, ?_⟩) ?_ ?_
   rotate_left
   ·intro w'
    go_simp
    with_reducible rfl
   rotate_left
   ·simp only [Act.put, List.setIfInBounds_toArray, List.set_cons_zero, List.set_cons_succ]
    rfl
   refine done_ (by kernel_rfl) ?_
   go_wp2_with fail
   have e1 : (l.take (k + 1)).map (·.f0) = (l.take k).map (·.f0) ++ [x.f0] := by rw [List.take_succ_eq_append_getElem hlt, List.map_append, ← HXE.out]; rfl
   have e2 : (l.take (k + 1)).map (·.f1) = (l.take k).map (·.f1) ++ [x.f1] := by rw [List.take_succ_eq_append_getElem hlt, List.map_append, ← HXE.out]; rfl
   exact ⟨⟨k + 1, by go_num, by omega, ⟨by rw [e1]; exact HP9.out.r1⟩, ⟨by rw [e2]; exact HP9.out.r2⟩, ⟨HP9.out.ne⟩, HB9⟩, by simp [intOf]; omega⟩
  ·have ek : k = l.length := by omega
   subst ek
   go_wp2_with fail
   refine bodyPost_ret (results_tmp2 rfl _ _ _) rfl ?_
   rw [List.take_length] at HR1 HR2
   exact ⟨_, _, rfl, HR1.out, HR2.out, HNE.out, HB.out⟩
end Go.Proofs.YtemhccjjcioodaaGreat.CFin
end
section
namespace Go.Proofs.YtemhccjjcioodaaGreat.CSort
open Go.RowKit Go.Proofs.YtemhccjjcioodaaGreatW.PrintWords Go.Proofs.YtemhccjjcioodaaGreatW.PrintMore Go.Proofs.YtemhccjjcioodaaGreatW.PrintLast Go.Proofs.YtemhccjjcioodaaGreat.U Go.Proofs.YtemhccjjcioodaaGreat.PClusterFinest
open Go.Shelf
shelf_lay_g SlLaysF0.n6 Slsf 6 at Tryz 276 as lsort
shelf_lay_g SlLaysC2.n5 Slgc 5 at Tryz 150 as lcmp
instance : Inhabited S33 := ⟨z33⟩
def enc33 (x : S33) : List Value := [.int .i64 x.f0, .int .i64 x.f1]
def cf33 (x y : S33) : Int := Lib.compareInt x.f0 y.f0
theorem lt33 (x y : S33) : ltOf cf33 x y = decide (x.f0 < y.f0) := by
 unfold ltOf cf33 Lib.compareInt
 by_cases h1 : x.f0 < y.f0
 ·simp [h1]
 ·by_cases h2 : y.f0 < x.f0 <;> simp [h1, h2]
theorem swo33 : Go.Sort.SWO (ltOf cf33) where
 irrefl x := by rw [lt33]; simp
 trans x y z h1 h2 := by rw [lt33] at *; simp at *; omega
 ntrans x y z h1 h2 := by rw [lt33] at *; simp at *; omega
set_option maxHeartbeats 1000000 in
theorem byLo_c (x y : S33) (W : World) : Calls Tryz.prog 90 #[.agg #[.int .i64 x.f0, .int .i64 x.f1], .agg #[.int .i64 y.f0, .int .i64 y.f1]] W fun e w' => e = .returned (.int .i64 (cf33 x y)) ∧ ∃ q os', w' = Go.Sort.grow (W.drewN q) os' := by
 have hcon := fun W' => AnyG.cmp_Compare_int lcmp x.f0 y.f0 W'
 change ∀ W', Calls Tryz.prog 150 _ _ _ at hcon
 unfold cf33
 generalize Lib.compareInt x.f0 y.f0 = r at hcon ⊢
 go_enter Tryz.func90, Tryz.ntmps90
 go_wp2_with (go_at_call 150; refine (hcon _).mono ?_; rintro e w' ⟨rfl, rfl⟩)
 go_ret
 exact ⟨rfl, 0, _, by rw [Go.Sort.alloc_eq_grow, Go.Sort.alloc_eq_grow, Go.Sort.grow_grow]; rfl⟩
theorem size_put33 (w : World) (g : Nat) (d : Array S33) : (Go.Sort.putRowK enc33 2 w g 0 d).heap.size = w.heap.size := by simp [Go.Sort.putRowK, Go.Sort.putRow, Go.Sort.mapBlock]
theorem grown_sorted {w : World} {g n : Nat} {d : Array S33} {os : Array Obj} : w.grownBy (sortWorldK enc33 2 w g 0 n d os) (some g) := by
 have h1 : (Go.Sort.putRowK enc33 2 (Go.Sort.ahead w n) g 0 d).heap.size = w.heap.size := size_put33 _ g d
 refine ⟨rfl, rfl, rfl, ?_, fun k hk hne => ?_⟩
 ·unfold sortWorldK
  rw [Go.Sort.size_grow, h1]
  omega
 ·unfold sortWorldK
  rw [Go.Sort.heap_grow_old _ _ (by rw [h1]; exact hk)]
  unfold Go.Sort.putRowK Go.Sort.putRow Go.Sort.mapBlock
  show ((Go.Sort.ahead w n).heap.modify g _)[k]? = _
  rw [Array.getElem?_modify, if_neg (fun e => hne (by rw [e]))]
  rfl
theorem get33 (f : List S33) (i : Nat) (h : i < f.length) : (f.toArray[i]! : S33) = f.getD i z33 := by
 rw [List.getD_eq_getElem?_getD, List.getElem?_eq_getElem h, getElem!_pos f.toArray i (by simpa using h)]
 simp
theorem enc_at (x : S33) (j : Nat) : (enc33 x)[j]! = if j = 0 then .int .i64 x.f0 else if j = 1 then .int .i64 x.f1 else default := by
 match j with
 | 0 => rfl
 | 1 => rfl
 | j + 2 => rfl
theorem holds33 {w : World} {base : Nat} {ok : Nat → Prop} {g cap : Nat} {f : List S33} (h : Kd.R k33 34 w base ok (.slice (some ⟨g, 0, none⟩) f.length cap) f) : Go.Sort.HoldsK enc33 2 w g 0 f.toArray := by
 intro t ht
 rw [Go.Sort.size_flatK] at ht
 have ht' : t < f.length * 2 := by simpa using ht
 rw [Go.Sort.get_flatK _ _ _ t ht, get33 f (t / 2) (by omega), enc_at]
 obtain ⟨c, hc, hM, hcell, hfr⟩ := Kd.R_elem h z33 ((t / 2 : Nat) : Int) (by omega) (by omega)
 obtain rfl := k33_openM hM
 rw [Int.toNat_natCast] at hcell hfr
 have hsz : k33.sz = 2 := rfl
 rw [hsz] at hcell hfr
 rw [Nat.zero_add]
 rcases Nat.mod_two_eq_zero_or_one t with e | e
 ·have e2 : t / 2 * 2 + 0 = t := by omega
  have h1 := hcell 0 _ rfl
  have h2 := hfr 0
  rw [e2] at h1 h2
  rw [e]
  exact ⟨h1, h2⟩
 ·have e2 : t / 2 * 2 + 1 = t := by omega
  have h1 := hcell 1 _ rfl
  have h2 := hfr 1
  rw [e2] at h1 h2
  rw [e]
  exact ⟨h1, h2⟩
theorem reads33 {w : World} {g cap : Nat} {d : Array S33} (h : Go.Sort.HoldsK enc33 2 w g 0 d) (hc : d.size ≤ cap) (hm : d.size ≤ 1000000) : SLk k33 w (.slice (some ⟨g, 0, none⟩) d.toList.length cap) d.toList := by
 refine ⟨_, _, rfl, by simpa using hc, rfl, by simp; omega, fun hn => ⟨_, rfl, fun j p hj => ?_⟩⟩
 obtain ⟨hl, hp⟩ := List.getElem?_eq_some_iff.1 hj
 have hl' : j < d.size := by simpa using hl
 have hg : ∀ i, i < 2 → w.cell? ⟨g, j * 2 + i, none⟩ = some ((enc33 p)[i]!) := fun i hi => by
  have h1 := (h (j * 2 + i) (by rw [Go.Sort.size_flatK]; omega)).1
  rw [Nat.zero_add, Go.Sort.get_flatK _ _ _ _ (by omega), show (j * 2 + i) / 2 = j by omega, show (j * 2 + i) % 2 = i by omega, getElem!_pos d j hl'] at h1
  have e : d[j] = p := by simpa using hp
  rw [e] at h1
  exact h1
 refine ⟨_, rfl, k33_mk w p, fun i u hu => ?_⟩
 have ea : (⟨g, 0, none⟩ : Addr).add (j * k33.sz + i) = ⟨g, j * 2 + i, none⟩ := by rw [add_plain]; rfl
 rw [ea]
 match i, hu with
 | 0, hu => obtain rfl := Option.some.inj hu; exact hg 0 (by omega)
 | 1, hu => obtain rfl := Option.some.inj hu; exact hg 1 (by omega)
theorem perm_of {f : List S33} {d' : Array S33} (hp : Go.Sort.PermIn 0 f.length f.toArray d') : d'.toList.Perm f := by
 have hsz : d'.size = f.length := by simpa using hp.1
 have := hp.2.2
 have e : List.take f.length d'.toList = d'.toList := List.take_of_length_le (by simp [hsz])
 have h2 : (List.take f.length d'.toList).Perm f := by simpa [hsz] using this
 rwa [e] at h2
theorem sort_c {w : World} {base : Nat} {ok : Nat → Prop} {v : Value} {f : List S33} (h : Kd.R k33 34 w base ok v f) (hm : f.length ≤ 1000000) :
 Calls Tryz.prog 276 #[v, .func (.func 90) #[] #[]] w fun e w' => e = .returned (.tuple #[]) ∧ ∃ d : List S33, d.Perm f ∧ d.Pairwise (fun a b => ¬ b.f0 < a.f0) ∧ SLk k33 w' v d ∧ w.grownBy w' v.ownBlock := by
 by_cases h0 : 0 < f.length
 ·obtain ⟨g, cap, rfl, hg, hgs, _⟩ := Kd.R_form h h0
  have hH := holds33 h
  obtain ⟨_, hcap, _⟩ := Kd.R_reads' h
  have hcon := AnyQ.slices_SortFunc lsort 2 Tryz.isAgg34 Tryz.sizeOf34 enc33 (fun _ => rfl) (fun x v hv => by simp [enc33] at hv; rcases hv with rfl | rfl <;> rfl) cf33 swo33 90 #[] g 0 cap f.toArray w (enters_of Tryz.func90 (by kernel_rfl) rfl) (fun _ _ _ _ x y => byLo_c x y _) hH hgs (by simp; omega)
  refine hcon.mono ?_
  rintro e w' ⟨rfl, d', n, os, hp, hs, rfl⟩
  have hsz : d'.size = f.length := by simpa using hp.1
  refine ⟨rfl, d'.toList, perm_of (by simpa using hp), ?_, ?_, grown_sorted⟩
  ·rw [List.pairwise_iff_getElem]
   intro i j hi hj hij
   have := hs i j (Nat.zero_le _) hij (by simpa [hsz] using hj)
   rw [lt33, getElem!_pos d' i (by simpa using hi), getElem!_pos d' j (by simpa using hj)] at this
   simpa using this
  ·have := reads33 (cap := cap) (holdsK_sortWorldK enc33 2 w g 0 n f.toArray d' os hgs hH (by simpa using hsz)) (by omega) (by omega)
   rw [show d'.toList.length = f.length by simpa using hsz] at this
   exact this
 ·obtain rfl : f = [] := List.eq_nil_of_length_eq_zero (by omega)
  obtain ⟨A, c, rfl⟩ := Kd.R_slice h
  refine (AnyF.slices_SortFunc_none lsort A c _ w).mono ?_
  rintro e w' ⟨rfl, rfl⟩
  exact ⟨rfl, [], List.Perm.refl _, List.Pairwise.nil, SLk.of_R h, World.grownBy.refl _ _⟩
end Go.Proofs.YtemhccjjcioodaaGreat.CSort
end
section
namespace Go.Proofs.YtemhccjjcioodaaGreat.KSort
open Go.RowKit Go.Proofs.YtemhccjjcioodaaGreatW.PrintWords Go.Proofs.YtemhccjjcioodaaGreatW.PrintMore Go.Proofs.YtemhccjjcioodaaGreatW.PrintLast Go.Proofs.YtemhccjjcioodaaGreat.U Go.Proofs.YtemhccjjcioodaaGreat.PKashidaStretches
open Go.Shelf Go.Proofs.YtemhccjjcioodaaGreat.PClusterFinest
def GR (w w' : World) : Prop := ∃ q os, w' = Go.Sort.grow (w.drewN q) os
theorem GR.refl (w : World) : GR w w := ⟨0, #[], by rw [Go.Sort.grow_empty]; rfl⟩
theorem GR.alloc {w w' : World} (h : GR w w') (o : Obj) : GR w (w'.alloc o) := by
 obtain ⟨q, os, rfl⟩ := h
 exact ⟨q, os ++ #[o], by rw [Go.Sort.alloc_eq_grow, Go.Sort.grow_grow]⟩
theorem GR.drewN {w w' : World} (h : GR w w') (n : Nat) : GR w (w'.drewN n) := by
 obtain ⟨q, os, rfl⟩ := h
 exact ⟨q + n, os, by rw [← World.drewN_drewN]; rfl⟩
theorem GR.drew {w w' : World} (h : GR w w') : GR w w'.drew := h.drewN 1
theorem GR.drawn {w w' w2 : World} (h : GR w w') (hd : Drawn0 w' w2) : GR w w2 := by
 obtain ⟨n, rfl⟩ := hd.out
 exact h.drewN n
def cfP (x y : S33) : Int := if Lib.compareInt x.f1 y.f1 ≠ 0 then Lib.compareInt x.f1 y.f1 else Lib.compareInt y.f0 x.f0
theorem or_f (a b : Int) : cmp_Or_int.f 5 [a, b] = some (if a ≠ 0 then a else b) := by
 by_cases h : a = 0
 ·subst h
  by_cases h2 : b = 0
  ·subst h2; kernel_rfl
  ·simp [cmp_Or_int.f, cmp_Or_int.l0, rd, wrap64, h2]
 ·simp [cmp_Or_int.f, cmp_Or_int.l0, rd, wrap64, h]
set_option maxRecDepth 100000 in
set_option maxHeartbeats 8000000 in
theorem better_c (x y : S33) (W : World) : Calls Tryz.prog 116 #[.agg #[.int .i64 x.f0, .int .i64 x.f1], .agg #[.int .i64 y.f0, .int .i64 y.f1]] W fun e w' => e = .returned (.int .i64 (cfP x y)) ∧ ∃ q os', w' = Go.Sort.grow (W.drewN q) os' := by
 obtain ⟨x0, x1⟩ := x
 obtain ⟨y0, y1⟩ := y
 have hcon := fun a b W' => AnyG.cmp_Compare_int CSort.lcmp a b W'
 change ∀ a b W', Calls Tryz.prog 150 _ _ _ at hcon
 unfold cfP
 dsimp only
 have HC1 := Aside0.mk (hcon x1 y1)
 have HC2 := Aside0.mk (hcon y0 x0)
 generalize Lib.compareInt x1 y1 = t1 at HC1 ⊢
 generalize Lib.compareInt y0 x0 = t2 at HC2 ⊢
 obtain ⟨X, hX⟩ : ∃ X, X = (if t1 ≠ 0 then t1 else t2) := ⟨_, rfl⟩
 rw [← hX]
 have HX := Aside0.mk hX
 clear hcon hX
 go_enter Tryz.func116, Tryz.ntmps116
 go_upto_region 1 with (fail)
 have h2 : ((W.alloc (.cells #[.int .i64 x0, .int .i64 x1] 154 (0, 0))).alloc (.cells #[.int .i64 y0, .int .i64 y1] 154 (0, 0))).heap[W.heap.size]? = some (.cells #[.int .i64 x0, .int .i64 x1] 154 (0, 0)) := by
  have h := (MapKept.heap_alloc W (.cells #[.int .i64 x0, .int .i64 x1] 154 (0, 0))).1
  exact ((below_alloc (Below.refl _ _) _).block _ (blk_lt h)).trans h
 have h3 : ((W.alloc (.cells #[.int .i64 x0, .int .i64 x1] 154 (0, 0))).alloc (.cells #[.int .i64 y0, .int .i64 y1] 154 (0, 0))).heap[W.heap.size + 1]? = some (.cells #[.int .i64 y0, .int .i64 y1] 154 (0, 0)) := by
  have h := (MapKept.heap_alloc (W.alloc (.cells #[.int .i64 x0, .int .i64 x1] 154 (0, 0))) (.cells #[.int .i64 y0, .int .i64 y1] 154 (0, 0))).1
  rwa [show (W.alloc (.cells #[.int .i64 x0, .int .i64 x1] 154 (0, 0))).heap.size = W.heap.size + 1 by simp] at h
 have HG2 : Aside0 (GR W (((W.alloc (.cells #[.int .i64 x0, .int .i64 x1] 154 (0, 0))).alloc (.cells #[.int .i64 y0, .int .i64 y1] 154 (0, 0))).drew)) := ⟨(((GR.refl W).alloc _).alloc _).drew⟩
 have HX2 : Aside0 ((((W.alloc (.cells #[.int .i64 x0, .int .i64 x1] 154 (0, 0))).alloc (.cells #[.int .i64 y0, .int .i64 y1] 154 (0, 0))).drew).heap[W.heap.size]? = some (.cells #[.int .i64 x0, .int .i64 x1] 154 (0, 0)) ∧ (((W.alloc (.cells #[.int .i64 x0, .int .i64 x1] 154 (0, 0))).alloc (.cells #[.int .i64 y0, .int .i64 y1] 154 (0, 0))).drew).heap[W.heap.size + 1]? = some (.cells #[.int .i64 y0, .int .i64 y1] 154 (0, 0))) := ⟨h2, h3⟩
 clear h2 h3
 refine start_ (n := 13) (S := (fun w' => w'.heap[W.heap.size]? = some (.cells #[.int .i64 x0, .int .i64 x1] 154 (0, 0)) ∧ w'.heap[W.heap.size + 1]? = some (.cells #[.int .i64 y0, .int .i64 y1] 154 (0, 0)))) (ds := []) #[false, false, false, false, false, false, false, false, false, false, false, false, false] (by kernel_rfl) (by kernel_rfl) (by rfl) HX2.out (fun hS0 => ?_)
 refine pure_ (i := 0) (N := (some 5)) (v := ?_) (a' := ?_) #[true, false, false, false, false, false, false, false, false, false, false, false, false] rfl rfl (by kernel_rfl) (fun _ _ _ h => h) (Or.inl ⟨by rfl, ?_⟩) ?_ ?_
 rotate_left
 ·intro w'
  go_simp
  with_reducible rfl
 rotate_left
 ·simp only [Act.put, List.setIfInBounds_toArray, List.set_cons_zero, List.set_cons_succ]
  rfl
 refine take_ (i := 1) (N := (some 6)) (v := ?_) (a' := ?_) #[true, true, false, false, false, false, false, false, false, false, false, false, false] rfl rfl (by kernel_rfl) (fun _ _ _ h => h) (Or.inl ⟨by rfl, ?_⟩) hS0 ?_ ?_
 rotate_left
 ·intro w' s0
  have y0 := (blk_cell s0.1 1).trans rfl
  go_simp
  with_reducible rfl
 rotate_left
 ·simp only [Act.put, List.setIfInBounds_toArray, List.set_cons_zero, List.set_cons_succ]
  rfl
 refine pure_ (i := 2) (N := (some 7)) (v := ?_) (a' := ?_) #[true, true, true, false, false, false, false, false, false, false, false, false, false] rfl rfl (by kernel_rfl) (fun _ _ _ h => h) (Or.inl ⟨by rfl, ?_⟩) ?_ ?_
 rotate_left
 ·intro w'
  go_simp
  with_reducible rfl
 rotate_left
 ·simp only [Act.put, List.setIfInBounds_toArray, List.set_cons_zero, List.set_cons_succ]
  rfl
 refine take_ (i := 3) (N := (some 8)) (v := ?_) (a' := ?_) #[true, true, true, true, false, false, false, false, false, false, false, false, false] rfl rfl (by kernel_rfl) (fun _ _ _ h => h) (Or.inl ⟨by rfl, ?_⟩) hS0 ?_ ?_
 rotate_left
 ·intro w' s0
  have y0 := (blk_cell s0.2 1).trans rfl
  go_simp
  with_reducible rfl
 rotate_left
 ·simp only [Act.put, List.setIfInBounds_toArray, List.set_cons_zero, List.set_cons_succ]
  rfl
 refine pure_ (i := 5) (N := (some 10)) (v := ?_) (a' := ?_) #[true, true, true, true, false, true, false, false, false, false, false, false, false] rfl rfl (by kernel_rfl) (fun _ _ _ h => h) (Or.inl ⟨by rfl, ?_⟩) ?_ ?_
 rotate_left
 ·intro w'
  go_simp
  with_reducible rfl
 rotate_left
 ·simp only [Act.put, List.setIfInBounds_toArray, List.set_cons_zero, List.set_cons_succ]
  rfl
 refine take_ (i := 6) (N := (some 11)) (v := ?_) (a' := ?_) #[true, true, true, true, false, true, true, false, false, false, false, false, false] rfl rfl (by kernel_rfl) (fun _ _ _ h => h) (Or.inl ⟨by rfl, ?_⟩) hS0 ?_ ?_
 rotate_left
 ·intro w' s0
  have y0 := (blk_cell s0.2 0).trans rfl
  go_simp
  with_reducible rfl
 rotate_left
 ·simp only [Act.put, List.setIfInBounds_toArray, List.set_cons_zero, List.set_cons_succ]
  rfl
 refine pure_ (i := 7) (N := (some 12)) (v := ?_) (a' := ?_) #[true, true, true, true, false, true, true, true, false, false, false, false, false] rfl rfl (by kernel_rfl) (fun _ _ _ h => h) (Or.inl ⟨by rfl, ?_⟩) ?_ ?_
 rotate_left
 ·intro w'
  go_simp
  with_reducible rfl
 rotate_left
 ·simp only [Act.put, List.setIfInBounds_toArray, List.set_cons_zero, List.set_cons_succ]
  rfl
 refine take_ (i := 8) (N := (some 13)) (v := ?_) (a' := ?_) #[true, true, true, true, false, true, true, true, true, false, false, false, false] rfl rfl (by kernel_rfl) (fun _ _ _ h => h) (Or.inl ⟨by rfl, ?_⟩) hS0 ?_ ?_
 rotate_left
 ·intro w' s0
  have y0 := (blk_cell s0.1 0).trans rfl
  go_simp
  with_reducible rfl
 rotate_left
 ·simp only [Act.put, List.setIfInBounds_toArray, List.set_cons_zero, List.set_cons_succ]
  rfl
 clear hS0
 refine one_ (i := 4) (N := (some 9)) #[true, true, true, true, true, true, true, true, true, false, false, false, false] rfl rfl (by kernel_rfl) (by decide) (fun K hK => ?_)
 refine goes_ Tryz.func150 (by kernel_rfl) rfl #[.int .i64 x1, .int .i64 y1] (by rfl) rfl rfl (by go_simp; done) ?_
 refine (HC1.out _).mono ?_
 rintro e w3 ⟨rfl, rfl⟩
 refine ⟨_, rfl, ?_⟩
 change K (Act.put _ (some 9) _) _
 refine hK.out _ _ HX2.out (fun hS0 => ?_)
 clear hK
 refine norm_ (a' := ?_) ?_ ?_
 rotate_left
 ·simp only [Act.put, List.setIfInBounds_toArray, List.set_cons_zero, List.set_cons_succ]
  rfl
 clear hS0
 refine one_ (i := 9) (N := (some 14)) #[true, true, true, true, true, true, true, true, true, true, false, false, false] rfl rfl (by kernel_rfl) (by decide) (fun K hK => ?_)
 refine goes_ Tryz.func150 (by kernel_rfl) rfl #[.int .i64 y0, .int .i64 x0] (by rfl) rfl rfl (by go_simp; done) ?_
 refine (HC2.out _).mono ?_
 rintro e w3 ⟨rfl, rfl⟩
 refine ⟨_, rfl, ?_⟩
 change K (Act.put _ (some 14) _) _
 refine hK.out _ _ HX2.out (fun hS0 => ?_)
 clear hK
 refine norm_ (a' := ?_) ?_ ?_
 rotate_left
 ·simp only [Act.put, List.setIfInBounds_toArray, List.set_cons_zero, List.set_cons_succ]
  rfl
 clear hS0
 generalize (((W.alloc (.cells #[.int .i64 x0, .int .i64 x1] 154 (0, 0))).alloc (.cells #[.int .i64 y0, .int .i64 y1] 154 (0, 0))).drew) = wd at HG2 HX2 ⊢
 refine one_ (i := 10) (N := (some 15)) #[true, true, true, true, true, true, true, true, true, true, true, false, false] rfl rfl (by kernel_rfl) (by decide) (fun K hK => ?_)
 refine value_ (w1 := wd.alloc (.cells #[.int .i64 t1, .int .i64 t2] 3 (0, 0))) (v := .slice (some ⟨wd.heap.size, 0, none⟩) 2 2) (by rfl) rfl (by go_simp) ?_
 have HX3 : Aside0 ((wd.alloc (.cells #[.int .i64 t1, .int .i64 t2] 3 (0, 0))).heap[W.heap.size]? = some (.cells #[.int .i64 x0, .int .i64 x1] 154 (0, 0)) ∧ (wd.alloc (.cells #[.int .i64 t1, .int .i64 t2] 3 (0, 0))).heap[W.heap.size + 1]? = some (.cells #[.int .i64 y0, .int .i64 y1] 154 (0, 0))) := ⟨((below_alloc (Below.refl _ _) _).block _ (blk_lt HX2.out.1)).trans HX2.out.1, ((below_alloc (Below.refl _ _) _).block _ (blk_lt HX2.out.2)).trans HX2.out.2⟩
 obtain ⟨AL, cL, eL, hcL, hCL⟩ := CBase.SL_lit wd 3 [t1, t2] (by simp)
 injection eL with e1 e2 e3
 subst e1
 subst e3
 have HCL := Aside0.mk hCL
 clear hcL hCL e2
 change K (Act.put _ (some 15) _) _
 refine hK.out _ _ HX3.out (fun hS0 => ?_)
 clear hK
 refine norm_ (a' := ?_) ?_ ?_
 rotate_left
 ·simp only [Act.put, List.setIfInBounds_toArray, List.set_cons_zero, List.set_cons_succ]
  rfl
 clear hS0
 refine one_ (i := 11) (N := (some 16)) #[true, true, true, true, true, true, true, true, true, true, true, true, false] rfl rfl (by kernel_rfl) (by decide) (fun K hK => ?_)
 refine goes_ Tryz.func185 (by kernel_rfl) rfl #[.slice (some ⟨wd.heap.size, 0, none⟩) 2 2] (by rfl) rfl rfl (by go_simp; done) ?_
 refine (cmp_Or_int.calls 5 _ 2 [t1, t2] X _ HCL.out (Nat.le_refl _) (by rw [HX.out]; exact or_f t1 t2)).mono ?_
 rintro e w5 ⟨rfl, hd⟩
 refine ⟨_, rfl, ?_⟩
 have HG5 : Aside0 (GR W w5) := ⟨(HG2.out.alloc _).drawn hd⟩
 have HX5 : Aside0 (w5.heap[W.heap.size]? = some (.cells #[.int .i64 x0, .int .i64 x1] 154 (0, 0)) ∧ w5.heap[W.heap.size + 1]? = some (.cells #[.int .i64 y0, .int .i64 y1] 154 (0, 0))) := ⟨by obtain ⟨n, rfl⟩ := hd.out; exact HX3.out⟩
 clear hd
 change K (Act.put _ (some 16) _) _
 refine hK.out _ _ HX5.out (fun hS0 => ?_)
 clear hK
 refine norm_ (a' := ?_) ?_ ?_
 rotate_left
 ·simp only [Act.put, List.setIfInBounds_toArray, List.set_cons_zero, List.set_cons_succ]
  rfl
 refine pure_ (i := 12) (N := (some 4)) (v := ?_) (a' := ?_) #[true, true, true, true, true, true, true, true, true, true, true, true, true] rfl rfl (by kernel_rfl) (fun _ _ _ h => h) (Or.inl ⟨by rfl, ?_⟩) ?_ ?_
 rotate_left
 ·intro w'
  go_simp
  with_reducible rfl
 rotate_left
 ·simp only [Act.put, List.setIfInBounds_toArray, List.set_cons_zero, List.set_cons_succ]
  rfl
 refine done_ (by kernel_rfl) ?_
 go_wp2
 go_ret
 exact ⟨rfl, HG5.out⟩
shelf_lay_g SlLaysF0.n6 Slsf 6 at Tryz 115 as lsortP
theorem ltP (x y : S33) : ltOf cfP x y = decide (x.f1 < y.f1 ∨ (x.f1 = y.f1 ∧ y.f0 < x.f0)) := by
 unfold ltOf cfP Lib.compareInt
 by_cases h1 : x.f1 < y.f1
 ·simp [h1]
 ·by_cases h2 : y.f1 < x.f1
  ·have h3 : ¬ x.f1 = y.f1 := by omega
   simp [h1, h2, h3]
  ·have h3 : x.f1 = y.f1 := by omega
   by_cases h4 : y.f0 < x.f0
   ·simp [h1, h2, h3, h4]
   ·by_cases h5 : x.f0 < y.f0 <;> simp [h1, h2, h3, h4, h5]
theorem swoP : Go.Sort.SWO (ltOf cfP) where
 irrefl x := by rw [ltP]; simp
 trans x y z h1 h2 := by rw [ltP] at *; simp at *; omega
 ntrans x y z h1 h2 := by rw [ltP] at *; simp at *; omega
open Go.Proofs.YtemhccjjcioodaaGreat.CSort (enc33 get33 enc_at grown_sorted reads33 perm_of)
theorem holdsE {e : Nat} {w : World} {base : Nat} {ok : Nat → Prop} {g cap : Nat} {f : List S33} (h : Kd.R k33 e w base ok (.slice (some ⟨g, 0, none⟩) f.length cap) f) : Go.Sort.HoldsK enc33 2 w g 0 f.toArray := by
 intro t ht
 rw [Go.Sort.size_flatK] at ht
 have ht' : t < f.length * 2 := by simpa using ht
 rw [Go.Sort.get_flatK _ _ _ t ht, get33 f (t / 2) (by omega), enc_at]
 obtain ⟨c, hc, hM, hcell, hfr⟩ := Kd.R_elem h z33 ((t / 2 : Nat) : Int) (by omega) (by omega)
 obtain rfl := k33_openM hM
 rw [Int.toNat_natCast] at hcell hfr
 have hsz : k33.sz = 2 := rfl
 rw [hsz] at hcell hfr
 rw [Nat.zero_add]
 rcases Nat.mod_two_eq_zero_or_one t with e | e
 ·have e2 : t / 2 * 2 + 0 = t := by omega
  have h1 := hcell 0 _ rfl
  have h2 := hfr 0
  rw [e2] at h1 h2
  rw [e]
  exact ⟨h1, h2⟩
 ·have e2 : t / 2 * 2 + 1 = t := by omega
  have h1 := hcell 1 _ rfl
  have h2 := hfr 1
  rw [e2] at h1 h2
  rw [e]
  exact ⟨h1, h2⟩
theorem sortP_c {w : World} {base : Nat} {ok : Nat → Prop} {v : Value} {f : List S33} (h : Kd.R k33 154 w base ok v f) (hm : f.length ≤ 1000000) :
 Calls Tryz.prog 115 #[v, .func (.func 116) #[] #[]] w fun e w' => e = .returned (.tuple #[]) ∧ ∃ d : List S33, d.Perm f ∧ d.Pairwise (fun a b => ltOf cfP b a = false) ∧ SLk k33 w' v d ∧ w.grownBy w' v.ownBlock := by
 by_cases h0 : 0 < f.length
 ·obtain ⟨g, cap, rfl, hg, hgs, _⟩ := Kd.R_form h h0
  have hH := holdsE h
  obtain ⟨_, hcap, _⟩ := Kd.R_reads' h
  have hcon := AnyQ.slices_SortFunc lsortP 2 Tryz.isAgg154 Tryz.sizeOf154 enc33 (fun _ => rfl) (fun x v hv => by simp [enc33] at hv; rcases hv with rfl | rfl <;> rfl) cfP swoP 116 #[] g 0 cap f.toArray w (enters_of Tryz.func116 (by kernel_rfl) rfl) (fun _ _ _ _ x y => better_c x y _) hH hgs (by simp; omega)
  refine hcon.mono ?_
  rintro e w' ⟨rfl, d', n, os, hp, hs, rfl⟩
  have hsz : d'.size = f.length := by simpa using hp.1
  refine ⟨rfl, d'.toList, perm_of (by simpa using hp), ?_, ?_, grown_sorted⟩
  ·rw [List.pairwise_iff_getElem]
   intro i j hi hj hij
   have := hs i j (Nat.zero_le _) hij (by simpa [hsz] using hj)
   rw [getElem!_pos d' i (by simpa using hi), getElem!_pos d' j (by simpa using hj)] at this
   simpa using this
  ·have := reads33 (cap := cap) (holdsK_sortWorldK enc33 2 w g 0 n f.toArray d' os hgs hH (by simpa using hsz)) (by omega) (by omega)
   rw [show d'.toList.length = f.length by simpa using hsz] at this
   exact this
 ·obtain rfl : f = [] := List.eq_nil_of_length_eq_zero (by omega)
  obtain ⟨A, c, rfl⟩ := Kd.R_slice h
  refine (AnyF.slices_SortFunc_none lsortP A c _ w).mono ?_
  rintro e w' ⟨rfl, rfl⟩
  exact ⟨rfl, [], List.Perm.refl _, List.Pairwise.nil, SLk.of_R h, World.grownBy.refl _ _⟩
end Go.Proofs.YtemhccjjcioodaaGreat.KSort
end
section
namespace Go.Proofs.YtemhccjjcioodaaGreat.UKash
open Go.Shelf Go.Proofs.YtemhccjjcioodaaGreat.PClusterFinest Go.Proofs.YtemhccjjcioodaaGreat.KRank Go.Proofs.YtemhccjjcioodaaGreat.KPlace Go.Proofs.YtemhccjjcioodaaGreat.KSort Go.Proofs.YtemhccjjcioodaaGreat.UJoin Go.Proofs.YtemhccjjcioodaaGreatW.PrintWords
theorem uniq {α : Type} {R : α → α → Prop} (hi : ∀ a, ¬ R a a) (ha : ∀ a b, R a b → ¬ R b a) : ∀ (l m : List α), l.Pairwise R → m.Pairwise R → (∀ x, x ∈ l ↔ x ∈ m) → l = m
 | [], [], _, _, _ => rfl
 | [], y :: m, _, _, h => absurd ((h y).2 List.mem_cons_self) (by simp)
 | x :: l, [], _, _, h => absurd ((h x).1 List.mem_cons_self) (by simp)
 | x :: l, y :: m, hl, hm, h => by
  obtain ⟨hx, hl2⟩ := List.pairwise_cons.1 hl
  obtain ⟨hy, hm2⟩ := List.pairwise_cons.1 hm
  have e : x = y := by
   rcases List.mem_cons.1 ((h x).1 List.mem_cons_self) with e | e
   ·exact e
   ·rcases List.mem_cons.1 ((h y).2 List.mem_cons_self) with e2 | e2
    ·exact e2.symm
    ·exact absurd (hx y e2) (ha _ _ (hy x e))
  subst e
  rw [uniq hi ha l m hl2 hm2 (fun z => ⟨fun hz => ?_, fun hz => ?_⟩)]
  ·rcases List.mem_cons.1 ((h z).1 (List.mem_cons_of_mem _ hz)) with e | e
   ·subst e; exact absurd (hx z hz) (hi z)
   ·exact e
  ·rcases List.mem_cons.1 ((h z).2 (List.mem_cons_of_mem _ hz)) with e | e
   ·subst e; exact absurd (hy z hz) (hi z)
   ·exact e
theorem rankO_range (c : Int) : 1 ≤ rankO c ∧ rankO c ≤ 6 := by
 unfold rankO
 repeat (split; omega)
 omega
theorem rk2_range (a b : Int) (ha : 1 ≤ a ∧ a ≤ 6) (hb : 1 ≤ b ∧ b ≤ 6) : 1 ≤ rk2 a b ∧ rk2 a b ≤ 6 := by
 unfold rk2 mn
 split <;> split <;> split <;> omega
theorem prank_range (xs ts : List Int) (i : Int) : 1 ≤ prank xs ts i ∧ prank xs ts i ≤ 6 := rk2_range _ _ (rankO_range _) (rankO_range _)
def LtR (a b : S33) : Prop := a.f1 < b.f1 ∨ (a.f1 = b.f1 ∧ b.f0 < a.f0)
def fL (xs ts : List Int) (n : Nat) : List S33 := ((List.range n).filter fun i : Nat => placeB xs ts (i : Int)).map fun i : Nat => ⟨(i : Int), prank xs ts (i : Int)⟩
theorem fL_succ (xs ts : List Int) (n : Nat) : fL xs ts (n + 1) = fL xs ts n ++ (if placeB xs ts (n : Int) = true then [⟨(n : Int), prank xs ts (n : Int)⟩] else []) := by
 unfold fL
 rw [List.range_succ, List.filter_append, List.map_append]
 by_cases h : placeB xs ts (n : Int) = true
 ·simp [h]
 ·simp [h]
theorem fL_len (xs ts : List Int) (n : Nat) : (fL xs ts n).length ≤ n := by
 unfold fL
 rw [List.length_map]
 exact Nat.le_trans (List.length_filter_le _ _) (by simp)
theorem mem_fL {xs ts : List Int} {n : Nat} {x : S33} : x ∈ fL xs ts n ↔ ∃ i : Nat, i < n ∧ placeB xs ts (i : Int) = true ∧ x = ⟨(i : Int), prank xs ts (i : Int)⟩ := by
 unfold fL
 simp only [List.mem_map, List.mem_filter, List.mem_range]
 constructor
 ·rintro ⟨i, ⟨h1, h2⟩, rfl⟩; exact ⟨i, h1, h2, rfl⟩
 ·rintro ⟨i, h1, h2, rfl⟩; exact ⟨i, ⟨h1, h2⟩, rfl⟩
theorem fL_nodup (xs ts : List Int) (n : Nat) : (fL xs ts n).Pairwise (fun a b => a.f0 < b.f0) := by
 unfold fL
 rw [List.pairwise_map]
 refine List.Pairwise.imp ?_ ((List.pairwise_lt_range (n := n)).filter _)
 intro a b h
 show (a : Int) < (b : Int)
 omega
def byRank (xs ts : List Int) (n : Nat) (r : Int) : List Nat := (List.range n).reverse.filter fun i : Nat => placeB xs ts (i : Int) && decide (prank xs ts (i : Int) = r)
theorem mem_byRank {xs ts : List Int} {n : Nat} {r : Int} {i : Nat} : i ∈ byRank xs ts n r ↔ i < n ∧ placeB xs ts (i : Int) = true ∧ prank xs ts (i : Int) = r := by
 unfold byRank
 simp [List.mem_filter]
def placesN (xs ts : List Int) (n : Nat) : List Nat := (List.range 6).flatMap fun k : Nat => byRank xs ts n ((k : Int) + 1)
theorem mem_placesN {xs ts : List Int} {n i : Nat} : i ∈ placesN xs ts n ↔ i < n ∧ placeB xs ts (i : Int) = true := by
 unfold placesN
 simp only [List.mem_flatMap, List.mem_range, mem_byRank]
 constructor
 ·rintro ⟨k, _, h1, h2, _⟩; exact ⟨h1, h2⟩
 ·rintro ⟨h1, h2⟩
  have := prank_range xs ts (i : Int)
  exact ⟨(prank xs ts (i : Int) - 1).toNat, by omega, h1, h2, by omega⟩
theorem byRank_sorted (xs ts : List Int) (n : Nat) (r : Int) : (byRank xs ts n r).Pairwise (fun a b => b < a) := by
 unfold byRank
 refine List.Pairwise.filter _ ?_
 rw [List.pairwise_reverse]
 exact List.pairwise_lt_range
theorem placesN_sorted (xs ts : List Int) (n : Nat) : ∀ m, ((List.range m).flatMap fun k : Nat => byRank xs ts n ((k : Int) + 1)).Pairwise (fun a b : Nat => LtR ⟨(a : Int), prank xs ts (a : Int)⟩ ⟨(b : Int), prank xs ts (b : Int)⟩)
 | 0 => by simp
 | m + 1 => by
  rw [List.range_succ, List.flatMap_append, List.pairwise_append]
  refine ⟨placesN_sorted xs ts n m, ?_, ?_⟩
  ·rw [List.flatMap_cons, List.flatMap_nil, List.append_nil]
   refine List.Pairwise.imp_of_mem ?_ (byRank_sorted xs ts n _)
   intro a b h1 h2 h3
   have e1 := (mem_byRank.1 h1).2.2
   have e2 := (mem_byRank.1 h2).2.2
   refine .inr ⟨e1.trans e2.symm, ?_⟩
   show (b : Int) < (a : Int)
   omega
  ·intro a ha b hb
   rw [List.flatMap_cons, List.flatMap_nil, List.append_nil] at hb
   obtain ⟨k, hk, ha⟩ := List.mem_flatMap.1 ha
   have e1 := (mem_byRank.1 ha).2.2
   have e2 := (mem_byRank.1 hb).2.2
   have := List.mem_range.1 hk
   refine .inl ?_
   show prank xs ts (a : Int) < prank xs ts (b : Int)
   omega
theorem lt_of {a b : S33} (h : ltOf cfP b a = false) (hne : a ≠ b) : LtR a b := by
 rw [ltP] at h
 simp only [decide_eq_false_iff_not] at h
 obtain ⟨a0, a1⟩ := a
 obtain ⟨b0, b1⟩ := b
 unfold LtR
 dsimp only at h ⊢
 rcases Int.lt_trichotomy a1 b1 with e | e | e
 ·exact .inl e
 ·subst e
  rcases Int.lt_trichotomy a0 b0 with e2 | e2 | e2
  ·exact absurd (.inr ⟨rfl, e2⟩) h
  ·subst e2; exact absurd rfl hne
  ·exact .inr ⟨rfl, e2⟩
 ·exact absurd (.inl e) h
theorem places_is {xs ts : List Int} {n : Nat} {d : List S33} (hp : d.Perm (fL xs ts n)) (hs : d.Pairwise (fun a b => ltOf cfP b a = false)) : d = (placesN xs ts n).map fun i : Nat => (⟨(i : Int), prank xs ts (i : Int)⟩ : S33) := by
 refine uniq (R := LtR) (fun a h => ?_) (fun a b h1 h2 => ?_) _ _ ?_ ?_ (fun x => ?_)
 ·unfold LtR at h; omega
 ·unfold LtR at h1 h2; omega
 ·have hnd : d.Pairwise (fun a b => a ≠ b) := by
   have h1 : (fL xs ts n).Pairwise (fun a b => a ≠ b) := (fL_nodup xs ts n).imp (fun h e => by rw [e] at h; exact absurd h (Int.lt_irrefl _))
   exact hp.symm.pairwise h1 (fun h => h.symm)
  exact (hs.and hnd).imp (fun h => lt_of h.1 h.2)
 ·rw [List.pairwise_map]
  exact placesN_sorted xs ts n 6
 ·rw [hp.mem_iff, mem_fL, List.mem_map]
  constructor
  ·rintro ⟨i, h1, h2, rfl⟩; exact ⟨i, mem_placesN.2 ⟨h1, h2⟩, rfl⟩
  ·rintro ⟨i, h, rfl⟩; exact ⟨i, (mem_placesN.1 h).1, (mem_placesN.1 h).2, rfl⟩
end Go.Proofs.YtemhccjjcioodaaGreat.UKash
end
section
namespace Go.Proofs.YtemhccjjcioodaaGreat.KPlaces
open Go.RowKit Go.Proofs.YtemhccjjcioodaaGreatW.PrintWords Go.Proofs.YtemhccjjcioodaaGreatW.PrintMore Go.Proofs.YtemhccjjcioodaaGreatW.PrintLast Go.Proofs.YtemhccjjcioodaaGreat.U Go.Proofs.YtemhccjjcioodaaGreat.PClusterFinest Go.Proofs.YtemhccjjcioodaaGreat.KRank Go.Proofs.YtemhccjjcioodaaGreat.KPlace Go.Proofs.YtemhccjjcioodaaGreat.KSort Go.Proofs.YtemhccjjcioodaaGreat.UKash Go.Proofs.YtemhccjjcioodaaGreat.UJoin
open Go.Proofs.YtemhccjjcioodaaGreat.CProps (PropsAt)
theorem rd33 {l : List S33} {i : Nat} (h : i < l.length) : rd_T33 l (i : Int) = l[i] := by
 unfold rd_T33
 rw [Int.toNat_natCast, List.getD_eq_getElem?_getD, List.getElem?_eq_getElem h]
 rfl
theorem info154 : (Tryz.prog.info? 154).map (fun i => (i.zero, i.size, i.bytes)) = some (some (.agg #[(.int .i64 0), (.int .i64 0)]), 2, 16) := by kernel_rfl
theorem info3 : (Tryz.prog.info? 3).map (fun i => (i.zero, i.size, i.bytes)) = some (some (.int .i64 0), 1, 8) := by kernel_rfl
set_option maxRecDepth 100000 in
set_option maxHeartbeats 16000000 in
theorem textPlaces_c {w : World} {A B : Option Addr} {c d : Nat} {xs ts : List Int} (hx : SL w (.slice A xs.length c) xs) (ht : SL w (.slice B ts.length d) ts) (hl : ts.length = xs.length) (hm : xs.length ≤ 1000000) :
 Calls Tryz.prog 56 #[.agg #[.slice A xs.length c, .slice B ts.length d]] w fun e w' => ∃ u, e = .returned u ∧ Kd.R (Kd.int .i64) 3 w' w.heap.size (fun _ => True) u ((placesN xs ts xs.length).map fun i : Nat => (i : Int)) ∧ Below w.heap.size w w' := by
 have HX := Aside0.mk hx
 have HT := Aside0.mk ht
 have HL := Aside0.mk hl
 have HM := Aside0.mk hm
 clear hx ht hl hm
 go_enter Tryz.func56, Tryz.ntmps56
 go_upto_region 3 with (first | ((with_reducible refine gate_dst (N := 1) rfl ?_); refine box_event ?hg (N := 1) ?hd (cs := #[.slice A xs.length c, .slice B ts.length d]) (t := 82) ?hr ?_; (case hd => rfl); (case hg => rfl); (case hr => first | (go_simp; done) | (go_simp; rfl)); intro g1 hg w1 hbox hb; have HX1 := Aside0.mk hbox; have HB1 := Aside0.mk hb; have x0 := (blk_cell hbox 0).trans rfl; clear hg hbox hb))
 clear x0
 go_loopw [3, 13] (fun v3 v wr => ∃ i : Nat, v = .int .i64 i ∧ i ≤ xs.length ∧ Aside0 (Kd.R k33 154 wr w1.heap.size (fun _ => True) v3 (fL xs ts i)) ∧ Aside0 (Below w1.heap.size w1 wr)) (fun _ v _ => xs.length - (intOf v).toNat)
 case atStart => exact ⟨0, rfl, Nat.zero_le _, ⟨Kd.R_nil _ _ _ _ _⟩, ⟨Below.refl _ _⟩⟩
 case round =>
  obtain ⟨i, rfl, hi, HR, HB⟩ := hrel
  have HXr : Aside0 (wr.heap[g1]? = some (.cells #[.slice A xs.length c, .slice B ts.length d] 82 (0, 0))) := ⟨(HB.out.block _ (blk_lt HX1.out)).trans HX1.out⟩
  have HBw : Aside0 (Below w.heap.size w wr) := ⟨below_step HB1.out HB.out⟩
  have x0 := (blk_cell HXr.out 0).trans rfl
  have x1 := (blk_cell HXr.out 1).trans rfl
  by_cases hli : i < xs.length
  ·have hiI : (i : Int) < (xs.length : Int) := by omega
   have hi9 : (i : Int) ≤ 1000000 := by have := HM.out; omega
   have HI := Aside0.mk hli
   clear hli hi
   cases hpb : placeB xs ts (i : Int) with
   | true =>
    have HPB := Aside0.mk hpb
    have HF : Aside0 (fL xs ts (i + 1) = fL xs ts i ++ [⟨(i : Int), prank xs ts (i : Int)⟩]) := ⟨by rw [fL_succ, if_pos hpb]⟩
    clear hpb
    go_upto_region 6 with (first | (go_at_call 114; refine (place_c (SLk.below HX.out HBw.out) (SLk.below HT.out HBw.out) HL.out HM.out i HI.out).mono ?_; rintro e w2 ⟨a, r, rfl, hP, hb⟩; rw [HPB.out]; rw [HPB.out] at hP; have HP := Aside0.mk hP; have HB2 : Aside0 (Below w1.heap.size w1 w2) := ⟨below_step HB.out hb⟩; have HR2 := Aside0.mk (Kd.R_below HR.out hb); clear hb hP) | ((with_reducible refine gate_dst (N := 5) rfl ?_); refine box_event ?hg (N := 5) ?hd (cs := #[.int .i64 0, .int .i64 0]) (t := 154) ?hr ?_; (case hd => rfl); (case hg => rfl); (case hr => first | (go_simp; done) | (go_simp; rfl)); intro g5 hg w3 hbox hb; have HX5 := Aside0.mk hbox; have HG5 : Aside0 (w1.heap.size ≤ g5) := ⟨by rw [hg]; exact HB2.out.size⟩; have HG52 : Aside0 (w2.heap.size ≤ g5) := ⟨by rw [hg]; exact Nat.le_refl _⟩; have HB3 : Aside0 (Below w1.heap.size w1 w3) := ⟨below_step HB2.out hb⟩; have HR3 := Aside0.mk (Kd.R_below HR2.out hb); have z0 : w3.cell? ⟨g5, 0, none⟩ = some (.int .i64 0) := (blk_cell hbox 0).trans rfl; have z1 : w3.cell? ⟨g5, 1, none⟩ = some (.int .i64 0) := (blk_cell hbox 1).trans rfl; have f0 := blk_frozen hbox 0; have f1 := blk_frozen hbox 1; clear hg hbox hb))
    obtain ⟨ea, er⟩ := HP.out trivial
    have HER := Aside0.mk er
    subst ea
    clear er HP
    have HY5 := Aside0.mk (blk_put (blk_put HX5.out 0 (.int .i64 i) rfl) 1 (.int .i64 r) rfl)
    have HGG := Aside0.mk (World.grownBy.trans (grown_set w3 g5 0 (.int .i64 i)) (grown_set _ g5 1 (.int .i64 r)))
    generalize (w3.setCell ⟨g5, 0, none⟩ (.int .i64 i)).setCell ⟨g5, 1, none⟩ (.int .i64 r) = w4 at HY5 HGG ⊢
    have HB4 : Aside0 (Below w1.heap.size w1 w4) := ⟨HB3.out.grown HGG.out HB3.out.size (fun j hj => by obtain rfl := Option.some.inj hj; exact HG5.out)⟩
    have HR4 : Aside0 (Kd.R k33 154 w4 w1.heap.size (fun _ => True) u3 (fL xs ts i)) := ⟨Kd.R_mono (Kd.R_grown (Kd.R_tight rfl HR3.out) HGG.out (fun k hk e => by rw [e] at hk; exact absurd (Kd.R_lt HR2.out g5 hk.symm) (Nat.not_lt.2 HG52.out))) (fun _ _ => trivial)⟩
    have y0 := (blk_cell HY5.out 0).trans rfl
    have y1 := (blk_cell HY5.out 1).trans rfl
    clear z0 z1 f0 f1 x0 x1
    go_wp2_with (first | ((with_reducible refine gate_builtin (b := .append) (xs := #[.tmp 23, .tmp 25]) rfl ?_); at_builtin; refine Kd.R_append k33 (w0 := w1) w1.heap.size rfl (.tmp 23) (.tmp 25) 152 154 (.agg #[(.int .i64 0), (.int .i64 0)]) 16 rfl Tryz.underlying152 info154 rfl (by decide) (by omega) u3 (fL xs ts i) (⟨(i : Int), r⟩ : S33) [.int .i64 i, .int .i64 r] (fun _ => True) (fun _ => False) rfl rfl ?aP (fun _ hk => hk.elim) ?aF ?aO ?aB ?aS ?aL ?_; (case aP => exact k33_mkM _ _ _ (⟨(i : Int), r⟩ : S33)); (case aB => exact (by repeat (first | (with_reducible first | exact HB4.out | apply below_alloc | apply pw_below_drewN | apply below_drew1) | exact HB4.out))); (case aF => exact (fun _ _ => trivial)); (case aO => exact (by (with_reducible repeat (first | apply Kd.R_alloc | apply Kd.R_drewN | apply Kd.R_drew)); exact HR4.out)); (case aS => exact (below_size (by repeat (first | (with_reducible first | exact HB4.out | apply below_alloc | apply pw_below_drewN | apply below_drew1) | exact HB4.out)))); (case aL => have h1 := fL_len xs ts i; have h2 := HM.out; have h3 := HI.out; omega); intro v6 w6 ho hb hg hat; have HO6 := Aside0.mk ho; have HB6 := Aside0.mk hb; clear ho hb hg hat))
    exact ⟨⟨i + 1, by go_num, by have := HI.out; omega, ⟨by rw [HF.out, ← HER.out]; exact HO6.out⟩, HB6⟩, by have := HI.out; simp [intOf]; omega⟩
   | false =>
    have HPB := Aside0.mk hpb
    have HF : Aside0 (fL xs ts (i + 1) = fL xs ts i) := ⟨by rw [fL_succ, if_neg (by rw [hpb]; decide), List.append_nil]⟩
    clear hpb
    go_upto_region 6 with (first | (go_at_call 114; refine (place_c (SLk.below HX.out HBw.out) (SLk.below HT.out HBw.out) HL.out HM.out i HI.out).mono ?_; rintro e w2 ⟨a, r, rfl, hP, hb⟩; rw [HPB.out]; rw [HPB.out] at hP; have HP := Aside0.mk hP; have HB2 : Aside0 (Below w1.heap.size w1 w2) := ⟨below_step HB.out hb⟩; have HR2 := Aside0.mk (Kd.R_below HR.out hb); clear hb hP) | ((with_reducible refine gate_dst (N := 5) rfl ?_); refine box_event ?hg (N := 5) ?hd (cs := #[.int .i64 0, .int .i64 0]) (t := 154) ?hr ?_; (case hd => rfl); (case hg => rfl); (case hr => first | (go_simp; done) | (go_simp; rfl)); intro g5 hg w3 hbox hb; have HX5 := Aside0.mk hbox; have HG5 : Aside0 (w1.heap.size ≤ g5) := ⟨by rw [hg]; exact HB2.out.size⟩; have HG52 : Aside0 (w2.heap.size ≤ g5) := ⟨by rw [hg]; exact Nat.le_refl _⟩; have HB3 : Aside0 (Below w1.heap.size w1 w3) := ⟨below_step HB2.out hb⟩; have HR3 := Aside0.mk (Kd.R_below HR2.out hb); have z0 : w3.cell? ⟨g5, 0, none⟩ = some (.int .i64 0) := (blk_cell hbox 0).trans rfl; have z1 : w3.cell? ⟨g5, 1, none⟩ = some (.int .i64 0) := (blk_cell hbox 1).trans rfl; have f0 := blk_frozen hbox 0; have f1 := blk_frozen hbox 1; clear hg hbox hb))
    have HY5 := Aside0.mk (blk_put (blk_put HX5.out 0 (.int .i64 a) rfl) 1 (.int .i64 r) rfl)
    have HGG := Aside0.mk (World.grownBy.trans (grown_set w3 g5 0 (.int .i64 a)) (grown_set _ g5 1 (.int .i64 r)))
    generalize (w3.setCell ⟨g5, 0, none⟩ (.int .i64 a)).setCell ⟨g5, 1, none⟩ (.int .i64 r) = w4 at HY5 HGG ⊢
    have HB4 : Aside0 (Below w1.heap.size w1 w4) := ⟨HB3.out.grown HGG.out HB3.out.size (fun j hj => by obtain rfl := Option.some.inj hj; exact HG5.out)⟩
    have HR4 : Aside0 (Kd.R k33 154 w4 w1.heap.size (fun _ => True) u3 (fL xs ts i)) := ⟨Kd.R_mono (Kd.R_grown (Kd.R_tight rfl HR3.out) HGG.out (fun k hk e => by rw [e] at hk; exact absurd (Kd.R_lt HR2.out g5 hk.symm) (Nat.not_lt.2 HG52.out))) (fun _ _ => trivial)⟩
    have y0 := (blk_cell HY5.out 0).trans rfl
    have y1 := (blk_cell HY5.out 1).trans rfl
    clear z0 z1 f0 f1 x0 x1
    go_wp2
    exact ⟨⟨i + 1, by go_num, by have := HI.out; omega, ⟨by rw [HF.out]; exact HR4.out⟩, HB4⟩, by have := HI.out; simp [intOf]; omega⟩
  ·obtain rfl : i = xs.length := by omega
   clear hli hi x0 x1
   obtain ⟨A3, c3, e3⟩ := Kd.R_slice HR.out
   subst e3
   go_upto_region 12 with (first | (go_at_call 115; refine (sortP_c HR.out (by have h1 := fL_len xs ts xs.length; have h2 := HM.out; omega)).mono ?_; rintro e w2 ⟨rfl, d3, hp, hs, hd, hg⟩; have HD := Aside0.mk hd; have HPI := Aside0.mk (places_is hp hs); have HLD := Aside0.mk hp.length_eq; have HB2 : Aside0 (Below w1.heap.size w1 w2) := ⟨HB.out.grown hg HB.out.size (fun j hj => Kd.R_base HR.out j hj)⟩; clear hp hs hd hg))
   obtain ⟨A4, c4, e4, hc4, hC4⟩ := HD.out
   injection e4 with e5 e6 e7
   subst e5
   subst e7
   have HC4 := Aside0.mk hC4
   have HE6 := Aside0.mk e6
   rw [HLD.out.symm]
   clear hc4 hC4 e6
   have hlm : (d3.length : Int) ≤ 1000000 := by have h1 := fL_len xs ts xs.length; have h2 := HM.out; have h3 := HLD.out; omega
   go_loopw [7, 32] (fun v7 v wq => ∃ j : Nat, v = .int .i64 j ∧ j ≤ d3.length ∧ Aside0 (Kd.R (Kd.int .i64) 3 wq w2.heap.size (fun _ => True) v7 ((d3.map (·.f0)).take j)) ∧ Aside0 (Below w2.heap.size w2 wq)) (fun _ v _ => d3.length - (intOf v).toNat)
   case atStart => exact ⟨0, rfl, Nat.zero_le _, ⟨by rw [List.take_zero]; exact Kd.R_nil _ _ _ _ _⟩, ⟨Below.refl _ _⟩⟩
   case round =>
    obtain ⟨j, rfl, hj, HQ, HBQ⟩ := hrel
    by_cases hlj : j < d3.length
    ·have hjI : (j : Int) < (d3.length : Int) := by omega
     obtain ⟨ad, ead, k0, k1⟩ := at_T33 (Kd.C_below HC4.out HBQ.out) (j : Int) (by omega) (by omega)
     rw [rd33 hlj, Int.toNat_natCast] at k0 k1
     have HTK : Aside0 ((d3.map (·.f0)).take (j + 1) = (d3.map (·.f0)).take j ++ [d3[j].f0]) := ⟨by rw [List.take_succ_eq_append_getElem (by simpa using hlj)]; simp⟩
     generalize d3[j].f0 = a at k0 HTK
     generalize d3[j].f1 = b at k1
     subst ead
     have HJ := Aside0.mk hlj
     clear hlj hj
     go_upto_region 14 with (first | ((with_reducible refine gate_dst (N := 9) rfl ?_); refine box_event ?hg (N := 9) ?hd (cs := #[.int .i64 0, .int .i64 0]) (t := 154) ?hr ?_; (case hd => rfl); (case hg => rfl); (case hr => first | (go_simp; done) | (go_simp; rfl)); intro g9 hg w3 hbox hb; have HX9 := Aside0.mk hbox; have HG92 : Aside0 (wr.heap.size ≤ g9) := ⟨by rw [hg]; exact Nat.le_refl _⟩; have HG9 : Aside0 (w2.heap.size ≤ g9) := ⟨by rw [hg]; exact HBQ.out.size⟩; have HB3 : Aside0 (Below w2.heap.size w2 w3) := ⟨below_step HBQ.out hb⟩; have HR3 := Aside0.mk (Kd.R_below HQ.out hb); have k0 := (hb.cell (World.block_lt_of_cell? _ _ k0)).trans k0; have k1 := (hb.cell (World.block_lt_of_cell? _ _ k1)).trans k1; have z0 : w3.cell? ⟨g9, 0, none⟩ = some (.int .i64 0) := (blk_cell hbox 0).trans rfl; have z1 : w3.cell? ⟨g9, 1, none⟩ = some (.int .i64 0) := (blk_cell hbox 1).trans rfl; have f0 := blk_frozen hbox 0; have f1 := blk_frozen hbox 1; clear hg hbox hb))
     have HY9 := Aside0.mk (blk_put (blk_put HX9.out 0 (.int .i64 a) rfl) 1 (.int .i64 b) rfl)
     have HGG := Aside0.mk (World.grownBy.trans (grown_set w3 g9 0 (.int .i64 a)) (grown_set _ g9 1 (.int .i64 b)))
     generalize (w3.setCell ⟨g9, 0, none⟩ (.int .i64 a)).setCell ⟨g9, 1, none⟩ (.int .i64 b) = w4 at HY9 HGG ⊢
     have HB4 : Aside0 (Below w2.heap.size w2 w4) := ⟨HB3.out.grown HGG.out HB3.out.size (fun j hj => by obtain rfl := Option.some.inj hj; exact HG9.out)⟩
     have HR4 : Aside0 (Kd.R (Kd.int .i64) 3 w4 w2.heap.size (fun _ => True) u7 ((d3.map (·.f0)).take j)) := ⟨Kd.R_mono (Kd.R_grown (Kd.R_tight rfl HR3.out) HGG.out (fun k hk e => by rw [e] at hk; exact absurd (Kd.R_lt HQ.out g9 hk.symm) (Nat.not_lt.2 HG92.out))) (fun _ _ => trivial)⟩
     have y0 := (blk_cell HY9.out 0).trans rfl
     clear z0 z1 f0 f1 k0 k1
     go_wp2_with (first | ((with_reducible refine gate_builtin (b := .append) (xs := #[.tmp 36, .tmp 39]) rfl ?_); at_builtin; refine Kd.R_append (Kd.int .i64) (w0 := w2) w2.heap.size rfl (.tmp 36) (.tmp 39) 22 3 (.int .i64 0) 8 rfl Tryz.underlying22 info3 rfl (by decide) (by omega) u7 ((d3.map (·.f0)).take j) a [.int .i64 a] (fun _ => True) (fun _ => False) rfl rfl ?aP (fun _ hk => hk.elim) ?aF ?aO ?aB ?aS ?aL ?_; (case aP => exact rfl); (case aB => exact (by repeat (first | (with_reducible first | exact HB4.out | apply below_alloc | apply pw_below_drewN | apply below_drew1) | exact HB4.out))); (case aF => exact (fun _ _ => trivial)); (case aO => exact (by (with_reducible repeat (first | apply Kd.R_alloc | apply Kd.R_drewN | apply Kd.R_drew)); exact HR4.out)); (case aS => exact (below_size (by repeat (first | (with_reducible first | exact HB4.out | apply below_alloc | apply pw_below_drewN | apply below_drew1) | exact HB4.out)))); (case aL => have h3 := HJ.out; rw [List.length_take, List.length_map]; omega); intro v6 w6 ho hb hg hat; have HO6 := Aside0.mk ho; have HB6 := Aside0.mk hb; clear ho hb hg hat))
     exact ⟨⟨j + 1, by go_num, by have := HJ.out; omega, ⟨by rw [HTK.out]; exact HO6.out⟩, HB6⟩, by have := HJ.out; simp [intOf]; omega⟩
    ·obtain rfl : j = d3.length := by omega
     clear hlj hj
     go_wp2
     go_ret
     refine ⟨_, rfl, ?_, below_step (below_step HB1.out HB2.out) HBQ.out⟩
     have h := HQ.out
     rw [List.take_of_length_le (by simp), HPI.out, List.map_map] at h
     exact Kd.R_lower h (Nat.le_trans HB1.out.size HB2.out.size)
set_option maxRecDepth 100000 in
set_option maxHeartbeats 8000000 in
theorem places_c {w : World} {g : Nat} (h : PropsAt w g) {v : Value} {xs : List Int} (hx : SL w v xs) (hm : xs.length ≤ 1000000) :
 Calls Tryz.prog 19 #[.pointer (some ⟨g, 0, none⟩), v] w fun e w' => ∃ u, e = .returned u ∧ Kd.R (Kd.int .i64) 3 w' w.heap.size (fun _ => True) u ((placesN xs (xs.map CJoins.jn) xs.length).map fun i : Nat => (i : Int)) ∧ Below w.heap.size w w' := by
 have H := Aside0.mk h
 have HX := Aside0.mk hx
 have HM := Aside0.mk hm
 obtain ⟨A, c, rfl, -, -⟩ := hx
 clear h hm
 go_enter Tryz.func19, Tryz.ntmps19
 go_wp2_with (first | (go_at_call 51; refine (KProps.pjoins_c H.out HX.out HM.out).mono ?_; rintro e w1 ⟨u, rfl, hr, hb⟩; obtain ⟨B, d, ed⟩ := Kd.R_slice hr; subst ed; have HT := Aside0.mk (SLk.of_R hr); rw [List.length_map]; have HB1 := Aside0.mk hb; clear hr hb) | (go_at_call 56; have hcon := textPlaces_c (SLk.below HX.out HB1.out) HT.out (by rw [List.length_map]) HM.out; rw [List.length_map] at hcon; refine hcon.mono ?_; clear hcon; rintro e w2 ⟨u, rfl, hr, hb⟩; have HR := Aside0.mk (Kd.R_lower hr HB1.out.size); have HB2 : Aside0 (Below w.heap.size w w2) := ⟨below_step HB1.out hb⟩; clear hr hb))
 go_ret
 exact ⟨_, rfl, HR.out, HB2.out⟩
end Go.Proofs.YtemhccjjcioodaaGreat.KPlaces
end
