/- Texts of this claim, cut to what it needs. -/
import Derived.Test.YtohhobcipfmkbaaKCLive3
set_option linter.unusedSimpArgs false
set_option linter.unusedVariables false
namespace Go.Proofs.Ytohhobcipfmkbaa
open Go.RowKit Go.Maps Go.Proofs.YtohhobcipfmkbaaW.PrintWords Go.Proofs.YtohhobcipfmkbaaW.PrintMore Go.Proofs.YtohhobcipfmkbaaW.PrintLast Go.Proofs.Ytohhobcipfmkbaa.U Go.Proofs.Ytohhobcipfmkbaa.PClusterFinest Go.Proofs.Ytohhobcipfmkbaa.UGroups Go.Proofs.Ytohhobcipfmkbaa.UFinEv Go.Proofs.Ytohhobcipfmkbaa.Cel
open Go.Proofs.Ytohhobcipfmkbaa.CFin (eq45_c drawn0_below)
open Go.Proofs.Ytohhobcipfmkbaa.CRow (SDo DoC)
theorem add0 (a : Addr) : a.add (0 * 5) = a := by
 unfold Addr.add
 first | (cases a; simp; done) | (split <;> simp_all)
set_option maxRecDepth 100000 in
set_option maxHeartbeats 16000000 in
theorem cellsLiveWalk (n : Int) (l : List SDo) (w : World) (_ : (Lit.int .i64 n).wf = true) (A : Option Addr) (ca : Nat) (hr : DoC w A l) (hca : l.length ≤ ca) (hm : ca ≤ maxLen) :
 Calls Try.prog 3 #[.int .i64 n, .slice A l.length ca] w fun e w' => e = .returned (.bool true) ∧ Below w.heap.size w w' := by
 have HD := Aside0.mk hr
 have HM : Aside0 (l.length ≤ 9223372036854775807) := ⟨by have : maxLen = 9223372036854775807 := rfl; omega⟩
 clear hr hca hm
 go_enter Try.func3, Try.ntmps3
 have HB0 : Aside0 (Below w.heap.size w w) := ⟨Below.refl _ _⟩
 by_cases hn1 : 40 < n ∧ n ≤ 16777216
 ·have h1 : n > 40 := hn1.1
  have h2 : n ≤ 16777216 := hn1.2
  clear hn1
  go_wp2_with (go_at_call 12; refine awake12_c.mono ?_; rintro e w99 ⟨rfl, hb⟩; have HB99 : Aside0 (Below w.heap.size w w99) := ⟨below_step HB0.out hb⟩; clear hb)
  go_ret
  exact ⟨rfl, HB99.out⟩
 ·by_cases hbad : n < 0 ∨ n > 16777216
  ·have HBAD := Aside0.mk hbad
   have hx : ¬ (n > 40 ∧ n ≤ 16777216) := by omega
   have h1 : n > 16777216 ∨ ¬ n > 40 := by omega
   clear hbad hn1 hx
   rcases h1 with h1 | h1
   ·have h40 : n > 40 := by omega
    have h2 : ¬ n ≤ 16777216 := by omega
    by_cases hl : l.length = 0
    ·have hlI : ¬ (0 : Int) < (l.length : Int) := by omega
     clear hl
     go_upto_region 8 with (first | (go_at_call 13; refine (new_bad n HBAD.out).mono ?_; rintro e w1 ⟨rfl, hb⟩; have HB1 : Aside0 (Below w.heap.size w w1) := ⟨below_step HB0.out hb⟩; clear hb) | (go_at_call 14; refine (refNew_bad n HBAD.out).mono ?_; rintro e w2 ⟨rfl, hb⟩; have HB2 : Aside0 (Below w.heap.size w w2) := ⟨below_step HB1.out hb⟩; clear hb))
     refine wp_loop_rounds 1 ?_
     rw [rounds_succ]
     go_wp2_with (go_at_call 12; refine awake12_c.mono ?_; rintro e w99 ⟨rfl, hb⟩; have HB99 : Aside0 (Below w.heap.size w w99) := ⟨below_step HB2.out hb⟩; clear hb)
     go_ret
     exact ⟨rfl, HB99.out⟩
    ·have hlI : (0 : Int) < (l.length : Int) := by omega
     obtain ⟨k, hk⟩ : ∃ k, k = l[0] := ⟨_, rfl⟩
     obtain ⟨ad, Ak, ck, ead, c0, c1, c2, c3, c4, hs⟩ := HD.out 0 (by omega)
     rw [← hk] at c0 c1 c2 c3 c4 hs
     have HS := Aside0.mk hs
     clear hk hs
     subst ead
     clear hl
     rw [add0] at c0 c1 c2 c3 c4
     go_upto_region 8 with (first | (go_at_call 13; refine (new_bad n HBAD.out).mono ?_; rintro e w1 ⟨rfl, hb⟩; have HB1 : Aside0 (Below w.heap.size w w1) := ⟨below_step HB0.out hb⟩; clear hb) | (go_at_call 14; refine (refNew_bad n HBAD.out).mono ?_; rintro e w2 ⟨rfl, hb⟩; have HB2 : Aside0 (Below w.heap.size w w2) := ⟨below_step HB1.out hb⟩; clear hb))
     refine wp_loop_rounds 1 ?_
     rw [rounds_succ]
     have c0 := (HB2.out.cell (World.block_lt_of_cell? _ _ c0)).trans c0
     have c1 := (HB2.out.cell (World.block_lt_of_cell? _ _ c1)).trans c1
     have c2 := (HB2.out.cell (World.block_lt_of_cell? _ _ c2)).trans c2
     have c3 := (HB2.out.cell (World.block_lt_of_cell? _ _ c3)).trans c3
     have c4 := (HB2.out.cell (World.block_lt_of_cell? _ _ c4)).trans c4
     go_upto_region 10 with (first | ((with_reducible refine gate_dst (N := 10) rfl ?_); refine box_event ?hg (N := 10) ?hd (cs := #[.int .i64 0, .int .i64 0, .slice none 0 0, .int .i64 0, .int .i64 0]) (t := 35) ?hr ?_; (case hd => rfl); (case hg => rfl); (case hr => first | (go_simp; done) | (go_simp; rfl)); intro gb hg w3 hbox hb; have HXb := Aside0.mk hbox; have HGE : Aside0 (w2.heap.size ≤ gb ∧ gb < w3.heap.size) := ⟨by rw [hg]; exact Nat.le_refl _, blk_lt hbox⟩; have HBW := Aside0.mk hb; have HBB : Aside0 (Below w.heap.size w w3) := ⟨below_step HB2.out hb⟩; have z0 : w3.cell? ⟨gb, 0, none⟩ = some (.int .i64 0) := (blk_cell hbox 0).trans rfl; have f0 := blk_frozen hbox 0; have z1 : w3.cell? ⟨gb, 1, none⟩ = some (.int .i64 0) := (blk_cell hbox 1).trans rfl; have f1 := blk_frozen hbox 1; have z2 : w3.cell? ⟨gb, 2, none⟩ = some (.slice none 0 0) := (blk_cell hbox 2).trans rfl; have f2 := blk_frozen hbox 2; have z3 : w3.cell? ⟨gb, 3, none⟩ = some (.int .i64 0) := (blk_cell hbox 3).trans rfl; have f3 := blk_frozen hbox 3; have z4 : w3.cell? ⟨gb, 4, none⟩ = some (.int .i64 0) := (blk_cell hbox 4).trans rfl; have f4 := blk_frozen hbox 4; have c0 := (hb.cell (World.block_lt_of_cell? _ _ c0)).trans c0; have c1 := (hb.cell (World.block_lt_of_cell? _ _ c1)).trans c1; have c2 := (hb.cell (World.block_lt_of_cell? _ _ c2)).trans c2; have c3 := (hb.cell (World.block_lt_of_cell? _ _ c3)).trans c3; have c4 := (hb.cell (World.block_lt_of_cell? _ _ c4)).trans c4; clear hg hbox hb))
     have HYb := Aside0.mk (blk_put (blk_put (blk_put (blk_put (blk_put HXb.out 0 (.int .i64 k.op) rfl) 1 (.int .i64 k.at_) rfl) 2 (.slice Ak k.codes.length ck) rfl) 3 (.int .i64 k.lo) rfl) 4 (.int .i64 k.hi) rfl)
     have HGb := Aside0.mk (World.grownBy.trans (World.grownBy.trans (World.grownBy.trans (World.grownBy.trans (grown_set w3 gb 0 (.int .i64 k.op)) (grown_set _ gb 1 (.int .i64 k.at_))) (grown_set _ gb 2 (.slice Ak k.codes.length ck))) (grown_set _ gb 3 (.int .i64 k.lo))) (grown_set _ gb 4 (.int .i64 k.hi)))
     generalize ((((w3.setCell ⟨gb, 0, none⟩ (.int .i64 k.op)).setCell ⟨gb, 1, none⟩ (.int .i64 k.at_)).setCell ⟨gb, 2, none⟩ (.slice Ak k.codes.length ck)).setCell ⟨gb, 3, none⟩ (.int .i64 k.lo)).setCell ⟨gb, 4, none⟩ (.int .i64 k.hi) = w4 at HYb HGb ⊢
     have q0 := (blk_cell HYb.out 0).trans rfl
     have q1 := (blk_cell HYb.out 1).trans rfl
     have q2 := (blk_cell HYb.out 2).trans rfl
     have q3 := (blk_cell HYb.out 3).trans rfl
     have q4 := (blk_cell HYb.out 4).trans rfl
     clear z0 f0 c0 z1 f1 c1 z2 f2 c2 z3 f3 c3 z4 f4 c4 HXb
     have HBC : Aside0 (Below w.heap.size w w4) := ⟨HBB.out.grown HGb.out HBB.out.size (fun j hj => by obtain rfl := Option.some.inj hj; exact Nat.le_trans HB2.out.size HGE.out.1)⟩
     clear HBB HBW
     go_wp2_with (go_at_call 12; refine awake12_c.mono ?_; rintro e w99 ⟨rfl, hb⟩; have HB99 : Aside0 (Below w.heap.size w w99) := ⟨below_step HBC.out hb⟩; clear hb)
     go_ret
     exact ⟨rfl, HB99.out⟩
   ·skip
    by_cases hl : l.length = 0
    ·have hlI : ¬ (0 : Int) < (l.length : Int) := by omega
     clear hl
     go_upto_region 8 with (first | (go_at_call 13; refine (new_bad n HBAD.out).mono ?_; rintro e w1 ⟨rfl, hb⟩; have HB1 : Aside0 (Below w.heap.size w w1) := ⟨below_step HB0.out hb⟩; clear hb) | (go_at_call 14; refine (refNew_bad n HBAD.out).mono ?_; rintro e w2 ⟨rfl, hb⟩; have HB2 : Aside0 (Below w.heap.size w w2) := ⟨below_step HB1.out hb⟩; clear hb))
     refine wp_loop_rounds 1 ?_
     rw [rounds_succ]
     go_wp2_with (go_at_call 12; refine awake12_c.mono ?_; rintro e w99 ⟨rfl, hb⟩; have HB99 : Aside0 (Below w.heap.size w w99) := ⟨below_step HB2.out hb⟩; clear hb)
     go_ret
     exact ⟨rfl, HB99.out⟩
    ·have hlI : (0 : Int) < (l.length : Int) := by omega
     obtain ⟨k, hk⟩ : ∃ k, k = l[0] := ⟨_, rfl⟩
     obtain ⟨ad, Ak, ck, ead, c0, c1, c2, c3, c4, hs⟩ := HD.out 0 (by omega)
     rw [← hk] at c0 c1 c2 c3 c4 hs
     have HS := Aside0.mk hs
     clear hk hs
     subst ead
     clear hl
     rw [add0] at c0 c1 c2 c3 c4
     go_upto_region 8 with (first | (go_at_call 13; refine (new_bad n HBAD.out).mono ?_; rintro e w1 ⟨rfl, hb⟩; have HB1 : Aside0 (Below w.heap.size w w1) := ⟨below_step HB0.out hb⟩; clear hb) | (go_at_call 14; refine (refNew_bad n HBAD.out).mono ?_; rintro e w2 ⟨rfl, hb⟩; have HB2 : Aside0 (Below w.heap.size w w2) := ⟨below_step HB1.out hb⟩; clear hb))
     refine wp_loop_rounds 1 ?_
     rw [rounds_succ]
     have c0 := (HB2.out.cell (World.block_lt_of_cell? _ _ c0)).trans c0
     have c1 := (HB2.out.cell (World.block_lt_of_cell? _ _ c1)).trans c1
     have c2 := (HB2.out.cell (World.block_lt_of_cell? _ _ c2)).trans c2
     have c3 := (HB2.out.cell (World.block_lt_of_cell? _ _ c3)).trans c3
     have c4 := (HB2.out.cell (World.block_lt_of_cell? _ _ c4)).trans c4
     go_upto_region 10 with (first | ((with_reducible refine gate_dst (N := 10) rfl ?_); refine box_event ?hg (N := 10) ?hd (cs := #[.int .i64 0, .int .i64 0, .slice none 0 0, .int .i64 0, .int .i64 0]) (t := 35) ?hr ?_; (case hd => rfl); (case hg => rfl); (case hr => first | (go_simp; done) | (go_simp; rfl)); intro gb hg w3 hbox hb; have HXb := Aside0.mk hbox; have HGE : Aside0 (w2.heap.size ≤ gb ∧ gb < w3.heap.size) := ⟨by rw [hg]; exact Nat.le_refl _, blk_lt hbox⟩; have HBW := Aside0.mk hb; have HBB : Aside0 (Below w.heap.size w w3) := ⟨below_step HB2.out hb⟩; have z0 : w3.cell? ⟨gb, 0, none⟩ = some (.int .i64 0) := (blk_cell hbox 0).trans rfl; have f0 := blk_frozen hbox 0; have z1 : w3.cell? ⟨gb, 1, none⟩ = some (.int .i64 0) := (blk_cell hbox 1).trans rfl; have f1 := blk_frozen hbox 1; have z2 : w3.cell? ⟨gb, 2, none⟩ = some (.slice none 0 0) := (blk_cell hbox 2).trans rfl; have f2 := blk_frozen hbox 2; have z3 : w3.cell? ⟨gb, 3, none⟩ = some (.int .i64 0) := (blk_cell hbox 3).trans rfl; have f3 := blk_frozen hbox 3; have z4 : w3.cell? ⟨gb, 4, none⟩ = some (.int .i64 0) := (blk_cell hbox 4).trans rfl; have f4 := blk_frozen hbox 4; have c0 := (hb.cell (World.block_lt_of_cell? _ _ c0)).trans c0; have c1 := (hb.cell (World.block_lt_of_cell? _ _ c1)).trans c1; have c2 := (hb.cell (World.block_lt_of_cell? _ _ c2)).trans c2; have c3 := (hb.cell (World.block_lt_of_cell? _ _ c3)).trans c3; have c4 := (hb.cell (World.block_lt_of_cell? _ _ c4)).trans c4; clear hg hbox hb))
     have HYb := Aside0.mk (blk_put (blk_put (blk_put (blk_put (blk_put HXb.out 0 (.int .i64 k.op) rfl) 1 (.int .i64 k.at_) rfl) 2 (.slice Ak k.codes.length ck) rfl) 3 (.int .i64 k.lo) rfl) 4 (.int .i64 k.hi) rfl)
     have HGb := Aside0.mk (World.grownBy.trans (World.grownBy.trans (World.grownBy.trans (World.grownBy.trans (grown_set w3 gb 0 (.int .i64 k.op)) (grown_set _ gb 1 (.int .i64 k.at_))) (grown_set _ gb 2 (.slice Ak k.codes.length ck))) (grown_set _ gb 3 (.int .i64 k.lo))) (grown_set _ gb 4 (.int .i64 k.hi)))
     generalize ((((w3.setCell ⟨gb, 0, none⟩ (.int .i64 k.op)).setCell ⟨gb, 1, none⟩ (.int .i64 k.at_)).setCell ⟨gb, 2, none⟩ (.slice Ak k.codes.length ck)).setCell ⟨gb, 3, none⟩ (.int .i64 k.lo)).setCell ⟨gb, 4, none⟩ (.int .i64 k.hi) = w4 at HYb HGb ⊢
     have q0 := (blk_cell HYb.out 0).trans rfl
     have q1 := (blk_cell HYb.out 1).trans rfl
     have q2 := (blk_cell HYb.out 2).trans rfl
     have q3 := (blk_cell HYb.out 3).trans rfl
     have q4 := (blk_cell HYb.out 4).trans rfl
     clear z0 f0 c0 z1 f1 c1 z2 f2 c2 z3 f3 c3 z4 f4 c4 HXb
     have HBC : Aside0 (Below w.heap.size w w4) := ⟨HBB.out.grown HGb.out HBB.out.size (fun j hj => by obtain rfl := Option.some.inj hj; exact Nat.le_trans HB2.out.size HGE.out.1)⟩
     clear HBB HBW
     go_wp2_with (go_at_call 12; refine awake12_c.mono ?_; rintro e w99 ⟨rfl, hb⟩; have HB99 : Aside0 (Below w.heap.size w w99) := ⟨below_step HBC.out hb⟩; clear hb)
     go_ret
     exact ⟨rfl, HB99.out⟩
  ·obtain ⟨N, rfl⟩ : ∃ N : Nat, n = (N : Int) := ⟨n.toNat, by omega⟩
   have HN : Aside0 (N ≤ 40) := ⟨by omega⟩
   have h40 : ¬ (N : Int) > 40 := by omega
   clear hbad hn1
   go_upto_region 8 with (first | (go_at_call 13; refine (new_c N (by have := HN.out; omega)).mono ?_; rintro e w1 ⟨b, rfl, hc, hb⟩; have HC1 := Aside0.mk hc; have HB1 := Aside0.mk hb; clear hc hb) | (go_at_call 14; refine (refNew_c N (by have := HN.out; omega)).mono ?_; rintro e w2 ⟨c, rfl, hc, hb⟩; have HBO2 : Aside0 (Both (fun q => q < w.heap.size) w2 b c (List.replicate N []) [] (List.replicate N []) []) := ⟨⟨fun q => w.heap.size ≤ q ∧ q < w1.heap.size, fun q => w1.heap.size ≤ q ∧ q < w2.heap.size, fun q hq => ⟨Nat.not_lt.2 hq.1, Nat.lt_of_lt_of_le hq.2 hb.size⟩, fun q hq => ⟨Nat.not_lt.2 (Nat.le_trans HB1.out.size hq.1), hq.2⟩, fun q h1 h2 => Nat.not_lt.2 h2.1 h1.2, HC1.out.bound.below hb, hc.bound⟩⟩; have HB2 : Aside0 (Below w.heap.size w w2) := ⟨below_step HB1.out hb⟩; clear hc hb))
   go_loopw [44] (fun v wr => ∃ i : Nat, v = .int .i64 i ∧ i ≤ l.length ∧ i ≤ 40 ∧ Aside0 (∃ L J, Both (fun q => q < w.heap.size) wr b c L J L J ∧ Few N i L J) ∧ Aside0 (Below w.heap.size w wr)) (fun v _ => l.length - (intOf v).toNat)
   case atStart => exact ⟨0, rfl, Nat.zero_le _, Nat.zero_le _, ⟨_, _, HBO2.out, Few.zero N⟩, HB2⟩
   case round =>
    obtain ⟨i, rfl, hi, hi40, HZ, HB⟩ := hrel
    obtain ⟨L, J, hbo, hfew⟩ := HZ.out
    have HBO := Aside0.mk hbo
    have HFEW := Aside0.mk hfew
    have HI := Aside0.mk hi40
    clear hbo hfew hi40 HZ
    by_cases hli : i < l.length
    ·have hiI : (i : Int) < (l.length : Int) := by omega
     obtain ⟨k, hk⟩ : ∃ k, k = l[i] := ⟨_, rfl⟩
     obtain ⟨ad, Ak, ck, ead, c0, c1, c2, c3, c4, hs⟩ := HD.out i hli
     rw [← hk] at c0 c1 c2 c3 c4 hs
     have HS := Aside0.mk hs
     clear hk hs
     subst ead
     have c0 := (HB.out.cell (World.block_lt_of_cell? _ _ c0)).trans c0
     have c1 := (HB.out.cell (World.block_lt_of_cell? _ _ c1)).trans c1
     have c2 := (HB.out.cell (World.block_lt_of_cell? _ _ c2)).trans c2
     have c3 := (HB.out.cell (World.block_lt_of_cell? _ _ c3)).trans c3
     have c4 := (HB.out.cell (World.block_lt_of_cell? _ _ c4)).trans c4
     go_upto_region 10 with (first | ((with_reducible refine gate_dst (N := 10) rfl ?_); refine box_event ?hg (N := 10) ?hd (cs := #[.int .i64 0, .int .i64 0, .slice none 0 0, .int .i64 0, .int .i64 0]) (t := 35) ?hr ?_; (case hd => rfl); (case hg => rfl); (case hr => first | (go_simp; done) | (go_simp; rfl)); intro gb hg w3 hbox hb; have HXb := Aside0.mk hbox; have HGE : Aside0 (wr.heap.size ≤ gb ∧ gb < w3.heap.size) := ⟨by rw [hg]; exact Nat.le_refl _, blk_lt hbox⟩; have HBW := Aside0.mk hb; have HBB : Aside0 (Below w.heap.size w w3) := ⟨below_step HB.out hb⟩; have z0 : w3.cell? ⟨gb, 0, none⟩ = some (.int .i64 0) := (blk_cell hbox 0).trans rfl; have f0 := blk_frozen hbox 0; have z1 : w3.cell? ⟨gb, 1, none⟩ = some (.int .i64 0) := (blk_cell hbox 1).trans rfl; have f1 := blk_frozen hbox 1; have z2 : w3.cell? ⟨gb, 2, none⟩ = some (.slice none 0 0) := (blk_cell hbox 2).trans rfl; have f2 := blk_frozen hbox 2; have z3 : w3.cell? ⟨gb, 3, none⟩ = some (.int .i64 0) := (blk_cell hbox 3).trans rfl; have f3 := blk_frozen hbox 3; have z4 : w3.cell? ⟨gb, 4, none⟩ = some (.int .i64 0) := (blk_cell hbox 4).trans rfl; have f4 := blk_frozen hbox 4; have c0 := (hb.cell (World.block_lt_of_cell? _ _ c0)).trans c0; have c1 := (hb.cell (World.block_lt_of_cell? _ _ c1)).trans c1; have c2 := (hb.cell (World.block_lt_of_cell? _ _ c2)).trans c2; have c3 := (hb.cell (World.block_lt_of_cell? _ _ c3)).trans c3; have c4 := (hb.cell (World.block_lt_of_cell? _ _ c4)).trans c4; clear hg hbox hb))
     have HYb := Aside0.mk (blk_put (blk_put (blk_put (blk_put (blk_put HXb.out 0 (.int .i64 k.op) rfl) 1 (.int .i64 k.at_) rfl) 2 (.slice Ak k.codes.length ck) rfl) 3 (.int .i64 k.lo) rfl) 4 (.int .i64 k.hi) rfl)
     have HGb := Aside0.mk (World.grownBy.trans (World.grownBy.trans (World.grownBy.trans (World.grownBy.trans (grown_set w3 gb 0 (.int .i64 k.op)) (grown_set _ gb 1 (.int .i64 k.at_))) (grown_set _ gb 2 (.slice Ak k.codes.length ck))) (grown_set _ gb 3 (.int .i64 k.lo))) (grown_set _ gb 4 (.int .i64 k.hi)))
     generalize ((((w3.setCell ⟨gb, 0, none⟩ (.int .i64 k.op)).setCell ⟨gb, 1, none⟩ (.int .i64 k.at_)).setCell ⟨gb, 2, none⟩ (.slice Ak k.codes.length ck)).setCell ⟨gb, 3, none⟩ (.int .i64 k.lo)).setCell ⟨gb, 4, none⟩ (.int .i64 k.hi) = w4 at HYb HGb ⊢
     have q0 := (blk_cell HYb.out 0).trans rfl
     have q1 := (blk_cell HYb.out 1).trans rfl
     have q2 := (blk_cell HYb.out 2).trans rfl
     have q3 := (blk_cell HYb.out 3).trans rfl
     have q4 := (blk_cell HYb.out 4).trans rfl
     clear z0 f0 c0 z1 f1 c1 z2 f2 c2 z3 f3 c3 z4 f4 c4 HXb
     have HBC : Aside0 (Below w.heap.size w w4) := ⟨HBB.out.grown HGb.out HBB.out.size (fun j hj => by obtain rfl := Option.some.inj hj; exact Nat.le_trans HB.out.size HGE.out.1)⟩
     obtain ⟨F3, hF3⟩ : ∃ F3 : Nat → Prop, F3 = fun q => q < w.heap.size ∨ (wr.heap.size ≤ q ∧ q < w3.heap.size) := ⟨_, rfl⟩
     have HGF : Aside0 (F3 gb) := ⟨by rw [hF3]; exact .inr HGE.out⟩
     have HBO4 : Aside0 (Both F3 w4 b c L J L J) := ⟨by rw [hF3]; exact (HBO.out.grow HBW.out).kept (Kept.of_grown HGb.out (Kept.refl w3 (fun q => q = gb)) (fun q e => .inl (Option.some.inj e).symm)) (fun q hq => .inl (by rw [hq]; exact .inr HGE.out))⟩
     have HF4 : Aside0 (∀ q, F3 q → q < w4.heap.size) := ⟨fun q hq => by rw [hF3] at hq; exact Nat.lt_of_lt_of_le (hq.elim (fun h => Nat.lt_of_lt_of_le h (Nat.le_trans HB.out.size HBW.out.size)) (fun h => h.2)) HGb.out.size⟩
     have HSUB : Aside0 (∀ q, q < w.heap.size → F3 q) := ⟨fun q hq => by rw [hF3]; exact .inl hq⟩
     have HK4 : Aside0 (SLD w4 F3 (.slice Ak k.codes.length ck) k.codes) := ⟨⟨SLk.below HS.out HBC.out, fun ad m c e hm => HSUB.out _ ((SLD.any HS.out).2 ad m c e hm)⟩⟩
     clear hF3 HBB HBW
     by_cases h3 : (i : Int) ≥ 40
     ·clear hli
      go_wp2_with (first | (go_at_call 21; refine (clu_pair HBO4.out HFEW.out HN.out HI.out).mono ?_; rintro e w20 ⟨u, r, rfl, hb, ht⟩; have HT := Aside0.mk ht; have HB20 : Aside0 (Below w.heap.size w w20) := ⟨below_step HBC.out hb⟩; clear hb ht) | (go_at_call 22; refine (HT.out _ (Below.refl _ _)).mono ?_; rintro e w21 ⟨u2, rfl, hb, xs, hxl, hs1, hs2⟩; have HXL := Aside0.mk hxl; have HS1 := Aside0.mk hs1; have HS2 := Aside0.mk hs2; have HB21 : Aside0 (Below w.heap.size w w21) := ⟨below_step HB20.out hb⟩; clear hb hxl hs1 hs2) | (go_at_call 23; refine (eq45_c HS1.out HS2.out (by have := HXL.out; omega)).mono ?_; rintro e w22 ⟨rfl, hd⟩; have HB22 : Aside0 (Below w.heap.size w w22) := ⟨below_step HB21.out (drawn0_below hd)⟩; clear hd) | (go_at_call 12; refine awake12_c.mono ?_; rintro e w99 ⟨rfl, hb⟩; have HB99 : Aside0 (Below w.heap.size w w99) := ⟨below_step HB22.out hb⟩; clear hb))
      go_ret
      exact ⟨rfl, HB99.out⟩
     ·by_cases h4 : (k.codes.length : Int) > 4
      ·clear hli
       go_wp2_with (first | (go_at_call 21; refine (clu_pair HBO4.out HFEW.out HN.out HI.out).mono ?_; rintro e w20 ⟨u, r, rfl, hb, ht⟩; have HT := Aside0.mk ht; have HB20 : Aside0 (Below w.heap.size w w20) := ⟨below_step HBC.out hb⟩; clear hb ht) | (go_at_call 22; refine (HT.out _ (Below.refl _ _)).mono ?_; rintro e w21 ⟨u2, rfl, hb, xs, hxl, hs1, hs2⟩; have HXL := Aside0.mk hxl; have HS1 := Aside0.mk hs1; have HS2 := Aside0.mk hs2; have HB21 : Aside0 (Below w.heap.size w w21) := ⟨below_step HB20.out hb⟩; clear hb hxl hs1 hs2) | (go_at_call 23; refine (eq45_c HS1.out HS2.out (by have := HXL.out; omega)).mono ?_; rintro e w22 ⟨rfl, hd⟩; have HB22 : Aside0 (Below w.heap.size w w22) := ⟨below_step HB21.out (drawn0_below hd)⟩; clear hd) | (go_at_call 12; refine awake12_c.mono ?_; rintro e w99 ⟨rfl, hb⟩; have HB99 : Aside0 (Below w.heap.size w w99) := ⟨below_step HB22.out hb⟩; clear hb))
       go_ret
       exact ⟨rfl, HB99.out⟩
      ·have hk4 : k.codes.length ≤ 4 := by omega
       have HKL := Aside0.mk hk4
       clear hk4 HS
       have h3n : ¬ (40 : Int) ≤ (i : Int) := by omega
       have h4n : ¬ (4 : Int) < (k.codes.length : Int) := by omega
       go_upto_region 11 with (fail)
       have HBD : Aside0 (Below w4.heap.size w4 w4.drew) := ⟨below_drew (Below.refl _ _)⟩
       have HXD : Aside0 (w4.drew.heap[gb]? = some (.cells #[.int .i64 k.op, .int .i64 k.at_, .slice Ak k.codes.length ck, .int .i64 k.lo, .int .i64 k.hi] 35 (0, 0))) := ⟨(HBD.out.block _ (blk_lt HYb.out)).trans HYb.out⟩
       have HBOD := Aside0.mk (HBO4.out.below HBD.out)
       have HFD : Aside0 (∀ q, F3 q → q < w4.drew.heap.size) := ⟨fun q hq => Nat.lt_of_lt_of_le (HF4.out q hq) HBD.out.size⟩
       have HKD : Aside0 (SLD w4.drew F3 (.slice Ak k.codes.length ck) k.codes) := ⟨⟨SLk.below HK4.out.1 HBD.out, HK4.out.2⟩⟩
       have HBWD : Aside0 (Below w.heap.size w w4.drew) := ⟨below_step HBC.out HBD.out⟩
       refine start_ (n := 25) (S := (fun W => W.heap[gb]? = some (.cells #[.int .i64 k.op, .int .i64 k.at_, .slice Ak k.codes.length ck, .int .i64 k.lo, .int .i64 k.hi] 35 (0, 0)))) (ds := []) #[false, false, false, false, false, false, false, false, false, false, false, false, false, false, false, false, false, false, false, false, false, false, false, false, false] (by kernel_rfl) (by kernel_rfl) (by rfl) HXD.out (fun hS0 => ?_)
       refine pure_ (i := 0) (N := (some 61)) (v := ?_) (a' := ?_) #[true, false, false, false, false, false, false, false, false, false, false, false, false, false, false, false, false, false, false, false, false, false, false, false, false] rfl rfl (by kernel_rfl) (fun _ _ _ h => h) (Or.inl ⟨by rfl, ?_⟩) ?_ ?_
       rotate_left
       ·intro w'
        go_simp
        with_reducible rfl
       rotate_left
       ·simp only [Act.put, List.setIfInBounds_toArray, List.set_cons_zero, List.set_cons_succ]
        rfl
       refine pure_ (i := 1) (N := (some 62)) (v := ?_) (a' := ?_) #[true, true, false, false, false, false, false, false, false, false, false, false, false, false, false, false, false, false, false, false, false, false, false, false, false] rfl rfl (by kernel_rfl) (fun _ _ _ h => h) (Or.inl ⟨by rfl, ?_⟩) ?_ ?_
       rotate_left
       ·intro w'
        go_simp
        with_reducible rfl
       rotate_left
       ·simp only [Act.put, List.setIfInBounds_toArray, List.set_cons_zero, List.set_cons_succ]
        rfl
       refine take_ (i := 2) (N := (some 63)) (v := ?_) (a' := ?_) #[true, true, true, false, false, false, false, false, false, false, false, false, false, false, false, false, false, false, false, false, false, false, false, false, false] rfl rfl (by kernel_rfl) (fun _ _ _ h => h) (Or.inl ⟨by rfl, ?_⟩) hS0 ?_ ?_
       rotate_left
       ·intro w' s0
        have y0 := (blk_cell s0 0).trans rfl
        have y1 := (blk_cell s0 1).trans rfl
        have y2 := (blk_cell s0 2).trans rfl
        have y3 := (blk_cell s0 3).trans rfl
        have y4 := (blk_cell s0 4).trans rfl
        go_simp
        with_reducible rfl
       rotate_left
       ·simp only [Act.put, List.setIfInBounds_toArray, List.set_cons_zero, List.set_cons_succ]
        rfl
       clear hS0
       refine one_ (i := 3) (N := (some 64)) #[true, true, true, true, false, false, false, false, false, false, false, false, false, false, false, false, false, false, false, false, false, false, false, false, false] rfl rfl (by kernel_rfl) (by decide) (fun K hK => ?_)
       refine goes_ Try.func15 (by kernel_rfl) rfl #[ptr b, ptr c, .agg #[.int .i64 k.op, .int .i64 k.at_, .slice Ak k.codes.length ck, .int .i64 k.lo, .int .i64 k.hi]] (by rfl) rfl rfl (by go_simp; done) ?_
       refine (do_c HFD.out HBOD.out HFEW.out (by have := HN.out; omega) (by have := HI.out; omega) k HKD.out HKL.out).mono ?_
       rintro e w5 ⟨rfl, ⟨L2, J2, hb2, hf2⟩, he5⟩
       refine ⟨_, rfl, ?_⟩
       have HX5 : Aside0 (w5.heap[gb]? = some (.cells #[.int .i64 k.op, .int .i64 k.at_, .slice Ak k.codes.length ck, .int .i64 k.lo, .int .i64 k.hi] 35 (0, 0))) := ⟨blk_kept HXD.out he5.kept (fun hh => hh HGF.out)⟩
       have HE5 := Aside0.mk he5
       have HBO5 := Aside0.mk hb2
       have HF5 := Aside0.mk hf2
       have HFL : Aside0 (L2.length ≤ 40 ∧ L2.flatten.length ≤ 200) := ⟨by have := hf2.1; have := HN.out; omega, by have := hf2.2.1; have := HI.out; omega⟩
       obtain ⟨D5, hD5, -⟩ := hb2.one
       obtain ⟨E5, hE5, -⟩ := hb2.two
       have HD5 := Aside0.mk hD5
       have HC5 := Aside0.mk hE5
       have HW5 : Aside0 (Below w5.heap.size w5 w5) := ⟨Below.refl _ _⟩
       clear he5 hb2 hf2 hD5 hE5
       change K (Act.put _ (some 64) _) _
       refine hK.out _ _ HX5.out (fun hS0 => ?_)
       clear hK
       refine norm_ (a' := ?_) ?_ ?_
       rotate_left
       ·simp only [Act.put, List.setIfInBounds_toArray, List.set_cons_zero, List.set_cons_succ]
        rfl
       refine pure_ (i := 4) (N := (some 65)) (v := ?_) (a' := ?_) #[true, true, true, true, true, false, false, false, false, false, false, false, false, false, false, false, false, false, false, false, false, false, false, false, false] rfl rfl (by kernel_rfl) (fun _ _ _ h => h) (Or.inl ⟨by rfl, ?_⟩) ?_ ?_
       rotate_left
       ·intro w'
        go_simp
        with_reducible rfl
       rotate_left
       ·simp only [Act.put, List.setIfInBounds_toArray, List.set_cons_zero, List.set_cons_succ]
        rfl
       refine pure_ (i := 5) (N := (some 66)) (v := ?_) (a' := ?_) #[true, true, true, true, true, true, false, false, false, false, false, false, false, false, false, false, false, false, false, false, false, false, false, false, false] rfl rfl (by kernel_rfl) (fun _ _ _ h => h) (Or.inl ⟨by rfl, ?_⟩) ?_ ?_
       rotate_left
       ·intro w'
        go_simp
        with_reducible rfl
       rotate_left
       ·simp only [Act.put, List.setIfInBounds_toArray, List.set_cons_zero, List.set_cons_succ]
        rfl
       refine pure_ (i := 6) (N := (some 67)) (v := ?_) (a' := ?_) #[true, true, true, true, true, true, true, false, false, false, false, false, false, false, false, false, false, false, false, false, false, false, false, false, false] rfl rfl (by kernel_rfl) (fun _ _ _ h => h) (Or.inl ⟨by rfl, ?_⟩) ?_ ?_
       rotate_left
       ·intro w'
        go_simp
        with_reducible rfl
       rotate_left
       ·simp only [Act.put, List.setIfInBounds_toArray, List.set_cons_zero, List.set_cons_succ]
        rfl
       refine pure_ (i := 8) (N := (some 69)) (v := ?_) (a' := ?_) #[true, true, true, true, true, true, true, false, true, false, false, false, false, false, false, false, false, false, false, false, false, false, false, false, false] rfl rfl (by kernel_rfl) (fun _ _ _ h => h) (Or.inl ⟨by rfl, ?_⟩) ?_ ?_
       rotate_left
       ·intro w'
        go_simp
        with_reducible rfl
       rotate_left
       ·simp only [Act.put, List.setIfInBounds_toArray, List.set_cons_zero, List.set_cons_succ]
        rfl
       clear hS0
       refine one_ (i := 7) (N := (some 68)) #[true, true, true, true, true, true, true, true, true, false, false, false, false, false, false, false, false, false, false, false, false, false, false, false, false] rfl rfl (by kernel_rfl) (by decide) (fun K hK => ?_)
       refine goes_ Try.func17 (by kernel_rfl) rfl #[ptr b] (by rfl) rfl rfl (by go_simp; done) ?_
       refine (text_c (HD5.out.below HW5.out) (by have := HFL.out.1; omega) (by have := HFL.out.2; omega)).mono ?_
       rintro e w6 ⟨u6, rfl, hr, hb⟩
       refine ⟨_, rfl, ?_⟩
       have HW6 : Aside0 (Below w5.heap.size w5 w6) := ⟨below_step HW5.out hb⟩
       have HX6 : Aside0 (w6.heap[gb]? = some (.cells #[.int .i64 k.op, .int .i64 k.at_, .slice Ak k.codes.length ck, .int .i64 k.lo, .int .i64 k.hi] 35 (0, 0))) := ⟨(hb.block _ (blk_lt HX5.out)).trans HX5.out⟩
       have HU6 := Aside0.mk (SLk.of_R hr)
       clear hr hb
       change K (Act.put _ (some 68) _) _
       refine hK.out _ _ HX6.out (fun hS0 => ?_)
       clear hK
       refine norm_ (a' := ?_) ?_ ?_
       rotate_left
       ·simp only [Act.put, List.setIfInBounds_toArray, List.set_cons_zero, List.set_cons_succ]
        rfl
       clear hS0
       refine one_ (i := 9) (N := (some 70)) #[true, true, true, true, true, true, true, true, true, true, false, false, false, false, false, false, false, false, false, false, false, false, false, false, false] rfl rfl (by kernel_rfl) (by decide) (fun K hK => ?_)
       refine goes_ Try.func18 (by kernel_rfl) rfl #[ptr c] (by rfl) rfl rfl (by go_simp; done) ?_
       refine (refText_c (HC5.out.below HW6.out) (by have := HFL.out.1; omega) (by have := HFL.out.2; omega)).mono ?_
       rintro e w7 ⟨u7, rfl, hr, hb⟩
       refine ⟨_, rfl, ?_⟩
       have HW7 : Aside0 (Below w5.heap.size w5 w7) := ⟨below_step HW6.out hb⟩
       have HX7 : Aside0 (w7.heap[gb]? = some (.cells #[.int .i64 k.op, .int .i64 k.at_, .slice Ak k.codes.length ck, .int .i64 k.lo, .int .i64 k.hi] 35 (0, 0))) := ⟨(hb.block _ (blk_lt HX6.out)).trans HX6.out⟩
       have HU7 := Aside0.mk (SLk.of_R hr)
       have HU67 := Aside0.mk (SLk.below HU6.out hb)
       clear hr hb
       change K (Act.put _ (some 70) _) _
       refine hK.out _ _ HX7.out (fun hS0 => ?_)
       clear hK
       refine norm_ (a' := ?_) ?_ ?_
       rotate_left
       ·simp only [Act.put, List.setIfInBounds_toArray, List.set_cons_zero, List.set_cons_succ]
        rfl
       clear hS0
       refine one_ (i := 10) (N := (some 71)) #[true, true, true, true, true, true, true, true, true, true, true, false, false, false, false, false, false, false, false, false, false, false, false, false, false] rfl rfl (by kernel_rfl) (by decide) (fun K hK => ?_)
       refine goes_ Try.func16 (by kernel_rfl) rfl #[u6, u7] (by rfl) rfl rfl (by go_simp; done) ?_
       refine (eqI_c HU67.out HU7.out (by have := HFL.out.2; omega)).mono ?_
       rintro e w8 ⟨rfl, hb⟩
       refine ⟨_, rfl, ?_⟩
       have HW8 : Aside0 (Below w5.heap.size w5 w8) := ⟨below_step HW7.out hb⟩
       have HX8 : Aside0 (w8.heap[gb]? = some (.cells #[.int .i64 k.op, .int .i64 k.at_, .slice Ak k.codes.length ck, .int .i64 k.lo, .int .i64 k.hi] 35 (0, 0))) := ⟨(hb.block _ (blk_lt HX7.out)).trans HX7.out⟩
       clear hb
       change K (Act.put _ (some 71) _) _
       refine hK.out _ _ HX8.out (fun hS0 => ?_)
       clear hK
       refine norm_ (a' := ?_) ?_ ?_
       rotate_left
       ·simp only [Act.put, List.setIfInBounds_toArray, List.set_cons_zero, List.set_cons_succ]
        rfl
       refine pure_ (i := 11) (N := (some 72)) (v := ?_) (a' := ?_) #[true, true, true, true, true, true, true, true, true, true, true, true, false, false, false, false, false, false, false, false, false, false, false, false, false] rfl rfl (by kernel_rfl) (fun _ _ _ h => h) (Or.inl ⟨by rfl, ?_⟩) ?_ ?_
       rotate_left
       ·intro w'
        go_simp
        with_reducible rfl
       rotate_left
       ·simp only [Act.put, List.setIfInBounds_toArray, List.set_cons_zero, List.set_cons_succ]
        rfl
       refine pure_ (i := 12) (N := (some 73)) (v := ?_) (a' := ?_) #[true, true, true, true, true, true, true, true, true, true, true, true, true, false, false, false, false, false, false, false, false, false, false, false, false] rfl rfl (by kernel_rfl) (fun _ _ _ h => h) (Or.inl ⟨by rfl, ?_⟩) ?_ ?_
       rotate_left
       ·intro w'
        go_simp
        with_reducible rfl
       rotate_left
       ·simp only [Act.put, List.setIfInBounds_toArray, List.set_cons_zero, List.set_cons_succ]
        rfl
       refine pure_ (i := 13) (N := (some 74)) (v := ?_) (a' := ?_) #[true, true, true, true, true, true, true, true, true, true, true, true, true, true, false, false, false, false, false, false, false, false, false, false, false] rfl rfl (by kernel_rfl) (fun _ _ _ h => h) (Or.inl ⟨by rfl, ?_⟩) ?_ ?_
       rotate_left
       ·intro w'
        go_simp
        with_reducible rfl
       rotate_left
       ·simp only [Act.put, List.setIfInBounds_toArray, List.set_cons_zero, List.set_cons_succ]
        rfl
       refine pure_ (i := 14) (N := (some 75)) (v := ?_) (a' := ?_) #[true, true, true, true, true, true, true, true, true, true, true, true, true, true, true, false, false, false, false, false, false, false, false, false, false] rfl rfl (by kernel_rfl) (fun _ _ _ h => h) (Or.inl ⟨by rfl, ?_⟩) ?_ ?_
       rotate_left
       ·intro w'
        go_simp
        with_reducible rfl
       rotate_left
       ·simp only [Act.put, List.setIfInBounds_toArray, List.set_cons_zero, List.set_cons_succ]
        rfl
       refine pure_ (i := 15) (N := (some 76)) (v := ?_) (a' := ?_) #[true, true, true, true, true, true, true, true, true, true, true, true, true, true, true, true, false, false, false, false, false, false, false, false, false] rfl rfl (by kernel_rfl) (fun _ _ _ h => h) (Or.inl ⟨by rfl, ?_⟩) ?_ ?_
       rotate_left
       ·intro w'
        go_simp
        with_reducible rfl
       rotate_left
       ·simp only [Act.put, List.setIfInBounds_toArray, List.set_cons_zero, List.set_cons_succ]
        rfl
       refine take_ (i := 16) (N := (some 77)) (v := ?_) (a' := ?_) #[true, true, true, true, true, true, true, true, true, true, true, true, true, true, true, true, true, false, false, false, false, false, false, false, false] rfl rfl (by kernel_rfl) (fun _ _ _ h => h) (Or.inl ⟨by rfl, ?_⟩) hS0 ?_ ?_
       rotate_left
       ·intro w' s0
        have y1 := (blk_cell s0 1).trans rfl
        go_simp
        with_reducible rfl
       rotate_left
       ·simp only [Act.put, List.setIfInBounds_toArray, List.set_cons_zero, List.set_cons_succ]
        rfl
       refine pure_ (i := 18) (N := (some 79)) (v := ?_) (a' := ?_) #[true, true, true, true, true, true, true, true, true, true, true, true, true, true, true, true, true, false, true, false, false, false, false, false, false] rfl rfl (by kernel_rfl) (fun _ _ _ h => h) (Or.inl ⟨by rfl, ?_⟩) ?_ ?_
       rotate_left
       ·intro w'
        go_simp
        with_reducible rfl
       rotate_left
       ·simp only [Act.put, List.setIfInBounds_toArray, List.set_cons_zero, List.set_cons_succ]
        rfl
       refine pure_ (i := 19) (N := (some 80)) (v := ?_) (a' := ?_) #[true, true, true, true, true, true, true, true, true, true, true, true, true, true, true, true, true, false, true, true, false, false, false, false, false] rfl rfl (by kernel_rfl) (fun _ _ _ h => h) (Or.inl ⟨by rfl, ?_⟩) ?_ ?_
       rotate_left
       ·intro w'
        go_simp
        with_reducible rfl
       rotate_left
       ·simp only [Act.put, List.setIfInBounds_toArray, List.set_cons_zero, List.set_cons_succ]
        rfl
       refine take_ (i := 20) (N := (some 81)) (v := ?_) (a' := ?_) #[true, true, true, true, true, true, true, true, true, true, true, true, true, true, true, true, true, false, true, true, true, false, false, false, false] rfl rfl (by kernel_rfl) (fun _ _ _ h => h) (Or.inl ⟨by rfl, ?_⟩) hS0 ?_ ?_
       rotate_left
       ·intro w' s0
        have y1 := (blk_cell s0 1).trans rfl
        go_simp
        with_reducible rfl
       rotate_left
       ·simp only [Act.put, List.setIfInBounds_toArray, List.set_cons_zero, List.set_cons_succ]
        rfl
       clear hS0
       refine one_ (i := 17) (N := (some 78)) #[true, true, true, true, true, true, true, true, true, true, true, true, true, true, true, true, true, true, true, true, true, false, false, false, false] rfl rfl (by kernel_rfl) (by decide) (fun K hK => ?_)
       refine goes_ Try.func19 (by kernel_rfl) rfl #[ptr b, .int .i64 k.at_] (by rfl) rfl rfl (by go_simp; done) ?_
       refine (at_any (HD5.out.below HW8.out) (by have := HFL.out.2; omega) k.at_).mono ?_
       rintro e w9 ⟨u9, rfl, hr, hb⟩
       refine ⟨_, rfl, ?_⟩
       have HW9 : Aside0 (Below w5.heap.size w5 w9) := ⟨below_step HW8.out hb⟩
       have HX9 : Aside0 (w9.heap[gb]? = some (.cells #[.int .i64 k.op, .int .i64 k.at_, .slice Ak k.codes.length ck, .int .i64 k.lo, .int .i64 k.hi] 35 (0, 0))) := ⟨(hb.block _ (blk_lt HX8.out)).trans HX8.out⟩
       have HU9 := Aside0.mk hr
       clear hr hb
       change K (Act.put _ (some 78) _) _
       refine hK.out _ _ HX9.out (fun hS0 => ?_)
       clear hK
       refine norm_ (a' := ?_) ?_ ?_
       rotate_left
       ·simp only [Act.put, List.setIfInBounds_toArray, List.set_cons_zero, List.set_cons_succ]
        rfl
       clear hS0
       refine one_ (i := 21) (N := (some 82)) #[true, true, true, true, true, true, true, true, true, true, true, true, true, true, true, true, true, true, true, true, true, true, false, false, false] rfl rfl (by kernel_rfl) (by decide) (fun K hK => ?_)
       refine goes_ Try.func20 (by kernel_rfl) rfl #[ptr c, .int .i64 k.at_] (by rfl) rfl rfl (by go_simp; done) ?_
       refine (refAt_any (HC5.out.below HW9.out) k.at_).mono ?_
       rintro e w10 ⟨u10, rfl, hr, hb⟩
       refine ⟨_, rfl, ?_⟩
       have HW10 : Aside0 (Below w5.heap.size w5 w10) := ⟨below_step HW9.out hb⟩
       have HX10 : Aside0 (w10.heap[gb]? = some (.cells #[.int .i64 k.op, .int .i64 k.at_, .slice Ak k.codes.length ck, .int .i64 k.lo, .int .i64 k.hi] 35 (0, 0))) := ⟨(hb.block _ (blk_lt HX9.out)).trans HX9.out⟩
       have HU10 := Aside0.mk hr
       have HU910 := Aside0.mk (SLk.below HU9.out hb)
       clear hr hb
       change K (Act.put _ (some 82) _) _
       refine hK.out _ _ HX10.out (fun hS0 => ?_)
       clear hK
       refine norm_ (a' := ?_) ?_ ?_
       rotate_left
       ·simp only [Act.put, List.setIfInBounds_toArray, List.set_cons_zero, List.set_cons_succ]
        rfl
       clear hS0
       refine one_ (i := 22) (N := (some 83)) #[true, true, true, true, true, true, true, true, true, true, true, true, true, true, true, true, true, true, true, true, true, true, true, false, false] rfl rfl (by kernel_rfl) (by decide) (fun K hK => ?_)
       refine goes_ Try.func16 (by kernel_rfl) rfl #[u9, u10] (by rfl) rfl rfl (by go_simp; done) ?_
       refine (eqI_c HU910.out HU10.out (by have := HFL.out.2; have := rowAt_le L2 k.at_; omega)).mono ?_
       rintro e w11 ⟨rfl, hb⟩
       refine ⟨_, rfl, ?_⟩
       have HW11 : Aside0 (Below w5.heap.size w5 w11) := ⟨below_step HW10.out hb⟩
       have HX11 : Aside0 (w11.heap[gb]? = some (.cells #[.int .i64 k.op, .int .i64 k.at_, .slice Ak k.codes.length ck, .int .i64 k.lo, .int .i64 k.hi] 35 (0, 0))) := ⟨(hb.block _ (blk_lt HX10.out)).trans HX10.out⟩
       clear hb
       change K (Act.put _ (some 83) _) _
       refine hK.out _ _ HX11.out (fun hS0 => ?_)
       clear hK
       refine norm_ (a' := ?_) ?_ ?_
       rotate_left
       ·simp only [Act.put, List.setIfInBounds_toArray, List.set_cons_zero, List.set_cons_succ]
        rfl
       refine pure_ (i := 23) (N := (some 84)) (v := ?_) (a' := ?_) #[true, true, true, true, true, true, true, true, true, true, true, true, true, true, true, true, true, true, true, true, true, true, true, true, false] rfl rfl (by kernel_rfl) (fun _ _ _ h => h) (Or.inl ⟨by rfl, ?_⟩) ?_ ?_
       rotate_left
       ·intro w'
        go_simp
        with_reducible rfl
       rotate_left
       ·simp only [Act.put, List.setIfInBounds_toArray, List.set_cons_zero, List.set_cons_succ]
        rfl
       refine pure_ (i := 24) (N := (some 85)) (v := ?_) (a' := ?_) #[true, true, true, true, true, true, true, true, true, true, true, true, true, true, true, true, true, true, true, true, true, true, true, true, true] rfl rfl (by kernel_rfl) (fun _ _ _ h => h) (Or.inl ⟨by rfl, ?_⟩) ?_ ?_
       rotate_left
       ·intro w'
        go_simp
        with_reducible rfl
       rotate_left
       ·simp only [Act.put, List.setIfInBounds_toArray, List.set_cons_zero, List.set_cons_succ]
        rfl
       refine done_ (by kernel_rfl) ?_
       clear hS0
       go_wp2
       exact ⟨⟨i + 1, by go_num, by omega, by omega, ⟨L2, J2, (HBO5.out.below HW11.out).mono HSUB.out, HF5.out⟩, ⟨below_step (((Eff.of_below HBWD.out (fun q => w.heap.size ≤ q)).then_ HE5.out (fun q hq => .inl (Nat.not_lt.1 (fun h => hq (HSUB.out q h))))).below (Nat.le_refl _) (fun q h => h)) HW11.out⟩⟩, by simp [intOf]; omega⟩
    ·obtain rfl : i = l.length := by omega
     clear hli
     go_wp2_with (first | (go_at_call 21; refine (clu_pair HBO.out HFEW.out HN.out HI.out).mono ?_; rintro e w20 ⟨u, r, rfl, hb, ht⟩; have HT := Aside0.mk ht; have HB20 : Aside0 (Below w.heap.size w w20) := ⟨below_step HB.out hb⟩; clear hb ht) | (go_at_call 22; refine (HT.out _ (Below.refl _ _)).mono ?_; rintro e w21 ⟨u2, rfl, hb, xs, hxl, hs1, hs2⟩; have HXL := Aside0.mk hxl; have HS1 := Aside0.mk hs1; have HS2 := Aside0.mk hs2; have HB21 : Aside0 (Below w.heap.size w w21) := ⟨below_step HB20.out hb⟩; clear hb hxl hs1 hs2) | (go_at_call 23; refine (eq45_c HS1.out HS2.out (by have := HXL.out; omega)).mono ?_; rintro e w22 ⟨rfl, hd⟩; have HB22 : Aside0 (Below w.heap.size w w22) := ⟨below_step HB21.out (drawn0_below hd)⟩; clear hd) | (go_at_call 12; refine awake12_c.mono ?_; rintro e w99 ⟨rfl, hb⟩; have HB99 : Aside0 (Below w.heap.size w w99) := ⟨below_step HB22.out hb⟩; clear hb))
     go_ret
     exact ⟨rfl, HB99.out⟩
end Go.Proofs.Ytohhobcipfmkbaa
