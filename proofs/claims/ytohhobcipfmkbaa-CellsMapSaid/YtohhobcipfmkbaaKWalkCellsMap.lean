/- Texts of this claim, cut to what it needs. -/
import Derived.Test.YtohhobcipfmkbaaKUStable
import Derived.Test.YtohhobcipfmkbaaKCRowDo
import Derived.Test.YtohhobcipfmkbaaKCStab2
set_option linter.unusedSimpArgs false
set_option linter.unusedVariables false
namespace Go.Proofs.Ytohhobcipfmkbaa
open Go.RowKit Go.Maps Go.Proofs.YtohhobcipfmkbaaW.PrintWords Go.Proofs.YtohhobcipfmkbaaW.PrintMore Go.Proofs.YtohhobcipfmkbaaW.PrintLast Go.Proofs.Ytohhobcipfmkbaa.U Go.Proofs.Ytohhobcipfmkbaa.PClusterFinest Go.Proofs.Ytohhobcipfmkbaa.UFinest Go.Proofs.Ytohhobcipfmkbaa.UGroups Go.Proofs.Ytohhobcipfmkbaa.UFinEv Go.Proofs.Ytohhobcipfmkbaa.UMap Go.Proofs.Ytohhobcipfmkbaa.Cel
open Go.Proofs.Ytohhobcipfmkbaa.CFin (cluS cluS_len)
open Go.Proofs.Ytohhobcipfmkbaa.CSort (check_c)
open Go.Proofs.Ytohhobcipfmkbaa.UWhole (mapOk check_true)
open Go.Proofs.Ytohhobcipfmkbaa.CRow (SDo DoC)
set_option maxRecDepth 100000 in
set_option maxHeartbeats 16000000 in
theorem cellsMapWalk (n : Int) (l : List SDo) (w : World) (hwn : (Lit.int .u8 n).wf = true) (A : Option Addr) (ca : Nat) (hr : DoC w A l) (hca : l.length ≤ ca) (hm : ca ≤ maxLen) :
 Calls Try.prog 11 #[.int .u8 n, .slice A l.length ca] w fun e w' => e = .returned (.bool true) ∧ Below w.heap.size w w' := by
 have HD := Aside0.mk hr
 have HM : Aside0 (l.length ≤ 9223372036854775807) := ⟨by have : maxLen = 9223372036854775807 := rfl; omega⟩
 have hn0 : 0 ≤ n ∧ n ≤ 255 := by
  unfold Lit.wf at hwn
  simp only [Bool.and_eq_true, decide_eq_true_eq] at hwn
  have e1 : IntKind.min .u8 = 0 := rfl
  have e2 : IntKind.max .u8 = 255 := rfl
  omega
 clear hr hca hm hwn
 go_enter Try.func11, Try.ntmps11
 obtain ⟨N, hN⟩ : ∃ N : Nat, n.tmod 30 = (N : Int) := ⟨(n.tmod 30).toNat, by have := Int.tmod_nonneg 30 hn0.1; omega⟩
 have HN : Aside0 (N ≤ 29) := ⟨by have := Int.tmod_lt_of_pos n (b := 30) (by decide); omega⟩
 have hwN : wrap64 (N : Int) = (N : Int) := w64 (by omega) (by have := HN.out; omega)
 clear hn0
 go_upto_region 2 with (fail)
 rw [hwN]
 go_upto_block 0 with (first | (go_at_call 13; refine (new_c N (by have := HN.out; omega)).mono ?_; rintro e w1 ⟨b, rfl, hc, hb⟩; have HC1 := Aside0.mk hc; have HB1 := Aside0.mk hb; clear hc hb))
 have HS1 : Aside0 (St (fun q => q < w.heap.size) w.heap.size w1 b N 0 (.slice none 0 0) []) := ⟨⟨List.replicate N [], [], fun q => w.heap.size ≤ q ∧ q < w1.heap.size, (fun q hq => ⟨Nat.not_lt.2 hq.1, hq.2, by simp [Value.ownBlock]⟩), HC1.out.bound, Few.zero N, (fun s hs => by cases hs), Kd.R_nil _ _ _ _ _⟩⟩
 clear HC1 hN hwN
 go_cut [8] (fun v8 wc => ∃ i : Nat, Aside0 (i ≤ 40) ∧ Aside0 (St (fun q => q < w.heap.size) w.heap.size wc b N i v8 []) ∧ Aside0 (Below w.heap.size w wc))
 case rest =>
  clear HS1 HB1 HD
  obtain ⟨i, HI, HS, HB⟩ := hcut
  obtain ⟨L, J, D, g1, g2, g3, g4, g5⟩ := HS.out
  rw [List.append_nil] at g2 g3 g4
  obtain ⟨Aj, cj, ej⟩ := Kd.R_slice g5
  subst ej
  obtain ⟨-, hcj, hCj⟩ := Kd.R_reads' g5
  obtain ⟨f1, f2, f3⟩ := g3
  have HLL : Aside0 (L.length ≤ 29) := ⟨by have := HN.out; omega⟩
  have HFL : Aside0 (L.flatten.length ≤ 160) := ⟨by have := HI.out; omega⟩
  have HJL : Aside0 (J.length ≤ 40) := ⟨by have := HI.out; omega⟩
  have HJC := Aside0.mk hCj
  have HC := Aside0.mk g2
  have HOK : Aside0 (∀ s ∈ J, OkS L.length s) := ⟨by rw [f1]; exact g4⟩
  subst f1
  clear g1 g2 g4 g5 hcj hCj f2 f3 HS HI
  obtain ⟨M, hM⟩ : ∃ M, M = L.flatten.length := ⟨_, rfl⟩
  have HMM := Aside0.mk hM; clear hM
  go_upto_region 24 with (first | (go_at_call 17; refine (text_c HC.out (by have := HLL.out; omega) (by have := HFL.out; omega)).mono ?_; rintro e w2 ⟨u2, rfl, hr, hb⟩; obtain ⟨At, ct, et⟩ := Kd.R_slice hr; rw [← HMM.out] at et; subst et; have HB2 := Aside0.mk hb; clear hr hb))
  go_loopw [12, 80] (fun v12 v80 wr => ∃ j : Nat, v80 = .int .i64 j ∧ j ≤ L.length ∧ v12 = .int .i64 ((L.take j).flatten.length : Nat) ∧ Aside0 (Below wc.heap.size wc wr)) (fun _ v _ => L.length - (intOf v).toNat)
  case atStart => exact ⟨0, rfl, Nat.zero_le _, rfl, HB2⟩
  case round =>
   clear HB2
   obtain ⟨j, rfl, hj, rfl, HB2⟩ := hrel
   by_cases hlj : j < L.length
   ·have hjI : (j : Int) < (L.length : Int) := by omega
    have hj29 : (j : Int) < 29 := by have := HLL.out; omega
    have et : (L.take (j + 1)).flatten.length = (L.take j).flatten.length + (Cel.rowAt L (j : Int)).length := by
     rw [List.take_succ_eq_append_getElem hlj, List.flatten_append, List.length_append]
     have : Cel.rowAt L (j : Int) = L[j] := by unfold Cel.rowAt; rw [dif_pos ⟨by omega, by omega⟩]; rfl
     rw [this]; simp
    have hle : (L.take (j + 1)).flatten.length ≤ 160 := Nat.le_trans (flat_le L (j + 1)) HFL.out
    obtain ⟨a1, ha1⟩ : ∃ a1, a1 = (L.take j).flatten.length := ⟨_, rfl⟩
    obtain ⟨a2, ha2⟩ : ∃ a2, a2 = (Cel.rowAt L (j : Int)).length := ⟨_, rfl⟩
    rw [← ha1, ← ha2] at et
    rw [← ha1]
    have hw : wrap64 ((a1 : Int) + (a2 : Int)) = ((a1 + a2 : Nat) : Int) := by rw [w64 (by omega) (by omega)]; omega
    have HA2 := Aside0.mk ha2
    have HET := Aside0.mk et
    have HLJ := Aside0.mk hlj
    clear ha1 ha2 et hle hlj hj
    go_wp2_with (first | (go_at_call 19; refine (at_any (HC.out.below HB2.out) (by have := HFL.out; omega) (j : Int)).mono ?_; rintro e w3 ⟨u3, rfl, hr, hb⟩; obtain ⟨Ar, cr, er, -⟩ := hr; subst er; rw [← HA2.out]; have HB3 : Aside0 (Below wc.heap.size wc w3) := ⟨below_step HB2.out hb⟩; clear hb))
    exact ⟨⟨j + 1, by go_num, by have := HLJ.out; omega, by rw [HET.out]; first | rfl | rw [hw], HB3⟩, by have := HLJ.out; simp [intOf]; omega⟩
   ·obtain rfl : j = L.length := by omega
    clear hlj hj
    rw [List.take_length, ← HMM.out]
    have HBW2 : Aside0 (Below w.heap.size w wr) := ⟨below_step HB.out HB2.out⟩
    rcases Nat.eq_zero_or_pos M with e0 | e0
    ·subst e0
     by_cases hn : 0 < L.length
     ·have hnI : (0 : Int) < (L.length : Int) := by omega
      have HN0 := Aside0.mk hn; clear hn
      go_wp2_with (first | (go_at_call 21; refine (clu_one (HC.out.below HB2.out) (by have := HLL.out; omega) (by have := HJL.out; omega) (by have := HFL.out; omega)).mono ?_; rintro e w3 ⟨u3, r3, rfl, hb, hc⟩; obtain rfl : r3 = 8 := (hc.elim (fun h => by rw [h.2, if_pos HN0.out]) (fun h => absurd h.1 (by rw [← HMM.out]; exact Nat.lt_irrefl 0))); have HB3 : Aside0 (Below w.heap.size w w3) := ⟨below_step HBW2.out hb⟩; clear hb hc) | (go_at_call 12; refine awake12_c.mono ?_; rintro e w99 ⟨rfl, hb⟩; have HB99 : Aside0 (Below w.heap.size w w99) := ⟨below_step HB3.out hb⟩; clear hb))
      go_ret
      exact ⟨rfl, HB99.out⟩
     ·obtain rfl : L = [] := List.eq_nil_of_length_eq_zero (by omega)
      clear hn
      rw [List.length_nil]
      go_wp2_with (first | (go_at_call 21; refine (clu_one (HC.out.below HB2.out) (by have := HLL.out; omega) (by have := HJL.out; omega) (by have := HFL.out; omega)).mono ?_; rintro e w3 ⟨u3, r3, rfl, hb, hc⟩; obtain rfl : r3 = 0 := (hc.elim (fun h => h.2) (fun h => absurd h.1 (by rw [← HMM.out]; exact Nat.lt_irrefl 0))); have HB3 : Aside0 (Below w.heap.size w w3) := ⟨below_step HBW2.out hb⟩; clear hb hc) | (go_at_call 12; refine awake12_c.mono ?_; rintro e w99 ⟨rfl, hb⟩; have HB99 : Aside0 (Below w.heap.size w w99) := ⟨below_step HB3.out hb⟩; clear hb))
      go_ret
      exact ⟨rfl, HB99.out⟩
    ·have HM0 := Aside0.mk e0
     have e0I : ¬ (M : Int) = 0 := by omega
     clear e0
     go_upto_region 36 with (first | (go_at_call 21; refine (clu_one (HC.out.below HB2.out) (by have := HLL.out; omega) (by have := HJL.out; omega) (by have := HFL.out; omega)).mono ?_; rintro e w3 ⟨u3, r3, rfl, hb, hc⟩; obtain ⟨-, hn0, rfl, A3, hf, hs⟩ := hc.resolve_left (fun h => absurd h.1 (by have := HM0.out; have := HMM.out; omega)); have HN0 := Aside0.mk hn0; have HF := Aside0.mk hf; have HSL := Aside0.mk hs; have HB3 : Aside0 (Below w.heap.size w w3) := ⟨below_step HBW2.out hb⟩; have HB33 : Aside0 (Below wc.heap.size wc w3) := ⟨below_step HB2.out hb⟩; clear hb hn0 hf hs) | (go_at_call 29; refine (check_c (L.length : Int) (M : Int) HSL.out (by have h1 := cluS_len L.length L.flatten.length A3 L.length; have := HLL.out; omega)).mono ?_; rintro e w4 ⟨d, hp, hso, rfl, hb⟩; have hck := check_true (mapOk HF.out HN0.out (by rw [← HMM.out]; exact HM0.out) (links_right HN0.out (by rw [← HMM.out]; exact HM0.out) (by have := HLL.out; omega) (by have := HFL.out; omega))) d hp hso; rw [← HMM.out] at hck; rw [← HMM.out, hck]; have HB4 : Aside0 (Below w.heap.size w w4) := ⟨below_step HB3.out hb⟩; have HB44 : Aside0 (Below wc.heap.size wc w4) := ⟨below_step HB33.out hb⟩; have HS4 := Aside0.mk (SLk.below HSL.out hb); clear hb hp hso hck))
     have HJ4 := Aside0.mk (Kd.C_below HJC.out HB44.out)
     go_loopw [122] (fun v wr => ∃ j : Nat, v = .int .i64 j ∧ j ≤ J.length ∧ Aside0 (Below w4.heap.size w4 wr)) (fun v _ => J.length - (intOf v).toNat)
     case atStart => exact ⟨0, rfl, Nat.zero_le _, ⟨Below.refl _ _⟩⟩
     case round =>
      obtain ⟨j, rfl, hj, HB5⟩ := hrel
      by_cases hlj : j < J.length
      ·have hjI : (j : Int) < (J.length : Int) := by omega
       have hj40 : (j : Int) < 40 := by have := HJL.out; omega
       obtain ⟨ad, ead, c0, c1⟩ := at_T33 (Kd.C_below HJ4.out HB5.out) (j : Int) (by omega) (by omega)
       rw [CFin.rd33 hlj, Int.toNat_natCast] at c0 c1
       have HAN : Aside0 ((cluS L.length L.flatten.length A3 L.length).any (holds ⟨(J[j]).f0, (J[j]).f1⟩) = true) := ⟨joined_within HF.out HN0.out (by rw [← HMM.out]; exact HM0.out) (by have := HLL.out; omega) (by have := HFL.out; omega) (List.getElem_mem hlj) (HOK.out _ (List.getElem_mem hlj))⟩
       generalize (J[j]).f0 = lo at c0 HAN
       generalize (J[j]).f1 = hi at c1 HAN
       subst ead
       have HLJ := Aside0.mk hlj
       clear hlj hj
       go_upto_region 38 with (first | ((with_reducible refine gate_dst (N := 17) rfl ?_); refine box_event ?hg (N := 17) ?hd (cs := #[.int .i64 0, .int .i64 0]) (t := 33) ?hr ?_; (case hd => rfl); (case hg => rfl); (case hr => first | (go_simp; done) | (go_simp; rfl)); intro gs hg w6 hbox hb; have HXb := Aside0.mk hbox; have HGE : Aside0 (w4.heap.size ≤ gs) := ⟨by rw [hg]; exact HB5.out.size⟩; have HB6 : Aside0 (Below w4.heap.size w4 w6) := ⟨below_step HB5.out hb⟩; have z0 : w6.cell? ⟨gs, 0, none⟩ = some (.int .i64 0) := (blk_cell hbox 0).trans rfl; have f0 := blk_frozen hbox 0; have z1 : w6.cell? ⟨gs, 1, none⟩ = some (.int .i64 0) := (blk_cell hbox 1).trans rfl; have f1 := blk_frozen hbox 1; have c0 := (hb.cell (World.block_lt_of_cell? _ _ c0)).trans c0; have c1 := (hb.cell (World.block_lt_of_cell? _ _ c1)).trans c1; clear hg hbox hb))
       have HYb := Aside0.mk (blk_put (blk_put HXb.out 0 (.int .i64 lo) rfl) 1 (.int .i64 hi) rfl)
       have HGb := Aside0.mk (World.grownBy.trans (grown_set w6 gs 0 (.int .i64 lo)) (grown_set _ gs 1 (.int .i64 hi)))
       generalize (w6.setCell ⟨gs, 0, none⟩ (.int .i64 lo)).setCell ⟨gs, 1, none⟩ (.int .i64 hi) = w7 at HYb HGb ⊢
       have HB7 : Aside0 (Below w4.heap.size w4 w7) := ⟨HB6.out.grown HGb.out HB6.out.size (fun j hj => by obtain rfl := Option.some.inj hj; exact HGE.out)⟩
       clear z0 f0 z1 f1 c0 c1 HXb
       go_wp2_with (first | (go_at_call 40; refine (contains_c (SLk.below HS4.out HB7.out) (by have h1 := cluS_len L.length L.flatten.length A3 L.length; have := HLL.out; omega) HYb.out HAN.out).mono ?_; rintro e w8 ⟨rfl, hb⟩; have HB8 : Aside0 (Below w4.heap.size w4 w8) := ⟨below_step HB7.out hb⟩; clear hb))
       exact ⟨⟨j + 1, by go_num, by have := HLJ.out; omega, HB8⟩, by have := HLJ.out; simp [intOf]; omega⟩
      ·obtain rfl : j = J.length := by omega
       clear hlj hj
       have HB5 : Aside0 (Below w.heap.size w wr) := ⟨below_step HB4.out HB5.out⟩
       go_wp2_with (go_at_call 12; refine awake12_c.mono ?_; rintro e w99 ⟨rfl, hb⟩; have HB99 : Aside0 (Below w.heap.size w w99) := ⟨below_step HB5.out hb⟩; clear hb)
       go_ret
       exact ⟨rfl, HB99.out⟩
 go_wp2_with fail
 go_loopw [8, 34] (fun v8 v34 wr => ∃ i : Nat, v34 = .int .i64 i ∧ i ≤ l.length ∧ i ≤ 40 ∧ Aside0 (St (fun q => q < w.heap.size) w.heap.size wr b N i v8 []) ∧ Aside0 (Below w.heap.size w wr)) (fun _ v _ => l.length - (intOf v).toNat)
 case atStart => exact ⟨0, rfl, Nat.zero_le _, Nat.zero_le _, HS1, HB1⟩
 case round =>
  clear HS1 HB1
  obtain ⟨i, rfl, hi, hi40, HS, HB⟩ := hrel
  have HI := Aside0.mk hi40; clear hi40
  by_cases hli : i < l.length
  ·have hiI : (i : Int) < (l.length : Int) := by omega
   obtain ⟨k, hk⟩ : ∃ k, k = l[i] := ⟨_, rfl⟩
   obtain ⟨ad, Ak, ck, ead, c0, c1, c2, c3, c4, hs⟩ := HD.out i hli
   rw [← hk] at c0 c1 c2 c3 c4 hs
   have HSK := Aside0.mk hs
   clear hk hs
   subst ead
   have c0 := (HB.out.cell (World.block_lt_of_cell? _ _ c0)).trans c0
   have c1 := (HB.out.cell (World.block_lt_of_cell? _ _ c1)).trans c1
   have c2 := (HB.out.cell (World.block_lt_of_cell? _ _ c2)).trans c2
   have c3 := (HB.out.cell (World.block_lt_of_cell? _ _ c3)).trans c3
   have c4 := (HB.out.cell (World.block_lt_of_cell? _ _ c4)).trans c4
   go_upto_region 9 with (first | ((with_reducible refine gate_dst (N := 10) rfl ?_); refine box_event ?hg (N := 10) ?hd (cs := #[.int .i64 0, .int .i64 0, .slice none 0 0, .int .i64 0, .int .i64 0]) (t := 35) ?hr ?_; (case hd => rfl); (case hg => rfl); (case hr => first | (go_simp; done) | (go_simp; rfl)); intro gb hg w3 hbox hb; have HXb := Aside0.mk hbox; have HGE : Aside0 (wr.heap.size ≤ gb ∧ gb < w3.heap.size) := ⟨by rw [hg]; exact Nat.le_refl _, blk_lt hbox⟩; have HBW := Aside0.mk hb; have HBB : Aside0 (Below w.heap.size w w3) := ⟨below_step HB.out hb⟩; have z0 : w3.cell? ⟨gb, 0, none⟩ = some (.int .i64 0) := (blk_cell hbox 0).trans rfl; have f0 := blk_frozen hbox 0; have z1 : w3.cell? ⟨gb, 1, none⟩ = some (.int .i64 0) := (blk_cell hbox 1).trans rfl; have f1 := blk_frozen hbox 1; have z2 : w3.cell? ⟨gb, 2, none⟩ = some (.slice none 0 0) := (blk_cell hbox 2).trans rfl; have f2 := blk_frozen hbox 2; have z3 : w3.cell? ⟨gb, 3, none⟩ = some (.int .i64 0) := (blk_cell hbox 3).trans rfl; have f3 := blk_frozen hbox 3; have z4 : w3.cell? ⟨gb, 4, none⟩ = some (.int .i64 0) := (blk_cell hbox 4).trans rfl; have f4 := blk_frozen hbox 4; have c0 := (hb.cell (World.block_lt_of_cell? _ _ c0)).trans c0; have c1 := (hb.cell (World.block_lt_of_cell? _ _ c1)).trans c1; have c2 := (hb.cell (World.block_lt_of_cell? _ _ c2)).trans c2; have c3 := (hb.cell (World.block_lt_of_cell? _ _ c3)).trans c3; have c4 := (hb.cell (World.block_lt_of_cell? _ _ c4)).trans c4; clear hg hbox hb))
   have HYb := Aside0.mk (blk_put (blk_put (blk_put (blk_put (blk_put HXb.out 0 (.int .i64 k.op) rfl) 1 (.int .i64 k.at_) rfl) 2 (.slice Ak k.codes.length ck) rfl) 3 (.int .i64 k.lo) rfl) 4 (.int .i64 k.hi) rfl)
   have HGb := Aside0.mk (World.grownBy.trans (World.grownBy.trans (World.grownBy.trans (World.grownBy.trans (grown_set w3 gb 0 (.int .i64 k.op)) (grown_set _ gb 1 (.int .i64 k.at_))) (grown_set _ gb 2 (.slice Ak k.codes.length ck))) (grown_set _ gb 3 (.int .i64 k.lo))) (grown_set _ gb 4 (.int .i64 k.hi)))
   generalize ((((w3.setCell ⟨gb, 0, none⟩ (.int .i64 k.op)).setCell ⟨gb, 1, none⟩ (.int .i64 k.at_)).setCell ⟨gb, 2, none⟩ (.slice Ak k.codes.length ck)).setCell ⟨gb, 3, none⟩ (.int .i64 k.lo)).setCell ⟨gb, 4, none⟩ (.int .i64 k.hi) = w4 at HYb HGb ⊢
   clear z0 f0 c0 z1 f1 c1 z2 f2 c2 z3 f3 c3 z4 f4 c4 HXb
   have x0 := (blk_cell HYb.out 0).trans rfl
   have x1 := (blk_cell HYb.out 1).trans rfl
   have x2 := (blk_cell HYb.out 2).trans rfl
   have x3 := (blk_cell HYb.out 3).trans rfl
   have x4 := (blk_cell HYb.out 4).trans rfl
   have HBC : Aside0 (Below w.heap.size w w4) := ⟨HBB.out.grown HGb.out HBB.out.size (fun j hj => by obtain rfl := Option.some.inj hj; exact Nat.le_trans HB.out.size HGE.out.1)⟩
   obtain ⟨F3, hF3⟩ : ∃ F3 : Nat → Prop, F3 = fun q => q < w.heap.size ∨ (wr.heap.size ≤ q ∧ q < w3.heap.size) := ⟨_, rfl⟩
   have HGF : Aside0 (F3 gb) := ⟨by rw [hF3]; exact .inr HGE.out⟩
   have HS4 : Aside0 (St F3 w.heap.size w4 b N i u8 []) := ⟨by rw [hF3]; exact (HS.out.grow HBW.out).kept (Kept.of_grown HGb.out (Kept.refl w3 (fun q => q = gb)) (fun q e => .inl (Option.some.inj e).symm)) (fun q hq => .inl (by rw [hq]; exact .inr HGE.out)) (fun q hq e => by rw [hq] at e; obtain ⟨L, J, D, -, -, -, -, h5⟩ := HS.out; exact Nat.not_lt.2 HGE.out.1 (Kd.R_lt h5 gb e.symm))⟩
   have HF4 : Aside0 (∀ q, F3 q → q < w4.heap.size) := ⟨fun q hq => by rw [hF3] at hq; exact Nat.lt_of_lt_of_le (hq.elim (fun h => Nat.lt_of_lt_of_le h (Nat.le_trans HB.out.size HBW.out.size)) (fun h => h.2)) HGb.out.size⟩
   have HSUB : Aside0 (∀ q, q < w.heap.size → F3 q) := ⟨fun q hq => by rw [hF3]; exact .inl hq⟩
   have HK4 : Aside0 (SL w4 (.slice Ak k.codes.length ck) k.codes) := ⟨SLk.below HSK.out HBC.out⟩
   clear hF3 HBB HBW
   by_cases h3 : (i : Int) ≥ 40
   ·clear hli
    go_wp2_with fail
    go_meet
    exact ⟨_, HI, ⟨HS4.out.mono HSUB.out⟩, HBC⟩
   ·by_cases h4 : (k.codes.length : Int) > 4
    ·clear hli
     go_wp2_with fail
     go_meet
     exact ⟨_, HI, ⟨HS4.out.mono HSUB.out⟩, HBC⟩
    ·have hk4 : k.codes.length ≤ 4 := by omega
     have HKL := Aside0.mk hk4
     clear hk4 HSK
     obtain ⟨op, hop⟩ : ∃ op, op = k.op := ⟨_, rfl⟩
     rw [← hop] at x0
     clear hop
     have hz : op = 0 ∨ op = 1 ∨ op = 2 ∨ op = 3 ∨ op = 4 ∨ (¬ op = 0 ∧ ¬ op = 1 ∧ ¬ op = 2 ∧ ¬ op = 3 ∧ ¬ op = 4) := by omega
     rcases hz with rfl | rfl | rfl | rfl | rfl | ⟨n0, n1, n2, n3, n4⟩
     ·go_wp2_with (first | (go_at_call 24; refine (set_one HF4.out HS4.out (by have := HI.out; omega) (by have := HN.out; omega) k.at_ HK4.out HKL.out).mono ?_; rintro e w5 ⟨r, rfl, hs, he⟩; have HS5 := Aside0.mk hs; have HE5 := Aside0.mk he; clear hs he))
      exact ⟨⟨i + 1, by go_num, by omega, by omega, ⟨HS5.out.mono HSUB.out⟩, ⟨((Eff.of_below HBC.out (fun q => w.heap.size ≤ q)).then_ HE5.out (fun q hq => .inl (Nat.not_lt.1 (fun h => hq (HSUB.out q h))))).below (Nat.le_refl _) (fun q h => h)⟩⟩, by simp [intOf]; omega⟩
     ·go_wp2_with (first | (go_at_call 24; refine (set_one HF4.out HS4.out (by have := HI.out; omega) (by have := HN.out; omega) k.at_ HK4.out HKL.out).mono ?_; rintro e w5 ⟨r, rfl, hs, he⟩; have HS5 := Aside0.mk hs; have HE5 := Aside0.mk he; clear hs he))
      exact ⟨⟨i + 1, by go_num, by omega, by omega, ⟨HS5.out.mono HSUB.out⟩, ⟨((Eff.of_below HBC.out (fun q => w.heap.size ≤ q)).then_ HE5.out (fun q hq => .inl (Nat.not_lt.1 (fun h => hq (HSUB.out q h))))).below (Nat.le_refl _) (fun q h => h)⟩⟩, by simp [intOf]; omega⟩
     ·go_wp2_with (first | (go_at_call 24; refine (set_one HF4.out HS4.out (by have := HI.out; omega) (by have := HN.out; omega) k.at_ HK4.out HKL.out).mono ?_; rintro e w5 ⟨r, rfl, hs, he⟩; have HS5 := Aside0.mk hs; have HE5 := Aside0.mk he; clear hs he))
      exact ⟨⟨i + 1, by go_num, by omega, by omega, ⟨HS5.out.mono HSUB.out⟩, ⟨((Eff.of_below HBC.out (fun q => w.heap.size ≤ q)).then_ HE5.out (fun q hq => .inl (Nat.not_lt.1 (fun h => hq (HSUB.out q h))))).below (Nat.le_refl _) (fun q h => h)⟩⟩, by simp [intOf]; omega⟩
     ·go_wp2_with (first | (go_at_call 24; refine (set_one HF4.out HS4.out (by have := HI.out; omega) (by have := HN.out; omega) k.at_ HK4.out HKL.out).mono ?_; rintro e w5 ⟨r, rfl, hs, he⟩; have HS5 := Aside0.mk hs; have HE5 := Aside0.mk he; clear hs he))
      exact ⟨⟨i + 1, by go_num, by omega, by omega, ⟨HS5.out.mono HSUB.out⟩, ⟨((Eff.of_below HBC.out (fun q => w.heap.size ≤ q)).then_ HE5.out (fun q hq => .inl (Nat.not_lt.1 (fun h => hq (HSUB.out q h))))).below (Nat.le_refl _) (fun q h => h)⟩⟩, by simp [intOf]; omega⟩
     ·go_wp2_with (first | (go_at_call 25; refine (ahead_one HF4.out HS4.out (by have := HI.out; omega) (by have := HN.out; omega) HK4.out HKL.out).mono ?_; rintro e w5 ⟨r, rfl, hs, he⟩; have HS5 := Aside0.mk hs; have HE5 := Aside0.mk he; clear hs he))
      exact ⟨⟨i + 1, by go_num, by omega, by omega, ⟨HS5.out.mono HSUB.out⟩, ⟨((Eff.of_below HBC.out (fun q => w.heap.size ≤ q)).then_ HE5.out (fun q hq => .inl (Nat.not_lt.1 (fun h => hq (HSUB.out q h))))).below (Nat.le_refl _) (fun q h => h)⟩⟩, by simp [intOf]; omega⟩
     ·by_cases hok : OkS N ⟨k.lo, k.hi⟩
      ·have HOK := Aside0.mk hok
       clear hok
       go_wp2_with (first | (go_at_call 27; refine (join_yes HF4.out HS4.out (by have := HI.out; omega) k.lo k.hi HOK.out).mono ?_; rintro e w5 ⟨rfl, hs, he⟩; obtain ⟨L5, J5, D5, g1, g2, g3, g4, g5⟩ := hs; have HG1 := Aside0.mk g1; have HG2 := Aside0.mk g2; have HG3 := Aside0.mk g3; have HG4 := Aside0.mk g4; have HG5 := Aside0.mk g5; have HE5 := Aside0.mk he; have HYb5 : Aside0 (w5.heap[gb]? = some (.cells #[.int .i64 k.op, .int .i64 k.at_, .slice Ak k.codes.length ck, .int .i64 k.lo, .int .i64 k.hi] 35 (0, 0))) := ⟨blk_kept HYb.out he.kept (fun hh => hh HGF.out)⟩; have x3 := (blk_cell HYb5.out 3).trans rfl; have x4 := (blk_cell HYb5.out 4).trans rfl; have HB5 : Aside0 (Below w.heap.size w w5) := ⟨((Eff.of_below HBC.out (fun q => w.heap.size ≤ q)).then_ he (fun q hq => .inl (Nat.not_lt.1 (fun h => hq (HSUB.out q h))))).below (Nat.le_refl _) (fun q h => h)⟩; clear he g1 g2 g3 g4 g5) | ((with_reducible refine gate_builtin (b := .append) (xs := #[.tmp 54, .tmp 57]) rfl ?_); at_builtin; refine Kd.R_append k33 (w0 := w) w.heap.size rfl (.tmp 54) (.tmp 57) 49 33 (.agg #[(.int .i64 0), (.int .i64 0)]) 16 rfl Try.underlying49 CFin.info33 rfl (by decide) (by omega) u8 J5 (⟨k.lo, k.hi⟩ : S33) [.int .i64 k.lo, .int .i64 k.hi] (fun _ => True) (fun _ => False) rfl rfl ?aP (fun _ hk => hk.elim) ?aF ?aO ?aB ?aS ?aL ?_; (case aP => exact k33_mkM _ _ _ (⟨k.lo, k.hi⟩ : S33)); (case aB => exact (by repeat (first | (with_reducible first | exact HB5.out | apply below_alloc | apply pw_below_drewN | apply below_drew1) | exact HB5.out))); (case aF => exact (fun _ _ => trivial)); (case aO => exact (by (with_reducible repeat (first | apply Kd.R_alloc | apply Kd.R_drewN | apply Kd.R_drew)); exact HG5.out)); (case aS => exact (below_size (by repeat (first | (with_reducible first | exact HB5.out | apply below_alloc | apply pw_below_drewN | apply below_drew1) | exact HB5.out)))); (case aL => have h1 := HG3.out.2.2; have h2 := HI.out; rw [List.length_append] at h1; omega); intro v6 w6 ho hb hg hat; have HO6 := Aside0.mk ho; have HB6 := Aside0.mk hb; have HGR := Aside0.mk hg; have HAT := Aside0.mk hat; clear ho hb hg hat))
       have HP6 : Aside0 (St F3 w.heap.size w6 b _ (i + 1) v6 []) := ⟨St.put HG1.out HG2.out HG3.out HG4.out HO6.out HGR.out HAT.out⟩
       exact ⟨⟨i + 1, by go_num, by omega, by omega, ⟨HP6.out.mono HSUB.out⟩, HB6⟩, by simp [intOf]; omega⟩
      ·have HOK := Aside0.mk hok
       clear hok
       go_wp2_with (first | (go_at_call 27; refine (join_no HS4.out k.lo k.hi HOK.out).mono ?_; rintro e w5 ⟨rfl, hs, he⟩; have HS5 := Aside0.mk hs; have HE5 := Aside0.mk he; clear hs he))
       exact ⟨⟨i + 1, by go_num, by omega, by omega, ⟨HS5.out.mono HSUB.out⟩, ⟨((Eff.of_below HBC.out (fun q => w.heap.size ≤ q)).then_ HE5.out (fun q hq => .inl (Nat.not_lt.1 (fun h => hq (HSUB.out q h))))).below (Nat.le_refl _) (fun q h => h)⟩⟩, by simp [intOf]; omega⟩
  ·obtain rfl : i = l.length := by omega
   clear hli
   go_wp2_with fail
   go_meet
   exact ⟨_, HI, HS, HB⟩
end Go.Proofs.Ytohhobcipfmkbaa
