/- Cut. -/
import Derived.Test.YtemhccjjcioodaaGreatKCBase
import Derived.Outline
import Derived.Test.YtemhccjjcioodaaGreatKPEmbedJoinsx0
import Derived.Test.YtemhccjjcioodaaGreatProg
import Derived.Below
import Derived.Deep.Draws
import Derived.Deep.AppendLies
import Derived.Maps.AppendAt
import Derived.OwnWalk
import Derived.Laws.BytesArg
import Derived.Laws.MakeOwn
import Derived.Laws.OwnMore
import Derived.Deep.OwnRows
import Derived.Tactics
import Derived.Lib.ConvBytes
import Derived.Laws.Slices
import Derived.WalkKit
import Derived.KernelRfl
import Derived.RowKit3
import Derived.Deep.LoopGhost
import Derived.Deep.QuietTactic
import Derived.BigQuiet
import Derived.WideLaws
import Derived.Deep.DeepCutAuto
import Derived.Deep.CutBlock
import Derived.Deep.RegionHeld3
import Derived.Laws.Rows
import Derived.Lib.AppendStr
import Derived.ArgAppend
import Derived.Laws.IdiomCopy
import Derived.OrdersHeld
import Derived.Laws.BitsLemmas
import Derived.RowKit
import Derived.Test.YtemhccjjcioodaaGreatKWWords
import Derived.Test.YtemhccjjcioodaaGreatKWMore
import Derived.Test.YtemhccjjcioodaaGreatKAl
set_option linter.unusedSimpArgs false
set_option linter.unusedVariables false
set_option maxRecDepth 100000
set_option maxHeartbeats 16000000
namespace Go.Proofs.YtemhccjjcioodaaGreat
open Go.RowKit YtemhccjjcioodaaGreatW.PrintLast YtemhccjjcioodaaGreatW.PrintMore YtemhccjjcioodaaGreatW.PrintWords
section
namespace CTrie
open U CBase UTrie PEmbedJoins
theorem rd127_get {l : List S127} {i : Nat} (h : i < l.length) : rd_T127 l (i : Int) = l[i] := by
 show l.getD i z127 = _
 rw [qgD, qgG h]; rfl
theorem may_loop (l : List S127) (ok : Ok l) (hm : l.length ≤ 4096) (n : Nat) : ∀ (i : Nat) (last : Int), i + n = l.length → (∀ (h : i < l.length), last < l[i].f0) → Ev (fun k => trie_may.l0 k last l (l.length : Int) i) 0 := by
 induction n with
 | zero =>
  intro i last hi _
  refine Ev.step (fun k => by rw [trie_may.l0]) ?_
  exact ev_neg (by omega) (ev_now _)
 | succ n ih =>
  intro i last hi hl
  have hlt : i < l.length := by omega
  have hr := ok.right _ (List.getElem_mem hlt)
  have hll := hl hlt
  refine Ev.step (fun k => by rw [trie_may.l0]) (ev_pos (by omega) (ev_pos (by omega) (ev_pos (by omega) ?_)))
  rw [rd127_get hlt]
  refine ev_neg (by omega) (ev_neg (by omega) (ev_neg (by omega) ?_))
  rw [w64 (by omega) (by omega)]
  exact ih (i + 1) _ (by omega) (fun h => lo_behind l ok i (i + 1) hlt h (by omega))
theorem may_ev (l : List S127) (ok : Ok l) (hm : l.length ≤ 4096) : Ev (fun k => trie_may.f k l) 0 := by
 refine ev_neg (by omega) ?_
 exact may_loop l ok hm l.length 0 (-1) (by omega) (fun h => by have := ok.right _ (List.getElem_mem h); omega)
section
variable {o : Oper} {rest : List Oper} {ops : Array Oper} {a : Act} {Q : Exit → Act → World → Prop} {w : World}
theorem arr_load_armG {g : Nat} {xs : List Int} (hw : Region.wanted o (yielded ops a.tmps) = true) (x : Operand) (ho : o.op = .load 146 x) (hx : a.eval x = .pointer (some ⟨g, 0, none⟩)) (h : Arr w g xs) (hl : xs.length = 128)
 (hk : wpList Tryz.prog ops Q rest (a.put o.dst (.agg (vs xs))) w) : wpList Tryz.prog ops Q (o :: rest) a w := by
 refine wpList_step fun K hK => ?_
 rw [if_pos hw]
 unfold Oper.wp
 rw [exec_load x ho hx (arr_load h hl)]
 exact hK _ _ hk
theorem exec_neq (w : World) (x y : Operand) (t : TypeId) (ho : o.op = .binOp .neq 146 x y t) {xs ys : List Int} (hx : a.eval x = .agg (vs xs)) (hy : a.eval y = .agg (vs ys)) (hl : xs.length = 128) (hl2 : ys.length = 128) :
 (execOp a.eval o).run Tryz.prog w = .ok (.value (.bool (!(xs == ys)))) w := by
 have hn : (binOp .neq 146 (.agg (vs xs)) (.agg (vs ys))).run Tryz.prog w = .ok (.bool (!(xs == ys))) w := by
  rw [run_neq_struct, run_equalIn_ints w 9998 xs ys hl hl2]
  rfl
 unfold execOp
 simp [ho, hx, hy, eqGuard, guard122, hn]
theorem arr_neq_armG {xs ys : List Int} (hw : Region.wanted o (yielded ops a.tmps) = true) (x y : Operand) (t : TypeId) (ho : o.op = .binOp .neq 146 x y t) (hx : a.eval x = .agg (vs xs)) (hy : a.eval y = .agg (vs ys)) (hl : xs.length = 128) (hl2 : ys.length = 128)
 (hk : wpList Tryz.prog ops Q rest (a.put o.dst (.bool (!(xs == ys)))) w) : wpList Tryz.prog ops Q (o :: rest) a w := by
 refine wpList_step fun K hK => ?_
 rw [if_pos hw]
 unfold Oper.wp
 rw [exec_neq w x y t ho hx hy hl hl2]
 exact hK _ _ hk
end
theorem exec_store {o : Oper} {a : Act} {w : World} {g : Nat} {old ys : List Int} (x y : Operand) (ho : o.op = .store 146 x y) (hx : a.eval x = .pointer (some ⟨g, 0, none⟩)) (hy : a.eval y = .agg (vs ys)) (h : Arr w g old) (hl : old.length = 128) (hl2 : ys.length = 128) :
 (execOp a.eval o).run Tryz.prog w = .ok .skip (w.setRow g (vs ys)) := by
 have hst : (storeVar 146 ⟨g, 0, none⟩ (.agg (vs ys))).run Tryz.prog w = .ok () (w.setRow g (vs ys)) :=
  run_storeVar_row w g 146 146 (vs old) (vs ys) h (by rw [info122, vs_size, hl2]) (by rw [vs_size, vs_size, hl, hl2]) (by simp [vs, Value.oneCell'])
 unfold execOp
 simp [ho, hx, hy, Instr.storeAt, Instr.sureAddr, hst]
theorem grown_setRow (w : World) (g : Nat) (cs : Array Value) : w.grownBy (w.setRow g cs) (some g) := ⟨rfl, rfl, rfl, by simp, fun k _ hne => setRow_other w g k _ (fun e => hne (by rw [e]))⟩
theorem tab_next {l : List S127} {n : Int} {first : List Int} {second sec2 : List (List Int)} {p i : Nat} (h : Tab l n first second p) (hp : p < 8704) (hs : sec2 = second ∨ sec2 = second ++ [blockL l n p]) (hi : i < sec2.length) (hb : sec2.getD i [] = blockL l n p) : Tab l n (first.set p i) sec2 (p + 1) := by
 refine ⟨by rw [List.length_set]; exact h.len, ?_, fun q hq => ?_⟩
 ·have := h.small
  rcases hs with rfl | rfl
  ·omega
  ·simp; omega
 ·by_cases e : q = p
  ·subst e
   refine ⟨i, hi, ?_, hb⟩
   rw [qgD, List.getElem?_set_self (by rw [h.len]; exact hp)]
   rfl
  ·obtain ⟨j, hj, h1, h2⟩ := h.each q (by omega)
   refine ⟨j, ?_, ?_, ?_⟩
   ·rcases hs with rfl | rfl
    ·exact hj
    ·simp; omega
   ·rw [qgD, List.getElem?_set_ne (by omega), ← qgD]
    exact h1
   ·rcases hs with rfl | rfl
    ·exact h2
    ·rw [qgD, List.getElem?_append_left hj, ← qgD]
     exact h2
def Table (w : World) (l : List S127) (n : Int) (gt : Nat) : Prop := ∃ (vf v2 : Value) (first : List Int) (second : List (List Int)), w.heap[gt]? = some (.cells (tabCells vf v2 n) 144 (0, 0)) ∧ SLk (Kd.int .i64) w vf first ∧ SLk kb w v2 second ∧ Tab l n first second 8704
theorem build_c {w : World} {v : Value} {l : List S127} (n : Int) (h : SLk k127 w v l) (ok : Ok l) (hm : l.length ≤ 4096) :
 Calls Tryz.prog 52 #[v, .int .i64 n] w fun e w' => ∃ gt : Nat, e = .returned (.tuple #[.pointer (some ⟨gt, 0, none⟩), .int .i64 0]) ∧ w.heap.size ≤ gt ∧ Table w' l n gt ∧ Below w.heap.size w w' := by
 have H := aMk h
 have HOK := aMk ok
 have HM := aMk hm
 obtain ⟨A, c, rfl, hc, hC⟩ := h
 obtain ⟨nm, hnm⟩ := (may_ev l ok hm).rounds
 have hz : Tryz.zeroCells146 = vs (evenL 0) := by kernel_rfl
 have HZ := aMk hz
 clear hz ok
 go_enter Tryz.func52, Tryz.ntmps52
 go_wp2_with fail
 refine (trie_may.calls nm A c l 0 w hC hc hnm).mono ?_
 rintro e w1 ⟨rfl, hb⟩
 have HB1 := aMk hb
 clear hb hC hc hnm
 have HT0 : Aside0 ((w1.alloc (.cells (tabCells (.slice none 0 0) (.slice none 0 0) n) 144)).heap[w1.heap.size]? = some (.cells (tabCells (.slice none 0 0) (.slice none 0 0) n) 144 (0, 0))) := ⟨blk_new w1 _⟩
 have HBa := aMk (qbA HB1.out (.cells (tabCells (.slice none 0 0) (.slice none 0 0) n) 144))
 have HGT : Aside0 (w.heap.size ≤ w1.heap.size) := ⟨HB1.out.size⟩
 have HSZ : Aside0 (w1.heap.size < (w1.alloc (.cells (tabCells (.slice none 0 0) (.slice none 0 0) n) 144)).heap.size) := ⟨blk_lt HT0.out⟩
 go_wp2_with (first | (refine Kd.R_make (Kd.int .i64) (w0 := w) w.heap.size 3 rfl (N := 22) rfl 22 _ _ rfl 8704 rfl rfl Tryz.underlying22 (.int .i64 0) 8 CSlices.info3 rfl (by decide) (by omega) 0 (ok := fun _ => True) (okp := fun _ => True) rfl (fun _ hk => hk) trivial (by omega) (by omega) HBa.out HBa.out.size ?_; intro vf w2 hv hb hg hnew; obtain ⟨gf, cap, ev, hgf⟩ := R_form hv (hnew.imp fun _ h => h.1); subst ev; have HNW : Aside0 ((w1.alloc (.cells (tabCells (.slice none 0 0) (.slice none 0 0) n) 144)).heap.size ≤ gf) := (by obtain ⟨b, h1, h2⟩ := hnew; have h3 : some gf = some b := h1; injection h3 with h3; exact ⟨by rw [h3]; exact h2⟩); have HF2 := aMk hv; have HB2 := aMk hb; have HT2 : Aside0 (w2.heap[w1.heap.size]? = some (.cells (tabCells (.slice none 0 0) (.slice none 0 0) n) 144 (0, 0))) := ⟨(hg.block _ (blk_lt HT0.out) (by simp)).trans HT0.out⟩; have d0 : w2.cell? ⟨w1.heap.size, 0, none⟩ = some (.slice none 0 0) := (blk_cell HT2.out 0).trans rfl; have f0 : w2.frozen? ⟨w1.heap.size, 0, none⟩ = false := qbF HT2.out 0; have HT3 : Aside0 (((w2.setCell ⟨w1.heap.size, 0, none⟩ (.slice (some ⟨gf, 0, none⟩) 8704 cap)).alloc (.cells (vs (evenL 0)) 146)).heap[w1.heap.size]? = some (.cells (tabCells (.slice (some ⟨gf, 0, none⟩) 8704 cap) (.slice none 0 0) n) 144 (0, 0))) := ⟨((qbA (qBr (w2.setCell ⟨w1.heap.size, 0, none⟩ (.slice (some ⟨gf, 0, none⟩) 8704 cap)).heap.size _) _).block _ (by rw [show (w2.setCell ⟨w1.heap.size, 0, none⟩ (.slice (some ⟨gf, 0, none⟩) 8704 cap)).heap.size = w2.heap.size by simp [World.setCell]]; exact blk_lt HT2.out)).trans ((blk_set HT2.out 0 _).trans rfl)⟩; have HA3 : Aside0 (Arr ((w2.setCell ⟨w1.heap.size, 0, none⟩ (.slice (some ⟨gf, 0, none⟩) 8704 cap)).alloc (.cells (vs (evenL 0)) 146)) w2.heap.size (evenL 0)) := (by have h9 := blk_new (w2.setCell ⟨w1.heap.size, 0, none⟩ (.slice (some ⟨gf, 0, none⟩) 8704 cap)) (.cells (vs (evenL 0)) 146); rw [show (w2.setCell ⟨w1.heap.size, 0, none⟩ (.slice (some ⟨gf, 0, none⟩) 8704 cap)).heap.size = w2.heap.size by simp [World.setCell]] at h9; exact ⟨h9⟩); have HF3 : Aside0 (Kd.R (Kd.int .i64) 3 ((w2.setCell ⟨w1.heap.size, 0, none⟩ (.slice (some ⟨gf, 0, none⟩) 8704 cap)).alloc (.cells (vs (evenL 0)) 146)) w.heap.size (fun k => k = gf) (.slice (some ⟨gf, 0, none⟩) 8704 cap) (List.replicate 8704 0)) := ⟨qrA (Kd.R_far (Kd.R_reok rfl hv (fun k hk => by have h8 : some gf = some k := hk; injection h8 with h8; exact h8.symm)) (fun k hk => by subst hk; have := HNW.out; have := HSZ.out; show k ≠ w1.heap.size; omega) _) _⟩; have HB3 : Aside0 (Below w.heap.size w ((w2.setCell ⟨w1.heap.size, 0, none⟩ (.slice (some ⟨gf, 0, none⟩) 8704 cap)).alloc (.cells (vs (evenL 0)) 146))) := ⟨qbA (below_cells HB2.out HGT.out 0 [_]) _⟩; clear hv hb hg hnew) | (rw [HZ.out]; refine arr_store_arm (g := w2.heap.size) (ys := evenL 0) rfl (.tmp 9) (.tmp 26) rfl rfl rfl rfl HA3.out (evenL_length 0) (evenL_length 0) ?_; intro w4 h1 h2 h3; have HA4 := aMk h1; have HG4 := aMk h2; clear h1 h2 h3))
 have HT4 : Aside0 (w4.heap[w1.heap.size]? = some (.cells (tabCells (.slice (some ⟨gf, 0, none⟩) 8704 cap) (.slice none 0 0) n) 144 (0, 0))) := ⟨(HG4.out.block _ (blk_lt HT3.out) (fun e => by have e2 : w1.heap.size = w2.heap.size := qoI e; have := blk_lt HT2.out; omega)).trans HT3.out⟩
 have HGFL : Aside0 (gf < w2.heap.size) := ⟨Kd.R_lt HF2.out gf rfl⟩
 have HGTF : Aside0 (w1.heap.size < gf) := ⟨by have := HNW.out; have := HSZ.out; omega⟩
 have HF4 : Aside0 (Kd.R (Kd.int .i64) 3 w4 w.heap.size (fun k => k = gf) (.slice (some ⟨gf, 0, none⟩) 8704 cap) (List.replicate 8704 0)) := ⟨Kd.R_grown HF3.out HG4.out (fun k hk e => by have e2 : k = w2.heap.size := qoI e; have := HGFL.out; omega)⟩
 have HB4 : Aside0 (Below w.heap.size w w4) := ⟨below_grown2 HB3.out (qlR _) HG4.out (fun k e => by have e2 : w2.heap.size = k := qoI e; have := HB2.out.size; omega)⟩
 clear HT0 HBa HSZ HT2 d0 f0 HT3 HA3 HF3 HB3 HG4 HF2 HB2 HNW hgf HB1
 obtain ⟨gt, hgt⟩ : ∃ g, g = w1.heap.size := ⟨_, rfl⟩
 obtain ⟨gl, hgl⟩ : ∃ g, g = w2.heap.size := ⟨_, rfl⟩
 rw [← hgt] at HT4 HGTF HGT ⊢
 rw [← hgl] at HGFL HA4 ⊢
 have HGF := HGTF
 have HGL := HGFL
 clear HGTF HGFL hgt hgl
 go_loopw [8, 10, 27] (fun v8 v10 v27 wr => ∃ (p fr : Nat) (la : Int) (first : List Int) (second : List (List Int)) (last : List Int) (v2 : Value), v27 = .int .i64 p ∧ v8 = .int .i64 fr ∧ v10 = .int .i64 la ∧ p ≤ 8704 ∧ fr ≤ l.length ∧ Aside0 (∀ (i : Nat) (hi : i < l.length), i < fr → l[i].f1 < 128 * (p : Int)) ∧ Aside0 (p = 0 ∧ la = -1 ∨ 0 < p ∧ ∃ j : Nat, la = j ∧ j < second.length ∧ second.getD j [] = last) ∧ Aside0 (last.length = 128) ∧ Aside0 (Tab l n first second p) ∧ Aside0 (wr.heap[gt]? = some (.cells (tabCells (.slice (some ⟨gf, 0, none⟩) 8704 cap) v2 n) 144 (0, 0))) ∧ Aside0 (Kd.R (Kd.int .i64) 3 wr w.heap.size (fun k => k = gf) (.slice (some ⟨gf, 0, none⟩) 8704 cap) first) ∧ Aside0 (Kd.R kb 146 wr (gl + 1) (fun k => k ≠ gt) v2 second) ∧ Aside0 (Arr wr gl last) ∧ Aside0 (Below w.heap.size w wr)) (fun _ _ v _ => 8704 - (intOf v).toNat)
 case atStart => exact ⟨0, 0, -1, List.replicate 8704 0, [], evenL 0, .slice none 0 0, rfl, rfl, rfl, Nat.zero_le _, Nat.zero_le _, ⟨fun i hi h => absurd h (Nat.not_lt_zero _)⟩, ⟨.inl ⟨rfl, rfl⟩⟩, ⟨evenL_length 0⟩, ⟨⟨by simp, Nat.zero_le _, fun q hq => absurd hq (Nat.not_lt_zero _)⟩⟩, HT4, HF4, ⟨Kd.R_nil _ _ _ _ _⟩, HA4, HB4⟩
 case round =>
  clear HT4 HF4 HA4 HB4
  obtain ⟨p, fr, la, first, second, last, v2, rfl, rfl, rfl, hp, hfr, HBE, HLA, HLL, HTAB, HTr, HFr, H2r, HLr, HBr⟩ := hrel
  by_cases hlt : p < 8704
  ·have hpI : (p : Int) < 8704 := by omega
   have HGB0 : Aside0 (gl < wr.heap.size) := ⟨blk_lt HLr.out⟩
   go_wp2_with fail
   rw [HZ.out]
   have HA0 : Aside0 (Arr (wr.alloc (.cells (vs (evenL 0)) 146)) wr.heap.size (evenL 0)) := ⟨blk_new wr _⟩
   have hal : Below wr.heap.size wr (wr.alloc (.cells (vs (evenL 0)) 146)) := qbA (qBr _ _) _
   refine (filled_c n p fr (SLk.below H.out (qbA HBr.out _)) HOK.out (by have := HM.out; omega) hlt hfr HBE.out).mono ?_
   rintro e w5 ⟨k', hk', hbe, rfl, hb⟩
   have hal5 : Below wr.heap.size wr w5 := qbP hal hb
   have HBE5 := aMk hbe
   have HA5 : Aside0 (Arr w5 wr.heap.size (evenL 0)) := ⟨(hb.block _ (blk_lt HA0.out)).trans HA0.out⟩
   have HT5 : Aside0 (w5.heap[gt]? = some (.cells (tabCells (.slice (some ⟨gf, 0, none⟩) 8704 cap) v2 n) 144 (0, 0))) := ⟨(hal5.block _ (blk_lt HTr.out)).trans HTr.out⟩
   have HF5 : Aside0 (Kd.R (Kd.int .i64) 3 w5 w.heap.size (fun k => k = gf) (.slice (some ⟨gf, 0, none⟩) 8704 cap) first) := ⟨qrB HFr.out hal5⟩
   have H25 : Aside0 (Kd.R kb 146 w5 (gl + 1) (fun k => k ≠ gt ∧ k < wr.heap.size) v2 second) := ⟨Kd.R_old H2r.out hal5⟩
   have HL5 : Aside0 (Arr w5 gl last) := ⟨(hal5.block _ (blk_lt HLr.out)).trans HLr.out⟩
   have HB5 : Aside0 (Below w.heap.size w w5) := ⟨qbP HBr.out hal5⟩
   obtain ⟨gb, hgb⟩ : ∃ g, g = wr.heap.size := ⟨_, rfl⟩
   rw [← hgb] at HGB0 HA5 H25 ⊢
   have HGB := HGB0
   clear hb hal hal5 HA0 HTr HFr H2r HLr HBr hgb HGB0 hbe
   rcases HLA.out with ⟨hp0, hla⟩ | ⟨hp0, j, hla, hjs, hjl⟩
   ·have hneg : la < 0 := by omega
    have HPZ := aMk hp0
    clear hp0 hla
    go_wp2_with (first | (refine arr_store_arm (g := gb) (ys := blockL l n p) rfl (.tmp 12) (.tmp 36) rfl rfl rfl rfl HA5.out (evenL_length 0) (blockL_length l n p) ?_; intro wb h1 h2 h3; have HAb := aMk h1; have HTb : Aside0 (wb.heap[gt]? = some (.cells (tabCells (.slice (some ⟨gf, 0, none⟩) 8704 cap) v2 n) 144 (0, 0))) := ⟨(h2.block _ (blk_lt HT5.out) (fun e => by have e2 : gt = gb := qoI e; have := HGF.out; have := HGL.out; have := HGB.out; omega)).trans HT5.out⟩; have HLb : Aside0 (Arr wb gl last) := ⟨(h2.block _ (blk_lt HL5.out) (fun e => by have e2 : gl = gb := qoI e; have := HGB.out; omega)).trans HL5.out⟩; have HFb : Aside0 (Kd.R (Kd.int .i64) 3 wb w.heap.size (fun k => k = gf) (.slice (some ⟨gf, 0, none⟩) 8704 cap) first) := ⟨Kd.R_grown HF5.out h2 (fun k hk e => by have e2 : k = gb := qoI e; have := HGL.out; have := HGB.out; omega)⟩; have H2b0 : Aside0 (Kd.R kb 146 wb (gl + 1) (fun k => k ≠ gt ∧ k < gb) v2 second) := ⟨Kd.R_grown H25.out h2 (fun k hk e => by have e2 : k = gb := qoI e; omega)⟩; have HNB : Aside0 (∀ k, v2.ownBlock = some k → k ≠ gb) := ⟨fun k hk e => by have := (H2b0.out.1 k hk).2; omega⟩; have H2b : Aside0 (Kd.R kb 146 wb (gl + 1) (fun k => k ≠ gt) v2 second) := ⟨qrM H2b0.out (fun k hk => hk.1)⟩; have HBb : Aside0 (Below w.heap.size w wb) := ⟨below_grown2 HB5.out (qlR _) h2 (fun k e => by have e2 : gb = k := qoI e; have := HGT.out; have := HGF.out; have := HGL.out; have := HGB.out; omega)⟩; have HGLb : Aside0 (gl < wb.heap.size) := ⟨blk_lt HLb.out⟩; clear h1 h2 h3 HA5 HT5 HF5 H25 HL5 HB5 H2b0))
    refine start_ (n := 8) (S := fun W => Arr W gb (blockL l n p)) (ds := []) #[false, false, false, false, false, false, false, false] (by kernel_rfl) (by kernel_rfl) (by rfl) HAb.out (fun hS0 => ?_)
    refine pure_ (i := 1) (N := (some 46)) (v := ?_) (a' := ?_) #[false, true, false, false, false, false, false, false] rfl rfl (by kernel_rfl) (fun _ _ _ h => h) (Or.inl ⟨by rfl, ?_⟩) ?_ ?_
    rotate_left
    ·intro w'
     go_simp
     with_reducible rfl
    rotate_left
    ·simp only [Act.put, sqA, sq0, sq1]
     rfl
    refine pure_ (i := 2) (N := (some 47)) (v := ?_) (a' := ?_) #[false, true, true, false, false, false, false, false] rfl rfl (by kernel_rfl) (fun _ _ _ h => h) (Or.inl ⟨by rfl, ?_⟩) ?_ ?_
    rotate_left
    ·intro w'
     go_simp
     with_reducible rfl
    rotate_left
    ·simp only [Act.put, sqA, sq0, sq1]
     rfl
    refine pure_ (i := 3) (N := (some 48)) (v := ?_) (a' := ?_) #[false, true, true, true, false, false, false, false] rfl rfl (by kernel_rfl) (fun _ _ _ h => h) (Or.inl ⟨by rfl, ?_⟩) ?_ ?_
    rotate_left
    ·intro w'
     go_simp
     with_reducible rfl
    rotate_left
    ·simp only [Act.put, sqA, sq0, sq1]
     rfl
    refine take_ (i := 0) (N := (some 45)) (v := ?_) (a' := ?_) #[true, true, true, true, false, false, false, false] rfl rfl (by kernel_rfl) (fun _ _ _ h => h) (Or.inl ⟨by rfl, ?_⟩) hS0 ?_ ?_
    rotate_left
    ·intro w' s0
     refine exec_load (.tmp 12) (xs := blockL l n p) (ad := ⟨gb, 0, none⟩) ?_ ?_ ?_
     ·rfl
     ·rfl
     ·exact arr_load s0 (blockL_length l n p)
    rotate_left
    ·simp only [Act.put, sqA, sq0, sq1]
     rfl
    refine take_ (i := 4) (N := (some 49)) (v := ?_) (a' := ?_) #[true, true, true, true, true, false, false, false] rfl rfl (by kernel_rfl) (fun _ _ _ h => h) (Or.inl ⟨by rfl, ?_⟩) hS0 ?_ ?_
    rotate_left
    ·intro w' s0
     refine exec_load (.tmp 12) (xs := blockL l n p) (ad := ⟨gb, 0, none⟩) ?_ ?_ ?_
     ·rfl
     ·rfl
     ·exact arr_load s0 (blockL_length l n p)
    rotate_left
    ·simp only [Act.put, sqA, sq0, sq1]
     rfl
    clear hS0
    refine one_ (i := 5) (N := (some 50)) #[true, true, true, true, true, true, false, false] rfl rfl (by kernel_rfl) (by decide) (fun K hK => ?_)
    refine goes_ Tryz.func113 (by kernel_rfl) rfl #[.pointer (some ⟨gt, 0, none⟩), .agg (vs (blockL l n p))] (by rfl) rfl rfl (by (try simp only [lm0, lm1, lm2]); rfl) ?_
    have HTx : Aside0 (wb.drew.heap[gt]? = some (.cells (tabCells (.slice (some ⟨gf, 0, none⟩) 8704 cap) v2 n) 144 (0, 0))) := ⟨HTb.out⟩
    have HAx : Aside0 (Arr wb.drew gb (blockL l n p)) := ⟨HAb.out⟩
    have HLx : Aside0 (Arr wb.drew gl last) := ⟨HLb.out⟩
    have H2x : Aside0 (Kd.R kb 146 wb.drew (gl + 1) (fun k => k ≠ gt) v2 second) := ⟨qrD H2b.out⟩
    have HFx : Aside0 (Kd.R (Kd.int .i64) 3 wb.drew w.heap.size (fun k => k = gf) (.slice (some ⟨gf, 0, none⟩) 8704 cap) first) := ⟨qrD HFb.out⟩
    have HBx : Aside0 (Below w.heap.size w wb.drew) := ⟨⟨HBb.out.os, HBb.out.tape, HBb.out.output, HBb.out.size, HBb.out.block⟩⟩
    refine (add_c HTx.out H2x.out (blockL_length l n p) (by have := HTAB.out.small; omega) (by have := HGLb.out; show gl + 1 ≤ wb.heap.size; omega)).mono ?_
    rintro e wc ⟨i, sec2, v2', rfl, hs, hi, hib, hT, hR, ho, hta, hou, hsz, hfr⟩
    refine ⟨_, rfl, ?_⟩
    have HI := aMk hi
    have HIB := aMk hib
    have HSS := aMk hs
    have HTc := aMk hT
    have H2c := aMk hR
    have HAc : Aside0 (Arr wc gb (blockL l n p)) := ⟨(hfr gb (blk_lt HAx.out) (by have := HGB.out; have := HGF.out; have := HGL.out; omega) (fun e => by have := Kd.R_base H2x.out gb e.symm; exact HNB.out gb e.symm rfl)).trans HAx.out⟩
    have HLc : Aside0 (Arr wc gl last) := ⟨(hfr gl (blk_lt HLx.out) (by have := HGF.out; have := HGL.out; omega) (fun e => by have := Kd.R_base H2x.out gl e.symm; omega)).trans HLx.out⟩
    have HFc : Aside0 (Kd.R (Kd.int .i64) 3 wc w.heap.size (fun k => k = gf) (.slice (some ⟨gf, 0, none⟩) 8704 cap) first) := ⟨Kd.R_step HFx.out (fun k hk hlt => hfr k hlt (by have hk9 : k = gf := hk; have := HGF.out; omega) (fun e => by have hk9 : k = gf := hk; have := Kd.R_base H2x.out k e.symm; have := HGL.out; omega))⟩
    have HBc : Aside0 (Below w.heap.size w wc) := ⟨⟨ho.trans HBx.out.os, hta.trans HBx.out.tape, hou.trans HBx.out.output, qlT HBx.out.size hsz, fun k hk => (hfr k (Nat.lt_of_lt_of_le hk HBx.out.size) (by have := HGT.out; omega) (fun e => by have := Kd.R_base H2x.out k e.symm; have := HGT.out; have := HGF.out; have := HGL.out; omega)).trans (HBx.out.block k hk)⟩⟩
    clear hs hi hib hT hR ho hta hou hsz hfr
    refine hK.out (Act.put _ (some 50) _) _ HAc.out (fun hS0 => ?_)
    clear hK
    refine norm_ (a' := ?_) ?_ ?_
    rotate_left
    ·simp only [Act.put, sqA, sq0, sq1]
     rfl
    clear hS0
    refine one_ (i := 6) (N := none) #[true, true, true, true, true, true, true, false] rfl rfl (by kernel_rfl) (by decide) (fun K hK => ?_)
    refine skip_ (w1 := wc.setRow gl (vs (blockL l n p))) (by rfl) rfl ?_ ?_
    ·refine exec_store (.tmp 9) (.tmp 45) (old := last) (ys := blockL l n p) (g := gl) ?_ ?_ ?_ HLc.out HLL.out (blockL_length l n p)
     ·rfl
     ·rfl
     ·rfl
    have hgs := grown_setRow wc gl (vs (blockL l n p))
    have HAd : Aside0 (Arr (wc.setRow gl (vs (blockL l n p))) gb (blockL l n p)) := ⟨(hgs.block _ (blk_lt HAc.out) (fun e => by have e2 : gb = gl := qoI e; have := HGB.out; omega)).trans HAc.out⟩
    have HLd : Aside0 (Arr (wc.setRow gl (vs (blockL l n p))) gl (blockL l n p)) := ⟨setRow_heap wc gl (vs last) (vs (blockL l n p)) 146 (0, 0) HLc.out⟩
    have HTd : Aside0 ((wc.setRow gl (vs (blockL l n p))).heap[gt]? = some (.cells (tabCells (.slice (some ⟨gf, 0, none⟩) 8704 cap) v2' n) 144 (0, 0))) := ⟨(hgs.block _ (blk_lt HTc.out) (fun e => by have e2 : gt = gl := qoI e; have := HGF.out; have := HGL.out; omega)).trans HTc.out⟩
    have HFd : Aside0 (Kd.R (Kd.int .i64) 3 (wc.setRow gl (vs (blockL l n p))) w.heap.size (fun k => k = gf) (.slice (some ⟨gf, 0, none⟩) 8704 cap) first) := ⟨Kd.R_grown HFc.out hgs (fun k hk e => by have e2 : k = gl := qoI e; have := HGL.out; omega)⟩
    have H2d : Aside0 (Kd.R kb 146 (wc.setRow gl (vs (blockL l n p))) (gl + 1) (fun k => k ≠ gt) v2' sec2) := ⟨qrM (Kd.R_grown (qrM (Kd.R_bound H2c.out) (fun k hk => (⟨hk.1, hk.2.1⟩ : k ≠ gt ∧ gl + 1 ≤ k))) hgs (fun k hk e => by have e2 : k = gl := qoI e; omega)) (fun k hk => hk.1)⟩
    have HBd : Aside0 (Below w.heap.size w (wc.setRow gl (vs (blockL l n p)))) := ⟨below_grown2 HBc.out (qlR _) hgs (fun k e => by have e2 : gl = k := qoI e; have := HGT.out; have := HGF.out; have := HGL.out; omega)⟩
    clear hgs
    refine hK.out _ _ HAd.out (fun hS0 => ?_)
    clear hK
    refine pure_ (i := 7) (N := (some 10)) (v := ?_) (a' := ?_) #[true, true, true, true, true, true, true, true] rfl rfl (by kernel_rfl) (fun _ _ _ h => h) (Or.inl ⟨by rfl, ?_⟩) ?_ ?_
    rotate_left
    ·intro w'
     go_simp
     with_reducible rfl
    rotate_left
    ·simp only [Act.put, sqA, sq0, sq1]
     rfl
    refine done_ (by kernel_rfl) ?_
    clear hS0
    have t0 : (wc.setRow gl (vs (blockL l n p))).cell? ⟨gt, 0, none⟩ = some (.slice (some ⟨gf, 0, none⟩) 8704 cap) := (blk_cell HTd.out 0).trans rfl
    obtain ⟨y, z⟩ := Kd.R_celln (0 : Int) HFd.out (p : Int) (by omega) hpI
    have hp1 := (Kd.R_putg HFd.out (p : Int) (i : Int)).1
    rw [qtN] at y z hp1
    have HP := aMk hp1
    have hgr := grown_set (wc.setRow gl (vs (blockL l n p))) gf p (.int .i64 (i : Int))
    have HTe : Aside0 (((wc.setRow gl (vs (blockL l n p))).setCell ⟨gf, p, none⟩ (.int .i64 (i : Int))).heap[gt]? = some (.cells (tabCells (.slice (some ⟨gf, 0, none⟩) 8704 cap) v2' n) 144 (0, 0))) := ⟨(hgr.block _ (blk_lt HTd.out) (fun e => by have e2 : gt = gf := qoI e; have := HGF.out; omega)).trans HTd.out⟩
    have HLe : Aside0 (Arr ((wc.setRow gl (vs (blockL l n p))).setCell ⟨gf, p, none⟩ (.int .i64 (i : Int))) gl (blockL l n p)) := ⟨(hgr.block _ (blk_lt HLd.out) (fun e => by have e2 : gl = gf := qoI e; have := HGL.out; omega)).trans HLd.out⟩
    have H2e : Aside0 (Kd.R kb 146 ((wc.setRow gl (vs (blockL l n p))).setCell ⟨gf, p, none⟩ (.int .i64 (i : Int))) (gl + 1) (fun k => k ≠ gt) v2' sec2) := ⟨qrM (Kd.R_grown (qrM (Kd.R_bound H2d.out) (fun k hk => (⟨hk.1, hk.2.1⟩ : k ≠ gt ∧ gl + 1 ≤ k))) hgr (fun k hk e => by have e2 : k = gf := qoI e; have := HGL.out; omega)) (fun k hk => hk.1)⟩
    have HBe : Aside0 (Below w.heap.size w ((wc.setRow gl (vs (blockL l n p))).setCell ⟨gf, p, none⟩ (.int .i64 (i : Int)))) := ⟨below_cells HBd.out (by have := HGT.out; have := HGF.out; omega) p [_]⟩
    clear hp1 hgr
    go_wp2_with fail
    exact ⟨⟨p + 1, k', (i : Int), _, sec2, blockL l n p, v2', by go_num, rfl, rfl, by omega, hk', HBE5, ⟨.inr ⟨by omega, i, rfl, HI.out, HIB.out⟩⟩, ⟨blockL_length l n p⟩, ⟨tab_next HTAB.out hlt HSS.out HI.out HIB.out⟩, HTe, HP, H2e, HLe, HBe⟩, by simp [intOf]; omega⟩
   ·have hneg : ¬ (la < 0) := by omega
    have hnegb : decide (la < 0) = false := qdF hneg
    have HJ := aMk hla
    have HJS := aMk hjs
    have HJL := aMk hjl
    clear hla hjs hjl
    by_cases heq : blockL l n p = last
    ·have hbb : (blockL l n p == last) = true := by simpa using heq
     have HLq0 := aMk heq; clear heq
     have HJL2 : Aside0 (second.getD j [] = blockL l n p) := ⟨by rw [HLq0.out]; exact HJL.out⟩
     have hj := HJ.out
     subst hj
     go_wp2_with (first | (refine arr_store_arm (g := gb) (ys := blockL l n p) rfl (.tmp 12) (.tmp 36) rfl rfl rfl rfl HA5.out (evenL_length 0) (blockL_length l n p) ?_; intro wb h1 h2 h3; have HAb := aMk h1; have HTb : Aside0 (wb.heap[gt]? = some (.cells (tabCells (.slice (some ⟨gf, 0, none⟩) 8704 cap) v2 n) 144 (0, 0))) := ⟨(h2.block _ (blk_lt HT5.out) (fun e => by have e2 : gt = gb := qoI e; have := HGF.out; have := HGL.out; have := HGB.out; omega)).trans HT5.out⟩; have HLb : Aside0 (Arr wb gl last) := ⟨(h2.block _ (blk_lt HL5.out) (fun e => by have e2 : gl = gb := qoI e; have := HGB.out; omega)).trans HL5.out⟩; have HFb : Aside0 (Kd.R (Kd.int .i64) 3 wb w.heap.size (fun k => k = gf) (.slice (some ⟨gf, 0, none⟩) 8704 cap) first) := ⟨Kd.R_grown HF5.out h2 (fun k hk e => by have e2 : k = gb := qoI e; have := HGL.out; have := HGB.out; omega)⟩; have H2b0 : Aside0 (Kd.R kb 146 wb (gl + 1) (fun k => k ≠ gt ∧ k < gb) v2 second) := ⟨Kd.R_grown H25.out h2 (fun k hk e => by have e2 : k = gb := qoI e; omega)⟩; have HNB : Aside0 (∀ k, v2.ownBlock = some k → k ≠ gb) := ⟨fun k hk e => by have := (H2b0.out.1 k hk).2; omega⟩; have H2b : Aside0 (Kd.R kb 146 wb (gl + 1) (fun k => k ≠ gt) v2 second) := ⟨qrM H2b0.out (fun k hk => hk.1)⟩; have HBb : Aside0 (Below w.heap.size w wb) := ⟨below_grown2 HB5.out (qlR _) h2 (fun k e => by have e2 : gb = k := qoI e; have := HGT.out; have := HGF.out; have := HGL.out; have := HGB.out; omega)⟩; have HGLb : Aside0 (gl < wb.heap.size) := ⟨blk_lt HLb.out⟩; clear h1 h2 h3 HA5 HT5 HF5 H25 HL5 HB5 H2b0; have HLq : Aside0 (Arr wb gl (blockL l n p)) := ⟨by rw [HLq0.out]; exact HLb.out⟩; have t0 : (wb).cell? ⟨gt, 0, none⟩ = some (.slice (some ⟨gf, 0, none⟩) 8704 cap) := (blk_cell HTb.out 0).trans rfl; obtain ⟨y, z⟩ := Kd.R_celln (0 : Int) HFb.out (p : Int) (by omega) hpI; have hp1 := (Kd.R_putg HFb.out (p : Int) (j : Int)).1; rw [qtN] at y z hp1; have HP := aMk hp1; have hgr := grown_set (wb) gf p (.int .i64 (j : Int)); have HTe : Aside0 (((wb).setCell ⟨gf, p, none⟩ (.int .i64 (j : Int))).heap[gt]? = some (.cells (tabCells (.slice (some ⟨gf, 0, none⟩) 8704 cap) v2 n) 144 (0, 0))) := ⟨(hgr.block _ (blk_lt HTb.out) (fun e => by have e2 : gt = gf := qoI e; have := HGF.out; omega)).trans HTb.out⟩; have HLe : Aside0 (Arr ((wb).setCell ⟨gf, p, none⟩ (.int .i64 (j : Int))) gl (blockL l n p)) := ⟨(hgr.block _ (blk_lt HLq.out) (fun e => by have e2 : gl = gf := qoI e; have := HGL.out; omega)).trans HLq.out⟩; have H2e : Aside0 (Kd.R kb 146 ((wb).setCell ⟨gf, p, none⟩ (.int .i64 (j : Int))) (gl + 1) (fun k => k ≠ gt) v2 second) := ⟨qrM (Kd.R_grown (qrM (Kd.R_bound H2b.out) (fun k hk => (⟨hk.1, hk.2.1⟩ : k ≠ gt ∧ gl + 1 ≤ k))) hgr (fun k hk e => by have e2 : k = gf := qoI e; have := HGL.out; omega)) (fun k hk => hk.1)⟩; have HBe : Aside0 (Below w.heap.size w ((wb).setCell ⟨gf, p, none⟩ (.int .i64 (j : Int)))) := ⟨below_cells HBb.out (by have := HGT.out; have := HGF.out; omega) p [_]⟩; clear hp1 hgr) | (refine arr_load_armG (by rfl) (.tmp 12) rfl rfl HAb.out (blockL_length l n p) ?_) | (refine arr_load_armG (by rfl) (.tmp 9) rfl rfl HLb.out HLL.out ?_) | (refine arr_neq_armG (xs := blockL l n p) (ys := last) (by rfl) (.tmp 41) (.tmp 42) 146 rfl rfl rfl (blockL_length l n p) HLL.out ?_))
     exact ⟨⟨p + 1, k', (j : Int), _, second, blockL l n p, v2, by go_num, rfl, rfl, by omega, hk', HBE5, ⟨.inr ⟨by omega, j, rfl, HJS.out, HJL2.out⟩⟩, ⟨blockL_length l n p⟩, ⟨tab_next HTAB.out hlt (.inl rfl) HJS.out HJL2.out⟩, HTe, HP, H2e, HLe, HBe⟩, by simp [intOf]; omega⟩
    ·have hbb : (blockL l n p == last) = false := by simpa using heq
     clear heq
     go_wp2_with (first | (refine arr_store_arm (g := gb) (ys := blockL l n p) rfl (.tmp 12) (.tmp 36) rfl rfl rfl rfl HA5.out (evenL_length 0) (blockL_length l n p) ?_; intro wb h1 h2 h3; have HAb := aMk h1; have HTb : Aside0 (wb.heap[gt]? = some (.cells (tabCells (.slice (some ⟨gf, 0, none⟩) 8704 cap) v2 n) 144 (0, 0))) := ⟨(h2.block _ (blk_lt HT5.out) (fun e => by have e2 : gt = gb := qoI e; have := HGF.out; have := HGL.out; have := HGB.out; omega)).trans HT5.out⟩; have HLb : Aside0 (Arr wb gl last) := ⟨(h2.block _ (blk_lt HL5.out) (fun e => by have e2 : gl = gb := qoI e; have := HGB.out; omega)).trans HL5.out⟩; have HFb : Aside0 (Kd.R (Kd.int .i64) 3 wb w.heap.size (fun k => k = gf) (.slice (some ⟨gf, 0, none⟩) 8704 cap) first) := ⟨Kd.R_grown HF5.out h2 (fun k hk e => by have e2 : k = gb := qoI e; have := HGL.out; have := HGB.out; omega)⟩; have H2b0 : Aside0 (Kd.R kb 146 wb (gl + 1) (fun k => k ≠ gt ∧ k < gb) v2 second) := ⟨Kd.R_grown H25.out h2 (fun k hk e => by have e2 : k = gb := qoI e; omega)⟩; have HNB : Aside0 (∀ k, v2.ownBlock = some k → k ≠ gb) := ⟨fun k hk e => by have := (H2b0.out.1 k hk).2; omega⟩; have H2b : Aside0 (Kd.R kb 146 wb (gl + 1) (fun k => k ≠ gt) v2 second) := ⟨qrM H2b0.out (fun k hk => hk.1)⟩; have HBb : Aside0 (Below w.heap.size w wb) := ⟨below_grown2 HB5.out (qlR _) h2 (fun k e => by have e2 : gb = k := qoI e; have := HGT.out; have := HGF.out; have := HGL.out; have := HGB.out; omega)⟩; have HGLb : Aside0 (gl < wb.heap.size) := ⟨blk_lt HLb.out⟩; clear h1 h2 h3 HA5 HT5 HF5 H25 HL5 HB5 H2b0) | (refine arr_load_armG (by rfl) (.tmp 12) rfl rfl HAb.out (blockL_length l n p) ?_) | (refine arr_load_armG (by rfl) (.tmp 9) rfl rfl HLb.out HLL.out ?_) | (refine arr_neq_armG (xs := blockL l n p) (ys := last) (by rfl) (.tmp 41) (.tmp 42) 146 rfl rfl rfl (blockL_length l n p) HLL.out ?_))
     refine start_ (n := 8) (S := fun W => Arr W gb (blockL l n p)) (ds := []) #[false, false, false, false, false, false, false, false] (by kernel_rfl) (by kernel_rfl) (by rfl) HAb.out (fun hS0 => ?_)
     refine pure_ (i := 1) (N := (some 46)) (v := ?_) (a' := ?_) #[false, true, false, false, false, false, false, false] rfl rfl (by kernel_rfl) (fun _ _ _ h => h) (Or.inl ⟨by rfl, ?_⟩) ?_ ?_
     rotate_left
     ·intro w'
      go_simp
      with_reducible rfl
     rotate_left
     ·simp only [Act.put, sqA, sq0, sq1]
      rfl
     refine pure_ (i := 2) (N := (some 47)) (v := ?_) (a' := ?_) #[false, true, true, false, false, false, false, false] rfl rfl (by kernel_rfl) (fun _ _ _ h => h) (Or.inl ⟨by rfl, ?_⟩) ?_ ?_
     rotate_left
     ·intro w'
      go_simp
      with_reducible rfl
     rotate_left
     ·simp only [Act.put, sqA, sq0, sq1]
      rfl
     refine pure_ (i := 3) (N := (some 48)) (v := ?_) (a' := ?_) #[false, true, true, true, false, false, false, false] rfl rfl (by kernel_rfl) (fun _ _ _ h => h) (Or.inl ⟨by rfl, ?_⟩) ?_ ?_
     rotate_left
     ·intro w'
      go_simp
      with_reducible rfl
     rotate_left
     ·simp only [Act.put, sqA, sq0, sq1]
      rfl
     refine take_ (i := 0) (N := (some 45)) (v := ?_) (a' := ?_) #[true, true, true, true, false, false, false, false] rfl rfl (by kernel_rfl) (fun _ _ _ h => h) (Or.inl ⟨by rfl, ?_⟩) hS0 ?_ ?_
     rotate_left
     ·intro w' s0
      refine exec_load (.tmp 12) (xs := blockL l n p) (ad := ⟨gb, 0, none⟩) ?_ ?_ ?_
      ·rfl
      ·rfl
      ·exact arr_load s0 (blockL_length l n p)
     rotate_left
     ·simp only [Act.put, sqA, sq0, sq1]
      rfl
     refine take_ (i := 4) (N := (some 49)) (v := ?_) (a' := ?_) #[true, true, true, true, true, false, false, false] rfl rfl (by kernel_rfl) (fun _ _ _ h => h) (Or.inl ⟨by rfl, ?_⟩) hS0 ?_ ?_
     rotate_left
     ·intro w' s0
      refine exec_load (.tmp 12) (xs := blockL l n p) (ad := ⟨gb, 0, none⟩) ?_ ?_ ?_
      ·rfl
      ·rfl
      ·exact arr_load s0 (blockL_length l n p)
     rotate_left
     ·simp only [Act.put, sqA, sq0, sq1]
      rfl
     clear hS0
     refine one_ (i := 5) (N := (some 50)) #[true, true, true, true, true, true, false, false] rfl rfl (by kernel_rfl) (by decide) (fun K hK => ?_)
     refine goes_ Tryz.func113 (by kernel_rfl) rfl #[.pointer (some ⟨gt, 0, none⟩), .agg (vs (blockL l n p))] (by rfl) rfl rfl (by (try simp only [lm0, lm1, lm2]); rfl) ?_
     have HTx : Aside0 (wb.drew.heap[gt]? = some (.cells (tabCells (.slice (some ⟨gf, 0, none⟩) 8704 cap) v2 n) 144 (0, 0))) := ⟨HTb.out⟩
     have HAx : Aside0 (Arr wb.drew gb (blockL l n p)) := ⟨HAb.out⟩
     have HLx : Aside0 (Arr wb.drew gl last) := ⟨HLb.out⟩
     have H2x : Aside0 (Kd.R kb 146 wb.drew (gl + 1) (fun k => k ≠ gt) v2 second) := ⟨qrD H2b.out⟩
     have HFx : Aside0 (Kd.R (Kd.int .i64) 3 wb.drew w.heap.size (fun k => k = gf) (.slice (some ⟨gf, 0, none⟩) 8704 cap) first) := ⟨qrD HFb.out⟩
     have HBx : Aside0 (Below w.heap.size w wb.drew) := ⟨⟨HBb.out.os, HBb.out.tape, HBb.out.output, HBb.out.size, HBb.out.block⟩⟩
     refine (add_c HTx.out H2x.out (blockL_length l n p) (by have := HTAB.out.small; omega) (by have := HGLb.out; show gl + 1 ≤ wb.heap.size; omega)).mono ?_
     rintro e wc ⟨i, sec2, v2', rfl, hs, hi, hib, hT, hR, ho, hta, hou, hsz, hfr⟩
     refine ⟨_, rfl, ?_⟩
     have HI := aMk hi
     have HIB := aMk hib
     have HSS := aMk hs
     have HTc := aMk hT
     have H2c := aMk hR
     have HAc : Aside0 (Arr wc gb (blockL l n p)) := ⟨(hfr gb (blk_lt HAx.out) (by have := HGB.out; have := HGF.out; have := HGL.out; omega) (fun e => by have := Kd.R_base H2x.out gb e.symm; exact HNB.out gb e.symm rfl)).trans HAx.out⟩
     have HLc : Aside0 (Arr wc gl last) := ⟨(hfr gl (blk_lt HLx.out) (by have := HGF.out; have := HGL.out; omega) (fun e => by have := Kd.R_base H2x.out gl e.symm; omega)).trans HLx.out⟩
     have HFc : Aside0 (Kd.R (Kd.int .i64) 3 wc w.heap.size (fun k => k = gf) (.slice (some ⟨gf, 0, none⟩) 8704 cap) first) := ⟨Kd.R_step HFx.out (fun k hk hlt => hfr k hlt (by have hk9 : k = gf := hk; have := HGF.out; omega) (fun e => by have hk9 : k = gf := hk; have := Kd.R_base H2x.out k e.symm; have := HGL.out; omega))⟩
     have HBc : Aside0 (Below w.heap.size w wc) := ⟨⟨ho.trans HBx.out.os, hta.trans HBx.out.tape, hou.trans HBx.out.output, qlT HBx.out.size hsz, fun k hk => (hfr k (Nat.lt_of_lt_of_le hk HBx.out.size) (by have := HGT.out; omega) (fun e => by have := Kd.R_base H2x.out k e.symm; have := HGT.out; have := HGF.out; have := HGL.out; omega)).trans (HBx.out.block k hk)⟩⟩
     clear hs hi hib hT hR ho hta hou hsz hfr
     refine hK.out (Act.put _ (some 50) _) _ HAc.out (fun hS0 => ?_)
     clear hK
     refine norm_ (a' := ?_) ?_ ?_
     rotate_left
     ·simp only [Act.put, sqA, sq0, sq1]
      rfl
     clear hS0
     refine one_ (i := 6) (N := none) #[true, true, true, true, true, true, true, false] rfl rfl (by kernel_rfl) (by decide) (fun K hK => ?_)
     refine skip_ (w1 := wc.setRow gl (vs (blockL l n p))) (by rfl) rfl ?_ ?_
     ·refine exec_store (.tmp 9) (.tmp 45) (old := last) (ys := blockL l n p) (g := gl) ?_ ?_ ?_ HLc.out HLL.out (blockL_length l n p)
      ·rfl
      ·rfl
      ·rfl
     have hgs := grown_setRow wc gl (vs (blockL l n p))
     have HAd : Aside0 (Arr (wc.setRow gl (vs (blockL l n p))) gb (blockL l n p)) := ⟨(hgs.block _ (blk_lt HAc.out) (fun e => by have e2 : gb = gl := qoI e; have := HGB.out; omega)).trans HAc.out⟩
     have HLd : Aside0 (Arr (wc.setRow gl (vs (blockL l n p))) gl (blockL l n p)) := ⟨setRow_heap wc gl (vs last) (vs (blockL l n p)) 146 (0, 0) HLc.out⟩
     have HTd : Aside0 ((wc.setRow gl (vs (blockL l n p))).heap[gt]? = some (.cells (tabCells (.slice (some ⟨gf, 0, none⟩) 8704 cap) v2' n) 144 (0, 0))) := ⟨(hgs.block _ (blk_lt HTc.out) (fun e => by have e2 : gt = gl := qoI e; have := HGF.out; have := HGL.out; omega)).trans HTc.out⟩
     have HFd : Aside0 (Kd.R (Kd.int .i64) 3 (wc.setRow gl (vs (blockL l n p))) w.heap.size (fun k => k = gf) (.slice (some ⟨gf, 0, none⟩) 8704 cap) first) := ⟨Kd.R_grown HFc.out hgs (fun k hk e => by have e2 : k = gl := qoI e; have := HGL.out; omega)⟩
     have H2d : Aside0 (Kd.R kb 146 (wc.setRow gl (vs (blockL l n p))) (gl + 1) (fun k => k ≠ gt) v2' sec2) := ⟨qrM (Kd.R_grown (qrM (Kd.R_bound H2c.out) (fun k hk => (⟨hk.1, hk.2.1⟩ : k ≠ gt ∧ gl + 1 ≤ k))) hgs (fun k hk e => by have e2 : k = gl := qoI e; omega)) (fun k hk => hk.1)⟩
     have HBd : Aside0 (Below w.heap.size w (wc.setRow gl (vs (blockL l n p)))) := ⟨below_grown2 HBc.out (qlR _) hgs (fun k e => by have e2 : gl = k := qoI e; have := HGT.out; have := HGF.out; have := HGL.out; omega)⟩
     clear hgs
     refine hK.out _ _ HAd.out (fun hS0 => ?_)
     clear hK
     refine pure_ (i := 7) (N := (some 10)) (v := ?_) (a' := ?_) #[true, true, true, true, true, true, true, true] rfl rfl (by kernel_rfl) (fun _ _ _ h => h) (Or.inl ⟨by rfl, ?_⟩) ?_ ?_
     rotate_left
     ·intro w'
      go_simp
      with_reducible rfl
     rotate_left
     ·simp only [Act.put, sqA, sq0, sq1]
      rfl
     refine done_ (by kernel_rfl) ?_
     clear hS0
     have t0 : (wc.setRow gl (vs (blockL l n p))).cell? ⟨gt, 0, none⟩ = some (.slice (some ⟨gf, 0, none⟩) 8704 cap) := (blk_cell HTd.out 0).trans rfl
     obtain ⟨y, z⟩ := Kd.R_celln (0 : Int) HFd.out (p : Int) (by omega) hpI
     have hp1 := (Kd.R_putg HFd.out (p : Int) (i : Int)).1
     rw [qtN] at y z hp1
     have HP := aMk hp1
     have hgr := grown_set (wc.setRow gl (vs (blockL l n p))) gf p (.int .i64 (i : Int))
     have HTe : Aside0 (((wc.setRow gl (vs (blockL l n p))).setCell ⟨gf, p, none⟩ (.int .i64 (i : Int))).heap[gt]? = some (.cells (tabCells (.slice (some ⟨gf, 0, none⟩) 8704 cap) v2' n) 144 (0, 0))) := ⟨(hgr.block _ (blk_lt HTd.out) (fun e => by have e2 : gt = gf := qoI e; have := HGF.out; omega)).trans HTd.out⟩
     have HLe : Aside0 (Arr ((wc.setRow gl (vs (blockL l n p))).setCell ⟨gf, p, none⟩ (.int .i64 (i : Int))) gl (blockL l n p)) := ⟨(hgr.block _ (blk_lt HLd.out) (fun e => by have e2 : gl = gf := qoI e; have := HGL.out; omega)).trans HLd.out⟩
     have H2e : Aside0 (Kd.R kb 146 ((wc.setRow gl (vs (blockL l n p))).setCell ⟨gf, p, none⟩ (.int .i64 (i : Int))) (gl + 1) (fun k => k ≠ gt) v2' sec2) := ⟨qrM (Kd.R_grown (qrM (Kd.R_bound H2d.out) (fun k hk => (⟨hk.1, hk.2.1⟩ : k ≠ gt ∧ gl + 1 ≤ k))) hgr (fun k hk e => by have e2 : k = gf := qoI e; have := HGL.out; omega)) (fun k hk => hk.1)⟩
     have HBe : Aside0 (Below w.heap.size w ((wc.setRow gl (vs (blockL l n p))).setCell ⟨gf, p, none⟩ (.int .i64 (i : Int)))) := ⟨below_cells HBd.out (by have := HGT.out; have := HGF.out; omega) p [_]⟩
     clear hp1 hgr
     go_wp2_with fail
     exact ⟨⟨p + 1, k', (i : Int), _, sec2, blockL l n p, v2', by go_num, rfl, rfl, by omega, hk', HBE5, ⟨.inr ⟨by omega, i, rfl, HI.out, HIB.out⟩⟩, ⟨blockL_length l n p⟩, ⟨tab_next HTAB.out hlt HSS.out HI.out HIB.out⟩, HTe, HP, H2e, HLe, HBe⟩, by simp [intOf]; omega⟩
  ·have hpI : ¬ ((p : Int) < 8704) := by omega
   obtain rfl : p = 8704 := by omega
   go_wp2_with fail
   refine bodyPost_ret (results_tmp2 rfl _ _ _) rfl ?_
   exact ⟨gt, rfl, HGT.out, ⟨_, v2, first, second, HTr.out, (by have h := SLk.of_R HFr.out; exact h), SLk.of_R H2r.out, HTAB.out⟩, HBr.out⟩
end CTrie
end
section
namespace UTable
open Go U
structure T3 where
 a : Int
 b : Int
 c : Int
def T3.v (r : T3) : Value := .agg #[.int .i64 r.a, .int .i64 r.b, .int .i64 r.c]
def T3.op (t : TypeId) (r : T3) : Op := .build t #[(0, .const (.int .i64 r.a)), (1, .const (.int .i64 r.b)), (2, .const (.int .i64 r.c))]
def reops (t : TypeId) : Nat → List Oper → List T3 → List Oper
 | _, os, [] => os
 | _, [], _ :: _ => []
 | i, o :: os, r :: rs => { dst := some i, op := r.op t, type := o.type, pos := o.pos, after := o.after, guard := none } :: reops t (i + 1) os rs
def tripOf (o : Oper) : Option T3 := match o.op with
 | .build _ ps => match ps.toList with
  | [(_, .const (.int _ a)), (_, .const (.int _ b)), (_, .const (.int _ c))] => some ⟨a, b, c⟩
  | _ => none
 | _ => none
def flat (rs : List T3) : List Value := rs.flatMap fun x => [.int .i64 x.a, .int .i64 x.b, .int .i64 x.c]
def Builds (P : Program) (t : TypeId) : Prop := ∀ (ev : Operand → Value) (_ : ∀ v, ev (.const v) = v) (o : Oper) (r : T3) (w : World), o.op = r.op t → (execOp ev o).run P w = .ok (.value r.v) w
theorem run_builds {P : Program} {call : CallF} {ops : Array Oper} {t : TypeId} (hb : Builds P t) (d : List Deferred) : ∀ (rs : List T3) (os : List Oper) (i : Nat) (pre post : List Value) (w : World), pre.length = i → rs.length ≤ os.length → rs.length ≤ post.length → runList P call ops (reops t i os rs) { tmps := (pre ++ post).toArray, defers := d } w = runList P call ops (os.drop rs.length) { tmps := (pre ++ rs.map T3.v ++ post.drop rs.length).toArray, defers := d } w
 | [], os, i, pre, post, w, _, _, _ => by simp [reops]
 | r :: rs, [], i, pre, post, w, _, h, _ => by simp at h
 | r :: rs, o :: os, i, pre, [], w, _, _, h => by simp at h
 | r :: rs, o :: os, i, pre, p :: post, w, h1, h2, h3 => by
  conv => lhs; unfold reops runList
  rw [if_pos (by rfl), hb _ (fun v => rfl) _ r w rfl]
  dsimp only
  have e : (({ tmps := (pre ++ p :: post).toArray, defers := d } : Act).put (some i) r.v) = { tmps := ((pre ++ [r.v]) ++ post).toArray, defers := d } := by
   simp only [Act.put, List.setIfInBounds_toArray]
   congr 2
   subst h1
   simp
  rw [e, run_builds hb d rs os (i + 1) (pre ++ [r.v]) post w (by simp; omega) (by simpa using h2) (by simpa using h3)]
  simp
theorem take3 (l : List Value) (k : Nat) (x y z : Value) (h : k + 3 ≤ l.length) : (((l.set k x).set (k + 1) y).set (k + 2) z).take (k + 3) = l.take k ++ [x, y, z] := by
 refine List.ext_getElem? fun i => ?_
 rw [List.getElem?_take, List.getElem?_append, List.length_take, Nat.min_eq_left (by omega)]
 by_cases h0 : i < k
 ·rw [if_pos (by omega), if_pos h0, List.getElem?_set_ne (by omega), List.getElem?_set_ne (by omega), List.getElem?_set_ne (by omega), List.getElem?_take, if_pos h0]
 ·rw [if_neg h0]
  obtain ⟨j, rfl⟩ : ∃ j, i = k + j := ⟨i - k, by omega⟩
  rw [Nat.add_sub_cancel_left]
  match j with
  | 0 => rw [if_pos (by omega), List.getElem?_set_ne (by omega), List.getElem?_set_ne (by omega), Nat.add_zero, List.getElem?_set_self (by omega)]; rfl
  | 1 => rw [if_pos (by omega), List.getElem?_set_ne (by omega), List.getElem?_set_self (by simp; omega)]; rfl
  | 2 => rw [if_pos (by omega), List.getElem?_set_self (by simp; omega)]; rfl
  | j + 3 => rw [if_neg (by omega)]; rfl
theorem fill_rows : ∀ (rs : List T3) (j : Nat) (cells : Array Value), j * 3 + rs.length * 3 = cells.size → Instr.fill (fun i => some (i * 3, 3)) cells ((rs.zipIdx j).map fun p => (p.2, p.1.v)) = some (cells.toList.take (j * 3) ++ flat rs).toArray
 | [], j, cells, h => by
  unfold Instr.fill
  simp only [List.zipIdx_nil, List.map_nil, flat, List.flatMap_nil, List.append_nil]
  rw [List.take_of_length_le (by simp at h ⊢; omega)]
 | r :: rs, j, cells, h => by
  rw [List.zipIdx_cons, List.map_cons]
  unfold Instr.fill
  have hc : (T3.v r).cells = #[.int .i64 r.a, .int .i64 r.b, .int .i64 r.c] := rfl
  rw [List.length_cons] at h
  dsimp only
  rw [hc]
  rw [if_neg (by simp; omega)]
  have hz : ((#[.int .i64 r.a, .int .i64 r.b, .int .i64 r.c] : Array Value).zipIdx.foldl (fun cs (p : Value × Nat) => cs.setIfInBounds (j * 3 + p.2) p.1) cells) = ((cells.setIfInBounds (j * 3) (.int .i64 r.a)).setIfInBounds (j * 3 + 1) (.int .i64 r.b)).setIfInBounds (j * 3 + 2) (.int .i64 r.c) := rfl
  rw [hz, fill_rows rs (j + 1) _ (by simp; omega)]
  congr 2
  simp only [Array.toList_setIfInBounds]
  rw [show (j + 1) * 3 = j * 3 + 3 by omega, take3 _ _ _ _ _ (by simp; omega), List.append_assoc]
  unfold flat
  rw [List.flatMap_cons]
def partsOf (n : Nat) : Array (Nat × Operand) := ((List.range n).map fun i => (i, Operand.tmp (i + 1))).toArray
structure Rows (P : Program) (ts t : TypeId) : Prop where
 slice : ∀ w, (underlying ts).run P w = .ok (.slice t) w
 size : ∀ w, (sizeOf t).run P w = .ok 3 w
 zero : ∀ w, ∃ v, (zeroValue t).run P w = .ok v w
theorem run_rows {P : Program} {ts t : TypeId} (h : Rows P ts t) {o : Oper} {rs : List T3} {a : Act} {w : World} (hm : rs.length ≤ 100000) (h0 : rs ≠ []) (ho : o.op = .buildSlice ts rs.length (partsOf rs.length)) (hx : ∀ (i : Nat) (hi : i < rs.length), a.eval (.tmp (i + 1)) = rs[i].v) :
 (execOp a.eval o).run P w = .ok (.value (.slice (some ⟨w.heap.size, 0, none⟩) rs.length rs.length)) (w.alloc (.cells (flat rs).toArray t)) := by
 have hl : rs.length ≠ 0 := fun e => h0 (List.length_eq_zero_iff.1 e)
 have hp : ((partsOf rs.length).map fun x => (x.1, a.eval x.2)).toList = (rs.zipIdx 0).map fun p => (p.2, p.1.v) := by
  unfold partsOf
  rw [Array.toList_map]
  refine List.ext_getElem (by simp) fun i h1 h2 => ?_
  simp only [List.getElem_map, List.getElem_range, List.getElem_zipIdx, Nat.zero_add]
  rw [hx i (by simpa using h1)]
 obtain ⟨zv, hz⟩ := h.zero w
 unfold execOp
 simp only [ho]
 unfold Instr.buildSlice
 have hfill : Instr.fill (fun i => some (i * 3, 3)) ((Array.range (rs.length * 3)).map (zv.cells[· % zv.cells.size]!)) ((partsOf rs.length).map fun x => (x.1, a.eval x.2)).toList = some (flat rs).toArray := by
  rw [hp, fill_rows rs 0 _ (by simp)]
  simp
 rw [Array.toList_map] at hfill
 have hl3 : ¬ (rs.length * 3 = 0) := by omega
 have hs := h.slice w
 have hsz := h.size w
 simp [hs, hsz, hz, hfill, hl3, newRow, show ¬ (2 ^ 24 < rs.length * 3) by omega]
structure TableFn (P : Program) (ts t : TypeId) (f : Nat) (fn : Func) (o0 : Oper) (ops : Array Oper) (rs : List T3) (oS oA : Oper) (i0 i1 : Nat) : Prop where
 get : P.funcs[f]? = some fn
 body : fn.body = some ((Code.region i0 #[o0] false).seq ((Code.region i1 ops false).seq .ret))
 h0 : o0.op = .assign (.const (.slice none 0 0)) ∧ o0.dst = some 0 ∧ o0.guard = none
 rows : reops t 1 ops.toList rs = ops.toList
 rest : ops.toList.drop rs.length = [oS, oA]
 hS : oS.op = .buildSlice ts rs.length (partsOf rs.length) ∧ oS.dst = some (rs.length + 1) ∧ oS.guard = none
 hA : oA.op = .assign (.tmp (rs.length + 1)) ∧ oA.dst = some 0 ∧ oA.guard = none
 ntmps : fn.ntmps = rs.length + 2
 res : fn.results = #[.tmp 0]
theorem set_toArray (l : List Value) (i : Nat) (v : Value) (d : List Deferred) : (({ tmps := l.toArray, defers := d } : Act).put (some i) v) = { tmps := (l.set i v).toArray, defers := d } := by
 simp [Act.put]
theorem table_run {P : Program} {ts t : TypeId} {f : Nat} {fn : Func} {o0 : Oper} {ops : Array Oper} {rs : List T3} {oS oA : Oper} {i0 i1 : Nat} (h : TableFn P ts t f fn o0 ops rs oS oA i0 i1) (hr : Rows P ts t) (hb : Builds P t) (hm : rs.length ≤ 100000) (hn : rs ≠ []) (w : World) :
 runF P 10 1 f #[] w = some (.slice (some ⟨w.heap.size, 0, none⟩) rs.length rs.length, w.alloc (.cells (flat rs).toArray t)) := by
 have hl : rs.length ≤ ops.toList.length := by
  have := congrArg List.length h.rest
  simp at this
  simp
  omega
 have hstart : (#[] ++ Array.replicate (fn.ntmps - (#[] : Array Value).size) undef) = (undef :: List.replicate (rs.length + 1) undef).toArray := by
  rw [h.ntmps]
  apply Array.ext'
  simp [List.replicate_succ]
 have e1 : (runList P (runF P 10 0) #[o0] [o0] { tmps := (undef :: List.replicate (rs.length + 1) undef).toArray, defers := [] } w) = some ({ tmps := ([Value.slice none 0 0] ++ List.replicate (rs.length + 1) undef).toArray, defers := [] }, w) := by
  unfold runList
  rw [if_pos (by unfold Region.wanted; rw [h.h0.2.2])]
  unfold execOp
  simp only [h.h0.1, h.h0.2.1, Sem.run_pure, set_toArray]
  unfold runList
  rfl
 have hdrop : (List.replicate (rs.length + 1) undef).drop rs.length = [undef] := by simp
 have e2 : runList P (runF P 10 0) ops ops.toList { tmps := ([Value.slice none 0 0] ++ List.replicate (rs.length + 1) undef).toArray, defers := [] } w = some ({ tmps := (((Value.slice (some ⟨w.heap.size, 0, none⟩) rs.length rs.length) :: rs.map T3.v) ++ [Value.slice (some ⟨w.heap.size, 0, none⟩) rs.length rs.length]).toArray, defers := [] }, w.alloc (.cells (flat rs).toArray t)) := by
  conv => lhs; arg 4; rw [← h.rows]
  rw [run_builds hb [] rs ops.toList 1 [Value.slice none 0 0] _ w rfl hl (by simp), h.rest, hdrop]
  unfold runList
  rw [if_pos (by unfold Region.wanted; rw [h.hS.2.2])]
  rw [run_rows hr hm hn h.hS.1 (fun i hi => by
   show ([Value.slice none 0 0] ++ List.map T3.v rs ++ [undef]).toArray.getD (i + 1) undef = _
   simp [List.getElem?_append, hi])]
  dsimp only
  rw [h.hS.2.1, set_toArray]
  unfold runList
  rw [if_pos (by unfold Region.wanted; rw [h.hA.2.2])]
  unfold execOp
  simp only [h.hA.1, h.hA.2.1]
  have hs : ([Value.slice none 0 0] ++ List.map T3.v rs ++ [undef]).set (rs.length + 1) (Value.slice (some { block := w.heap.size, off := 0 }) rs.length rs.length) = Value.slice none 0 0 :: (List.map T3.v rs ++ [Value.slice (some { block := w.heap.size, off := 0 }) rs.length rs.length]) := by
   simp
  rw [hs]
  have hv : (({ tmps := (Value.slice none 0 0 :: (List.map T3.v rs ++ [Value.slice (some { block := w.heap.size, off := 0 }) rs.length rs.length])).toArray, defers := [] } : Act).eval (.tmp (rs.length + 1))) = Value.slice (some { block := w.heap.size, off := 0 }) rs.length rs.length := by
   show (Value.slice none 0 0 :: (List.map T3.v rs ++ [Value.slice (some { block := w.heap.size, off := 0 }) rs.length rs.length])).toArray.getD (rs.length + 1) undef = _
   simp
  rw [hv]
  simp only [Sem.run_pure, set_toArray]
  unfold runList
  simp
 unfold runF
 rw [h.get]
 dsimp only
 rw [h.body]
 dsimp only
 rw [hstart]
 unfold runC
 unfold runC
 dsimp only
 rw [e1]
 dsimp only [Option.map]
 unfold runC
 dsimp only
 rw [e2]
 dsimp only [Option.map]
 rw [if_pos List.length_nil]
 unfold resOf
 rw [h.res]
 rfl
end UTable
end
section
namespace CProps
open U CBase UTrie PEmbedJoins CTrie UTable
def flat3 (rs : List S127) : List Value := rs.flatMap fun x => [.int .i64 x.f0, .int .i64 x.f1, .int .i64 x.f2]
theorem flat3_get (rs : List S127) : ∀ (j : Nat) (x : S127), rs[j]? = some x → ∀ (i : Nat) (u : Value), ([.int .i64 x.f0, .int .i64 x.f1, .int .i64 x.f2] : List Value)[i]? = some u → (flat3 rs)[j * 3 + i]? = some u := by
 induction rs with
 | nil => intro j x h; simp at h
 | cons r t ih =>
  intro j x h i u hu
  have hi : i < 3 := by
   have := (List.getElem?_eq_some_iff.1 hu).1
   simpa using this
  cases j with
  | zero =>
   obtain rfl := qoI h
   unfold flat3
   rw [List.flatMap_cons, List.getElem?_append_left (by simp; omega)]
   simpa using hu
  | succ j =>
   have := ih j x h i u hu
   unfold flat3 at this ⊢
   rw [List.flatMap_cons, List.getElem?_append_right (by simp; omega)]
   simp only [List.length_cons, List.length_nil]
   rw [show (j + 1) * 3 + i - (0 + 1 + 1 + 1) = j * 3 + i by omega]
   exact this
theorem C_flat3 (w : World) (rs : List S127) (t : TypeId) (hm : rs.length ≤ 1000000) : Kd.C k127 (w.alloc (.cells (flat3 rs).toArray t)) (some ⟨w.heap.size, 0, none⟩) rs.length rs := by
 refine ⟨rfl, by omega, fun _ => ⟨_, rfl, fun j p hj => ⟨_, rfl, k127_mk _ p, fun i u hu => ?_⟩⟩⟩
 rw [add_plain, World.cell?_alloc_new]
 have := flat3_get rs j p hj i u hu
 show (flat3 rs).toArray[j * 3 + i]? = some u
 simpa using this
noncomputable def ops95 : Array Oper := match Tryz.f53.body with
 | some (.seq _ (.seq (.region _ ops _) _)) => ops
 | _ => #[]
noncomputable def ops96 : Array Oper := match Tryz.f54.body with
 | some (.seq _ (.seq (.region _ ops _) _)) => ops
 | _ => #[]
noncomputable def op0 (f : Func) : Oper := match f.body with
 | some (.seq (.region _ ops _) _) => ops.toList.headD default
 | _ => default
noncomputable def tB : List T3 := ops95.toList.filterMap tripOf
noncomputable def tJ : List T3 := ops96.toList.filterMap tripOf
theorem tB_length : tB.length = 230 := by kernel_rfl
theorem tJ_length : tJ.length = 68 := by kernel_rfl
theorem rows127 : UTable.Rows Tryz.prog 74 151 := ⟨fun w => by simp, fun w => by simp, fun w => ⟨.agg #[.int .i64 0, .int .i64 0, .int .i64 0], by simp⟩⟩
theorem builds127 : Builds Tryz.prog 151 := by
 intro ev hev o r w ho
 unfold execOp
 simp [ho, T3.op, T3.v, Instr.build, hev, Instr.fill]
 rfl
theorem fn95 : TableFn Tryz.prog 74 151 53 Tryz.f53 (op0 Tryz.f53) ops95 tB (ops95.toList.getD 230 default) (ops95.toList.getD (230 + 1) default) 0 1 where
 get := Tryz.func53
 body := by kernel_rfl
 h0 := by refine ⟨?_, ?_, ?_⟩ <;> kernel_rfl
 rows := by kernel_rfl
 rest := by kernel_rfl
 hS := by rw [tB_length]; refine ⟨?_, ?_, ?_⟩ <;> kernel_rfl
 hA := by rw [tB_length]; refine ⟨?_, ?_, ?_⟩ <;> kernel_rfl
 ntmps := by rw [tB_length]; kernel_rfl
 res := by kernel_rfl
theorem fn96 : TableFn Tryz.prog 74 151 54 Tryz.f54 (op0 Tryz.f54) ops96 tJ (ops96.toList.getD 68 default) (ops96.toList.getD 69 default) 0 1 where
 get := Tryz.func54
 body := by kernel_rfl
 h0 := by refine ⟨?_, ?_, ?_⟩ <;> kernel_rfl
 rows := by kernel_rfl
 rest := by kernel_rfl
 hS := by rw [tJ_length]; refine ⟨?_, ?_, ?_⟩ <;> kernel_rfl
 hA := by rw [tJ_length]; refine ⟨?_, ?_, ?_⟩ <;> kernel_rfl
 ntmps := by rw [tJ_length]; kernel_rfl
 res := by kernel_rfl
noncomputable def rsB : List S127 := tB.map fun t => ⟨t.a, t.b, t.c⟩
noncomputable def rsJ : List S127 := tJ.map fun t => ⟨t.a, t.b, t.c⟩
theorem rsB_length : rsB.length = 230 := by unfold rsB; rw [qlm, tB_length]
theorem rsJ_length : rsJ.length = 68 := by unfold rsJ; rw [qlm, tJ_length]
theorem flat_map (l : List T3) : flat l = flat3 (l.map fun t => (⟨t.a, t.b, t.c⟩ : S127)) := by
 unfold flat flat3
 rw [List.flatMap_map]
theorem bidi_c (w : World) : Calls Tryz.prog 53 #[] w fun e w' => e = .returned (.slice (some ⟨w.heap.size, 0, none⟩) rsB.length rsB.length) ∧ Kd.C k127 w' (some ⟨w.heap.size, 0, none⟩) rsB.length rsB ∧ Below w.heap.size w w' := by
 refine (runF_ok 10 1 53 #[] w _ _ (table_run fn95 rows127 builds127 (by rw [tB_length]; decide) (fun h => by have := tB_length; rw [h] at this; simp at this) w)).mono ?_
 rintro e W ⟨rfl, rfl⟩
 rw [show tB.length = rsB.length by rw [tB_length, rsB_length]]
 refine ⟨rfl, ?_, qbA (qBr _ _) _⟩
 rw [flat_map]
 exact C_flat3 w rsB 151 (by rw [rsB_length]; decide)
theorem joinr_c (w : World) : Calls Tryz.prog 54 #[] w fun e w' => e = .returned (.slice (some ⟨w.heap.size, 0, none⟩) rsJ.length rsJ.length) ∧ Kd.C k127 w' (some ⟨w.heap.size, 0, none⟩) rsJ.length rsJ ∧ Below w.heap.size w w' := by
 refine (runF_ok 10 1 54 #[] w _ _ (table_run fn96 rows127 builds127 (by rw [tJ_length]; decide) (fun h => by have := tJ_length; rw [h] at this; simp at this) w)).mono ?_
 rintro e W ⟨rfl, rfl⟩
 rw [show tJ.length = rsJ.length by rw [tJ_length, rsJ_length]]
 refine ⟨rfl, ?_, qbA (qBr _ _) _⟩
 rw [flat_map]
 exact C_flat3 w rsJ 151 (by rw [rsJ_length]; decide)
def okb (last : Int) : List S127 → Bool
 | [] => true
 | r :: t => decide (last < r.f0) && decide (r.f0 ≤ r.f1) && decide (r.f1 ≤ 1114111) && decide (-1000 ≤ r.f2) && decide (r.f2 ≤ 1000) && okb r.f1 t
theorem rsB_okb : okb (-1) rsB = true := by kernel_rfl
theorem rsJ_okb : okb (-1) rsJ = true := by kernel_rfl
theorem ok_of_okb : ∀ (l : List S127) (last : Int), -1 ≤ last → okb last l = true → Ok l ∧ ∀ r ∈ l, last < r.f0 := by
 intro l
 induction l with
 | nil => intro last _ _; exact ⟨⟨List.Pairwise.nil, fun r h => by simp at h⟩, fun r h => by simp at h⟩
 | cons r t ih =>
  intro last h0 h
  simp only [okb, Bool.and_eq_true, decide_eq_true_eq] at h
  obtain ⟨⟨⟨⟨⟨h1, h2⟩, h3⟩, _⟩, _⟩, h4⟩ := h
  obtain ⟨ok, hb⟩ := ih r.f1 (by omega) h4
  refine ⟨⟨List.Pairwise.cons (fun b hb2 => hb b hb2) ok.apart, fun x hx => ?_⟩, fun x hx => ?_⟩
  ·rcases List.mem_cons.1 hx with rfl | hx
   ·exact ⟨by omega, h2, h3⟩
   ·exact ok.right x hx
  ·rcases List.mem_cons.1 hx with rfl | hx
   ·exact h1
   ·have := hb x hx; omega
theorem okB : Ok rsB := (ok_of_okb rsB (-1) (by omega) rsB_okb).1
theorem okJ : Ok rsJ := (ok_of_okb rsJ (-1) (by omega) rsJ_okb).1
theorem exec_shr7 {a : Act} {o : Oper} (w : World) (x : Operand) (c q : Nat) (hq : q = c / 128) (ho : o.op = .binOp .shr 3 x (.const (.int .u64 7)) 159) (hx : a.eval x = .int .i64 c) : (execOp a.eval o).run Tryz.prog w = .ok (.value (.int .i64 (q : Int))) w := by
 subst hq
 have h1 : (binOp .shr 3 (.int .i64 c) (.int .u64 7)) = pure (.int .i64 ((c : Int) / 2 ^ (7 : Int).toNat)) := shift_shr .i64 .u64 c 7 (by decide) (by decide)
 have h2 : ∀ u v, eqGuard .shr 3 x (.const (.int .u64 7)) u v = pure () := fun u v => rfl
 have he : a.eval (.const (.int .u64 7)) = .int .u64 7 := rfl
 have h128 : (c : Int) / 2 ^ (7 : Int).toNat = ((c / 128 : Nat) : Int) := by show (c : Int) / 128 = _; omega
 unfold execOp
 simp only [ho, hx, he, h2, h1, h128]
 rfl
theorem exec_and127 {a : Act} {o : Oper} (w : World) (x : Operand) (c r : Nat) (hc : c < 2000000) (hr : r = c % 128) (ho : o.op = .binOp .and 3 x (.const (.int .i64 127)) 3) (hx : a.eval x = .int .i64 c) : (execOp a.eval o).run Tryz.prog w = .ok (.value (.int .i64 (r : Int))) w := by
 subst hr
 have h1 : (binOp .and 3 (.int .i64 c) (.int .i64 127)) = pure (.int .i64 ((c % 128 : Nat) : Int)) := by
  show pure (Value.int .i64 (IntKind.i64.wrap ((BitVec.ofInt 64 (c : Int) &&& BitVec.ofInt 64 127).toNat : Int))) = _
  have e : (BitVec.ofInt 64 (c : Int) &&& BitVec.ofInt 64 127).toNat = c % 128 := by
   rw [BitVec.toNat_and, BitVec.toNat_ofInt, BitVec.toNat_ofInt]
   rw [show ((c : Int) % ((2 ^ 64 : Nat) : Int)).toNat = c by omega, show ((127 : Int) % ((2 ^ 64 : Nat) : Int)).toNat = 2 ^ 7 - 1 by decide]
   exact Nat.and_two_pow_sub_one_eq_mod c 7
  rw [e, IntWalk.i64_in _ (by omega)]
 have h2 : ∀ u v, eqGuard .and 3 x (.const (.int .i64 127)) u v = pure () := fun u v => rfl
 have he : a.eval (.const (.int .i64 127)) = .int .i64 127 := rfl
 unfold execOp
 simp only [ho, hx, he, h2, h1]
 rfl
theorem table_below {w w' : World} {l : List S127} {n : Int} {g : Nat} (h : Table w l n g) (hb : Below w.heap.size w w') : Table w' l n g := by
 obtain ⟨vf, v2, first, second, hT, h1, h2, tab⟩ := h
 exact ⟨vf, v2, first, second, (hb.block g (blk_lt hT)).trans hT, h1.below hb, h2.below hb, tab⟩
theorem getR_out (l : List S127) (ok : Ok l) (n c : Int) (h : c < 0 ∨ 1114111 < c) : getR l n c = n := getR_none l n c (fun r hr => by have := ok.right r hr; omega)
theorem at_c {w : World} {g : Nat} {l : List S127} {n : Int} (h : Table w l n g) (c : Nat) (hc : c ≤ 1114111) : Calls Tryz.prog 236 #[.pointer (some ⟨g, 0, none⟩), .int .i64 c] w fun e w' => e = .returned (.int .i64 (getR l n c)) ∧ Below w.heap.size w w' := by
 obtain ⟨vf, v2, first, second, hT, h1, h2, tab⟩ := h
 obtain ⟨A, cp, rfl, hlen, hC⟩ := h1
 obtain ⟨A2, cp2, rfl, hlen2, hC2⟩ := h2
 obtain ⟨i, hi, hf, hb⟩ := tab.each (c / 128) (by omega)
 have t0 : w.cell? ⟨g, 0, none⟩ = some (.slice A first.length cp) := (blk_cell hT 0).trans rfl
 have t1 : w.cell? ⟨g, 1, none⟩ = some (.slice A2 second.length cp2) := (blk_cell hT 1).trans rfl
 obtain ⟨ad, rfl, hcell⟩ := Kd.at_int hC ((c / 128 : Nat) : Int) (by omega) (by have := tab.len; omega)
 obtain ⟨ad2, rfl, hl2, hcell2⟩ := kb_at hC2 i hi
 have hv : (vs (second.getD i [])).toList[c % 128]? = some (.int .i64 (getR l n c)) := by
  rw [hb]
  have := blockL_get l n c
  have hlt : c % 128 < (blockL l n (c / 128)).length := by rw [blockL_length]; omega
  rw [qgD, qgG hlt, Option.getD_some] at this
  simp [vs, qgG hlt, this]
 have hcell2 := hcell2 _ _ hv
 have hlen1 := tab.len
 rw [qtN] at hcell
 rw [show rd first ((c / 128 : Nat) : Int) = (i : Int) by show first.getD _ 0 = _; rw [qtN]; exact hf] at hcell
 rw [hlen1] at t0
 obtain ⟨m, hm⟩ : ∃ m, m = second.length := ⟨_, rfl⟩
 rw [← hm] at t1 hi
 obtain ⟨q, hq⟩ : ∃ q, q = c / 128 := ⟨_, rfl⟩
 obtain ⟨r, hr⟩ : ∃ r, r = c % 128 := ⟨_, rfl⟩
 rw [← hq] at hcell
 rw [← hr] at hcell2
 have HQ := aMk hq
 have HR := aMk hr
 have hq1 : q < 8704 := by omega
 have hqI : (q : Int) < 8704 := by omega
 have hiI : (i : Int) < m := by omega
 have hrI : (r : Int) < 128 := by omega
 clear hq hr
 obtain ⟨X, hX⟩ : ∃ X, X = getR l n c := ⟨_, rfl⟩
 rw [← hX] at hcell2 ⊢
 clear hC hC2 hT tab hf hb hv hl2 hlen hlen2 hm hX hlen1
 go_enter Tryz.func236, Tryz.ntmps236
 go_wp2_with fail
 refine start_ (n := 18) (S := fun W => Below w.heap.size w W) (ds := []) #[false, false, false, false, false, false, false, false, false, false, false, false, false, false, false, false, false, false] (by kernel_rfl) (by kernel_rfl) (by rfl) (below_drew (qBr _ _)) (fun hS0 => ?_)
 refine pure_ (i := 0) (N := (some 5)) (v := ?_) (a' := ?_) #[true, false, false, false, false, false, false, false, false, false, false, false, false, false, false, false, false, false] rfl rfl (by kernel_rfl) (fun _ _ _ h => h) (Or.inl ⟨by rfl, ?_⟩) ?_ ?_
 rotate_left
 ·intro w'
  go_simp
  with_reducible rfl
 rotate_left
 ·simp only [Act.put, sqA, sq0, sq1]
  rfl
 refine pure_ (i := 1) (N := (some 6)) (v := ?_) (a' := ?_) #[true, true, false, false, false, false, false, false, false, false, false, false, false, false, false, false, false, false] rfl rfl (by kernel_rfl) (fun _ _ _ h => h) (Or.inl ⟨by rfl, ?_⟩) ?_ ?_
 rotate_left
 ·intro w'
  go_simp
  with_reducible rfl
 rotate_left
 ·simp only [Act.put, sqA, sq0, sq1]
  rfl
 refine pure_ (i := 2) (N := (some 7)) (v := ?_) (a' := ?_) #[true, true, true, false, false, false, false, false, false, false, false, false, false, false, false, false, false, false] rfl rfl (by kernel_rfl) (fun _ _ _ h => h) (Or.inl ⟨by rfl, ?_⟩) ?_ ?_
 rotate_left
 ·intro w'
  go_simp
  with_reducible rfl
 rotate_left
 ·simp only [Act.put, sqA, sq0, sq1]
  rfl
 refine take_ (i := 3) (N := (some 8)) (v := ?_) (a' := ?_) #[true, true, true, true, false, false, false, false, false, false, false, false, false, false, false, false, false, false] rfl rfl (by kernel_rfl) (fun _ _ _ h => h) (Or.inl ⟨by rfl, ?_⟩) hS0 ?_ ?_
 rotate_left
 ·intro w' s0
  have hx := (s0.cell (qwL _ _ t1)).trans t1
  go_simp
  with_reducible rfl
 rotate_left
 ·simp only [Act.put, sqA, sq0, sq1]
  rfl
 refine pure_ (i := 4) (N := (some 9)) (v := ?_) (a' := ?_) #[true, true, true, true, true, false, false, false, false, false, false, false, false, false, false, false, false, false] rfl rfl (by kernel_rfl) (fun _ _ _ h => h) (Or.inl ⟨by rfl, ?_⟩) ?_ ?_
 rotate_left
 ·intro w'
  go_simp
  with_reducible rfl
 rotate_left
 ·simp only [Act.put, sqA, sq0, sq1]
  rfl
 refine pure_ (i := 5) (N := (some 10)) (v := ?_) (a' := ?_) #[true, true, true, true, true, true, false, false, false, false, false, false, false, false, false, false, false, false] rfl rfl (by kernel_rfl) (fun _ _ _ h => h) (Or.inl ⟨by rfl, ?_⟩) ?_ ?_
 rotate_left
 ·intro w'
  go_simp
  with_reducible rfl
 rotate_left
 ·simp only [Act.put, sqA, sq0, sq1]
  rfl
 refine pure_ (i := 6) (N := (some 11)) (v := ?_) (a' := ?_) #[true, true, true, true, true, true, true, false, false, false, false, false, false, false, false, false, false, false] rfl rfl (by kernel_rfl) (fun _ _ _ h => h) (Or.inl ⟨by rfl, ?_⟩) ?_ ?_
 rotate_left
 ·intro w'
  go_simp
  with_reducible rfl
 rotate_left
 ·simp only [Act.put, sqA, sq0, sq1]
  rfl
 refine take_ (i := 7) (N := (some 12)) (v := ?_) (a' := ?_) #[true, true, true, true, true, true, true, true, false, false, false, false, false, false, false, false, false, false] rfl rfl (by kernel_rfl) (fun _ _ _ h => h) (Or.inl ⟨by rfl, ?_⟩) hS0 ?_ ?_
 rotate_left
 ·intro w' s0
  have hx := (s0.cell (qwL _ _ t0)).trans t0
  go_simp
  with_reducible rfl
 rotate_left
 ·simp only [Act.put, sqA, sq0, sq1]
  rfl
 refine pure_ (i := 8) (N := (some 13)) (v := ?_) (a' := ?_) #[true, true, true, true, true, true, true, true, true, false, false, false, false, false, false, false, false, false] rfl rfl (by kernel_rfl) (fun _ _ _ h => h) (Or.inl ⟨by rfl, ?_⟩) ?_ ?_
 rotate_left
 ·intro w'
  go_simp
  with_reducible rfl
 rotate_left
 ·simp only [Act.put, sqA, sq0, sq1]
  rfl
 refine pure_ (i := 9) (N := (some 14)) (v := ?_) (a' := ?_) #[true, true, true, true, true, true, true, true, true, true, false, false, false, false, false, false, false, false] rfl rfl (by kernel_rfl) (fun _ _ _ h => h) (Or.inl ⟨by rfl, ?_⟩) ?_ ?_
 rotate_left
 ·intro w'
  refine exec_shr7 w' (.tmp 13) c q HQ.out ?_ ?_
  ·rfl
  ·rfl
 rotate_left
 ·simp only [Act.put, sqA, sq0, sq1]
  rfl
 refine pure_ (i := 10) (N := (some 15)) (v := ?_) (a' := ?_) #[true, true, true, true, true, true, true, true, true, true, true, false, false, false, false, false, false, false] rfl rfl (by kernel_rfl) (fun _ _ _ h => h) (Or.inl ⟨by rfl, ?_⟩) ?_ ?_
 rotate_left
 ·intro w'
  go_simp
  with_reducible rfl
 rotate_left
 ·simp only [Act.put, sqA, sq0, sq1]
  rfl
 refine take_ (i := 11) (N := (some 16)) (v := ?_) (a' := ?_) #[true, true, true, true, true, true, true, true, true, true, true, true, false, false, false, false, false, false] rfl rfl (by kernel_rfl) (fun _ _ _ h => h) (Or.inl ⟨by rfl, ?_⟩) hS0 ?_ ?_
 rotate_left
 ·intro w' s0
  have hx := (s0.cell (qwL _ _ hcell)).trans hcell
  go_simp
  with_reducible rfl
 rotate_left
 ·simp only [Act.put, sqA, sq0, sq1]
  rfl
 refine pure_ (i := 12) (N := (some 17)) (v := ?_) (a' := ?_) #[true, true, true, true, true, true, true, true, true, true, true, true, true, false, false, false, false, false] rfl rfl (by kernel_rfl) (fun _ _ _ h => h) (Or.inl ⟨by rfl, ?_⟩) ?_ ?_
 rotate_left
 ·intro w'
  go_simp
  with_reducible rfl
 rotate_left
 ·simp only [Act.put, sqA, sq0, sq1]
  rfl
 refine pure_ (i := 13) (N := (some 18)) (v := ?_) (a' := ?_) #[true, true, true, true, true, true, true, true, true, true, true, true, true, true, false, false, false, false] rfl rfl (by kernel_rfl) (fun _ _ _ h => h) (Or.inl ⟨by rfl, ?_⟩) ?_ ?_
 rotate_left
 ·intro w'
  refine exec_and127 w' (.tmp 17) c r (by omega) HR.out ?_ ?_
  ·rfl
  ·rfl
 rotate_left
 ·simp only [Act.put, sqA, sq0, sq1]
  rfl
 refine pure_ (i := 14) (N := (some 19)) (v := ?_) (a' := ?_) #[true, true, true, true, true, true, true, true, true, true, true, true, true, true, true, false, false, false] rfl rfl (by kernel_rfl) (fun _ _ _ h => h) (Or.inl ⟨by rfl, ?_⟩) ?_ ?_
 rotate_left
 ·intro w'
  go_simp
  with_reducible rfl
 rotate_left
 ·simp only [Act.put, sqA, sq0, sq1]
  rfl
 refine pure_ (i := 15) (N := (some 20)) (v := ?_) (a' := ?_) #[true, true, true, true, true, true, true, true, true, true, true, true, true, true, true, true, false, false] rfl rfl (by kernel_rfl) (fun _ _ _ h => h) (Or.inl ⟨by rfl, ?_⟩) ?_ ?_
 rotate_left
 ·intro w'
  go_simp
  with_reducible rfl
 rotate_left
 ·simp only [Act.put, sqA, sq0, sq1]
  rfl
 refine take_ (i := 16) (N := (some 21)) (v := ?_) (a' := ?_) #[true, true, true, true, true, true, true, true, true, true, true, true, true, true, true, true, true, false] rfl rfl (by kernel_rfl) (fun _ _ _ h => h) (Or.inl ⟨by rfl, ?_⟩) hS0 ?_ ?_
 rotate_left
 ·intro w' s0
  have hx := (s0.cell (qwL _ _ hcell2)).trans hcell2
  go_simp
  with_reducible rfl
 rotate_left
 ·simp only [Act.put, sqA, sq0, sq1]
  rfl
 refine pure_ (i := 17) (N := (some 4)) (v := ?_) (a' := ?_) #[true, true, true, true, true, true, true, true, true, true, true, true, true, true, true, true, true, true] rfl rfl (by kernel_rfl) (fun _ _ _ h => h) (Or.inl ⟨by rfl, ?_⟩) ?_ ?_
 rotate_left
 ·intro w'
  go_simp
  with_reducible rfl
 rotate_left
 ·simp only [Act.put, sqA, sq0, sq1]
  rfl
 refine done_ (by kernel_rfl) ?_
 go_wp2
 go_ret
 exact ⟨rfl, by assumption⟩
theorem has_c {w : World} {g : Nat} {l : List S127} {n : Int} (h : Table w l n g) (c : Int) : Calls Tryz.prog 235 #[.pointer (some ⟨g, 0, none⟩), .int .i64 c] w fun e w' => e = .returned (.bool (decide (0 ≤ c) && decide (c ≤ 1114111))) ∧ Below w.heap.size w w' := by
 obtain ⟨vf, v2, first, second, hT, h1, h2, tab⟩ := h
 have t3 : w.cell? ⟨g, 3, none⟩ = some (.bool true) := (blk_cell hT 3).trans rfl
 clear hT h1 h2 tab
 go_enter Tryz.func235, Tryz.ntmps235
 by_cases h1 : 0 ≤ c
 ·by_cases h2 : c ≤ 1114111
  ·go_wp2
   go_ret
   exact ⟨by simp [h1, h2], qBr _ _⟩
  ·go_wp2
   go_ret
   exact ⟨by simp [h1, h2], qBr _ _⟩
 ·go_wp2
  go_ret
  exact ⟨by simp [h1]; omega, qBr _ _⟩
theorem get_c {w : World} {g : Nat} {l : List S127} {n : Int} (h : Table w l n g) (ok : Ok l) (c : Int) : Calls Tryz.prog 177 #[.pointer (some ⟨g, 0, none⟩), .int .i64 c] w fun e w' => e = .returned (.int .i64 (getR l n c)) ∧ Below w.heap.size w w' := by
 have H := aMk h
 have HOK := aMk ok
 obtain ⟨vf, v2, first, second, hT, h1, h2, tab⟩ := h
 have t2 : w.cell? ⟨g, 2, none⟩ = some (.int .i64 n) := (blk_cell hT 2).trans rfl
 have t0 : w.cell? ⟨g, 0, none⟩ = some vf := (blk_cell hT 0).trans rfl
 clear hT h1 h2 tab ok
 by_cases hin : 0 ≤ c ∧ c ≤ 1114111
 ·obtain ⟨k, rfl⟩ : ∃ k : Nat, c = k := ⟨c.toNat, by omega⟩
  have hk : k ≤ 1114111 := by omega
  have hb : (decide ((0 : Int) ≤ k) && decide ((k : Int) ≤ 1114111)) = true := by simp; omega
  clear hin
  go_enter Tryz.func177, Tryz.ntmps177
  go_wp2_with fail
  refine (has_c H.out _).mono ?_
  rintro e w1 ⟨rfl, hb1⟩
  rw [hb]
  have HB1 := aMk hb1; clear hb1
  go_wp2_with fail
  refine (at_c (table_below H.out HB1.out) k hk).mono ?_
  rintro e w2 ⟨rfl, hb2⟩
  have HB2 : Aside0 (Below w.heap.size w w2) := ⟨qbP HB1.out hb2⟩
  clear hb2
  go_wp2
  go_ret
  exact ⟨rfl, HB2.out⟩
 ·have hb : (decide ((0 : Int) ≤ c) && decide ((c : Int) ≤ 1114111)) = false := by simp; omega
  have hG := aMk (getR_out l HOK.out n c (by omega))
  clear hin
  go_enter Tryz.func177, Tryz.ntmps177
  go_wp2_with fail
  refine (has_c H.out _).mono ?_
  rintro e w1 ⟨rfl, hb1⟩
  rw [hb]
  have t2' : w1.cell? ⟨g, 2, none⟩ = some (.int .i64 n) := (hb1.cell (qwL _ _ t2)).trans t2
  have HB1 := aMk hb1; clear hb1
  go_wp2
  go_ret
  exact ⟨by rw [hG.out]; rfl, HB1.out⟩
def PropsAt (w : World) (g : Nat) : Prop := ∃ g1 g2 : Nat, w.heap[g]? = some (.cells #[.pointer (some ⟨g1, 0, none⟩), .pointer (some ⟨g2, 0, none⟩)] 79 (0, 0)) ∧ Table w rsB 0 g1 ∧ Table w rsJ 0 g2
theorem PropsAt.below {w w' : World} {g : Nat} (h : PropsAt w g) (hb : Below w.heap.size w w') : PropsAt w' g := by
 obtain ⟨g1, g2, hT, h1, h2⟩ := h
 exact ⟨g1, g2, (hb.block g (blk_lt hT)).trans hT, table_below h1 hb, table_below h2 hb⟩
noncomputable def cl (c : Int) : Int := if 0 ≤ c ∧ c ≤ 1114111 then getR rsB 0 c else 13
noncomputable def jn (c : Int) : Int := getR rsJ 0 c
theorem made_c {w : World} {g : Nat} (h : PropsAt w g) : Calls Tryz.prog 176 #[.pointer (some ⟨g, 0, none⟩)] w fun e w' => e = .returned (.bool true) ∧ Below w.heap.size w w' := by
 obtain ⟨g1, g2, hT, h1, h2⟩ := h
 have t0 : w.cell? ⟨g, 0, none⟩ = some (.pointer (some ⟨g1, 0, none⟩)) := (blk_cell hT 0).trans rfl
 clear hT h1 h2
 go_enter Tryz.func176, Tryz.ntmps176
 go_wp2
 go_ret
 exact ⟨rfl, qBr _ _⟩
theorem new_c (w : World) : Calls Tryz.prog 14 #[] w fun e w' => ∃ g : Nat, e = .returned (.pointer (some ⟨g, 0, none⟩)) ∧ PropsAt w' g ∧ Below w.heap.size w w' := by
 go_enter Tryz.func14, Tryz.ntmps14
 go_wp2_with fail
 refine (bidi_c w).mono ?_
 rintro e w1 ⟨rfl, hC1, hb1⟩
 have HB1 := aMk hb1
 have H1 : Aside0 (SLk k127 w1 (.slice (some ⟨w.heap.size, 0, none⟩) rsB.length rsB.length) rsB) := ⟨SLk.mk hC1 (qlR _)⟩
 clear hC1 hb1
 go_wp2_with fail
 refine (build_c 0 H1.out okB (by rw [rsB_length]; decide)).mono ?_
 rintro e w2 ⟨g1, rfl, hg1, hT1, hb2⟩
 have HB2 : Aside0 (Below w.heap.size w w2) := ⟨qbP HB1.out hb2⟩
 have HT1 := aMk hT1
 clear hT1 hb2 hg1
 go_wp2_with fail
 refine (joinr_c w2).mono ?_
 rintro e w3 ⟨rfl, hC3, hb3⟩
 have HB3 : Aside0 (Below w.heap.size w w3) := ⟨qbP HB2.out hb3⟩
 have HT3 : Aside0 (Table w3 rsB 0 g1) := ⟨table_below HT1.out hb3⟩
 have H3 : Aside0 (SLk k127 w3 (.slice (some ⟨w2.heap.size, 0, none⟩) rsJ.length rsJ.length) rsJ) := ⟨SLk.mk hC3 (qlR _)⟩
 clear hC3 hb3
 go_wp2_with fail
 refine (build_c 0 H3.out okJ (by rw [rsJ_length]; decide)).mono ?_
 rintro e w4 ⟨g2, rfl, hg2, hT4, hb4⟩
 have HB4 : Aside0 (Below w.heap.size w w4) := ⟨qbP HB3.out hb4⟩
 have HT4 : Aside0 (Table w4 rsB 0 g1) := ⟨table_below HT3.out hb4⟩
 have HJ4 := aMk hT4
 clear hT4 hb4 hg2
 go_wp2_with fail
 go_ret
 exact ⟨w4.heap.size, rfl, ⟨g1, g2, blk_new w4 _, table_below HT4.out (qbA (qBr _ _) _), table_below HJ4.out (qbA (qBr _ _) _)⟩, qbA HB4.out _⟩
end CProps
end
section
namespace PMarkOne

attribute [local go_sem] max2_int min2_int max_two min_two max_three min_three max_four min_four
-- the values' own types
structure S112 where
 f0 : Int
 f1 : Int
def z112 : S112 := ⟨(0 : Int), (0 : Int)⟩
def rd_T112 (xs : List S112) (i : Int) : S112 := xs.getD i.toNat z112
end PMarkOne
end
section
namespace PMarkOne

attribute [local go_sem] max2_int min2_int max_two min_two max_three min_three max_four min_four
mutual
def naskhref15_One.j0 : Nat → Int → Int → Bool → Int → Bool → Int → Bool → Int → Bool → Option (List Int)
 | 0, _, _, _, _, _, _, _, _, _ => none
 | k + 1, x0, x1, x2, x7, x8, x9, x10, x26, x27 => if x27 = true then (if x1 = 2 then (if x2 = true then (naskhref15_One.j1 k x0 x7 x8 x9 x10) else (naskhref15_One.j1 k x0 x7 x8 x9 false)) else (naskhref15_One.j1 k x0 x7 x8 x9 false)) else (if x26 = 3 then (some ([] : List Int)) else (if x26 = 4 then (if x2 = true then (some (([1600] : List Int))) else (some ([] : List Int))) else (some (([x0] : List Int)))))
def naskhref15_One.j1 : Nat → Int → Int → Bool → Int → Bool → Option (List Int)
 | 0, _, _, _, _, _ => none
 | k + 1, x0, x7, x8, x9, x37 => if x37 = true then (some (([x9] : List Int))) else (if x8 = true then (some (([x7] : List Int))) else (some (([x0] : List Int))))
end
def join_there.f (l0 : List Int) (a1 : Int) : Option (Bool) := if a1 ≥ 0 then (some (decide (a1 < (l0.length : Int)))) else (some false)
def join_walk.l0 : Nat → List Int → Int → Int → Option (Int)
 | 0, _, _, _ => none
 | k + 1, x0, x1, x2 => (join_there.f x0 x1).bind fun t169 => (if t169 = true then (if 0 ≤ x1 then (if x1 < (x0.length : Int) then (if (rd x0 x1) = 1 then (join_walk.l0 k x0 (wrap64 (x1 + x2)) x2) else (some x1)) else (none)) else (none)) else (some (-1)))
def join_walk.f (k : Nat) (l0 : List Int) (a1 : Int) (a2 : Int) : Option (Int) := (join_there.f l0 a1).bind fun t168 => (if t168 = true then (join_walk.l0 k l0 (wrap64 (a1 + a2)) a2) else (some (-1)))
def join_Ahead.f (k : Nat) (l0 : List Int) (a1 : Int) : Option (Int) := (join_walk.f k l0 a1 (-1)).bind fun t171 => (some t171)
def join_Behind.f (k : Nat) (l0 : List Int) (a1 : Int) : Option (Int) := (join_walk.f k l0 a1 1).bind fun t172 => (some t172)
def join_behind.f (a0 : Int) : Option (Bool) := if a0 = 3 then (some true) else (if a0 = 4 then (some true) else (if a0 = 5 then (some true) else (some false)))
def join_ahead.f (a0 : Int) : Option (Bool) := if a0 = 3 then (some true) else (if a0 = 2 then (some true) else (if a0 = 5 then (some true) else (some false)))
def join_Joined.f (k : Nat) (l0 : List Int) (a1 : Int) : Option (Bool) := (join_Behind.f k l0 a1).bind fun t173 => (if t173 ≥ 0 then (if 0 ≤ a1 then (if a1 < (l0.length : Int) then ((join_behind.f (rd l0 a1)).bind fun t175 => (if t175 = true then (if 0 ≤ t173 then (if t173 < (l0.length : Int) then ((join_ahead.f (rd l0 t173)).bind fun t177 => (some t177)) else (none)) else (none)) else (some false))) else (none)) else (none)) else (some false))
end PMarkOne
end
section
namespace PMarkOne

attribute [local go_sem] max2_int min2_int max_two min_two max_three min_three max_four min_four
def join_Over.j0 : Nat → List Int → Int → Bool → Option (Bool)
 | 0, _, _, _ => none
 | k + 1, x0, x1, x15 => if x15 = true then (some false) else ((join_Ahead.f k x0 x1).bind fun t180 => ((join_Joined.f k x0 t180).bind fun t181 => (some t181)))
def join_Over.f (k : Nat) (l0 : List Int) (a1 : Int) : Option (Bool) := (join_there.f l0 a1).bind fun t178 => (if t178 = true then (if 0 ≤ a1 then (if a1 < (l0.length : Int) then (join_Over.j0 k l0 a1 ((rd l0 a1) != 1)) else (none)) else (none)) else (join_Over.j0 k l0 a1 true))
def api_Piles.f  : Option ((List (S112))) := some (([(⟨1612, 64606⟩ : S112), (⟨1613, 64607⟩ : S112), (⟨1614, 64608⟩ : S112), (⟨1615, 64609⟩ : S112), (⟨1616, 64610⟩ : S112), (⟨1648, 64611⟩ : S112)] : List (S112)))
def forms_Pile.l0 : Nat → Int → List (S112) → Int → Int → Option (Int × Bool)
 | 0, _, _, _, _ => none
 | k + 1, x0, x6, x7, x8 => if x8 < x7 then (if 0 ≤ x8 then (if x8 < (x6.length : Int) then (if ((rd_T112 x6 x8).f0) = x0 then (some ((rd_T112 x6 x8).f1, true)) else (forms_Pile.l0 k x0 x6 x7 (wrap64 (x8 + 1)))) else (none)) else (none)) else (some (0, false))
def forms_Pile.f (k : Nat) (a0 : Int) : Option (Int × Bool) := (api_Piles.f).bind fun t185 => (forms_Pile.l0 k a0 t185 (t185.length : Int) 0)
mutual
def mark_Piles.l0 : Nat → List Int → List Int → List Int → Int → Int → Option (List Int)
 | 0, _, _, _, _, _ => none
 | k + 1, x0, x3, x8, x9, x10 => if x10 < x9 then (if 0 ≤ x10 then (if x10 < (x8.length : Int) then (if (rd x8 x10) = 1617 then (mark_Piles.j1 k x0 x3 x10 x8 x9 x10 ((wrap64 (x10 + 1)) == (x0.length : Int))) else (mark_Piles.j1 k x0 x3 x10 x8 x9 x10 true)) else (none)) else (none)) else (some x3)
def mark_Piles.j1 : Nat → List Int → List Int → Int → List Int → Int → Int → Bool → Option (List Int)
 | 0, _, _, _, _, _, _, _ => none
 | k + 1, x0, x3, x4, x8, x9, x10, x23 => if x23 = true then (mark_Piles.l0 k x0 x3 x8 x9 (wrap64 (x10 + 1))) else (if 0 ≤ (wrap64 (x4 + 1)) then (if (wrap64 (x4 + 1)) < (x0.length : Int) then ((forms_Pile.f k (rd x0 (wrap64 (x4 + 1)))).bind fun bt192 => (if bt192.2 = true then (if x3.length < 17592186044416 then (mark_Piles.l0 k x0 (x3 ++ [x4]) x8 x9 (wrap64 (x10 + 1))) else (none)) else (mark_Piles.l0 k x0 x3 x8 x9 (wrap64 (x10 + 1))))) else (none)) else (none))
end
def mark_Piles.f (k : Nat) (l0 : List Int) : Option (List Int) := mark_Piles.l0 k l0 ([] : List Int) l0 (l0.length : Int) 0
end PMarkOne
end
section
namespace UJoin
open U
def behindB (t : Int) : Bool := t == 3 || t == 4 || t == 5
def aheadB (t : Int) : Bool := t == 3 || t == 2 || t == 5
def up (types : List Int) : Nat → Nat → Int
 | _, 0 => -1
 | k, n + 1 => if rd types k = 1 then up types (k + 1) n else k
def down (types : List Int) : Nat → Int
 | 0 => -1
 | k + 1 => if rd types k = 1 then down types k else k
def next (types : List Int) (i : Nat) : Int := up types (i + 1) (types.length - (i + 1))
def aheadI (types : List Int) (i : Int) : Int := if 0 ≤ i ∧ i < types.length then down types i.toNat else -1
def behindI (types : List Int) (i : Int) : Int := if 0 ≤ i ∧ i < types.length then next types i.toNat else -1
def joinedI (types : List Int) (i : Int) : Bool := decide (0 ≤ behindI types i) && behindB (rd types i) && aheadB (rd types (behindI types i))
theorem up_range (types : List Int) (n : Nat) : ∀ k, up types k n = -1 ∨ ((k : Int) ≤ up types k n ∧ up types k n < k + n) := by
 induction n with
 | zero => intro k; exact .inl rfl
 | succ n ih =>
  intro k
  unfold up
  split
  ·rcases ih (k + 1) with h | h
   ·exact .inl h
   ·right; omega
  ·right; omega
end UJoin
end
section
namespace PJoinForms

attribute [local go_sem] max2_int min2_int max_two min_two max_three min_three max_four min_four
def slices_Equal_int_int.l0 : Nat → List Int → List Int → Int → Int → Option (Bool)
 | 0, _, _, _, _ => none
 | k + 1, x0, x1, x12, x13 => if x13 < x12 then (if 0 ≤ x13 then (if x13 < (x0.length : Int) then (if x13 < (x1.length : Int) then (if (rd x0 x13) = (rd x1 x13) then (slices_Equal_int_int.l0 k x0 x1 x12 (wrap64 (x13 + 1))) else (some false)) else (none)) else (none)) else (none)) else (some true)
def slices_Equal_int_int.f (k : Nat) (l0 : List Int) (l1 : List Int) : Option (Bool) := if (l0.length : Int) = (l1.length : Int) then (slices_Equal_int_int.l0 k l0 l1 (l0.length : Int) 0) else (some false)
theorem slices_Equal_int_int.calls (k : Nat) (A0 : Option Addr) (c0 : Nat) (l0 : List Int) (A1 : Option Addr) (c1 : Nat) (l1 : List Int) (r : Bool) (w : World) (hr0 : Kd.C (Kd.int .i64) w A0 l0.length l0) (hc0 : l0.length ≤ c0) (hr1 : Kd.C (Kd.int .i64) w A1 l1.length l1) (hc1 : l1.length ≤ c1) (h : slices_Equal_int_int.f k l0 l1 = some r) :
 Calls Tryz.prog 17 #[.slice A0 l0.length c0, .slice A1 l1.length c1] w fun e w' => e = .returned (.bool r) ∧ Drawn0 w w' := by
 have HR0 := aMk hr0
 have HC0 := aMk hc0
 clear hr0 hc0
 have HR1 := aMk hr1
 have HC1 := aMk hc1
 clear hr1 hc1
 have H : (if (l0.length : Int) = (l1.length : Int) then (slices_Equal_int_int.l0 k l0 l1 (l0.length : Int) 0) else (some false)) = some r := h
 clear h
 by_cases c3 : (l0.length : Int) = (l1.length : Int)
 ·rw [if_pos c3] at H
  have c3b0 : ((l0.length : Int) == (l1.length : Int)) = true := beq_iff_eq.mpr c3
  have c3b1 : ((l0.length : Int) != (l1.length : Int)) = false := bne_eq_false_iff_eq.mpr c3
  have c3b2 : (l0.length == l1.length) = true := by first | simpa using c3 | (simp at c3 ⊢; omega)
  clear c3
  have H' := aMk H
  clear H
  go_enter Tryz.func17, Tryz.ntmps17
  go_wp2
  repeat (go_quiet (fail); try go_wp2)
  go_loopg [13] k (fun kq v13 w' => ∃ (x13_1 : Int), v13 = .int .i64 x13_1 ∧ Aside0 (slices_Equal_int_int.l0 kq l0 l1 (l0.length : Int) x13_1 = some r) ∧ Aside0 (kq ≤ k) ∧ Drawn0 w w')
  case atStart => exact ⟨(0), rfl, H', ⟨qlR _⟩, by repeat (first | exact qDr _ | apply qDs)⟩
  case round =>
   clear H'
   obtain ⟨x13_1, rfl, HA, HK1, ⟨m1, rfl⟩⟩ := hrel
   cases gk with
   | zero => exact absurd HA.out (by simp [slices_Equal_int_int.l0])
   | succ k1 =>
    have H := HA.out
    clear HA
    simp only [slices_Equal_int_int.l0] at H
    by_cases c4 : x13_1 < (l0.length : Int)
    ·rw [if_pos c4] at H
     have c4b0 := qdT c4
     clear c4
     by_cases c5 : 0 ≤ x13_1
     ·rw [if_pos c5] at H
      have c5b0 := qdT c5
      clear c5
      by_cases c6 : x13_1 < (l0.length : Int)
      ·rw [if_pos c6] at H
       have c6b0 := qdT c6
       clear c6
       by_cases c7 : x13_1 < (l1.length : Int)
       ·rw [if_pos c7] at H
        have c7b0 := qdT c7
        clear c7
        by_cases c8 : (rd l0 x13_1) = (rd l1 x13_1)
        ·rw [if_pos c8] at H
         have c8b0 : ((rd l0 x13_1) == (rd l1 x13_1)) = true := beq_iff_eq.mpr c8
         have c8b1 : ((rd l0 x13_1) != (rd l1 x13_1)) = false := bne_eq_false_iff_eq.mpr c8
         clear c8
         have H' := aMk H
         clear H
         have p101 : 0 ≤ (x13_1 : Int) := qoD (by assumption)
         have q101 : x13_1 < (l0.length : Int) := qoD (by assumption)
         obtain ⟨ad101, e101, hx101_0⟩ := Kd.at_int HR0.out x13_1 p101 q101
         cases e101
         replace p101 := eq_true p101
         replace q101 := eq_true q101
         have p102 : 0 ≤ (x13_1 : Int) := qoD (by assumption)
         have q102 : x13_1 < (l1.length : Int) := qoD (by assumption)
         obtain ⟨ad102, e102, hx102_0⟩ := Kd.at_int HR1.out x13_1 p102 q102
         cases e102
         replace p102 := eq_true p102
         replace q102 := eq_true q102
         go_wp2
         repeat (go_quiet (fail); try go_wp2)
         go_roundg k1
         case measure => have := HK1.out; omega
         case rel => exact ⟨(wrap64 (x13_1 + 1)), rfl, H', ⟨by have := HK1.out; omega⟩, by repeat (first | exact qDr _ | apply qDs)⟩
        ·rw [if_neg c8] at H
         have c8b0 : ((rd l0 x13_1) == (rd l1 x13_1)) = false := beq_eq_false_iff_ne.mpr c8
         have c8b1 : ((rd l0 x13_1) != (rd l1 x13_1)) = true := bne_iff_ne.mpr c8
         obtain rfl := qoI H
         have p101 : 0 ≤ (x13_1 : Int) := qoD (by assumption)
         have q101 : x13_1 < (l0.length : Int) := qoD (by assumption)
         obtain ⟨ad101, e101, hx101_0⟩ := Kd.at_int HR0.out x13_1 p101 q101
         cases e101
         replace p101 := eq_true p101
         replace q101 := eq_true q101
         have p102 : 0 ≤ (x13_1 : Int) := qoD (by assumption)
         have q102 : x13_1 < (l1.length : Int) := qoD (by assumption)
         obtain ⟨ad102, e102, hx102_0⟩ := Kd.at_int HR1.out x13_1 p102 q102
         cases e102
         replace p102 := eq_true p102
         replace q102 := eq_true q102
         go_wp2
         repeat (go_quiet (fail); try go_wp2)
         go_ret
         exact ⟨by first | rfl | (simp; done) | (simp [*]; done), by repeat (first | exact qDr _ | apply qDs)⟩
       ·rw [if_neg c7] at H
        exact absurd H (by simp)
      ·rw [if_neg c6] at H
       exact absurd H (by simp)
     ·rw [if_neg c5] at H
      exact absurd H (by simp)
    ·rw [if_neg c4] at H
     have c4b0 := qdF c4
     clear c4
     obtain rfl := qoI H
     go_wp2
     repeat (go_quiet (fail); try go_wp2)
     go_ret
     exact ⟨by first | rfl | (simp; done) | (simp [*]; done), by repeat (first | exact qDr _ | apply qDs)⟩
 ·rw [if_neg c3] at H
  have c3b0 : ((l0.length : Int) == (l1.length : Int)) = false := beq_eq_false_iff_ne.mpr c3
  have c3b1 : ((l0.length : Int) != (l1.length : Int)) = true := bne_iff_ne.mpr c3
  have c3b2 : (l0.length == l1.length) = false := by first | simpa using c3 | (simp at c3 ⊢; omega)
  obtain rfl := qoI H
  go_enter Tryz.func17, Tryz.ntmps17
  go_wp2
  repeat (go_quiet (fail); try go_wp2)
  go_ret
  exact ⟨by first | rfl | (simp; done) | (simp [*]; done), by repeat (first | exact qDr _ | apply qDs)⟩
def join_behind.f (a0 : Int) : Option (Bool) := if a0 = 3 then (some true) else (if a0 = 4 then (some true) else (if a0 = 5 then (some true) else (some false)))
theorem join_behind.calls (a0 : Int) (r : Bool) (w : World) (h : join_behind.f a0 = some r) :
 Calls Tryz.prog 218 #[.int .i64 a0] w fun e w' => e = .returned (.bool r) ∧ Drawn0 w w' := by
 have H : (if a0 = 3 then (some true) else (if a0 = 4 then (some true) else (if a0 = 5 then (some true) else (some false)))) = some r := h
 clear h
 by_cases c2 : a0 = 3
 ·rw [if_pos c2] at H
  have c2b0 : (a0 == 3) = true := beq_iff_eq.mpr c2
  have c2b1 : (a0 != 3) = false := bne_eq_false_iff_eq.mpr c2
  clear c2
  obtain rfl := qoI H
  go_enter Tryz.func218, Tryz.ntmps218
  go_wp2
  go_ret
  exact ⟨by first | rfl | (simp; done) | (simp [*]; done), by repeat (first | exact qDr _ | apply qDs)⟩
 ·rw [if_neg c2] at H
  have c2b0 : (a0 == 3) = false := beq_eq_false_iff_ne.mpr c2
  have c2b1 : (a0 != 3) = true := bne_iff_ne.mpr c2
  by_cases c3 : a0 = 4
  ·rw [if_pos c3] at H
   have c3b0 : (a0 == 4) = true := beq_iff_eq.mpr c3
   have c3b1 : (a0 != 4) = false := bne_eq_false_iff_eq.mpr c3
   clear c3
   obtain rfl := qoI H
   go_enter Tryz.func218, Tryz.ntmps218
   go_wp2
   go_ret
   exact ⟨by first | rfl | (simp; done) | (simp [*]; done), by repeat (first | exact qDr _ | apply qDs)⟩
  ·rw [if_neg c3] at H
   have c3b0 : (a0 == 4) = false := beq_eq_false_iff_ne.mpr c3
   have c3b1 : (a0 != 4) = true := bne_iff_ne.mpr c3
   by_cases c4 : a0 = 5
   ·rw [if_pos c4] at H
    have c4b0 : (a0 == 5) = true := beq_iff_eq.mpr c4
    have c4b1 : (a0 != 5) = false := bne_eq_false_iff_eq.mpr c4
    clear c4
    obtain rfl := qoI H
    go_enter Tryz.func218, Tryz.ntmps218
    go_wp2
    go_ret
    exact ⟨by first | rfl | (simp; done) | (simp [*]; done), by repeat (first | exact qDr _ | apply qDs)⟩
   ·rw [if_neg c4] at H
    have c4b0 : (a0 == 5) = false := beq_eq_false_iff_ne.mpr c4
    have c4b1 : (a0 != 5) = true := bne_iff_ne.mpr c4
    obtain rfl := qoI H
    go_enter Tryz.func218, Tryz.ntmps218
    go_wp2
    go_ret
    exact ⟨by first | rfl | (simp; done) | (simp [*]; done), by repeat (first | exact qDr _ | apply qDs)⟩
def join_ahead.f (a0 : Int) : Option (Bool) := if a0 = 3 then (some true) else (if a0 = 2 then (some true) else (if a0 = 5 then (some true) else (some false)))
theorem join_ahead.calls (a0 : Int) (r : Bool) (w : World) (h : join_ahead.f a0 = some r) :
 Calls Tryz.prog 219 #[.int .i64 a0] w fun e w' => e = .returned (.bool r) ∧ Drawn0 w w' := by
 have H : (if a0 = 3 then (some true) else (if a0 = 2 then (some true) else (if a0 = 5 then (some true) else (some false)))) = some r := h
 clear h
 by_cases c2 : a0 = 3
 ·rw [if_pos c2] at H
  have c2b0 : (a0 == 3) = true := beq_iff_eq.mpr c2
  have c2b1 : (a0 != 3) = false := bne_eq_false_iff_eq.mpr c2
  clear c2
  obtain rfl := qoI H
  go_enter Tryz.func219, Tryz.ntmps219
  go_wp2
  go_ret
  exact ⟨by first | rfl | (simp; done) | (simp [*]; done), by repeat (first | exact qDr _ | apply qDs)⟩
 ·rw [if_neg c2] at H
  have c2b0 : (a0 == 3) = false := beq_eq_false_iff_ne.mpr c2
  have c2b1 : (a0 != 3) = true := bne_iff_ne.mpr c2
  by_cases c3 : a0 = 2
  ·rw [if_pos c3] at H
   have c3b0 : (a0 == 2) = true := beq_iff_eq.mpr c3
   have c3b1 : (a0 != 2) = false := bne_eq_false_iff_eq.mpr c3
   clear c3
   obtain rfl := qoI H
   go_enter Tryz.func219, Tryz.ntmps219
   go_wp2
   go_ret
   exact ⟨by first | rfl | (simp; done) | (simp [*]; done), by repeat (first | exact qDr _ | apply qDs)⟩
  ·rw [if_neg c3] at H
   have c3b0 : (a0 == 2) = false := beq_eq_false_iff_ne.mpr c3
   have c3b1 : (a0 != 2) = true := bne_iff_ne.mpr c3
   by_cases c4 : a0 = 5
   ·rw [if_pos c4] at H
    have c4b0 : (a0 == 5) = true := beq_iff_eq.mpr c4
    have c4b1 : (a0 != 5) = false := bne_eq_false_iff_eq.mpr c4
    clear c4
    obtain rfl := qoI H
    go_enter Tryz.func219, Tryz.ntmps219
    go_wp2
    go_ret
    exact ⟨by first | rfl | (simp; done) | (simp [*]; done), by repeat (first | exact qDr _ | apply qDs)⟩
   ·rw [if_neg c4] at H
    have c4b0 : (a0 == 5) = false := beq_eq_false_iff_ne.mpr c4
    have c4b1 : (a0 != 5) = true := bne_iff_ne.mpr c4
    obtain rfl := qoI H
    go_enter Tryz.func219, Tryz.ntmps219
    go_wp2
    go_ret
    exact ⟨by first | rfl | (simp; done) | (simp [*]; done), by repeat (first | exact qDr _ | apply qDs)⟩
def join_there.f (l0 : List Int) (a1 : Int) : Option (Bool) := if a1 ≥ 0 then (some (decide (a1 < (l0.length : Int)))) else (some false)
theorem join_there.calls (A0 : Option Addr) (c0 : Nat) (l0 : List Int) (a1 : Int) (r : Bool) (w : World) (hr0 : Kd.C (Kd.int .i64) w A0 l0.length l0) (hc0 : l0.length ≤ c0) (h : join_there.f l0 a1 = some r) :
 Calls Tryz.prog 267 #[.slice A0 l0.length c0, .int .i64 a1] w fun e w' => e = .returned (.bool r) ∧ Drawn0 w w' := by
 have HR0 := aMk hr0
 have HC0 := aMk hc0
 clear hr0 hc0
 have H : (if a1 ≥ 0 then (some (decide (a1 < (l0.length : Int)))) else (some false)) = some r := h
 clear h
 by_cases c3 : a1 ≥ 0
 ·rw [if_pos c3] at H
  have c3b0 : decide (0 ≤ a1) = true := qdT c3
  clear c3
  obtain rfl := qoI H
  go_enter Tryz.func267, Tryz.ntmps267
  go_wp2
  go_ret
  exact ⟨by first | rfl | (simp; done) | (simp [*]; done), by repeat (first | exact qDr _ | apply qDs)⟩
 ·rw [if_neg c3] at H
  have c3b0 : decide (0 ≤ a1) = false := qdF c3
  clear c3
  obtain rfl := qoI H
  go_enter Tryz.func267, Tryz.ntmps267
  go_wp2
  go_ret
  exact ⟨by first | rfl | (simp; done) | (simp [*]; done), by repeat (first | exact qDr _ | apply qDs)⟩
def join_walk.l0 : Nat → List Int → Int → Int → Option (Int)
 | 0, _, _, _ => none
 | k + 1, x0, x1, x2 => (join_there.f x0 x1).bind fun t104 => (if t104 = true then (if 0 ≤ x1 then (if x1 < (x0.length : Int) then (if (rd x0 x1) = 1 then (join_walk.l0 k x0 (wrap64 (x1 + x2)) x2) else (some x1)) else (none)) else (none)) else (some (-1)))
def join_walk.f (k : Nat) (l0 : List Int) (a1 : Int) (a2 : Int) : Option (Int) := (join_there.f l0 a1).bind fun t103 => (if t103 = true then (join_walk.l0 k l0 (wrap64 (a1 + a2)) a2) else (some (-1)))
theorem join_walk.calls (k : Nat) (A0 : Option Addr) (c0 : Nat) (l0 : List Int) (a1 : Int) (a2 : Int) (r : Int) (w : World) (hr0 : Kd.C (Kd.int .i64) w A0 l0.length l0) (hc0 : l0.length ≤ c0) (h : join_walk.f k l0 a1 a2 = some r) :
 Calls Tryz.prog 237 #[.slice A0 l0.length c0, .int .i64 a1, .int .i64 a2] w fun e w' => e = .returned (.int .i64 r) ∧ Drawn0 w w' := by
 have HR0 := aMk hr0
 have HC0 := aMk hc0
 clear hr0 hc0
 have H : ((join_there.f l0 a1).bind fun t103 => (if t103 = true then (join_walk.l0 k l0 (wrap64 (a1 + a2)) a2) else (some (-1)))) = some r := h
 clear h
 replace H := qoB.mp H
 obtain ⟨t103, A40, H⟩ := H
 try dsimp only at H
 have A4 := aMk A40; clear A40
 by_cases c5 : t103 = true
 ·subst c5
  rw [if_pos rfl] at H
  have H' := aMk H
  clear H
  go_enter Tryz.func237, Tryz.ntmps237
  go_wp2_with (first | ((with_reducible refine gate_callee (f := 267) rfl ?_); refine goesL_ (some 9) rfl rfl Tryz.func267 (by kernel_rfl) rfl #[.slice A0 l0.length c0, .int .i64 a1] rfl (by (try simp only [lm0, lm1, lm2]); first | done | rfl | (simp only [lm3, lm4]; rfl)) ?_; (with_reducible refine (join_there.calls _ _ l0 a1 true _ ?side1 ?side2 A4.out).mono ?_); (case side1 => exact HR0.out); (case side2 => exact HC0.out); rintro e w' ⟨rfl, ⟨nd, rfl⟩⟩; refine ⟨_, rfl, ?_⟩))
  go_loopg [1] k (fun kq v1 w' => ∃ (x1_1 : Int), v1 = .int .i64 x1_1 ∧ Aside0 (join_walk.l0 kq l0 x1_1 a2 = some r) ∧ Aside0 (kq ≤ k) ∧ Drawn0 w w')
  case atStart => exact ⟨(wrap64 (a1 + a2)), rfl, H', ⟨qlR _⟩, by repeat (first | exact qDr _ | apply qDs)⟩
  case round =>
   clear H'
   obtain ⟨x1_1, rfl, HA, HK1, ⟨m1, rfl⟩⟩ := hrel
   cases gk with
   | zero => exact absurd HA.out (by simp [join_walk.l0])
   | succ k1 =>
    have H := HA.out
    clear HA
    simp only [join_walk.l0] at H
    replace H := qoB.mp H
    obtain ⟨t104, A60, H⟩ := H
    try dsimp only at H
    have A6 := aMk A60; clear A60
    by_cases c7 : t104 = true
    ·subst c7
     rw [if_pos rfl] at H
     by_cases c8 : 0 ≤ x1_1
     ·rw [if_pos c8] at H
      have c8b0 := qdT c8
      clear c8
      by_cases c9 : x1_1 < (l0.length : Int)
      ·rw [if_pos c9] at H
       have c9b0 := qdT c9
       clear c9
       by_cases c10 : (rd l0 x1_1) = 1
       ·rw [if_pos c10] at H
        have c10b0 : ((rd l0 x1_1) == 1) = true := beq_iff_eq.mpr c10
        have c10b1 : ((rd l0 x1_1) != 1) = false := bne_eq_false_iff_eq.mpr c10
        clear c10
        have H' := aMk H
        clear H
        go_wp2_with (first | ((with_reducible refine gate_callee (f := 267) rfl ?_); refine goesL_ (some 16) rfl rfl Tryz.func267 (by kernel_rfl) rfl #[.slice A0 l0.length c0, .int .i64 x1_1] rfl (by (try simp only [lm0, lm1, lm2]); first | done | rfl | (simp only [lm3, lm4]; rfl)) ?_; (with_reducible refine (join_there.calls _ _ l0 x1_1 true _ ?side1 ?side2 A6.out).mono ?_); (case side1 => exact HR0.out); (case side2 => exact HC0.out); rintro e w' ⟨rfl, ⟨nd, rfl⟩⟩; refine ⟨_, rfl, ?_⟩; have p105 : 0 ≤ (x1_1 : Int) := qoD (by assumption); have q105 : x1_1 < (l0.length : Int) := qoD (by assumption); obtain ⟨ad105, e105, hx105_0⟩ := Kd.at_int HR0.out x1_1 p105 q105; cases e105; replace p105 := eq_true p105; replace q105 := eq_true q105))
        go_roundg k1
        case measure => have := HK1.out; omega
        case rel => exact ⟨(wrap64 (x1_1 + a2)), rfl, H', ⟨by have := HK1.out; omega⟩, by repeat (first | exact qDr _ | apply qDs)⟩
       ·rw [if_neg c10] at H
        have c10b0 : ((rd l0 x1_1) == 1) = false := beq_eq_false_iff_ne.mpr c10
        have c10b1 : ((rd l0 x1_1) != 1) = true := bne_iff_ne.mpr c10
        obtain rfl := qoI H
        go_wp2_with (first | ((with_reducible refine gate_callee (f := 267) rfl ?_); refine goesL_ (some 16) rfl rfl Tryz.func267 (by kernel_rfl) rfl #[.slice A0 l0.length c0, .int .i64 x1_1] rfl (by (try simp only [lm0, lm1, lm2]); first | done | rfl | (simp only [lm3, lm4]; rfl)) ?_; (with_reducible refine (join_there.calls _ _ l0 x1_1 true _ ?side1 ?side2 A6.out).mono ?_); (case side1 => exact HR0.out); (case side2 => exact HC0.out); rintro e w' ⟨rfl, ⟨nd, rfl⟩⟩; refine ⟨_, rfl, ?_⟩; have p105 : 0 ≤ (x1_1 : Int) := qoD (by assumption); have q105 : x1_1 < (l0.length : Int) := qoD (by assumption); obtain ⟨ad105, e105, hx105_0⟩ := Kd.at_int HR0.out x1_1 p105 q105; cases e105; replace p105 := eq_true p105; replace q105 := eq_true q105))
        go_ret
        exact ⟨by first | rfl | (simp; done) | (simp [*]; done), by repeat (first | exact qDr _ | apply qDs)⟩
      ·rw [if_neg c9] at H
       exact absurd H (by simp)
     ·rw [if_neg c8] at H
      exact absurd H (by simp)
    ·replace c7 := qbE.mpr c7
     subst c7
     rw [if_neg (show ¬ (false = true) by decide)] at H
     obtain rfl := qoI H
     go_wp2_with (first | ((with_reducible refine gate_callee (f := 267) rfl ?_); refine goesL_ (some 16) rfl rfl Tryz.func267 (by kernel_rfl) rfl #[.slice A0 l0.length c0, .int .i64 x1_1] rfl (by (try simp only [lm0, lm1, lm2]); first | done | rfl | (simp only [lm3, lm4]; rfl)) ?_; (with_reducible refine (join_there.calls _ _ l0 x1_1 false _ ?side1 ?side2 A6.out).mono ?_); (case side1 => exact HR0.out); (case side2 => exact HC0.out); rintro e w' ⟨rfl, ⟨nd, rfl⟩⟩; refine ⟨_, rfl, ?_⟩))
     go_ret
     exact ⟨by first | rfl | (simp; done) | (simp [*]; done), by repeat (first | exact qDr _ | apply qDs)⟩
 ·replace c5 := qbE.mpr c5
  subst c5
  rw [if_neg (show ¬ (false = true) by decide)] at H
  obtain rfl := qoI H
  go_enter Tryz.func237, Tryz.ntmps237
  go_wp2_with (first | ((with_reducible refine gate_callee (f := 267) rfl ?_); refine goesL_ (some 9) rfl rfl Tryz.func267 (by kernel_rfl) rfl #[.slice A0 l0.length c0, .int .i64 a1] rfl (by (try simp only [lm0, lm1, lm2]); first | done | rfl | (simp only [lm3, lm4]; rfl)) ?_; (with_reducible refine (join_there.calls _ _ l0 a1 false _ ?side1 ?side2 A4.out).mono ?_); (case side1 => exact HR0.out); (case side2 => exact HC0.out); rintro e w' ⟨rfl, ⟨nd, rfl⟩⟩; refine ⟨_, rfl, ?_⟩))
  go_ret
  exact ⟨by first | rfl | (simp; done) | (simp [*]; done), by repeat (first | exact qDr _ | apply qDs)⟩
def join_Ahead.f (k : Nat) (l0 : List Int) (a1 : Int) : Option (Int) := (join_walk.f k l0 a1 (-1)).bind fun t106 => (some t106)
def join_Behind.f (k : Nat) (l0 : List Int) (a1 : Int) : Option (Int) := (join_walk.f k l0 a1 1).bind fun t107 => (some t107)
theorem join_Behind.calls (k : Nat) (A0 : Option Addr) (c0 : Nat) (l0 : List Int) (a1 : Int) (r : Int) (w : World) (hr0 : Kd.C (Kd.int .i64) w A0 l0.length l0) (hc0 : l0.length ≤ c0) (h : join_Behind.f k l0 a1 = some r) :
 Calls Tryz.prog 180 #[.slice A0 l0.length c0, .int .i64 a1] w fun e w' => e = .returned (.int .i64 r) ∧ Drawn0 w w' := by
 have HR0 := aMk hr0
 have HC0 := aMk hc0
 clear hr0 hc0
 have H : ((join_walk.f k l0 a1 1).bind fun t107 => (some t107)) = some r := h
 clear h
 replace H := qoB.mp H
 obtain ⟨t107, A30, H⟩ := H
 replace H : (some t107) = some r := H
 have A3 := aMk A30; clear A30
 obtain rfl := qoI H
 go_enter Tryz.func180, Tryz.ntmps180
 go_wp2_with (first | ((with_reducible refine gate_callee (f := 237) rfl ?_); refine goesL_ (some 7) rfl rfl Tryz.func237 (by kernel_rfl) rfl #[.slice A0 l0.length c0, .int .i64 a1, .int .i64 1] rfl (by (try simp only [lm0, lm1, lm2]); first | done | rfl | (simp only [lm3, lm4]; rfl)) ?_; (with_reducible refine (join_walk.calls k _ _ l0 a1 1 t107 _ ?side1 ?side2 A3.out).mono ?_); (case side1 => repeat (first | exact HR0.out | (with_reducible refine Kd.C_alloc ?_ _) | (with_reducible refine Kd.C_drewN ?_ _) | (with_reducible refine Kd.C_drew ?_))); (case side2 => exact HC0.out); rintro e w' ⟨rfl, ⟨nd, rfl⟩⟩; refine ⟨_, rfl, ?_⟩))
 go_ret
 exact ⟨by first | rfl | (simp; done) | (simp [*]; done), by repeat (first | exact qDr _ | apply qDs)⟩
def join_Joined.f (k : Nat) (l0 : List Int) (a1 : Int) : Option (Bool) := (join_Behind.f k l0 a1).bind fun t108 => (if t108 ≥ 0 then (if 0 ≤ a1 then (if a1 < (l0.length : Int) then ((join_behind.f (rd l0 a1)).bind fun t110 => (if t110 = true then (if 0 ≤ t108 then (if t108 < (l0.length : Int) then ((join_ahead.f (rd l0 t108)).bind fun t112 => (some t112)) else (none)) else (none)) else (some false))) else (none)) else (none)) else (some false))
theorem join_Joined.calls (k : Nat) (A0 : Option Addr) (c0 : Nat) (l0 : List Int) (a1 : Int) (r : Bool) (w : World) (hr0 : Kd.C (Kd.int .i64) w A0 l0.length l0) (hc0 : l0.length ≤ c0) (h : join_Joined.f k l0 a1 = some r) :
 Calls Tryz.prog 179 #[.slice A0 l0.length c0, .int .i64 a1] w fun e w' => e = .returned (.bool r) ∧ Drawn0 w w' := by
 have HR0 := aMk hr0
 have HC0 := aMk hc0
 clear hr0 hc0
 have H : ((join_Behind.f k l0 a1).bind fun t108 => (if t108 ≥ 0 then (if 0 ≤ a1 then (if a1 < (l0.length : Int) then ((join_behind.f (rd l0 a1)).bind fun t110 => (if t110 = true then (if 0 ≤ t108 then (if t108 < (l0.length : Int) then ((join_ahead.f (rd l0 t108)).bind fun t112 => (some t112)) else (none)) else (none)) else (some false))) else (none)) else (none)) else (some false))) = some r := h
 clear h
 replace H := qoB.mp H
 obtain ⟨t108, A30, H⟩ := H
 try dsimp only at H
 have A3 := aMk A30; clear A30
 by_cases c4 : t108 ≥ 0
 ·rw [if_pos c4] at H
  have c4b0 := qdT c4
  clear c4
  by_cases c5 : 0 ≤ a1
  ·rw [if_pos c5] at H
   have c5b0 := qdT c5
   clear c5
   by_cases c6 : a1 < (l0.length : Int)
   ·rw [if_pos c6] at H
    have c6b0 := qdT c6
    clear c6
    replace H := qoB.mp H
    obtain ⟨t110, A70, H⟩ := H
    try dsimp only at H
    have A7 := aMk A70; clear A70
    by_cases c8 : t110 = true
    ·subst c8
     rw [if_pos rfl] at H
     by_cases c9 : 0 ≤ t108
     ·rw [if_pos c9] at H
      have c9b0 := qdT c9
      clear c9
      by_cases c10 : t108 < (l0.length : Int)
      ·rw [if_pos c10] at H
       have c10b0 := qdT c10
       clear c10
       replace H := qoB.mp H
       obtain ⟨t112, A110, H⟩ := H
       try dsimp only at H
       have A11 := aMk A110; clear A110
       obtain rfl := qoI H
       go_enter Tryz.func179, Tryz.ntmps179
       go_wp2_with (first | ((with_reducible refine gate_callee (f := 180) rfl ?_); refine goesL_ (some 8) rfl rfl Tryz.func180 (by kernel_rfl) rfl #[.slice A0 l0.length c0, .int .i64 a1] rfl (by (try simp only [lm0, lm1, lm2]); first | done | rfl | (simp only [lm3, lm4]; rfl)) ?_; (with_reducible refine (join_Behind.calls k _ _ l0 a1 t108 _ ?side1 ?side2 A3.out).mono ?_); (case side1 => exact HR0.out); (case side2 => exact HC0.out); rintro e w' ⟨rfl, ⟨nd, rfl⟩⟩; refine ⟨_, rfl, ?_⟩; have p109 : 0 ≤ (a1 : Int) := qoD (by assumption); have q109 : a1 < (l0.length : Int) := qoD (by assumption); obtain ⟨ad109, e109, hx109_0⟩ := Kd.at_int HR0.out a1 p109 q109; cases e109; replace p109 := eq_true p109; replace q109 := eq_true q109) | (go_at_call 218; (with_reducible refine (join_behind.calls (rd l0 a1) true _ A7.out).mono ?_); rintro e w' ⟨rfl, ⟨nd, rfl⟩⟩; have p111 : 0 ≤ (t108 : Int) := qoD (by assumption); have q111 : t108 < (l0.length : Int) := qoD (by assumption); obtain ⟨ad111, e111, hx111_0⟩ := Kd.at_int HR0.out t108 p111 q111; obtain rfl : ad109 = ad111 := (by injection e111); replace p111 := eq_true p111; replace q111 := eq_true q111) | (go_at_call 219; (with_reducible refine (join_ahead.calls (rd l0 t108) t112 _ A11.out).mono ?_); rintro e w' ⟨rfl, ⟨nd, rfl⟩⟩))
       go_ret
       exact ⟨by first | rfl | (simp; done) | (simp [*]; done), by repeat (first | exact qDr _ | apply qDs)⟩
      ·rw [if_neg c10] at H
       exact absurd H (by simp)
     ·rw [if_neg c9] at H
      exact absurd H (by simp)
    ·replace c8 := qbE.mpr c8
     subst c8
     rw [if_neg (show ¬ (false = true) by decide)] at H
     obtain rfl := qoI H
     go_enter Tryz.func179, Tryz.ntmps179
     go_wp2_with (first | ((with_reducible refine gate_callee (f := 180) rfl ?_); refine goesL_ (some 8) rfl rfl Tryz.func180 (by kernel_rfl) rfl #[.slice A0 l0.length c0, .int .i64 a1] rfl (by (try simp only [lm0, lm1, lm2]); first | done | rfl | (simp only [lm3, lm4]; rfl)) ?_; (with_reducible refine (join_Behind.calls k _ _ l0 a1 t108 _ ?side1 ?side2 A3.out).mono ?_); (case side1 => exact HR0.out); (case side2 => exact HC0.out); rintro e w' ⟨rfl, ⟨nd, rfl⟩⟩; refine ⟨_, rfl, ?_⟩; have p109 : 0 ≤ (a1 : Int) := qoD (by assumption); have q109 : a1 < (l0.length : Int) := qoD (by assumption); obtain ⟨ad109, e109, hx109_0⟩ := Kd.at_int HR0.out a1 p109 q109; cases e109; replace p109 := eq_true p109; replace q109 := eq_true q109) | (go_at_call 218; (with_reducible refine (join_behind.calls (rd l0 a1) false _ A7.out).mono ?_); rintro e w' ⟨rfl, ⟨nd, rfl⟩⟩))
     go_ret
     exact ⟨by first | rfl | (simp; done) | (simp [*]; done), by repeat (first | exact qDr _ | apply qDs)⟩
   ·rw [if_neg c6] at H
    exact absurd H (by simp)
  ·rw [if_neg c5] at H
   exact absurd H (by simp)
 ·rw [if_neg c4] at H
  have c4b0 := qdF c4
  clear c4
  obtain rfl := qoI H
  go_enter Tryz.func179, Tryz.ntmps179
  go_wp2_with (first | ((with_reducible refine gate_callee (f := 180) rfl ?_); refine goesL_ (some 8) rfl rfl Tryz.func180 (by kernel_rfl) rfl #[.slice A0 l0.length c0, .int .i64 a1] rfl (by (try simp only [lm0, lm1, lm2]); first | done | rfl | (simp only [lm3, lm4]; rfl)) ?_; (with_reducible refine (join_Behind.calls k _ _ l0 a1 t108 _ ?side1 ?side2 A3.out).mono ?_); (case side1 => exact HR0.out); (case side2 => exact HC0.out); rintro e w' ⟨rfl, ⟨nd, rfl⟩⟩; refine ⟨_, rfl, ?_⟩))
  go_ret
  exact ⟨by first | rfl | (simp; done) | (simp [*]; done), by repeat (first | exact qDr _ | apply qDs)⟩
def join_Over.j0 : Nat → List Int → Int → Bool → Option (Bool)
 | 0, _, _, _ => none
 | k + 1, x0, x1, x15 => if x15 = true then (some false) else ((join_Ahead.f k x0 x1).bind fun t115 => ((join_Joined.f k x0 t115).bind fun t116 => (some t116)))
def join_Over.f (k : Nat) (l0 : List Int) (a1 : Int) : Option (Bool) := (join_there.f l0 a1).bind fun t113 => (if t113 = true then (if 0 ≤ a1 then (if a1 < (l0.length : Int) then (join_Over.j0 k l0 a1 ((rd l0 a1) != 1)) else (none)) else (none)) else (join_Over.j0 k l0 a1 true))
end PJoinForms
end
end Go.Proofs.YtemhccjjcioodaaGreat
