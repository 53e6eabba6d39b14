/- trie.Build: a table of ranges: walked. -/
import Derived.Test.YtfkgjoflekemaaaCTrie3
import Derived.Test.YtfkgjoflekemaaaCEmbP
import Derived.Test.YtfkgjoflekemaaaCBase
import Derived.Outline
namespace Go.Proofs.Ytfkgjoflekemaaa.CTrie
open Go.RowKit Go.Proofs.YtfkgjoflekemaaaW.PrintWords Go.Proofs.YtfkgjoflekemaaaW.PrintMore Go.Proofs.YtfkgjoflekemaaaW.PrintLast Go.Proofs.Ytfkgjoflekemaaa.U Go.Proofs.Ytfkgjoflekemaaa.CBase Go.Proofs.Ytfkgjoflekemaaa.UTrie Go.Proofs.Ytfkgjoflekemaaa.PEmbedJoins
set_option linter.unusedVariables false
set_option linter.unusedSimpArgs false
theorem rd127_get {l : List S127} {i : Nat} (h : i < l.length) : rd_T127 l (i : Int) = l[i] := by
  show l.getD i z127 = _
  rw [List.getD_eq_getElem?_getD, List.getElem?_eq_getElem h]; rfl
theorem may_loop (l : List S127) (ok : Ok l) (hm : l.length ≤ 4096) (n : Nat) : ∀ (i : Nat) (last : Int), i + n = l.length → (∀ (h : i < l.length), last < l[i].f0) → Ev (fun k => trie_may.l0 k last l (l.length : Int) i) 0 := by
  induction n with
  | zero =>
    intro i last hi _
    refine Ev.step (fun k => by rw [trie_may.l0]) ?_
    exact ev_neg (by omega) (ev_now _)
  | succ n ih =>
    intro i last hi hl
    have hlt : i < l.length := by omega
    have hr := ok.right _ (List.getElem_mem hlt)
    have hll := hl hlt
    refine Ev.step (fun k => by rw [trie_may.l0]) (ev_pos (by omega) (ev_pos (by omega) (ev_pos (by omega) ?_)))
    rw [rd127_get hlt]
    refine ev_neg (by omega) (ev_neg (by omega) (ev_neg (by omega) ?_))
    rw [w64 (by omega) (by omega)]
    exact ih (i + 1) _ (by omega) (fun h => lo_behind l ok i (i + 1) hlt h (by omega))
theorem may_ev (l : List S127) (ok : Ok l) (hm : l.length ≤ 4096) : Ev (fun k => trie_may.f k l) 0 := by
  refine ev_neg (by omega) ?_
  exact may_loop l ok hm l.length 0 (-1) (by omega) (fun h => by have := ok.right _ (List.getElem_mem h); omega)
section
variable {o : Oper} {rest : List Oper} {ops : Array Oper} {a : Act} {Q : Exit → Act → World → Prop} {w : World}
theorem arr_load_armG {g : Nat} {xs : List Int} (hw : Region.wanted o (yielded ops a.tmps) = true) (x : Operand) (ho : o.op = .load 122 x) (hx : a.eval x = .pointer (some ⟨g, 0, none⟩)) (h : Arr w g xs) (hl : xs.length = 128)
    (hk : wpList Try.prog ops Q rest (a.put o.dst (.agg (vs xs))) w) : wpList Try.prog ops Q (o :: rest) a w := by
  refine wpList_step fun K hK => ?_
  rw [if_pos hw]
  unfold Oper.wp
  rw [exec_load x ho hx (arr_load h hl)]
  exact hK _ _ hk
theorem exec_neq (w : World) (x y : Operand) (t : TypeId) (ho : o.op = .binOp .neq 122 x y t) {xs ys : List Int} (hx : a.eval x = .agg (vs xs)) (hy : a.eval y = .agg (vs ys)) (hl : xs.length = 128) (hl2 : ys.length = 128) :
    (execOp a.eval o).run Try.prog w = .ok (.value (.bool (!(xs == ys)))) w := by
  have hn : (binOp .neq 122 (.agg (vs xs)) (.agg (vs ys))).run Try.prog w = .ok (.bool (!(xs == ys))) w := by
    rw [run_neq_struct, run_equalIn_ints w 9998 xs ys hl hl2]
    rfl
  unfold execOp
  simp [ho, hx, hy, eqGuard, guard122, hn]
theorem arr_neq_armG {xs ys : List Int} (hw : Region.wanted o (yielded ops a.tmps) = true) (x y : Operand) (t : TypeId) (ho : o.op = .binOp .neq 122 x y t) (hx : a.eval x = .agg (vs xs)) (hy : a.eval y = .agg (vs ys)) (hl : xs.length = 128) (hl2 : ys.length = 128)
    (hk : wpList Try.prog ops Q rest (a.put o.dst (.bool (!(xs == ys)))) w) : wpList Try.prog ops Q (o :: rest) a w := by
  refine wpList_step fun K hK => ?_
  rw [if_pos hw]
  unfold Oper.wp
  rw [exec_neq w x y t ho hx hy hl hl2]
  exact hK _ _ hk
end
theorem exec_store {o : Oper} {a : Act} {w : World} {g : Nat} {old ys : List Int} (x y : Operand) (ho : o.op = .store 122 x y) (hx : a.eval x = .pointer (some ⟨g, 0, none⟩)) (hy : a.eval y = .agg (vs ys)) (h : Arr w g old) (hl : old.length = 128) (hl2 : ys.length = 128) :
    (execOp a.eval o).run Try.prog w = .ok .skip (w.setRow g (vs ys)) := by
  have hst : (storeVar 122 ⟨g, 0, none⟩ (.agg (vs ys))).run Try.prog w = .ok () (w.setRow g (vs ys)) :=
    run_storeVar_row w g 122 122 (vs old) (vs ys) h (by rw [info122, vs_size, hl2]) (by rw [vs_size, vs_size, hl, hl2]) (by simp [vs, Value.oneCell'])
  unfold execOp
  simp [ho, hx, hy, Instr.storeAt, Instr.sureAddr, hst]
theorem grown_setRow (w : World) (g : Nat) (cs : Array Value) : w.grownBy (w.setRow g cs) (some g) := ⟨rfl, rfl, rfl, by simp, fun k _ hne => setRow_other w g k _ (fun e => hne (by rw [e]))⟩
theorem tab_next {l : List S127} {n : Int} {first : List Int} {second sec2 : List (List Int)} {p i : Nat} (h : Tab l n first second p) (hp : p < 8704) (hs : sec2 = second ∨ sec2 = second ++ [blockL l n p]) (hi : i < sec2.length) (hb : sec2.getD i [] = blockL l n p) : Tab l n (first.set p i) sec2 (p + 1) := by
  refine ⟨by rw [List.length_set]; exact h.len, ?_, fun q hq => ?_⟩
  · have := h.small
    rcases hs with rfl | rfl
    · omega
    · simp; omega
  · by_cases e : q = p
    · subst e
      refine ⟨i, hi, ?_, hb⟩
      rw [List.getD_eq_getElem?_getD, List.getElem?_set_self (by rw [h.len]; exact hp)]
      rfl
    · obtain ⟨j, hj, h1, h2⟩ := h.each q (by omega)
      refine ⟨j, ?_, ?_, ?_⟩
      · rcases hs with rfl | rfl
        · exact hj
        · simp; omega
      · rw [List.getD_eq_getElem?_getD, List.getElem?_set_ne (by omega), ← List.getD_eq_getElem?_getD]
        exact h1
      · rcases hs with rfl | rfl
        · exact h2
        · rw [List.getD_eq_getElem?_getD, List.getElem?_append_left hj, ← List.getD_eq_getElem?_getD]
          exact h2
/-- a table stands in memory -/
def Table (w : World) (l : List S127) (n : Int) (gt : Nat) : Prop := ∃ (vf v2 : Value) (first : List Int) (second : List (List Int)), w.heap[gt]? = some (.cells (tabCells vf v2 n) 120 (0, 0)) ∧ SLk (Kd.int .i64) w vf first ∧ SLk kb w v2 second ∧ Tab l n first second 8704
set_option maxRecDepth 100000 in
set_option maxHeartbeats 4000000 in
theorem build_c {w : World} {v : Value} {l : List S127} (n : Int) (h : SLk k127 w v l) (ok : Ok l) (hm : l.length ≤ 4096) :
    Calls Try.prog 94 #[v, .int .i64 n] w fun e w' => ∃ gt : Nat, e = .returned (.tuple #[.pointer (some ⟨gt, 0, none⟩), .int .i64 0]) ∧ w.heap.size ≤ gt ∧ Table w' l n gt ∧ Below w.heap.size w w' := by
  have H := Aside0.mk h
  have HOK := Aside0.mk ok
  have HM := Aside0.mk hm
  obtain ⟨A, c, rfl, hc, hC⟩ := h
  obtain ⟨nm, hnm⟩ := (may_ev l ok hm).rounds
  have hz : Try.zeroCells122 = vs (evenL 0) := by kernel_rfl
  have HZ := Aside0.mk hz
  clear hz ok
  go_enter Try.func94, Try.ntmps94
  go_wp2_with fail
  refine (trie_may.calls nm A c l 0 w hC hc hnm).mono ?_
  rintro e w1 ⟨rfl, hb⟩
  have HB1 := Aside0.mk hb
  clear hb hC hc hnm
  have HT0 : Aside0 ((w1.alloc (.cells (tabCells (.slice none 0 0) (.slice none 0 0) n) 120)).heap[w1.heap.size]? = some (.cells (tabCells (.slice none 0 0) (.slice none 0 0) n) 120 (0, 0))) := ⟨blk_new w1 _⟩
  have HBa := Aside0.mk (below_alloc HB1.out (.cells (tabCells (.slice none 0 0) (.slice none 0 0) n) 120))
  have HGT : Aside0 (w.heap.size ≤ w1.heap.size) := ⟨HB1.out.size⟩
  have HSZ : Aside0 (w1.heap.size < (w1.alloc (.cells (tabCells (.slice none 0 0) (.slice none 0 0) n) 120)).heap.size) := ⟨blk_lt HT0.out⟩
  go_wp2_with (first | (refine Kd.R_make (Kd.int .i64) (w0 := w) w.heap.size 3 rfl (N := 22) rfl 22 _ _ rfl 8704 rfl rfl Try.underlying22 (.int .i64 0) 8 CSlices.info3 rfl (by decide) (by omega) 0 (ok := fun _ => True) (okp := fun _ => True) rfl (fun _ hk => hk) trivial (by omega) (by omega) HBa.out HBa.out.size ?_; intro vf w2 hv hb hg hnew; obtain ⟨gf, cap, ev, hgf⟩ := R_form hv (hnew.imp fun _ h => h.1); subst ev; have HNW : Aside0 ((w1.alloc (.cells (tabCells (.slice none 0 0) (.slice none 0 0) n) 120)).heap.size ≤ gf) := (by obtain ⟨b, h1, h2⟩ := hnew; have h3 : some gf = some b := h1; injection h3 with h3; exact ⟨by rw [h3]; exact h2⟩); have HF2 := Aside0.mk hv; have HB2 := Aside0.mk hb; have HT2 : Aside0 (w2.heap[w1.heap.size]? = some (.cells (tabCells (.slice none 0 0) (.slice none 0 0) n) 120 (0, 0))) := ⟨(hg.block _ (blk_lt HT0.out) (by simp)).trans HT0.out⟩; have d0 : w2.cell? ⟨w1.heap.size, 0, none⟩ = some (.slice none 0 0) := (blk_cell HT2.out 0).trans rfl; have f0 : w2.frozen? ⟨w1.heap.size, 0, none⟩ = false := blk_frozen HT2.out 0; have HT3 : Aside0 (((w2.setCell ⟨w1.heap.size, 0, none⟩ (.slice (some ⟨gf, 0, none⟩) 8704 cap)).alloc (.cells (vs (evenL 0)) 122)).heap[w1.heap.size]? = some (.cells (tabCells (.slice (some ⟨gf, 0, none⟩) 8704 cap) (.slice none 0 0) n) 120 (0, 0))) := ⟨((below_alloc (Below.refl (w2.setCell ⟨w1.heap.size, 0, none⟩ (.slice (some ⟨gf, 0, none⟩) 8704 cap)).heap.size _) _).block _ (by rw [show (w2.setCell ⟨w1.heap.size, 0, none⟩ (.slice (some ⟨gf, 0, none⟩) 8704 cap)).heap.size = w2.heap.size by simp [World.setCell]]; exact blk_lt HT2.out)).trans ((blk_set HT2.out 0 _).trans rfl)⟩; have HA3 : Aside0 (Arr ((w2.setCell ⟨w1.heap.size, 0, none⟩ (.slice (some ⟨gf, 0, none⟩) 8704 cap)).alloc (.cells (vs (evenL 0)) 122)) w2.heap.size (evenL 0)) := (by have h9 := blk_new (w2.setCell ⟨w1.heap.size, 0, none⟩ (.slice (some ⟨gf, 0, none⟩) 8704 cap)) (.cells (vs (evenL 0)) 122); rw [show (w2.setCell ⟨w1.heap.size, 0, none⟩ (.slice (some ⟨gf, 0, none⟩) 8704 cap)).heap.size = w2.heap.size by simp [World.setCell]] at h9; exact ⟨h9⟩); have HF3 : Aside0 (Kd.R (Kd.int .i64) 3 ((w2.setCell ⟨w1.heap.size, 0, none⟩ (.slice (some ⟨gf, 0, none⟩) 8704 cap)).alloc (.cells (vs (evenL 0)) 122)) w.heap.size (fun k => k = gf) (.slice (some ⟨gf, 0, none⟩) 8704 cap) (List.replicate 8704 0)) := ⟨Kd.R_alloc (Kd.R_far (Kd.R_reok rfl hv (fun k hk => by have h8 : some gf = some k := hk; injection h8 with h8; exact h8.symm)) (fun k hk => by subst hk; have := HNW.out; have := HSZ.out; show k ≠ w1.heap.size; omega) _) _⟩; have HB3 : Aside0 (Below w.heap.size w ((w2.setCell ⟨w1.heap.size, 0, none⟩ (.slice (some ⟨gf, 0, none⟩) 8704 cap)).alloc (.cells (vs (evenL 0)) 122))) := ⟨below_alloc (below_cells HB2.out HGT.out 0 [_]) _⟩; clear hv hb hg hnew) | (rw [HZ.out]; refine arr_store_arm (g := w2.heap.size) (ys := evenL 0) rfl (.tmp 9) (.tmp 26) rfl rfl rfl rfl HA3.out (evenL_length 0) (evenL_length 0) ?_; intro w4 h1 h2 h3; have HA4 := Aside0.mk h1; have HG4 := Aside0.mk h2; clear h1 h2 h3))
  have HT4 : Aside0 (w4.heap[w1.heap.size]? = some (.cells (tabCells (.slice (some ⟨gf, 0, none⟩) 8704 cap) (.slice none 0 0) n) 120 (0, 0))) := ⟨(HG4.out.block _ (blk_lt HT3.out) (fun e => by have e2 : w1.heap.size = w2.heap.size := Option.some.inj e; have := blk_lt HT2.out; omega)).trans HT3.out⟩
  have HGFL : Aside0 (gf < w2.heap.size) := ⟨Kd.R_lt HF2.out gf rfl⟩
  have HGTF : Aside0 (w1.heap.size < gf) := ⟨by have := HNW.out; have := HSZ.out; omega⟩
  have HF4 : Aside0 (Kd.R (Kd.int .i64) 3 w4 w.heap.size (fun k => k = gf) (.slice (some ⟨gf, 0, none⟩) 8704 cap) (List.replicate 8704 0)) := ⟨Kd.R_grown HF3.out HG4.out (fun k hk e => by have e2 : k = w2.heap.size := Option.some.inj e; have := HGFL.out; omega)⟩
  have HB4 : Aside0 (Below w.heap.size w w4) := ⟨below_grown2 HB3.out (Nat.le_refl _) HG4.out (fun k e => by have e2 : w2.heap.size = k := Option.some.inj e; have := HB2.out.size; omega)⟩
  clear HT0 HBa HSZ HT2 d0 f0 HT3 HA3 HF3 HB3 HG4 HF2 HB2 HNW hgf HB1
  obtain ⟨gt, hgt⟩ : ∃ g, g = w1.heap.size := ⟨_, rfl⟩
  obtain ⟨gl, hgl⟩ : ∃ g, g = w2.heap.size := ⟨_, rfl⟩
  rw [← hgt] at HT4 HGTF HGT ⊢
  rw [← hgl] at HGFL HA4 ⊢
  have HGF := HGTF
  have HGL := HGFL
  clear HGTF HGFL hgt hgl
  go_loopw [8, 10, 27] (fun v8 v10 v27 wr => ∃ (p fr : Nat) (la : Int) (first : List Int) (second : List (List Int)) (last : List Int) (v2 : Value), v27 = .int .i64 p ∧ v8 = .int .i64 fr ∧ v10 = .int .i64 la ∧ p ≤ 8704 ∧ fr ≤ l.length ∧ Aside0 (∀ (i : Nat) (hi : i < l.length), i < fr → l[i].f1 < 128 * (p : Int)) ∧ Aside0 (p = 0 ∧ la = -1 ∨ 0 < p ∧ ∃ j : Nat, la = j ∧ j < second.length ∧ second.getD j [] = last) ∧ Aside0 (last.length = 128) ∧ Aside0 (Tab l n first second p) ∧ Aside0 (wr.heap[gt]? = some (.cells (tabCells (.slice (some ⟨gf, 0, none⟩) 8704 cap) v2 n) 120 (0, 0))) ∧ Aside0 (Kd.R (Kd.int .i64) 3 wr w.heap.size (fun k => k = gf) (.slice (some ⟨gf, 0, none⟩) 8704 cap) first) ∧ Aside0 (Kd.R kb 122 wr (gl + 1) (fun k => k ≠ gt) v2 second) ∧ Aside0 (Arr wr gl last) ∧ Aside0 (Below w.heap.size w wr)) (fun _ _ v _ => 8704 - (intOf v).toNat)
  case atStart => exact ⟨0, 0, -1, List.replicate 8704 0, [], evenL 0, .slice none 0 0, rfl, rfl, rfl, Nat.zero_le _, Nat.zero_le _, ⟨fun i hi h => absurd h (Nat.not_lt_zero _)⟩, ⟨.inl ⟨rfl, rfl⟩⟩, ⟨evenL_length 0⟩, ⟨⟨by simp, Nat.zero_le _, fun q hq => absurd hq (Nat.not_lt_zero _)⟩⟩, HT4, HF4, ⟨Kd.R_nil _ _ _ _ _⟩, HA4, HB4⟩
  case round =>
    clear HT4 HF4 HA4 HB4
    obtain ⟨p, fr, la, first, second, last, v2, rfl, rfl, rfl, hp, hfr, HBE, HLA, HLL, HTAB, HTr, HFr, H2r, HLr, HBr⟩ := hrel
    by_cases hlt : p < 8704
    · have hpI : (p : Int) < 8704 := by omega
      have HGB0 : Aside0 (gl < wr.heap.size) := ⟨blk_lt HLr.out⟩
      go_wp2_with fail
      rw [HZ.out]
      have HA0 : Aside0 (Arr (wr.alloc (.cells (vs (evenL 0)) 122)) wr.heap.size (evenL 0)) := ⟨blk_new wr _⟩
      have hal : Below wr.heap.size wr (wr.alloc (.cells (vs (evenL 0)) 122)) := below_alloc (Below.refl _ _) _
      refine (filled_c n p fr (SLk.below H.out (below_alloc HBr.out _)) HOK.out (by have := HM.out; omega) hlt hfr HBE.out).mono ?_
      rintro e w5 ⟨k', hk', hbe, rfl, hb⟩
      have hal5 : Below wr.heap.size wr w5 := below_step hal hb
      have HBE5 := Aside0.mk hbe
      have HA5 : Aside0 (Arr w5 wr.heap.size (evenL 0)) := ⟨(hb.block _ (blk_lt HA0.out)).trans HA0.out⟩
      have HT5 : Aside0 (w5.heap[gt]? = some (.cells (tabCells (.slice (some ⟨gf, 0, none⟩) 8704 cap) v2 n) 120 (0, 0))) := ⟨(hal5.block _ (blk_lt HTr.out)).trans HTr.out⟩
      have HF5 : Aside0 (Kd.R (Kd.int .i64) 3 w5 w.heap.size (fun k => k = gf) (.slice (some ⟨gf, 0, none⟩) 8704 cap) first) := ⟨Kd.R_below HFr.out hal5⟩
      have H25 : Aside0 (Kd.R kb 122 w5 (gl + 1) (fun k => k ≠ gt ∧ k < wr.heap.size) v2 second) := ⟨Kd.R_old H2r.out hal5⟩
      have HL5 : Aside0 (Arr w5 gl last) := ⟨(hal5.block _ (blk_lt HLr.out)).trans HLr.out⟩
      have HB5 : Aside0 (Below w.heap.size w w5) := ⟨below_step HBr.out hal5⟩
      obtain ⟨gb, hgb⟩ : ∃ g, g = wr.heap.size := ⟨_, rfl⟩
      rw [← hgb] at HGB0 HA5 H25 ⊢
      have HGB := HGB0
      clear hb hal hal5 HA0 HTr HFr H2r HLr HBr hgb HGB0 hbe
      rcases HLA.out with ⟨hp0, hla⟩ | ⟨hp0, j, hla, hjs, hjl⟩
      · have hneg : la < 0 := by omega
        have HPZ := Aside0.mk hp0
        clear hp0 hla
        go_wp2_with (first | (refine arr_store_arm (g := gb) (ys := blockL l n p) rfl (.tmp 12) (.tmp 36) rfl rfl rfl rfl HA5.out (evenL_length 0) (blockL_length l n p) ?_; intro wb h1 h2 h3; have HAb := Aside0.mk h1; have HTb : Aside0 (wb.heap[gt]? = some (.cells (tabCells (.slice (some ⟨gf, 0, none⟩) 8704 cap) v2 n) 120 (0, 0))) := ⟨(h2.block _ (blk_lt HT5.out) (fun e => by have e2 : gt = gb := Option.some.inj e; have := HGF.out; have := HGL.out; have := HGB.out; omega)).trans HT5.out⟩; have HLb : Aside0 (Arr wb gl last) := ⟨(h2.block _ (blk_lt HL5.out) (fun e => by have e2 : gl = gb := Option.some.inj e; have := HGB.out; omega)).trans HL5.out⟩; have HFb : Aside0 (Kd.R (Kd.int .i64) 3 wb w.heap.size (fun k => k = gf) (.slice (some ⟨gf, 0, none⟩) 8704 cap) first) := ⟨Kd.R_grown HF5.out h2 (fun k hk e => by have e2 : k = gb := Option.some.inj e; have := HGL.out; have := HGB.out; omega)⟩; have H2b0 : Aside0 (Kd.R kb 122 wb (gl + 1) (fun k => k ≠ gt ∧ k < gb) v2 second) := ⟨Kd.R_grown H25.out h2 (fun k hk e => by have e2 : k = gb := Option.some.inj e; omega)⟩; have HNB : Aside0 (∀ k, v2.ownBlock = some k → k ≠ gb) := ⟨fun k hk e => by have := (H2b0.out.1 k hk).2; omega⟩; have H2b : Aside0 (Kd.R kb 122 wb (gl + 1) (fun k => k ≠ gt) v2 second) := ⟨Kd.R_mono H2b0.out (fun k hk => hk.1)⟩; have HBb : Aside0 (Below w.heap.size w wb) := ⟨below_grown2 HB5.out (Nat.le_refl _) h2 (fun k e => by have e2 : gb = k := Option.some.inj e; have := HGT.out; have := HGF.out; have := HGL.out; have := HGB.out; omega)⟩; have HGLb : Aside0 (gl < wb.heap.size) := ⟨blk_lt HLb.out⟩; clear h1 h2 h3 HA5 HT5 HF5 H25 HL5 HB5 H2b0))
        refine start_ (n := 8) (S := fun W => Arr W gb (blockL l n p)) (ds := []) #[false, false, false, false, false, false, false, false] (by kernel_rfl) (by kernel_rfl) (by rfl) HAb.out (fun hS0 => ?_)
        refine pure_ (i := 1) (N := (some 46)) (v := ?_) (a' := ?_) #[false, true, false, false, false, false, false, false] rfl rfl (by kernel_rfl) (fun _ _ _ h => h) (Or.inl ⟨by rfl, ?_⟩) ?_ ?_
        rotate_left
        · intro w'
          go_simp
          with_reducible rfl
        rotate_left
        · simp only [Act.put, List.setIfInBounds_toArray, List.set_cons_zero, List.set_cons_succ]
          rfl
        refine pure_ (i := 2) (N := (some 47)) (v := ?_) (a' := ?_) #[false, true, true, false, false, false, false, false] rfl rfl (by kernel_rfl) (fun _ _ _ h => h) (Or.inl ⟨by rfl, ?_⟩) ?_ ?_
        rotate_left
        · intro w'
          go_simp
          with_reducible rfl
        rotate_left
        · simp only [Act.put, List.setIfInBounds_toArray, List.set_cons_zero, List.set_cons_succ]
          rfl
        refine pure_ (i := 3) (N := (some 48)) (v := ?_) (a' := ?_) #[false, true, true, true, false, false, false, false] rfl rfl (by kernel_rfl) (fun _ _ _ h => h) (Or.inl ⟨by rfl, ?_⟩) ?_ ?_
        rotate_left
        · intro w'
          go_simp
          with_reducible rfl
        rotate_left
        · simp only [Act.put, List.setIfInBounds_toArray, List.set_cons_zero, List.set_cons_succ]
          rfl
        refine take_ (i := 0) (N := (some 45)) (v := ?_) (a' := ?_) #[true, true, true, true, false, false, false, false] rfl rfl (by kernel_rfl) (fun _ _ _ h => h) (Or.inl ⟨by rfl, ?_⟩) hS0 ?_ ?_
        rotate_left
        · intro w' s0
          refine exec_load (.tmp 12) (xs := blockL l n p) (ad := ⟨gb, 0, none⟩) ?_ ?_ ?_
          · rfl
          · rfl
          · exact arr_load s0 (blockL_length l n p)
        rotate_left
        · simp only [Act.put, List.setIfInBounds_toArray, List.set_cons_zero, List.set_cons_succ]
          rfl
        refine take_ (i := 4) (N := (some 49)) (v := ?_) (a' := ?_) #[true, true, true, true, true, false, false, false] rfl rfl (by kernel_rfl) (fun _ _ _ h => h) (Or.inl ⟨by rfl, ?_⟩) hS0 ?_ ?_
        rotate_left
        · intro w' s0
          refine exec_load (.tmp 12) (xs := blockL l n p) (ad := ⟨gb, 0, none⟩) ?_ ?_ ?_
          · rfl
          · rfl
          · exact arr_load s0 (blockL_length l n p)
        rotate_left
        · simp only [Act.put, List.setIfInBounds_toArray, List.set_cons_zero, List.set_cons_succ]
          rfl
        clear hS0
        refine one_ (i := 5) (N := (some 50)) #[true, true, true, true, true, true, false, false] rfl rfl (by kernel_rfl) (by decide) (fun K hK => ?_)
        refine goes_ Try.func129 (by kernel_rfl) rfl #[.pointer (some ⟨gt, 0, none⟩), .agg (vs (blockL l n p))] (by rfl) rfl rfl (by (try simp only [List.map_toArray, List.map_cons, List.map_nil]); rfl) ?_
        have HTx : Aside0 (wb.drew.heap[gt]? = some (.cells (tabCells (.slice (some ⟨gf, 0, none⟩) 8704 cap) v2 n) 120 (0, 0))) := ⟨HTb.out⟩
        have HAx : Aside0 (Arr wb.drew gb (blockL l n p)) := ⟨HAb.out⟩
        have HLx : Aside0 (Arr wb.drew gl last) := ⟨HLb.out⟩
        have H2x : Aside0 (Kd.R kb 122 wb.drew (gl + 1) (fun k => k ≠ gt) v2 second) := ⟨Kd.R_drew H2b.out⟩
        have HFx : Aside0 (Kd.R (Kd.int .i64) 3 wb.drew w.heap.size (fun k => k = gf) (.slice (some ⟨gf, 0, none⟩) 8704 cap) first) := ⟨Kd.R_drew HFb.out⟩
        have HBx : Aside0 (Below w.heap.size w wb.drew) := ⟨⟨HBb.out.os, HBb.out.tape, HBb.out.output, HBb.out.size, HBb.out.block⟩⟩
        refine (add_c HTx.out H2x.out (blockL_length l n p) (by have := HTAB.out.small; omega) (by have := HGLb.out; show gl + 1 ≤ wb.heap.size; omega)).mono ?_
        rintro e wc ⟨i, sec2, v2', rfl, hs, hi, hib, hT, hR, ho, hta, hou, hsz, hfr⟩
        refine ⟨_, rfl, ?_⟩
        have HI := Aside0.mk hi
        have HIB := Aside0.mk hib
        have HSS := Aside0.mk hs
        have HTc := Aside0.mk hT
        have H2c := Aside0.mk hR
        have HAc : Aside0 (Arr wc gb (blockL l n p)) := ⟨(hfr gb (blk_lt HAx.out) (by have := HGB.out; have := HGF.out; have := HGL.out; omega) (fun e => by have := Kd.R_base H2x.out gb e.symm; exact HNB.out gb e.symm rfl)).trans HAx.out⟩
        have HLc : Aside0 (Arr wc gl last) := ⟨(hfr gl (blk_lt HLx.out) (by have := HGF.out; have := HGL.out; omega) (fun e => by have := Kd.R_base H2x.out gl e.symm; omega)).trans HLx.out⟩
        have HFc : Aside0 (Kd.R (Kd.int .i64) 3 wc w.heap.size (fun k => k = gf) (.slice (some ⟨gf, 0, none⟩) 8704 cap) first) := ⟨Kd.R_step HFx.out (fun k hk hlt => hfr k hlt (by have hk9 : k = gf := hk; have := HGF.out; omega) (fun e => by have hk9 : k = gf := hk; have := Kd.R_base H2x.out k e.symm; have := HGL.out; omega))⟩
        have HBc : Aside0 (Below w.heap.size w wc) := ⟨⟨ho.trans HBx.out.os, hta.trans HBx.out.tape, hou.trans HBx.out.output, Nat.le_trans HBx.out.size hsz, fun k hk => (hfr k (Nat.lt_of_lt_of_le hk HBx.out.size) (by have := HGT.out; omega) (fun e => by have := Kd.R_base H2x.out k e.symm; have := HGT.out; have := HGF.out; have := HGL.out; omega)).trans (HBx.out.block k hk)⟩⟩
        clear hs hi hib hT hR ho hta hou hsz hfr
        refine hK.out (Act.put _ (some 50) _) _ HAc.out (fun hS0 => ?_)
        clear hK
        refine norm_ (a' := ?_) ?_ ?_
        rotate_left
        · simp only [Act.put, List.setIfInBounds_toArray, List.set_cons_zero, List.set_cons_succ]
          rfl
        clear hS0
        refine one_ (i := 6) (N := none) #[true, true, true, true, true, true, true, false] rfl rfl (by kernel_rfl) (by decide) (fun K hK => ?_)
        refine skip_ (w1 := wc.setRow gl (vs (blockL l n p))) (by rfl) rfl ?_ ?_
        · refine exec_store (.tmp 9) (.tmp 45) (old := last) (ys := blockL l n p) (g := gl) ?_ ?_ ?_ HLc.out HLL.out (blockL_length l n p)
          · rfl
          · rfl
          · rfl
        have hgs := grown_setRow wc gl (vs (blockL l n p))
        have HAd : Aside0 (Arr (wc.setRow gl (vs (blockL l n p))) gb (blockL l n p)) := ⟨(hgs.block _ (blk_lt HAc.out) (fun e => by have e2 : gb = gl := Option.some.inj e; have := HGB.out; omega)).trans HAc.out⟩
        have HLd : Aside0 (Arr (wc.setRow gl (vs (blockL l n p))) gl (blockL l n p)) := ⟨setRow_heap wc gl (vs last) (vs (blockL l n p)) 122 (0, 0) HLc.out⟩
        have HTd : Aside0 ((wc.setRow gl (vs (blockL l n p))).heap[gt]? = some (.cells (tabCells (.slice (some ⟨gf, 0, none⟩) 8704 cap) v2' n) 120 (0, 0))) := ⟨(hgs.block _ (blk_lt HTc.out) (fun e => by have e2 : gt = gl := Option.some.inj e; have := HGF.out; have := HGL.out; omega)).trans HTc.out⟩
        have HFd : Aside0 (Kd.R (Kd.int .i64) 3 (wc.setRow gl (vs (blockL l n p))) w.heap.size (fun k => k = gf) (.slice (some ⟨gf, 0, none⟩) 8704 cap) first) := ⟨Kd.R_grown HFc.out hgs (fun k hk e => by have e2 : k = gl := Option.some.inj e; have := HGL.out; omega)⟩
        have H2d : Aside0 (Kd.R kb 122 (wc.setRow gl (vs (blockL l n p))) (gl + 1) (fun k => k ≠ gt) v2' sec2) := ⟨Kd.R_mono (Kd.R_grown (Kd.R_mono (Kd.R_bound H2c.out) (fun k hk => (⟨hk.1, hk.2.1⟩ : k ≠ gt ∧ gl + 1 ≤ k))) hgs (fun k hk e => by have e2 : k = gl := Option.some.inj e; omega)) (fun k hk => hk.1)⟩
        have HBd : Aside0 (Below w.heap.size w (wc.setRow gl (vs (blockL l n p)))) := ⟨below_grown2 HBc.out (Nat.le_refl _) hgs (fun k e => by have e2 : gl = k := Option.some.inj e; have := HGT.out; have := HGF.out; have := HGL.out; omega)⟩
        clear hgs
        refine hK.out _ _ HAd.out (fun hS0 => ?_)
        clear hK
        refine pure_ (i := 7) (N := (some 10)) (v := ?_) (a' := ?_) #[true, true, true, true, true, true, true, true] rfl rfl (by kernel_rfl) (fun _ _ _ h => h) (Or.inl ⟨by rfl, ?_⟩) ?_ ?_
        rotate_left
        · intro w'
          go_simp
          with_reducible rfl
        rotate_left
        · simp only [Act.put, List.setIfInBounds_toArray, List.set_cons_zero, List.set_cons_succ]
          rfl
        refine done_ (by kernel_rfl) ?_
        clear hS0
        have t0 : (wc.setRow gl (vs (blockL l n p))).cell? ⟨gt, 0, none⟩ = some (.slice (some ⟨gf, 0, none⟩) 8704 cap) := (blk_cell HTd.out 0).trans rfl
        obtain ⟨y, z⟩ := Kd.R_celln (0 : Int) HFd.out (p : Int) (by omega) hpI
        have hp1 := (Kd.R_putg HFd.out (p : Int) (i : Int)).1
        rw [Int.toNat_natCast] at y z hp1
        have HP := Aside0.mk hp1
        have hgr := grown_set (wc.setRow gl (vs (blockL l n p))) gf p (.int .i64 (i : Int))
        have HTe : Aside0 (((wc.setRow gl (vs (blockL l n p))).setCell ⟨gf, p, none⟩ (.int .i64 (i : Int))).heap[gt]? = some (.cells (tabCells (.slice (some ⟨gf, 0, none⟩) 8704 cap) v2' n) 120 (0, 0))) := ⟨(hgr.block _ (blk_lt HTd.out) (fun e => by have e2 : gt = gf := Option.some.inj e; have := HGF.out; omega)).trans HTd.out⟩
        have HLe : Aside0 (Arr ((wc.setRow gl (vs (blockL l n p))).setCell ⟨gf, p, none⟩ (.int .i64 (i : Int))) gl (blockL l n p)) := ⟨(hgr.block _ (blk_lt HLd.out) (fun e => by have e2 : gl = gf := Option.some.inj e; have := HGL.out; omega)).trans HLd.out⟩
        have H2e : Aside0 (Kd.R kb 122 ((wc.setRow gl (vs (blockL l n p))).setCell ⟨gf, p, none⟩ (.int .i64 (i : Int))) (gl + 1) (fun k => k ≠ gt) v2' sec2) := ⟨Kd.R_mono (Kd.R_grown (Kd.R_mono (Kd.R_bound H2d.out) (fun k hk => (⟨hk.1, hk.2.1⟩ : k ≠ gt ∧ gl + 1 ≤ k))) hgr (fun k hk e => by have e2 : k = gf := Option.some.inj e; have := HGL.out; omega)) (fun k hk => hk.1)⟩
        have HBe : Aside0 (Below w.heap.size w ((wc.setRow gl (vs (blockL l n p))).setCell ⟨gf, p, none⟩ (.int .i64 (i : Int)))) := ⟨below_cells HBd.out (by have := HGT.out; have := HGF.out; omega) p [_]⟩
        clear hp1 hgr
        go_wp2_with fail
        exact ⟨⟨p + 1, k', (i : Int), _, sec2, blockL l n p, v2', by go_num, rfl, rfl, by omega, hk', HBE5, ⟨.inr ⟨by omega, i, rfl, HI.out, HIB.out⟩⟩, ⟨blockL_length l n p⟩, ⟨tab_next HTAB.out hlt HSS.out HI.out HIB.out⟩, HTe, HP, H2e, HLe, HBe⟩, by simp [intOf]; omega⟩
      · have hneg : ¬ (la < 0) := by omega
        have hnegb : decide (la < 0) = false := decide_eq_false hneg
        have HJ := Aside0.mk hla
        have HJS := Aside0.mk hjs
        have HJL := Aside0.mk hjl
        clear hla hjs hjl
        by_cases heq : blockL l n p = last
        · have hbb : (blockL l n p == last) = true := by simpa using heq
          have HLq0 := Aside0.mk heq
          clear heq
          have HJL2 : Aside0 (second.getD j [] = blockL l n p) := ⟨by rw [HLq0.out]; exact HJL.out⟩
          have hj := HJ.out
          subst hj
          go_wp2_with (first | (refine arr_store_arm (g := gb) (ys := blockL l n p) rfl (.tmp 12) (.tmp 36) rfl rfl rfl rfl HA5.out (evenL_length 0) (blockL_length l n p) ?_; intro wb h1 h2 h3; have HAb := Aside0.mk h1; have HTb : Aside0 (wb.heap[gt]? = some (.cells (tabCells (.slice (some ⟨gf, 0, none⟩) 8704 cap) v2 n) 120 (0, 0))) := ⟨(h2.block _ (blk_lt HT5.out) (fun e => by have e2 : gt = gb := Option.some.inj e; have := HGF.out; have := HGL.out; have := HGB.out; omega)).trans HT5.out⟩; have HLb : Aside0 (Arr wb gl last) := ⟨(h2.block _ (blk_lt HL5.out) (fun e => by have e2 : gl = gb := Option.some.inj e; have := HGB.out; omega)).trans HL5.out⟩; have HFb : Aside0 (Kd.R (Kd.int .i64) 3 wb w.heap.size (fun k => k = gf) (.slice (some ⟨gf, 0, none⟩) 8704 cap) first) := ⟨Kd.R_grown HF5.out h2 (fun k hk e => by have e2 : k = gb := Option.some.inj e; have := HGL.out; have := HGB.out; omega)⟩; have H2b0 : Aside0 (Kd.R kb 122 wb (gl + 1) (fun k => k ≠ gt ∧ k < gb) v2 second) := ⟨Kd.R_grown H25.out h2 (fun k hk e => by have e2 : k = gb := Option.some.inj e; omega)⟩; have HNB : Aside0 (∀ k, v2.ownBlock = some k → k ≠ gb) := ⟨fun k hk e => by have := (H2b0.out.1 k hk).2; omega⟩; have H2b : Aside0 (Kd.R kb 122 wb (gl + 1) (fun k => k ≠ gt) v2 second) := ⟨Kd.R_mono H2b0.out (fun k hk => hk.1)⟩; have HBb : Aside0 (Below w.heap.size w wb) := ⟨below_grown2 HB5.out (Nat.le_refl _) h2 (fun k e => by have e2 : gb = k := Option.some.inj e; have := HGT.out; have := HGF.out; have := HGL.out; have := HGB.out; omega)⟩; have HGLb : Aside0 (gl < wb.heap.size) := ⟨blk_lt HLb.out⟩; clear h1 h2 h3 HA5 HT5 HF5 H25 HL5 HB5 H2b0; have HLq : Aside0 (Arr wb gl (blockL l n p)) := ⟨by rw [HLq0.out]; exact HLb.out⟩; have t0 : (wb).cell? ⟨gt, 0, none⟩ = some (.slice (some ⟨gf, 0, none⟩) 8704 cap) := (blk_cell HTb.out 0).trans rfl; obtain ⟨y, z⟩ := Kd.R_celln (0 : Int) HFb.out (p : Int) (by omega) hpI; have hp1 := (Kd.R_putg HFb.out (p : Int) (j : Int)).1; rw [Int.toNat_natCast] at y z hp1; have HP := Aside0.mk hp1; have hgr := grown_set (wb) gf p (.int .i64 (j : Int)); have HTe : Aside0 (((wb).setCell ⟨gf, p, none⟩ (.int .i64 (j : Int))).heap[gt]? = some (.cells (tabCells (.slice (some ⟨gf, 0, none⟩) 8704 cap) v2 n) 120 (0, 0))) := ⟨(hgr.block _ (blk_lt HTb.out) (fun e => by have e2 : gt = gf := Option.some.inj e; have := HGF.out; omega)).trans HTb.out⟩; have HLe : Aside0 (Arr ((wb).setCell ⟨gf, p, none⟩ (.int .i64 (j : Int))) gl (blockL l n p)) := ⟨(hgr.block _ (blk_lt HLq.out) (fun e => by have e2 : gl = gf := Option.some.inj e; have := HGL.out; omega)).trans HLq.out⟩; have H2e : Aside0 (Kd.R kb 122 ((wb).setCell ⟨gf, p, none⟩ (.int .i64 (j : Int))) (gl + 1) (fun k => k ≠ gt) v2 second) := ⟨Kd.R_mono (Kd.R_grown (Kd.R_mono (Kd.R_bound H2b.out) (fun k hk => (⟨hk.1, hk.2.1⟩ : k ≠ gt ∧ gl + 1 ≤ k))) hgr (fun k hk e => by have e2 : k = gf := Option.some.inj e; have := HGL.out; omega)) (fun k hk => hk.1)⟩; have HBe : Aside0 (Below w.heap.size w ((wb).setCell ⟨gf, p, none⟩ (.int .i64 (j : Int)))) := ⟨below_cells HBb.out (by have := HGT.out; have := HGF.out; omega) p [_]⟩; clear hp1 hgr) | (refine arr_load_armG (by rfl) (.tmp 12) rfl rfl HAb.out (blockL_length l n p) ?_) | (refine arr_load_armG (by rfl) (.tmp 9) rfl rfl HLb.out HLL.out ?_) | (refine arr_neq_armG (xs := blockL l n p) (ys := last) (by rfl) (.tmp 41) (.tmp 42) 122 rfl rfl rfl (blockL_length l n p) HLL.out ?_))
          exact ⟨⟨p + 1, k', (j : Int), _, second, blockL l n p, v2, by go_num, rfl, rfl, by omega, hk', HBE5, ⟨.inr ⟨by omega, j, rfl, HJS.out, HJL2.out⟩⟩, ⟨blockL_length l n p⟩, ⟨tab_next HTAB.out hlt (.inl rfl) HJS.out HJL2.out⟩, HTe, HP, H2e, HLe, HBe⟩, by simp [intOf]; omega⟩
        · have hbb : (blockL l n p == last) = false := by simpa using heq
          clear heq
          go_wp2_with (first | (refine arr_store_arm (g := gb) (ys := blockL l n p) rfl (.tmp 12) (.tmp 36) rfl rfl rfl rfl HA5.out (evenL_length 0) (blockL_length l n p) ?_; intro wb h1 h2 h3; have HAb := Aside0.mk h1; have HTb : Aside0 (wb.heap[gt]? = some (.cells (tabCells (.slice (some ⟨gf, 0, none⟩) 8704 cap) v2 n) 120 (0, 0))) := ⟨(h2.block _ (blk_lt HT5.out) (fun e => by have e2 : gt = gb := Option.some.inj e; have := HGF.out; have := HGL.out; have := HGB.out; omega)).trans HT5.out⟩; have HLb : Aside0 (Arr wb gl last) := ⟨(h2.block _ (blk_lt HL5.out) (fun e => by have e2 : gl = gb := Option.some.inj e; have := HGB.out; omega)).trans HL5.out⟩; have HFb : Aside0 (Kd.R (Kd.int .i64) 3 wb w.heap.size (fun k => k = gf) (.slice (some ⟨gf, 0, none⟩) 8704 cap) first) := ⟨Kd.R_grown HF5.out h2 (fun k hk e => by have e2 : k = gb := Option.some.inj e; have := HGL.out; have := HGB.out; omega)⟩; have H2b0 : Aside0 (Kd.R kb 122 wb (gl + 1) (fun k => k ≠ gt ∧ k < gb) v2 second) := ⟨Kd.R_grown H25.out h2 (fun k hk e => by have e2 : k = gb := Option.some.inj e; omega)⟩; have HNB : Aside0 (∀ k, v2.ownBlock = some k → k ≠ gb) := ⟨fun k hk e => by have := (H2b0.out.1 k hk).2; omega⟩; have H2b : Aside0 (Kd.R kb 122 wb (gl + 1) (fun k => k ≠ gt) v2 second) := ⟨Kd.R_mono H2b0.out (fun k hk => hk.1)⟩; have HBb : Aside0 (Below w.heap.size w wb) := ⟨below_grown2 HB5.out (Nat.le_refl _) h2 (fun k e => by have e2 : gb = k := Option.some.inj e; have := HGT.out; have := HGF.out; have := HGL.out; have := HGB.out; omega)⟩; have HGLb : Aside0 (gl < wb.heap.size) := ⟨blk_lt HLb.out⟩; clear h1 h2 h3 HA5 HT5 HF5 H25 HL5 HB5 H2b0) | (refine arr_load_armG (by rfl) (.tmp 12) rfl rfl HAb.out (blockL_length l n p) ?_) | (refine arr_load_armG (by rfl) (.tmp 9) rfl rfl HLb.out HLL.out ?_) | (refine arr_neq_armG (xs := blockL l n p) (ys := last) (by rfl) (.tmp 41) (.tmp 42) 122 rfl rfl rfl (blockL_length l n p) HLL.out ?_))
          refine start_ (n := 8) (S := fun W => Arr W gb (blockL l n p)) (ds := []) #[false, false, false, false, false, false, false, false] (by kernel_rfl) (by kernel_rfl) (by rfl) HAb.out (fun hS0 => ?_)
          refine pure_ (i := 1) (N := (some 46)) (v := ?_) (a' := ?_) #[false, true, false, false, false, false, false, false] rfl rfl (by kernel_rfl) (fun _ _ _ h => h) (Or.inl ⟨by rfl, ?_⟩) ?_ ?_
          rotate_left
          · intro w'
            go_simp
            with_reducible rfl
          rotate_left
          · simp only [Act.put, List.setIfInBounds_toArray, List.set_cons_zero, List.set_cons_succ]
            rfl
          refine pure_ (i := 2) (N := (some 47)) (v := ?_) (a' := ?_) #[false, true, true, false, false, false, false, false] rfl rfl (by kernel_rfl) (fun _ _ _ h => h) (Or.inl ⟨by rfl, ?_⟩) ?_ ?_
          rotate_left
          · intro w'
            go_simp
            with_reducible rfl
          rotate_left
          · simp only [Act.put, List.setIfInBounds_toArray, List.set_cons_zero, List.set_cons_succ]
            rfl
          refine pure_ (i := 3) (N := (some 48)) (v := ?_) (a' := ?_) #[false, true, true, true, false, false, false, false] rfl rfl (by kernel_rfl) (fun _ _ _ h => h) (Or.inl ⟨by rfl, ?_⟩) ?_ ?_
          rotate_left
          · intro w'
            go_simp
            with_reducible rfl
          rotate_left
          · simp only [Act.put, List.setIfInBounds_toArray, List.set_cons_zero, List.set_cons_succ]
            rfl
          refine take_ (i := 0) (N := (some 45)) (v := ?_) (a' := ?_) #[true, true, true, true, false, false, false, false] rfl rfl (by kernel_rfl) (fun _ _ _ h => h) (Or.inl ⟨by rfl, ?_⟩) hS0 ?_ ?_
          rotate_left
          · intro w' s0
            refine exec_load (.tmp 12) (xs := blockL l n p) (ad := ⟨gb, 0, none⟩) ?_ ?_ ?_
            · rfl
            · rfl
            · exact arr_load s0 (blockL_length l n p)
          rotate_left
          · simp only [Act.put, List.setIfInBounds_toArray, List.set_cons_zero, List.set_cons_succ]
            rfl
          refine take_ (i := 4) (N := (some 49)) (v := ?_) (a' := ?_) #[true, true, true, true, true, false, false, false] rfl rfl (by kernel_rfl) (fun _ _ _ h => h) (Or.inl ⟨by rfl, ?_⟩) hS0 ?_ ?_
          rotate_left
          · intro w' s0
            refine exec_load (.tmp 12) (xs := blockL l n p) (ad := ⟨gb, 0, none⟩) ?_ ?_ ?_
            · rfl
            · rfl
            · exact arr_load s0 (blockL_length l n p)
          rotate_left
          · simp only [Act.put, List.setIfInBounds_toArray, List.set_cons_zero, List.set_cons_succ]
            rfl
          clear hS0
          refine one_ (i := 5) (N := (some 50)) #[true, true, true, true, true, true, false, false] rfl rfl (by kernel_rfl) (by decide) (fun K hK => ?_)
          refine goes_ Try.func129 (by kernel_rfl) rfl #[.pointer (some ⟨gt, 0, none⟩), .agg (vs (blockL l n p))] (by rfl) rfl rfl (by (try simp only [List.map_toArray, List.map_cons, List.map_nil]); rfl) ?_
          have HTx : Aside0 (wb.drew.heap[gt]? = some (.cells (tabCells (.slice (some ⟨gf, 0, none⟩) 8704 cap) v2 n) 120 (0, 0))) := ⟨HTb.out⟩
          have HAx : Aside0 (Arr wb.drew gb (blockL l n p)) := ⟨HAb.out⟩
          have HLx : Aside0 (Arr wb.drew gl last) := ⟨HLb.out⟩
          have H2x : Aside0 (Kd.R kb 122 wb.drew (gl + 1) (fun k => k ≠ gt) v2 second) := ⟨Kd.R_drew H2b.out⟩
          have HFx : Aside0 (Kd.R (Kd.int .i64) 3 wb.drew w.heap.size (fun k => k = gf) (.slice (some ⟨gf, 0, none⟩) 8704 cap) first) := ⟨Kd.R_drew HFb.out⟩
          have HBx : Aside0 (Below w.heap.size w wb.drew) := ⟨⟨HBb.out.os, HBb.out.tape, HBb.out.output, HBb.out.size, HBb.out.block⟩⟩
          refine (add_c HTx.out H2x.out (blockL_length l n p) (by have := HTAB.out.small; omega) (by have := HGLb.out; show gl + 1 ≤ wb.heap.size; omega)).mono ?_
          rintro e wc ⟨i, sec2, v2', rfl, hs, hi, hib, hT, hR, ho, hta, hou, hsz, hfr⟩
          refine ⟨_, rfl, ?_⟩
          have HI := Aside0.mk hi
          have HIB := Aside0.mk hib
          have HSS := Aside0.mk hs
          have HTc := Aside0.mk hT
          have H2c := Aside0.mk hR
          have HAc : Aside0 (Arr wc gb (blockL l n p)) := ⟨(hfr gb (blk_lt HAx.out) (by have := HGB.out; have := HGF.out; have := HGL.out; omega) (fun e => by have := Kd.R_base H2x.out gb e.symm; exact HNB.out gb e.symm rfl)).trans HAx.out⟩
          have HLc : Aside0 (Arr wc gl last) := ⟨(hfr gl (blk_lt HLx.out) (by have := HGF.out; have := HGL.out; omega) (fun e => by have := Kd.R_base H2x.out gl e.symm; omega)).trans HLx.out⟩
          have HFc : Aside0 (Kd.R (Kd.int .i64) 3 wc w.heap.size (fun k => k = gf) (.slice (some ⟨gf, 0, none⟩) 8704 cap) first) := ⟨Kd.R_step HFx.out (fun k hk hlt => hfr k hlt (by have hk9 : k = gf := hk; have := HGF.out; omega) (fun e => by have hk9 : k = gf := hk; have := Kd.R_base H2x.out k e.symm; have := HGL.out; omega))⟩
          have HBc : Aside0 (Below w.heap.size w wc) := ⟨⟨ho.trans HBx.out.os, hta.trans HBx.out.tape, hou.trans HBx.out.output, Nat.le_trans HBx.out.size hsz, fun k hk => (hfr k (Nat.lt_of_lt_of_le hk HBx.out.size) (by have := HGT.out; omega) (fun e => by have := Kd.R_base H2x.out k e.symm; have := HGT.out; have := HGF.out; have := HGL.out; omega)).trans (HBx.out.block k hk)⟩⟩
          clear hs hi hib hT hR ho hta hou hsz hfr
          refine hK.out (Act.put _ (some 50) _) _ HAc.out (fun hS0 => ?_)
          clear hK
          refine norm_ (a' := ?_) ?_ ?_
          rotate_left
          · simp only [Act.put, List.setIfInBounds_toArray, List.set_cons_zero, List.set_cons_succ]
            rfl
          clear hS0
          refine one_ (i := 6) (N := none) #[true, true, true, true, true, true, true, false] rfl rfl (by kernel_rfl) (by decide) (fun K hK => ?_)
          refine skip_ (w1 := wc.setRow gl (vs (blockL l n p))) (by rfl) rfl ?_ ?_
          · refine exec_store (.tmp 9) (.tmp 45) (old := last) (ys := blockL l n p) (g := gl) ?_ ?_ ?_ HLc.out HLL.out (blockL_length l n p)
            · rfl
            · rfl
            · rfl
          have hgs := grown_setRow wc gl (vs (blockL l n p))
          have HAd : Aside0 (Arr (wc.setRow gl (vs (blockL l n p))) gb (blockL l n p)) := ⟨(hgs.block _ (blk_lt HAc.out) (fun e => by have e2 : gb = gl := Option.some.inj e; have := HGB.out; omega)).trans HAc.out⟩
          have HLd : Aside0 (Arr (wc.setRow gl (vs (blockL l n p))) gl (blockL l n p)) := ⟨setRow_heap wc gl (vs last) (vs (blockL l n p)) 122 (0, 0) HLc.out⟩
          have HTd : Aside0 ((wc.setRow gl (vs (blockL l n p))).heap[gt]? = some (.cells (tabCells (.slice (some ⟨gf, 0, none⟩) 8704 cap) v2' n) 120 (0, 0))) := ⟨(hgs.block _ (blk_lt HTc.out) (fun e => by have e2 : gt = gl := Option.some.inj e; have := HGF.out; have := HGL.out; omega)).trans HTc.out⟩
          have HFd : Aside0 (Kd.R (Kd.int .i64) 3 (wc.setRow gl (vs (blockL l n p))) w.heap.size (fun k => k = gf) (.slice (some ⟨gf, 0, none⟩) 8704 cap) first) := ⟨Kd.R_grown HFc.out hgs (fun k hk e => by have e2 : k = gl := Option.some.inj e; have := HGL.out; omega)⟩
          have H2d : Aside0 (Kd.R kb 122 (wc.setRow gl (vs (blockL l n p))) (gl + 1) (fun k => k ≠ gt) v2' sec2) := ⟨Kd.R_mono (Kd.R_grown (Kd.R_mono (Kd.R_bound H2c.out) (fun k hk => (⟨hk.1, hk.2.1⟩ : k ≠ gt ∧ gl + 1 ≤ k))) hgs (fun k hk e => by have e2 : k = gl := Option.some.inj e; omega)) (fun k hk => hk.1)⟩
          have HBd : Aside0 (Below w.heap.size w (wc.setRow gl (vs (blockL l n p)))) := ⟨below_grown2 HBc.out (Nat.le_refl _) hgs (fun k e => by have e2 : gl = k := Option.some.inj e; have := HGT.out; have := HGF.out; have := HGL.out; omega)⟩
          clear hgs
          refine hK.out _ _ HAd.out (fun hS0 => ?_)
          clear hK
          refine pure_ (i := 7) (N := (some 10)) (v := ?_) (a' := ?_) #[true, true, true, true, true, true, true, true] rfl rfl (by kernel_rfl) (fun _ _ _ h => h) (Or.inl ⟨by rfl, ?_⟩) ?_ ?_
          rotate_left
          · intro w'
            go_simp
            with_reducible rfl
          rotate_left
          · simp only [Act.put, List.setIfInBounds_toArray, List.set_cons_zero, List.set_cons_succ]
            rfl
          refine done_ (by kernel_rfl) ?_
          clear hS0
          have t0 : (wc.setRow gl (vs (blockL l n p))).cell? ⟨gt, 0, none⟩ = some (.slice (some ⟨gf, 0, none⟩) 8704 cap) := (blk_cell HTd.out 0).trans rfl
          obtain ⟨y, z⟩ := Kd.R_celln (0 : Int) HFd.out (p : Int) (by omega) hpI
          have hp1 := (Kd.R_putg HFd.out (p : Int) (i : Int)).1
          rw [Int.toNat_natCast] at y z hp1
          have HP := Aside0.mk hp1
          have hgr := grown_set (wc.setRow gl (vs (blockL l n p))) gf p (.int .i64 (i : Int))
          have HTe : Aside0 (((wc.setRow gl (vs (blockL l n p))).setCell ⟨gf, p, none⟩ (.int .i64 (i : Int))).heap[gt]? = some (.cells (tabCells (.slice (some ⟨gf, 0, none⟩) 8704 cap) v2' n) 120 (0, 0))) := ⟨(hgr.block _ (blk_lt HTd.out) (fun e => by have e2 : gt = gf := Option.some.inj e; have := HGF.out; omega)).trans HTd.out⟩
          have HLe : Aside0 (Arr ((wc.setRow gl (vs (blockL l n p))).setCell ⟨gf, p, none⟩ (.int .i64 (i : Int))) gl (blockL l n p)) := ⟨(hgr.block _ (blk_lt HLd.out) (fun e => by have e2 : gl = gf := Option.some.inj e; have := HGL.out; omega)).trans HLd.out⟩
          have H2e : Aside0 (Kd.R kb 122 ((wc.setRow gl (vs (blockL l n p))).setCell ⟨gf, p, none⟩ (.int .i64 (i : Int))) (gl + 1) (fun k => k ≠ gt) v2' sec2) := ⟨Kd.R_mono (Kd.R_grown (Kd.R_mono (Kd.R_bound H2d.out) (fun k hk => (⟨hk.1, hk.2.1⟩ : k ≠ gt ∧ gl + 1 ≤ k))) hgr (fun k hk e => by have e2 : k = gf := Option.some.inj e; have := HGL.out; omega)) (fun k hk => hk.1)⟩
          have HBe : Aside0 (Below w.heap.size w ((wc.setRow gl (vs (blockL l n p))).setCell ⟨gf, p, none⟩ (.int .i64 (i : Int)))) := ⟨below_cells HBd.out (by have := HGT.out; have := HGF.out; omega) p [_]⟩
          clear hp1 hgr
          go_wp2_with fail
          exact ⟨⟨p + 1, k', (i : Int), _, sec2, blockL l n p, v2', by go_num, rfl, rfl, by omega, hk', HBE5, ⟨.inr ⟨by omega, i, rfl, HI.out, HIB.out⟩⟩, ⟨blockL_length l n p⟩, ⟨tab_next HTAB.out hlt HSS.out HI.out HIB.out⟩, HTe, HP, H2e, HLe, HBe⟩, by simp [intOf]; omega⟩
    · have hpI : ¬ ((p : Int) < 8704) := by omega
      obtain rfl : p = 8704 := by omega
      go_wp2_with fail
      refine bodyPost_ret (results_tmp2 rfl _ _ _) rfl ?_
      exact ⟨gt, rfl, HGT.out, ⟨_, v2, first, second, HTr.out, (by have h := SLk.of_R HFr.out; exact h), SLk.of_R H2r.out, HTAB.out⟩, HBr.out⟩
end Go.Proofs.Ytfkgjoflekemaaa.CTrie
