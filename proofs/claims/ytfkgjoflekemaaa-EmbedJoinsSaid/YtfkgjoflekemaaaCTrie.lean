/- The blocks of a table: even, filled: walked. -/
import Derived.Test.YtfkgjoflekemaaaUTrie
namespace Go.Proofs.Ytfkgjoflekemaaa.CTrie
open Go.RowKit Go.Proofs.YtfkgjoflekemaaaW.PrintWords Go.Proofs.YtfkgjoflekemaaaW.PrintMore Go.Proofs.YtfkgjoflekemaaaW.PrintLast Go.Proofs.Ytfkgjoflekemaaa.U Go.Proofs.Ytfkgjoflekemaaa.UTrie Go.Proofs.Ytfkgjoflekemaaa.PEmbedJoins
set_option linter.unusedVariables false
set_option linter.unusedSimpArgs false
/-- the cells of a block -/
def vs (xs : List Int) : Array Value := (xs.map (Value.int .i64)).toArray
theorem vs_size (xs : List Int) : (vs xs).size = xs.length := by simp [vs]
theorem vs_set (xs : List Int) (i : Nat) (x : Int) : (vs xs).setIfInBounds i (.int .i64 x) = vs (xs.set i x) := by
  simp [vs, List.map_set]
theorem vs_get (xs : List Int) (i : Nat) (h : i < xs.length) : (vs xs)[i]? = some (.int .i64 (xs.getD i 0)) := by
  simp [vs, List.getD_eq_getElem?_getD, h]
theorem info122 : (Try.prog.info? 122).map (·.size) = some 128 := by kernel_rfl
/-- a boxed block -/
abbrev Arr (w : World) (g : Nat) (xs : List Int) : Prop := w.heap[g]? = some (.cells (vs xs) 122 (0, 0))
theorem arr_load {w : World} {g : Nat} {xs : List Int} (h : Arr w g xs) (hl : xs.length = 128) : (loadVar 122 ⟨g, 0, none⟩).run Try.prog w = .ok (.agg (vs xs)) w :=
  run_loadVar_row w g 122 122 (vs xs) (0, 0) _ h Try.underlying122 rfl (by rw [info122, vs_size, hl])
theorem below_grown2 {B : Nat} {a w w' : World} {row : Option Nat} (h : Below B a w) (hB : B ≤ a.heap.size) (hg : w.grownBy w' row) (hr : ∀ k, row = some k → B ≤ k) : Below B a w' :=
  ⟨hg.os.trans h.os, hg.tape.trans h.tape, hg.output.trans h.output, Nat.le_trans h.size hg.size, fun k hk => (hg.block k (by have := h.size; omega) (fun e => by have := hr k e.symm; omega)).trans (h.block k hk)⟩
def evenL (v : Int) : List Int := List.replicate 128 v
theorem evenL_length (v : Int) : (evenL v).length = 128 := by simp [evenL]
def fillTo (v : Int) (k : Nat) : List Int := List.replicate k v ++ List.replicate (128 - k) 0
theorem fillTo_length (v : Int) (k : Nat) (h : k ≤ 128) : (fillTo v k).length = 128 := by simp [fillTo]; omega
theorem fillTo_succ (v : Int) (k : Nat) (h : k < 128) : (fillTo v k).set k v = fillTo v (k + 1) := by
  unfold fillTo
  rw [List.set_append_right _ _ (by simp), List.length_replicate, Nat.sub_self, show 128 - k = (128 - (k + 1)) + 1 by omega, List.replicate_succ, List.set_cons_zero, List.replicate_succ', List.append_assoc]
  rfl
theorem below_cells {B g : Nat} {a w : World} (h : Below B a w) (hg : B ≤ g) (o : Nat) (vs : List Value) : Below B a (w.setCells g o vs) := by
  obtain ⟨h1, h2, h3, h4⟩ := setCells_same g vs o w
  exact ⟨h1.trans h.os, h2.trans h.tape, h3.trans h.output, by rw [h4]; exact h.size, fun k hk => by rw [setCells_far vs o k (by omega)]; exact h.block k hk⟩
section
variable {o : Oper} {rest : List Oper} {ops : Array Oper} {a : Act} {Q : Exit → Act → World → Prop} {w : World}
/-- a block is read whole -/
theorem arr_load_arm {g : Nat} {xs : List Int} (hgd : o.guard = none) (x : Operand) (ho : o.op = .load 122 x) (hx : a.eval x = .pointer (some ⟨g, 0, none⟩)) (h : Arr w g xs) (hl : xs.length = 128)
    (hk : wpList Try.prog ops Q rest (a.put o.dst (.agg (vs xs))) w) : wpList Try.prog ops Q (o :: rest) a w := by
  refine wpList_plain hgd fun K hK => ?_
  have hrun : (execOp a.eval o).run Try.prog w = .ok (.value (.agg (vs xs))) w := by
    unfold execOp
    simp [ho, hx, Instr.loadAt, Instr.sureAddr, arr_load h hl]
  unfold Oper.wp
  rw [hrun]
  exact hK _ _ hk
/-- a block is written whole -/
theorem arr_store_arm {g : Nat} {old ys : List Int} (hgd : o.guard = none) (x y : Operand) (ho : o.op = .store 122 x y) (hd : o.dst = none) (hx : a.eval x = .pointer (some ⟨g, 0, none⟩)) (hy : a.eval y = .agg (vs ys)) (h : Arr w g old) (hl : old.length = 128) (hl2 : ys.length = 128)
    (hk : ∀ w1, Arr w1 g ys → w.grownBy w1 (some g) → w1.heap.size = w.heap.size → wpList Try.prog ops Q rest a w1) : wpList Try.prog ops Q (o :: rest) a w := by
  refine wpList_plain hgd fun K hK => ?_
  have hst : (storeVar 122 ⟨g, 0, none⟩ (.agg (vs ys))).run Try.prog w = .ok () (w.setRow g (vs ys)) :=
    run_storeVar_row w g 122 122 (vs old) (vs ys) h (by rw [info122, vs_size, hl2]) (by rw [vs_size, vs_size, hl, hl2]) (by simp [vs, Value.oneCell'])
  have hrun : (execOp a.eval o).run Try.prog w = .ok .skip (w.setRow g (vs ys)) := by
    unfold execOp
    simp [ho, hx, hy, Instr.storeAt, Instr.sureAddr, hst]
  unfold Oper.wp
  rw [hrun]
  show K (a.put o.dst undef) _
  rw [hd]
  refine hK _ _ (hk _ ?_ ?_ ?_)
  · exact setRow_heap w g (vs old) (vs ys) 122 (0, 0) h
  · exact ⟨rfl, rfl, rfl, by simp, fun k _ hne => setRow_other w g k _ (fun e => hne (by rw [e]))⟩
  · simp
end
set_option maxRecDepth 100000 in
set_option maxHeartbeats 2000000 in
theorem even_c (v : Int) (w : World) : Calls Try.prog 150 #[.int .i64 v] w fun e w' => e = .returned (.agg (vs (evenL v))) ∧ Below w.heap.size w w' := by
  go_enter Try.func150, Try.ntmps150
  go_wp2
  have hz : Try.zeroCells122 = vs (evenL 0) := by kernel_rfl
  rw [hz]
  obtain ⟨W, hW⟩ : ∃ W, W = (w.alloc (.cells (vs (evenL 0)) 122)).alloc (.cells (vs (evenL 0)) 122) := ⟨_, rfl⟩
  have HB : Aside0 (Below w.heap.size w W) := ⟨by rw [hW]; exact below_alloc (below_alloc (Below.refl _ _) _) _⟩
  have HA : Aside0 (Arr W (w.heap.size + 1) (fillTo v 0)) := ⟨by
    have := blk_new (w.alloc (.cells (vs (evenL 0)) 122)) (.cells (vs (evenL 0)) 122)
    rw [World.size_alloc] at this
    rw [hW]
    exact this⟩
  have HR : Aside0 (Arr W w.heap.size (evenL 0)) := ⟨by
    have h1 := blk_new w (.cells (vs (evenL 0)) 122)
    rw [hW]
    exact ((below_alloc (Below.refl (w.alloc (.cells (vs (evenL 0)) 122)).heap.size _) _).block _ (by rw [World.size_alloc]; omega)).trans h1⟩
  rw [← hW]
  clear hW hz
  go_loopw [5] (fun u wr => ∃ k : Nat, u = .int .i64 k ∧ k ≤ 128 ∧ Aside0 (Arr wr (w.heap.size + 1) (fillTo v k)) ∧ Aside0 (Arr wr w.heap.size (evenL 0)) ∧ Aside0 (Below w.heap.size w wr)) (fun u _ => 128 - (intOf u).toNat)
  case atStart => exact ⟨0, rfl, Nat.zero_le _, HA, HR, HB⟩
  case round =>
    obtain ⟨k, rfl, hk, HAk, HRk, HBk⟩ := hrel
    by_cases hlt : k < 128
    · have hkI : (k : Int) < 128 := by omega
      have hc : wr.cell? ⟨w.heap.size + 1, k, none⟩ = some (.int .i64 ((fillTo v k).getD k 0)) := (blk_cell HAk.out k).trans (vs_get _ _ (by rw [fillTo_length v k hk]; exact hlt))
      have hf : wr.frozen? ⟨w.heap.size + 1, k, none⟩ = false := blk_frozen HAk.out k
      have HAn : Aside0 (Arr (wr.setCell ⟨w.heap.size + 1, k, none⟩ (.int .i64 v)) (w.heap.size + 1) (fillTo v (k + 1))) := ⟨by
        have := blk_set HAk.out k (.int .i64 v)
        rw [vs_set, fillTo_succ v k hlt] at this
        exact this⟩
      have HRn : Aside0 (Arr (wr.setCell ⟨w.heap.size + 1, k, none⟩ (.int .i64 v)) w.heap.size (evenL 0)) := ⟨(Below.heap_setCell wr ⟨w.heap.size + 1, k, none⟩ (.int .i64 v) w.heap.size (by show w.heap.size ≠ w.heap.size + 1; omega)).trans HRk.out⟩
      have HBn : Aside0 (Below w.heap.size w (wr.setCell ⟨w.heap.size + 1, k, none⟩ (.int .i64 v))) := ⟨below_cells HBk.out (by omega) k [.int .i64 v]⟩
      go_wp2_with fail
      exact ⟨⟨k + 1, by go_num, by omega, HAn, HRn, HBn⟩, by simp [intOf]; omega⟩
    · obtain rfl : k = 128 := by omega
      go_wp2_with (first | (refine arr_load_arm rfl (.tmp 3) rfl rfl HAk.out (fillTo_length v 128 (by omega)) ?_) | (refine arr_store_arm (g := w.heap.size) (ys := fillTo v 128) rfl (.tmp 2) (.tmp 12) rfl rfl rfl rfl HRk.out (evenL_length 0) (fillTo_length v 128 (by omega)) ?_; intro w1 h1 h2 h3; have H1 := Aside0.mk h1; have H2 := Aside0.mk (below_grown2 HBk.out (Nat.le_refl _) h2 (fun k hk => by injection hk with hk; omega)); clear h1 h2 h3))
      refine bodyPost_ret (results_cell_row rfl _ _ w.heap.size 122 (vs (fillTo v 128)) (0, 0) _ rfl H1.out Try.underlying122 rfl (by rw [info122, vs_size, fillTo_length v 128 (by omega)])) rfl ?_
      exact ⟨by simp [fillTo, evenL], H2.out⟩
/-- what a range's cells hold -/
theorem range_at {w : World} {A : Option Addr} {c : Nat} {l : List S127} (h : SLk k127 w (.slice A l.length c) l) (k : Nat) (hk : k < l.length) : ∃ ad, A = some ad ∧ w.cell? (ad.add (k * 3)) = some (.int .i64 l[k].f0) ∧ w.cell? ⟨(ad.add (k * 3)).block, (ad.add (k * 3)).off + 1, none⟩ = some (.int .i64 l[k].f1) ∧ w.cell? ⟨(ad.add (k * 3)).block, (ad.add (k * 3)).off + 2, none⟩ = some (.int .i64 l[k].f2) := by
  obtain ⟨A', c', e, _, hC⟩ := h
  injection e with e1 e2 e3
  subst e1
  obtain ⟨ad, e, h1, h2, h3⟩ := at_T127 hC (k : Int) (by omega) (by omega)
  have hg : rd_T127 l (k : Int) = l[k] := by
    show l.getD k z127 = _
    rw [List.getD_eq_getElem?_getD, List.getElem?_eq_getElem hk]; rfl
  rw [Int.toNat_natCast, hg] at h1 h2 h3
  exact ⟨ad, e, h1, h2, h3⟩
attribute [local go_sem] max2_int min2_int max_two min_two max_three min_three max_four min_four
set_option maxRecDepth 100000 in
set_option maxHeartbeats 4000000 in
theorem filled_c {w : World} {A : Option Addr} {c : Nat} {l : List S127} (n : Int) (p fr : Nat) (h : SLk k127 w (.slice A l.length c) l) (ok : Ok l) (hm : l.length ≤ 4096) (hp : p < 8704) (hf : fr ≤ l.length) (hbef : ∀ (i : Nat) (hi : i < l.length), i < fr → l[i].f1 < 128 * (p : Int)) :
    Calls Try.prog 128 #[.slice A l.length c, .int .i64 p, .int .i64 fr, .int .i64 n] w fun e w' => ∃ k : Nat, k ≤ l.length ∧ (∀ (i : Nat) (hi : i < l.length), i < k → l[i].f1 < 128 * ((p + 1 : Nat) : Int)) ∧ e = .returned (.tuple #[.agg (vs (blockL l n p)), .int .i64 k]) ∧ Below w.heap.size w w' := by
  have H := Aside0.mk h
  have HOK := Aside0.mk ok
  have HBE := Aside0.mk hbef
  have HM := Aside0.mk hm
  clear h ok hbef
  have hz : Try.zeroCells122 = vs (evenL 0) := by kernel_rfl
  have HZ := Aside0.mk hz
  clear hz
  go_enter Try.func128, Try.ntmps128
  go_wp2_with fail
  refine (even_c n _).mono ?_
  rintro e w1 ⟨rfl, hb⟩
  rw [HZ.out] at hb
  have D := blk_new w (.cells (vs (evenL 0)) 122)
  have HZ1 : Aside0 (Arr w1 w.heap.size (evenL 0)) := ⟨(hb.block _ (blk_lt D)).trans D⟩
  have HB1 := Aside0.mk (below_step (below_alloc (Below.refl w.heap.size w) _) hb)
  clear hb D
  have D2 := blk_new w1 (.cells (vs (evenL 0)) 122)
  have HA2 := Aside0.mk D2
  have HZ2 : Aside0 (Arr (w1.alloc (.cells (vs (evenL 0)) 122)) w.heap.size (evenL 0)) := ⟨((below_alloc (Below.refl w1.heap.size w1) _).block _ (blk_lt HZ1.out)).trans HZ1.out⟩
  have HB2 := Aside0.mk (below_alloc HB1.out (.cells (vs (evenL 0)) 122))
  clear D2
  go_wp2_with (first | (rw [HZ.out]; refine arr_store_arm (g := w1.heap.size) (ys := evenL n) rfl (.tmp 10) (.tmp 15) rfl rfl rfl rfl HA2.out (evenL_length 0) (evenL_length n) ?_; intro w3 h1 h2 h3; have HA3 := Aside0.mk h1; have HB3 := Aside0.mk (below_grown2 HB2.out (Nat.le_refl _) h2 (fun k hk => by injection hk with hk; have := HB1.out.size; omega)); have HZ3 : Aside0 (Arr w3 w.heap.size (evenL 0)) := ⟨(h2.block _ (blk_lt HZ2.out) (fun e => by injection e with e; have := blk_lt HZ1.out; omega)).trans HZ2.out⟩; clear h1 h2 h3))
  have HG : Aside0 (w.heap.size < w1.heap.size) := ⟨blk_lt HZ1.out⟩
  obtain ⟨g, hg⟩ : ∃ g, g = w1.heap.size := ⟨_, rfl⟩
  rw [← hg] at HA3 HG ⊢
  have HA4 : Aside0 (Arr w3 g (partL l n p fr)) := ⟨by rw [partL_start l n p fr HBE.out]; exact HA3.out⟩
  have HBE2 : Aside0 (∀ (i : Nat) (hi : i < l.length), i < fr → l[i].f1 < 128 * ((p + 1 : Nat) : Int)) := ⟨fun i hi hk => by have := HBE.out i hi hk; omega⟩
  clear hg HA2 HZ2 HB2 HZ1 HB1 HA3
  go_loopw [2] (fun v wr => ∃ k : Nat, v = .int .i64 k ∧ k ≤ l.length ∧ Aside0 (∀ (i : Nat) (hi : i < l.length), i < k → l[i].f1 < 128 * ((p + 1 : Nat) : Int)) ∧ Aside0 (Arr wr g (partL l n p k)) ∧ Aside0 (Arr wr w.heap.size (evenL 0)) ∧ Aside0 (Below w.heap.size w wr)) (fun v _ => l.length - (intOf v).toNat)
  case atStart => exact ⟨fr, rfl, hf, HBE2, HA4, HZ3, HB3⟩
  case round =>
    obtain ⟨k, rfl, hk, HBk, HA, HZx, HB⟩ := hrel
    by_cases hlt : k < l.length
    · have hkI : (k : Int) < (l.length : Int) := by omega
      obtain ⟨ad, ea, g1, g2, g3⟩ := range_at (SLk.below H.out HB.out) k hlt
      subst ea
      obtain ⟨F, hF1, hF2, hF3, hF4⟩ := round_facts l HOK.out n p k hlt
      have hri := HOK.out.right _ (List.getElem_mem hlt)
      have hlb : ∀ (i : Nat) (hi : i < l.length), k < i → l[k].f1 < l[i].f0 := fun i hi h => lo_behind l HOK.out k i hlt hi h
      have hlf : ∀ (i : Nat) (hi : i < l.length), k ≤ i → l[k].f0 ≤ l[i].f0 := fun i hi h => lo_from l HOK.out k i hlt hi h
      have hpi : l[k].f1 < 128 * ((p + 1 : Nat) : Int) → ∀ (i : Nat) (hi : i < l.length), i < k + 1 → l[i].f1 < 128 * ((p + 1 : Nat) : Int) := fun h1 i hi hik => by
        by_cases e : i = k
        · subst e; exact h1
        · exact HBk.out i hi (by omega)
      generalize l[k].f0 = x0 at *
      generalize l[k].f1 = x1 at *
      generalize l[k].f2 = x2 at *
      have HF1 := Aside0.mk hF1
      have HF2 := Aside0.mk hF2
      have HF3 := Aside0.mk hF3
      have HF4 := Aside0.mk hF4
      have HLB := Aside0.mk hlb
      have HLF := Aside0.mk hlf
      have HPI := Aside0.mk hpi
      have HRI := Aside0.mk hri
      clear hF1 hF2 hF3 hF4 hlb hlf hpi hri
      by_cases hin : x0 < (p : Int) * 128 + 128
      · have hin1 : decide (x0 < (p : Int) * 128 + 128) = true := decide_eq_true hin
        have HIN := Aside0.mk hin
        clear hin
        have D := blk_new wr (.cells #[.int .i64 x0, .int .i64 x1, .int .i64 x2] 127)
        have HD := Aside0.mk D
        have HBa := Aside0.mk (below_alloc HB.out (.cells #[.int .i64 x0, .int .i64 x1, .int .i64 x2] 127))
        have HAa : Aside0 (Arr (wr.alloc (.cells #[.int .i64 x0, .int .i64 x1, .int .i64 x2] 127)) g (partL l n p k)) := ⟨((below_alloc (Below.refl wr.heap.size wr) _).block _ (blk_lt HA.out)).trans HA.out⟩
        have HZa : Aside0 (Arr (wr.alloc (.cells #[.int .i64 x0, .int .i64 x1, .int .i64 x2] 127)) w.heap.size (evenL 0)) := ⟨((below_alloc (Below.refl wr.heap.size wr) _).block _ (blk_lt HZx.out)).trans HZx.out⟩
        have c0 : (wr.alloc (.cells #[.int .i64 x0, .int .i64 x1, .int .i64 x2] 127)).cell? ⟨wr.heap.size, 0, none⟩ = some (.int .i64 x0) := (blk_cell D 0).trans rfl
        have c1 : (wr.alloc (.cells #[.int .i64 x0, .int .i64 x1, .int .i64 x2] 127)).cell? ⟨wr.heap.size, 1, none⟩ = some (.int .i64 x1) := (blk_cell D 1).trans rfl
        have HGL : Aside0 (g < wr.heap.size) := ⟨blk_lt HA.out⟩
        clear D
        by_cases hmx : (p : Int) * 128 ≤ x0
        · go_wp2_with fail
          obtain ⟨W0, hW0⟩ : ∃ W0, W0 = wr := ⟨_, rfl⟩
          subst hW0
          go_loopw [13] (fun v wx => ∃ d : Int, v = .int .i64 d ∧ x0 ≤ d ∧ (d ≤ x1 + 1 ∨ d ≤ (p : Int) * 128) ∧ d ≤ (p : Int) * 128 + 128 ∧ Aside0 (Arr wx g (F d)) ∧ Aside0 (Arr wx w.heap.size (evenL 0)) ∧ Aside0 (Below w.heap.size w wx) ∧ Aside0 (wx.heap[W0.heap.size]? = some (.cells #[.int .i64 x0, .int .i64 x1, .int .i64 x2] 127 (0, 0)))) (fun v _ => ((p : Int) * 128 + 128 - intOf v).toNat)
          case atStart => exact ⟨x0, rfl, Int.le_refl _, (by have := HRI.out; omega), (by have := HIN.out; omega), ⟨by rw [HF1.out x0 (by omega)]; exact HAa.out⟩, HZa, HBa, HD⟩
          case round =>
            obtain ⟨d, rfl, hd1, hd2, hd3, HAd, HZd, HBd, HDd⟩ := hrel
            have r1 : wr.cell? ⟨W0.heap.size, 1, none⟩ = some (.int .i64 x1) := (blk_cell HDd.out 1).trans rfl
            have r2 : wr.cell? ⟨W0.heap.size, 2, none⟩ = some (.int .i64 x2) := (blk_cell HDd.out 2).trans rfl
            have hp0 : (p : Int) < 8704 := by omega
            by_cases hgo : d ≤ x1 ∧ d < (p : Int) * 128 + 128
            · obtain ⟨hg1, hg2⟩ := hgo
              have b1 : 0 ≤ d - (p : Int) * 128 := by omega
              have b2 : d - (p : Int) * 128 < 128 := by omega
              have b3 : (p : Int) * 128 ≤ d := by omega
              have hl4 := HF4.out d
              have hc : wr.cell? ⟨g, (d - (p : Int) * 128).toNat, none⟩ = some (.int .i64 ((F d).getD (d - (p : Int) * 128).toNat 0)) := (blk_cell HAd.out _).trans (vs_get _ _ (by omega))
              have hfz : wr.frozen? ⟨g, (d - (p : Int) * 128).toNat, none⟩ = false := blk_frozen HAd.out _
              have HAn : Aside0 (Arr (wr.setCell ⟨g, (d - (p : Int) * 128).toNat, none⟩ (.int .i64 x2)) g (F (d + 1))) := ⟨by
                have := blk_set HAd.out (d - (p : Int) * 128).toNat (.int .i64 x2)
                rw [vs_set, HF2.out d (by omega) b3 hg2] at this
                exact this⟩
              have HZn : Aside0 (Arr (wr.setCell ⟨g, (d - (p : Int) * 128).toNat, none⟩ (.int .i64 x2)) w.heap.size (evenL 0)) := ⟨(Below.heap_setCell wr ⟨g, (d - (p : Int) * 128).toNat, none⟩ (.int .i64 x2) w.heap.size (by have := HG.out; show w.heap.size ≠ g; omega)).trans HZd.out⟩
              have HDn : Aside0 ((wr.setCell ⟨g, (d - (p : Int) * 128).toNat, none⟩ (.int .i64 x2)).heap[W0.heap.size]? = some (.cells #[.int .i64 x0, .int .i64 x1, .int .i64 x2] 127 (0, 0))) := ⟨(Below.heap_setCell wr ⟨g, (d - (p : Int) * 128).toNat, none⟩ (.int .i64 x2) W0.heap.size (by have := HGL.out; show W0.heap.size ≠ g; omega)).trans HDd.out⟩
              have HBn : Aside0 (Below w.heap.size w (wr.setCell ⟨g, (d - (p : Int) * 128).toNat, none⟩ (.int .i64 x2))) := ⟨below_cells HBd.out (by have := HG.out; omega) _ [.int .i64 x2]⟩
              by_cases hmn : x1 ≤ (p : Int) * 128 + 128 - 1
              · go_wp2_with fail
                exact ⟨⟨d + 1, by go_num, by omega, by omega, by omega, HAn, HZn, HBn, HDn⟩, by simp [intOf]; omega⟩
              · have hmn2 : (p : Int) * 128 + 128 - 1 < x1 := by omega
                have hmn3 : d ≤ (p : Int) * 128 + 128 - 1 := by omega
                go_wp2_with fail
                exact ⟨⟨d + 1, by go_num, by omega, by omega, by omega, HAn, HZn, HBn, HDn⟩, by simp [intOf]; omega⟩
            · have HAe : Aside0 (Arr wr g (partL l n p (k + 1))) := ⟨by rw [← HF3.out d (by omega) (by omega)]; exact HAd.out⟩
              by_cases hmn : x1 ≤ (p : Int) * 128 + 128 - 1
              · have hno : ¬ (d ≤ x1) := by omega
                have hbr : ¬ ((p : Int) * 128 + 128 ≤ x1) := by omega
                go_wp2_with fail
                exact ⟨⟨k + 1, by go_num, by omega, ⟨HPI.out (by omega)⟩, HAe, HZd, HBd⟩, by simp [intOf]; omega⟩
              · have hmn2 : (p : Int) * 128 + 128 - 1 < x1 := by omega
                have hno : ¬ (d ≤ (p : Int) * 128 + 128 - 1) := by omega
                have hbr : (p : Int) * 128 + 128 ≤ x1 := by omega
                have HAb : Aside0 (Arr wr g (blockL l n p)) := ⟨by rw [← partL_end l n p (k + 1) (fun i hi h => by have := HLB.out i hi (by omega); omega)]; exact HAe.out⟩
                have HB := HBd
                have HZx := HZd
                go_wp2_with (first | (refine arr_load_arm rfl (.tmp 10) rfl rfl HAb.out (blockL_length l n p) ?_) | (refine arr_store_arm (g := w.heap.size) (ys := blockL l n p) rfl (.tmp 8) (.tmp 63) rfl rfl rfl rfl HZx.out (evenL_length 0) (blockL_length l n p) ?_; intro w9 h1 h2 h3; have H1 := Aside0.mk h1; have H2 := Aside0.mk (below_grown2 HB.out (Nat.le_refl _) h2 (fun k hk => by injection hk with hk; omega)); clear h1 h2 h3))
                refine bodyPost_ret (results_ct rfl _ _ w.heap.size 122 (vs (blockL l n p)) (0, 0) _ rfl H1.out Try.underlying122 rfl (by rw [info122, vs_size, blockL_length])) rfl ?_
                exact ⟨k, hk, HBk.out, rfl, H2.out⟩
        · have hmx2 : x0 < (p : Int) * 128 := by omega
          go_wp2_with fail
          obtain ⟨W0, hW0⟩ : ∃ W0, W0 = wr := ⟨_, rfl⟩
          subst hW0
          go_loopw [13] (fun v wx => ∃ d : Int, v = .int .i64 d ∧ ((p : Int) * 128) ≤ d ∧ (d ≤ x1 + 1 ∨ d ≤ (p : Int) * 128) ∧ d ≤ (p : Int) * 128 + 128 ∧ Aside0 (Arr wx g (F d)) ∧ Aside0 (Arr wx w.heap.size (evenL 0)) ∧ Aside0 (Below w.heap.size w wx) ∧ Aside0 (wx.heap[W0.heap.size]? = some (.cells #[.int .i64 x0, .int .i64 x1, .int .i64 x2] 127 (0, 0)))) (fun v _ => ((p : Int) * 128 + 128 - intOf v).toNat)
          case atStart => exact ⟨((p : Int) * 128), rfl, Int.le_refl _, (by have := HRI.out; omega), (by have := HIN.out; omega), ⟨by rw [HF1.out ((p : Int) * 128) (by omega)]; exact HAa.out⟩, HZa, HBa, HD⟩
          case round =>
            obtain ⟨d, rfl, hd1, hd2, hd3, HAd, HZd, HBd, HDd⟩ := hrel
            have r1 : wr.cell? ⟨W0.heap.size, 1, none⟩ = some (.int .i64 x1) := (blk_cell HDd.out 1).trans rfl
            have r2 : wr.cell? ⟨W0.heap.size, 2, none⟩ = some (.int .i64 x2) := (blk_cell HDd.out 2).trans rfl
            have hp0 : (p : Int) < 8704 := by omega
            by_cases hgo : d ≤ x1 ∧ d < (p : Int) * 128 + 128
            · obtain ⟨hg1, hg2⟩ := hgo
              have b1 : 0 ≤ d - (p : Int) * 128 := by omega
              have b2 : d - (p : Int) * 128 < 128 := by omega
              have b3 : (p : Int) * 128 ≤ d := by omega
              have hl4 := HF4.out d
              have hc : wr.cell? ⟨g, (d - (p : Int) * 128).toNat, none⟩ = some (.int .i64 ((F d).getD (d - (p : Int) * 128).toNat 0)) := (blk_cell HAd.out _).trans (vs_get _ _ (by omega))
              have hfz : wr.frozen? ⟨g, (d - (p : Int) * 128).toNat, none⟩ = false := blk_frozen HAd.out _
              have HAn : Aside0 (Arr (wr.setCell ⟨g, (d - (p : Int) * 128).toNat, none⟩ (.int .i64 x2)) g (F (d + 1))) := ⟨by
                have := blk_set HAd.out (d - (p : Int) * 128).toNat (.int .i64 x2)
                rw [vs_set, HF2.out d (by omega) b3 hg2] at this
                exact this⟩
              have HZn : Aside0 (Arr (wr.setCell ⟨g, (d - (p : Int) * 128).toNat, none⟩ (.int .i64 x2)) w.heap.size (evenL 0)) := ⟨(Below.heap_setCell wr ⟨g, (d - (p : Int) * 128).toNat, none⟩ (.int .i64 x2) w.heap.size (by have := HG.out; show w.heap.size ≠ g; omega)).trans HZd.out⟩
              have HDn : Aside0 ((wr.setCell ⟨g, (d - (p : Int) * 128).toNat, none⟩ (.int .i64 x2)).heap[W0.heap.size]? = some (.cells #[.int .i64 x0, .int .i64 x1, .int .i64 x2] 127 (0, 0))) := ⟨(Below.heap_setCell wr ⟨g, (d - (p : Int) * 128).toNat, none⟩ (.int .i64 x2) W0.heap.size (by have := HGL.out; show W0.heap.size ≠ g; omega)).trans HDd.out⟩
              have HBn : Aside0 (Below w.heap.size w (wr.setCell ⟨g, (d - (p : Int) * 128).toNat, none⟩ (.int .i64 x2))) := ⟨below_cells HBd.out (by have := HG.out; omega) _ [.int .i64 x2]⟩
              by_cases hmn : x1 ≤ (p : Int) * 128 + 128 - 1
              · go_wp2_with fail
                exact ⟨⟨d + 1, by go_num, by omega, by omega, by omega, HAn, HZn, HBn, HDn⟩, by simp [intOf]; omega⟩
              · have hmn2 : (p : Int) * 128 + 128 - 1 < x1 := by omega
                have hmn3 : d ≤ (p : Int) * 128 + 128 - 1 := by omega
                go_wp2_with fail
                exact ⟨⟨d + 1, by go_num, by omega, by omega, by omega, HAn, HZn, HBn, HDn⟩, by simp [intOf]; omega⟩
            · have HAe : Aside0 (Arr wr g (partL l n p (k + 1))) := ⟨by rw [← HF3.out d (by omega) (by omega)]; exact HAd.out⟩
              by_cases hmn : x1 ≤ (p : Int) * 128 + 128 - 1
              · have hno : ¬ (d ≤ x1) := by omega
                have hbr : ¬ ((p : Int) * 128 + 128 ≤ x1) := by omega
                go_wp2_with fail
                exact ⟨⟨k + 1, by go_num, by omega, ⟨HPI.out (by omega)⟩, HAe, HZd, HBd⟩, by simp [intOf]; omega⟩
              · have hmn2 : (p : Int) * 128 + 128 - 1 < x1 := by omega
                have hno : ¬ (d ≤ (p : Int) * 128 + 128 - 1) := by omega
                have hbr : (p : Int) * 128 + 128 ≤ x1 := by omega
                have HAb : Aside0 (Arr wr g (blockL l n p)) := ⟨by rw [← partL_end l n p (k + 1) (fun i hi h => by have := HLB.out i hi (by omega); omega)]; exact HAe.out⟩
                have HB := HBd
                have HZx := HZd
                go_wp2_with (first | (refine arr_load_arm rfl (.tmp 10) rfl rfl HAb.out (blockL_length l n p) ?_) | (refine arr_store_arm (g := w.heap.size) (ys := blockL l n p) rfl (.tmp 8) (.tmp 63) rfl rfl rfl rfl HZx.out (evenL_length 0) (blockL_length l n p) ?_; intro w9 h1 h2 h3; have H1 := Aside0.mk h1; have H2 := Aside0.mk (below_grown2 HB.out (Nat.le_refl _) h2 (fun k hk => by injection hk with hk; omega)); clear h1 h2 h3))
                refine bodyPost_ret (results_ct rfl _ _ w.heap.size 122 (vs (blockL l n p)) (0, 0) _ rfl H1.out Try.underlying122 rfl (by rw [info122, vs_size, blockL_length])) rfl ?_
                exact ⟨k, hk, HBk.out, rfl, H2.out⟩
      · have hin1 : decide (x0 < (p : Int) * 128 + 128) = false := decide_eq_false hin
        have HAb : Aside0 (Arr wr g (blockL l n p)) := ⟨by rw [← partL_end l n p k (fun i hi h => by have := HLF.out i hi h; omega)]; exact HA.out⟩
        clear hin
        go_wp2_with (first | (refine arr_load_arm rfl (.tmp 10) rfl rfl HAb.out (blockL_length l n p) ?_) | (refine arr_store_arm (g := w.heap.size) (ys := blockL l n p) rfl (.tmp 8) (.tmp 63) rfl rfl rfl rfl HZx.out (evenL_length 0) (blockL_length l n p) ?_; intro w9 h1 h2 h3; have H1 := Aside0.mk h1; have H2 := Aside0.mk (below_grown2 HB.out (Nat.le_refl _) h2 (fun k hk => by injection hk with hk; omega)); clear h1 h2 h3))
        refine bodyPost_ret (results_ct rfl _ _ w.heap.size 122 (vs (blockL l n p)) (0, 0) _ rfl H1.out Try.underlying122 rfl (by rw [info122, vs_size, blockL_length])) rfl ?_
        exact ⟨k, hk, HBk.out, rfl, H2.out⟩
    · have hkI : ¬ ((k : Int) < (l.length : Int)) := by omega
      have HAb : Aside0 (Arr wr g (blockL l n p)) := ⟨by rw [← partL_end l n p k (fun i hi h => by omega)]; exact HA.out⟩
      go_wp2_with (first | (refine arr_load_arm rfl (.tmp 10) rfl rfl HAb.out (blockL_length l n p) ?_) | (refine arr_store_arm (g := w.heap.size) (ys := blockL l n p) rfl (.tmp 8) (.tmp 63) rfl rfl rfl rfl HZx.out (evenL_length 0) (blockL_length l n p) ?_; intro w9 h1 h2 h3; have H1 := Aside0.mk h1; have H2 := Aside0.mk (below_grown2 HB.out (Nat.le_refl _) h2 (fun k hk => by injection hk with hk; omega)); clear h1 h2 h3))
      refine bodyPost_ret (results_ct rfl _ _ w.heap.size 122 (vs (blockL l n p)) (0, 0) _ rfl H1.out Try.underlying122 rfl (by rw [info122, vs_size, blockL_length])) rfl ?_
      exact ⟨k, hk, HBk.out, rfl, H2.out⟩
end Go.Proofs.Ytfkgjoflekemaaa.CTrie
