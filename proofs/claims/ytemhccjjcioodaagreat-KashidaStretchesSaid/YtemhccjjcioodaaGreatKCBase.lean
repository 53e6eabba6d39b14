/- Cut. -/
import Derived.Test.YtemhccjjcioodaaGreatKPEmbedJoinsx0
import Derived.Laws.StructEq
import Derived.Test.YtemhccjjcioodaaGreatProg
import Derived.Below
import Derived.Deep.Draws
import Derived.Deep.AppendLies
import Derived.Maps.AppendAt
import Derived.OwnWalk
import Derived.Laws.BytesArg
import Derived.Laws.MakeOwn
import Derived.Laws.OwnMore
import Derived.Deep.OwnRows
import Derived.Tactics
import Derived.Lib.ConvBytes
import Derived.Laws.Slices
import Derived.WalkKit
import Derived.KernelRfl
import Derived.RowKit3
import Derived.Deep.LoopGhost
import Derived.Deep.QuietTactic
import Derived.BigQuiet
import Derived.WideLaws
import Derived.Deep.DeepCutAuto
import Derived.Deep.CutBlock
import Derived.Deep.RegionHeld3
import Derived.Laws.Rows
import Derived.Lib.AppendStr
import Derived.ArgAppend
import Derived.Laws.IdiomCopy
import Derived.OrdersHeld
import Derived.Laws.BitsLemmas
import Derived.RowKit
import Derived.Test.YtemhccjjcioodaaGreatKWWords
import Derived.Test.YtemhccjjcioodaaGreatKWMore
import Derived.Test.YtemhccjjcioodaaGreatKAl
set_option linter.unusedSimpArgs false
set_option linter.unusedVariables false
set_option maxRecDepth 100000
set_option maxHeartbeats 16000000
namespace Go.Proofs.YtemhccjjcioodaaGreat
open Go.RowKit YtemhccjjcioodaaGreatW.PrintLast YtemhccjjcioodaaGreatW.PrintMore YtemhccjjcioodaaGreatW.PrintWords
section
namespace UTrie
open U PEmbedJoins
def inR (c : Int) (r : S127) : Bool := decide (r.f0 ≤ c) && decide (c ≤ r.f1)
def getR (l : List S127) (n c : Int) : Int := match l.find? (inR c) with | some r => r.f2 | none => n
structure Ok (l : List S127) : Prop where
 apart : l.Pairwise (fun a b => a.f1 < b.f0)
 right : ∀ r ∈ l, 0 ≤ r.f0 ∧ r.f0 ≤ r.f1 ∧ r.f1 ≤ 1114111
theorem inR_iff (c : Int) (r : S127) : inR c r = true ↔ r.f0 ≤ c ∧ c ≤ r.f1 := by simp [inR]
theorem getR_none (l : List S127) (n c : Int) (h : ∀ r ∈ l, ¬ (r.f0 ≤ c ∧ c ≤ r.f1)) : getR l n c = n := by
 unfold getR
 rw [List.find?_eq_none.2 (fun r hr => by rw [inR_iff]; exact h r hr)]
theorem getR_append (a b : List S127) (n c : Int) : getR (a ++ b) n c = if (a.find? (inR c)).isSome then getR a n c else getR b n c := by
 unfold getR
 rw [List.find?_append]
 cases h : a.find? (inR c) with
 | none => simp
 | some r => simp
theorem getR_take (l : List S127) (ok : Ok l) (n c : Int) (k : Nat) (hk : k < l.length) : getR (l.take (k + 1)) n c = if l[k].f0 ≤ c ∧ c ≤ l[k].f1 then l[k].f2 else getR (l.take k) n c := by
 rw [qtS hk, getR_append]
 by_cases h : l[k].f0 ≤ c ∧ c ≤ l[k].f1
 ·rw [if_pos h]
  have hn : (l.take k).find? (inR c) = none := List.find?_eq_none.2 (fun r hr => by
   rw [inR_iff]
   obtain ⟨i, hi, rfl⟩ := List.mem_iff_getElem.1 hr
   rw [List.length_take] at hi
   rw [List.getElem_take]
   have := List.pairwise_iff_getElem.1 ok.apart i k (by omega) hk (by omega)
   omega)
  rw [hn]
  unfold getR
  rw [List.find?_cons, (inR_iff c l[k]).2 h]
  rfl
 ·rw [if_neg h]
  have h1 : getR [l[k]] n c = n := getR_none _ _ _ (fun r hr => by rw [List.mem_singleton.1 hr]; exact h)
  rw [h1]
  cases hf : (l.take k).find? (inR c) with
  | none => unfold getR; rw [hf]; rfl
  | some r => rfl
theorem getR_behind (l : List S127) (n c : Int) (k : Nat) (h : ∀ (i : Nat) (hi : i < l.length), k ≤ i → c < l[i].f0) : getR l n c = getR (l.take k) n c := by
 have e : l = l.take k ++ l.drop k := (List.take_append_drop k l).symm
 have h2 : getR (l.drop k) n c = n := getR_none _ _ _ (fun r hr => by
  obtain ⟨i, hi, rfl⟩ := List.mem_iff_getElem.1 hr
  rw [List.length_drop] at hi
  rw [List.getElem_drop]
  have := h (k + i) (by omega) (by omega)
  omega)
 have h3 : getR l n c = getR (l.take k ++ l.drop k) n c := by rw [List.take_append_drop]
 rw [h3, getR_append, h2]
 cases hf : (l.take k).find? (inR c) with
 | none => unfold getR; rw [hf]; rfl
 | some r => rfl
theorem getR_ahead (l : List S127) (n c : Int) (k : Nat) (h : ∀ (i : Nat) (hi : i < l.length), i < k → l[i].f1 < c) : getR (l.take k) n c = n := getR_none _ _ _ (fun r hr => by
 obtain ⟨i, hi, rfl⟩ := List.mem_iff_getElem.1 hr
 rw [List.length_take] at hi
 rw [List.getElem_take]
 have := h i (by omega) (by omega)
 omega)
def blockL (l : List S127) (n : Int) (p : Nat) : List Int := (List.range 128).map fun j => getR l n ((128 * p + j : Nat) : Int)
def partL (l : List S127) (n : Int) (p k : Nat) : List Int := (List.range 128).map fun j => getR (l.take k) n ((128 * p + j : Nat) : Int)
def withL (l : List S127) (n : Int) (p k : Nat) (r : S127) (c : Int) : List Int := (List.range 128).map fun j => if r.f0 ≤ ((128 * p + j : Nat) : Int) ∧ ((128 * p + j : Nat) : Int) < c then r.f2 else getR (l.take k) n ((128 * p + j : Nat) : Int)
theorem blockL_length (l : List S127) (n : Int) (p : Nat) : (blockL l n p).length = 128 := by simp [blockL]
theorem withL_length (l : List S127) (n : Int) (p k : Nat) (r : S127) (c : Int) : (withL l n p k r c).length = 128 := by simp [withL]
theorem partL_start (l : List S127) (n : Int) (p k : Nat) (h : ∀ (i : Nat) (hi : i < l.length), i < k → l[i].f1 < 128 * (p : Int)) : partL l n p k = List.replicate 128 n := by
 unfold partL
 apply List.ext_getElem
 ·simp
 ·intro j h1 h2
  rw [List.getElem_map, List.getElem_range, List.getElem_replicate]
  exact getR_ahead l n _ k (fun i hi hk => by have := h i hi hk; omega)
theorem withL_start (l : List S127) (n : Int) (p k : Nat) (r : S127) (c : Int) (h : c ≤ r.f0 ∨ c ≤ 128 * (p : Int)) : withL l n p k r c = partL l n p k := by
 unfold withL partL
 apply List.map_congr_left
 intro j _
 rw [if_neg (by omega)]
theorem withL_succ (l : List S127) (n : Int) (p k : Nat) (r : S127) (c : Int) (h1 : r.f0 ≤ c) (h2 : 128 * (p : Int) ≤ c) (h3 : c < 128 * (p : Int) + 128) : (withL l n p k r c).set (c - 128 * (p : Int)).toNat r.f2 = withL l n p k r (c + 1) := by
 apply List.ext_getElem
 ·simp [withL]
 ·intro j g1 g2
  rw [List.getElem_set]
  by_cases e : (c - 128 * (p : Int)).toNat = j
  ·rw [if_pos e]
   simp only [withL, List.getElem_map, List.getElem_range]
   rw [if_pos (by omega)]
  ·rw [if_neg e]
   simp only [withL, List.getElem_map, List.getElem_range]
   by_cases h : r.f0 ≤ ((128 * p + j : Nat) : Int) ∧ ((128 * p + j : Nat) : Int) < c
   ·rw [if_pos h, if_pos (by omega)]
   ·rw [if_neg h, if_neg (by omega)]
theorem withL_end (l : List S127) (ok : Ok l) (n : Int) (p k : Nat) (hk : k < l.length) (c : Int) (h : l[k].f1 < c ∨ 128 * (p : Int) + 128 ≤ c) (h2 : c ≤ l[k].f1 + 1 ∨ c ≤ 128 * (p : Int)) : withL l n p k l[k] c = partL l n p (k + 1) := by
 unfold withL partL
 apply List.map_congr_left
 intro j hj
 have hj := List.mem_range.1 hj
 rw [getR_take l ok n _ k hk]
 by_cases g : l[k].f0 ≤ ((128 * p + j : Nat) : Int) ∧ ((128 * p + j : Nat) : Int) < c
 ·rw [if_pos g, if_pos (by omega)]
 ·rw [if_neg g, if_neg (by omega)]
theorem partL_end (l : List S127) (n : Int) (p k : Nat) (h : ∀ (i : Nat) (hi : i < l.length), k ≤ i → 128 * (p : Int) + 128 ≤ l[i].f0) : partL l n p k = blockL l n p := by
 unfold partL blockL
 apply List.map_congr_left
 intro j hj
 have hj := List.mem_range.1 hj
 exact (getR_behind l n _ k (fun i hi hk => by have := h i hi hk; omega)).symm
theorem lo_from (l : List S127) (ok : Ok l) (k i : Nat) (hk : k < l.length) (hi : i < l.length) (h : k ≤ i) : l[k].f0 ≤ l[i].f0 := by
 by_cases e : k = i
 ·subst e; exact Int.le_refl _
 ·have h1 := List.pairwise_iff_getElem.1 ok.apart k i hk hi (by omega)
  have h2 := ok.right _ (List.getElem_mem hk)
  omega
theorem lo_behind (l : List S127) (ok : Ok l) (k i : Nat) (hk : k < l.length) (hi : i < l.length) (h : k < i) : l[k].f1 < l[i].f0 := List.pairwise_iff_getElem.1 ok.apart k i hk hi h
theorem blockL_get (l : List S127) (n : Int) (c : Nat) : (blockL l n (c / 128)).getD (c % 128) 0 = getR l n (c : Int) := by
 unfold blockL
 rw [qgD, List.getElem?_map, List.getElem?_range (by omega)]
 simp only [Option.map_some, Option.getD_some]
 congr 1
 omega
theorem round_facts (l : List S127) (ok : Ok l) (n : Int) (p k : Nat) (hk : k < l.length) : ∃ F : Int → List Int, (∀ c, c ≤ l[k].f0 ∨ c ≤ (p : Int) * 128 → F c = partL l n p k) ∧ (∀ c, l[k].f0 ≤ c → (p : Int) * 128 ≤ c → c < (p : Int) * 128 + 128 → (F c).set (c - (p : Int) * 128).toNat l[k].f2 = F (c + 1)) ∧ (∀ c, (l[k].f1 < c ∨ (p : Int) * 128 + 128 ≤ c) → (c ≤ l[k].f1 + 1 ∨ c ≤ (p : Int) * 128) → F c = partL l n p (k + 1)) ∧ (∀ c, (F c).length = 128) :=
 ⟨fun c => withL l n p k l[k] c, fun c h => withL_start l n p k l[k] c (by omega), fun c h1 h2 h3 => by have := withL_succ l n p k l[k] c h1 (by omega) (by omega); rwa [Int.mul_comm] at this, fun c h1 h2 => withL_end l ok n p k hk c (by omega) (by omega), fun c => withL_length l n p k l[k] c⟩
structure Tab (l : List S127) (n : Int) (first : List Int) (second : List (List Int)) (p : Nat) : Prop where
 len : first.length = 8704
 small : second.length ≤ p
 each : ∀ q : Nat, q < p → ∃ i : Nat, i < second.length ∧ first.getD q 0 = i ∧ second.getD i [] = blockL l n q
end UTrie
end
section
namespace CTrie
open U UTrie PEmbedJoins
def vs (xs : List Int) : Array Value := (xs.map (Value.int .i64)).toArray
theorem vs_size (xs : List Int) : (vs xs).size = xs.length := by simp [vs]
theorem vs_set (xs : List Int) (i : Nat) (x : Int) : (vs xs).setIfInBounds i (.int .i64 x) = vs (xs.set i x) := by
 simp [vs, List.map_set]
theorem vs_get (xs : List Int) (i : Nat) (h : i < xs.length) : (vs xs)[i]? = some (.int .i64 (xs.getD i 0)) := by
 simp [vs, qgD, h]
theorem info122 : (Tryz.prog.info? 146).map (·.size) = some 128 := by kernel_rfl
abbrev Arr (w : World) (g : Nat) (xs : List Int) : Prop := w.heap[g]? = some (.cells (vs xs) 146 (0, 0))
theorem arr_load {w : World} {g : Nat} {xs : List Int} (h : Arr w g xs) (hl : xs.length = 128) : (loadVar 146 ⟨g, 0, none⟩).run Tryz.prog w = .ok (.agg (vs xs)) w :=
 run_loadVar_row w g 146 146 (vs xs) (0, 0) _ h Tryz.underlying146 rfl (by rw [info122, vs_size, hl])
theorem below_grown2 {B : Nat} {a w w' : World} {row : Option Nat} (h : Below B a w) (hB : B ≤ a.heap.size) (hg : w.grownBy w' row) (hr : ∀ k, row = some k → B ≤ k) : Below B a w' :=
 ⟨hg.os.trans h.os, hg.tape.trans h.tape, hg.output.trans h.output, qlT h.size hg.size, fun k hk => (hg.block k (by have := h.size; omega) (fun e => by have := hr k e.symm; omega)).trans (h.block k hk)⟩
def evenL (v : Int) : List Int := List.replicate 128 v
theorem evenL_length (v : Int) : (evenL v).length = 128 := by simp [evenL]
def fillTo (v : Int) (k : Nat) : List Int := List.replicate k v ++ List.replicate (128 - k) 0
theorem fillTo_length (v : Int) (k : Nat) (h : k ≤ 128) : (fillTo v k).length = 128 := by simp [fillTo]; omega
theorem fillTo_succ (v : Int) (k : Nat) (h : k < 128) : (fillTo v k).set k v = fillTo v (k + 1) := by
 unfold fillTo
 rw [List.set_append_right _ _ (by simp), qlr, Nat.sub_self, show 128 - k = (128 - (k + 1)) + 1 by omega, List.replicate_succ, List.set_cons_zero, List.replicate_succ', List.append_assoc]
 rfl
theorem below_cells {B g : Nat} {a w : World} (h : Below B a w) (hg : B ≤ g) (o : Nat) (vs : List Value) : Below B a (w.setCells g o vs) := by
 obtain ⟨h1, h2, h3, h4⟩ := setCells_same g vs o w
 exact ⟨h1.trans h.os, h2.trans h.tape, h3.trans h.output, by rw [h4]; exact h.size, fun k hk => by rw [setCells_far vs o k (by omega)]; exact h.block k hk⟩
section
variable {o : Oper} {rest : List Oper} {ops : Array Oper} {a : Act} {Q : Exit → Act → World → Prop} {w : World}
theorem arr_load_arm {g : Nat} {xs : List Int} (hgd : o.guard = none) (x : Operand) (ho : o.op = .load 146 x) (hx : a.eval x = .pointer (some ⟨g, 0, none⟩)) (h : Arr w g xs) (hl : xs.length = 128)
 (hk : wpList Tryz.prog ops Q rest (a.put o.dst (.agg (vs xs))) w) : wpList Tryz.prog ops Q (o :: rest) a w := by
 refine wpList_plain hgd fun K hK => ?_
 have hrun : (execOp a.eval o).run Tryz.prog w = .ok (.value (.agg (vs xs))) w := by
  unfold execOp
  simp [ho, hx, Instr.loadAt, Instr.sureAddr, arr_load h hl]
 unfold Oper.wp
 rw [hrun]
 exact hK _ _ hk
theorem arr_store_arm {g : Nat} {old ys : List Int} (hgd : o.guard = none) (x y : Operand) (ho : o.op = .store 146 x y) (hd : o.dst = none) (hx : a.eval x = .pointer (some ⟨g, 0, none⟩)) (hy : a.eval y = .agg (vs ys)) (h : Arr w g old) (hl : old.length = 128) (hl2 : ys.length = 128)
 (hk : ∀ w1, Arr w1 g ys → w.grownBy w1 (some g) → w1.heap.size = w.heap.size → wpList Tryz.prog ops Q rest a w1) : wpList Tryz.prog ops Q (o :: rest) a w := by
 refine wpList_plain hgd fun K hK => ?_
 have hst : (storeVar 146 ⟨g, 0, none⟩ (.agg (vs ys))).run Tryz.prog w = .ok () (w.setRow g (vs ys)) :=
  run_storeVar_row w g 146 146 (vs old) (vs ys) h (by rw [info122, vs_size, hl2]) (by rw [vs_size, vs_size, hl, hl2]) (by simp [vs, Value.oneCell'])
 have hrun : (execOp a.eval o).run Tryz.prog w = .ok .skip (w.setRow g (vs ys)) := by
  unfold execOp
  simp [ho, hx, hy, Instr.storeAt, Instr.sureAddr, hst]
 unfold Oper.wp
 rw [hrun]
 show K (a.put o.dst undef) _
 rw [hd]
 refine hK _ _ (hk _ ?_ ?_ ?_)
 ·exact setRow_heap w g (vs old) (vs ys) 146 (0, 0) h
 ·exact ⟨rfl, rfl, rfl, by simp, fun k _ hne => setRow_other w g k _ (fun e => hne (by rw [e]))⟩
 ·simp
end
theorem even_c (v : Int) (w : World) : Calls Tryz.prog 178 #[.int .i64 v] w fun e w' => e = .returned (.agg (vs (evenL v))) ∧ Below w.heap.size w w' := by
 go_enter Tryz.func178, Tryz.ntmps178
 go_wp2
 have hz : Tryz.zeroCells146 = vs (evenL 0) := by kernel_rfl
 rw [hz]
 obtain ⟨W, hW⟩ : ∃ W, W = (w.alloc (.cells (vs (evenL 0)) 146)).alloc (.cells (vs (evenL 0)) 146) := ⟨_, rfl⟩
 have HB : Aside0 (Below w.heap.size w W) := ⟨by rw [hW]; exact qbA (qbA (qBr _ _) _) _⟩
 have HA : Aside0 (Arr W (w.heap.size + 1) (fillTo v 0)) := ⟨by
  have := blk_new (w.alloc (.cells (vs (evenL 0)) 146)) (.cells (vs (evenL 0)) 146)
  rw [World.size_alloc] at this
  rw [hW]
  exact this⟩
 have HR : Aside0 (Arr W w.heap.size (evenL 0)) := ⟨by
  have h1 := blk_new w (.cells (vs (evenL 0)) 146)
  rw [hW]
  exact ((qbA (qBr (w.alloc (.cells (vs (evenL 0)) 146)).heap.size _) _).block _ (by rw [World.size_alloc]; omega)).trans h1⟩
 rw [← hW]
 clear hW hz
 go_loopw [5] (fun u wr => ∃ k : Nat, u = .int .i64 k ∧ k ≤ 128 ∧ Aside0 (Arr wr (w.heap.size + 1) (fillTo v k)) ∧ Aside0 (Arr wr w.heap.size (evenL 0)) ∧ Aside0 (Below w.heap.size w wr)) (fun u _ => 128 - (intOf u).toNat)
 case atStart => exact ⟨0, rfl, Nat.zero_le _, HA, HR, HB⟩
 case round =>
  obtain ⟨k, rfl, hk, HAk, HRk, HBk⟩ := hrel
  by_cases hlt : k < 128
  ·have hkI : (k : Int) < 128 := by omega
   have hc : wr.cell? ⟨w.heap.size + 1, k, none⟩ = some (.int .i64 ((fillTo v k).getD k 0)) := (blk_cell HAk.out k).trans (vs_get _ _ (by rw [fillTo_length v k hk]; exact hlt))
   have hf : wr.frozen? ⟨w.heap.size + 1, k, none⟩ = false := qbF HAk.out k
   have HAn : Aside0 (Arr (wr.setCell ⟨w.heap.size + 1, k, none⟩ (.int .i64 v)) (w.heap.size + 1) (fillTo v (k + 1))) := ⟨by
    have := blk_set HAk.out k (.int .i64 v)
    rw [vs_set, fillTo_succ v k hlt] at this
    exact this⟩
   have HRn : Aside0 (Arr (wr.setCell ⟨w.heap.size + 1, k, none⟩ (.int .i64 v)) w.heap.size (evenL 0)) := ⟨(Below.heap_setCell wr ⟨w.heap.size + 1, k, none⟩ (.int .i64 v) w.heap.size (by show w.heap.size ≠ w.heap.size + 1; omega)).trans HRk.out⟩
   have HBn : Aside0 (Below w.heap.size w (wr.setCell ⟨w.heap.size + 1, k, none⟩ (.int .i64 v))) := ⟨below_cells HBk.out (by omega) k [.int .i64 v]⟩
   go_wp2_with fail
   exact ⟨⟨k + 1, by go_num, by omega, HAn, HRn, HBn⟩, by simp [intOf]; omega⟩
  ·obtain rfl : k = 128 := by omega
   go_wp2_with (first | (refine arr_load_arm rfl (.tmp 3) rfl rfl HAk.out (fillTo_length v 128 (by omega)) ?_) | (refine arr_store_arm (g := w.heap.size) (ys := fillTo v 128) rfl (.tmp 2) (.tmp 12) rfl rfl rfl rfl HRk.out (evenL_length 0) (fillTo_length v 128 (by omega)) ?_; intro w1 h1 h2 h3; have H1 := aMk h1; have H2 := aMk (below_grown2 HBk.out (qlR _) h2 (fun k hk => by injection hk with hk; omega)); clear h1 h2 h3))
   refine bodyPost_ret (results_cell_row rfl _ _ w.heap.size 146 (vs (fillTo v 128)) (0, 0) _ rfl H1.out Tryz.underlying146 rfl (by rw [info122, vs_size, fillTo_length v 128 (by omega)])) rfl ?_
   exact ⟨by simp [fillTo, evenL], H2.out⟩
theorem range_at {w : World} {A : Option Addr} {c : Nat} {l : List S127} (h : SLk k127 w (.slice A l.length c) l) (k : Nat) (hk : k < l.length) : ∃ ad, A = some ad ∧ w.cell? (ad.add (k * 3)) = some (.int .i64 l[k].f0) ∧ w.cell? ⟨(ad.add (k * 3)).block, (ad.add (k * 3)).off + 1, none⟩ = some (.int .i64 l[k].f1) ∧ w.cell? ⟨(ad.add (k * 3)).block, (ad.add (k * 3)).off + 2, none⟩ = some (.int .i64 l[k].f2) := by
 obtain ⟨A', c', e, _, hC⟩ := h
 injection e with e1 e2 e3
 subst e1
 obtain ⟨ad, e, h1, h2, h3⟩ := at_T127 hC (k : Int) (by omega) (by omega)
 have hg : rd_T127 l (k : Int) = l[k] := by
  show l.getD k z127 = _
  rw [qgD, qgG hk]; rfl
 rw [qtN, hg] at h1 h2 h3
 exact ⟨ad, e, h1, h2, h3⟩
attribute [local go_sem] max2_int min2_int max_two min_two max_three min_three max_four min_four
theorem filled_c {w : World} {A : Option Addr} {c : Nat} {l : List S127} (n : Int) (p fr : Nat) (h : SLk k127 w (.slice A l.length c) l) (ok : Ok l) (hm : l.length ≤ 4096) (hp : p < 8704) (hf : fr ≤ l.length) (hbef : ∀ (i : Nat) (hi : i < l.length), i < fr → l[i].f1 < 128 * (p : Int)) :
 Calls Tryz.prog 112 #[.slice A l.length c, .int .i64 p, .int .i64 fr, .int .i64 n] w fun e w' => ∃ k : Nat, k ≤ l.length ∧ (∀ (i : Nat) (hi : i < l.length), i < k → l[i].f1 < 128 * ((p + 1 : Nat) : Int)) ∧ e = .returned (.tuple #[.agg (vs (blockL l n p)), .int .i64 k]) ∧ Below w.heap.size w w' := by
 have H := aMk h
 have HOK := aMk ok
 have HBE := aMk hbef
 have HM := aMk hm
 clear h ok hbef
 have hz : Tryz.zeroCells146 = vs (evenL 0) := by kernel_rfl
 have HZ := aMk hz; clear hz
 go_enter Tryz.func112, Tryz.ntmps112
 go_wp2_with fail
 refine (even_c n _).mono ?_
 rintro e w1 ⟨rfl, hb⟩
 rw [HZ.out] at hb
 have D := blk_new w (.cells (vs (evenL 0)) 146)
 have HZ1 : Aside0 (Arr w1 w.heap.size (evenL 0)) := ⟨(hb.block _ (blk_lt D)).trans D⟩
 have HB1 := aMk (qbP (qbA (qBr w.heap.size w) _) hb)
 clear hb D
 have D2 := blk_new w1 (.cells (vs (evenL 0)) 146)
 have HA2 := aMk D2
 have HZ2 : Aside0 (Arr (w1.alloc (.cells (vs (evenL 0)) 146)) w.heap.size (evenL 0)) := ⟨((qbA (qBr w1.heap.size w1) _).block _ (blk_lt HZ1.out)).trans HZ1.out⟩
 have HB2 := aMk (qbA HB1.out (.cells (vs (evenL 0)) 146))
 clear D2
 go_wp2_with (first | (rw [HZ.out]; refine arr_store_arm (g := w1.heap.size) (ys := evenL n) rfl (.tmp 10) (.tmp 15) rfl rfl rfl rfl HA2.out (evenL_length 0) (evenL_length n) ?_; intro w3 h1 h2 h3; have HA3 := aMk h1; have HB3 := aMk (below_grown2 HB2.out (qlR _) h2 (fun k hk => by injection hk with hk; have := HB1.out.size; omega)); have HZ3 : Aside0 (Arr w3 w.heap.size (evenL 0)) := ⟨(h2.block _ (blk_lt HZ2.out) (fun e => by injection e with e; have := blk_lt HZ1.out; omega)).trans HZ2.out⟩; clear h1 h2 h3))
 have HG : Aside0 (w.heap.size < w1.heap.size) := ⟨blk_lt HZ1.out⟩
 obtain ⟨g, hg⟩ : ∃ g, g = w1.heap.size := ⟨_, rfl⟩
 rw [← hg] at HA3 HG ⊢
 have HA4 : Aside0 (Arr w3 g (partL l n p fr)) := ⟨by rw [partL_start l n p fr HBE.out]; exact HA3.out⟩
 have HBE2 : Aside0 (∀ (i : Nat) (hi : i < l.length), i < fr → l[i].f1 < 128 * ((p + 1 : Nat) : Int)) := ⟨fun i hi hk => by have := HBE.out i hi hk; omega⟩
 clear hg HA2 HZ2 HB2 HZ1 HB1 HA3
 go_loopw [2] (fun v wr => ∃ k : Nat, v = .int .i64 k ∧ k ≤ l.length ∧ Aside0 (∀ (i : Nat) (hi : i < l.length), i < k → l[i].f1 < 128 * ((p + 1 : Nat) : Int)) ∧ Aside0 (Arr wr g (partL l n p k)) ∧ Aside0 (Arr wr w.heap.size (evenL 0)) ∧ Aside0 (Below w.heap.size w wr)) (fun v _ => l.length - (intOf v).toNat)
 case atStart => exact ⟨fr, rfl, hf, HBE2, HA4, HZ3, HB3⟩
 case round =>
  obtain ⟨k, rfl, hk, HBk, HA, HZx, HB⟩ := hrel
  by_cases hlt : k < l.length
  ·have hkI : (k : Int) < (l.length : Int) := by omega
   obtain ⟨ad, ea, g1, g2, g3⟩ := range_at (SLk.below H.out HB.out) k hlt
   subst ea
   obtain ⟨F, hF1, hF2, hF3, hF4⟩ := round_facts l HOK.out n p k hlt
   have hri := HOK.out.right _ (List.getElem_mem hlt)
   have hlb : ∀ (i : Nat) (hi : i < l.length), k < i → l[k].f1 < l[i].f0 := fun i hi h => lo_behind l HOK.out k i hlt hi h
   have hlf : ∀ (i : Nat) (hi : i < l.length), k ≤ i → l[k].f0 ≤ l[i].f0 := fun i hi h => lo_from l HOK.out k i hlt hi h
   have hpi : l[k].f1 < 128 * ((p + 1 : Nat) : Int) → ∀ (i : Nat) (hi : i < l.length), i < k + 1 → l[i].f1 < 128 * ((p + 1 : Nat) : Int) := fun h1 i hi hik => by
    by_cases e : i = k
    ·subst e; exact h1
    ·exact HBk.out i hi (by omega)
   generalize l[k].f0 = x0 at *
   generalize l[k].f1 = x1 at *
   generalize l[k].f2 = x2 at *
   have HF1 := aMk hF1
   have HF2 := aMk hF2
   have HF3 := aMk hF3
   have HF4 := aMk hF4
   have HLB := aMk hlb
   have HLF := aMk hlf
   have HPI := aMk hpi
   have HRI := aMk hri
   clear hF1 hF2 hF3 hF4 hlb hlf hpi hri
   by_cases hin : x0 < (p : Int) * 128 + 128
   ·have hin1 : decide (x0 < (p : Int) * 128 + 128) = true := qdT hin
    have HIN := aMk hin; clear hin
    have D := blk_new wr (.cells #[.int .i64 x0, .int .i64 x1, .int .i64 x2] 151)
    have HD := aMk D
    have HBa := aMk (qbA HB.out (.cells #[.int .i64 x0, .int .i64 x1, .int .i64 x2] 151))
    have HAa : Aside0 (Arr (wr.alloc (.cells #[.int .i64 x0, .int .i64 x1, .int .i64 x2] 151)) g (partL l n p k)) := ⟨((qbA (qBr wr.heap.size wr) _).block _ (blk_lt HA.out)).trans HA.out⟩
    have HZa : Aside0 (Arr (wr.alloc (.cells #[.int .i64 x0, .int .i64 x1, .int .i64 x2] 151)) w.heap.size (evenL 0)) := ⟨((qbA (qBr wr.heap.size wr) _).block _ (blk_lt HZx.out)).trans HZx.out⟩
    have c0 : (wr.alloc (.cells #[.int .i64 x0, .int .i64 x1, .int .i64 x2] 151)).cell? ⟨wr.heap.size, 0, none⟩ = some (.int .i64 x0) := (blk_cell D 0).trans rfl
    have c1 : (wr.alloc (.cells #[.int .i64 x0, .int .i64 x1, .int .i64 x2] 151)).cell? ⟨wr.heap.size, 1, none⟩ = some (.int .i64 x1) := (blk_cell D 1).trans rfl
    have HGL : Aside0 (g < wr.heap.size) := ⟨blk_lt HA.out⟩
    clear D
    by_cases hmx : (p : Int) * 128 ≤ x0
    ·go_wp2_with fail
     obtain ⟨W0, hW0⟩ : ∃ W0, W0 = wr := ⟨_, rfl⟩
     subst hW0
     go_loopw [13] (fun v wx => ∃ d : Int, v = .int .i64 d ∧ x0 ≤ d ∧ (d ≤ x1 + 1 ∨ d ≤ (p : Int) * 128) ∧ d ≤ (p : Int) * 128 + 128 ∧ Aside0 (Arr wx g (F d)) ∧ Aside0 (Arr wx w.heap.size (evenL 0)) ∧ Aside0 (Below w.heap.size w wx) ∧ Aside0 (wx.heap[W0.heap.size]? = some (.cells #[.int .i64 x0, .int .i64 x1, .int .i64 x2] 151 (0, 0)))) (fun v _ => ((p : Int) * 128 + 128 - intOf v).toNat)
     case atStart => exact ⟨x0, rfl, Int.le_refl _, (by have := HRI.out; omega), (by have := HIN.out; omega), ⟨by rw [HF1.out x0 (by omega)]; exact HAa.out⟩, HZa, HBa, HD⟩
     case round =>
      obtain ⟨d, rfl, hd1, hd2, hd3, HAd, HZd, HBd, HDd⟩ := hrel
      have r1 : wr.cell? ⟨W0.heap.size, 1, none⟩ = some (.int .i64 x1) := (blk_cell HDd.out 1).trans rfl
      have r2 : wr.cell? ⟨W0.heap.size, 2, none⟩ = some (.int .i64 x2) := (blk_cell HDd.out 2).trans rfl
      have hp0 : (p : Int) < 8704 := by omega
      by_cases hgo : d ≤ x1 ∧ d < (p : Int) * 128 + 128
      ·obtain ⟨hg1, hg2⟩ := hgo
       have b1 : 0 ≤ d - (p : Int) * 128 := by omega
       have b2 : d - (p : Int) * 128 < 128 := by omega
       have b3 : (p : Int) * 128 ≤ d := by omega
       have hl4 := HF4.out d
       have hc : wr.cell? ⟨g, (d - (p : Int) * 128).toNat, none⟩ = some (.int .i64 ((F d).getD (d - (p : Int) * 128).toNat 0)) := (blk_cell HAd.out _).trans (vs_get _ _ (by omega))
       have hfz : wr.frozen? ⟨g, (d - (p : Int) * 128).toNat, none⟩ = false := qbF HAd.out _
       have HAn : Aside0 (Arr (wr.setCell ⟨g, (d - (p : Int) * 128).toNat, none⟩ (.int .i64 x2)) g (F (d + 1))) := ⟨by
        have := blk_set HAd.out (d - (p : Int) * 128).toNat (.int .i64 x2)
        rw [vs_set, HF2.out d (by omega) b3 hg2] at this
        exact this⟩
       have HZn : Aside0 (Arr (wr.setCell ⟨g, (d - (p : Int) * 128).toNat, none⟩ (.int .i64 x2)) w.heap.size (evenL 0)) := ⟨(Below.heap_setCell wr ⟨g, (d - (p : Int) * 128).toNat, none⟩ (.int .i64 x2) w.heap.size (by have := HG.out; show w.heap.size ≠ g; omega)).trans HZd.out⟩
       have HDn : Aside0 ((wr.setCell ⟨g, (d - (p : Int) * 128).toNat, none⟩ (.int .i64 x2)).heap[W0.heap.size]? = some (.cells #[.int .i64 x0, .int .i64 x1, .int .i64 x2] 151 (0, 0))) := ⟨(Below.heap_setCell wr ⟨g, (d - (p : Int) * 128).toNat, none⟩ (.int .i64 x2) W0.heap.size (by have := HGL.out; show W0.heap.size ≠ g; omega)).trans HDd.out⟩
       have HBn : Aside0 (Below w.heap.size w (wr.setCell ⟨g, (d - (p : Int) * 128).toNat, none⟩ (.int .i64 x2))) := ⟨below_cells HBd.out (by have := HG.out; omega) _ [.int .i64 x2]⟩
       by_cases hmn : x1 ≤ (p : Int) * 128 + 128 - 1
       ·go_wp2_with fail
        exact ⟨⟨d + 1, by go_num, by omega, by omega, by omega, HAn, HZn, HBn, HDn⟩, by simp [intOf]; omega⟩
       ·have hmn2 : (p : Int) * 128 + 128 - 1 < x1 := by omega
        have hmn3 : d ≤ (p : Int) * 128 + 128 - 1 := by omega
        go_wp2_with fail
        exact ⟨⟨d + 1, by go_num, by omega, by omega, by omega, HAn, HZn, HBn, HDn⟩, by simp [intOf]; omega⟩
      ·have HAe : Aside0 (Arr wr g (partL l n p (k + 1))) := ⟨by rw [← HF3.out d (by omega) (by omega)]; exact HAd.out⟩
       by_cases hmn : x1 ≤ (p : Int) * 128 + 128 - 1
       ·have hno : ¬ (d ≤ x1) := by omega
        have hbr : ¬ ((p : Int) * 128 + 128 ≤ x1) := by omega
        go_wp2_with fail
        exact ⟨⟨k + 1, by go_num, by omega, ⟨HPI.out (by omega)⟩, HAe, HZd, HBd⟩, by simp [intOf]; omega⟩
       ·have hmn2 : (p : Int) * 128 + 128 - 1 < x1 := by omega
        have hno : ¬ (d ≤ (p : Int) * 128 + 128 - 1) := by omega
        have hbr : (p : Int) * 128 + 128 ≤ x1 := by omega
        have HAb : Aside0 (Arr wr g (blockL l n p)) := ⟨by rw [← partL_end l n p (k + 1) (fun i hi h => by have := HLB.out i hi (by omega); omega)]; exact HAe.out⟩
        have HB := HBd
        have HZx := HZd
        go_wp2_with (first | (refine arr_load_arm rfl (.tmp 10) rfl rfl HAb.out (blockL_length l n p) ?_) | (refine arr_store_arm (g := w.heap.size) (ys := blockL l n p) rfl (.tmp 8) (.tmp 63) rfl rfl rfl rfl HZx.out (evenL_length 0) (blockL_length l n p) ?_; intro w9 h1 h2 h3; have H1 := aMk h1; have H2 := aMk (below_grown2 HB.out (qlR _) h2 (fun k hk => by injection hk with hk; omega)); clear h1 h2 h3))
        refine bodyPost_ret (results_ct rfl _ _ w.heap.size 146 (vs (blockL l n p)) (0, 0) _ rfl H1.out Tryz.underlying146 rfl (by rw [info122, vs_size, blockL_length])) rfl ?_
        exact ⟨k, hk, HBk.out, rfl, H2.out⟩
    ·have hmx2 : x0 < (p : Int) * 128 := by omega
     go_wp2_with fail
     obtain ⟨W0, hW0⟩ : ∃ W0, W0 = wr := ⟨_, rfl⟩
     subst hW0
     go_loopw [13] (fun v wx => ∃ d : Int, v = .int .i64 d ∧ ((p : Int) * 128) ≤ d ∧ (d ≤ x1 + 1 ∨ d ≤ (p : Int) * 128) ∧ d ≤ (p : Int) * 128 + 128 ∧ Aside0 (Arr wx g (F d)) ∧ Aside0 (Arr wx w.heap.size (evenL 0)) ∧ Aside0 (Below w.heap.size w wx) ∧ Aside0 (wx.heap[W0.heap.size]? = some (.cells #[.int .i64 x0, .int .i64 x1, .int .i64 x2] 151 (0, 0)))) (fun v _ => ((p : Int) * 128 + 128 - intOf v).toNat)
     case atStart => exact ⟨((p : Int) * 128), rfl, Int.le_refl _, (by have := HRI.out; omega), (by have := HIN.out; omega), ⟨by rw [HF1.out ((p : Int) * 128) (by omega)]; exact HAa.out⟩, HZa, HBa, HD⟩
     case round =>
      obtain ⟨d, rfl, hd1, hd2, hd3, HAd, HZd, HBd, HDd⟩ := hrel
      have r1 : wr.cell? ⟨W0.heap.size, 1, none⟩ = some (.int .i64 x1) := (blk_cell HDd.out 1).trans rfl
      have r2 : wr.cell? ⟨W0.heap.size, 2, none⟩ = some (.int .i64 x2) := (blk_cell HDd.out 2).trans rfl
      have hp0 : (p : Int) < 8704 := by omega
      by_cases hgo : d ≤ x1 ∧ d < (p : Int) * 128 + 128
      ·obtain ⟨hg1, hg2⟩ := hgo
       have b1 : 0 ≤ d - (p : Int) * 128 := by omega
       have b2 : d - (p : Int) * 128 < 128 := by omega
       have b3 : (p : Int) * 128 ≤ d := by omega
       have hl4 := HF4.out d
       have hc : wr.cell? ⟨g, (d - (p : Int) * 128).toNat, none⟩ = some (.int .i64 ((F d).getD (d - (p : Int) * 128).toNat 0)) := (blk_cell HAd.out _).trans (vs_get _ _ (by omega))
       have hfz : wr.frozen? ⟨g, (d - (p : Int) * 128).toNat, none⟩ = false := qbF HAd.out _
       have HAn : Aside0 (Arr (wr.setCell ⟨g, (d - (p : Int) * 128).toNat, none⟩ (.int .i64 x2)) g (F (d + 1))) := ⟨by
        have := blk_set HAd.out (d - (p : Int) * 128).toNat (.int .i64 x2)
        rw [vs_set, HF2.out d (by omega) b3 hg2] at this
        exact this⟩
       have HZn : Aside0 (Arr (wr.setCell ⟨g, (d - (p : Int) * 128).toNat, none⟩ (.int .i64 x2)) w.heap.size (evenL 0)) := ⟨(Below.heap_setCell wr ⟨g, (d - (p : Int) * 128).toNat, none⟩ (.int .i64 x2) w.heap.size (by have := HG.out; show w.heap.size ≠ g; omega)).trans HZd.out⟩
       have HDn : Aside0 ((wr.setCell ⟨g, (d - (p : Int) * 128).toNat, none⟩ (.int .i64 x2)).heap[W0.heap.size]? = some (.cells #[.int .i64 x0, .int .i64 x1, .int .i64 x2] 151 (0, 0))) := ⟨(Below.heap_setCell wr ⟨g, (d - (p : Int) * 128).toNat, none⟩ (.int .i64 x2) W0.heap.size (by have := HGL.out; show W0.heap.size ≠ g; omega)).trans HDd.out⟩
       have HBn : Aside0 (Below w.heap.size w (wr.setCell ⟨g, (d - (p : Int) * 128).toNat, none⟩ (.int .i64 x2))) := ⟨below_cells HBd.out (by have := HG.out; omega) _ [.int .i64 x2]⟩
       by_cases hmn : x1 ≤ (p : Int) * 128 + 128 - 1
       ·go_wp2_with fail
        exact ⟨⟨d + 1, by go_num, by omega, by omega, by omega, HAn, HZn, HBn, HDn⟩, by simp [intOf]; omega⟩
       ·have hmn2 : (p : Int) * 128 + 128 - 1 < x1 := by omega
        have hmn3 : d ≤ (p : Int) * 128 + 128 - 1 := by omega
        go_wp2_with fail
        exact ⟨⟨d + 1, by go_num, by omega, by omega, by omega, HAn, HZn, HBn, HDn⟩, by simp [intOf]; omega⟩
      ·have HAe : Aside0 (Arr wr g (partL l n p (k + 1))) := ⟨by rw [← HF3.out d (by omega) (by omega)]; exact HAd.out⟩
       by_cases hmn : x1 ≤ (p : Int) * 128 + 128 - 1
       ·have hno : ¬ (d ≤ x1) := by omega
        have hbr : ¬ ((p : Int) * 128 + 128 ≤ x1) := by omega
        go_wp2_with fail
        exact ⟨⟨k + 1, by go_num, by omega, ⟨HPI.out (by omega)⟩, HAe, HZd, HBd⟩, by simp [intOf]; omega⟩
       ·have hmn2 : (p : Int) * 128 + 128 - 1 < x1 := by omega
        have hno : ¬ (d ≤ (p : Int) * 128 + 128 - 1) := by omega
        have hbr : (p : Int) * 128 + 128 ≤ x1 := by omega
        have HAb : Aside0 (Arr wr g (blockL l n p)) := ⟨by rw [← partL_end l n p (k + 1) (fun i hi h => by have := HLB.out i hi (by omega); omega)]; exact HAe.out⟩
        have HB := HBd
        have HZx := HZd
        go_wp2_with (first | (refine arr_load_arm rfl (.tmp 10) rfl rfl HAb.out (blockL_length l n p) ?_) | (refine arr_store_arm (g := w.heap.size) (ys := blockL l n p) rfl (.tmp 8) (.tmp 63) rfl rfl rfl rfl HZx.out (evenL_length 0) (blockL_length l n p) ?_; intro w9 h1 h2 h3; have H1 := aMk h1; have H2 := aMk (below_grown2 HB.out (qlR _) h2 (fun k hk => by injection hk with hk; omega)); clear h1 h2 h3))
        refine bodyPost_ret (results_ct rfl _ _ w.heap.size 146 (vs (blockL l n p)) (0, 0) _ rfl H1.out Tryz.underlying146 rfl (by rw [info122, vs_size, blockL_length])) rfl ?_
        exact ⟨k, hk, HBk.out, rfl, H2.out⟩
   ·have hin1 : decide (x0 < (p : Int) * 128 + 128) = false := qdF hin
    have HAb : Aside0 (Arr wr g (blockL l n p)) := ⟨by rw [← partL_end l n p k (fun i hi h => by have := HLF.out i hi h; omega)]; exact HA.out⟩
    clear hin
    go_wp2_with (first | (refine arr_load_arm rfl (.tmp 10) rfl rfl HAb.out (blockL_length l n p) ?_) | (refine arr_store_arm (g := w.heap.size) (ys := blockL l n p) rfl (.tmp 8) (.tmp 63) rfl rfl rfl rfl HZx.out (evenL_length 0) (blockL_length l n p) ?_; intro w9 h1 h2 h3; have H1 := aMk h1; have H2 := aMk (below_grown2 HB.out (qlR _) h2 (fun k hk => by injection hk with hk; omega)); clear h1 h2 h3))
    refine bodyPost_ret (results_ct rfl _ _ w.heap.size 146 (vs (blockL l n p)) (0, 0) _ rfl H1.out Tryz.underlying146 rfl (by rw [info122, vs_size, blockL_length])) rfl ?_
    exact ⟨k, hk, HBk.out, rfl, H2.out⟩
  ·have hkI : ¬ ((k : Int) < (l.length : Int)) := by omega
   have HAb : Aside0 (Arr wr g (blockL l n p)) := ⟨by rw [← partL_end l n p k (fun i hi h => by omega)]; exact HA.out⟩
   go_wp2_with (first | (refine arr_load_arm rfl (.tmp 10) rfl rfl HAb.out (blockL_length l n p) ?_) | (refine arr_store_arm (g := w.heap.size) (ys := blockL l n p) rfl (.tmp 8) (.tmp 63) rfl rfl rfl rfl HZx.out (evenL_length 0) (blockL_length l n p) ?_; intro w9 h1 h2 h3; have H1 := aMk h1; have H2 := aMk (below_grown2 HB.out (qlR _) h2 (fun k hk => by injection hk with hk; omega)); clear h1 h2 h3))
   refine bodyPost_ret (results_ct rfl _ _ w.heap.size 146 (vs (blockL l n p)) (0, 0) _ rfl H1.out Tryz.underlying146 rfl (by rw [info122, vs_size, blockL_length])) rfl ?_
   exact ⟨k, hk, HBk.out, rfl, H2.out⟩
end CTrie
end
section
namespace CTrie
open U UTrie PEmbedJoins
theorem all_range_eq : ∀ (xs ys : List Int), xs.length = ys.length → ((List.range xs.length).all fun i => xs.getD i 0 == ys.getD i 0) = (xs == ys)
 | [], [], _ => rfl
 | x :: xs, y :: ys, h => by
  have ih := all_range_eq xs ys (by simpa using h)
  rw [List.length_cons, List.range_succ_eq_map, List.all_cons, List.all_map]
  simp only [List.getD_cons_zero, Function.comp_def, List.getD_cons_succ, ih]
  simp [List.cons_beq_cons]
 | [], _ :: _, h => by simp at h
 | _ :: _, [], h => by simp at h
theorem run_equalIn_ints (w : World) (d : Nat) (xs ys : List Int) (hx : xs.length = 128) (hy : ys.length = 128) :
 (Op.equalIn (d + 2) 146 (.agg (vs xs)) (.agg (vs ys))).run Tryz.prog w = .ok (xs == ys) w := by
 have hsz : ∀ w, (sizeOf 3).run Tryz.prog w = .ok 1 w := Tryz.sizeOf3
 rw [← all_range_eq xs ys (hx.trans hy.symm), hx, List.range_eq_range', Op.equalIn]
 simp only [Sem.run_bind, run_underlying Tryz.underlying146, Result.andThen_ok, hsz, Std.Legacy.Range.forIn_eq_forIn_range', Std.Legacy.Range.size, Nat.sub_zero, Nat.add_sub_cancel, Nat.div_one]
 have hl : ∀ i ∈ List.range' 0 128 1, i < 128 := fun i hi => by simpa using (List.mem_range'_1.1 hi).2
 generalize List.range' 0 128 1 = l at hl ⊢
 induction l with
 | nil => simp
 | cons i l ih =>
  have hi : i < 128 := hl i (by simp)
  have px : (part 3 (vs xs) (i * 1)).run Tryz.prog w = .ok (.int .i64 (xs.getD i 0)) w := by
   simp [part, isAgg, run_underlying Tryz.underlying3, vs, List.getD, qgG (show i < xs.length by omega)]
  have py : (part 3 (vs ys) (i * 1)).run Tryz.prog w = .ok (.int .i64 (ys.getD i 0)) w := by
   simp [part, isAgg, run_underlying Tryz.underlying3, vs, List.getD, qgG (show i < ys.length by omega)]
  have pe : (Op.equalIn (d + 1) 3 (.int .i64 (xs.getD i 0)) (.int .i64 (ys.getD i 0))).run Tryz.prog w = .ok (xs.getD i 0 == ys.getD i 0) w := by
   rw [run_equalIn_int w d 3 .i64 .i64 _ _ Tryz.underlying3]
  simp only [List.forIn_cons, Sem.run_bind, px, py, pe, Result.andThen_ok, List.all_cons]
  cases hb : (xs.getD i 0 == ys.getD i 0)
  ·simp
  ·simp only [Bool.not_true, Bool.false_eq_true, if_false, Sem.run_pure, Result.andThen_ok, Bool.true_and]
   exact ih fun j hj => hl j (by simp [hj])
theorem run_eql_vs (w : World) (xs ys : List Int) (hx : xs.length = 128) (hy : ys.length = 128) : (binOp .eql 146 (.agg (vs xs)) (.agg (vs ys))).run Tryz.prog w = .ok (.bool (xs == ys)) w := by
 rw [run_eql_struct, run_equalIn_ints w 9998 xs ys hx hy]
 rfl
theorem guard122 : Tryz.prog.eqGuardType Tryz.prog.depth 146 = false := by kernel_rfl
theorem exec_eql {o : Oper} {a : Act} (w : World) (x y : Operand) (t : TypeId) (ho : o.op = .binOp .eql 146 x y t) {xs ys : List Int} (hx : a.eval x = .agg (vs xs)) (hy : a.eval y = .agg (vs ys)) (hl : xs.length = 128) (hl2 : ys.length = 128) :
 (execOp a.eval o).run Tryz.prog w = .ok (.value (.bool (xs == ys))) w := by
 unfold execOp
 simp [ho, hx, hy, eqGuard, guard122, run_eql_vs w xs ys hl hl2]
theorem load_mid {w : World} {ad : Addr} {xs : List Int} (h : ∀ j v, (vs xs).toList[j]? = some v → w.cell? (ad.add j) = some v) (hl : xs.length = 128) : (loadVar 146 ad).run Tryz.prog w = .ok (.agg (vs xs)) w := by
 have h1 := run_loadCells_list (P := Tryz.prog) w ad (vs xs).toList h
 have hn : (vs xs).toList.length = 128 := by simp [vs, hl]
 rw [hn] at h1
 unfold loadVar
 simp [Tryz.isAgg146, Tryz.sizeOf146, h1]
theorem exec_load {o : Oper} {a : Act} {w : World} (x : Operand) (ho : o.op = .load 146 x) {ad : Addr} (hx : a.eval x = .pointer (some ad)) {xs : List Int} (h : (loadVar 146 ad).run Tryz.prog w = .ok (.agg (vs xs)) w) :
 (execOp a.eval o).run Tryz.prog w = .ok (.value (.agg (vs xs))) w := by
 unfold execOp
 simp [ho, hx, Instr.loadAt, Instr.sureAddr, h]
end CTrie
end
section
namespace CTrie
open U UTrie PEmbedJoins
def kb : Kd (List Int) := Kd.arr 128 (Kd.int .i64) (by decide)
theorem kb_open {w : World} {xs : List Int} {cs : List Value} (h : kb.K w xs cs) : xs.length = 128 ∧ cs = (vs xs).toList := by
 obtain ⟨h1, h2⟩ := Kd.arr_cells (enc := Value.int .i64) h
 exact ⟨h1, h2.trans (by simp [vs, encs])⟩
theorem kb_mk (w : World) (base : Nat) (ok : Nat → Prop) {xs : List Int} (h : xs.length = 128) : kb.M w base ok xs (vs xs).toList := by
 have := Kd.arr_of_cells (enc := Value.int .i64) (h1 := fun _ => rfl) (hs := by decide) (w := w) (base := base) (ok := ok) h
 rwa [show encs (Value.int .i64) xs = (vs xs).toList by simp [vs, encs]] at this
theorem kb_at {w : World} {A : Option Addr} {n : Nat} {bs : List (List Int)} (h : Kd.C kb w A n bs) (i : Nat) (hi : i < n) : ∃ ad, A = some ad ∧ (bs.getD i []).length = 128 ∧ ∀ j v, (vs (bs.getD i [])).toList[j]? = some v → w.cell? ((ad.add (i * 128)).add j) = some v := by
 obtain ⟨ad, c, e, _, hK, hc⟩ := Kd.C_get h [] (i : Int) (by omega) (by omega)
 rw [qtN] at hK hc
 obtain ⟨h1, rfl⟩ := kb_open hK
 refine ⟨ad, e, h1, fun j v hv => ?_⟩
 have := hc j v hv
 rw [Addr.add_add]
 exact this
abbrev tabCells (f s : Value) (n : Int) : Array Value := #[f, s, .int .i64 n, .bool true]
theorem info122b : (Tryz.prog.info? 146).map (fun i => (i.zero, i.size, i.bytes)) = some (some (.agg (vs (evenL 0))), 128, 1024) := by kernel_rfl
theorem fold_sets : ∀ (l : List Value) (k : Nat) (a : Array Value), k + l.length = a.size → (l.zipIdx k).foldl (fun cs p => cs.setIfInBounds (0 + p.2) p.1) a = (a.toList.take k ++ l).toArray
 | [], k, a, h => by
  rw [List.zipIdx_nil, List.foldl_nil, List.append_nil, List.take_of_length_le (by simp at h ⊢; omega)]
 | x :: l, k, a, h => by
  rw [List.zipIdx_cons, List.foldl_cons, fold_sets l (k + 1) _ (by simp at h ⊢; omega)]
  congr 1
  simp only [Nat.zero_add, Array.toList_setIfInBounds]
  rw [List.take_add_one, List.take_set_of_le (qlR k), List.getElem?_set_self (by simp at h ⊢; omega), List.append_assoc]
  rfl
theorem fold_vs (b : List Int) (z : Array Value) (hz : z.size = (vs b).size) : (vs b).zipIdx.foldl (fun cs p => cs.setIfInBounds (0 + p.2) p.1) z = vs b := by
 have h := fold_sets (vs b).toList 0 z (by simpa using hz.symm)
 rw [List.take_zero, List.nil_append, Array.toArray_toList] at h
 rw [← Array.foldl_toList, Array.toList_zipIdx]
 exact h
theorem build_one {o : Oper} {a : Act} {w : World} {b : List Int} (hl : b.length = 128) (ho : o.op = .buildSlice 140 1 #[(0, .tmp 30)]) (hx : a.eval (.tmp 30) = .agg (vs b)) : (execOp a.eval o).run Tryz.prog w = .ok (.value (.slice (some ⟨w.heap.size, 0, none⟩) 1 1)) (w.alloc (.cells (vs b) 146)) := by
 unfold execOp
 have hz : (Array.map (fun x => (Value.agg Tryz.zeroCells146).cells[x % (Value.agg Tryz.zeroCells146).cells.size]!) (Array.range 128)).size = (vs b).size := by simp [vs, hl]
 have hf : Instr.fill (fun i => some (i * 128, 128)) (Array.map (fun x => (Value.agg Tryz.zeroCells146).cells[x % (Value.agg Tryz.zeroCells146).cells.size]!) (Array.range 128)) [(0, Value.agg (vs b))] = some (vs b) := by
  generalize (Array.map (fun x => (Value.agg Tryz.zeroCells146).cells[x % (Value.agg Tryz.zeroCells146).cells.size]!) (Array.range 128)) = z at hz ⊢
  have h1 : (vs b).size = 128 := by simp [vs, hl]
  have h2 : (Value.agg (vs b)).cells = vs b := rfl
  unfold Instr.fill
  simp only [h2, h1, hz, Nat.zero_mul, Nat.zero_add, gt_iff_lt, Nat.lt_irrefl, ne_eq, not_true_eq_false, decide_false, Bool.or_self, or_self, if_false]
  have h3 := fold_vs b z hz
  simp only [Nat.zero_add] at h3
  rw [h3]
  rfl
 simp [ho, hx, Instr.buildSlice, hf, newRow]
theorem below_less {B C : Nat} {a b : World} (h : Below B a b) (hc : C ≤ B) : Below C a b := ⟨h.os, h.tape, h.output, h.size, fun k hk => h.block k (Nat.lt_of_lt_of_le hk hc)⟩
theorem add_c {w : World} {gt : Nat} {vf v2 : Value} {n : Int} {b : List Int} {bs : List (List Int)} {base : Nat} (hT : w.heap[gt]? = some (.cells (tabCells vf v2 n) 144 (0, 0))) (hR : Kd.R kb 146 w base (fun k => k ≠ gt) v2 bs) (hb : b.length = 128) (hm : bs.length ≤ 8704) (hbase : base ≤ w.heap.size) :
 Calls Tryz.prog 113 #[.pointer (some ⟨gt, 0, none⟩), .agg (vs b)] w fun e w' => ∃ (i : Nat) (bs' : List (List Int)) (v2' : Value), e = .returned (.int .i64 i) ∧ (bs' = bs ∨ bs' = bs ++ [b]) ∧ i < bs'.length ∧ bs'.getD i [] = b ∧ w'.heap[gt]? = some (.cells (tabCells vf v2' n) 144 (0, 0)) ∧ Kd.R kb 146 w' base (fun k => k ≠ gt) v2' bs' ∧
  w'.os = w.os ∧ w'.tape = w.tape ∧ w'.output = w.output ∧ w.heap.size ≤ w'.heap.size ∧ ∀ k, k < w.heap.size → k ≠ gt → some k ≠ v2.ownBlock → w'.heap[k]? = w.heap[k]? := by
 have HT := aMk hT
 have HR := aMk hR
 have HL := aMk hb
 have HM := aMk hm
 obtain ⟨A2, c2, rfl⟩ := Kd.R_slice hR
 clear hT hR hb
 have HB0 := aMk (qbA (qBr w.heap.size w) (.cells (vs b) 146))
 have HX0 : Aside0 (Arr (w.alloc (.cells (vs b) 146)) w.heap.size b) := ⟨blk_new w _⟩
 have HT0 : Aside0 ((w.alloc (.cells (vs b) 146)).heap[gt]? = some (.cells (tabCells vf (.slice A2 bs.length c2) n) 144 (0, 0))) := ⟨(HB0.out.block _ (blk_lt HT.out)).trans HT.out⟩
 have d1 : (w.alloc (.cells (vs b) 146)).cell? ⟨gt, 1, none⟩ = some (.slice A2 bs.length c2) := (blk_cell HT0.out 1).trans rfl
 go_enter Tryz.func113, Tryz.ntmps113
 go_wp2
 obtain ⟨W, hW⟩ : ∃ W, W = w.alloc (.cells (vs b) 146) := ⟨_, rfl⟩
 rw [← hW] at HB0 HX0 HT0 ⊢
 clear d1 hW
 go_loopw [11] (fun v wr => ∃ k : Nat, v = .int .i64 k ∧ k ≤ bs.length ∧ Aside0 (∃ m, wr = W.drewN m)) (fun v _ => bs.length - (intOf v).toNat)
 case atStart => exact ⟨0, rfl, Nat.zero_le _, ⟨0, rfl⟩⟩
 case round =>
  obtain ⟨k, rfl, hk, HD⟩ := hrel
  have HBr : Aside0 (Below W.heap.size W wr) := ⟨by obtain ⟨m, hm⟩ := HD.out; rw [hm]; exact qbN (qBr _ _) m⟩
  have HTr : Aside0 (wr.heap[gt]? = some (.cells (tabCells vf (.slice A2 bs.length c2) n) 144 (0, 0))) := ⟨(HBr.out.block _ (blk_lt HT0.out)).trans HT0.out⟩
  have HXr : Aside0 (Arr wr w.heap.size b) := ⟨(HBr.out.block _ (blk_lt HX0.out)).trans HX0.out⟩
  have HBw : Aside0 (Below w.heap.size w wr) := ⟨qbP HB0.out HBr.out⟩
  have HBd : Aside0 (Below base w wr.drew) := ⟨below_less (below_drew HBw.out) hbase⟩
  have HRr : Aside0 (Kd.R kb 146 wr base (fun k => k ≠ gt) (.slice A2 bs.length c2) bs) := ⟨qrB HR.out HBw.out⟩
  have d1 : wr.cell? ⟨gt, 1, none⟩ = some (.slice A2 bs.length c2) := (blk_cell HTr.out 1).trans rfl
  by_cases hlt : k < bs.length
  ·have hkI : (k : Int) < (bs.length : Int) := by omega
   obtain ⟨ad, ea, h1, h2⟩ := kb_at (Kd.R_reads' HRr.out).2.2 k hlt
   subst ea
   have HL1 := aMk h1
   have HLD := aMk h2
   clear h1 h2
   go_wp2
   refine start_ (n := 9) (S := fun W => Below wr.heap.size wr W) (ds := []) #[false, false, false, false, false, false, false, false, false] (by kernel_rfl) (by kernel_rfl) (by rfl) (below_drew (qBr _ _)) (fun hS0 => ?_)
   refine pure_ (i := 0) (N := (some 14)) (v := ?_) (a' := ?_) #[true, false, false, false, false, false, false, false, false] rfl rfl (by kernel_rfl) (fun _ _ _ h => h) (Or.inl ⟨by rfl, ?_⟩) ?_ ?_
   rotate_left
   ·intro w'
    go_simp
    with_reducible rfl
   rotate_left
   ·simp only [Act.put, sqA, sq0, sq1]
    rfl
   refine pure_ (i := 1) (N := (some 15)) (v := ?_) (a' := ?_) #[true, true, false, false, false, false, false, false, false] rfl rfl (by kernel_rfl) (fun _ _ _ h => h) (Or.inl ⟨by rfl, ?_⟩) ?_ ?_
   rotate_left
   ·intro w'
    go_simp
    with_reducible rfl
   rotate_left
   ·simp only [Act.put, sqA, sq0, sq1]
    rfl
   refine pure_ (i := 2) (N := (some 16)) (v := ?_) (a' := ?_) #[true, true, true, false, false, false, false, false, false] rfl rfl (by kernel_rfl) (fun _ _ _ h => h) (Or.inl ⟨by rfl, ?_⟩) ?_ ?_
   rotate_left
   ·intro w'
    go_simp
    with_reducible rfl
   rotate_left
   ·simp only [Act.put, sqA, sq0, sq1]
    rfl
   refine take_ (i := 3) (N := (some 17)) (v := ?_) (a' := ?_) #[true, true, true, true, false, false, false, false, false] rfl rfl (by kernel_rfl) (fun _ _ _ h => h) (Or.inl ⟨by rfl, ?_⟩) hS0 ?_ ?_
   rotate_left
   ·intro w' s0
    have hx := (s0.cell (qwL _ _ d1)).trans d1
    go_simp
    with_reducible rfl
   rotate_left
   ·simp only [Act.put, sqA, sq0, sq1]
    rfl
   refine pure_ (i := 4) (N := (some 18)) (v := ?_) (a' := ?_) #[true, true, true, true, true, false, false, false, false] rfl rfl (by kernel_rfl) (fun _ _ _ h => h) (Or.inl ⟨by rfl, ?_⟩) ?_ ?_
   rotate_left
   ·intro w'
    go_simp
    with_reducible rfl
   rotate_left
   ·simp only [Act.put, sqA, sq0, sq1]
    rfl
   refine pure_ (i := 5) (N := (some 19)) (v := ?_) (a' := ?_) #[true, true, true, true, true, true, false, false, false] rfl rfl (by kernel_rfl) (fun _ _ _ h => h) (Or.inl ⟨by rfl, ?_⟩) ?_ ?_
   rotate_left
   ·intro w'
    go_simp
    with_reducible rfl
   rotate_left
   ·simp only [Act.put, sqA, sq0, sq1]
    rfl
   refine take_ (i := 6) (N := (some 20)) (v := ?_) (a' := ?_) #[true, true, true, true, true, true, true, false, false] rfl rfl (by kernel_rfl) (fun _ _ _ h => h) (Or.inl ⟨by rfl, ?_⟩) hS0 ?_ ?_
   rotate_left
   ·intro w' s0
    refine exec_load (.tmp 19) (xs := bs.getD k []) (ad := ad.add (k * 128)) ?_ ?_ ?_
    ·rfl
    ·rfl
    ·exact load_mid (fun j v hv => by have hc := HLD.out j v hv; exact (s0.cell (qwL _ _ hc)).trans hc) HL1.out
   rotate_left
   ·simp only [Act.put, sqA, sq0, sq1]
    rfl
   refine take_ (i := 7) (N := (some 21)) (v := ?_) (a' := ?_) #[true, true, true, true, true, true, true, true, false] rfl rfl (by kernel_rfl) (fun _ _ _ h => h) (Or.inl ⟨by rfl, ?_⟩) hS0 ?_ ?_
   rotate_left
   ·intro w' s0
    refine exec_load (.tmp 3) (xs := b) (ad := ⟨w.heap.size, 0, none⟩) ?_ ?_ ?_
    ·rfl
    ·rfl
    ·exact arr_load ((s0.block _ (blk_lt HXr.out)).trans HXr.out) HL.out
   rotate_left
   ·simp only [Act.put, sqA, sq0, sq1]
    rfl
   refine pure_ (i := 8) (N := (some 22)) (v := ?_) (a' := ?_) #[true, true, true, true, true, true, true, true, true] rfl rfl (by kernel_rfl) (fun _ _ _ h => h) (Or.inl ⟨by rfl, ?_⟩) ?_ ?_
   rotate_left
   ·intro w'
    refine exec_eql w' (.tmp 20) (.tmp 21) 146 (xs := bs.getD k []) (ys := b) ?_ ?_ ?_ HL1.out HL.out
    ·rfl
    ·rfl
    ·rfl
   rotate_left
   ·simp only [Act.put, sqA, sq0, sq1]
    rfl
   refine done_ (by kernel_rfl) ?_
   clear hS0
   by_cases heq : bs.getD k [] = b
   ·have hbb : (bs.getD k [] == b) = true := by simpa using heq
    have HEQ := aMk heq; clear heq
    rw [hbb]
    go_wp2
    go_ret
    exact ⟨k, bs, _, rfl, .inl rfl, hlt, HEQ.out, by rw [← HTr.out]; rfl, qrD HRr.out, HBw.out.os, HBw.out.tape, HBw.out.output, HBw.out.size, fun j hj _ _ => HBw.out.block j hj⟩
   ·have hbb : (bs.getD k [] == b) = false := by simpa using heq
    clear heq
    rw [hbb]
    go_wp2
    exact ⟨⟨k + 1, by go_num, by omega, ⟨by obtain ⟨m, hm⟩ := HD.out; exact ⟨m + 1, by rw [hm]; rfl⟩⟩⟩, by simp [intOf]; omega⟩
  ·have hkI : ¬ ((k : Int) < (bs.length : Int)) := by omega
   go_wp2
   refine start_ (n := 11) (S := fun W => Below wr.heap.size wr W) (ds := [7, 10]) #[false, false, false, false, false, false, false, false, false, false, false] (by kernel_rfl) (by kernel_rfl) (by rfl) (below_drew (qBr _ _)) (fun hS0 => ?_)
   refine pure_ (i := 0) (N := (some 25)) (v := ?_) (a' := ?_) #[true, false, false, false, false, false, false, false, false, false, false] rfl rfl (by kernel_rfl) (fun _ _ _ h => h) (Or.inl ⟨by rfl, ?_⟩) ?_ ?_
   rotate_left
   ·intro w'
    go_simp
    with_reducible rfl
   rotate_left
   ·simp only [Act.put, sqA, sq0, sq1]
    rfl
   refine pure_ (i := 1) (N := (some 26)) (v := ?_) (a' := ?_) #[true, true, false, false, false, false, false, false, false, false, false] rfl rfl (by kernel_rfl) (fun _ _ _ h => h) (Or.inl ⟨by rfl, ?_⟩) ?_ ?_
   rotate_left
   ·intro w'
    go_simp
    with_reducible rfl
   rotate_left
   ·simp only [Act.put, sqA, sq0, sq1]
    rfl
   refine pure_ (i := 2) (N := (some 27)) (v := ?_) (a' := ?_) #[true, true, true, false, false, false, false, false, false, false, false] rfl rfl (by kernel_rfl) (fun _ _ _ h => h) (Or.inl ⟨by rfl, ?_⟩) ?_ ?_
   rotate_left
   ·intro w'
    go_simp
    with_reducible rfl
   rotate_left
   ·simp only [Act.put, sqA, sq0, sq1]
    rfl
   refine pure_ (i := 3) (N := (some 28)) (v := ?_) (a' := ?_) #[true, true, true, true, false, false, false, false, false, false, false] rfl rfl (by kernel_rfl) (fun _ _ _ h => h) (Or.inl ⟨by rfl, ?_⟩) ?_ ?_
   rotate_left
   ·intro w'
    go_simp
    with_reducible rfl
   rotate_left
   ·simp only [Act.put, sqA, sq0, sq1]
    rfl
   refine take_ (i := 4) (N := (some 29)) (v := ?_) (a' := ?_) #[true, true, true, true, true, false, false, false, false, false, false] rfl rfl (by kernel_rfl) (fun _ _ _ h => h) (Or.inl ⟨by rfl, ?_⟩) hS0 ?_ ?_
   rotate_left
   ·intro w' s0
    have hx := (s0.cell (qwL _ _ d1)).trans d1
    go_simp
    with_reducible rfl
   rotate_left
   ·simp only [Act.put, sqA, sq0, sq1]
    rfl
   refine take_ (i := 5) (N := (some 30)) (v := ?_) (a' := ?_) #[true, true, true, true, true, true, false, false, false, false, false] rfl rfl (by kernel_rfl) (fun _ _ _ h => h) (Or.inl ⟨by rfl, ?_⟩) hS0 ?_ ?_
   rotate_left
   ·intro w' s0
    refine exec_load (.tmp 3) (xs := b) (ad := ⟨w.heap.size, 0, none⟩) ?_ ?_ ?_
    ·rfl
    ·rfl
    ·exact arr_load ((s0.block _ (blk_lt HXr.out)).trans HXr.out) HL.out
   rotate_left
   ·simp only [Act.put, sqA, sq0, sq1]
    rfl
   clear hS0
   refine one_ (i := 6) (N := (some 31)) #[true, true, true, true, true, true, true, false, false, false, false] rfl rfl (by kernel_rfl) (by decide) (fun K hK => ?_)
   refine value_ (w1 := wr.drew.alloc (.cells (vs b) 146)) (v := .slice (some ⟨wr.drew.heap.size, 0, none⟩) 1 1) (by rfl) rfl (build_one HL.out rfl rfl) ?_
   refine hK.out (Act.put _ (some 31) _) _ (qbA (below_drew (qBr _ _)) _) (fun hS0 => ?_)
   clear hK
   refine norm_ (a' := ?_) ?_ ?_
   rotate_left
   ·simp only [Act.put, sqA, sq0, sq1]
    rfl
   clear hS0
   refine last_ (i := 7) (N := (some 32)) #[true, true, true, true, true, true, true, true, false, false, false] rfl rfl (by kernel_rfl) (by decide) (fun K hK => ?_)
   refine Kd.R_append_step kb (w0 := w) base (by rfl) (.tmp 29) (.tmp 31) 140 146 (.agg (vs (evenL 0))) 1024 rfl Tryz.underlying140 info122b (by simp [vs, evenL, Value.cells]; rfl) (by decide) (by omega) (.slice A2 bs.length c2) bs b (vs b).toList (fun k => k ≠ gt) (fun _ => False) rfl rfl (kb_mk _ _ _ HL.out) (fun _ hk => hk.elim) (fun k hk => by have := blk_lt HTr.out; intro e; subst e; exact absurd hk (by show ¬ wr.drew.heap.size ≤ _; have h9 : wr.drew.heap.size = wr.heap.size := rfl; omega)) (qrD HRr.out) HBd.out (qlT hbase HBd.out.size) (by omega) ?_
   intro v3 w3 hv hb hg hat
   obtain ⟨A3, c3, rfl⟩ := Kd.R_slice hv
   have HV3 := aMk hv
   have HB3 := aMk hb
   have HG3 := aMk hg
   have HT3 : Aside0 (w3.heap[gt]? = some (.cells (tabCells vf (.slice A2 bs.length c2) n) 144 (0, 0))) := ⟨(hg.block _ (blk_lt HTr.out) (fun e => (Kd.R_away HRr.out (g := gt) (fun k hk => hk)) e)).trans HTr.out⟩
   clear hv hb hg hat
   refine hK.out (Act.put _ (some 32) _) _ ?_
   clear hK
   refine norm_ (a' := ?_) ?_ ?_
   rotate_left
   ·simp only [Act.put, sqA, sq0, sq1]
    rfl
   refine pure_ (i := 8) (N := (some 33)) (v := ?_) (a' := ?_) #[true, true, true, true, true, true, true, true, true, false, false] rfl rfl (by kernel_rfl) (fun _ _ _ h => h) (Or.inl ⟨by rfl, ?_⟩) ?_ ?_
   rotate_left
   ·intro w'
    go_simp
    with_reducible rfl
   rotate_left
   ·simp only [Act.put, sqA, sq0, sq1]
    rfl
   refine pure_ (i := 9) (N := (some 34)) (v := ?_) (a' := ?_) #[true, true, true, true, true, true, true, true, true, true, false] rfl rfl (by kernel_rfl) (fun _ _ _ h => h) (Or.inl ⟨by rfl, ?_⟩) ?_ ?_
   rotate_left
   ·intro w'
    go_simp
    with_reducible rfl
   rotate_left
   ·simp only [Act.put, sqA, sq0, sq1]
    rfl
   refine last_ (i := 10) (N := none) #[true, true, true, true, true, true, true, true, true, true, true] rfl rfl (by kernel_rfl) (by decide) (fun K hK => ?_)
   have e1 : w3.cell? ⟨gt, 1, none⟩ = some (.slice A2 bs.length c2) := (blk_cell HT3.out 1).trans rfl
   have e2 : w3.frozen? ⟨gt, 1, none⟩ = false := qbF HT3.out 1
   refine skip_ (w1 := w3.setCell ⟨gt, 1, none⟩ (.slice A3 (bs ++ [b]).length c3)) (by rfl) rfl ?_ ?_
   ·go_simp
   refine hK.out _ _ ?_
   clear hK
   refine done_ (by kernel_rfl) ?_
   have HT4 : Aside0 ((w3.setCell ⟨gt, 1, none⟩ (.slice A3 (bs ++ [b]).length c3)).heap[gt]? = some (.cells (tabCells vf (.slice A3 (bs ++ [b]).length c3) n) 144 (0, 0))) := ⟨(blk_set HT3.out 1 _).trans rfl⟩
   have HV4 : Aside0 (Kd.R kb 146 (w3.setCell ⟨gt, 1, none⟩ (.slice A3 (bs ++ [b]).length c3)) base (fun k => k ≠ gt) (.slice A3 (bs ++ [b]).length c3) (bs ++ [b])) := ⟨Kd.R_far HV3.out (fun k hk => hk) _⟩
   have f1 : (w3.setCell ⟨gt, 1, none⟩ (.slice A3 (bs ++ [b]).length c3)).cell? ⟨gt, 1, none⟩ = some (.slice A3 (bs ++ [b]).length c3) := (blk_cell HT4.out 1).trans rfl
   have hln : (bs ++ [b]).length = bs.length + 1 := by simp
   rw [hln] at f1 HT4 HV4 ⊢
   clear d1 e1 e2
   go_wp2
   go_ret
   refine ⟨bs.length, bs ++ [b], _, by go_num, .inr rfl, by simp, by simp [qgD], HT4.out, HV4.out, ?_, ?_, ?_, ?_, fun j hj hne hno => ?_⟩
   ·exact HG3.out.os.trans HBw.out.os
   ·exact HG3.out.tape.trans HBw.out.tape
   ·exact HG3.out.output.trans HBw.out.output
   ·exact qlT HBw.out.size (qlT HG3.out.size (by simp [World.setCell]))
   ·rw [Below.heap_setCell w3 ⟨gt, 1, none⟩ _ j hne, HG3.out.block j (Nat.lt_of_lt_of_le hj HBw.out.size) hno]
    exact HBw.out.block j hj
end CTrie
end
section
namespace PEmbedJoins

attribute [local go_sem] max2_int min2_int max_two min_two max_three min_three max_four min_four
def trie_may.l0 : Nat → Int → List (S127) → Int → Int → Option (Int)
 | 0, _, _, _, _ => none
 | k + 1, x3, x9, x10, x11 => if x11 < x10 then (if 0 ≤ x11 then (if x11 < (x9.length : Int) then (if ((rd_T127 x9 x11).f0) ≤ x3 then (some 10) else (if ((rd_T127 x9 x11).f1) < ((rd_T127 x9 x11).f0) then (some 10) else (if ((rd_T127 x9 x11).f1) > 1114111 then (some 10) else (trie_may.l0 k ((rd_T127 x9 x11).f1) x9 x10 (wrap64 (x11 + 1)))))) else (none)) else (none)) else (some 0)
def trie_may.f (k : Nat) (l0 : List (S127)) : Option (Int) := if (l0.length : Int) > 4096 then (some 6) else (trie_may.l0 k (-1) l0 (l0.length : Int) 0)
theorem trie_may.calls (k : Nat) (A0 : Option Addr) (c0 : Nat) (l0 : List (S127)) (r : Int) (w : World) (hr0 : Kd.C k127 w A0 l0.length l0) (hc0 : l0.length ≤ c0) (h : trie_may.f k l0 = some r) :
 Calls Tryz.prog 111 #[.slice A0 l0.length c0] w fun e w' => e = .returned (.int .i64 r) ∧ Below w.heap.size w w' := by
 have hu127 := Tryz.underlying151
 have HR0 := aMk hr0
 have HC0 := aMk hc0
 clear hr0 hc0
 have HB := aMk (qBr w.heap.size w)
 have H : (if (l0.length : Int) > 4096 then (some 6) else (trie_may.l0 k (-1) l0 (l0.length : Int) 0)) = some r := h
 clear h
 by_cases c2 : (l0.length : Int) > 4096
 ·rw [if_pos c2] at H
  have c2b0 : decide (4096 < (l0.length : Int)) = true := qdT c2
  have c2b1 : decide (4096 < l0.length) = true := qdT (by omega)
  clear c2
  obtain rfl := qoI H
  go_enter Tryz.func111, Tryz.ntmps111
  go_wp2
  go_ret
  exact ⟨by first | rfl | (simp [errW_none, errW_some] <;> rfl) | (simp [*, errW_none, errW_some] <;> rfl), by repeat (first | (with_reducible first | exact HB.out | apply qbA | apply qbN | apply qb1) | exact HB.out)⟩
 ·rw [if_neg c2] at H
  have c2b0 : decide (4096 < (l0.length : Int)) = false := qdF c2
  have c2b1 : decide (4096 < l0.length) = false := qdF (by omega)
  clear c2
  have H' := aMk H
  clear H
  go_enter Tryz.func111, Tryz.ntmps111
  go_wp2
  go_loopg [3, 11] k (fun kq v3 v11 w' => ∃ (x3_1 : Int) (x11_1 : Int), v3 = .int .i64 x3_1 ∧ v11 = .int .i64 x11_1 ∧ Aside0 (trie_may.l0 kq x3_1 l0 (l0.length : Int) x11_1 = some r) ∧ Aside0 (kq ≤ k) ∧ Aside0 (Below w.heap.size w w'))
  case atStart => exact ⟨((-1)), (0), (by first | rfl | (simp; done) | (simp [*]; done)), (by first | rfl | (simp; done) | (simp [*]; done)), H', ⟨qlR _⟩, ⟨by repeat (first | (with_reducible first | exact HB.out | apply qbA | apply qbN | apply qb1) | exact HB.out)⟩⟩
  case round =>
   clear H'
   obtain ⟨x3_1, x11_1, rfl, rfl, HA, HK1, HB⟩ := hrel
   cases gk with
   | zero => exact absurd HA.out (by simp [trie_may.l0])
   | succ k1 =>
    have H := HA.out
    clear HA
    simp only [trie_may.l0] at H
    by_cases c3 : x11_1 < (l0.length : Int)
    ·rw [if_pos c3] at H
     have c3b0 := qdT c3
     clear c3
     by_cases c4 : 0 ≤ x11_1
     ·rw [if_pos c4] at H
      have c4b0 := qdT c4
      clear c4
      by_cases c5 : x11_1 < (l0.length : Int)
      ·rw [if_pos c5] at H
       have c5b0 := qdT c5
       clear c5
       by_cases c6 : ((rd_T127 l0 x11_1).f0) ≤ x3_1
       ·rw [if_pos c6] at H
        have c6b0 := qdT c6
        clear c6
        obtain rfl := qoI H
        have p103 : 0 ≤ (x11_1 : Int) := qoD (by assumption)
        have q103 : x11_1 < (l0.length : Int) := qoD (by assumption)
        obtain ⟨ad103, e103, hx103_0, hx103_1, hx103_2⟩ := at_T127 HR0.out x11_1 p103 q103
        cases e103
        replace hx103_0 := (HB.out.cell (qwL w _ hx103_0)).trans hx103_0
        replace hx103_1 := (HB.out.cell (qwL w _ hx103_1)).trans hx103_1
        replace hx103_2 := (HB.out.cell (qwL w _ hx103_2)).trans hx103_2
        replace p103 := eq_true p103
        replace q103 := eq_true q103
        go_wp2_with (first | ((with_reducible refine gate_dst (N := 5) rfl ?_); refine box_event ?hg (N := 5) ?hd (cs := #[.int .i64 0, .int .i64 0, .int .i64 0]) (t := 151) ?hr ?_; (case hd => rfl); (case hg => rfl); (case hr => go_simp; done); intro gb104 hg w7 hbox hb; have n0_ := aMk (qbP (by repeat (first | (with_reducible first | exact HB.out | apply qbA | apply qbN | apply qb1) | exact HB.out)) hb); have n1_ := aMk (hbox); have n2_ := aMk ((by rw [hg]; exact (qbZ (by repeat (first | (with_reducible first | exact HB.out | apply qbA | apply qbN | apply qb1) | exact HB.out))) : w.heap.size ≤ gb104)); have n3_ := aMk ((by rw [hg]; exact (qbZ (by repeat (first | (with_reducible first | exact HB.out | apply qbA | apply qbN | apply qb1) | exact HB.out))) : w.heap.size ≤ gb104)); clear HB; have HB := n0_; have BK104 := n1_; have GW104 := n2_; have GE104 := n3_; clear n0_ n1_ n2_ n3_; clear hb hbox hg; have hcz8_0 : w7.cell? ⟨gb104, 0, none⟩ = some (.int .i64 0) := (blk_cell BK104.out 0).trans rfl; have hcz8_1 : w7.cell? ⟨gb104, 1, none⟩ = some (.int .i64 0) := (blk_cell BK104.out 1).trans rfl; have hcz8_2 : w7.cell? ⟨gb104, 2, none⟩ = some (.int .i64 0) := (blk_cell BK104.out 2).trans rfl; have hfz8_0 := qbF BK104.out 0; have hfz8_1 := qbF BK104.out 1; have hfz8_2 := qbF BK104.out 2))
        go_ret
        exact ⟨by first | rfl | (simp [errW_none, errW_some] <;> rfl) | (simp [*, errW_none, errW_some] <;> rfl), by repeat (first | (with_reducible first | exact HB.out | apply qbA | apply qbN | apply qb1 | refine qbS ?_ GE104.out) | exact HB.out)⟩
       ·rw [if_neg c6] at H
        have c6b0 := qdF c6
        clear c6
        by_cases c9 : ((rd_T127 l0 x11_1).f1) < ((rd_T127 l0 x11_1).f0)
        ·rw [if_pos c9] at H
         have c9b0 := qdT c9
         clear c9
         obtain rfl := qoI H
         have p103 : 0 ≤ (x11_1 : Int) := qoD (by assumption)
         have q103 : x11_1 < (l0.length : Int) := qoD (by assumption)
         obtain ⟨ad103, e103, hx103_0, hx103_1, hx103_2⟩ := at_T127 HR0.out x11_1 p103 q103
         cases e103
         replace hx103_0 := (HB.out.cell (qwL w _ hx103_0)).trans hx103_0
         replace hx103_1 := (HB.out.cell (qwL w _ hx103_1)).trans hx103_1
         replace hx103_2 := (HB.out.cell (qwL w _ hx103_2)).trans hx103_2
         replace p103 := eq_true p103
         replace q103 := eq_true q103
         go_wp2_with (first | ((with_reducible refine gate_dst (N := 5) rfl ?_); refine box_event ?hg (N := 5) ?hd (cs := #[.int .i64 0, .int .i64 0, .int .i64 0]) (t := 151) ?hr ?_; (case hd => rfl); (case hg => rfl); (case hr => go_simp; done); intro gb104 hg w10 hbox hb; have n0_ := aMk (qbP (by repeat (first | (with_reducible first | exact HB.out | apply qbA | apply qbN | apply qb1) | exact HB.out)) hb); have n1_ := aMk (hbox); have n2_ := aMk ((by rw [hg]; exact (qbZ (by repeat (first | (with_reducible first | exact HB.out | apply qbA | apply qbN | apply qb1) | exact HB.out))) : w.heap.size ≤ gb104)); have n3_ := aMk ((by rw [hg]; exact (qbZ (by repeat (first | (with_reducible first | exact HB.out | apply qbA | apply qbN | apply qb1) | exact HB.out))) : w.heap.size ≤ gb104)); clear HB; have HB := n0_; have BK104 := n1_; have GW104 := n2_; have GE104 := n3_; clear n0_ n1_ n2_ n3_; clear hb hbox hg; have hcz11_0 : w10.cell? ⟨gb104, 0, none⟩ = some (.int .i64 0) := (blk_cell BK104.out 0).trans rfl; have hcz11_1 : w10.cell? ⟨gb104, 1, none⟩ = some (.int .i64 0) := (blk_cell BK104.out 1).trans rfl; have hcz11_2 : w10.cell? ⟨gb104, 2, none⟩ = some (.int .i64 0) := (blk_cell BK104.out 2).trans rfl; have hfz11_0 := qbF BK104.out 0; have hfz11_1 := qbF BK104.out 1; have hfz11_2 := qbF BK104.out 2))
         go_ret
         exact ⟨by first | rfl | (simp [errW_none, errW_some] <;> rfl) | (simp [*, errW_none, errW_some] <;> rfl), by repeat (first | (with_reducible first | exact HB.out | apply qbA | apply qbN | apply qb1 | refine qbS ?_ GE104.out) | exact HB.out)⟩
        ·rw [if_neg c9] at H
         have c9b0 := qdF c9
         clear c9
         by_cases c12 : ((rd_T127 l0 x11_1).f1) > 1114111
         ·rw [if_pos c12] at H
          have c12b0 : decide (1114111 < ((rd_T127 l0 x11_1).f1)) = true := qdT c12
          clear c12
          obtain rfl := qoI H
          have p103 : 0 ≤ (x11_1 : Int) := qoD (by assumption)
          have q103 : x11_1 < (l0.length : Int) := qoD (by assumption)
          obtain ⟨ad103, e103, hx103_0, hx103_1, hx103_2⟩ := at_T127 HR0.out x11_1 p103 q103
          cases e103
          replace hx103_0 := (HB.out.cell (qwL w _ hx103_0)).trans hx103_0
          replace hx103_1 := (HB.out.cell (qwL w _ hx103_1)).trans hx103_1
          replace hx103_2 := (HB.out.cell (qwL w _ hx103_2)).trans hx103_2
          replace p103 := eq_true p103
          replace q103 := eq_true q103
          go_wp2_with (first | ((with_reducible refine gate_dst (N := 5) rfl ?_); refine box_event ?hg (N := 5) ?hd (cs := #[.int .i64 0, .int .i64 0, .int .i64 0]) (t := 151) ?hr ?_; (case hd => rfl); (case hg => rfl); (case hr => go_simp; done); intro gb104 hg w13 hbox hb; have n0_ := aMk (qbP (by repeat (first | (with_reducible first | exact HB.out | apply qbA | apply qbN | apply qb1) | exact HB.out)) hb); have n1_ := aMk (hbox); have n2_ := aMk ((by rw [hg]; exact (qbZ (by repeat (first | (with_reducible first | exact HB.out | apply qbA | apply qbN | apply qb1) | exact HB.out))) : w.heap.size ≤ gb104)); have n3_ := aMk ((by rw [hg]; exact (qbZ (by repeat (first | (with_reducible first | exact HB.out | apply qbA | apply qbN | apply qb1) | exact HB.out))) : w.heap.size ≤ gb104)); clear HB; have HB := n0_; have BK104 := n1_; have GW104 := n2_; have GE104 := n3_; clear n0_ n1_ n2_ n3_; clear hb hbox hg; have hcz14_0 : w13.cell? ⟨gb104, 0, none⟩ = some (.int .i64 0) := (blk_cell BK104.out 0).trans rfl; have hcz14_1 : w13.cell? ⟨gb104, 1, none⟩ = some (.int .i64 0) := (blk_cell BK104.out 1).trans rfl; have hcz14_2 : w13.cell? ⟨gb104, 2, none⟩ = some (.int .i64 0) := (blk_cell BK104.out 2).trans rfl; have hfz14_0 := qbF BK104.out 0; have hfz14_1 := qbF BK104.out 1; have hfz14_2 := qbF BK104.out 2))
          go_ret
          exact ⟨by first | rfl | (simp [errW_none, errW_some] <;> rfl) | (simp [*, errW_none, errW_some] <;> rfl), by repeat (first | (with_reducible first | exact HB.out | apply qbA | apply qbN | apply qb1 | refine qbS ?_ GE104.out) | exact HB.out)⟩
         ·rw [if_neg c12] at H
          have c12b0 : decide (1114111 < ((rd_T127 l0 x11_1).f1)) = false := qdF c12
          clear c12
          have H' := aMk H
          clear H
          have p103 : 0 ≤ (x11_1 : Int) := qoD (by assumption)
          have q103 : x11_1 < (l0.length : Int) := qoD (by assumption)
          obtain ⟨ad103, e103, hx103_0, hx103_1, hx103_2⟩ := at_T127 HR0.out x11_1 p103 q103
          cases e103
          replace hx103_0 := (HB.out.cell (qwL w _ hx103_0)).trans hx103_0
          replace hx103_1 := (HB.out.cell (qwL w _ hx103_1)).trans hx103_1
          replace hx103_2 := (HB.out.cell (qwL w _ hx103_2)).trans hx103_2
          replace p103 := eq_true p103
          replace q103 := eq_true q103
          go_wp2_with (first | ((with_reducible refine gate_dst (N := 5) rfl ?_); refine box_event ?hg (N := 5) ?hd (cs := #[.int .i64 0, .int .i64 0, .int .i64 0]) (t := 151) ?hr ?_; (case hd => rfl); (case hg => rfl); (case hr => go_simp; done); intro gb104 hg w15 hbox hb; have n0_ := aMk (qbP (by repeat (first | (with_reducible first | exact HB.out | apply qbA | apply qbN | apply qb1) | exact HB.out)) hb); have n1_ := aMk (hbox); have n2_ := aMk ((by rw [hg]; exact (qbZ (by repeat (first | (with_reducible first | exact HB.out | apply qbA | apply qbN | apply qb1) | exact HB.out))) : w.heap.size ≤ gb104)); have n3_ := aMk ((by rw [hg]; exact (qbZ (by repeat (first | (with_reducible first | exact HB.out | apply qbA | apply qbN | apply qb1) | exact HB.out))) : w.heap.size ≤ gb104)); clear HB; have HB := n0_; have BK104 := n1_; have GW104 := n2_; have GE104 := n3_; clear n0_ n1_ n2_ n3_; clear hb hbox hg; have hcz16_0 : w15.cell? ⟨gb104, 0, none⟩ = some (.int .i64 0) := (blk_cell BK104.out 0).trans rfl; have hcz16_1 : w15.cell? ⟨gb104, 1, none⟩ = some (.int .i64 0) := (blk_cell BK104.out 1).trans rfl; have hcz16_2 : w15.cell? ⟨gb104, 2, none⟩ = some (.int .i64 0) := (blk_cell BK104.out 2).trans rfl; have hfz16_0 := qbF BK104.out 0; have hfz16_1 := qbF BK104.out 1; have hfz16_2 := qbF BK104.out 2))
          go_roundg k1
          case measure => have := HK1.out; omega
          case rel => exact ⟨((rd_T127 l0 x11_1).f1), (wrap64 (x11_1 + 1)), (by first | rfl | (simp; done) | (simp [*]; done)), (by first | rfl | (simp; done) | (simp [*]; done)), H', ⟨by have := HK1.out; omega⟩, ⟨by repeat (first | (with_reducible first | exact HB.out | apply qbA | apply qbN | apply qb1 | refine qbS ?_ GE104.out) | exact HB.out)⟩⟩
      ·rw [if_neg c5] at H
       exact absurd H (by simp)
     ·rw [if_neg c4] at H
      exact absurd H (by simp)
    ·rw [if_neg c3] at H
     have c3b0 := qdF c3
     clear c3
     obtain rfl := qoI H
     go_wp2
     go_ret
     exact ⟨by first | rfl | (simp [errW_none, errW_some] <;> rfl) | (simp [*, errW_none, errW_some] <;> rfl), by repeat (first | (with_reducible first | exact HB.out | apply qbA | apply qbN | apply qb1) | exact HB.out)⟩
end PEmbedJoins
end
section
namespace PResolveLine

attribute [local go_sem] max2_int min2_int max_two min_two max_three min_three max_four min_four
def slices_Equal_int_int.l0 : Nat → List Int → List Int → Int → Int → Option (Bool)
 | 0, _, _, _, _ => none
 | k + 1, x0, x1, x12, x13 => if x13 < x12 then (if 0 ≤ x13 then (if x13 < (x0.length : Int) then (if x13 < (x1.length : Int) then (if (rd x0 x13) = (rd x1 x13) then (slices_Equal_int_int.l0 k x0 x1 x12 (wrap64 (x13 + 1))) else (some false)) else (none)) else (none)) else (none)) else (some true)
def slices_Equal_int_int.f (k : Nat) (l0 : List Int) (l1 : List Int) : Option (Bool) := if (l0.length : Int) = (l1.length : Int) then (slices_Equal_int_int.l0 k l0 l1 (l0.length : Int) 0) else (some false)
theorem slices_Equal_int_int.calls (k : Nat) (A0 : Option Addr) (c0 : Nat) (l0 : List Int) (A1 : Option Addr) (c1 : Nat) (l1 : List Int) (r : Bool) (w : World) (hr0 : Kd.C (Kd.int .i64) w A0 l0.length l0) (hc0 : l0.length ≤ c0) (hr1 : Kd.C (Kd.int .i64) w A1 l1.length l1) (hc1 : l1.length ≤ c1) (h : slices_Equal_int_int.f k l0 l1 = some r) :
 Calls Tryz.prog 17 #[.slice A0 l0.length c0, .slice A1 l1.length c1] w fun e w' => e = .returned (.bool r) ∧ Drawn0 w w' := by
 have HR0 := aMk hr0
 have HC0 := aMk hc0
 clear hr0 hc0
 have HR1 := aMk hr1
 have HC1 := aMk hc1
 clear hr1 hc1
 have H : (if (l0.length : Int) = (l1.length : Int) then (slices_Equal_int_int.l0 k l0 l1 (l0.length : Int) 0) else (some false)) = some r := h
 clear h
 by_cases c3 : (l0.length : Int) = (l1.length : Int)
 ·rw [if_pos c3] at H
  have c3b0 : ((l0.length : Int) == (l1.length : Int)) = true := beq_iff_eq.mpr c3
  have c3b1 : ((l0.length : Int) != (l1.length : Int)) = false := bne_eq_false_iff_eq.mpr c3
  have c3b2 : (l0.length == l1.length) = true := by first | simpa using c3 | (simp at c3 ⊢; omega)
  clear c3
  have H' := aMk H
  clear H
  go_enter Tryz.func17, Tryz.ntmps17
  go_wp2
  repeat (go_quiet (fail); try go_wp2)
  go_loopg [13] k (fun kq v13 w' => ∃ (x13_1 : Int), v13 = .int .i64 x13_1 ∧ Aside0 (slices_Equal_int_int.l0 kq l0 l1 (l0.length : Int) x13_1 = some r) ∧ Aside0 (kq ≤ k) ∧ Drawn0 w w')
  case atStart => exact ⟨(0), (by first | rfl | (simp; done) | (simp [*]; done)), H', ⟨qlR _⟩, by repeat (first | exact qDr _ | apply qDs)⟩
  case round =>
   clear H'
   obtain ⟨x13_1, rfl, HA, HK1, ⟨m1, rfl⟩⟩ := hrel
   cases gk with
   | zero => exact absurd HA.out (by simp [slices_Equal_int_int.l0])
   | succ k1 =>
    have H := HA.out
    clear HA
    simp only [slices_Equal_int_int.l0] at H
    by_cases c4 : x13_1 < (l0.length : Int)
    ·rw [if_pos c4] at H
     have c4b0 := qdT c4
     clear c4
     by_cases c5 : 0 ≤ x13_1
     ·rw [if_pos c5] at H
      have c5b0 := qdT c5
      clear c5
      by_cases c6 : x13_1 < (l0.length : Int)
      ·rw [if_pos c6] at H
       have c6b0 := qdT c6
       clear c6
       by_cases c7 : x13_1 < (l1.length : Int)
       ·rw [if_pos c7] at H
        have c7b0 := qdT c7
        clear c7
        by_cases c8 : (rd l0 x13_1) = (rd l1 x13_1)
        ·rw [if_pos c8] at H
         have c8b0 : ((rd l0 x13_1) == (rd l1 x13_1)) = true := beq_iff_eq.mpr c8
         have c8b1 : ((rd l0 x13_1) != (rd l1 x13_1)) = false := bne_eq_false_iff_eq.mpr c8
         clear c8
         have H' := aMk H
         clear H
         have p101 : 0 ≤ (x13_1 : Int) := qoD (by assumption)
         have q101 : x13_1 < (l0.length : Int) := qoD (by assumption)
         obtain ⟨ad101, e101, hx101_0⟩ := Kd.at_int HR0.out x13_1 p101 q101
         cases e101
         replace p101 := eq_true p101
         replace q101 := eq_true q101
         have p102 : 0 ≤ (x13_1 : Int) := qoD (by assumption)
         have q102 : x13_1 < (l1.length : Int) := qoD (by assumption)
         obtain ⟨ad102, e102, hx102_0⟩ := Kd.at_int HR1.out x13_1 p102 q102
         cases e102
         replace p102 := eq_true p102
         replace q102 := eq_true q102
         go_wp2
         repeat (go_quiet (fail); try go_wp2)
         go_roundg k1
         case measure => have := HK1.out; omega
         case rel => exact ⟨(wrap64 (x13_1 + 1)), (by first | rfl | (simp; done) | (simp [*]; done)), H', ⟨by have := HK1.out; omega⟩, by repeat (first | exact qDr _ | apply qDs)⟩
        ·rw [if_neg c8] at H
         have c8b0 : ((rd l0 x13_1) == (rd l1 x13_1)) = false := beq_eq_false_iff_ne.mpr c8
         have c8b1 : ((rd l0 x13_1) != (rd l1 x13_1)) = true := bne_iff_ne.mpr c8
         obtain rfl := qoI H
         have p101 : 0 ≤ (x13_1 : Int) := qoD (by assumption)
         have q101 : x13_1 < (l0.length : Int) := qoD (by assumption)
         obtain ⟨ad101, e101, hx101_0⟩ := Kd.at_int HR0.out x13_1 p101 q101
         cases e101
         replace p101 := eq_true p101
         replace q101 := eq_true q101
         have p102 : 0 ≤ (x13_1 : Int) := qoD (by assumption)
         have q102 : x13_1 < (l1.length : Int) := qoD (by assumption)
         obtain ⟨ad102, e102, hx102_0⟩ := Kd.at_int HR1.out x13_1 p102 q102
         cases e102
         replace p102 := eq_true p102
         replace q102 := eq_true q102
         go_wp2
         repeat (go_quiet (fail); try go_wp2)
         go_ret
         exact ⟨by first | rfl | (simp; done) | (simp [*]; done), by repeat (first | exact qDr _ | apply qDs)⟩
       ·rw [if_neg c7] at H
        exact absurd H (by simp)
      ·rw [if_neg c6] at H
       exact absurd H (by simp)
     ·rw [if_neg c5] at H
      exact absurd H (by simp)
    ·rw [if_neg c4] at H
     have c4b0 := qdF c4
     clear c4
     obtain rfl := qoI H
     go_wp2
     repeat (go_quiet (fail); try go_wp2)
     go_ret
     exact ⟨by first | rfl | (simp; done) | (simp [*]; done), by repeat (first | exact qDr _ | apply qDs)⟩
 ·rw [if_neg c3] at H
  have c3b0 : ((l0.length : Int) == (l1.length : Int)) = false := beq_eq_false_iff_ne.mpr c3
  have c3b1 : ((l0.length : Int) != (l1.length : Int)) = true := bne_iff_ne.mpr c3
  have c3b2 : (l0.length == l1.length) = false := by first | simpa using c3 | (simp at c3 ⊢; omega)
  obtain rfl := qoI H
  go_enter Tryz.func17, Tryz.ntmps17
  go_wp2
  repeat (go_quiet (fail); try go_wp2)
  go_ret
  exact ⟨by first | rfl | (simp; done) | (simp [*]; done), by repeat (first | exact qDr _ | apply qDs)⟩
end PResolveLine
end
section
namespace CBase
open PResolveLine U
theorem equal_loop (xs ys : List Int) (hl : xs.length = ys.length) (hm : xs.length ≤ 1000000000000) (d : Nat) : ∀ i : Nat, i + d = xs.length →
 Ev (fun k => slices_Equal_int_int.l0 k xs ys (xs.length : Int) (i : Int)) (decide (xs.drop i = ys.drop i)) := by
 induction d with
 | zero =>
  intro i hi
  refine Ev.step (fun k => by rw [slices_Equal_int_int.l0]) ?_
  refine ev_neg (by omega) (ev_eq (ev_now _) ?_)
  rw [List.drop_of_length_le (by omega), List.drop_of_length_le (by omega)]
  simp
 | succ d ih =>
  intro i hi
  refine Ev.step (fun k => by rw [slices_Equal_int_int.l0]) ?_
  refine ev_pos (by omega) (ev_pos (by omega) (ev_pos (by omega) (ev_pos (by omega) ?_)))
  rw [rd_get (show i < xs.length by omega), rd_get (show i < ys.length by omega), List.drop_eq_getElem_cons (l := xs) (show i < xs.length by omega), List.drop_eq_getElem_cons (l := ys) (show i < ys.length by omega)]
  refine ev_ite (fun h => ?_) (fun h => ?_)
  ·rw [w64 (by omega) (by omega)]
   refine ev_eq (ih (i + 1) (by omega)) ?_
   simp only [List.cons.injEq, h, true_and]
  ·refine ev_eq (ev_now _) ?_
   simp only [List.cons.injEq, h, false_and, decide_false]
theorem equal_ev (xs ys : List Int) (hm : xs.length ≤ 1000000000000) : Ev (fun k => slices_Equal_int_int.f k xs ys) (decide (xs = ys)) := by
 unfold slices_Equal_int_int.f
 refine ev_ite (fun h => ?_) (fun h => ?_)
 ·simpa using equal_loop xs ys (by omega) hm xs.length 0 (by omega)
 ·refine ev_eq (ev_now _) ?_
  symm
  rw [decide_eq_false_iff_not]
  rintro rfl
  exact h rfl
theorem equal_c {u v : Value} {xs ys : List Int} {w : World} (h1 : SL w u xs) (h2 : SL w v ys) (hm : xs.length ≤ 1000000000000) :
 Calls Tryz.prog 17 #[u, v] w fun e w' => e = .returned (.bool (decide (xs = ys))) ∧ Below w.heap.size w w' := by
 obtain ⟨A, c, rfl, hc, h1⟩ := h1
 obtain ⟨B, d, rfl, hd, h2⟩ := h2
 obtain ⟨k, hk⟩ := (equal_ev xs ys hm).rounds
 exact (slices_Equal_int_int.calls k A c xs B d ys _ w h1 hc h2 hd hk).mono fun e w' h => ⟨h.1, h.2.below⟩
theorem SL_lit (w : World) (t : TypeId) (xs : List Int) (hm : xs.length ≤ 1000000) : SL (w.alloc (.cells (xs.map (Value.int .i64)).toArray t)) (.slice (some ⟨w.heap.size, 0, none⟩) xs.length xs.length) xs := by
 refine ⟨_, _, rfl, qlR _, ?_⟩
 refine Kd.C_of_reads (d := (0 : Int)) (h1 := fun _ => rfl) ⟨rfl, by omega, fun _ => ⟨_, rfl, fun j hj => ?_⟩⟩
 rw [add_plain, World.cell?_alloc_new]
 simp [qgG hj, qgD]
end CBase
namespace CSlices
open U CBase
theorem info3 : (Tryz.prog.info? 3).map (fun i => (i.zero, i.size, i.bytes)) = some (some (.int .i64 0), 1, 8) := by kernel_rfl
abbrev SLs (w : World) (v : Value) (xss : List (List Int)) : Prop := SLk (Kd.slice 3 (Kd.int .i64)) w v xss
theorem SLs.at_ {w : World} {v : Value} {xss : List (List Int)} (h : SLs w v xss) (i : Nat) (h1 : i < xss.length) : ∃ ad c, v = .slice (some ad) xss.length c ∧ ∃ A0 c0, w.cell? (ad.add i) = some (.slice A0 (xss.getD i []).length c0) ∧ SL w (.slice A0 (xss.getD i []).length c0) (xss.getD i []) := by
 obtain ⟨A, c, rfl, hc, h⟩ := h
 obtain ⟨ad, cs, e, _, hK, hcell⟩ := Kd.C_get h ([] : List Int) i (by omega) (by omega)
 have hcell' : ∀ j u, cs[j]? = some u → w.cell? (ad.add (i * 1 + j)) = some u := hcell
 obtain ⟨A0, c0, rfl, l0, g0⟩ := hK
 subst e
 refine ⟨ad, c, rfl, A0, c0, ?_, ⟨A0, c0, rfl, l0, g0⟩⟩
 have := hcell' 0 _ rfl
 simpa using this
theorem SLk.alloc {α : Type} {d : Kd α} {w : World} {v : Value} {xs : List α} (h : SLk d w v xs) (o : Obj) : SLk d (w.alloc o) v xs := SLk.below h (qbA (qBr _ _) o)
end CSlices
end
end Go.Proofs.YtemhccjjcioodaaGreat
