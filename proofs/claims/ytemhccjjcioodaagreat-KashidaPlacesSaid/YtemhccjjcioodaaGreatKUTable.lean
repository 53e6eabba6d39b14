/- Texts of this claim, cut to what it needs. -/
import Derived.Test.YtemhccjjcioodaaGreatKCTrie2
import Derived.Test.YtemhccjjcioodaaGreatProg
import Derived.Below
import Derived.Deep.Draws
import Derived.Deep.AppendLies
import Derived.Maps.AppendAt
import Derived.OwnWalk
import Derived.Laws.BytesArg
import Derived.Laws.MakeOwn
import Derived.Laws.OwnMore
import Derived.Deep.OwnRows
import Derived.Tactics
import Derived.Lib.ConvBytes
import Derived.Laws.Slices
import Derived.WalkKit
import Derived.KernelRfl
import Derived.RowKit3
import Derived.Deep.LoopGhost
import Derived.Deep.QuietTactic
import Derived.BigQuiet
import Derived.WideLaws
import Derived.Deep.DeepCutAuto
import Derived.Deep.CutBlock
import Derived.Deep.RegionHeld3
import Derived.Laws.Rows
import Derived.Lib.AppendStr
import Derived.ArgAppend
import Derived.Laws.IdiomCopy
import Derived.OrdersHeld
import Derived.Laws.BitsLemmas
import Derived.RowKit
import Derived.Test.YtemhccjjcioodaaGreatKWLast
import Derived.Test.YtemhccjjcioodaaGreatKWMore
import Derived.Test.YtemhccjjcioodaaGreatKCFinA
import Derived.Outline
set_option linter.unusedSimpArgs false
set_option linter.unusedVariables false
section
namespace Go.Proofs.YtemhccjjcioodaaGreat.CTrie
open Go.RowKit Go.Proofs.YtemhccjjcioodaaGreatW.PrintWords Go.Proofs.YtemhccjjcioodaaGreatW.PrintMore Go.Proofs.YtemhccjjcioodaaGreatW.PrintLast Go.Proofs.YtemhccjjcioodaaGreat.U Go.Proofs.YtemhccjjcioodaaGreat.UTrie Go.Proofs.YtemhccjjcioodaaGreat.PEmbedJoins
def kb : Kd (List Int) := Kd.arr 128 (Kd.int .i64) (by decide)
theorem kb_open {w : World} {xs : List Int} {cs : List Value} (h : kb.K w xs cs) : xs.length = 128 ∧ cs = (vs xs).toList := by
 obtain ⟨h1, h2⟩ := Kd.arr_cells (enc := Value.int .i64) h
 exact ⟨h1, h2.trans (by simp [vs, encs])⟩
theorem kb_mk (w : World) (base : Nat) (ok : Nat → Prop) {xs : List Int} (h : xs.length = 128) : kb.M w base ok xs (vs xs).toList := by
 have := Kd.arr_of_cells (enc := Value.int .i64) (h1 := fun _ => rfl) (hs := by decide) (w := w) (base := base) (ok := ok) h
 rwa [show encs (Value.int .i64) xs = (vs xs).toList by simp [vs, encs]] at this
theorem kb_at {w : World} {A : Option Addr} {n : Nat} {bs : List (List Int)} (h : Kd.C kb w A n bs) (i : Nat) (hi : i < n) : ∃ ad, A = some ad ∧ (bs.getD i []).length = 128 ∧ ∀ j v, (vs (bs.getD i [])).toList[j]? = some v → w.cell? ((ad.add (i * 128)).add j) = some v := by
 obtain ⟨ad, c, e, _, hK, hc⟩ := Kd.C_get h [] (i : Int) (by omega) (by omega)
 rw [Int.toNat_natCast] at hK hc
 obtain ⟨h1, rfl⟩ := kb_open hK
 refine ⟨ad, e, h1, fun j v hv => ?_⟩
 have := hc j v hv
 rw [Addr.add_add]
 exact this
abbrev tabCells (f s : Value) (n : Int) : Array Value := #[f, s, .int .i64 n, .bool true]
theorem info122b : (Tryz.prog.info? 146).map (fun i => (i.zero, i.size, i.bytes)) = some (some (.agg (vs (evenL 0))), 128, 1024) := by kernel_rfl
theorem fold_sets : ∀ (l : List Value) (k : Nat) (a : Array Value), k + l.length = a.size → (l.zipIdx k).foldl (fun cs p => cs.setIfInBounds (0 + p.2) p.1) a = (a.toList.take k ++ l).toArray
 | [], k, a, h => by
  rw [List.zipIdx_nil, List.foldl_nil, List.append_nil, List.take_of_length_le (by simp at h ⊢; omega)]
 | x :: l, k, a, h => by
  rw [List.zipIdx_cons, List.foldl_cons, fold_sets l (k + 1) _ (by simp at h ⊢; omega)]
  congr 1
  simp only [Nat.zero_add, Array.toList_setIfInBounds]
  rw [List.take_add_one, List.take_set_of_le (Nat.le_refl k), List.getElem?_set_self (by simp at h ⊢; omega), List.append_assoc]
  rfl
theorem fold_vs (b : List Int) (z : Array Value) (hz : z.size = (vs b).size) : (vs b).zipIdx.foldl (fun cs p => cs.setIfInBounds (0 + p.2) p.1) z = vs b := by
 have h := fold_sets (vs b).toList 0 z (by simpa using hz.symm)
 rw [List.take_zero, List.nil_append, Array.toArray_toList] at h
 rw [← Array.foldl_toList, Array.toList_zipIdx]
 exact h
theorem build_one {o : Oper} {a : Act} {w : World} {b : List Int} (hl : b.length = 128) (ho : o.op = .buildSlice 140 1 #[(0, .tmp 30)]) (hx : a.eval (.tmp 30) = .agg (vs b)) : (execOp a.eval o).run Tryz.prog w = .ok (.value (.slice (some ⟨w.heap.size, 0, none⟩) 1 1)) (w.alloc (.cells (vs b) 146)) := by
 unfold execOp
 have hz : (Array.map (fun x => (Value.agg Tryz.zeroCells146).cells[x % (Value.agg Tryz.zeroCells146).cells.size]!) (Array.range 128)).size = (vs b).size := by simp [vs, hl]
 have hf : Instr.fill (fun i => some (i * 128, 128)) (Array.map (fun x => (Value.agg Tryz.zeroCells146).cells[x % (Value.agg Tryz.zeroCells146).cells.size]!) (Array.range 128)) [(0, Value.agg (vs b))] = some (vs b) := by
  generalize (Array.map (fun x => (Value.agg Tryz.zeroCells146).cells[x % (Value.agg Tryz.zeroCells146).cells.size]!) (Array.range 128)) = z at hz ⊢
  have h1 : (vs b).size = 128 := by simp [vs, hl]
  have h2 : (Value.agg (vs b)).cells = vs b := rfl
  unfold Instr.fill
  simp only [h2, h1, hz, Nat.zero_mul, Nat.zero_add, gt_iff_lt, Nat.lt_irrefl, ne_eq, not_true_eq_false, decide_false, Bool.or_self, or_self, if_false]
  have h3 := fold_vs b z hz
  simp only [Nat.zero_add] at h3
  rw [h3]
  rfl
 simp [ho, hx, Instr.buildSlice, hf, newRow]
theorem below_less {B C : Nat} {a b : World} (h : Below B a b) (hc : C ≤ B) : Below C a b := ⟨h.os, h.tape, h.output, h.size, fun k hk => h.block k (Nat.lt_of_lt_of_le hk hc)⟩
set_option maxRecDepth 100000 in
set_option maxHeartbeats 4000000 in
theorem add_c {w : World} {gt : Nat} {vf v2 : Value} {n : Int} {b : List Int} {bs : List (List Int)} {base : Nat} (hT : w.heap[gt]? = some (.cells (tabCells vf v2 n) 144 (0, 0))) (hR : Kd.R kb 146 w base (fun k => k ≠ gt) v2 bs) (hb : b.length = 128) (hm : bs.length ≤ 8704) (hbase : base ≤ w.heap.size) :
 Calls Tryz.prog 113 #[.pointer (some ⟨gt, 0, none⟩), .agg (vs b)] w fun e w' => ∃ (i : Nat) (bs' : List (List Int)) (v2' : Value), e = .returned (.int .i64 i) ∧ (bs' = bs ∨ bs' = bs ++ [b]) ∧ i < bs'.length ∧ bs'.getD i [] = b ∧ w'.heap[gt]? = some (.cells (tabCells vf v2' n) 144 (0, 0)) ∧ Kd.R kb 146 w' base (fun k => k ≠ gt) v2' bs' ∧
  w'.os = w.os ∧ w'.tape = w.tape ∧ w'.output = w.output ∧ w.heap.size ≤ w'.heap.size ∧ ∀ k, k < w.heap.size → k ≠ gt → some k ≠ v2.ownBlock → w'.heap[k]? = w.heap[k]? := by
 have HT := Aside0.mk hT
 have HR := Aside0.mk hR
 have HL := Aside0.mk hb
 have HM := Aside0.mk hm
 obtain ⟨A2, c2, rfl⟩ := Kd.R_slice hR
 clear hT hR hb
 have HB0 := Aside0.mk (below_alloc (Below.refl w.heap.size w) (.cells (vs b) 146))
 have HX0 : Aside0 (Arr (w.alloc (.cells (vs b) 146)) w.heap.size b) := ⟨blk_new w _⟩
 have HT0 : Aside0 ((w.alloc (.cells (vs b) 146)).heap[gt]? = some (.cells (tabCells vf (.slice A2 bs.length c2) n) 144 (0, 0))) := ⟨(HB0.out.block _ (blk_lt HT.out)).trans HT.out⟩
 have d1 : (w.alloc (.cells (vs b) 146)).cell? ⟨gt, 1, none⟩ = some (.slice A2 bs.length c2) := (blk_cell HT0.out 1).trans rfl
 go_enter Tryz.func113, Tryz.ntmps113
 go_wp2
 obtain ⟨W, hW⟩ : ∃ W, W = w.alloc (.cells (vs b) 146) := ⟨_, rfl⟩
 rw [← hW] at HB0 HX0 HT0 ⊢
 clear d1 hW
 go_loopw [11] (fun v wr => ∃ k : Nat, v = .int .i64 k ∧ k ≤ bs.length ∧ Aside0 (∃ m, wr = W.drewN m)) (fun v _ => bs.length - (intOf v).toNat)
 case atStart => exact ⟨0, rfl, Nat.zero_le _, ⟨0, rfl⟩⟩
 case round =>
  obtain ⟨k, rfl, hk, HD⟩ := hrel
  have HBr : Aside0 (Below W.heap.size W wr) := ⟨by obtain ⟨m, hm⟩ := HD.out; rw [hm]; exact pw_below_drewN (Below.refl _ _) m⟩
  have HTr : Aside0 (wr.heap[gt]? = some (.cells (tabCells vf (.slice A2 bs.length c2) n) 144 (0, 0))) := ⟨(HBr.out.block _ (blk_lt HT0.out)).trans HT0.out⟩
  have HXr : Aside0 (Arr wr w.heap.size b) := ⟨(HBr.out.block _ (blk_lt HX0.out)).trans HX0.out⟩
  have HBw : Aside0 (Below w.heap.size w wr) := ⟨below_step HB0.out HBr.out⟩
  have HBd : Aside0 (Below base w wr.drew) := ⟨below_less (below_drew HBw.out) hbase⟩
  have HRr : Aside0 (Kd.R kb 146 wr base (fun k => k ≠ gt) (.slice A2 bs.length c2) bs) := ⟨Kd.R_below HR.out HBw.out⟩
  have d1 : wr.cell? ⟨gt, 1, none⟩ = some (.slice A2 bs.length c2) := (blk_cell HTr.out 1).trans rfl
  by_cases hlt : k < bs.length
  ·have hkI : (k : Int) < (bs.length : Int) := by omega
   obtain ⟨ad, ea, h1, h2⟩ := kb_at (Kd.R_reads' HRr.out).2.2 k hlt
   subst ea
   have HL1 := Aside0.mk h1
   have HLD := Aside0.mk h2
   clear h1 h2
   go_wp2
   refine start_ (n := 9) (S := fun W => Below wr.heap.size wr W) (ds := []) #[false, false, false, false, false, false, false, false, false] (by kernel_rfl) (by kernel_rfl) (by rfl) (below_drew (Below.refl _ _)) (fun hS0 => ?_)
   refine pure_ (i := 0) (N := (some 14)) (v := ?_) (a' := ?_) #[true, false, false, false, false, false, false, false, false] rfl rfl (by kernel_rfl) (fun _ _ _ h => h) (Or.inl ⟨by rfl, ?_⟩) ?_ ?_
   rotate_left
   ·intro w'
    go_simp
    with_reducible rfl
   rotate_left
   ·simp only [Act.put, List.setIfInBounds_toArray, List.set_cons_zero, List.set_cons_succ]
    rfl
   refine pure_ (i := 1) (N := (some 15)) (v := ?_) (a' := ?_) #[true, true, false, false, false, false, false, false, false] rfl rfl (by kernel_rfl) (fun _ _ _ h => h) (Or.inl ⟨by rfl, ?_⟩) ?_ ?_
   rotate_left
   ·intro w'
    go_simp
    with_reducible rfl
   rotate_left
   ·simp only [Act.put, List.setIfInBounds_toArray, List.set_cons_zero, List.set_cons_succ]
    rfl
   refine pure_ (i := 2) (N := (some 16)) (v := ?_) (a' := ?_) #[true, true, true, false, false, false, false, false, false] rfl rfl (by kernel_rfl) (fun _ _ _ h => h) (Or.inl ⟨by rfl, ?_⟩) ?_ ?_
   rotate_left
   ·intro w'
    go_simp
    with_reducible rfl
   rotate_left
   ·simp only [Act.put, List.setIfInBounds_toArray, List.set_cons_zero, List.set_cons_succ]
    rfl
   refine take_ (i := 3) (N := (some 17)) (v := ?_) (a' := ?_) #[true, true, true, true, false, false, false, false, false] rfl rfl (by kernel_rfl) (fun _ _ _ h => h) (Or.inl ⟨by rfl, ?_⟩) hS0 ?_ ?_
   rotate_left
   ·intro w' s0
    have hx := (s0.cell (World.block_lt_of_cell? _ _ d1)).trans d1
    go_simp
    with_reducible rfl
   rotate_left
   ·simp only [Act.put, List.setIfInBounds_toArray, List.set_cons_zero, List.set_cons_succ]
    rfl
   refine pure_ (i := 4) (N := (some 18)) (v := ?_) (a' := ?_) #[true, true, true, true, true, false, false, false, false] rfl rfl (by kernel_rfl) (fun _ _ _ h => h) (Or.inl ⟨by rfl, ?_⟩) ?_ ?_
   rotate_left
   ·intro w'
    go_simp
    with_reducible rfl
   rotate_left
   ·simp only [Act.put, List.setIfInBounds_toArray, List.set_cons_zero, List.set_cons_succ]
    rfl
   refine pure_ (i := 5) (N := (some 19)) (v := ?_) (a' := ?_) #[true, true, true, true, true, true, false, false, false] rfl rfl (by kernel_rfl) (fun _ _ _ h => h) (Or.inl ⟨by rfl, ?_⟩) ?_ ?_
   rotate_left
   ·intro w'
    go_simp
    with_reducible rfl
   rotate_left
   ·simp only [Act.put, List.setIfInBounds_toArray, List.set_cons_zero, List.set_cons_succ]
    rfl
   refine take_ (i := 6) (N := (some 20)) (v := ?_) (a' := ?_) #[true, true, true, true, true, true, true, false, false] rfl rfl (by kernel_rfl) (fun _ _ _ h => h) (Or.inl ⟨by rfl, ?_⟩) hS0 ?_ ?_
   rotate_left
   ·intro w' s0
    refine exec_load (.tmp 19) (xs := bs.getD k []) (ad := ad.add (k * 128)) ?_ ?_ ?_
    ·rfl
    ·rfl
    ·exact load_mid (fun j v hv => by have hc := HLD.out j v hv; exact (s0.cell (World.block_lt_of_cell? _ _ hc)).trans hc) HL1.out
   rotate_left
   ·simp only [Act.put, List.setIfInBounds_toArray, List.set_cons_zero, List.set_cons_succ]
    rfl
   refine take_ (i := 7) (N := (some 21)) (v := ?_) (a' := ?_) #[true, true, true, true, true, true, true, true, false] rfl rfl (by kernel_rfl) (fun _ _ _ h => h) (Or.inl ⟨by rfl, ?_⟩) hS0 ?_ ?_
   rotate_left
   ·intro w' s0
    refine exec_load (.tmp 3) (xs := b) (ad := ⟨w.heap.size, 0, none⟩) ?_ ?_ ?_
    ·rfl
    ·rfl
    ·exact arr_load ((s0.block _ (blk_lt HXr.out)).trans HXr.out) HL.out
   rotate_left
   ·simp only [Act.put, List.setIfInBounds_toArray, List.set_cons_zero, List.set_cons_succ]
    rfl
   refine pure_ (i := 8) (N := (some 22)) (v := ?_) (a' := ?_) #[true, true, true, true, true, true, true, true, true] rfl rfl (by kernel_rfl) (fun _ _ _ h => h) (Or.inl ⟨by rfl, ?_⟩) ?_ ?_
   rotate_left
   ·intro w'
    refine exec_eql w' (.tmp 20) (.tmp 21) 146 (xs := bs.getD k []) (ys := b) ?_ ?_ ?_ HL1.out HL.out
    ·rfl
    ·rfl
    ·rfl
   rotate_left
   ·simp only [Act.put, List.setIfInBounds_toArray, List.set_cons_zero, List.set_cons_succ]
    rfl
   refine done_ (by kernel_rfl) ?_
   clear hS0
   by_cases heq : bs.getD k [] = b
   ·have hbb : (bs.getD k [] == b) = true := by simpa using heq
    have HEQ := Aside0.mk heq; clear heq
    rw [hbb]
    go_wp2
    go_ret
    exact ⟨k, bs, _, rfl, .inl rfl, hlt, HEQ.out, by rw [← HTr.out]; rfl, Kd.R_drew HRr.out, HBw.out.os, HBw.out.tape, HBw.out.output, HBw.out.size, fun j hj _ _ => HBw.out.block j hj⟩
   ·have hbb : (bs.getD k [] == b) = false := by simpa using heq
    clear heq
    rw [hbb]
    go_wp2
    exact ⟨⟨k + 1, by go_num, by omega, ⟨by obtain ⟨m, hm⟩ := HD.out; exact ⟨m + 1, by rw [hm]; rfl⟩⟩⟩, by simp [intOf]; omega⟩
  ·have hkI : ¬ ((k : Int) < (bs.length : Int)) := by omega
   go_wp2
   refine start_ (n := 11) (S := fun W => Below wr.heap.size wr W) (ds := [7, 10]) #[false, false, false, false, false, false, false, false, false, false, false] (by kernel_rfl) (by kernel_rfl) (by rfl) (below_drew (Below.refl _ _)) (fun hS0 => ?_)
   refine pure_ (i := 0) (N := (some 25)) (v := ?_) (a' := ?_) #[true, false, false, false, false, false, false, false, false, false, false] rfl rfl (by kernel_rfl) (fun _ _ _ h => h) (Or.inl ⟨by rfl, ?_⟩) ?_ ?_
   rotate_left
   ·intro w'
    go_simp
    with_reducible rfl
   rotate_left
   ·simp only [Act.put, List.setIfInBounds_toArray, List.set_cons_zero, List.set_cons_succ]
    rfl
   refine pure_ (i := 1) (N := (some 26)) (v := ?_) (a' := ?_) #[true, true, false, false, false, false, false, false, false, false, false] rfl rfl (by kernel_rfl) (fun _ _ _ h => h) (Or.inl ⟨by rfl, ?_⟩) ?_ ?_
   rotate_left
   ·intro w'
    go_simp
    with_reducible rfl
   rotate_left
   ·simp only [Act.put, List.setIfInBounds_toArray, List.set_cons_zero, List.set_cons_succ]
    rfl
   refine pure_ (i := 2) (N := (some 27)) (v := ?_) (a' := ?_) #[true, true, true, false, false, false, false, false, false, false, false] rfl rfl (by kernel_rfl) (fun _ _ _ h => h) (Or.inl ⟨by rfl, ?_⟩) ?_ ?_
   rotate_left
   ·intro w'
    go_simp
    with_reducible rfl
   rotate_left
   ·simp only [Act.put, List.setIfInBounds_toArray, List.set_cons_zero, List.set_cons_succ]
    rfl
   refine pure_ (i := 3) (N := (some 28)) (v := ?_) (a' := ?_) #[true, true, true, true, false, false, false, false, false, false, false] rfl rfl (by kernel_rfl) (fun _ _ _ h => h) (Or.inl ⟨by rfl, ?_⟩) ?_ ?_
   rotate_left
   ·intro w'
    go_simp
    with_reducible rfl
   rotate_left
   ·simp only [Act.put, List.setIfInBounds_toArray, List.set_cons_zero, List.set_cons_succ]
    rfl
   refine take_ (i := 4) (N := (some 29)) (v := ?_) (a' := ?_) #[true, true, true, true, true, false, false, false, false, false, false] rfl rfl (by kernel_rfl) (fun _ _ _ h => h) (Or.inl ⟨by rfl, ?_⟩) hS0 ?_ ?_
   rotate_left
   ·intro w' s0
    have hx := (s0.cell (World.block_lt_of_cell? _ _ d1)).trans d1
    go_simp
    with_reducible rfl
   rotate_left
   ·simp only [Act.put, List.setIfInBounds_toArray, List.set_cons_zero, List.set_cons_succ]
    rfl
   refine take_ (i := 5) (N := (some 30)) (v := ?_) (a' := ?_) #[true, true, true, true, true, true, false, false, false, false, false] rfl rfl (by kernel_rfl) (fun _ _ _ h => h) (Or.inl ⟨by rfl, ?_⟩) hS0 ?_ ?_
   rotate_left
   ·intro w' s0
    refine exec_load (.tmp 3) (xs := b) (ad := ⟨w.heap.size, 0, none⟩) ?_ ?_ ?_
    ·rfl
    ·rfl
    ·exact arr_load ((s0.block _ (blk_lt HXr.out)).trans HXr.out) HL.out
   rotate_left
   ·simp only [Act.put, List.setIfInBounds_toArray, List.set_cons_zero, List.set_cons_succ]
    rfl
   clear hS0
   refine one_ (i := 6) (N := (some 31)) #[true, true, true, true, true, true, true, false, false, false, false] rfl rfl (by kernel_rfl) (by decide) (fun K hK => ?_)
   refine value_ (w1 := wr.drew.alloc (.cells (vs b) 146)) (v := .slice (some ⟨wr.drew.heap.size, 0, none⟩) 1 1) (by rfl) rfl (build_one HL.out rfl rfl) ?_
   refine hK.out (Act.put _ (some 31) _) _ (below_alloc (below_drew (Below.refl _ _)) _) (fun hS0 => ?_)
   clear hK
   refine norm_ (a' := ?_) ?_ ?_
   rotate_left
   ·simp only [Act.put, List.setIfInBounds_toArray, List.set_cons_zero, List.set_cons_succ]
    rfl
   clear hS0
   refine last_ (i := 7) (N := (some 32)) #[true, true, true, true, true, true, true, true, false, false, false] rfl rfl (by kernel_rfl) (by decide) (fun K hK => ?_)
   refine Kd.R_append_step kb (w0 := w) base (by rfl) (.tmp 29) (.tmp 31) 140 146 (.agg (vs (evenL 0))) 1024 rfl Tryz.underlying140 info122b (by simp [vs, evenL, Value.cells]; rfl) (by decide) (by omega) (.slice A2 bs.length c2) bs b (vs b).toList (fun k => k ≠ gt) (fun _ => False) rfl rfl (kb_mk _ _ _ HL.out) (fun _ hk => hk.elim) (fun k hk => by have := blk_lt HTr.out; intro e; subst e; exact absurd hk (by show ¬ wr.drew.heap.size ≤ _; have h9 : wr.drew.heap.size = wr.heap.size := rfl; omega)) (Kd.R_drew HRr.out) HBd.out (Nat.le_trans hbase HBd.out.size) (by omega) ?_
   intro v3 w3 hv hb hg hat
   obtain ⟨A3, c3, rfl⟩ := Kd.R_slice hv
   have HV3 := Aside0.mk hv
   have HB3 := Aside0.mk hb
   have HG3 := Aside0.mk hg
   have HT3 : Aside0 (w3.heap[gt]? = some (.cells (tabCells vf (.slice A2 bs.length c2) n) 144 (0, 0))) := ⟨(hg.block _ (blk_lt HTr.out) (fun e => (Kd.R_away HRr.out (g := gt) (fun k hk => hk)) e)).trans HTr.out⟩
   clear hv hb hg hat
   refine hK.out (Act.put _ (some 32) _) _ ?_
   clear hK
   refine norm_ (a' := ?_) ?_ ?_
   rotate_left
   ·simp only [Act.put, List.setIfInBounds_toArray, List.set_cons_zero, List.set_cons_succ]
    rfl
   refine pure_ (i := 8) (N := (some 33)) (v := ?_) (a' := ?_) #[true, true, true, true, true, true, true, true, true, false, false] rfl rfl (by kernel_rfl) (fun _ _ _ h => h) (Or.inl ⟨by rfl, ?_⟩) ?_ ?_
   rotate_left
   ·intro w'
    go_simp
    with_reducible rfl
   rotate_left
   ·simp only [Act.put, List.setIfInBounds_toArray, List.set_cons_zero, List.set_cons_succ]
    rfl
   refine pure_ (i := 9) (N := (some 34)) (v := ?_) (a' := ?_) #[true, true, true, true, true, true, true, true, true, true, false] rfl rfl (by kernel_rfl) (fun _ _ _ h => h) (Or.inl ⟨by rfl, ?_⟩) ?_ ?_
   rotate_left
   ·intro w'
    go_simp
    with_reducible rfl
   rotate_left
   ·simp only [Act.put, List.setIfInBounds_toArray, List.set_cons_zero, List.set_cons_succ]
    rfl
   refine last_ (i := 10) (N := none) #[true, true, true, true, true, true, true, true, true, true, true] rfl rfl (by kernel_rfl) (by decide) (fun K hK => ?_)
   have e1 : w3.cell? ⟨gt, 1, none⟩ = some (.slice A2 bs.length c2) := (blk_cell HT3.out 1).trans rfl
   have e2 : w3.frozen? ⟨gt, 1, none⟩ = false := blk_frozen HT3.out 1
   refine skip_ (w1 := w3.setCell ⟨gt, 1, none⟩ (.slice A3 (bs ++ [b]).length c3)) (by rfl) rfl ?_ ?_
   ·go_simp
   refine hK.out _ _ ?_
   clear hK
   refine done_ (by kernel_rfl) ?_
   have HT4 : Aside0 ((w3.setCell ⟨gt, 1, none⟩ (.slice A3 (bs ++ [b]).length c3)).heap[gt]? = some (.cells (tabCells vf (.slice A3 (bs ++ [b]).length c3) n) 144 (0, 0))) := ⟨(blk_set HT3.out 1 _).trans rfl⟩
   have HV4 : Aside0 (Kd.R kb 146 (w3.setCell ⟨gt, 1, none⟩ (.slice A3 (bs ++ [b]).length c3)) base (fun k => k ≠ gt) (.slice A3 (bs ++ [b]).length c3) (bs ++ [b])) := ⟨Kd.R_far HV3.out (fun k hk => hk) _⟩
   have f1 : (w3.setCell ⟨gt, 1, none⟩ (.slice A3 (bs ++ [b]).length c3)).cell? ⟨gt, 1, none⟩ = some (.slice A3 (bs ++ [b]).length c3) := (blk_cell HT4.out 1).trans rfl
   have hln : (bs ++ [b]).length = bs.length + 1 := by simp
   rw [hln] at f1 HT4 HV4 ⊢
   clear d1 e1 e2
   go_wp2
   go_ret
   refine ⟨bs.length, bs ++ [b], _, by go_num, .inr rfl, by simp, by simp [List.getD_eq_getElem?_getD], HT4.out, HV4.out, ?_, ?_, ?_, ?_, fun j hj hne hno => ?_⟩
   ·exact HG3.out.os.trans HBw.out.os
   ·exact HG3.out.tape.trans HBw.out.tape
   ·exact HG3.out.output.trans HBw.out.output
   ·exact Nat.le_trans HBw.out.size (Nat.le_trans HG3.out.size (by simp [World.setCell]))
   ·rw [Below.heap_setCell w3 ⟨gt, 1, none⟩ _ j hne, HG3.out.block j (Nat.lt_of_lt_of_le hj HBw.out.size) hno]
    exact HBw.out.block j hj
end Go.Proofs.YtemhccjjcioodaaGreat.CTrie
end
section
namespace Go.Proofs.YtemhccjjcioodaaGreat.PEmbedJoins
open Go.RowKit Go.Proofs.YtemhccjjcioodaaGreatW.PrintWords Go.Proofs.YtemhccjjcioodaaGreatW.PrintLast Go.Proofs.YtemhccjjcioodaaGreatW.PrintMore
attribute [local go_sem] max2_int min2_int max_two min_two max_three min_three max_four min_four   -- for this text's walks alone
def trie_may.l0 : Nat → Int → List (S127) → Int → Int → Option (Int)
 | 0, _, _, _, _ => none
 | k + 1, x3, x9, x10, x11 => if x11 < x10 then (if 0 ≤ x11 then (if x11 < (x9.length : Int) then (if ((rd_T127 x9 x11).f0) ≤ x3 then (some 10) else (if ((rd_T127 x9 x11).f1) < ((rd_T127 x9 x11).f0) then (some 10) else (if ((rd_T127 x9 x11).f1) > 1114111 then (some 10) else (trie_may.l0 k ((rd_T127 x9 x11).f1) x9 x10 (wrap64 (x11 + 1)))))) else (none)) else (none)) else (some 0)
def trie_may.f (k : Nat) (l0 : List (S127)) : Option (Int) := if (l0.length : Int) > 4096 then (some 6) else (trie_may.l0 k (-1) l0 (l0.length : Int) 0)
set_option maxHeartbeats 8000000 in
set_option maxRecDepth 100000 in
theorem trie_may.calls (k : Nat) (A0 : Option Addr) (c0 : Nat) (l0 : List (S127)) (r : Int) (w : World) (hr0 : Kd.C k127 w A0 l0.length l0) (hc0 : l0.length ≤ c0) (h : trie_may.f k l0 = some r) :
 Calls Tryz.prog 111 #[.slice A0 l0.length c0] w fun e w' => e = .returned (.int .i64 r) ∧ Below w.heap.size w w' := by
 have hu127 := Tryz.underlying151
 have HR0 := Aside0.mk hr0
 have HC0 := Aside0.mk hc0
 clear hr0 hc0
 have HB := Aside0.mk (Below.refl w.heap.size w)
 have H : (if (l0.length : Int) > 4096 then (some 6) else (trie_may.l0 k (-1) l0 (l0.length : Int) 0)) = some r := h
 clear h
 by_cases c2 : (l0.length : Int) > 4096
 ·rw [if_pos c2] at H
  have c2b0 : decide (4096 < (l0.length : Int)) = true := decide_eq_true c2
  have c2b1 : decide (4096 < l0.length) = true := decide_eq_true (by omega)
  clear c2
  obtain rfl := Option.some.inj H
  go_enter Tryz.func111, Tryz.ntmps111
  go_wp2
  go_ret
  exact ⟨by first | rfl | (simp [errW_none, errW_some] <;> rfl) | (simp [*, errW_none, errW_some] <;> rfl), by repeat (first | (with_reducible first | exact HB.out | apply below_alloc | apply pw_below_drewN | apply below_drew1) | exact HB.out)⟩
 ·rw [if_neg c2] at H
  have c2b0 : decide (4096 < (l0.length : Int)) = false := decide_eq_false c2
  have c2b1 : decide (4096 < l0.length) = false := decide_eq_false (by omega)
  clear c2
  have H' := Aside0.mk H
  clear H
  go_enter Tryz.func111, Tryz.ntmps111
  go_wp2
  go_loopg [3, 11] k (fun kq v3 v11 w' => ∃ (x3_1 : Int) (x11_1 : Int), v3 = .int .i64 x3_1 ∧ v11 = .int .i64 x11_1 ∧ Aside0 (trie_may.l0 kq x3_1 l0 (l0.length : Int) x11_1 = some r) ∧ Aside0 (kq ≤ k) ∧ Aside0 (Below w.heap.size w w'))
  case atStart => exact ⟨((-1)), (0), (by first | rfl | (simp; done) | (simp [*]; done)), (by first | rfl | (simp; done) | (simp [*]; done)), H', ⟨Nat.le_refl _⟩, ⟨by repeat (first | (with_reducible first | exact HB.out | apply below_alloc | apply pw_below_drewN | apply below_drew1) | exact HB.out)⟩⟩
  case round =>
   clear H'
   try clear c1
   try clear c2
   try clear c2b0
   try clear c2b1
   try clear p2
   obtain ⟨x3_1, x11_1, rfl, rfl, HA, HK1, HB⟩ := hrel
   cases gk with
   | zero => exact absurd HA.out (by simp [trie_may.l0])
   | succ k1 =>
    have H := HA.out
    clear HA
    simp only [trie_may.l0] at H
    by_cases c3 : x11_1 < (l0.length : Int)
    ·rw [if_pos c3] at H
     have c3b0 : decide (x11_1 < (l0.length : Int)) = true := decide_eq_true c3
     clear c3
     by_cases c4 : 0 ≤ x11_1
     ·rw [if_pos c4] at H
      have c4b0 : decide (0 ≤ x11_1) = true := decide_eq_true c4
      clear c4
      by_cases c5 : x11_1 < (l0.length : Int)
      ·rw [if_pos c5] at H
       have c5b0 : decide (x11_1 < (l0.length : Int)) = true := decide_eq_true c5
       clear c5
       by_cases c6 : ((rd_T127 l0 x11_1).f0) ≤ x3_1
       ·rw [if_pos c6] at H
        have c6b0 : decide (((rd_T127 l0 x11_1).f0) ≤ x3_1) = true := decide_eq_true c6
        clear c6
        obtain rfl := Option.some.inj H
        have p103 : 0 ≤ (x11_1 : Int) := of_decide_eq_true (by first | (with_reducible assumption) | assumption)
        have q103 : x11_1 < (l0.length : Int) := of_decide_eq_true (by first | (with_reducible assumption) | assumption)
        obtain ⟨ad103, e103, hx103_0, hx103_1, hx103_2⟩ := at_T127 HR0.out x11_1 p103 q103
        cases e103
        replace hx103_0 := (HB.out.cell (World.block_lt_of_cell? w _ hx103_0)).trans hx103_0
        replace hx103_1 := (HB.out.cell (World.block_lt_of_cell? w _ hx103_1)).trans hx103_1
        replace hx103_2 := (HB.out.cell (World.block_lt_of_cell? w _ hx103_2)).trans hx103_2
        replace p103 := eq_true p103
        replace q103 := eq_true q103
        go_wp2_with (first | ((with_reducible refine gate_dst (N := 5) rfl ?_); refine box_event ?hg (N := 5) ?hd (cs := #[.int .i64 0, .int .i64 0, .int .i64 0]) (t := 151) ?hr ?_; (case hd => rfl); (case hg => rfl); (case hr => first | (go_simp; done) | (go_simp; rfl)); intro gb104 hg w7 hbox hb; have n0_ := Aside0.mk (below_step (by repeat (first | (with_reducible first | exact HB.out | apply below_alloc | apply pw_below_drewN | apply below_drew1) | exact HB.out)) hb); have n1_ := Aside0.mk (hbox); have n2_ := Aside0.mk ((by rw [hg]; exact (below_size (by repeat (first | (with_reducible first | exact HB.out | apply below_alloc | apply pw_below_drewN | apply below_drew1) | exact HB.out))) : w.heap.size ≤ gb104)); have n3_ := Aside0.mk ((by rw [hg]; exact (below_size (by repeat (first | (with_reducible first | exact HB.out | apply below_alloc | apply pw_below_drewN | apply below_drew1) | exact HB.out))) : w.heap.size ≤ gb104)); clear HB; have HB := n0_; have BK104 := n1_; have GW104 := n2_; have GE104 := n3_; clear n0_ n1_ n2_ n3_; clear hb hbox hg; have hcz8_0 : w7.cell? ⟨gb104, 0, none⟩ = some (.int .i64 0) := (blk_cell BK104.out 0).trans rfl; have hcz8_1 : w7.cell? ⟨gb104, 1, none⟩ = some (.int .i64 0) := (blk_cell BK104.out 1).trans rfl; have hcz8_2 : w7.cell? ⟨gb104, 2, none⟩ = some (.int .i64 0) := (blk_cell BK104.out 2).trans rfl; have hfz8_0 := blk_frozen BK104.out 0; have hfz8_1 := blk_frozen BK104.out 1; have hfz8_2 := blk_frozen BK104.out 2))
        go_ret
        exact ⟨by first | rfl | (simp [errW_none, errW_some] <;> rfl) | (simp [*, errW_none, errW_some] <;> rfl), by repeat (first | (with_reducible first | exact HB.out | apply below_alloc | apply pw_below_drewN | apply below_drew1 | refine below_set ?_ GE104.out) | exact HB.out)⟩
       ·rw [if_neg c6] at H
        have c6b0 : decide (((rd_T127 l0 x11_1).f0) ≤ x3_1) = false := decide_eq_false c6
        clear c6
        by_cases c9 : ((rd_T127 l0 x11_1).f1) < ((rd_T127 l0 x11_1).f0)
        ·rw [if_pos c9] at H
         have c9b0 : decide (((rd_T127 l0 x11_1).f1) < ((rd_T127 l0 x11_1).f0)) = true := decide_eq_true c9
         clear c9
         obtain rfl := Option.some.inj H
         have p103 : 0 ≤ (x11_1 : Int) := of_decide_eq_true (by first | (with_reducible assumption) | assumption)
         have q103 : x11_1 < (l0.length : Int) := of_decide_eq_true (by first | (with_reducible assumption) | assumption)
         obtain ⟨ad103, e103, hx103_0, hx103_1, hx103_2⟩ := at_T127 HR0.out x11_1 p103 q103
         cases e103
         replace hx103_0 := (HB.out.cell (World.block_lt_of_cell? w _ hx103_0)).trans hx103_0
         replace hx103_1 := (HB.out.cell (World.block_lt_of_cell? w _ hx103_1)).trans hx103_1
         replace hx103_2 := (HB.out.cell (World.block_lt_of_cell? w _ hx103_2)).trans hx103_2
         replace p103 := eq_true p103
         replace q103 := eq_true q103
         go_wp2_with (first | ((with_reducible refine gate_dst (N := 5) rfl ?_); refine box_event ?hg (N := 5) ?hd (cs := #[.int .i64 0, .int .i64 0, .int .i64 0]) (t := 151) ?hr ?_; (case hd => rfl); (case hg => rfl); (case hr => first | (go_simp; done) | (go_simp; rfl)); intro gb104 hg w10 hbox hb; have n0_ := Aside0.mk (below_step (by repeat (first | (with_reducible first | exact HB.out | apply below_alloc | apply pw_below_drewN | apply below_drew1) | exact HB.out)) hb); have n1_ := Aside0.mk (hbox); have n2_ := Aside0.mk ((by rw [hg]; exact (below_size (by repeat (first | (with_reducible first | exact HB.out | apply below_alloc | apply pw_below_drewN | apply below_drew1) | exact HB.out))) : w.heap.size ≤ gb104)); have n3_ := Aside0.mk ((by rw [hg]; exact (below_size (by repeat (first | (with_reducible first | exact HB.out | apply below_alloc | apply pw_below_drewN | apply below_drew1) | exact HB.out))) : w.heap.size ≤ gb104)); clear HB; have HB := n0_; have BK104 := n1_; have GW104 := n2_; have GE104 := n3_; clear n0_ n1_ n2_ n3_; clear hb hbox hg; have hcz11_0 : w10.cell? ⟨gb104, 0, none⟩ = some (.int .i64 0) := (blk_cell BK104.out 0).trans rfl; have hcz11_1 : w10.cell? ⟨gb104, 1, none⟩ = some (.int .i64 0) := (blk_cell BK104.out 1).trans rfl; have hcz11_2 : w10.cell? ⟨gb104, 2, none⟩ = some (.int .i64 0) := (blk_cell BK104.out 2).trans rfl; have hfz11_0 := blk_frozen BK104.out 0; have hfz11_1 := blk_frozen BK104.out 1; have hfz11_2 := blk_frozen BK104.out 2))
         go_ret
         exact ⟨by first | rfl | (simp [errW_none, errW_some] <;> rfl) | (simp [*, errW_none, errW_some] <;> rfl), by repeat (first | (with_reducible first | exact HB.out | apply below_alloc | apply pw_below_drewN | apply below_drew1 | refine below_set ?_ GE104.out) | exact HB.out)⟩
        ·rw [if_neg c9] at H
         have c9b0 : decide (((rd_T127 l0 x11_1).f1) < ((rd_T127 l0 x11_1).f0)) = false := decide_eq_false c9
         clear c9
         by_cases c12 : ((rd_T127 l0 x11_1).f1) > 1114111
         ·rw [if_pos c12] at H
          have c12b0 : decide (1114111 < ((rd_T127 l0 x11_1).f1)) = true := decide_eq_true c12
          clear c12
          obtain rfl := Option.some.inj H
          have p103 : 0 ≤ (x11_1 : Int) := of_decide_eq_true (by first | (with_reducible assumption) | assumption)
          have q103 : x11_1 < (l0.length : Int) := of_decide_eq_true (by first | (with_reducible assumption) | assumption)
          obtain ⟨ad103, e103, hx103_0, hx103_1, hx103_2⟩ := at_T127 HR0.out x11_1 p103 q103
          cases e103
          replace hx103_0 := (HB.out.cell (World.block_lt_of_cell? w _ hx103_0)).trans hx103_0
          replace hx103_1 := (HB.out.cell (World.block_lt_of_cell? w _ hx103_1)).trans hx103_1
          replace hx103_2 := (HB.out.cell (World.block_lt_of_cell? w _ hx103_2)).trans hx103_2
          replace p103 := eq_true p103
          replace q103 := eq_true q103
          go_wp2_with (first | ((with_reducible refine gate_dst (N := 5) rfl ?_); refine box_event ?hg (N := 5) ?hd (cs := #[.int .i64 0, .int .i64 0, .int .i64 0]) (t := 151) ?hr ?_; (case hd => rfl); (case hg => rfl); (case hr => first | (go_simp; done) | (go_simp; rfl)); intro gb104 hg w13 hbox hb; have n0_ := Aside0.mk (below_step (by repeat (first | (with_reducible first | exact HB.out | apply below_alloc | apply pw_below_drewN | apply below_drew1) | exact HB.out)) hb); have n1_ := Aside0.mk (hbox); have n2_ := Aside0.mk ((by rw [hg]; exact (below_size (by repeat (first | (with_reducible first | exact HB.out | apply below_alloc | apply pw_below_drewN | apply below_drew1) | exact HB.out))) : w.heap.size ≤ gb104)); have n3_ := Aside0.mk ((by rw [hg]; exact (below_size (by repeat (first | (with_reducible first | exact HB.out | apply below_alloc | apply pw_below_drewN | apply below_drew1) | exact HB.out))) : w.heap.size ≤ gb104)); clear HB; have HB := n0_; have BK104 := n1_; have GW104 := n2_; have GE104 := n3_; clear n0_ n1_ n2_ n3_; clear hb hbox hg; have hcz14_0 : w13.cell? ⟨gb104, 0, none⟩ = some (.int .i64 0) := (blk_cell BK104.out 0).trans rfl; have hcz14_1 : w13.cell? ⟨gb104, 1, none⟩ = some (.int .i64 0) := (blk_cell BK104.out 1).trans rfl; have hcz14_2 : w13.cell? ⟨gb104, 2, none⟩ = some (.int .i64 0) := (blk_cell BK104.out 2).trans rfl; have hfz14_0 := blk_frozen BK104.out 0; have hfz14_1 := blk_frozen BK104.out 1; have hfz14_2 := blk_frozen BK104.out 2))
          go_ret
          exact ⟨by first | rfl | (simp [errW_none, errW_some] <;> rfl) | (simp [*, errW_none, errW_some] <;> rfl), by repeat (first | (with_reducible first | exact HB.out | apply below_alloc | apply pw_below_drewN | apply below_drew1 | refine below_set ?_ GE104.out) | exact HB.out)⟩
         ·rw [if_neg c12] at H
          have c12b0 : decide (1114111 < ((rd_T127 l0 x11_1).f1)) = false := decide_eq_false c12
          clear c12
          have H' := Aside0.mk H
          clear H
          have p103 : 0 ≤ (x11_1 : Int) := of_decide_eq_true (by first | (with_reducible assumption) | assumption)
          have q103 : x11_1 < (l0.length : Int) := of_decide_eq_true (by first | (with_reducible assumption) | assumption)
          obtain ⟨ad103, e103, hx103_0, hx103_1, hx103_2⟩ := at_T127 HR0.out x11_1 p103 q103
          cases e103
          replace hx103_0 := (HB.out.cell (World.block_lt_of_cell? w _ hx103_0)).trans hx103_0
          replace hx103_1 := (HB.out.cell (World.block_lt_of_cell? w _ hx103_1)).trans hx103_1
          replace hx103_2 := (HB.out.cell (World.block_lt_of_cell? w _ hx103_2)).trans hx103_2
          replace p103 := eq_true p103
          replace q103 := eq_true q103
          go_wp2_with (first | ((with_reducible refine gate_dst (N := 5) rfl ?_); refine box_event ?hg (N := 5) ?hd (cs := #[.int .i64 0, .int .i64 0, .int .i64 0]) (t := 151) ?hr ?_; (case hd => rfl); (case hg => rfl); (case hr => first | (go_simp; done) | (go_simp; rfl)); intro gb104 hg w15 hbox hb; have n0_ := Aside0.mk (below_step (by repeat (first | (with_reducible first | exact HB.out | apply below_alloc | apply pw_below_drewN | apply below_drew1) | exact HB.out)) hb); have n1_ := Aside0.mk (hbox); have n2_ := Aside0.mk ((by rw [hg]; exact (below_size (by repeat (first | (with_reducible first | exact HB.out | apply below_alloc | apply pw_below_drewN | apply below_drew1) | exact HB.out))) : w.heap.size ≤ gb104)); have n3_ := Aside0.mk ((by rw [hg]; exact (below_size (by repeat (first | (with_reducible first | exact HB.out | apply below_alloc | apply pw_below_drewN | apply below_drew1) | exact HB.out))) : w.heap.size ≤ gb104)); clear HB; have HB := n0_; have BK104 := n1_; have GW104 := n2_; have GE104 := n3_; clear n0_ n1_ n2_ n3_; clear hb hbox hg; have hcz16_0 : w15.cell? ⟨gb104, 0, none⟩ = some (.int .i64 0) := (blk_cell BK104.out 0).trans rfl; have hcz16_1 : w15.cell? ⟨gb104, 1, none⟩ = some (.int .i64 0) := (blk_cell BK104.out 1).trans rfl; have hcz16_2 : w15.cell? ⟨gb104, 2, none⟩ = some (.int .i64 0) := (blk_cell BK104.out 2).trans rfl; have hfz16_0 := blk_frozen BK104.out 0; have hfz16_1 := blk_frozen BK104.out 1; have hfz16_2 := blk_frozen BK104.out 2))
          go_roundg k1
          case measure => have := HK1.out; omega
          case rel => exact ⟨((rd_T127 l0 x11_1).f1), (wrap64 (x11_1 + 1)), (by first | rfl | (simp; done) | (simp [*]; done)), (by first | rfl | (simp; done) | (simp [*]; done)), H', ⟨by have := HK1.out; omega⟩, ⟨by repeat (first | (with_reducible first | exact HB.out | apply below_alloc | apply pw_below_drewN | apply below_drew1 | refine below_set ?_ GE104.out) | exact HB.out)⟩⟩
      ·rw [if_neg c5] at H
       exact absurd H (by simp)
     ·rw [if_neg c4] at H
      exact absurd H (by simp)
    ·rw [if_neg c3] at H
     have c3b0 : decide (x11_1 < (l0.length : Int)) = false := decide_eq_false c3
     clear c3
     obtain rfl := Option.some.inj H
     go_wp2
     go_ret
     exact ⟨by first | rfl | (simp [errW_none, errW_some] <;> rfl) | (simp [*, errW_none, errW_some] <;> rfl), by repeat (first | (with_reducible first | exact HB.out | apply below_alloc | apply pw_below_drewN | apply below_drew1) | exact HB.out)⟩
end Go.Proofs.YtemhccjjcioodaaGreat.PEmbedJoins
end
section
namespace Go.Proofs.YtemhccjjcioodaaGreat.PResolveLine
open Go.RowKit Go.Proofs.YtemhccjjcioodaaGreatW.PrintWords Go.Proofs.YtemhccjjcioodaaGreatW.PrintLast Go.Proofs.YtemhccjjcioodaaGreatW.PrintMore
attribute [local go_sem] max2_int min2_int max_two min_two max_three min_three max_four min_four   -- for this text's walks alone
def slices_Equal_int_int.l0 : Nat → List Int → List Int → Int → Int → Option (Bool)
 | 0, _, _, _, _ => none
 | k + 1, x0, x1, x12, x13 => if x13 < x12 then (if 0 ≤ x13 then (if x13 < (x0.length : Int) then (if x13 < (x1.length : Int) then (if (rd x0 x13) = (rd x1 x13) then (slices_Equal_int_int.l0 k x0 x1 x12 (wrap64 (x13 + 1))) else (some false)) else (none)) else (none)) else (none)) else (some true)
def slices_Equal_int_int.f (k : Nat) (l0 : List Int) (l1 : List Int) : Option (Bool) := if (l0.length : Int) = (l1.length : Int) then (slices_Equal_int_int.l0 k l0 l1 (l0.length : Int) 0) else (some false)
set_option maxHeartbeats 8000000 in
set_option maxRecDepth 100000 in
theorem slices_Equal_int_int.calls (k : Nat) (A0 : Option Addr) (c0 : Nat) (l0 : List Int) (A1 : Option Addr) (c1 : Nat) (l1 : List Int) (r : Bool) (w : World) (hr0 : Kd.C (Kd.int .i64) w A0 l0.length l0) (hc0 : l0.length ≤ c0) (hr1 : Kd.C (Kd.int .i64) w A1 l1.length l1) (hc1 : l1.length ≤ c1) (h : slices_Equal_int_int.f k l0 l1 = some r) :
 Calls Tryz.prog 17 #[.slice A0 l0.length c0, .slice A1 l1.length c1] w fun e w' => e = .returned (.bool r) ∧ Drawn0 w w' := by
 have HR0 := Aside0.mk hr0
 have HC0 := Aside0.mk hc0
 clear hr0 hc0
 have HR1 := Aside0.mk hr1
 have HC1 := Aside0.mk hc1
 clear hr1 hc1
 have H : (if (l0.length : Int) = (l1.length : Int) then (slices_Equal_int_int.l0 k l0 l1 (l0.length : Int) 0) else (some false)) = some r := h
 clear h
 by_cases c3 : (l0.length : Int) = (l1.length : Int)
 ·rw [if_pos c3] at H
  have c3b0 : ((l0.length : Int) == (l1.length : Int)) = true := beq_iff_eq.mpr c3
  have c3b1 : ((l0.length : Int) != (l1.length : Int)) = false := bne_eq_false_iff_eq.mpr c3
  have c3b2 : (l0.length == l1.length) = true := by first | simpa using c3 | (simp at c3 ⊢; omega)
  clear c3
  have H' := Aside0.mk H
  clear H
  go_enter Tryz.func17, Tryz.ntmps17
  go_wp2
  repeat (go_quiet (fail); try go_wp2)
  go_loopg [13] k (fun kq v13 w' => ∃ (x13_1 : Int), v13 = .int .i64 x13_1 ∧ Aside0 (slices_Equal_int_int.l0 kq l0 l1 (l0.length : Int) x13_1 = some r) ∧ Aside0 (kq ≤ k) ∧ Drawn0 w w')
  case atStart => exact ⟨(0), (by first | rfl | (simp; done) | (simp [*]; done)), H', ⟨Nat.le_refl _⟩, by repeat (first | exact Drawn0.refl _ | apply Drawn0.step)⟩
  case round =>
   clear H'
   try clear c1
   try clear c2
   try clear p2
   try clear c3
   try clear c3b0
   try clear c3b1
   try clear c3b2
   obtain ⟨x13_1, rfl, HA, HK1, ⟨m1, rfl⟩⟩ := hrel
   cases gk with
   | zero => exact absurd HA.out (by simp [slices_Equal_int_int.l0])
   | succ k1 =>
    have H := HA.out
    clear HA
    simp only [slices_Equal_int_int.l0] at H
    by_cases c4 : x13_1 < (l0.length : Int)
    ·rw [if_pos c4] at H
     have c4b0 : decide (x13_1 < (l0.length : Int)) = true := decide_eq_true c4
     clear c4
     by_cases c5 : 0 ≤ x13_1
     ·rw [if_pos c5] at H
      have c5b0 : decide (0 ≤ x13_1) = true := decide_eq_true c5
      clear c5
      by_cases c6 : x13_1 < (l0.length : Int)
      ·rw [if_pos c6] at H
       have c6b0 : decide (x13_1 < (l0.length : Int)) = true := decide_eq_true c6
       clear c6
       by_cases c7 : x13_1 < (l1.length : Int)
       ·rw [if_pos c7] at H
        have c7b0 : decide (x13_1 < (l1.length : Int)) = true := decide_eq_true c7
        clear c7
        by_cases c8 : (rd l0 x13_1) = (rd l1 x13_1)
        ·rw [if_pos c8] at H
         have c8b0 : ((rd l0 x13_1) == (rd l1 x13_1)) = true := beq_iff_eq.mpr c8
         have c8b1 : ((rd l0 x13_1) != (rd l1 x13_1)) = false := bne_eq_false_iff_eq.mpr c8
         clear c8
         have H' := Aside0.mk H
         clear H
         have p101 : 0 ≤ (x13_1 : Int) := of_decide_eq_true (by first | (with_reducible assumption) | assumption)
         have q101 : x13_1 < (l0.length : Int) := of_decide_eq_true (by first | (with_reducible assumption) | assumption)
         obtain ⟨ad101, e101, hx101_0⟩ := Kd.at_int HR0.out x13_1 p101 q101
         cases e101
         replace p101 := eq_true p101
         replace q101 := eq_true q101
         have p102 : 0 ≤ (x13_1 : Int) := of_decide_eq_true (by first | (with_reducible assumption) | assumption)
         have q102 : x13_1 < (l1.length : Int) := of_decide_eq_true (by first | (with_reducible assumption) | assumption)
         obtain ⟨ad102, e102, hx102_0⟩ := Kd.at_int HR1.out x13_1 p102 q102
         cases e102
         replace p102 := eq_true p102
         replace q102 := eq_true q102
         go_wp2
         repeat (go_quiet (fail); try go_wp2)
         go_roundg k1
         case measure => have := HK1.out; omega
         case rel => exact ⟨(wrap64 (x13_1 + 1)), (by first | rfl | (simp; done) | (simp [*]; done)), H', ⟨by have := HK1.out; omega⟩, by repeat (first | exact Drawn0.refl _ | apply Drawn0.step)⟩
        ·rw [if_neg c8] at H
         have c8b0 : ((rd l0 x13_1) == (rd l1 x13_1)) = false := beq_eq_false_iff_ne.mpr c8
         have c8b1 : ((rd l0 x13_1) != (rd l1 x13_1)) = true := bne_iff_ne.mpr c8
         obtain rfl := Option.some.inj H
         have p101 : 0 ≤ (x13_1 : Int) := of_decide_eq_true (by first | (with_reducible assumption) | assumption)
         have q101 : x13_1 < (l0.length : Int) := of_decide_eq_true (by first | (with_reducible assumption) | assumption)
         obtain ⟨ad101, e101, hx101_0⟩ := Kd.at_int HR0.out x13_1 p101 q101
         cases e101
         replace p101 := eq_true p101
         replace q101 := eq_true q101
         have p102 : 0 ≤ (x13_1 : Int) := of_decide_eq_true (by first | (with_reducible assumption) | assumption)
         have q102 : x13_1 < (l1.length : Int) := of_decide_eq_true (by first | (with_reducible assumption) | assumption)
         obtain ⟨ad102, e102, hx102_0⟩ := Kd.at_int HR1.out x13_1 p102 q102
         cases e102
         replace p102 := eq_true p102
         replace q102 := eq_true q102
         go_wp2
         repeat (go_quiet (fail); try go_wp2)
         go_ret
         exact ⟨by first | rfl | (simp; done) | (simp [*]; done), by repeat (first | exact Drawn0.refl _ | apply Drawn0.step)⟩
       ·rw [if_neg c7] at H
        exact absurd H (by simp)
      ·rw [if_neg c6] at H
       exact absurd H (by simp)
     ·rw [if_neg c5] at H
      exact absurd H (by simp)
    ·rw [if_neg c4] at H
     have c4b0 : decide (x13_1 < (l0.length : Int)) = false := decide_eq_false c4
     clear c4
     obtain rfl := Option.some.inj H
     go_wp2
     repeat (go_quiet (fail); try go_wp2)
     go_ret
     exact ⟨by first | rfl | (simp; done) | (simp [*]; done), by repeat (first | exact Drawn0.refl _ | apply Drawn0.step)⟩
 ·rw [if_neg c3] at H
  have c3b0 : ((l0.length : Int) == (l1.length : Int)) = false := beq_eq_false_iff_ne.mpr c3
  have c3b1 : ((l0.length : Int) != (l1.length : Int)) = true := bne_iff_ne.mpr c3
  have c3b2 : (l0.length == l1.length) = false := by first | simpa using c3 | (simp at c3 ⊢; omega)
  obtain rfl := Option.some.inj H
  go_enter Tryz.func17, Tryz.ntmps17
  go_wp2
  repeat (go_quiet (fail); try go_wp2)
  go_ret
  exact ⟨by first | rfl | (simp; done) | (simp [*]; done), by repeat (first | exact Drawn0.refl _ | apply Drawn0.step)⟩
end Go.Proofs.YtemhccjjcioodaaGreat.PResolveLine
end
section
namespace Go.Proofs.YtemhccjjcioodaaGreat.CBase
open Go.RowKit Go.Proofs.YtemhccjjcioodaaGreat.PResolveLine Go.Proofs.YtemhccjjcioodaaGreatW.PrintWords Go.Proofs.YtemhccjjcioodaaGreatW.PrintLast Go.Proofs.YtemhccjjcioodaaGreat.U
theorem equal_loop (xs ys : List Int) (hl : xs.length = ys.length) (hm : xs.length ≤ 1000000000000) (d : Nat) : ∀ i : Nat, i + d = xs.length →
 Ev (fun k => slices_Equal_int_int.l0 k xs ys (xs.length : Int) (i : Int)) (decide (xs.drop i = ys.drop i)) := by
 induction d with
 | zero =>
  intro i hi
  refine Ev.step (fun k => by rw [slices_Equal_int_int.l0]) ?_
  refine ev_neg (by omega) (ev_eq (ev_now _) ?_)
  rw [List.drop_of_length_le (by omega), List.drop_of_length_le (by omega)]
  simp
 | succ d ih =>
  intro i hi
  refine Ev.step (fun k => by rw [slices_Equal_int_int.l0]) ?_
  refine ev_pos (by omega) (ev_pos (by omega) (ev_pos (by omega) (ev_pos (by omega) ?_)))
  rw [rd_get (show i < xs.length by omega), rd_get (show i < ys.length by omega), List.drop_eq_getElem_cons (l := xs) (show i < xs.length by omega), List.drop_eq_getElem_cons (l := ys) (show i < ys.length by omega)]
  refine ev_ite (fun h => ?_) (fun h => ?_)
  ·rw [w64 (by omega) (by omega)]
   refine ev_eq (ih (i + 1) (by omega)) ?_
   simp only [List.cons.injEq, h, true_and]
  ·refine ev_eq (ev_now _) ?_
   simp only [List.cons.injEq, h, false_and, decide_false]
theorem equal_ev (xs ys : List Int) (hm : xs.length ≤ 1000000000000) : Ev (fun k => slices_Equal_int_int.f k xs ys) (decide (xs = ys)) := by
 unfold slices_Equal_int_int.f
 refine ev_ite (fun h => ?_) (fun h => ?_)
 ·simpa using equal_loop xs ys (by omega) hm xs.length 0 (by omega)
 ·refine ev_eq (ev_now _) ?_
  symm
  rw [decide_eq_false_iff_not]
  rintro rfl
  exact h rfl
theorem equal_c {u v : Value} {xs ys : List Int} {w : World} (h1 : SL w u xs) (h2 : SL w v ys) (hm : xs.length ≤ 1000000000000) :
 Calls Tryz.prog 17 #[u, v] w fun e w' => e = .returned (.bool (decide (xs = ys))) ∧ Below w.heap.size w w' := by
 obtain ⟨A, c, rfl, hc, h1⟩ := h1
 obtain ⟨B, d, rfl, hd, h2⟩ := h2
 obtain ⟨k, hk⟩ := (equal_ev xs ys hm).rounds
 exact (slices_Equal_int_int.calls k A c xs B d ys _ w h1 hc h2 hd hk).mono fun e w' h => ⟨h.1, h.2.below⟩
theorem SL_lit (w : World) (t : TypeId) (xs : List Int) (hm : xs.length ≤ 1000000) : SL (w.alloc (.cells (xs.map (Value.int .i64)).toArray t)) (.slice (some ⟨w.heap.size, 0, none⟩) xs.length xs.length) xs := by
 refine ⟨_, _, rfl, Nat.le_refl _, ?_⟩
 refine Kd.C_of_reads (d := (0 : Int)) (h1 := fun _ => rfl) ⟨rfl, by omega, fun _ => ⟨_, rfl, fun j hj => ?_⟩⟩
 rw [add_plain, World.cell?_alloc_new]
 simp [List.getElem?_eq_getElem hj, List.getD_eq_getElem?_getD]
end Go.Proofs.YtemhccjjcioodaaGreat.CBase
namespace Go.Proofs.YtemhccjjcioodaaGreat.CSlices
open Go.RowKit Go.Proofs.YtemhccjjcioodaaGreatW.PrintWords Go.Proofs.YtemhccjjcioodaaGreatW.PrintMore Go.Proofs.YtemhccjjcioodaaGreat.U Go.Proofs.YtemhccjjcioodaaGreat.CBase
theorem info3 : (Tryz.prog.info? 3).map (fun i => (i.zero, i.size, i.bytes)) = some (some (.int .i64 0), 1, 8) := by kernel_rfl
abbrev SLs (w : World) (v : Value) (xss : List (List Int)) : Prop := SLk (Kd.slice 3 (Kd.int .i64)) w v xss
theorem SLs.at_ {w : World} {v : Value} {xss : List (List Int)} (h : SLs w v xss) (i : Nat) (h1 : i < xss.length) : ∃ ad c, v = .slice (some ad) xss.length c ∧ ∃ A0 c0, w.cell? (ad.add i) = some (.slice A0 (xss.getD i []).length c0) ∧ SL w (.slice A0 (xss.getD i []).length c0) (xss.getD i []) := by
 obtain ⟨A, c, rfl, hc, h⟩ := h
 obtain ⟨ad, cs, e, _, hK, hcell⟩ := Kd.C_get h ([] : List Int) i (by omega) (by omega)
 have hcell' : ∀ j u, cs[j]? = some u → w.cell? (ad.add (i * 1 + j)) = some u := hcell
 obtain ⟨A0, c0, rfl, l0, g0⟩ := hK
 subst e
 refine ⟨ad, c, rfl, A0, c0, ?_, ⟨A0, c0, rfl, l0, g0⟩⟩
 have := hcell' 0 _ rfl
 simpa using this
theorem SLk.alloc {α : Type} {d : Kd α} {w : World} {v : Value} {xs : List α} (h : SLk d w v xs) (o : Obj) : SLk d (w.alloc o) v xs := SLk.below h (below_alloc (Below.refl _ _) o)
end Go.Proofs.YtemhccjjcioodaaGreat.CSlices
end
section
namespace Go.Proofs.YtemhccjjcioodaaGreat.CTrie
open Go.RowKit Go.Proofs.YtemhccjjcioodaaGreatW.PrintWords Go.Proofs.YtemhccjjcioodaaGreatW.PrintMore Go.Proofs.YtemhccjjcioodaaGreatW.PrintLast Go.Proofs.YtemhccjjcioodaaGreat.U Go.Proofs.YtemhccjjcioodaaGreat.CBase Go.Proofs.YtemhccjjcioodaaGreat.UTrie Go.Proofs.YtemhccjjcioodaaGreat.PEmbedJoins
theorem rd127_get {l : List S127} {i : Nat} (h : i < l.length) : rd_T127 l (i : Int) = l[i] := by
 show l.getD i z127 = _
 rw [List.getD_eq_getElem?_getD, List.getElem?_eq_getElem h]; rfl
theorem may_loop (l : List S127) (ok : Ok l) (hm : l.length ≤ 4096) (n : Nat) : ∀ (i : Nat) (last : Int), i + n = l.length → (∀ (h : i < l.length), last < l[i].f0) → Ev (fun k => trie_may.l0 k last l (l.length : Int) i) 0 := by
 induction n with
 | zero =>
  intro i last hi _
  refine Ev.step (fun k => by rw [trie_may.l0]) ?_
  exact ev_neg (by omega) (ev_now _)
 | succ n ih =>
  intro i last hi hl
  have hlt : i < l.length := by omega
  have hr := ok.right _ (List.getElem_mem hlt)
  have hll := hl hlt
  refine Ev.step (fun k => by rw [trie_may.l0]) (ev_pos (by omega) (ev_pos (by omega) (ev_pos (by omega) ?_)))
  rw [rd127_get hlt]
  refine ev_neg (by omega) (ev_neg (by omega) (ev_neg (by omega) ?_))
  rw [w64 (by omega) (by omega)]
  exact ih (i + 1) _ (by omega) (fun h => lo_behind l ok i (i + 1) hlt h (by omega))
theorem may_ev (l : List S127) (ok : Ok l) (hm : l.length ≤ 4096) : Ev (fun k => trie_may.f k l) 0 := by
 refine ev_neg (by omega) ?_
 exact may_loop l ok hm l.length 0 (-1) (by omega) (fun h => by have := ok.right _ (List.getElem_mem h); omega)
section
variable {o : Oper} {rest : List Oper} {ops : Array Oper} {a : Act} {Q : Exit → Act → World → Prop} {w : World}
theorem arr_load_armG {g : Nat} {xs : List Int} (hw : Region.wanted o (yielded ops a.tmps) = true) (x : Operand) (ho : o.op = .load 146 x) (hx : a.eval x = .pointer (some ⟨g, 0, none⟩)) (h : Arr w g xs) (hl : xs.length = 128)
 (hk : wpList Tryz.prog ops Q rest (a.put o.dst (.agg (vs xs))) w) : wpList Tryz.prog ops Q (o :: rest) a w := by
 refine wpList_step fun K hK => ?_
 rw [if_pos hw]
 unfold Oper.wp
 rw [exec_load x ho hx (arr_load h hl)]
 exact hK _ _ hk
theorem exec_neq (w : World) (x y : Operand) (t : TypeId) (ho : o.op = .binOp .neq 146 x y t) {xs ys : List Int} (hx : a.eval x = .agg (vs xs)) (hy : a.eval y = .agg (vs ys)) (hl : xs.length = 128) (hl2 : ys.length = 128) :
 (execOp a.eval o).run Tryz.prog w = .ok (.value (.bool (!(xs == ys)))) w := by
 have hn : (binOp .neq 146 (.agg (vs xs)) (.agg (vs ys))).run Tryz.prog w = .ok (.bool (!(xs == ys))) w := by
  rw [run_neq_struct, run_equalIn_ints w 9998 xs ys hl hl2]
  rfl
 unfold execOp
 simp [ho, hx, hy, eqGuard, guard122, hn]
theorem arr_neq_armG {xs ys : List Int} (hw : Region.wanted o (yielded ops a.tmps) = true) (x y : Operand) (t : TypeId) (ho : o.op = .binOp .neq 146 x y t) (hx : a.eval x = .agg (vs xs)) (hy : a.eval y = .agg (vs ys)) (hl : xs.length = 128) (hl2 : ys.length = 128)
 (hk : wpList Tryz.prog ops Q rest (a.put o.dst (.bool (!(xs == ys)))) w) : wpList Tryz.prog ops Q (o :: rest) a w := by
 refine wpList_step fun K hK => ?_
 rw [if_pos hw]
 unfold Oper.wp
 rw [exec_neq w x y t ho hx hy hl hl2]
 exact hK _ _ hk
end
theorem exec_store {o : Oper} {a : Act} {w : World} {g : Nat} {old ys : List Int} (x y : Operand) (ho : o.op = .store 146 x y) (hx : a.eval x = .pointer (some ⟨g, 0, none⟩)) (hy : a.eval y = .agg (vs ys)) (h : Arr w g old) (hl : old.length = 128) (hl2 : ys.length = 128) :
 (execOp a.eval o).run Tryz.prog w = .ok .skip (w.setRow g (vs ys)) := by
 have hst : (storeVar 146 ⟨g, 0, none⟩ (.agg (vs ys))).run Tryz.prog w = .ok () (w.setRow g (vs ys)) :=
  run_storeVar_row w g 146 146 (vs old) (vs ys) h (by rw [info122, vs_size, hl2]) (by rw [vs_size, vs_size, hl, hl2]) (by simp [vs, Value.oneCell'])
 unfold execOp
 simp [ho, hx, hy, Instr.storeAt, Instr.sureAddr, hst]
theorem grown_setRow (w : World) (g : Nat) (cs : Array Value) : w.grownBy (w.setRow g cs) (some g) := ⟨rfl, rfl, rfl, by simp, fun k _ hne => setRow_other w g k _ (fun e => hne (by rw [e]))⟩
theorem tab_next {l : List S127} {n : Int} {first : List Int} {second sec2 : List (List Int)} {p i : Nat} (h : Tab l n first second p) (hp : p < 8704) (hs : sec2 = second ∨ sec2 = second ++ [blockL l n p]) (hi : i < sec2.length) (hb : sec2.getD i [] = blockL l n p) : Tab l n (first.set p i) sec2 (p + 1) := by
 refine ⟨by rw [List.length_set]; exact h.len, ?_, fun q hq => ?_⟩
 ·have := h.small
  rcases hs with rfl | rfl
  ·omega
  ·simp; omega
 ·by_cases e : q = p
  ·subst e
   refine ⟨i, hi, ?_, hb⟩
   rw [List.getD_eq_getElem?_getD, List.getElem?_set_self (by rw [h.len]; exact hp)]
   rfl
  ·obtain ⟨j, hj, h1, h2⟩ := h.each q (by omega)
   refine ⟨j, ?_, ?_, ?_⟩
   ·rcases hs with rfl | rfl
    ·exact hj
    ·simp; omega
   ·rw [List.getD_eq_getElem?_getD, List.getElem?_set_ne (by omega), ← List.getD_eq_getElem?_getD]
    exact h1
   ·rcases hs with rfl | rfl
    ·exact h2
    ·rw [List.getD_eq_getElem?_getD, List.getElem?_append_left hj, ← List.getD_eq_getElem?_getD]
     exact h2
def Table (w : World) (l : List S127) (n : Int) (gt : Nat) : Prop := ∃ (vf v2 : Value) (first : List Int) (second : List (List Int)), w.heap[gt]? = some (.cells (tabCells vf v2 n) 144 (0, 0)) ∧ SLk (Kd.int .i64) w vf first ∧ SLk kb w v2 second ∧ Tab l n first second 8704
set_option maxRecDepth 100000 in
set_option maxHeartbeats 4000000 in
theorem build_c {w : World} {v : Value} {l : List S127} (n : Int) (h : SLk k127 w v l) (ok : Ok l) (hm : l.length ≤ 4096) :
 Calls Tryz.prog 52 #[v, .int .i64 n] w fun e w' => ∃ gt : Nat, e = .returned (.tuple #[.pointer (some ⟨gt, 0, none⟩), .int .i64 0]) ∧ w.heap.size ≤ gt ∧ Table w' l n gt ∧ Below w.heap.size w w' := by
 have H := Aside0.mk h
 have HOK := Aside0.mk ok
 have HM := Aside0.mk hm
 obtain ⟨A, c, rfl, hc, hC⟩ := h
 obtain ⟨nm, hnm⟩ := (may_ev l ok hm).rounds
 have hz : Tryz.zeroCells146 = vs (evenL 0) := by kernel_rfl
 have HZ := Aside0.mk hz
 clear hz ok
 go_enter Tryz.func52, Tryz.ntmps52
 go_wp2_with fail
 refine (trie_may.calls nm A c l 0 w hC hc hnm).mono ?_
 rintro e w1 ⟨rfl, hb⟩
 have HB1 := Aside0.mk hb
 clear hb hC hc hnm
 have HT0 : Aside0 ((w1.alloc (.cells (tabCells (.slice none 0 0) (.slice none 0 0) n) 144)).heap[w1.heap.size]? = some (.cells (tabCells (.slice none 0 0) (.slice none 0 0) n) 144 (0, 0))) := ⟨blk_new w1 _⟩
 have HBa := Aside0.mk (below_alloc HB1.out (.cells (tabCells (.slice none 0 0) (.slice none 0 0) n) 144))
 have HGT : Aside0 (w.heap.size ≤ w1.heap.size) := ⟨HB1.out.size⟩
 have HSZ : Aside0 (w1.heap.size < (w1.alloc (.cells (tabCells (.slice none 0 0) (.slice none 0 0) n) 144)).heap.size) := ⟨blk_lt HT0.out⟩
 go_wp2_with (first | (refine Kd.R_make (Kd.int .i64) (w0 := w) w.heap.size 3 rfl (N := 22) rfl 22 _ _ rfl 8704 rfl rfl Tryz.underlying22 (.int .i64 0) 8 CSlices.info3 rfl (by decide) (by omega) 0 (ok := fun _ => True) (okp := fun _ => True) rfl (fun _ hk => hk) trivial (by omega) (by omega) HBa.out HBa.out.size ?_; intro vf w2 hv hb hg hnew; obtain ⟨gf, cap, ev, hgf⟩ := R_form hv (hnew.imp fun _ h => h.1); subst ev; have HNW : Aside0 ((w1.alloc (.cells (tabCells (.slice none 0 0) (.slice none 0 0) n) 144)).heap.size ≤ gf) := (by obtain ⟨b, h1, h2⟩ := hnew; have h3 : some gf = some b := h1; injection h3 with h3; exact ⟨by rw [h3]; exact h2⟩); have HF2 := Aside0.mk hv; have HB2 := Aside0.mk hb; have HT2 : Aside0 (w2.heap[w1.heap.size]? = some (.cells (tabCells (.slice none 0 0) (.slice none 0 0) n) 144 (0, 0))) := ⟨(hg.block _ (blk_lt HT0.out) (by simp)).trans HT0.out⟩; have d0 : w2.cell? ⟨w1.heap.size, 0, none⟩ = some (.slice none 0 0) := (blk_cell HT2.out 0).trans rfl; have f0 : w2.frozen? ⟨w1.heap.size, 0, none⟩ = false := blk_frozen HT2.out 0; have HT3 : Aside0 (((w2.setCell ⟨w1.heap.size, 0, none⟩ (.slice (some ⟨gf, 0, none⟩) 8704 cap)).alloc (.cells (vs (evenL 0)) 146)).heap[w1.heap.size]? = some (.cells (tabCells (.slice (some ⟨gf, 0, none⟩) 8704 cap) (.slice none 0 0) n) 144 (0, 0))) := ⟨((below_alloc (Below.refl (w2.setCell ⟨w1.heap.size, 0, none⟩ (.slice (some ⟨gf, 0, none⟩) 8704 cap)).heap.size _) _).block _ (by rw [show (w2.setCell ⟨w1.heap.size, 0, none⟩ (.slice (some ⟨gf, 0, none⟩) 8704 cap)).heap.size = w2.heap.size by simp [World.setCell]]; exact blk_lt HT2.out)).trans ((blk_set HT2.out 0 _).trans rfl)⟩; have HA3 : Aside0 (Arr ((w2.setCell ⟨w1.heap.size, 0, none⟩ (.slice (some ⟨gf, 0, none⟩) 8704 cap)).alloc (.cells (vs (evenL 0)) 146)) w2.heap.size (evenL 0)) := (by have h9 := blk_new (w2.setCell ⟨w1.heap.size, 0, none⟩ (.slice (some ⟨gf, 0, none⟩) 8704 cap)) (.cells (vs (evenL 0)) 146); rw [show (w2.setCell ⟨w1.heap.size, 0, none⟩ (.slice (some ⟨gf, 0, none⟩) 8704 cap)).heap.size = w2.heap.size by simp [World.setCell]] at h9; exact ⟨h9⟩); have HF3 : Aside0 (Kd.R (Kd.int .i64) 3 ((w2.setCell ⟨w1.heap.size, 0, none⟩ (.slice (some ⟨gf, 0, none⟩) 8704 cap)).alloc (.cells (vs (evenL 0)) 146)) w.heap.size (fun k => k = gf) (.slice (some ⟨gf, 0, none⟩) 8704 cap) (List.replicate 8704 0)) := ⟨Kd.R_alloc (Kd.R_far (Kd.R_reok rfl hv (fun k hk => by have h8 : some gf = some k := hk; injection h8 with h8; exact h8.symm)) (fun k hk => by subst hk; have := HNW.out; have := HSZ.out; show k ≠ w1.heap.size; omega) _) _⟩; have HB3 : Aside0 (Below w.heap.size w ((w2.setCell ⟨w1.heap.size, 0, none⟩ (.slice (some ⟨gf, 0, none⟩) 8704 cap)).alloc (.cells (vs (evenL 0)) 146))) := ⟨below_alloc (below_cells HB2.out HGT.out 0 [_]) _⟩; clear hv hb hg hnew) | (rw [HZ.out]; refine arr_store_arm (g := w2.heap.size) (ys := evenL 0) rfl (.tmp 9) (.tmp 26) rfl rfl rfl rfl HA3.out (evenL_length 0) (evenL_length 0) ?_; intro w4 h1 h2 h3; have HA4 := Aside0.mk h1; have HG4 := Aside0.mk h2; clear h1 h2 h3))
 have HT4 : Aside0 (w4.heap[w1.heap.size]? = some (.cells (tabCells (.slice (some ⟨gf, 0, none⟩) 8704 cap) (.slice none 0 0) n) 144 (0, 0))) := ⟨(HG4.out.block _ (blk_lt HT3.out) (fun e => by have e2 : w1.heap.size = w2.heap.size := Option.some.inj e; have := blk_lt HT2.out; omega)).trans HT3.out⟩
 have HGFL : Aside0 (gf < w2.heap.size) := ⟨Kd.R_lt HF2.out gf rfl⟩
 have HGTF : Aside0 (w1.heap.size < gf) := ⟨by have := HNW.out; have := HSZ.out; omega⟩
 have HF4 : Aside0 (Kd.R (Kd.int .i64) 3 w4 w.heap.size (fun k => k = gf) (.slice (some ⟨gf, 0, none⟩) 8704 cap) (List.replicate 8704 0)) := ⟨Kd.R_grown HF3.out HG4.out (fun k hk e => by have e2 : k = w2.heap.size := Option.some.inj e; have := HGFL.out; omega)⟩
 have HB4 : Aside0 (Below w.heap.size w w4) := ⟨below_grown2 HB3.out (Nat.le_refl _) HG4.out (fun k e => by have e2 : w2.heap.size = k := Option.some.inj e; have := HB2.out.size; omega)⟩
 clear HT0 HBa HSZ HT2 d0 f0 HT3 HA3 HF3 HB3 HG4 HF2 HB2 HNW hgf HB1
 obtain ⟨gt, hgt⟩ : ∃ g, g = w1.heap.size := ⟨_, rfl⟩
 obtain ⟨gl, hgl⟩ : ∃ g, g = w2.heap.size := ⟨_, rfl⟩
 rw [← hgt] at HT4 HGTF HGT ⊢
 rw [← hgl] at HGFL HA4 ⊢
 have HGF := HGTF
 have HGL := HGFL
 clear HGTF HGFL hgt hgl
 go_loopw [8, 10, 27] (fun v8 v10 v27 wr => ∃ (p fr : Nat) (la : Int) (first : List Int) (second : List (List Int)) (last : List Int) (v2 : Value), v27 = .int .i64 p ∧ v8 = .int .i64 fr ∧ v10 = .int .i64 la ∧ p ≤ 8704 ∧ fr ≤ l.length ∧ Aside0 (∀ (i : Nat) (hi : i < l.length), i < fr → l[i].f1 < 128 * (p : Int)) ∧ Aside0 (p = 0 ∧ la = -1 ∨ 0 < p ∧ ∃ j : Nat, la = j ∧ j < second.length ∧ second.getD j [] = last) ∧ Aside0 (last.length = 128) ∧ Aside0 (Tab l n first second p) ∧ Aside0 (wr.heap[gt]? = some (.cells (tabCells (.slice (some ⟨gf, 0, none⟩) 8704 cap) v2 n) 144 (0, 0))) ∧ Aside0 (Kd.R (Kd.int .i64) 3 wr w.heap.size (fun k => k = gf) (.slice (some ⟨gf, 0, none⟩) 8704 cap) first) ∧ Aside0 (Kd.R kb 146 wr (gl + 1) (fun k => k ≠ gt) v2 second) ∧ Aside0 (Arr wr gl last) ∧ Aside0 (Below w.heap.size w wr)) (fun _ _ v _ => 8704 - (intOf v).toNat)
 case atStart => exact ⟨0, 0, -1, List.replicate 8704 0, [], evenL 0, .slice none 0 0, rfl, rfl, rfl, Nat.zero_le _, Nat.zero_le _, ⟨fun i hi h => absurd h (Nat.not_lt_zero _)⟩, ⟨.inl ⟨rfl, rfl⟩⟩, ⟨evenL_length 0⟩, ⟨⟨by simp, Nat.zero_le _, fun q hq => absurd hq (Nat.not_lt_zero _)⟩⟩, HT4, HF4, ⟨Kd.R_nil _ _ _ _ _⟩, HA4, HB4⟩
 case round =>
  clear HT4 HF4 HA4 HB4
  obtain ⟨p, fr, la, first, second, last, v2, rfl, rfl, rfl, hp, hfr, HBE, HLA, HLL, HTAB, HTr, HFr, H2r, HLr, HBr⟩ := hrel
  by_cases hlt : p < 8704
  ·have hpI : (p : Int) < 8704 := by omega
   have HGB0 : Aside0 (gl < wr.heap.size) := ⟨blk_lt HLr.out⟩
   go_wp2_with fail
   rw [HZ.out]
   have HA0 : Aside0 (Arr (wr.alloc (.cells (vs (evenL 0)) 146)) wr.heap.size (evenL 0)) := ⟨blk_new wr _⟩
   have hal : Below wr.heap.size wr (wr.alloc (.cells (vs (evenL 0)) 146)) := below_alloc (Below.refl _ _) _
   refine (filled_c n p fr (SLk.below H.out (below_alloc HBr.out _)) HOK.out (by have := HM.out; omega) hlt hfr HBE.out).mono ?_
   rintro e w5 ⟨k', hk', hbe, rfl, hb⟩
   have hal5 : Below wr.heap.size wr w5 := below_step hal hb
   have HBE5 := Aside0.mk hbe
   have HA5 : Aside0 (Arr w5 wr.heap.size (evenL 0)) := ⟨(hb.block _ (blk_lt HA0.out)).trans HA0.out⟩
   have HT5 : Aside0 (w5.heap[gt]? = some (.cells (tabCells (.slice (some ⟨gf, 0, none⟩) 8704 cap) v2 n) 144 (0, 0))) := ⟨(hal5.block _ (blk_lt HTr.out)).trans HTr.out⟩
   have HF5 : Aside0 (Kd.R (Kd.int .i64) 3 w5 w.heap.size (fun k => k = gf) (.slice (some ⟨gf, 0, none⟩) 8704 cap) first) := ⟨Kd.R_below HFr.out hal5⟩
   have H25 : Aside0 (Kd.R kb 146 w5 (gl + 1) (fun k => k ≠ gt ∧ k < wr.heap.size) v2 second) := ⟨Kd.R_old H2r.out hal5⟩
   have HL5 : Aside0 (Arr w5 gl last) := ⟨(hal5.block _ (blk_lt HLr.out)).trans HLr.out⟩
   have HB5 : Aside0 (Below w.heap.size w w5) := ⟨below_step HBr.out hal5⟩
   obtain ⟨gb, hgb⟩ : ∃ g, g = wr.heap.size := ⟨_, rfl⟩
   rw [← hgb] at HGB0 HA5 H25 ⊢
   have HGB := HGB0
   clear hb hal hal5 HA0 HTr HFr H2r HLr HBr hgb HGB0 hbe
   rcases HLA.out with ⟨hp0, hla⟩ | ⟨hp0, j, hla, hjs, hjl⟩
   ·have hneg : la < 0 := by omega
    have HPZ := Aside0.mk hp0
    clear hp0 hla
    go_wp2_with (first | (refine arr_store_arm (g := gb) (ys := blockL l n p) rfl (.tmp 12) (.tmp 36) rfl rfl rfl rfl HA5.out (evenL_length 0) (blockL_length l n p) ?_; intro wb h1 h2 h3; have HAb := Aside0.mk h1; have HTb : Aside0 (wb.heap[gt]? = some (.cells (tabCells (.slice (some ⟨gf, 0, none⟩) 8704 cap) v2 n) 144 (0, 0))) := ⟨(h2.block _ (blk_lt HT5.out) (fun e => by have e2 : gt = gb := Option.some.inj e; have := HGF.out; have := HGL.out; have := HGB.out; omega)).trans HT5.out⟩; have HLb : Aside0 (Arr wb gl last) := ⟨(h2.block _ (blk_lt HL5.out) (fun e => by have e2 : gl = gb := Option.some.inj e; have := HGB.out; omega)).trans HL5.out⟩; have HFb : Aside0 (Kd.R (Kd.int .i64) 3 wb w.heap.size (fun k => k = gf) (.slice (some ⟨gf, 0, none⟩) 8704 cap) first) := ⟨Kd.R_grown HF5.out h2 (fun k hk e => by have e2 : k = gb := Option.some.inj e; have := HGL.out; have := HGB.out; omega)⟩; have H2b0 : Aside0 (Kd.R kb 146 wb (gl + 1) (fun k => k ≠ gt ∧ k < gb) v2 second) := ⟨Kd.R_grown H25.out h2 (fun k hk e => by have e2 : k = gb := Option.some.inj e; omega)⟩; have HNB : Aside0 (∀ k, v2.ownBlock = some k → k ≠ gb) := ⟨fun k hk e => by have := (H2b0.out.1 k hk).2; omega⟩; have H2b : Aside0 (Kd.R kb 146 wb (gl + 1) (fun k => k ≠ gt) v2 second) := ⟨Kd.R_mono H2b0.out (fun k hk => hk.1)⟩; have HBb : Aside0 (Below w.heap.size w wb) := ⟨below_grown2 HB5.out (Nat.le_refl _) h2 (fun k e => by have e2 : gb = k := Option.some.inj e; have := HGT.out; have := HGF.out; have := HGL.out; have := HGB.out; omega)⟩; have HGLb : Aside0 (gl < wb.heap.size) := ⟨blk_lt HLb.out⟩; clear h1 h2 h3 HA5 HT5 HF5 H25 HL5 HB5 H2b0))
    refine start_ (n := 8) (S := fun W => Arr W gb (blockL l n p)) (ds := []) #[false, false, false, false, false, false, false, false] (by kernel_rfl) (by kernel_rfl) (by rfl) HAb.out (fun hS0 => ?_)
    refine pure_ (i := 1) (N := (some 46)) (v := ?_) (a' := ?_) #[false, true, false, false, false, false, false, false] rfl rfl (by kernel_rfl) (fun _ _ _ h => h) (Or.inl ⟨by rfl, ?_⟩) ?_ ?_
    rotate_left
    ·intro w'
     go_simp
     with_reducible rfl
    rotate_left
    ·simp only [Act.put, List.setIfInBounds_toArray, List.set_cons_zero, List.set_cons_succ]
     rfl
    refine pure_ (i := 2) (N := (some 47)) (v := ?_) (a' := ?_) #[false, true, true, false, false, false, false, false] rfl rfl (by kernel_rfl) (fun _ _ _ h => h) (Or.inl ⟨by rfl, ?_⟩) ?_ ?_
    rotate_left
    ·intro w'
     go_simp
     with_reducible rfl
    rotate_left
    ·simp only [Act.put, List.setIfInBounds_toArray, List.set_cons_zero, List.set_cons_succ]
     rfl
    refine pure_ (i := 3) (N := (some 48)) (v := ?_) (a' := ?_) #[false, true, true, true, false, false, false, false] rfl rfl (by kernel_rfl) (fun _ _ _ h => h) (Or.inl ⟨by rfl, ?_⟩) ?_ ?_
    rotate_left
    ·intro w'
     go_simp
     with_reducible rfl
    rotate_left
    ·simp only [Act.put, List.setIfInBounds_toArray, List.set_cons_zero, List.set_cons_succ]
     rfl
    refine take_ (i := 0) (N := (some 45)) (v := ?_) (a' := ?_) #[true, true, true, true, false, false, false, false] rfl rfl (by kernel_rfl) (fun _ _ _ h => h) (Or.inl ⟨by rfl, ?_⟩) hS0 ?_ ?_
    rotate_left
    ·intro w' s0
     refine exec_load (.tmp 12) (xs := blockL l n p) (ad := ⟨gb, 0, none⟩) ?_ ?_ ?_
     ·rfl
     ·rfl
     ·exact arr_load s0 (blockL_length l n p)
    rotate_left
    ·simp only [Act.put, List.setIfInBounds_toArray, List.set_cons_zero, List.set_cons_succ]
     rfl
    refine take_ (i := 4) (N := (some 49)) (v := ?_) (a' := ?_) #[true, true, true, true, true, false, false, false] rfl rfl (by kernel_rfl) (fun _ _ _ h => h) (Or.inl ⟨by rfl, ?_⟩) hS0 ?_ ?_
    rotate_left
    ·intro w' s0
     refine exec_load (.tmp 12) (xs := blockL l n p) (ad := ⟨gb, 0, none⟩) ?_ ?_ ?_
     ·rfl
     ·rfl
     ·exact arr_load s0 (blockL_length l n p)
    rotate_left
    ·simp only [Act.put, List.setIfInBounds_toArray, List.set_cons_zero, List.set_cons_succ]
     rfl
    clear hS0
    refine one_ (i := 5) (N := (some 50)) #[true, true, true, true, true, true, false, false] rfl rfl (by kernel_rfl) (by decide) (fun K hK => ?_)
    refine goes_ Tryz.func113 (by kernel_rfl) rfl #[.pointer (some ⟨gt, 0, none⟩), .agg (vs (blockL l n p))] (by rfl) rfl rfl (by (try simp only [List.map_toArray, List.map_cons, List.map_nil]); rfl) ?_
    have HTx : Aside0 (wb.drew.heap[gt]? = some (.cells (tabCells (.slice (some ⟨gf, 0, none⟩) 8704 cap) v2 n) 144 (0, 0))) := ⟨HTb.out⟩
    have HAx : Aside0 (Arr wb.drew gb (blockL l n p)) := ⟨HAb.out⟩
    have HLx : Aside0 (Arr wb.drew gl last) := ⟨HLb.out⟩
    have H2x : Aside0 (Kd.R kb 146 wb.drew (gl + 1) (fun k => k ≠ gt) v2 second) := ⟨Kd.R_drew H2b.out⟩
    have HFx : Aside0 (Kd.R (Kd.int .i64) 3 wb.drew w.heap.size (fun k => k = gf) (.slice (some ⟨gf, 0, none⟩) 8704 cap) first) := ⟨Kd.R_drew HFb.out⟩
    have HBx : Aside0 (Below w.heap.size w wb.drew) := ⟨⟨HBb.out.os, HBb.out.tape, HBb.out.output, HBb.out.size, HBb.out.block⟩⟩
    refine (add_c HTx.out H2x.out (blockL_length l n p) (by have := HTAB.out.small; omega) (by have := HGLb.out; show gl + 1 ≤ wb.heap.size; omega)).mono ?_
    rintro e wc ⟨i, sec2, v2', rfl, hs, hi, hib, hT, hR, ho, hta, hou, hsz, hfr⟩
    refine ⟨_, rfl, ?_⟩
    have HI := Aside0.mk hi
    have HIB := Aside0.mk hib
    have HSS := Aside0.mk hs
    have HTc := Aside0.mk hT
    have H2c := Aside0.mk hR
    have HAc : Aside0 (Arr wc gb (blockL l n p)) := ⟨(hfr gb (blk_lt HAx.out) (by have := HGB.out; have := HGF.out; have := HGL.out; omega) (fun e => by have := Kd.R_base H2x.out gb e.symm; exact HNB.out gb e.symm rfl)).trans HAx.out⟩
    have HLc : Aside0 (Arr wc gl last) := ⟨(hfr gl (blk_lt HLx.out) (by have := HGF.out; have := HGL.out; omega) (fun e => by have := Kd.R_base H2x.out gl e.symm; omega)).trans HLx.out⟩
    have HFc : Aside0 (Kd.R (Kd.int .i64) 3 wc w.heap.size (fun k => k = gf) (.slice (some ⟨gf, 0, none⟩) 8704 cap) first) := ⟨Kd.R_step HFx.out (fun k hk hlt => hfr k hlt (by have hk9 : k = gf := hk; have := HGF.out; omega) (fun e => by have hk9 : k = gf := hk; have := Kd.R_base H2x.out k e.symm; have := HGL.out; omega))⟩
    have HBc : Aside0 (Below w.heap.size w wc) := ⟨⟨ho.trans HBx.out.os, hta.trans HBx.out.tape, hou.trans HBx.out.output, Nat.le_trans HBx.out.size hsz, fun k hk => (hfr k (Nat.lt_of_lt_of_le hk HBx.out.size) (by have := HGT.out; omega) (fun e => by have := Kd.R_base H2x.out k e.symm; have := HGT.out; have := HGF.out; have := HGL.out; omega)).trans (HBx.out.block k hk)⟩⟩
    clear hs hi hib hT hR ho hta hou hsz hfr
    refine hK.out (Act.put _ (some 50) _) _ HAc.out (fun hS0 => ?_)
    clear hK
    refine norm_ (a' := ?_) ?_ ?_
    rotate_left
    ·simp only [Act.put, List.setIfInBounds_toArray, List.set_cons_zero, List.set_cons_succ]
     rfl
    clear hS0
    refine one_ (i := 6) (N := none) #[true, true, true, true, true, true, true, false] rfl rfl (by kernel_rfl) (by decide) (fun K hK => ?_)
    refine skip_ (w1 := wc.setRow gl (vs (blockL l n p))) (by rfl) rfl ?_ ?_
    ·refine exec_store (.tmp 9) (.tmp 45) (old := last) (ys := blockL l n p) (g := gl) ?_ ?_ ?_ HLc.out HLL.out (blockL_length l n p)
     ·rfl
     ·rfl
     ·rfl
    have hgs := grown_setRow wc gl (vs (blockL l n p))
    have HAd : Aside0 (Arr (wc.setRow gl (vs (blockL l n p))) gb (blockL l n p)) := ⟨(hgs.block _ (blk_lt HAc.out) (fun e => by have e2 : gb = gl := Option.some.inj e; have := HGB.out; omega)).trans HAc.out⟩
    have HLd : Aside0 (Arr (wc.setRow gl (vs (blockL l n p))) gl (blockL l n p)) := ⟨setRow_heap wc gl (vs last) (vs (blockL l n p)) 146 (0, 0) HLc.out⟩
    have HTd : Aside0 ((wc.setRow gl (vs (blockL l n p))).heap[gt]? = some (.cells (tabCells (.slice (some ⟨gf, 0, none⟩) 8704 cap) v2' n) 144 (0, 0))) := ⟨(hgs.block _ (blk_lt HTc.out) (fun e => by have e2 : gt = gl := Option.some.inj e; have := HGF.out; have := HGL.out; omega)).trans HTc.out⟩
    have HFd : Aside0 (Kd.R (Kd.int .i64) 3 (wc.setRow gl (vs (blockL l n p))) w.heap.size (fun k => k = gf) (.slice (some ⟨gf, 0, none⟩) 8704 cap) first) := ⟨Kd.R_grown HFc.out hgs (fun k hk e => by have e2 : k = gl := Option.some.inj e; have := HGL.out; omega)⟩
    have H2d : Aside0 (Kd.R kb 146 (wc.setRow gl (vs (blockL l n p))) (gl + 1) (fun k => k ≠ gt) v2' sec2) := ⟨Kd.R_mono (Kd.R_grown (Kd.R_mono (Kd.R_bound H2c.out) (fun k hk => (⟨hk.1, hk.2.1⟩ : k ≠ gt ∧ gl + 1 ≤ k))) hgs (fun k hk e => by have e2 : k = gl := Option.some.inj e; omega)) (fun k hk => hk.1)⟩
    have HBd : Aside0 (Below w.heap.size w (wc.setRow gl (vs (blockL l n p)))) := ⟨below_grown2 HBc.out (Nat.le_refl _) hgs (fun k e => by have e2 : gl = k := Option.some.inj e; have := HGT.out; have := HGF.out; have := HGL.out; omega)⟩
    clear hgs
    refine hK.out _ _ HAd.out (fun hS0 => ?_)
    clear hK
    refine pure_ (i := 7) (N := (some 10)) (v := ?_) (a' := ?_) #[true, true, true, true, true, true, true, true] rfl rfl (by kernel_rfl) (fun _ _ _ h => h) (Or.inl ⟨by rfl, ?_⟩) ?_ ?_
    rotate_left
    ·intro w'
     go_simp
     with_reducible rfl
    rotate_left
    ·simp only [Act.put, List.setIfInBounds_toArray, List.set_cons_zero, List.set_cons_succ]
     rfl
    refine done_ (by kernel_rfl) ?_
    clear hS0
    have t0 : (wc.setRow gl (vs (blockL l n p))).cell? ⟨gt, 0, none⟩ = some (.slice (some ⟨gf, 0, none⟩) 8704 cap) := (blk_cell HTd.out 0).trans rfl
    obtain ⟨y, z⟩ := Kd.R_celln (0 : Int) HFd.out (p : Int) (by omega) hpI
    have hp1 := (Kd.R_putg HFd.out (p : Int) (i : Int)).1
    rw [Int.toNat_natCast] at y z hp1
    have HP := Aside0.mk hp1
    have hgr := grown_set (wc.setRow gl (vs (blockL l n p))) gf p (.int .i64 (i : Int))
    have HTe : Aside0 (((wc.setRow gl (vs (blockL l n p))).setCell ⟨gf, p, none⟩ (.int .i64 (i : Int))).heap[gt]? = some (.cells (tabCells (.slice (some ⟨gf, 0, none⟩) 8704 cap) v2' n) 144 (0, 0))) := ⟨(hgr.block _ (blk_lt HTd.out) (fun e => by have e2 : gt = gf := Option.some.inj e; have := HGF.out; omega)).trans HTd.out⟩
    have HLe : Aside0 (Arr ((wc.setRow gl (vs (blockL l n p))).setCell ⟨gf, p, none⟩ (.int .i64 (i : Int))) gl (blockL l n p)) := ⟨(hgr.block _ (blk_lt HLd.out) (fun e => by have e2 : gl = gf := Option.some.inj e; have := HGL.out; omega)).trans HLd.out⟩
    have H2e : Aside0 (Kd.R kb 146 ((wc.setRow gl (vs (blockL l n p))).setCell ⟨gf, p, none⟩ (.int .i64 (i : Int))) (gl + 1) (fun k => k ≠ gt) v2' sec2) := ⟨Kd.R_mono (Kd.R_grown (Kd.R_mono (Kd.R_bound H2d.out) (fun k hk => (⟨hk.1, hk.2.1⟩ : k ≠ gt ∧ gl + 1 ≤ k))) hgr (fun k hk e => by have e2 : k = gf := Option.some.inj e; have := HGL.out; omega)) (fun k hk => hk.1)⟩
    have HBe : Aside0 (Below w.heap.size w ((wc.setRow gl (vs (blockL l n p))).setCell ⟨gf, p, none⟩ (.int .i64 (i : Int)))) := ⟨below_cells HBd.out (by have := HGT.out; have := HGF.out; omega) p [_]⟩
    clear hp1 hgr
    go_wp2_with fail
    exact ⟨⟨p + 1, k', (i : Int), _, sec2, blockL l n p, v2', by go_num, rfl, rfl, by omega, hk', HBE5, ⟨.inr ⟨by omega, i, rfl, HI.out, HIB.out⟩⟩, ⟨blockL_length l n p⟩, ⟨tab_next HTAB.out hlt HSS.out HI.out HIB.out⟩, HTe, HP, H2e, HLe, HBe⟩, by simp [intOf]; omega⟩
   ·have hneg : ¬ (la < 0) := by omega
    have hnegb : decide (la < 0) = false := decide_eq_false hneg
    have HJ := Aside0.mk hla
    have HJS := Aside0.mk hjs
    have HJL := Aside0.mk hjl
    clear hla hjs hjl
    by_cases heq : blockL l n p = last
    ·have hbb : (blockL l n p == last) = true := by simpa using heq
     have HLq0 := Aside0.mk heq; clear heq
     have HJL2 : Aside0 (second.getD j [] = blockL l n p) := ⟨by rw [HLq0.out]; exact HJL.out⟩
     have hj := HJ.out
     subst hj
     go_wp2_with (first | (refine arr_store_arm (g := gb) (ys := blockL l n p) rfl (.tmp 12) (.tmp 36) rfl rfl rfl rfl HA5.out (evenL_length 0) (blockL_length l n p) ?_; intro wb h1 h2 h3; have HAb := Aside0.mk h1; have HTb : Aside0 (wb.heap[gt]? = some (.cells (tabCells (.slice (some ⟨gf, 0, none⟩) 8704 cap) v2 n) 144 (0, 0))) := ⟨(h2.block _ (blk_lt HT5.out) (fun e => by have e2 : gt = gb := Option.some.inj e; have := HGF.out; have := HGL.out; have := HGB.out; omega)).trans HT5.out⟩; have HLb : Aside0 (Arr wb gl last) := ⟨(h2.block _ (blk_lt HL5.out) (fun e => by have e2 : gl = gb := Option.some.inj e; have := HGB.out; omega)).trans HL5.out⟩; have HFb : Aside0 (Kd.R (Kd.int .i64) 3 wb w.heap.size (fun k => k = gf) (.slice (some ⟨gf, 0, none⟩) 8704 cap) first) := ⟨Kd.R_grown HF5.out h2 (fun k hk e => by have e2 : k = gb := Option.some.inj e; have := HGL.out; have := HGB.out; omega)⟩; have H2b0 : Aside0 (Kd.R kb 146 wb (gl + 1) (fun k => k ≠ gt ∧ k < gb) v2 second) := ⟨Kd.R_grown H25.out h2 (fun k hk e => by have e2 : k = gb := Option.some.inj e; omega)⟩; have HNB : Aside0 (∀ k, v2.ownBlock = some k → k ≠ gb) := ⟨fun k hk e => by have := (H2b0.out.1 k hk).2; omega⟩; have H2b : Aside0 (Kd.R kb 146 wb (gl + 1) (fun k => k ≠ gt) v2 second) := ⟨Kd.R_mono H2b0.out (fun k hk => hk.1)⟩; have HBb : Aside0 (Below w.heap.size w wb) := ⟨below_grown2 HB5.out (Nat.le_refl _) h2 (fun k e => by have e2 : gb = k := Option.some.inj e; have := HGT.out; have := HGF.out; have := HGL.out; have := HGB.out; omega)⟩; have HGLb : Aside0 (gl < wb.heap.size) := ⟨blk_lt HLb.out⟩; clear h1 h2 h3 HA5 HT5 HF5 H25 HL5 HB5 H2b0; have HLq : Aside0 (Arr wb gl (blockL l n p)) := ⟨by rw [HLq0.out]; exact HLb.out⟩; have t0 : (wb).cell? ⟨gt, 0, none⟩ = some (.slice (some ⟨gf, 0, none⟩) 8704 cap) := (blk_cell HTb.out 0).trans rfl; obtain ⟨y, z⟩ := Kd.R_celln (0 : Int) HFb.out (p : Int) (by omega) hpI; have hp1 := (Kd.R_putg HFb.out (p : Int) (j : Int)).1; rw [Int.toNat_natCast] at y z hp1; have HP := Aside0.mk hp1; have hgr := grown_set (wb) gf p (.int .i64 (j : Int)); have HTe : Aside0 (((wb).setCell ⟨gf, p, none⟩ (.int .i64 (j : Int))).heap[gt]? = some (.cells (tabCells (.slice (some ⟨gf, 0, none⟩) 8704 cap) v2 n) 144 (0, 0))) := ⟨(hgr.block _ (blk_lt HTb.out) (fun e => by have e2 : gt = gf := Option.some.inj e; have := HGF.out; omega)).trans HTb.out⟩; have HLe : Aside0 (Arr ((wb).setCell ⟨gf, p, none⟩ (.int .i64 (j : Int))) gl (blockL l n p)) := ⟨(hgr.block _ (blk_lt HLq.out) (fun e => by have e2 : gl = gf := Option.some.inj e; have := HGL.out; omega)).trans HLq.out⟩; have H2e : Aside0 (Kd.R kb 146 ((wb).setCell ⟨gf, p, none⟩ (.int .i64 (j : Int))) (gl + 1) (fun k => k ≠ gt) v2 second) := ⟨Kd.R_mono (Kd.R_grown (Kd.R_mono (Kd.R_bound H2b.out) (fun k hk => (⟨hk.1, hk.2.1⟩ : k ≠ gt ∧ gl + 1 ≤ k))) hgr (fun k hk e => by have e2 : k = gf := Option.some.inj e; have := HGL.out; omega)) (fun k hk => hk.1)⟩; have HBe : Aside0 (Below w.heap.size w ((wb).setCell ⟨gf, p, none⟩ (.int .i64 (j : Int)))) := ⟨below_cells HBb.out (by have := HGT.out; have := HGF.out; omega) p [_]⟩; clear hp1 hgr) | (refine arr_load_armG (by rfl) (.tmp 12) rfl rfl HAb.out (blockL_length l n p) ?_) | (refine arr_load_armG (by rfl) (.tmp 9) rfl rfl HLb.out HLL.out ?_) | (refine arr_neq_armG (xs := blockL l n p) (ys := last) (by rfl) (.tmp 41) (.tmp 42) 146 rfl rfl rfl (blockL_length l n p) HLL.out ?_))
     exact ⟨⟨p + 1, k', (j : Int), _, second, blockL l n p, v2, by go_num, rfl, rfl, by omega, hk', HBE5, ⟨.inr ⟨by omega, j, rfl, HJS.out, HJL2.out⟩⟩, ⟨blockL_length l n p⟩, ⟨tab_next HTAB.out hlt (.inl rfl) HJS.out HJL2.out⟩, HTe, HP, H2e, HLe, HBe⟩, by simp [intOf]; omega⟩
    ·have hbb : (blockL l n p == last) = false := by simpa using heq
     clear heq
     go_wp2_with (first | (refine arr_store_arm (g := gb) (ys := blockL l n p) rfl (.tmp 12) (.tmp 36) rfl rfl rfl rfl HA5.out (evenL_length 0) (blockL_length l n p) ?_; intro wb h1 h2 h3; have HAb := Aside0.mk h1; have HTb : Aside0 (wb.heap[gt]? = some (.cells (tabCells (.slice (some ⟨gf, 0, none⟩) 8704 cap) v2 n) 144 (0, 0))) := ⟨(h2.block _ (blk_lt HT5.out) (fun e => by have e2 : gt = gb := Option.some.inj e; have := HGF.out; have := HGL.out; have := HGB.out; omega)).trans HT5.out⟩; have HLb : Aside0 (Arr wb gl last) := ⟨(h2.block _ (blk_lt HL5.out) (fun e => by have e2 : gl = gb := Option.some.inj e; have := HGB.out; omega)).trans HL5.out⟩; have HFb : Aside0 (Kd.R (Kd.int .i64) 3 wb w.heap.size (fun k => k = gf) (.slice (some ⟨gf, 0, none⟩) 8704 cap) first) := ⟨Kd.R_grown HF5.out h2 (fun k hk e => by have e2 : k = gb := Option.some.inj e; have := HGL.out; have := HGB.out; omega)⟩; have H2b0 : Aside0 (Kd.R kb 146 wb (gl + 1) (fun k => k ≠ gt ∧ k < gb) v2 second) := ⟨Kd.R_grown H25.out h2 (fun k hk e => by have e2 : k = gb := Option.some.inj e; omega)⟩; have HNB : Aside0 (∀ k, v2.ownBlock = some k → k ≠ gb) := ⟨fun k hk e => by have := (H2b0.out.1 k hk).2; omega⟩; have H2b : Aside0 (Kd.R kb 146 wb (gl + 1) (fun k => k ≠ gt) v2 second) := ⟨Kd.R_mono H2b0.out (fun k hk => hk.1)⟩; have HBb : Aside0 (Below w.heap.size w wb) := ⟨below_grown2 HB5.out (Nat.le_refl _) h2 (fun k e => by have e2 : gb = k := Option.some.inj e; have := HGT.out; have := HGF.out; have := HGL.out; have := HGB.out; omega)⟩; have HGLb : Aside0 (gl < wb.heap.size) := ⟨blk_lt HLb.out⟩; clear h1 h2 h3 HA5 HT5 HF5 H25 HL5 HB5 H2b0) | (refine arr_load_armG (by rfl) (.tmp 12) rfl rfl HAb.out (blockL_length l n p) ?_) | (refine arr_load_armG (by rfl) (.tmp 9) rfl rfl HLb.out HLL.out ?_) | (refine arr_neq_armG (xs := blockL l n p) (ys := last) (by rfl) (.tmp 41) (.tmp 42) 146 rfl rfl rfl (blockL_length l n p) HLL.out ?_))
     refine start_ (n := 8) (S := fun W => Arr W gb (blockL l n p)) (ds := []) #[false, false, false, false, false, false, false, false] (by kernel_rfl) (by kernel_rfl) (by rfl) HAb.out (fun hS0 => ?_)
     refine pure_ (i := 1) (N := (some 46)) (v := ?_) (a' := ?_) #[false, true, false, false, false, false, false, false] rfl rfl (by kernel_rfl) (fun _ _ _ h => h) (Or.inl ⟨by rfl, ?_⟩) ?_ ?_
     rotate_left
     ·intro w'
      go_simp
      with_reducible rfl
     rotate_left
     ·simp only [Act.put, List.setIfInBounds_toArray, List.set_cons_zero, List.set_cons_succ]
      rfl
     refine pure_ (i := 2) (N := (some 47)) (v := ?_) (a' := ?_) #[false, true, true, false, false, false, false, false] rfl rfl (by kernel_rfl) (fun _ _ _ h => h) (Or.inl ⟨by rfl, ?_⟩) ?_ ?_
     rotate_left
     ·intro w'
      go_simp
      with_reducible rfl
     rotate_left
     ·simp only [Act.put, List.setIfInBounds_toArray, List.set_cons_zero, List.set_cons_succ]
      rfl
     refine pure_ (i := 3) (N := (some 48)) (v := ?_) (a' := ?_) #[false, true, true, true, false, false, false, false] rfl rfl (by kernel_rfl) (fun _ _ _ h => h) (Or.inl ⟨by rfl, ?_⟩) ?_ ?_
     rotate_left
     ·intro w'
      go_simp
      with_reducible rfl
     rotate_left
     ·simp only [Act.put, List.setIfInBounds_toArray, List.set_cons_zero, List.set_cons_succ]
      rfl
     refine take_ (i := 0) (N := (some 45)) (v := ?_) (a' := ?_) #[true, true, true, true, false, false, false, false] rfl rfl (by kernel_rfl) (fun _ _ _ h => h) (Or.inl ⟨by rfl, ?_⟩) hS0 ?_ ?_
     rotate_left
     ·intro w' s0
      refine exec_load (.tmp 12) (xs := blockL l n p) (ad := ⟨gb, 0, none⟩) ?_ ?_ ?_
      ·rfl
      ·rfl
      ·exact arr_load s0 (blockL_length l n p)
     rotate_left
     ·simp only [Act.put, List.setIfInBounds_toArray, List.set_cons_zero, List.set_cons_succ]
      rfl
     refine take_ (i := 4) (N := (some 49)) (v := ?_) (a' := ?_) #[true, true, true, true, true, false, false, false] rfl rfl (by kernel_rfl) (fun _ _ _ h => h) (Or.inl ⟨by rfl, ?_⟩) hS0 ?_ ?_
     rotate_left
     ·intro w' s0
      refine exec_load (.tmp 12) (xs := blockL l n p) (ad := ⟨gb, 0, none⟩) ?_ ?_ ?_
      ·rfl
      ·rfl
      ·exact arr_load s0 (blockL_length l n p)
     rotate_left
     ·simp only [Act.put, List.setIfInBounds_toArray, List.set_cons_zero, List.set_cons_succ]
      rfl
     clear hS0
     refine one_ (i := 5) (N := (some 50)) #[true, true, true, true, true, true, false, false] rfl rfl (by kernel_rfl) (by decide) (fun K hK => ?_)
     refine goes_ Tryz.func113 (by kernel_rfl) rfl #[.pointer (some ⟨gt, 0, none⟩), .agg (vs (blockL l n p))] (by rfl) rfl rfl (by (try simp only [List.map_toArray, List.map_cons, List.map_nil]); rfl) ?_
     have HTx : Aside0 (wb.drew.heap[gt]? = some (.cells (tabCells (.slice (some ⟨gf, 0, none⟩) 8704 cap) v2 n) 144 (0, 0))) := ⟨HTb.out⟩
     have HAx : Aside0 (Arr wb.drew gb (blockL l n p)) := ⟨HAb.out⟩
     have HLx : Aside0 (Arr wb.drew gl last) := ⟨HLb.out⟩
     have H2x : Aside0 (Kd.R kb 146 wb.drew (gl + 1) (fun k => k ≠ gt) v2 second) := ⟨Kd.R_drew H2b.out⟩
     have HFx : Aside0 (Kd.R (Kd.int .i64) 3 wb.drew w.heap.size (fun k => k = gf) (.slice (some ⟨gf, 0, none⟩) 8704 cap) first) := ⟨Kd.R_drew HFb.out⟩
     have HBx : Aside0 (Below w.heap.size w wb.drew) := ⟨⟨HBb.out.os, HBb.out.tape, HBb.out.output, HBb.out.size, HBb.out.block⟩⟩
     refine (add_c HTx.out H2x.out (blockL_length l n p) (by have := HTAB.out.small; omega) (by have := HGLb.out; show gl + 1 ≤ wb.heap.size; omega)).mono ?_
     rintro e wc ⟨i, sec2, v2', rfl, hs, hi, hib, hT, hR, ho, hta, hou, hsz, hfr⟩
     refine ⟨_, rfl, ?_⟩
     have HI := Aside0.mk hi
     have HIB := Aside0.mk hib
     have HSS := Aside0.mk hs
     have HTc := Aside0.mk hT
     have H2c := Aside0.mk hR
     have HAc : Aside0 (Arr wc gb (blockL l n p)) := ⟨(hfr gb (blk_lt HAx.out) (by have := HGB.out; have := HGF.out; have := HGL.out; omega) (fun e => by have := Kd.R_base H2x.out gb e.symm; exact HNB.out gb e.symm rfl)).trans HAx.out⟩
     have HLc : Aside0 (Arr wc gl last) := ⟨(hfr gl (blk_lt HLx.out) (by have := HGF.out; have := HGL.out; omega) (fun e => by have := Kd.R_base H2x.out gl e.symm; omega)).trans HLx.out⟩
     have HFc : Aside0 (Kd.R (Kd.int .i64) 3 wc w.heap.size (fun k => k = gf) (.slice (some ⟨gf, 0, none⟩) 8704 cap) first) := ⟨Kd.R_step HFx.out (fun k hk hlt => hfr k hlt (by have hk9 : k = gf := hk; have := HGF.out; omega) (fun e => by have hk9 : k = gf := hk; have := Kd.R_base H2x.out k e.symm; have := HGL.out; omega))⟩
     have HBc : Aside0 (Below w.heap.size w wc) := ⟨⟨ho.trans HBx.out.os, hta.trans HBx.out.tape, hou.trans HBx.out.output, Nat.le_trans HBx.out.size hsz, fun k hk => (hfr k (Nat.lt_of_lt_of_le hk HBx.out.size) (by have := HGT.out; omega) (fun e => by have := Kd.R_base H2x.out k e.symm; have := HGT.out; have := HGF.out; have := HGL.out; omega)).trans (HBx.out.block k hk)⟩⟩
     clear hs hi hib hT hR ho hta hou hsz hfr
     refine hK.out (Act.put _ (some 50) _) _ HAc.out (fun hS0 => ?_)
     clear hK
     refine norm_ (a' := ?_) ?_ ?_
     rotate_left
     ·simp only [Act.put, List.setIfInBounds_toArray, List.set_cons_zero, List.set_cons_succ]
      rfl
     clear hS0
     refine one_ (i := 6) (N := none) #[true, true, true, true, true, true, true, false] rfl rfl (by kernel_rfl) (by decide) (fun K hK => ?_)
     refine skip_ (w1 := wc.setRow gl (vs (blockL l n p))) (by rfl) rfl ?_ ?_
     ·refine exec_store (.tmp 9) (.tmp 45) (old := last) (ys := blockL l n p) (g := gl) ?_ ?_ ?_ HLc.out HLL.out (blockL_length l n p)
      ·rfl
      ·rfl
      ·rfl
     have hgs := grown_setRow wc gl (vs (blockL l n p))
     have HAd : Aside0 (Arr (wc.setRow gl (vs (blockL l n p))) gb (blockL l n p)) := ⟨(hgs.block _ (blk_lt HAc.out) (fun e => by have e2 : gb = gl := Option.some.inj e; have := HGB.out; omega)).trans HAc.out⟩
     have HLd : Aside0 (Arr (wc.setRow gl (vs (blockL l n p))) gl (blockL l n p)) := ⟨setRow_heap wc gl (vs last) (vs (blockL l n p)) 146 (0, 0) HLc.out⟩
     have HTd : Aside0 ((wc.setRow gl (vs (blockL l n p))).heap[gt]? = some (.cells (tabCells (.slice (some ⟨gf, 0, none⟩) 8704 cap) v2' n) 144 (0, 0))) := ⟨(hgs.block _ (blk_lt HTc.out) (fun e => by have e2 : gt = gl := Option.some.inj e; have := HGF.out; have := HGL.out; omega)).trans HTc.out⟩
     have HFd : Aside0 (Kd.R (Kd.int .i64) 3 (wc.setRow gl (vs (blockL l n p))) w.heap.size (fun k => k = gf) (.slice (some ⟨gf, 0, none⟩) 8704 cap) first) := ⟨Kd.R_grown HFc.out hgs (fun k hk e => by have e2 : k = gl := Option.some.inj e; have := HGL.out; omega)⟩
     have H2d : Aside0 (Kd.R kb 146 (wc.setRow gl (vs (blockL l n p))) (gl + 1) (fun k => k ≠ gt) v2' sec2) := ⟨Kd.R_mono (Kd.R_grown (Kd.R_mono (Kd.R_bound H2c.out) (fun k hk => (⟨hk.1, hk.2.1⟩ : k ≠ gt ∧ gl + 1 ≤ k))) hgs (fun k hk e => by have e2 : k = gl := Option.some.inj e; omega)) (fun k hk => hk.1)⟩
     have HBd : Aside0 (Below w.heap.size w (wc.setRow gl (vs (blockL l n p)))) := ⟨below_grown2 HBc.out (Nat.le_refl _) hgs (fun k e => by have e2 : gl = k := Option.some.inj e; have := HGT.out; have := HGF.out; have := HGL.out; omega)⟩
     clear hgs
     refine hK.out _ _ HAd.out (fun hS0 => ?_)
     clear hK
     refine pure_ (i := 7) (N := (some 10)) (v := ?_) (a' := ?_) #[true, true, true, true, true, true, true, true] rfl rfl (by kernel_rfl) (fun _ _ _ h => h) (Or.inl ⟨by rfl, ?_⟩) ?_ ?_
     rotate_left
     ·intro w'
      go_simp
      with_reducible rfl
     rotate_left
     ·simp only [Act.put, List.setIfInBounds_toArray, List.set_cons_zero, List.set_cons_succ]
      rfl
     refine done_ (by kernel_rfl) ?_
     clear hS0
     have t0 : (wc.setRow gl (vs (blockL l n p))).cell? ⟨gt, 0, none⟩ = some (.slice (some ⟨gf, 0, none⟩) 8704 cap) := (blk_cell HTd.out 0).trans rfl
     obtain ⟨y, z⟩ := Kd.R_celln (0 : Int) HFd.out (p : Int) (by omega) hpI
     have hp1 := (Kd.R_putg HFd.out (p : Int) (i : Int)).1
     rw [Int.toNat_natCast] at y z hp1
     have HP := Aside0.mk hp1
     have hgr := grown_set (wc.setRow gl (vs (blockL l n p))) gf p (.int .i64 (i : Int))
     have HTe : Aside0 (((wc.setRow gl (vs (blockL l n p))).setCell ⟨gf, p, none⟩ (.int .i64 (i : Int))).heap[gt]? = some (.cells (tabCells (.slice (some ⟨gf, 0, none⟩) 8704 cap) v2' n) 144 (0, 0))) := ⟨(hgr.block _ (blk_lt HTd.out) (fun e => by have e2 : gt = gf := Option.some.inj e; have := HGF.out; omega)).trans HTd.out⟩
     have HLe : Aside0 (Arr ((wc.setRow gl (vs (blockL l n p))).setCell ⟨gf, p, none⟩ (.int .i64 (i : Int))) gl (blockL l n p)) := ⟨(hgr.block _ (blk_lt HLd.out) (fun e => by have e2 : gl = gf := Option.some.inj e; have := HGL.out; omega)).trans HLd.out⟩
     have H2e : Aside0 (Kd.R kb 146 ((wc.setRow gl (vs (blockL l n p))).setCell ⟨gf, p, none⟩ (.int .i64 (i : Int))) (gl + 1) (fun k => k ≠ gt) v2' sec2) := ⟨Kd.R_mono (Kd.R_grown (Kd.R_mono (Kd.R_bound H2d.out) (fun k hk => (⟨hk.1, hk.2.1⟩ : k ≠ gt ∧ gl + 1 ≤ k))) hgr (fun k hk e => by have e2 : k = gf := Option.some.inj e; have := HGL.out; omega)) (fun k hk => hk.1)⟩
     have HBe : Aside0 (Below w.heap.size w ((wc.setRow gl (vs (blockL l n p))).setCell ⟨gf, p, none⟩ (.int .i64 (i : Int)))) := ⟨below_cells HBd.out (by have := HGT.out; have := HGF.out; omega) p [_]⟩
     clear hp1 hgr
     go_wp2_with fail
     exact ⟨⟨p + 1, k', (i : Int), _, sec2, blockL l n p, v2', by go_num, rfl, rfl, by omega, hk', HBE5, ⟨.inr ⟨by omega, i, rfl, HI.out, HIB.out⟩⟩, ⟨blockL_length l n p⟩, ⟨tab_next HTAB.out hlt HSS.out HI.out HIB.out⟩, HTe, HP, H2e, HLe, HBe⟩, by simp [intOf]; omega⟩
  ·have hpI : ¬ ((p : Int) < 8704) := by omega
   obtain rfl : p = 8704 := by omega
   go_wp2_with fail
   refine bodyPost_ret (results_tmp2 rfl _ _ _) rfl ?_
   exact ⟨gt, rfl, HGT.out, ⟨_, v2, first, second, HTr.out, (by have h := SLk.of_R HFr.out; exact h), SLk.of_R H2r.out, HTAB.out⟩, HBr.out⟩
end Go.Proofs.YtemhccjjcioodaaGreat.CTrie
end
section
namespace Go.Proofs.YtemhccjjcioodaaGreat.UTable
open Go Go.Proofs.YtemhccjjcioodaaGreat.U
structure T3 where
 a : Int
 b : Int
 c : Int
def T3.v (r : T3) : Value := .agg #[.int .i64 r.a, .int .i64 r.b, .int .i64 r.c]
def T3.op (t : TypeId) (r : T3) : Op := .build t #[(0, .const (.int .i64 r.a)), (1, .const (.int .i64 r.b)), (2, .const (.int .i64 r.c))]
def reops (t : TypeId) : Nat → List Oper → List T3 → List Oper
 | _, os, [] => os
 | _, [], _ :: _ => []
 | i, o :: os, r :: rs => { dst := some i, op := r.op t, type := o.type, pos := o.pos, after := o.after, guard := none } :: reops t (i + 1) os rs
def tripOf (o : Oper) : Option T3 := match o.op with
 | .build _ ps => match ps.toList with
  | [(_, .const (.int _ a)), (_, .const (.int _ b)), (_, .const (.int _ c))] => some ⟨a, b, c⟩
  | _ => none
 | _ => none
def flat (rs : List T3) : List Value := rs.flatMap fun x => [.int .i64 x.a, .int .i64 x.b, .int .i64 x.c]
def Builds (P : Program) (t : TypeId) : Prop := ∀ (ev : Operand → Value) (_ : ∀ v, ev (.const v) = v) (o : Oper) (r : T3) (w : World), o.op = r.op t → (execOp ev o).run P w = .ok (.value r.v) w
theorem run_builds {P : Program} {call : CallF} {ops : Array Oper} {t : TypeId} (hb : Builds P t) (d : List Deferred) : ∀ (rs : List T3) (os : List Oper) (i : Nat) (pre post : List Value) (w : World), pre.length = i → rs.length ≤ os.length → rs.length ≤ post.length → runList P call ops (reops t i os rs) { tmps := (pre ++ post).toArray, defers := d } w = runList P call ops (os.drop rs.length) { tmps := (pre ++ rs.map T3.v ++ post.drop rs.length).toArray, defers := d } w
 | [], os, i, pre, post, w, _, _, _ => by simp [reops]
 | r :: rs, [], i, pre, post, w, _, h, _ => by simp at h
 | r :: rs, o :: os, i, pre, [], w, _, _, h => by simp at h
 | r :: rs, o :: os, i, pre, p :: post, w, h1, h2, h3 => by
  conv => lhs; unfold reops runList
  rw [if_pos (by rfl), hb _ (fun v => rfl) _ r w rfl]
  dsimp only
  have e : (({ tmps := (pre ++ p :: post).toArray, defers := d } : Act).put (some i) r.v) = { tmps := ((pre ++ [r.v]) ++ post).toArray, defers := d } := by
   simp only [Act.put, List.setIfInBounds_toArray]
   congr 2
   subst h1
   simp
  rw [e, run_builds hb d rs os (i + 1) (pre ++ [r.v]) post w (by simp; omega) (by simpa using h2) (by simpa using h3)]
  simp
theorem take3 (l : List Value) (k : Nat) (x y z : Value) (h : k + 3 ≤ l.length) : (((l.set k x).set (k + 1) y).set (k + 2) z).take (k + 3) = l.take k ++ [x, y, z] := by
 refine List.ext_getElem? fun i => ?_
 rw [List.getElem?_take, List.getElem?_append, List.length_take, Nat.min_eq_left (by omega)]
 by_cases h0 : i < k
 ·rw [if_pos (by omega), if_pos h0, List.getElem?_set_ne (by omega), List.getElem?_set_ne (by omega), List.getElem?_set_ne (by omega), List.getElem?_take, if_pos h0]
 ·rw [if_neg h0]
  obtain ⟨j, rfl⟩ : ∃ j, i = k + j := ⟨i - k, by omega⟩
  rw [Nat.add_sub_cancel_left]
  match j with
  | 0 => rw [if_pos (by omega), List.getElem?_set_ne (by omega), List.getElem?_set_ne (by omega), Nat.add_zero, List.getElem?_set_self (by omega)]; rfl
  | 1 => rw [if_pos (by omega), List.getElem?_set_ne (by omega), List.getElem?_set_self (by simp; omega)]; rfl
  | 2 => rw [if_pos (by omega), List.getElem?_set_self (by simp; omega)]; rfl
  | j + 3 => rw [if_neg (by omega)]; rfl
theorem fill_rows : ∀ (rs : List T3) (j : Nat) (cells : Array Value), j * 3 + rs.length * 3 = cells.size → Instr.fill (fun i => some (i * 3, 3)) cells ((rs.zipIdx j).map fun p => (p.2, p.1.v)) = some (cells.toList.take (j * 3) ++ flat rs).toArray
 | [], j, cells, h => by
  unfold Instr.fill
  simp only [List.zipIdx_nil, List.map_nil, flat, List.flatMap_nil, List.append_nil]
  rw [List.take_of_length_le (by simp at h ⊢; omega)]
 | r :: rs, j, cells, h => by
  rw [List.zipIdx_cons, List.map_cons]
  unfold Instr.fill
  have hc : (T3.v r).cells = #[.int .i64 r.a, .int .i64 r.b, .int .i64 r.c] := rfl
  rw [List.length_cons] at h
  dsimp only
  rw [hc]
  rw [if_neg (by simp; omega)]
  have hz : ((#[.int .i64 r.a, .int .i64 r.b, .int .i64 r.c] : Array Value).zipIdx.foldl (fun cs (p : Value × Nat) => cs.setIfInBounds (j * 3 + p.2) p.1) cells) = ((cells.setIfInBounds (j * 3) (.int .i64 r.a)).setIfInBounds (j * 3 + 1) (.int .i64 r.b)).setIfInBounds (j * 3 + 2) (.int .i64 r.c) := rfl
  rw [hz, fill_rows rs (j + 1) _ (by simp; omega)]
  congr 2
  simp only [Array.toList_setIfInBounds]
  rw [show (j + 1) * 3 = j * 3 + 3 by omega, take3 _ _ _ _ _ (by simp; omega), List.append_assoc]
  unfold flat
  rw [List.flatMap_cons]
def partsOf (n : Nat) : Array (Nat × Operand) := ((List.range n).map fun i => (i, Operand.tmp (i + 1))).toArray
structure Rows (P : Program) (ts t : TypeId) : Prop where
 slice : ∀ w, (underlying ts).run P w = .ok (.slice t) w
 size : ∀ w, (sizeOf t).run P w = .ok 3 w
 zero : ∀ w, ∃ v, (zeroValue t).run P w = .ok v w
theorem run_rows {P : Program} {ts t : TypeId} (h : Rows P ts t) {o : Oper} {rs : List T3} {a : Act} {w : World} (hm : rs.length ≤ 100000) (h0 : rs ≠ []) (ho : o.op = .buildSlice ts rs.length (partsOf rs.length)) (hx : ∀ (i : Nat) (hi : i < rs.length), a.eval (.tmp (i + 1)) = rs[i].v) :
 (execOp a.eval o).run P w = .ok (.value (.slice (some ⟨w.heap.size, 0, none⟩) rs.length rs.length)) (w.alloc (.cells (flat rs).toArray t)) := by
 have hl : rs.length ≠ 0 := fun e => h0 (List.length_eq_zero_iff.1 e)
 have hp : ((partsOf rs.length).map fun x => (x.1, a.eval x.2)).toList = (rs.zipIdx 0).map fun p => (p.2, p.1.v) := by
  unfold partsOf
  rw [Array.toList_map]
  refine List.ext_getElem (by simp) fun i h1 h2 => ?_
  simp only [List.getElem_map, List.getElem_range, List.getElem_zipIdx, Nat.zero_add]
  rw [hx i (by simpa using h1)]
 obtain ⟨zv, hz⟩ := h.zero w
 unfold execOp
 simp only [ho]
 unfold Instr.buildSlice
 have hfill : Instr.fill (fun i => some (i * 3, 3)) ((Array.range (rs.length * 3)).map (zv.cells[· % zv.cells.size]!)) ((partsOf rs.length).map fun x => (x.1, a.eval x.2)).toList = some (flat rs).toArray := by
  rw [hp, fill_rows rs 0 _ (by simp)]
  simp
 rw [Array.toList_map] at hfill
 have hl3 : ¬ (rs.length * 3 = 0) := by omega
 have hs := h.slice w
 have hsz := h.size w
 simp [hs, hsz, hz, hfill, hl3, newRow, show ¬ (2 ^ 24 < rs.length * 3) by omega]
structure TableFn (P : Program) (ts t : TypeId) (f : Nat) (fn : Func) (o0 : Oper) (ops : Array Oper) (rs : List T3) (oS oA : Oper) (i0 i1 : Nat) : Prop where
 get : P.funcs[f]? = some fn
 body : fn.body = some ((Code.region i0 #[o0] false).seq ((Code.region i1 ops false).seq .ret))
 h0 : o0.op = .assign (.const (.slice none 0 0)) ∧ o0.dst = some 0 ∧ o0.guard = none
 rows : reops t 1 ops.toList rs = ops.toList
 rest : ops.toList.drop rs.length = [oS, oA]
 hS : oS.op = .buildSlice ts rs.length (partsOf rs.length) ∧ oS.dst = some (rs.length + 1) ∧ oS.guard = none
 hA : oA.op = .assign (.tmp (rs.length + 1)) ∧ oA.dst = some 0 ∧ oA.guard = none
 ntmps : fn.ntmps = rs.length + 2
 res : fn.results = #[.tmp 0]
theorem set_toArray (l : List Value) (i : Nat) (v : Value) (d : List Deferred) : (({ tmps := l.toArray, defers := d } : Act).put (some i) v) = { tmps := (l.set i v).toArray, defers := d } := by
 simp [Act.put]
theorem table_run {P : Program} {ts t : TypeId} {f : Nat} {fn : Func} {o0 : Oper} {ops : Array Oper} {rs : List T3} {oS oA : Oper} {i0 i1 : Nat} (h : TableFn P ts t f fn o0 ops rs oS oA i0 i1) (hr : Rows P ts t) (hb : Builds P t) (hm : rs.length ≤ 100000) (hn : rs ≠ []) (w : World) :
 runF P 10 1 f #[] w = some (.slice (some ⟨w.heap.size, 0, none⟩) rs.length rs.length, w.alloc (.cells (flat rs).toArray t)) := by
 have hl : rs.length ≤ ops.toList.length := by
  have := congrArg List.length h.rest
  simp at this
  simp
  omega
 have hstart : (#[] ++ Array.replicate (fn.ntmps - (#[] : Array Value).size) undef) = (undef :: List.replicate (rs.length + 1) undef).toArray := by
  rw [h.ntmps]
  apply Array.ext'
  simp [List.replicate_succ]
 have e1 : (runList P (runF P 10 0) #[o0] [o0] { tmps := (undef :: List.replicate (rs.length + 1) undef).toArray, defers := [] } w) = some ({ tmps := ([Value.slice none 0 0] ++ List.replicate (rs.length + 1) undef).toArray, defers := [] }, w) := by
  unfold runList
  rw [if_pos (by unfold Region.wanted; rw [h.h0.2.2])]
  unfold execOp
  simp only [h.h0.1, h.h0.2.1, Sem.run_pure, set_toArray]
  unfold runList
  rfl
 have hdrop : (List.replicate (rs.length + 1) undef).drop rs.length = [undef] := by simp
 have e2 : runList P (runF P 10 0) ops ops.toList { tmps := ([Value.slice none 0 0] ++ List.replicate (rs.length + 1) undef).toArray, defers := [] } w = some ({ tmps := (((Value.slice (some ⟨w.heap.size, 0, none⟩) rs.length rs.length) :: rs.map T3.v) ++ [Value.slice (some ⟨w.heap.size, 0, none⟩) rs.length rs.length]).toArray, defers := [] }, w.alloc (.cells (flat rs).toArray t)) := by
  conv => lhs; arg 4; rw [← h.rows]
  rw [run_builds hb [] rs ops.toList 1 [Value.slice none 0 0] _ w rfl hl (by simp), h.rest, hdrop]
  unfold runList
  rw [if_pos (by unfold Region.wanted; rw [h.hS.2.2])]
  rw [run_rows hr hm hn h.hS.1 (fun i hi => by
   show ([Value.slice none 0 0] ++ List.map T3.v rs ++ [undef]).toArray.getD (i + 1) undef = _
   simp [List.getElem?_append, hi])]
  dsimp only
  rw [h.hS.2.1, set_toArray]
  unfold runList
  rw [if_pos (by unfold Region.wanted; rw [h.hA.2.2])]
  unfold execOp
  simp only [h.hA.1, h.hA.2.1]
  have hs : ([Value.slice none 0 0] ++ List.map T3.v rs ++ [undef]).set (rs.length + 1) (Value.slice (some { block := w.heap.size, off := 0 }) rs.length rs.length) = Value.slice none 0 0 :: (List.map T3.v rs ++ [Value.slice (some { block := w.heap.size, off := 0 }) rs.length rs.length]) := by
   simp
  rw [hs]
  have hv : (({ tmps := (Value.slice none 0 0 :: (List.map T3.v rs ++ [Value.slice (some { block := w.heap.size, off := 0 }) rs.length rs.length])).toArray, defers := [] } : Act).eval (.tmp (rs.length + 1))) = Value.slice (some { block := w.heap.size, off := 0 }) rs.length rs.length := by
   show (Value.slice none 0 0 :: (List.map T3.v rs ++ [Value.slice (some { block := w.heap.size, off := 0 }) rs.length rs.length])).toArray.getD (rs.length + 1) undef = _
   simp
  rw [hv]
  simp only [Sem.run_pure, set_toArray]
  unfold runList
  simp
 unfold runF
 rw [h.get]
 dsimp only
 rw [h.body]
 dsimp only
 rw [hstart]
 unfold runC
 unfold runC
 dsimp only
 rw [e1]
 dsimp only [Option.map]
 unfold runC
 dsimp only
 rw [e2]
 dsimp only [Option.map]
 rw [if_pos List.length_nil]
 unfold resOf
 rw [h.res]
 rfl
end Go.Proofs.YtemhccjjcioodaaGreat.UTable
end
