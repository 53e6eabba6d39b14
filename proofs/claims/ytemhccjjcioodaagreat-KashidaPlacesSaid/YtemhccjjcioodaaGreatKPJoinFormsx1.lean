/- Texts of this claim, cut to what it needs. -/
import Derived.Test.YtemhccjjcioodaaGreatKUTable
import Derived.Test.YtemhccjjcioodaaGreatProg
import Derived.Below
import Derived.Deep.Draws
import Derived.Deep.AppendLies
import Derived.Maps.AppendAt
import Derived.OwnWalk
import Derived.Laws.BytesArg
import Derived.Laws.MakeOwn
import Derived.Laws.OwnMore
import Derived.Deep.OwnRows
import Derived.Tactics
import Derived.Lib.ConvBytes
import Derived.Laws.Slices
import Derived.WalkKit
import Derived.KernelRfl
import Derived.RowKit3
import Derived.Deep.LoopGhost
import Derived.Deep.QuietTactic
import Derived.BigQuiet
import Derived.WideLaws
import Derived.Deep.DeepCutAuto
import Derived.Deep.CutBlock
import Derived.Deep.RegionHeld3
import Derived.Laws.Rows
import Derived.Lib.AppendStr
import Derived.ArgAppend
import Derived.Laws.IdiomCopy
import Derived.OrdersHeld
import Derived.Laws.BitsLemmas
import Derived.RowKit
import Derived.Test.YtemhccjjcioodaaGreatKWLast
import Derived.Test.YtemhccjjcioodaaGreatKWMore
import Derived.Test.YtemhccjjcioodaaGreatKCFinA
set_option linter.unusedSimpArgs false
set_option linter.unusedVariables false
section
namespace Go.Proofs.YtemhccjjcioodaaGreat.CProps
open Go.RowKit Go.Proofs.YtemhccjjcioodaaGreatW.PrintWords Go.Proofs.YtemhccjjcioodaaGreatW.PrintMore Go.Proofs.YtemhccjjcioodaaGreatW.PrintLast Go.Proofs.YtemhccjjcioodaaGreat.U Go.Proofs.YtemhccjjcioodaaGreat.CBase Go.Proofs.YtemhccjjcioodaaGreat.UTrie Go.Proofs.YtemhccjjcioodaaGreat.PEmbedJoins Go.Proofs.YtemhccjjcioodaaGreat.CTrie Go.Proofs.YtemhccjjcioodaaGreat.UTable
def flat3 (rs : List S127) : List Value := rs.flatMap fun x => [.int .i64 x.f0, .int .i64 x.f1, .int .i64 x.f2]
theorem flat3_get (rs : List S127) : ∀ (j : Nat) (x : S127), rs[j]? = some x → ∀ (i : Nat) (u : Value), ([.int .i64 x.f0, .int .i64 x.f1, .int .i64 x.f2] : List Value)[i]? = some u → (flat3 rs)[j * 3 + i]? = some u := by
 induction rs with
 | nil => intro j x h; simp at h
 | cons r t ih =>
  intro j x h i u hu
  have hi : i < 3 := by
   have := (List.getElem?_eq_some_iff.1 hu).1
   simpa using this
  cases j with
  | zero =>
   obtain rfl := Option.some.inj h
   unfold flat3
   rw [List.flatMap_cons, List.getElem?_append_left (by simp; omega)]
   simpa using hu
  | succ j =>
   have := ih j x h i u hu
   unfold flat3 at this ⊢
   rw [List.flatMap_cons, List.getElem?_append_right (by simp; omega)]
   simp only [List.length_cons, List.length_nil]
   rw [show (j + 1) * 3 + i - (0 + 1 + 1 + 1) = j * 3 + i by omega]
   exact this
theorem C_flat3 (w : World) (rs : List S127) (t : TypeId) (hm : rs.length ≤ 1000000) : Kd.C k127 (w.alloc (.cells (flat3 rs).toArray t)) (some ⟨w.heap.size, 0, none⟩) rs.length rs := by
 refine ⟨rfl, by omega, fun _ => ⟨_, rfl, fun j p hj => ⟨_, rfl, k127_mk _ p, fun i u hu => ?_⟩⟩⟩
 rw [add_plain, World.cell?_alloc_new]
 have := flat3_get rs j p hj i u hu
 show (flat3 rs).toArray[j * 3 + i]? = some u
 simpa using this
noncomputable def ops95 : Array Oper := match Tryz.f53.body with
 | some (.seq _ (.seq (.region _ ops _) _)) => ops
 | _ => #[]
noncomputable def ops96 : Array Oper := match Tryz.f54.body with
 | some (.seq _ (.seq (.region _ ops _) _)) => ops
 | _ => #[]
noncomputable def op0 (f : Func) : Oper := match f.body with
 | some (.seq (.region _ ops _) _) => ops.toList.headD default
 | _ => default
noncomputable def tB : List T3 := ops95.toList.filterMap tripOf
noncomputable def tJ : List T3 := ops96.toList.filterMap tripOf
theorem tB_length : tB.length = 230 := by kernel_rfl
theorem tJ_length : tJ.length = 68 := by kernel_rfl
theorem rows127 : UTable.Rows Tryz.prog 74 151 := ⟨fun w => by simp, fun w => by simp, fun w => ⟨.agg #[.int .i64 0, .int .i64 0, .int .i64 0], by simp⟩⟩
theorem builds127 : Builds Tryz.prog 151 := by
 intro ev hev o r w ho
 unfold execOp
 simp [ho, T3.op, T3.v, Instr.build, hev, Instr.fill]
 rfl
theorem fn95 : TableFn Tryz.prog 74 151 53 Tryz.f53 (op0 Tryz.f53) ops95 tB (ops95.toList.getD 230 default) (ops95.toList.getD (230 + 1) default) 0 1 where
 get := Tryz.func53
 body := by kernel_rfl
 h0 := by refine ⟨?_, ?_, ?_⟩ <;> kernel_rfl
 rows := by kernel_rfl
 rest := by kernel_rfl
 hS := by rw [tB_length]; refine ⟨?_, ?_, ?_⟩ <;> kernel_rfl
 hA := by rw [tB_length]; refine ⟨?_, ?_, ?_⟩ <;> kernel_rfl
 ntmps := by rw [tB_length]; kernel_rfl
 res := by kernel_rfl
theorem fn96 : TableFn Tryz.prog 74 151 54 Tryz.f54 (op0 Tryz.f54) ops96 tJ (ops96.toList.getD 68 default) (ops96.toList.getD 69 default) 0 1 where
 get := Tryz.func54
 body := by kernel_rfl
 h0 := by refine ⟨?_, ?_, ?_⟩ <;> kernel_rfl
 rows := by kernel_rfl
 rest := by kernel_rfl
 hS := by rw [tJ_length]; refine ⟨?_, ?_, ?_⟩ <;> kernel_rfl
 hA := by rw [tJ_length]; refine ⟨?_, ?_, ?_⟩ <;> kernel_rfl
 ntmps := by rw [tJ_length]; kernel_rfl
 res := by kernel_rfl
noncomputable def rsB : List S127 := tB.map fun t => ⟨t.a, t.b, t.c⟩
noncomputable def rsJ : List S127 := tJ.map fun t => ⟨t.a, t.b, t.c⟩
theorem rsB_length : rsB.length = 230 := by unfold rsB; rw [List.length_map, tB_length]
theorem rsJ_length : rsJ.length = 68 := by unfold rsJ; rw [List.length_map, tJ_length]
theorem flat_map (l : List T3) : flat l = flat3 (l.map fun t => (⟨t.a, t.b, t.c⟩ : S127)) := by
 unfold flat flat3
 rw [List.flatMap_map]
theorem bidi_c (w : World) : Calls Tryz.prog 53 #[] w fun e w' => e = .returned (.slice (some ⟨w.heap.size, 0, none⟩) rsB.length rsB.length) ∧ Kd.C k127 w' (some ⟨w.heap.size, 0, none⟩) rsB.length rsB ∧ Below w.heap.size w w' := by
 refine (runF_ok 10 1 53 #[] w _ _ (table_run fn95 rows127 builds127 (by rw [tB_length]; decide) (fun h => by have := tB_length; rw [h] at this; simp at this) w)).mono ?_
 rintro e W ⟨rfl, rfl⟩
 rw [show tB.length = rsB.length by rw [tB_length, rsB_length]]
 refine ⟨rfl, ?_, below_alloc (Below.refl _ _) _⟩
 rw [flat_map]
 exact C_flat3 w rsB 151 (by rw [rsB_length]; decide)
theorem joinr_c (w : World) : Calls Tryz.prog 54 #[] w fun e w' => e = .returned (.slice (some ⟨w.heap.size, 0, none⟩) rsJ.length rsJ.length) ∧ Kd.C k127 w' (some ⟨w.heap.size, 0, none⟩) rsJ.length rsJ ∧ Below w.heap.size w w' := by
 refine (runF_ok 10 1 54 #[] w _ _ (table_run fn96 rows127 builds127 (by rw [tJ_length]; decide) (fun h => by have := tJ_length; rw [h] at this; simp at this) w)).mono ?_
 rintro e W ⟨rfl, rfl⟩
 rw [show tJ.length = rsJ.length by rw [tJ_length, rsJ_length]]
 refine ⟨rfl, ?_, below_alloc (Below.refl _ _) _⟩
 rw [flat_map]
 exact C_flat3 w rsJ 151 (by rw [rsJ_length]; decide)
def okb (last : Int) : List S127 → Bool
 | [] => true
 | r :: t => decide (last < r.f0) && decide (r.f0 ≤ r.f1) && decide (r.f1 ≤ 1114111) && decide (-1000 ≤ r.f2) && decide (r.f2 ≤ 1000) && okb r.f1 t
theorem rsB_okb : okb (-1) rsB = true := by kernel_rfl
theorem rsJ_okb : okb (-1) rsJ = true := by kernel_rfl
theorem ok_of_okb : ∀ (l : List S127) (last : Int), -1 ≤ last → okb last l = true → Ok l ∧ ∀ r ∈ l, last < r.f0 := by
 intro l
 induction l with
 | nil => intro last _ _; exact ⟨⟨List.Pairwise.nil, fun r h => by simp at h⟩, fun r h => by simp at h⟩
 | cons r t ih =>
  intro last h0 h
  simp only [okb, Bool.and_eq_true, decide_eq_true_eq] at h
  obtain ⟨⟨⟨⟨⟨h1, h2⟩, h3⟩, _⟩, _⟩, h4⟩ := h
  obtain ⟨ok, hb⟩ := ih r.f1 (by omega) h4
  refine ⟨⟨List.Pairwise.cons (fun b hb2 => hb b hb2) ok.apart, fun x hx => ?_⟩, fun x hx => ?_⟩
  ·rcases List.mem_cons.1 hx with rfl | hx
   ·exact ⟨by omega, h2, h3⟩
   ·exact ok.right x hx
  ·rcases List.mem_cons.1 hx with rfl | hx
   ·exact h1
   ·have := hb x hx; omega
theorem okB : Ok rsB := (ok_of_okb rsB (-1) (by omega) rsB_okb).1
theorem okJ : Ok rsJ := (ok_of_okb rsJ (-1) (by omega) rsJ_okb).1
theorem exec_shr7 {a : Act} {o : Oper} (w : World) (x : Operand) (c q : Nat) (hq : q = c / 128) (ho : o.op = .binOp .shr 3 x (.const (.int .u64 7)) 159) (hx : a.eval x = .int .i64 c) : (execOp a.eval o).run Tryz.prog w = .ok (.value (.int .i64 (q : Int))) w := by
 subst hq
 have h1 : (binOp .shr 3 (.int .i64 c) (.int .u64 7)) = pure (.int .i64 ((c : Int) / 2 ^ (7 : Int).toNat)) := shift_shr .i64 .u64 c 7 (by decide) (by decide)
 have h2 : ∀ u v, eqGuard .shr 3 x (.const (.int .u64 7)) u v = pure () := fun u v => rfl
 have he : a.eval (.const (.int .u64 7)) = .int .u64 7 := rfl
 have h128 : (c : Int) / 2 ^ (7 : Int).toNat = ((c / 128 : Nat) : Int) := by show (c : Int) / 128 = _; omega
 unfold execOp
 simp only [ho, hx, he, h2, h1, h128]
 rfl
theorem exec_and127 {a : Act} {o : Oper} (w : World) (x : Operand) (c r : Nat) (hc : c < 2000000) (hr : r = c % 128) (ho : o.op = .binOp .and 3 x (.const (.int .i64 127)) 3) (hx : a.eval x = .int .i64 c) : (execOp a.eval o).run Tryz.prog w = .ok (.value (.int .i64 (r : Int))) w := by
 subst hr
 have h1 : (binOp .and 3 (.int .i64 c) (.int .i64 127)) = pure (.int .i64 ((c % 128 : Nat) : Int)) := by
  show pure (Value.int .i64 (IntKind.i64.wrap ((BitVec.ofInt 64 (c : Int) &&& BitVec.ofInt 64 127).toNat : Int))) = _
  have e : (BitVec.ofInt 64 (c : Int) &&& BitVec.ofInt 64 127).toNat = c % 128 := by
   rw [BitVec.toNat_and, BitVec.toNat_ofInt, BitVec.toNat_ofInt]
   rw [show ((c : Int) % ((2 ^ 64 : Nat) : Int)).toNat = c by omega, show ((127 : Int) % ((2 ^ 64 : Nat) : Int)).toNat = 2 ^ 7 - 1 by decide]
   exact Nat.and_two_pow_sub_one_eq_mod c 7
  rw [e, IntWalk.i64_in _ (by omega)]
 have h2 : ∀ u v, eqGuard .and 3 x (.const (.int .i64 127)) u v = pure () := fun u v => rfl
 have he : a.eval (.const (.int .i64 127)) = .int .i64 127 := rfl
 unfold execOp
 simp only [ho, hx, he, h2, h1]
 rfl
theorem table_below {w w' : World} {l : List S127} {n : Int} {g : Nat} (h : Table w l n g) (hb : Below w.heap.size w w') : Table w' l n g := by
 obtain ⟨vf, v2, first, second, hT, h1, h2, tab⟩ := h
 exact ⟨vf, v2, first, second, (hb.block g (blk_lt hT)).trans hT, h1.below hb, h2.below hb, tab⟩
theorem getR_out (l : List S127) (ok : Ok l) (n c : Int) (h : c < 0 ∨ 1114111 < c) : getR l n c = n := getR_none l n c (fun r hr => by have := ok.right r hr; omega)
set_option maxRecDepth 100000 in
set_option maxHeartbeats 4000000 in
theorem at_c {w : World} {g : Nat} {l : List S127} {n : Int} (h : Table w l n g) (c : Nat) (hc : c ≤ 1114111) : Calls Tryz.prog 236 #[.pointer (some ⟨g, 0, none⟩), .int .i64 c] w fun e w' => e = .returned (.int .i64 (getR l n c)) ∧ Below w.heap.size w w' := by
 obtain ⟨vf, v2, first, second, hT, h1, h2, tab⟩ := h
 obtain ⟨A, cp, rfl, hlen, hC⟩ := h1
 obtain ⟨A2, cp2, rfl, hlen2, hC2⟩ := h2
 obtain ⟨i, hi, hf, hb⟩ := tab.each (c / 128) (by omega)
 have t0 : w.cell? ⟨g, 0, none⟩ = some (.slice A first.length cp) := (blk_cell hT 0).trans rfl
 have t1 : w.cell? ⟨g, 1, none⟩ = some (.slice A2 second.length cp2) := (blk_cell hT 1).trans rfl
 obtain ⟨ad, rfl, hcell⟩ := Kd.at_int hC ((c / 128 : Nat) : Int) (by omega) (by have := tab.len; omega)
 obtain ⟨ad2, rfl, hl2, hcell2⟩ := kb_at hC2 i hi
 have hv : (vs (second.getD i [])).toList[c % 128]? = some (.int .i64 (getR l n c)) := by
  rw [hb]
  have := blockL_get l n c
  have hlt : c % 128 < (blockL l n (c / 128)).length := by rw [blockL_length]; omega
  rw [List.getD_eq_getElem?_getD, List.getElem?_eq_getElem hlt, Option.getD_some] at this
  simp [vs, List.getElem?_eq_getElem hlt, this]
 have hcell2 := hcell2 _ _ hv
 have hlen1 := tab.len
 rw [Int.toNat_natCast] at hcell
 rw [show rd first ((c / 128 : Nat) : Int) = (i : Int) by show first.getD _ 0 = _; rw [Int.toNat_natCast]; exact hf] at hcell
 rw [hlen1] at t0
 obtain ⟨m, hm⟩ : ∃ m, m = second.length := ⟨_, rfl⟩
 rw [← hm] at t1 hi
 obtain ⟨q, hq⟩ : ∃ q, q = c / 128 := ⟨_, rfl⟩
 obtain ⟨r, hr⟩ : ∃ r, r = c % 128 := ⟨_, rfl⟩
 rw [← hq] at hcell
 rw [← hr] at hcell2
 have HQ := Aside0.mk hq
 have HR := Aside0.mk hr
 have hq1 : q < 8704 := by omega
 have hqI : (q : Int) < 8704 := by omega
 have hiI : (i : Int) < m := by omega
 have hrI : (r : Int) < 128 := by omega
 clear hq hr
 obtain ⟨X, hX⟩ : ∃ X, X = getR l n c := ⟨_, rfl⟩
 rw [← hX] at hcell2 ⊢
 clear hC hC2 hT tab hf hb hv hl2 hlen hlen2 hm hX hlen1
 go_enter Tryz.func236, Tryz.ntmps236
 go_wp2_with fail
 refine start_ (n := 18) (S := fun W => Below w.heap.size w W) (ds := []) #[false, false, false, false, false, false, false, false, false, false, false, false, false, false, false, false, false, false] (by kernel_rfl) (by kernel_rfl) (by rfl) (below_drew (Below.refl _ _)) (fun hS0 => ?_)
 refine pure_ (i := 0) (N := (some 5)) (v := ?_) (a' := ?_) #[true, false, false, false, false, false, false, false, false, false, false, false, false, false, false, false, false, false] rfl rfl (by kernel_rfl) (fun _ _ _ h => h) (Or.inl ⟨by rfl, ?_⟩) ?_ ?_
 rotate_left
 ·intro w'
  go_simp
  with_reducible rfl
 rotate_left
 ·simp only [Act.put, List.setIfInBounds_toArray, List.set_cons_zero, List.set_cons_succ]
  rfl
 refine pure_ (i := 1) (N := (some 6)) (v := ?_) (a' := ?_) #[true, true, false, false, false, false, false, false, false, false, false, false, false, false, false, false, false, false] rfl rfl (by kernel_rfl) (fun _ _ _ h => h) (Or.inl ⟨by rfl, ?_⟩) ?_ ?_
 rotate_left
 ·intro w'
  go_simp
  with_reducible rfl
 rotate_left
 ·simp only [Act.put, List.setIfInBounds_toArray, List.set_cons_zero, List.set_cons_succ]
  rfl
 refine pure_ (i := 2) (N := (some 7)) (v := ?_) (a' := ?_) #[true, true, true, false, false, false, false, false, false, false, false, false, false, false, false, false, false, false] rfl rfl (by kernel_rfl) (fun _ _ _ h => h) (Or.inl ⟨by rfl, ?_⟩) ?_ ?_
 rotate_left
 ·intro w'
  go_simp
  with_reducible rfl
 rotate_left
 ·simp only [Act.put, List.setIfInBounds_toArray, List.set_cons_zero, List.set_cons_succ]
  rfl
 refine take_ (i := 3) (N := (some 8)) (v := ?_) (a' := ?_) #[true, true, true, true, false, false, false, false, false, false, false, false, false, false, false, false, false, false] rfl rfl (by kernel_rfl) (fun _ _ _ h => h) (Or.inl ⟨by rfl, ?_⟩) hS0 ?_ ?_
 rotate_left
 ·intro w' s0
  have hx := (s0.cell (World.block_lt_of_cell? _ _ t1)).trans t1
  go_simp
  with_reducible rfl
 rotate_left
 ·simp only [Act.put, List.setIfInBounds_toArray, List.set_cons_zero, List.set_cons_succ]
  rfl
 refine pure_ (i := 4) (N := (some 9)) (v := ?_) (a' := ?_) #[true, true, true, true, true, false, false, false, false, false, false, false, false, false, false, false, false, false] rfl rfl (by kernel_rfl) (fun _ _ _ h => h) (Or.inl ⟨by rfl, ?_⟩) ?_ ?_
 rotate_left
 ·intro w'
  go_simp
  with_reducible rfl
 rotate_left
 ·simp only [Act.put, List.setIfInBounds_toArray, List.set_cons_zero, List.set_cons_succ]
  rfl
 refine pure_ (i := 5) (N := (some 10)) (v := ?_) (a' := ?_) #[true, true, true, true, true, true, false, false, false, false, false, false, false, false, false, false, false, false] rfl rfl (by kernel_rfl) (fun _ _ _ h => h) (Or.inl ⟨by rfl, ?_⟩) ?_ ?_
 rotate_left
 ·intro w'
  go_simp
  with_reducible rfl
 rotate_left
 ·simp only [Act.put, List.setIfInBounds_toArray, List.set_cons_zero, List.set_cons_succ]
  rfl
 refine pure_ (i := 6) (N := (some 11)) (v := ?_) (a' := ?_) #[true, true, true, true, true, true, true, false, false, false, false, false, false, false, false, false, false, false] rfl rfl (by kernel_rfl) (fun _ _ _ h => h) (Or.inl ⟨by rfl, ?_⟩) ?_ ?_
 rotate_left
 ·intro w'
  go_simp
  with_reducible rfl
 rotate_left
 ·simp only [Act.put, List.setIfInBounds_toArray, List.set_cons_zero, List.set_cons_succ]
  rfl
 refine take_ (i := 7) (N := (some 12)) (v := ?_) (a' := ?_) #[true, true, true, true, true, true, true, true, false, false, false, false, false, false, false, false, false, false] rfl rfl (by kernel_rfl) (fun _ _ _ h => h) (Or.inl ⟨by rfl, ?_⟩) hS0 ?_ ?_
 rotate_left
 ·intro w' s0
  have hx := (s0.cell (World.block_lt_of_cell? _ _ t0)).trans t0
  go_simp
  with_reducible rfl
 rotate_left
 ·simp only [Act.put, List.setIfInBounds_toArray, List.set_cons_zero, List.set_cons_succ]
  rfl
 refine pure_ (i := 8) (N := (some 13)) (v := ?_) (a' := ?_) #[true, true, true, true, true, true, true, true, true, false, false, false, false, false, false, false, false, false] rfl rfl (by kernel_rfl) (fun _ _ _ h => h) (Or.inl ⟨by rfl, ?_⟩) ?_ ?_
 rotate_left
 ·intro w'
  go_simp
  with_reducible rfl
 rotate_left
 ·simp only [Act.put, List.setIfInBounds_toArray, List.set_cons_zero, List.set_cons_succ]
  rfl
 refine pure_ (i := 9) (N := (some 14)) (v := ?_) (a' := ?_) #[true, true, true, true, true, true, true, true, true, true, false, false, false, false, false, false, false, false] rfl rfl (by kernel_rfl) (fun _ _ _ h => h) (Or.inl ⟨by rfl, ?_⟩) ?_ ?_
 rotate_left
 ·intro w'
  refine exec_shr7 w' (.tmp 13) c q HQ.out ?_ ?_
  ·rfl
  ·rfl
 rotate_left
 ·simp only [Act.put, List.setIfInBounds_toArray, List.set_cons_zero, List.set_cons_succ]
  rfl
 refine pure_ (i := 10) (N := (some 15)) (v := ?_) (a' := ?_) #[true, true, true, true, true, true, true, true, true, true, true, false, false, false, false, false, false, false] rfl rfl (by kernel_rfl) (fun _ _ _ h => h) (Or.inl ⟨by rfl, ?_⟩) ?_ ?_
 rotate_left
 ·intro w'
  go_simp
  with_reducible rfl
 rotate_left
 ·simp only [Act.put, List.setIfInBounds_toArray, List.set_cons_zero, List.set_cons_succ]
  rfl
 refine take_ (i := 11) (N := (some 16)) (v := ?_) (a' := ?_) #[true, true, true, true, true, true, true, true, true, true, true, true, false, false, false, false, false, false] rfl rfl (by kernel_rfl) (fun _ _ _ h => h) (Or.inl ⟨by rfl, ?_⟩) hS0 ?_ ?_
 rotate_left
 ·intro w' s0
  have hx := (s0.cell (World.block_lt_of_cell? _ _ hcell)).trans hcell
  go_simp
  with_reducible rfl
 rotate_left
 ·simp only [Act.put, List.setIfInBounds_toArray, List.set_cons_zero, List.set_cons_succ]
  rfl
 refine pure_ (i := 12) (N := (some 17)) (v := ?_) (a' := ?_) #[true, true, true, true, true, true, true, true, true, true, true, true, true, false, false, false, false, false] rfl rfl (by kernel_rfl) (fun _ _ _ h => h) (Or.inl ⟨by rfl, ?_⟩) ?_ ?_
 rotate_left
 ·intro w'
  go_simp
  with_reducible rfl
 rotate_left
 ·simp only [Act.put, List.setIfInBounds_toArray, List.set_cons_zero, List.set_cons_succ]
  rfl
 refine pure_ (i := 13) (N := (some 18)) (v := ?_) (a' := ?_) #[true, true, true, true, true, true, true, true, true, true, true, true, true, true, false, false, false, false] rfl rfl (by kernel_rfl) (fun _ _ _ h => h) (Or.inl ⟨by rfl, ?_⟩) ?_ ?_
 rotate_left
 ·intro w'
  refine exec_and127 w' (.tmp 17) c r (by omega) HR.out ?_ ?_
  ·rfl
  ·rfl
 rotate_left
 ·simp only [Act.put, List.setIfInBounds_toArray, List.set_cons_zero, List.set_cons_succ]
  rfl
 refine pure_ (i := 14) (N := (some 19)) (v := ?_) (a' := ?_) #[true, true, true, true, true, true, true, true, true, true, true, true, true, true, true, false, false, false] rfl rfl (by kernel_rfl) (fun _ _ _ h => h) (Or.inl ⟨by rfl, ?_⟩) ?_ ?_
 rotate_left
 ·intro w'
  go_simp
  with_reducible rfl
 rotate_left
 ·simp only [Act.put, List.setIfInBounds_toArray, List.set_cons_zero, List.set_cons_succ]
  rfl
 refine pure_ (i := 15) (N := (some 20)) (v := ?_) (a' := ?_) #[true, true, true, true, true, true, true, true, true, true, true, true, true, true, true, true, false, false] rfl rfl (by kernel_rfl) (fun _ _ _ h => h) (Or.inl ⟨by rfl, ?_⟩) ?_ ?_
 rotate_left
 ·intro w'
  go_simp
  with_reducible rfl
 rotate_left
 ·simp only [Act.put, List.setIfInBounds_toArray, List.set_cons_zero, List.set_cons_succ]
  rfl
 refine take_ (i := 16) (N := (some 21)) (v := ?_) (a' := ?_) #[true, true, true, true, true, true, true, true, true, true, true, true, true, true, true, true, true, false] rfl rfl (by kernel_rfl) (fun _ _ _ h => h) (Or.inl ⟨by rfl, ?_⟩) hS0 ?_ ?_
 rotate_left
 ·intro w' s0
  have hx := (s0.cell (World.block_lt_of_cell? _ _ hcell2)).trans hcell2
  go_simp
  with_reducible rfl
 rotate_left
 ·simp only [Act.put, List.setIfInBounds_toArray, List.set_cons_zero, List.set_cons_succ]
  rfl
 refine pure_ (i := 17) (N := (some 4)) (v := ?_) (a' := ?_) #[true, true, true, true, true, true, true, true, true, true, true, true, true, true, true, true, true, true] rfl rfl (by kernel_rfl) (fun _ _ _ h => h) (Or.inl ⟨by rfl, ?_⟩) ?_ ?_
 rotate_left
 ·intro w'
  go_simp
  with_reducible rfl
 rotate_left
 ·simp only [Act.put, List.setIfInBounds_toArray, List.set_cons_zero, List.set_cons_succ]
  rfl
 refine done_ (by kernel_rfl) ?_
 go_wp2
 go_ret
 exact ⟨rfl, by assumption⟩
set_option maxRecDepth 100000 in
set_option maxHeartbeats 4000000 in
theorem has_c {w : World} {g : Nat} {l : List S127} {n : Int} (h : Table w l n g) (c : Int) : Calls Tryz.prog 235 #[.pointer (some ⟨g, 0, none⟩), .int .i64 c] w fun e w' => e = .returned (.bool (decide (0 ≤ c) && decide (c ≤ 1114111))) ∧ Below w.heap.size w w' := by
 obtain ⟨vf, v2, first, second, hT, h1, h2, tab⟩ := h
 have t3 : w.cell? ⟨g, 3, none⟩ = some (.bool true) := (blk_cell hT 3).trans rfl
 clear hT h1 h2 tab
 go_enter Tryz.func235, Tryz.ntmps235
 by_cases h1 : 0 ≤ c
 ·by_cases h2 : c ≤ 1114111
  ·go_wp2
   go_ret
   exact ⟨by simp [h1, h2], Below.refl _ _⟩
  ·go_wp2
   go_ret
   exact ⟨by simp [h1, h2], Below.refl _ _⟩
 ·go_wp2
  go_ret
  exact ⟨by simp [h1]; omega, Below.refl _ _⟩
set_option maxRecDepth 100000 in
set_option maxHeartbeats 4000000 in
theorem get_c {w : World} {g : Nat} {l : List S127} {n : Int} (h : Table w l n g) (ok : Ok l) (c : Int) : Calls Tryz.prog 177 #[.pointer (some ⟨g, 0, none⟩), .int .i64 c] w fun e w' => e = .returned (.int .i64 (getR l n c)) ∧ Below w.heap.size w w' := by
 have H := Aside0.mk h
 have HOK := Aside0.mk ok
 obtain ⟨vf, v2, first, second, hT, h1, h2, tab⟩ := h
 have t2 : w.cell? ⟨g, 2, none⟩ = some (.int .i64 n) := (blk_cell hT 2).trans rfl
 have t0 : w.cell? ⟨g, 0, none⟩ = some vf := (blk_cell hT 0).trans rfl
 clear hT h1 h2 tab ok
 by_cases hin : 0 ≤ c ∧ c ≤ 1114111
 ·obtain ⟨k, rfl⟩ : ∃ k : Nat, c = k := ⟨c.toNat, by omega⟩
  have hk : k ≤ 1114111 := by omega
  have hb : (decide ((0 : Int) ≤ k) && decide ((k : Int) ≤ 1114111)) = true := by simp; omega
  clear hin
  go_enter Tryz.func177, Tryz.ntmps177
  go_wp2_with fail
  refine (has_c H.out _).mono ?_
  rintro e w1 ⟨rfl, hb1⟩
  rw [hb]
  have HB1 := Aside0.mk hb1; clear hb1
  go_wp2_with fail
  refine (at_c (table_below H.out HB1.out) k hk).mono ?_
  rintro e w2 ⟨rfl, hb2⟩
  have HB2 : Aside0 (Below w.heap.size w w2) := ⟨below_step HB1.out hb2⟩
  clear hb2
  go_wp2
  go_ret
  exact ⟨rfl, HB2.out⟩
 ·have hb : (decide ((0 : Int) ≤ c) && decide ((c : Int) ≤ 1114111)) = false := by simp; omega
  have hG := Aside0.mk (getR_out l HOK.out n c (by omega))
  clear hin
  go_enter Tryz.func177, Tryz.ntmps177
  go_wp2_with fail
  refine (has_c H.out _).mono ?_
  rintro e w1 ⟨rfl, hb1⟩
  rw [hb]
  have t2' : w1.cell? ⟨g, 2, none⟩ = some (.int .i64 n) := (hb1.cell (World.block_lt_of_cell? _ _ t2)).trans t2
  have HB1 := Aside0.mk hb1; clear hb1
  go_wp2
  go_ret
  exact ⟨by rw [hG.out]; rfl, HB1.out⟩
def PropsAt (w : World) (g : Nat) : Prop := ∃ g1 g2 : Nat, w.heap[g]? = some (.cells #[.pointer (some ⟨g1, 0, none⟩), .pointer (some ⟨g2, 0, none⟩)] 79 (0, 0)) ∧ Table w rsB 0 g1 ∧ Table w rsJ 0 g2
theorem PropsAt.below {w w' : World} {g : Nat} (h : PropsAt w g) (hb : Below w.heap.size w w') : PropsAt w' g := by
 obtain ⟨g1, g2, hT, h1, h2⟩ := h
 exact ⟨g1, g2, (hb.block g (blk_lt hT)).trans hT, table_below h1 hb, table_below h2 hb⟩
noncomputable def cl (c : Int) : Int := if 0 ≤ c ∧ c ≤ 1114111 then getR rsB 0 c else 13
noncomputable def jn (c : Int) : Int := getR rsJ 0 c
set_option maxRecDepth 100000 in
set_option maxHeartbeats 4000000 in
theorem made_c {w : World} {g : Nat} (h : PropsAt w g) : Calls Tryz.prog 176 #[.pointer (some ⟨g, 0, none⟩)] w fun e w' => e = .returned (.bool true) ∧ Below w.heap.size w w' := by
 obtain ⟨g1, g2, hT, h1, h2⟩ := h
 have t0 : w.cell? ⟨g, 0, none⟩ = some (.pointer (some ⟨g1, 0, none⟩)) := (blk_cell hT 0).trans rfl
 clear hT h1 h2
 go_enter Tryz.func176, Tryz.ntmps176
 go_wp2
 go_ret
 exact ⟨rfl, Below.refl _ _⟩
set_option maxRecDepth 100000 in
set_option maxHeartbeats 4000000 in
theorem new_c (w : World) : Calls Tryz.prog 14 #[] w fun e w' => ∃ g : Nat, e = .returned (.pointer (some ⟨g, 0, none⟩)) ∧ PropsAt w' g ∧ Below w.heap.size w w' := by
 go_enter Tryz.func14, Tryz.ntmps14
 go_wp2_with fail
 refine (bidi_c w).mono ?_
 rintro e w1 ⟨rfl, hC1, hb1⟩
 have HB1 := Aside0.mk hb1
 have H1 : Aside0 (SLk k127 w1 (.slice (some ⟨w.heap.size, 0, none⟩) rsB.length rsB.length) rsB) := ⟨SLk.mk hC1 (Nat.le_refl _)⟩
 clear hC1 hb1
 go_wp2_with fail
 refine (build_c 0 H1.out okB (by rw [rsB_length]; decide)).mono ?_
 rintro e w2 ⟨g1, rfl, hg1, hT1, hb2⟩
 have HB2 : Aside0 (Below w.heap.size w w2) := ⟨below_step HB1.out hb2⟩
 have HT1 := Aside0.mk hT1
 clear hT1 hb2 hg1
 go_wp2_with fail
 refine (joinr_c w2).mono ?_
 rintro e w3 ⟨rfl, hC3, hb3⟩
 have HB3 : Aside0 (Below w.heap.size w w3) := ⟨below_step HB2.out hb3⟩
 have HT3 : Aside0 (Table w3 rsB 0 g1) := ⟨table_below HT1.out hb3⟩
 have H3 : Aside0 (SLk k127 w3 (.slice (some ⟨w2.heap.size, 0, none⟩) rsJ.length rsJ.length) rsJ) := ⟨SLk.mk hC3 (Nat.le_refl _)⟩
 clear hC3 hb3
 go_wp2_with fail
 refine (build_c 0 H3.out okJ (by rw [rsJ_length]; decide)).mono ?_
 rintro e w4 ⟨g2, rfl, hg2, hT4, hb4⟩
 have HB4 : Aside0 (Below w.heap.size w w4) := ⟨below_step HB3.out hb4⟩
 have HT4 : Aside0 (Table w4 rsB 0 g1) := ⟨table_below HT3.out hb4⟩
 have HJ4 := Aside0.mk hT4
 clear hT4 hb4 hg2
 go_wp2_with fail
 go_ret
 exact ⟨w4.heap.size, rfl, ⟨g1, g2, blk_new w4 _, table_below HT4.out (below_alloc (Below.refl _ _) _), table_below HJ4.out (below_alloc (Below.refl _ _) _)⟩, below_alloc HB4.out _⟩
end Go.Proofs.YtemhccjjcioodaaGreat.CProps
end
section
namespace Go.Proofs.YtemhccjjcioodaaGreat.PMarkOne
open Go.RowKit Go.Proofs.YtemhccjjcioodaaGreatW.PrintWords Go.Proofs.YtemhccjjcioodaaGreatW.PrintLast Go.Proofs.YtemhccjjcioodaaGreatW.PrintMore
attribute [local go_sem] max2_int min2_int max_two min_two max_three min_three max_four min_four   -- for this text's walks alone
-- the values' own types
structure S112 where
 f0 : Int
 f1 : Int
def z112 : S112 := ⟨(0 : Int), (0 : Int)⟩
def rd_T112 (xs : List S112) (i : Int) : S112 := xs.getD i.toNat z112
end Go.Proofs.YtemhccjjcioodaaGreat.PMarkOne
end
section
namespace Go.Proofs.YtemhccjjcioodaaGreat.PMarkOne
open Go.RowKit Go.Proofs.YtemhccjjcioodaaGreatW.PrintWords Go.Proofs.YtemhccjjcioodaaGreatW.PrintLast Go.Proofs.YtemhccjjcioodaaGreatW.PrintMore
attribute [local go_sem] max2_int min2_int max_two min_two max_three min_three max_four min_four   -- for this text's walks alone
mutual
def naskhref15_One.j0 : Nat → Int → Int → Bool → Int → Bool → Int → Bool → Int → Bool → Option (List Int)
 | 0, _, _, _, _, _, _, _, _, _ => none
 | k + 1, x0, x1, x2, x7, x8, x9, x10, x26, x27 => if x27 = true then (if x1 = 2 then (if x2 = true then (naskhref15_One.j1 k x0 x7 x8 x9 x10) else (naskhref15_One.j1 k x0 x7 x8 x9 false)) else (naskhref15_One.j1 k x0 x7 x8 x9 false)) else (if x26 = 3 then (some ([] : List Int)) else (if x26 = 4 then (if x2 = true then (some (([1600] : List Int))) else (some ([] : List Int))) else (some (([x0] : List Int)))))
def naskhref15_One.j1 : Nat → Int → Int → Bool → Int → Bool → Option (List Int)
 | 0, _, _, _, _, _ => none
 | k + 1, x0, x7, x8, x9, x37 => if x37 = true then (some (([x9] : List Int))) else (if x8 = true then (some (([x7] : List Int))) else (some (([x0] : List Int))))
end
def join_there.f (l0 : List Int) (a1 : Int) : Option (Bool) := if a1 ≥ 0 then (some (decide (a1 < (l0.length : Int)))) else (some false)
def join_walk.l0 : Nat → List Int → Int → Int → Option (Int)
 | 0, _, _, _ => none
 | k + 1, x0, x1, x2 => (join_there.f x0 x1).bind fun t169 => (if t169 = true then (if 0 ≤ x1 then (if x1 < (x0.length : Int) then (if (rd x0 x1) = 1 then (join_walk.l0 k x0 (wrap64 (x1 + x2)) x2) else (some x1)) else (none)) else (none)) else (some (-1)))
def join_walk.f (k : Nat) (l0 : List Int) (a1 : Int) (a2 : Int) : Option (Int) := (join_there.f l0 a1).bind fun t168 => (if t168 = true then (join_walk.l0 k l0 (wrap64 (a1 + a2)) a2) else (some (-1)))
def join_Ahead.f (k : Nat) (l0 : List Int) (a1 : Int) : Option (Int) := (join_walk.f k l0 a1 (-1)).bind fun t171 => (some t171)
def join_Behind.f (k : Nat) (l0 : List Int) (a1 : Int) : Option (Int) := (join_walk.f k l0 a1 1).bind fun t172 => (some t172)
def join_behind.f (a0 : Int) : Option (Bool) := if a0 = 3 then (some true) else (if a0 = 4 then (some true) else (if a0 = 5 then (some true) else (some false)))
def join_ahead.f (a0 : Int) : Option (Bool) := if a0 = 3 then (some true) else (if a0 = 2 then (some true) else (if a0 = 5 then (some true) else (some false)))
def join_Joined.f (k : Nat) (l0 : List Int) (a1 : Int) : Option (Bool) := (join_Behind.f k l0 a1).bind fun t173 => (if t173 ≥ 0 then (if 0 ≤ a1 then (if a1 < (l0.length : Int) then ((join_behind.f (rd l0 a1)).bind fun t175 => (if t175 = true then (if 0 ≤ t173 then (if t173 < (l0.length : Int) then ((join_ahead.f (rd l0 t173)).bind fun t177 => (some t177)) else (none)) else (none)) else (some false))) else (none)) else (none)) else (some false))
end Go.Proofs.YtemhccjjcioodaaGreat.PMarkOne
end
section
namespace Go.Proofs.YtemhccjjcioodaaGreat.PMarkOne
open Go.RowKit Go.Proofs.YtemhccjjcioodaaGreatW.PrintWords Go.Proofs.YtemhccjjcioodaaGreatW.PrintLast Go.Proofs.YtemhccjjcioodaaGreatW.PrintMore
attribute [local go_sem] max2_int min2_int max_two min_two max_three min_three max_four min_four   -- for this text's walks alone
def join_Over.j0 : Nat → List Int → Int → Bool → Option (Bool)
 | 0, _, _, _ => none
 | k + 1, x0, x1, x15 => if x15 = true then (some false) else ((join_Ahead.f k x0 x1).bind fun t180 => ((join_Joined.f k x0 t180).bind fun t181 => (some t181)))
def join_Over.f (k : Nat) (l0 : List Int) (a1 : Int) : Option (Bool) := (join_there.f l0 a1).bind fun t178 => (if t178 = true then (if 0 ≤ a1 then (if a1 < (l0.length : Int) then (join_Over.j0 k l0 a1 ((rd l0 a1) != 1)) else (none)) else (none)) else (join_Over.j0 k l0 a1 true))
def api_Piles.f  : Option ((List (S112))) := some (([(⟨1612, 64606⟩ : S112), (⟨1613, 64607⟩ : S112), (⟨1614, 64608⟩ : S112), (⟨1615, 64609⟩ : S112), (⟨1616, 64610⟩ : S112), (⟨1648, 64611⟩ : S112)] : List (S112)))
def forms_Pile.l0 : Nat → Int → List (S112) → Int → Int → Option (Int × Bool)
 | 0, _, _, _, _ => none
 | k + 1, x0, x6, x7, x8 => if x8 < x7 then (if 0 ≤ x8 then (if x8 < (x6.length : Int) then (if ((rd_T112 x6 x8).f0) = x0 then (some ((rd_T112 x6 x8).f1, true)) else (forms_Pile.l0 k x0 x6 x7 (wrap64 (x8 + 1)))) else (none)) else (none)) else (some (0, false))
def forms_Pile.f (k : Nat) (a0 : Int) : Option (Int × Bool) := (api_Piles.f).bind fun t185 => (forms_Pile.l0 k a0 t185 (t185.length : Int) 0)
mutual
def mark_Piles.l0 : Nat → List Int → List Int → List Int → Int → Int → Option (List Int)
 | 0, _, _, _, _, _ => none
 | k + 1, x0, x3, x8, x9, x10 => if x10 < x9 then (if 0 ≤ x10 then (if x10 < (x8.length : Int) then (if (rd x8 x10) = 1617 then (mark_Piles.j1 k x0 x3 x10 x8 x9 x10 ((wrap64 (x10 + 1)) == (x0.length : Int))) else (mark_Piles.j1 k x0 x3 x10 x8 x9 x10 true)) else (none)) else (none)) else (some x3)
def mark_Piles.j1 : Nat → List Int → List Int → Int → List Int → Int → Int → Bool → Option (List Int)
 | 0, _, _, _, _, _, _, _ => none
 | k + 1, x0, x3, x4, x8, x9, x10, x23 => if x23 = true then (mark_Piles.l0 k x0 x3 x8 x9 (wrap64 (x10 + 1))) else (if 0 ≤ (wrap64 (x4 + 1)) then (if (wrap64 (x4 + 1)) < (x0.length : Int) then ((forms_Pile.f k (rd x0 (wrap64 (x4 + 1)))).bind fun bt192 => (if bt192.2 = true then (if x3.length < 17592186044416 then (mark_Piles.l0 k x0 (x3 ++ [x4]) x8 x9 (wrap64 (x10 + 1))) else (none)) else (mark_Piles.l0 k x0 x3 x8 x9 (wrap64 (x10 + 1))))) else (none)) else (none))
end
def mark_Piles.f (k : Nat) (l0 : List Int) : Option (List Int) := mark_Piles.l0 k l0 ([] : List Int) l0 (l0.length : Int) 0
end Go.Proofs.YtemhccjjcioodaaGreat.PMarkOne
end
section
namespace Go.Proofs.YtemhccjjcioodaaGreat.UJoin
open Go.RowKit Go.Proofs.YtemhccjjcioodaaGreatW.PrintWords Go.Proofs.YtemhccjjcioodaaGreat.U
def behindB (t : Int) : Bool := t == 3 || t == 4 || t == 5
def aheadB (t : Int) : Bool := t == 3 || t == 2 || t == 5
def up (types : List Int) : Nat → Nat → Int
 | _, 0 => -1
 | k, n + 1 => if rd types k = 1 then up types (k + 1) n else k
def down (types : List Int) : Nat → Int
 | 0 => -1
 | k + 1 => if rd types k = 1 then down types k else k
def next (types : List Int) (i : Nat) : Int := up types (i + 1) (types.length - (i + 1))
def aheadI (types : List Int) (i : Int) : Int := if 0 ≤ i ∧ i < types.length then down types i.toNat else -1
def behindI (types : List Int) (i : Int) : Int := if 0 ≤ i ∧ i < types.length then next types i.toNat else -1
def joinedI (types : List Int) (i : Int) : Bool := decide (0 ≤ behindI types i) && behindB (rd types i) && aheadB (rd types (behindI types i))
theorem up_range (types : List Int) (n : Nat) : ∀ k, up types k n = -1 ∨ ((k : Int) ≤ up types k n ∧ up types k n < k + n) := by
 induction n with
 | zero => intro k; exact .inl rfl
 | succ n ih =>
  intro k
  unfold up
  split
  ·rcases ih (k + 1) with h | h
   ·exact .inl h
   ·right; omega
  ·right; omega
end Go.Proofs.YtemhccjjcioodaaGreat.UJoin
end
section
namespace Go.Proofs.YtemhccjjcioodaaGreat.PJoinForms
open Go.RowKit Go.Proofs.YtemhccjjcioodaaGreatW.PrintWords Go.Proofs.YtemhccjjcioodaaGreatW.PrintLast Go.Proofs.YtemhccjjcioodaaGreatW.PrintMore
attribute [local go_sem] max2_int min2_int max_two min_two max_three min_three max_four min_four   -- for this text's walks alone
def slices_Equal_int_int.l0 : Nat → List Int → List Int → Int → Int → Option (Bool)
 | 0, _, _, _, _ => none
 | k + 1, x0, x1, x12, x13 => if x13 < x12 then (if 0 ≤ x13 then (if x13 < (x0.length : Int) then (if x13 < (x1.length : Int) then (if (rd x0 x13) = (rd x1 x13) then (slices_Equal_int_int.l0 k x0 x1 x12 (wrap64 (x13 + 1))) else (some false)) else (none)) else (none)) else (none)) else (some true)
def slices_Equal_int_int.f (k : Nat) (l0 : List Int) (l1 : List Int) : Option (Bool) := if (l0.length : Int) = (l1.length : Int) then (slices_Equal_int_int.l0 k l0 l1 (l0.length : Int) 0) else (some false)
set_option maxHeartbeats 8000000 in
set_option maxRecDepth 100000 in
theorem slices_Equal_int_int.calls (k : Nat) (A0 : Option Addr) (c0 : Nat) (l0 : List Int) (A1 : Option Addr) (c1 : Nat) (l1 : List Int) (r : Bool) (w : World) (hr0 : Kd.C (Kd.int .i64) w A0 l0.length l0) (hc0 : l0.length ≤ c0) (hr1 : Kd.C (Kd.int .i64) w A1 l1.length l1) (hc1 : l1.length ≤ c1) (h : slices_Equal_int_int.f k l0 l1 = some r) :
 Calls Tryz.prog 17 #[.slice A0 l0.length c0, .slice A1 l1.length c1] w fun e w' => e = .returned (.bool r) ∧ Drawn0 w w' := by
 have HR0 := Aside0.mk hr0
 have HC0 := Aside0.mk hc0
 clear hr0 hc0
 have HR1 := Aside0.mk hr1
 have HC1 := Aside0.mk hc1
 clear hr1 hc1
 have H : (if (l0.length : Int) = (l1.length : Int) then (slices_Equal_int_int.l0 k l0 l1 (l0.length : Int) 0) else (some false)) = some r := h
 clear h
 by_cases c3 : (l0.length : Int) = (l1.length : Int)
 ·rw [if_pos c3] at H
  have c3b0 : ((l0.length : Int) == (l1.length : Int)) = true := beq_iff_eq.mpr c3
  have c3b1 : ((l0.length : Int) != (l1.length : Int)) = false := bne_eq_false_iff_eq.mpr c3
  have c3b2 : (l0.length == l1.length) = true := by first | simpa using c3 | (simp at c3 ⊢; omega)
  clear c3
  have H' := Aside0.mk H
  clear H
  go_enter Tryz.func17, Tryz.ntmps17
  go_wp2
  repeat (go_quiet (fail); try go_wp2)
  go_loopg [13] k (fun kq v13 w' => ∃ (x13_1 : Int), v13 = .int .i64 x13_1 ∧ Aside0 (slices_Equal_int_int.l0 kq l0 l1 (l0.length : Int) x13_1 = some r) ∧ Aside0 (kq ≤ k) ∧ Drawn0 w w')
  case atStart => exact ⟨(0), (by first | rfl | (simp; done) | (simp [*]; done)), H', ⟨Nat.le_refl _⟩, by repeat (first | exact Drawn0.refl _ | apply Drawn0.step)⟩
  case round =>
   clear H'
   try clear c1
   try clear c2
   try clear p2
   try clear c3
   try clear c3b0
   try clear c3b1
   try clear c3b2
   obtain ⟨x13_1, rfl, HA, HK1, ⟨m1, rfl⟩⟩ := hrel
   cases gk with
   | zero => exact absurd HA.out (by simp [slices_Equal_int_int.l0])
   | succ k1 =>
    have H := HA.out
    clear HA
    simp only [slices_Equal_int_int.l0] at H
    by_cases c4 : x13_1 < (l0.length : Int)
    ·rw [if_pos c4] at H
     have c4b0 : decide (x13_1 < (l0.length : Int)) = true := decide_eq_true c4
     clear c4
     by_cases c5 : 0 ≤ x13_1
     ·rw [if_pos c5] at H
      have c5b0 : decide (0 ≤ x13_1) = true := decide_eq_true c5
      clear c5
      by_cases c6 : x13_1 < (l0.length : Int)
      ·rw [if_pos c6] at H
       have c6b0 : decide (x13_1 < (l0.length : Int)) = true := decide_eq_true c6
       clear c6
       by_cases c7 : x13_1 < (l1.length : Int)
       ·rw [if_pos c7] at H
        have c7b0 : decide (x13_1 < (l1.length : Int)) = true := decide_eq_true c7
        clear c7
        by_cases c8 : (rd l0 x13_1) = (rd l1 x13_1)
        ·rw [if_pos c8] at H
         have c8b0 : ((rd l0 x13_1) == (rd l1 x13_1)) = true := beq_iff_eq.mpr c8
         have c8b1 : ((rd l0 x13_1) != (rd l1 x13_1)) = false := bne_eq_false_iff_eq.mpr c8
         clear c8
         have H' := Aside0.mk H
         clear H
         have p101 : 0 ≤ (x13_1 : Int) := of_decide_eq_true (by first | (with_reducible assumption) | assumption)
         have q101 : x13_1 < (l0.length : Int) := of_decide_eq_true (by first | (with_reducible assumption) | assumption)
         obtain ⟨ad101, e101, hx101_0⟩ := Kd.at_int HR0.out x13_1 p101 q101
         cases e101
         replace p101 := eq_true p101
         replace q101 := eq_true q101
         have p102 : 0 ≤ (x13_1 : Int) := of_decide_eq_true (by first | (with_reducible assumption) | assumption)
         have q102 : x13_1 < (l1.length : Int) := of_decide_eq_true (by first | (with_reducible assumption) | assumption)
         obtain ⟨ad102, e102, hx102_0⟩ := Kd.at_int HR1.out x13_1 p102 q102
         cases e102
         replace p102 := eq_true p102
         replace q102 := eq_true q102
         go_wp2
         repeat (go_quiet (fail); try go_wp2)
         go_roundg k1
         case measure => have := HK1.out; omega
         case rel => exact ⟨(wrap64 (x13_1 + 1)), (by first | rfl | (simp; done) | (simp [*]; done)), H', ⟨by have := HK1.out; omega⟩, by repeat (first | exact Drawn0.refl _ | apply Drawn0.step)⟩
        ·rw [if_neg c8] at H
         have c8b0 : ((rd l0 x13_1) == (rd l1 x13_1)) = false := beq_eq_false_iff_ne.mpr c8
         have c8b1 : ((rd l0 x13_1) != (rd l1 x13_1)) = true := bne_iff_ne.mpr c8
         obtain rfl := Option.some.inj H
         have p101 : 0 ≤ (x13_1 : Int) := of_decide_eq_true (by first | (with_reducible assumption) | assumption)
         have q101 : x13_1 < (l0.length : Int) := of_decide_eq_true (by first | (with_reducible assumption) | assumption)
         obtain ⟨ad101, e101, hx101_0⟩ := Kd.at_int HR0.out x13_1 p101 q101
         cases e101
         replace p101 := eq_true p101
         replace q101 := eq_true q101
         have p102 : 0 ≤ (x13_1 : Int) := of_decide_eq_true (by first | (with_reducible assumption) | assumption)
         have q102 : x13_1 < (l1.length : Int) := of_decide_eq_true (by first | (with_reducible assumption) | assumption)
         obtain ⟨ad102, e102, hx102_0⟩ := Kd.at_int HR1.out x13_1 p102 q102
         cases e102
         replace p102 := eq_true p102
         replace q102 := eq_true q102
         go_wp2
         repeat (go_quiet (fail); try go_wp2)
         go_ret
         exact ⟨by first | rfl | (simp; done) | (simp [*]; done), by repeat (first | exact Drawn0.refl _ | apply Drawn0.step)⟩
       ·rw [if_neg c7] at H
        exact absurd H (by simp)
      ·rw [if_neg c6] at H
       exact absurd H (by simp)
     ·rw [if_neg c5] at H
      exact absurd H (by simp)
    ·rw [if_neg c4] at H
     have c4b0 : decide (x13_1 < (l0.length : Int)) = false := decide_eq_false c4
     clear c4
     obtain rfl := Option.some.inj H
     go_wp2
     repeat (go_quiet (fail); try go_wp2)
     go_ret
     exact ⟨by first | rfl | (simp; done) | (simp [*]; done), by repeat (first | exact Drawn0.refl _ | apply Drawn0.step)⟩
 ·rw [if_neg c3] at H
  have c3b0 : ((l0.length : Int) == (l1.length : Int)) = false := beq_eq_false_iff_ne.mpr c3
  have c3b1 : ((l0.length : Int) != (l1.length : Int)) = true := bne_iff_ne.mpr c3
  have c3b2 : (l0.length == l1.length) = false := by first | simpa using c3 | (simp at c3 ⊢; omega)
  obtain rfl := Option.some.inj H
  go_enter Tryz.func17, Tryz.ntmps17
  go_wp2
  repeat (go_quiet (fail); try go_wp2)
  go_ret
  exact ⟨by first | rfl | (simp; done) | (simp [*]; done), by repeat (first | exact Drawn0.refl _ | apply Drawn0.step)⟩
def join_behind.f (a0 : Int) : Option (Bool) := if a0 = 3 then (some true) else (if a0 = 4 then (some true) else (if a0 = 5 then (some true) else (some false)))
set_option maxHeartbeats 8000000 in
set_option maxRecDepth 100000 in
theorem join_behind.calls (a0 : Int) (r : Bool) (w : World) (h : join_behind.f a0 = some r) :
 Calls Tryz.prog 218 #[.int .i64 a0] w fun e w' => e = .returned (.bool r) ∧ Drawn0 w w' := by
 have H : (if a0 = 3 then (some true) else (if a0 = 4 then (some true) else (if a0 = 5 then (some true) else (some false)))) = some r := h
 clear h
 by_cases c2 : a0 = 3
 ·rw [if_pos c2] at H
  have c2b0 : (a0 == 3) = true := beq_iff_eq.mpr c2
  have c2b1 : (a0 != 3) = false := bne_eq_false_iff_eq.mpr c2
  clear c2
  obtain rfl := Option.some.inj H
  go_enter Tryz.func218, Tryz.ntmps218
  go_wp2
  go_ret
  exact ⟨by first | rfl | (simp; done) | (simp [*]; done), by repeat (first | exact Drawn0.refl _ | apply Drawn0.step)⟩
 ·rw [if_neg c2] at H
  have c2b0 : (a0 == 3) = false := beq_eq_false_iff_ne.mpr c2
  have c2b1 : (a0 != 3) = true := bne_iff_ne.mpr c2
  by_cases c3 : a0 = 4
  ·rw [if_pos c3] at H
   have c3b0 : (a0 == 4) = true := beq_iff_eq.mpr c3
   have c3b1 : (a0 != 4) = false := bne_eq_false_iff_eq.mpr c3
   clear c3
   obtain rfl := Option.some.inj H
   go_enter Tryz.func218, Tryz.ntmps218
   go_wp2
   go_ret
   exact ⟨by first | rfl | (simp; done) | (simp [*]; done), by repeat (first | exact Drawn0.refl _ | apply Drawn0.step)⟩
  ·rw [if_neg c3] at H
   have c3b0 : (a0 == 4) = false := beq_eq_false_iff_ne.mpr c3
   have c3b1 : (a0 != 4) = true := bne_iff_ne.mpr c3
   by_cases c4 : a0 = 5
   ·rw [if_pos c4] at H
    have c4b0 : (a0 == 5) = true := beq_iff_eq.mpr c4
    have c4b1 : (a0 != 5) = false := bne_eq_false_iff_eq.mpr c4
    clear c4
    obtain rfl := Option.some.inj H
    go_enter Tryz.func218, Tryz.ntmps218
    go_wp2
    go_ret
    exact ⟨by first | rfl | (simp; done) | (simp [*]; done), by repeat (first | exact Drawn0.refl _ | apply Drawn0.step)⟩
   ·rw [if_neg c4] at H
    have c4b0 : (a0 == 5) = false := beq_eq_false_iff_ne.mpr c4
    have c4b1 : (a0 != 5) = true := bne_iff_ne.mpr c4
    obtain rfl := Option.some.inj H
    go_enter Tryz.func218, Tryz.ntmps218
    go_wp2
    go_ret
    exact ⟨by first | rfl | (simp; done) | (simp [*]; done), by repeat (first | exact Drawn0.refl _ | apply Drawn0.step)⟩
def join_ahead.f (a0 : Int) : Option (Bool) := if a0 = 3 then (some true) else (if a0 = 2 then (some true) else (if a0 = 5 then (some true) else (some false)))
set_option maxHeartbeats 8000000 in
set_option maxRecDepth 100000 in
theorem join_ahead.calls (a0 : Int) (r : Bool) (w : World) (h : join_ahead.f a0 = some r) :
 Calls Tryz.prog 219 #[.int .i64 a0] w fun e w' => e = .returned (.bool r) ∧ Drawn0 w w' := by
 have H : (if a0 = 3 then (some true) else (if a0 = 2 then (some true) else (if a0 = 5 then (some true) else (some false)))) = some r := h
 clear h
 by_cases c2 : a0 = 3
 ·rw [if_pos c2] at H
  have c2b0 : (a0 == 3) = true := beq_iff_eq.mpr c2
  have c2b1 : (a0 != 3) = false := bne_eq_false_iff_eq.mpr c2
  clear c2
  obtain rfl := Option.some.inj H
  go_enter Tryz.func219, Tryz.ntmps219
  go_wp2
  go_ret
  exact ⟨by first | rfl | (simp; done) | (simp [*]; done), by repeat (first | exact Drawn0.refl _ | apply Drawn0.step)⟩
 ·rw [if_neg c2] at H
  have c2b0 : (a0 == 3) = false := beq_eq_false_iff_ne.mpr c2
  have c2b1 : (a0 != 3) = true := bne_iff_ne.mpr c2
  by_cases c3 : a0 = 2
  ·rw [if_pos c3] at H
   have c3b0 : (a0 == 2) = true := beq_iff_eq.mpr c3
   have c3b1 : (a0 != 2) = false := bne_eq_false_iff_eq.mpr c3
   clear c3
   obtain rfl := Option.some.inj H
   go_enter Tryz.func219, Tryz.ntmps219
   go_wp2
   go_ret
   exact ⟨by first | rfl | (simp; done) | (simp [*]; done), by repeat (first | exact Drawn0.refl _ | apply Drawn0.step)⟩
  ·rw [if_neg c3] at H
   have c3b0 : (a0 == 2) = false := beq_eq_false_iff_ne.mpr c3
   have c3b1 : (a0 != 2) = true := bne_iff_ne.mpr c3
   by_cases c4 : a0 = 5
   ·rw [if_pos c4] at H
    have c4b0 : (a0 == 5) = true := beq_iff_eq.mpr c4
    have c4b1 : (a0 != 5) = false := bne_eq_false_iff_eq.mpr c4
    clear c4
    obtain rfl := Option.some.inj H
    go_enter Tryz.func219, Tryz.ntmps219
    go_wp2
    go_ret
    exact ⟨by first | rfl | (simp; done) | (simp [*]; done), by repeat (first | exact Drawn0.refl _ | apply Drawn0.step)⟩
   ·rw [if_neg c4] at H
    have c4b0 : (a0 == 5) = false := beq_eq_false_iff_ne.mpr c4
    have c4b1 : (a0 != 5) = true := bne_iff_ne.mpr c4
    obtain rfl := Option.some.inj H
    go_enter Tryz.func219, Tryz.ntmps219
    go_wp2
    go_ret
    exact ⟨by first | rfl | (simp; done) | (simp [*]; done), by repeat (first | exact Drawn0.refl _ | apply Drawn0.step)⟩
def join_there.f (l0 : List Int) (a1 : Int) : Option (Bool) := if a1 ≥ 0 then (some (decide (a1 < (l0.length : Int)))) else (some false)
set_option maxHeartbeats 8000000 in
set_option maxRecDepth 100000 in
theorem join_there.calls (A0 : Option Addr) (c0 : Nat) (l0 : List Int) (a1 : Int) (r : Bool) (w : World) (hr0 : Kd.C (Kd.int .i64) w A0 l0.length l0) (hc0 : l0.length ≤ c0) (h : join_there.f l0 a1 = some r) :
 Calls Tryz.prog 267 #[.slice A0 l0.length c0, .int .i64 a1] w fun e w' => e = .returned (.bool r) ∧ Drawn0 w w' := by
 have HR0 := Aside0.mk hr0
 have HC0 := Aside0.mk hc0
 clear hr0 hc0
 have H : (if a1 ≥ 0 then (some (decide (a1 < (l0.length : Int)))) else (some false)) = some r := h
 clear h
 by_cases c3 : a1 ≥ 0
 ·rw [if_pos c3] at H
  have c3b0 : decide (0 ≤ a1) = true := decide_eq_true c3
  clear c3
  obtain rfl := Option.some.inj H
  go_enter Tryz.func267, Tryz.ntmps267
  go_wp2
  go_ret
  exact ⟨by first | rfl | (simp; done) | (simp [*]; done), by repeat (first | exact Drawn0.refl _ | apply Drawn0.step)⟩
 ·rw [if_neg c3] at H
  have c3b0 : decide (0 ≤ a1) = false := decide_eq_false c3
  clear c3
  obtain rfl := Option.some.inj H
  go_enter Tryz.func267, Tryz.ntmps267
  go_wp2
  go_ret
  exact ⟨by first | rfl | (simp; done) | (simp [*]; done), by repeat (first | exact Drawn0.refl _ | apply Drawn0.step)⟩
def join_walk.l0 : Nat → List Int → Int → Int → Option (Int)
 | 0, _, _, _ => none
 | k + 1, x0, x1, x2 => (join_there.f x0 x1).bind fun t104 => (if t104 = true then (if 0 ≤ x1 then (if x1 < (x0.length : Int) then (if (rd x0 x1) = 1 then (join_walk.l0 k x0 (wrap64 (x1 + x2)) x2) else (some x1)) else (none)) else (none)) else (some (-1)))
def join_walk.f (k : Nat) (l0 : List Int) (a1 : Int) (a2 : Int) : Option (Int) := (join_there.f l0 a1).bind fun t103 => (if t103 = true then (join_walk.l0 k l0 (wrap64 (a1 + a2)) a2) else (some (-1)))
set_option maxHeartbeats 8000000 in
set_option maxRecDepth 100000 in
theorem join_walk.calls (k : Nat) (A0 : Option Addr) (c0 : Nat) (l0 : List Int) (a1 : Int) (a2 : Int) (r : Int) (w : World) (hr0 : Kd.C (Kd.int .i64) w A0 l0.length l0) (hc0 : l0.length ≤ c0) (h : join_walk.f k l0 a1 a2 = some r) :
 Calls Tryz.prog 237 #[.slice A0 l0.length c0, .int .i64 a1, .int .i64 a2] w fun e w' => e = .returned (.int .i64 r) ∧ Drawn0 w w' := by
 have HR0 := Aside0.mk hr0
 have HC0 := Aside0.mk hc0
 clear hr0 hc0
 have H : ((join_there.f l0 a1).bind fun t103 => (if t103 = true then (join_walk.l0 k l0 (wrap64 (a1 + a2)) a2) else (some (-1)))) = some r := h
 clear h
 replace H := Option.bind_eq_some_iff.mp H
 obtain ⟨t103, A40, H⟩ := H
 try dsimp only at H
 have A4 := Aside0.mk A40; clear A40
 by_cases c5 : t103 = true
 ·subst c5
  rw [if_pos rfl] at H
  have H' := Aside0.mk H
  clear H
  go_enter Tryz.func237, Tryz.ntmps237
  go_wp2_with (first | ((with_reducible refine gate_callee (f := 267) rfl ?_); refine goesL_ (some 9) rfl rfl Tryz.func267 (by kernel_rfl) rfl #[.slice A0 l0.length c0, .int .i64 a1] rfl (by (try simp only [List.map_toArray, List.map_cons, List.map_nil]); first | done | rfl | (simp only [List.length_drop, List.length_take]; rfl)) ?_; (with_reducible refine (join_there.calls _ _ l0 a1 true _ ?side1 ?side2 A4.out).mono ?_); (case side1 => repeat (first | exact HR0.out | (with_reducible refine Kd.C_alloc ?_ _) | (with_reducible refine Kd.C_drewN ?_ _) | (with_reducible refine Kd.C_drew ?_))); (case side2 => exact HC0.out); rintro e w' ⟨rfl, ⟨nd, rfl⟩⟩; refine ⟨_, rfl, ?_⟩))
  go_loopg [1] k (fun kq v1 w' => ∃ (x1_1 : Int), v1 = .int .i64 x1_1 ∧ Aside0 (join_walk.l0 kq l0 x1_1 a2 = some r) ∧ Aside0 (kq ≤ k) ∧ Drawn0 w w')
  case atStart => exact ⟨(wrap64 (a1 + a2)), (by first | rfl | (simp; done) | (simp [*]; done)), H', ⟨Nat.le_refl _⟩, by repeat (first | exact Drawn0.refl _ | apply Drawn0.step)⟩
  case round =>
   clear H'
   try clear p2
   try clear c5
   obtain ⟨x1_1, rfl, HA, HK1, ⟨m1, rfl⟩⟩ := hrel
   cases gk with
   | zero => exact absurd HA.out (by simp [join_walk.l0])
   | succ k1 =>
    have H := HA.out
    clear HA
    simp only [join_walk.l0] at H
    replace H := Option.bind_eq_some_iff.mp H
    obtain ⟨t104, A60, H⟩ := H
    try dsimp only at H
    have A6 := Aside0.mk A60; clear A60
    by_cases c7 : t104 = true
    ·subst c7
     rw [if_pos rfl] at H
     by_cases c8 : 0 ≤ x1_1
     ·rw [if_pos c8] at H
      have c8b0 : decide (0 ≤ x1_1) = true := decide_eq_true c8
      clear c8
      by_cases c9 : x1_1 < (l0.length : Int)
      ·rw [if_pos c9] at H
       have c9b0 : decide (x1_1 < (l0.length : Int)) = true := decide_eq_true c9
       clear c9
       by_cases c10 : (rd l0 x1_1) = 1
       ·rw [if_pos c10] at H
        have c10b0 : ((rd l0 x1_1) == 1) = true := beq_iff_eq.mpr c10
        have c10b1 : ((rd l0 x1_1) != 1) = false := bne_eq_false_iff_eq.mpr c10
        clear c10
        have H' := Aside0.mk H
        clear H
        go_wp2_with (first | ((with_reducible refine gate_callee (f := 267) rfl ?_); refine goesL_ (some 16) rfl rfl Tryz.func267 (by kernel_rfl) rfl #[.slice A0 l0.length c0, .int .i64 x1_1] rfl (by (try simp only [List.map_toArray, List.map_cons, List.map_nil]); first | done | rfl | (simp only [List.length_drop, List.length_take]; rfl)) ?_; (with_reducible refine (join_there.calls _ _ l0 x1_1 true _ ?side1 ?side2 A6.out).mono ?_); (case side1 => repeat (first | exact HR0.out | (with_reducible refine Kd.C_alloc ?_ _) | (with_reducible refine Kd.C_drewN ?_ _) | (with_reducible refine Kd.C_drew ?_))); (case side2 => exact HC0.out); rintro e w' ⟨rfl, ⟨nd, rfl⟩⟩; refine ⟨_, rfl, ?_⟩; have p105 : 0 ≤ (x1_1 : Int) := of_decide_eq_true (by first | (with_reducible assumption) | assumption); have q105 : x1_1 < (l0.length : Int) := of_decide_eq_true (by first | (with_reducible assumption) | assumption); obtain ⟨ad105, e105, hx105_0⟩ := Kd.at_int HR0.out x1_1 p105 q105; cases e105; replace p105 := eq_true p105; replace q105 := eq_true q105))
        go_roundg k1
        case measure => have := HK1.out; omega
        case rel => exact ⟨(wrap64 (x1_1 + a2)), (by first | rfl | (simp; done) | (simp [*]; done)), H', ⟨by have := HK1.out; omega⟩, by repeat (first | exact Drawn0.refl _ | apply Drawn0.step)⟩
       ·rw [if_neg c10] at H
        have c10b0 : ((rd l0 x1_1) == 1) = false := beq_eq_false_iff_ne.mpr c10
        have c10b1 : ((rd l0 x1_1) != 1) = true := bne_iff_ne.mpr c10
        obtain rfl := Option.some.inj H
        go_wp2_with (first | ((with_reducible refine gate_callee (f := 267) rfl ?_); refine goesL_ (some 16) rfl rfl Tryz.func267 (by kernel_rfl) rfl #[.slice A0 l0.length c0, .int .i64 x1_1] rfl (by (try simp only [List.map_toArray, List.map_cons, List.map_nil]); first | done | rfl | (simp only [List.length_drop, List.length_take]; rfl)) ?_; (with_reducible refine (join_there.calls _ _ l0 x1_1 true _ ?side1 ?side2 A6.out).mono ?_); (case side1 => repeat (first | exact HR0.out | (with_reducible refine Kd.C_alloc ?_ _) | (with_reducible refine Kd.C_drewN ?_ _) | (with_reducible refine Kd.C_drew ?_))); (case side2 => exact HC0.out); rintro e w' ⟨rfl, ⟨nd, rfl⟩⟩; refine ⟨_, rfl, ?_⟩; have p105 : 0 ≤ (x1_1 : Int) := of_decide_eq_true (by first | (with_reducible assumption) | assumption); have q105 : x1_1 < (l0.length : Int) := of_decide_eq_true (by first | (with_reducible assumption) | assumption); obtain ⟨ad105, e105, hx105_0⟩ := Kd.at_int HR0.out x1_1 p105 q105; cases e105; replace p105 := eq_true p105; replace q105 := eq_true q105))
        go_ret
        exact ⟨by first | rfl | (simp; done) | (simp [*]; done), by repeat (first | exact Drawn0.refl _ | apply Drawn0.step)⟩
      ·rw [if_neg c9] at H
       exact absurd H (by simp)
     ·rw [if_neg c8] at H
      exact absurd H (by simp)
    ·replace c7 := Bool.eq_false_iff.mpr c7
     subst c7
     rw [if_neg (show ¬ (false = true) by decide)] at H
     obtain rfl := Option.some.inj H
     go_wp2_with (first | ((with_reducible refine gate_callee (f := 267) rfl ?_); refine goesL_ (some 16) rfl rfl Tryz.func267 (by kernel_rfl) rfl #[.slice A0 l0.length c0, .int .i64 x1_1] rfl (by (try simp only [List.map_toArray, List.map_cons, List.map_nil]); first | done | rfl | (simp only [List.length_drop, List.length_take]; rfl)) ?_; (with_reducible refine (join_there.calls _ _ l0 x1_1 false _ ?side1 ?side2 A6.out).mono ?_); (case side1 => repeat (first | exact HR0.out | (with_reducible refine Kd.C_alloc ?_ _) | (with_reducible refine Kd.C_drewN ?_ _) | (with_reducible refine Kd.C_drew ?_))); (case side2 => exact HC0.out); rintro e w' ⟨rfl, ⟨nd, rfl⟩⟩; refine ⟨_, rfl, ?_⟩))
     go_ret
     exact ⟨by first | rfl | (simp; done) | (simp [*]; done), by repeat (first | exact Drawn0.refl _ | apply Drawn0.step)⟩
 ·replace c5 := Bool.eq_false_iff.mpr c5
  subst c5
  rw [if_neg (show ¬ (false = true) by decide)] at H
  obtain rfl := Option.some.inj H
  go_enter Tryz.func237, Tryz.ntmps237
  go_wp2_with (first | ((with_reducible refine gate_callee (f := 267) rfl ?_); refine goesL_ (some 9) rfl rfl Tryz.func267 (by kernel_rfl) rfl #[.slice A0 l0.length c0, .int .i64 a1] rfl (by (try simp only [List.map_toArray, List.map_cons, List.map_nil]); first | done | rfl | (simp only [List.length_drop, List.length_take]; rfl)) ?_; (with_reducible refine (join_there.calls _ _ l0 a1 false _ ?side1 ?side2 A4.out).mono ?_); (case side1 => repeat (first | exact HR0.out | (with_reducible refine Kd.C_alloc ?_ _) | (with_reducible refine Kd.C_drewN ?_ _) | (with_reducible refine Kd.C_drew ?_))); (case side2 => exact HC0.out); rintro e w' ⟨rfl, ⟨nd, rfl⟩⟩; refine ⟨_, rfl, ?_⟩))
  go_ret
  exact ⟨by first | rfl | (simp; done) | (simp [*]; done), by repeat (first | exact Drawn0.refl _ | apply Drawn0.step)⟩
def join_Ahead.f (k : Nat) (l0 : List Int) (a1 : Int) : Option (Int) := (join_walk.f k l0 a1 (-1)).bind fun t106 => (some t106)
def join_Behind.f (k : Nat) (l0 : List Int) (a1 : Int) : Option (Int) := (join_walk.f k l0 a1 1).bind fun t107 => (some t107)
set_option maxHeartbeats 8000000 in
set_option maxRecDepth 100000 in
theorem join_Behind.calls (k : Nat) (A0 : Option Addr) (c0 : Nat) (l0 : List Int) (a1 : Int) (r : Int) (w : World) (hr0 : Kd.C (Kd.int .i64) w A0 l0.length l0) (hc0 : l0.length ≤ c0) (h : join_Behind.f k l0 a1 = some r) :
 Calls Tryz.prog 180 #[.slice A0 l0.length c0, .int .i64 a1] w fun e w' => e = .returned (.int .i64 r) ∧ Drawn0 w w' := by
 have HR0 := Aside0.mk hr0
 have HC0 := Aside0.mk hc0
 clear hr0 hc0
 have H : ((join_walk.f k l0 a1 1).bind fun t107 => (some t107)) = some r := h
 clear h
 replace H := Option.bind_eq_some_iff.mp H
 obtain ⟨t107, A30, H⟩ := H
 replace H : (some t107) = some r := H
 have A3 := Aside0.mk A30; clear A30
 obtain rfl := Option.some.inj H
 go_enter Tryz.func180, Tryz.ntmps180
 go_wp2_with (first | ((with_reducible refine gate_callee (f := 237) rfl ?_); refine goesL_ (some 7) rfl rfl Tryz.func237 (by kernel_rfl) rfl #[.slice A0 l0.length c0, .int .i64 a1, .int .i64 1] rfl (by (try simp only [List.map_toArray, List.map_cons, List.map_nil]); first | done | rfl | (simp only [List.length_drop, List.length_take]; rfl)) ?_; (with_reducible refine (join_walk.calls k _ _ l0 a1 1 t107 _ ?side1 ?side2 A3.out).mono ?_); (case side1 => repeat (first | exact HR0.out | (with_reducible refine Kd.C_alloc ?_ _) | (with_reducible refine Kd.C_drewN ?_ _) | (with_reducible refine Kd.C_drew ?_))); (case side2 => exact HC0.out); rintro e w' ⟨rfl, ⟨nd, rfl⟩⟩; refine ⟨_, rfl, ?_⟩))
 go_ret
 exact ⟨by first | rfl | (simp; done) | (simp [*]; done), by repeat (first | exact Drawn0.refl _ | apply Drawn0.step)⟩
def join_Joined.f (k : Nat) (l0 : List Int) (a1 : Int) : Option (Bool) := (join_Behind.f k l0 a1).bind fun t108 => (if t108 ≥ 0 then (if 0 ≤ a1 then (if a1 < (l0.length : Int) then ((join_behind.f (rd l0 a1)).bind fun t110 => (if t110 = true then (if 0 ≤ t108 then (if t108 < (l0.length : Int) then ((join_ahead.f (rd l0 t108)).bind fun t112 => (some t112)) else (none)) else (none)) else (some false))) else (none)) else (none)) else (some false))
set_option maxHeartbeats 8000000 in
set_option maxRecDepth 100000 in
theorem join_Joined.calls (k : Nat) (A0 : Option Addr) (c0 : Nat) (l0 : List Int) (a1 : Int) (r : Bool) (w : World) (hr0 : Kd.C (Kd.int .i64) w A0 l0.length l0) (hc0 : l0.length ≤ c0) (h : join_Joined.f k l0 a1 = some r) :
 Calls Tryz.prog 179 #[.slice A0 l0.length c0, .int .i64 a1] w fun e w' => e = .returned (.bool r) ∧ Drawn0 w w' := by
 have HR0 := Aside0.mk hr0
 have HC0 := Aside0.mk hc0
 clear hr0 hc0
 have H : ((join_Behind.f k l0 a1).bind fun t108 => (if t108 ≥ 0 then (if 0 ≤ a1 then (if a1 < (l0.length : Int) then ((join_behind.f (rd l0 a1)).bind fun t110 => (if t110 = true then (if 0 ≤ t108 then (if t108 < (l0.length : Int) then ((join_ahead.f (rd l0 t108)).bind fun t112 => (some t112)) else (none)) else (none)) else (some false))) else (none)) else (none)) else (some false))) = some r := h
 clear h
 replace H := Option.bind_eq_some_iff.mp H
 obtain ⟨t108, A30, H⟩ := H
 try dsimp only at H
 have A3 := Aside0.mk A30; clear A30
 by_cases c4 : t108 ≥ 0
 ·rw [if_pos c4] at H
  have c4b0 : decide (0 ≤ t108) = true := decide_eq_true c4
  clear c4
  by_cases c5 : 0 ≤ a1
  ·rw [if_pos c5] at H
   have c5b0 : decide (0 ≤ a1) = true := decide_eq_true c5
   clear c5
   by_cases c6 : a1 < (l0.length : Int)
   ·rw [if_pos c6] at H
    have c6b0 : decide (a1 < (l0.length : Int)) = true := decide_eq_true c6
    clear c6
    replace H := Option.bind_eq_some_iff.mp H
    obtain ⟨t110, A70, H⟩ := H
    try dsimp only at H
    have A7 := Aside0.mk A70; clear A70
    by_cases c8 : t110 = true
    ·subst c8
     rw [if_pos rfl] at H
     by_cases c9 : 0 ≤ t108
     ·rw [if_pos c9] at H
      have c9b0 : decide (0 ≤ t108) = true := decide_eq_true c9
      clear c9
      by_cases c10 : t108 < (l0.length : Int)
      ·rw [if_pos c10] at H
       have c10b0 : decide (t108 < (l0.length : Int)) = true := decide_eq_true c10
       clear c10
       replace H := Option.bind_eq_some_iff.mp H
       obtain ⟨t112, A110, H⟩ := H
       replace H : (some t112) = some r := H
       have A11 := Aside0.mk A110; clear A110
       obtain rfl := Option.some.inj H
       go_enter Tryz.func179, Tryz.ntmps179
       go_wp2_with (first | ((with_reducible refine gate_callee (f := 180) rfl ?_); refine goesL_ (some 8) rfl rfl Tryz.func180 (by kernel_rfl) rfl #[.slice A0 l0.length c0, .int .i64 a1] rfl (by (try simp only [List.map_toArray, List.map_cons, List.map_nil]); first | done | rfl | (simp only [List.length_drop, List.length_take]; rfl)) ?_; (with_reducible refine (join_Behind.calls k _ _ l0 a1 t108 _ ?side1 ?side2 A3.out).mono ?_); (case side1 => repeat (first | exact HR0.out | (with_reducible refine Kd.C_alloc ?_ _) | (with_reducible refine Kd.C_drewN ?_ _) | (with_reducible refine Kd.C_drew ?_))); (case side2 => exact HC0.out); rintro e w' ⟨rfl, ⟨nd, rfl⟩⟩; refine ⟨_, rfl, ?_⟩; have p109 : 0 ≤ (a1 : Int) := of_decide_eq_true (by first | (with_reducible assumption) | assumption); have q109 : a1 < (l0.length : Int) := of_decide_eq_true (by first | (with_reducible assumption) | assumption); obtain ⟨ad109, e109, hx109_0⟩ := Kd.at_int HR0.out a1 p109 q109; cases e109; replace p109 := eq_true p109; replace q109 := eq_true q109) | (go_at_call 218; (with_reducible refine (join_behind.calls (rd l0 a1) true _ A7.out).mono ?_); rintro e w' ⟨rfl, ⟨nd, rfl⟩⟩; have p111 : 0 ≤ (t108 : Int) := of_decide_eq_true (by first | (with_reducible assumption) | assumption); have q111 : t108 < (l0.length : Int) := of_decide_eq_true (by first | (with_reducible assumption) | assumption); obtain ⟨ad111, e111, hx111_0⟩ := Kd.at_int HR0.out t108 p111 q111; obtain rfl : ad109 = ad111 := (by injection e111); replace p111 := eq_true p111; replace q111 := eq_true q111) | (go_at_call 219; (with_reducible refine (join_ahead.calls (rd l0 t108) t112 _ A11.out).mono ?_); rintro e w' ⟨rfl, ⟨nd, rfl⟩⟩))
       go_ret
       exact ⟨by first | rfl | (simp; done) | (simp [*]; done), by repeat (first | exact Drawn0.refl _ | apply Drawn0.step)⟩
      ·rw [if_neg c10] at H
       exact absurd H (by simp)
     ·rw [if_neg c9] at H
      exact absurd H (by simp)
    ·replace c8 := Bool.eq_false_iff.mpr c8
     subst c8
     rw [if_neg (show ¬ (false = true) by decide)] at H
     obtain rfl := Option.some.inj H
     go_enter Tryz.func179, Tryz.ntmps179
     go_wp2_with (first | ((with_reducible refine gate_callee (f := 180) rfl ?_); refine goesL_ (some 8) rfl rfl Tryz.func180 (by kernel_rfl) rfl #[.slice A0 l0.length c0, .int .i64 a1] rfl (by (try simp only [List.map_toArray, List.map_cons, List.map_nil]); first | done | rfl | (simp only [List.length_drop, List.length_take]; rfl)) ?_; (with_reducible refine (join_Behind.calls k _ _ l0 a1 t108 _ ?side1 ?side2 A3.out).mono ?_); (case side1 => repeat (first | exact HR0.out | (with_reducible refine Kd.C_alloc ?_ _) | (with_reducible refine Kd.C_drewN ?_ _) | (with_reducible refine Kd.C_drew ?_))); (case side2 => exact HC0.out); rintro e w' ⟨rfl, ⟨nd, rfl⟩⟩; refine ⟨_, rfl, ?_⟩; have p109 : 0 ≤ (a1 : Int) := of_decide_eq_true (by first | (with_reducible assumption) | assumption); have q109 : a1 < (l0.length : Int) := of_decide_eq_true (by first | (with_reducible assumption) | assumption); obtain ⟨ad109, e109, hx109_0⟩ := Kd.at_int HR0.out a1 p109 q109; cases e109; replace p109 := eq_true p109; replace q109 := eq_true q109) | (go_at_call 218; (with_reducible refine (join_behind.calls (rd l0 a1) false _ A7.out).mono ?_); rintro e w' ⟨rfl, ⟨nd, rfl⟩⟩))
     go_ret
     exact ⟨by first | rfl | (simp; done) | (simp [*]; done), by repeat (first | exact Drawn0.refl _ | apply Drawn0.step)⟩
   ·rw [if_neg c6] at H
    exact absurd H (by simp)
  ·rw [if_neg c5] at H
   exact absurd H (by simp)
 ·rw [if_neg c4] at H
  have c4b0 : decide (0 ≤ t108) = false := decide_eq_false c4
  clear c4
  obtain rfl := Option.some.inj H
  go_enter Tryz.func179, Tryz.ntmps179
  go_wp2_with (first | ((with_reducible refine gate_callee (f := 180) rfl ?_); refine goesL_ (some 8) rfl rfl Tryz.func180 (by kernel_rfl) rfl #[.slice A0 l0.length c0, .int .i64 a1] rfl (by (try simp only [List.map_toArray, List.map_cons, List.map_nil]); first | done | rfl | (simp only [List.length_drop, List.length_take]; rfl)) ?_; (with_reducible refine (join_Behind.calls k _ _ l0 a1 t108 _ ?side1 ?side2 A3.out).mono ?_); (case side1 => repeat (first | exact HR0.out | (with_reducible refine Kd.C_alloc ?_ _) | (with_reducible refine Kd.C_drewN ?_ _) | (with_reducible refine Kd.C_drew ?_))); (case side2 => exact HC0.out); rintro e w' ⟨rfl, ⟨nd, rfl⟩⟩; refine ⟨_, rfl, ?_⟩))
  go_ret
  exact ⟨by first | rfl | (simp; done) | (simp [*]; done), by repeat (first | exact Drawn0.refl _ | apply Drawn0.step)⟩
def join_Over.j0 : Nat → List Int → Int → Bool → Option (Bool)
 | 0, _, _, _ => none
 | k + 1, x0, x1, x15 => if x15 = true then (some false) else ((join_Ahead.f k x0 x1).bind fun t115 => ((join_Joined.f k x0 t115).bind fun t116 => (some t116)))
def join_Over.f (k : Nat) (l0 : List Int) (a1 : Int) : Option (Bool) := (join_there.f l0 a1).bind fun t113 => (if t113 = true then (if 0 ≤ a1 then (if a1 < (l0.length : Int) then (join_Over.j0 k l0 a1 ((rd l0 a1) != 1)) else (none)) else (none)) else (join_Over.j0 k l0 a1 true))
end Go.Proofs.YtemhccjjcioodaaGreat.PJoinForms
end
