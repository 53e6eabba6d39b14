/- props.New and (*Props).Class: walked. -/
import Derived.Test.YtfkgjoflekemaaaCTrie4
import Derived.Test.YtfkgjoflekemaaaUTable
namespace Go.Proofs.Ytfkgjoflekemaaa.CProps
open Go.RowKit Go.Proofs.YtfkgjoflekemaaaW.PrintWords Go.Proofs.YtfkgjoflekemaaaW.PrintMore Go.Proofs.YtfkgjoflekemaaaW.PrintLast Go.Proofs.Ytfkgjoflekemaaa.U Go.Proofs.Ytfkgjoflekemaaa.CBase Go.Proofs.Ytfkgjoflekemaaa.UTrie Go.Proofs.Ytfkgjoflekemaaa.PEmbedJoins Go.Proofs.Ytfkgjoflekemaaa.CTrie Go.Proofs.Ytfkgjoflekemaaa.UTable
set_option linter.unusedVariables false
set_option linter.unusedSimpArgs false
/-! ### a row of triples, laid flat -/
def flat3 (rs : List S127) : List Value := rs.flatMap fun x => [.int .i64 x.f0, .int .i64 x.f1, .int .i64 x.f2]
def chunk3 : List Value → List S127
  | .int _ a :: .int _ b :: .int _ c :: r => ⟨a, b, c⟩ :: chunk3 r
  | _ => []
theorem flat3_get (rs : List S127) : ∀ (j : Nat) (x : S127), rs[j]? = some x → ∀ (i : Nat) (u : Value), ([.int .i64 x.f0, .int .i64 x.f1, .int .i64 x.f2] : List Value)[i]? = some u → (flat3 rs)[j * 3 + i]? = some u := by
  induction rs with
  | nil => intro j x h; simp at h
  | cons r t ih =>
    intro j x h i u hu
    have hi : i < 3 := by
      have := (List.getElem?_eq_some_iff.1 hu).1
      simpa using this
    cases j with
    | zero =>
      obtain rfl := Option.some.inj h
      unfold flat3
      rw [List.flatMap_cons, List.getElem?_append_left (by simp; omega)]
      simpa using hu
    | succ j =>
      have := ih j x h i u hu
      unfold flat3 at this ⊢
      rw [List.flatMap_cons, List.getElem?_append_right (by simp; omega)]
      simp only [List.length_cons, List.length_nil]
      rw [show (j + 1) * 3 + i - (0 + 1 + 1 + 1) = j * 3 + i by omega]
      exact this
theorem C_flat3 (w : World) (rs : List S127) (t : TypeId) (hm : rs.length ≤ 1000000) : Kd.C k127 (w.alloc (.cells (flat3 rs).toArray t)) (some ⟨w.heap.size, 0, none⟩) rs.length rs := by
  refine ⟨rfl, by omega, fun _ => ⟨_, rfl, fun j p hj => ⟨_, rfl, k127_mk _ p, fun i u hu => ?_⟩⟩⟩
  rw [add_plain, World.cell?_alloc_new]
  have := flat3_get rs j p hj i u hu
  show (flat3 rs).toArray[j * 3 + i]? = some u
  simpa using this
noncomputable def ops95 : Array Oper := match Try.f95.body with
  | some (.seq _ (.seq (.region _ ops _) _)) => ops
  | _ => #[]
noncomputable def ops96 : Array Oper := match Try.f96.body with
  | some (.seq _ (.seq (.region _ ops _) _)) => ops
  | _ => #[]
noncomputable def op0 (f : Func) : Oper := match f.body with
  | some (.seq (.region _ ops _) _) => ops.toList.headD default
  | _ => default
noncomputable def tB : List T3 := ops95.toList.filterMap tripOf
noncomputable def tJ : List T3 := ops96.toList.filterMap tripOf
theorem tB_length : tB.length = 230 := by kernel_rfl
theorem tJ_length : tJ.length = 68 := by kernel_rfl
theorem rows127 : UTable.Rows Try.prog 80 127 := ⟨fun w => by simp, fun w => by simp, fun w => ⟨.agg #[.int .i64 0, .int .i64 0, .int .i64 0], by simp⟩⟩
theorem builds127 : Builds Try.prog 127 := by
  intro ev hev o r w ho
  unfold execOp
  simp [ho, T3.op, T3.v, Instr.build, hev, Instr.fill]
  rfl
theorem fn95 : TableFn Try.prog 80 127 95 Try.f95 (op0 Try.f95) ops95 tB (ops95.toList.getD 230 default) (ops95.toList.getD (230 + 1) default) 0 1 where
  get := Try.func95
  body := by kernel_rfl
  h0 := by refine ⟨?_, ?_, ?_⟩ <;> kernel_rfl
  rows := by kernel_rfl
  rest := by kernel_rfl
  hS := by rw [tB_length]; refine ⟨?_, ?_, ?_⟩ <;> kernel_rfl
  hA := by rw [tB_length]; refine ⟨?_, ?_, ?_⟩ <;> kernel_rfl
  ntmps := by rw [tB_length]; kernel_rfl
  res := by kernel_rfl
theorem fn96 : TableFn Try.prog 80 127 96 Try.f96 (op0 Try.f96) ops96 tJ (ops96.toList.getD 68 default) (ops96.toList.getD 69 default) 0 1 where
  get := Try.func96
  body := by kernel_rfl
  h0 := by refine ⟨?_, ?_, ?_⟩ <;> kernel_rfl
  rows := by kernel_rfl
  rest := by kernel_rfl
  hS := by rw [tJ_length]; refine ⟨?_, ?_, ?_⟩ <;> kernel_rfl
  hA := by rw [tJ_length]; refine ⟨?_, ?_, ?_⟩ <;> kernel_rfl
  ntmps := by rw [tJ_length]; kernel_rfl
  res := by kernel_rfl
noncomputable def rsB : List S127 := tB.map fun t => ⟨t.a, t.b, t.c⟩
noncomputable def rsJ : List S127 := tJ.map fun t => ⟨t.a, t.b, t.c⟩
theorem rsB_length : rsB.length = 230 := by unfold rsB; rw [List.length_map, tB_length]
theorem rsJ_length : rsJ.length = 68 := by unfold rsJ; rw [List.length_map, tJ_length]
theorem flat_map (l : List T3) : flat l = flat3 (l.map fun t => (⟨t.a, t.b, t.c⟩ : S127)) := by
  unfold flat flat3
  rw [List.flatMap_map]
theorem bidi_c (w : World) : Calls Try.prog 95 #[] w fun e w' => e = .returned (.slice (some ⟨w.heap.size, 0, none⟩) rsB.length rsB.length) ∧ Kd.C k127 w' (some ⟨w.heap.size, 0, none⟩) rsB.length rsB ∧ Below w.heap.size w w' := by
  refine (runF_ok 10 1 95 #[] w _ _ (table_run fn95 rows127 builds127 (by rw [tB_length]; decide) (fun h => by have := tB_length; rw [h] at this; simp at this) w)).mono ?_
  rintro e W ⟨rfl, rfl⟩
  rw [show tB.length = rsB.length by rw [tB_length, rsB_length]]
  refine ⟨rfl, ?_, below_alloc (Below.refl _ _) _⟩
  rw [flat_map]
  exact C_flat3 w rsB 127 (by rw [rsB_length]; decide)
theorem joinr_c (w : World) : Calls Try.prog 96 #[] w fun e w' => e = .returned (.slice (some ⟨w.heap.size, 0, none⟩) rsJ.length rsJ.length) ∧ Kd.C k127 w' (some ⟨w.heap.size, 0, none⟩) rsJ.length rsJ ∧ Below w.heap.size w w' := by
  refine (runF_ok 10 1 96 #[] w _ _ (table_run fn96 rows127 builds127 (by rw [tJ_length]; decide) (fun h => by have := tJ_length; rw [h] at this; simp at this) w)).mono ?_
  rintro e W ⟨rfl, rfl⟩
  rw [show tJ.length = rsJ.length by rw [tJ_length, rsJ_length]]
  refine ⟨rfl, ?_, below_alloc (Below.refl _ _) _⟩
  rw [flat_map]
  exact C_flat3 w rsJ 127 (by rw [rsJ_length]; decide)
/-! ### the lists are in order -/
def okb (last : Int) : List S127 → Bool
  | [] => true
  | r :: t => decide (last < r.f0) && decide (r.f0 ≤ r.f1) && decide (r.f1 ≤ 1114111) && decide (-1000 ≤ r.f2) && decide (r.f2 ≤ 1000) && okb r.f1 t
theorem rsB_okb : okb (-1) rsB = true := by kernel_rfl
theorem rsJ_okb : okb (-1) rsJ = true := by kernel_rfl
theorem ok_of_okb : ∀ (l : List S127) (last : Int), -1 ≤ last → okb last l = true → Ok l ∧ ∀ r ∈ l, last < r.f0 := by
  intro l
  induction l with
  | nil => intro last _ _; exact ⟨⟨List.Pairwise.nil, fun r h => by simp at h⟩, fun r h => by simp at h⟩
  | cons r t ih =>
    intro last h0 h
    simp only [okb, Bool.and_eq_true, decide_eq_true_eq] at h
    obtain ⟨⟨⟨⟨⟨h1, h2⟩, h3⟩, _⟩, _⟩, h4⟩ := h
    obtain ⟨ok, hb⟩ := ih r.f1 (by omega) h4
    refine ⟨⟨List.Pairwise.cons (fun b hb2 => hb b hb2) ok.apart, fun x hx => ?_⟩, fun x hx => ?_⟩
    · rcases List.mem_cons.1 hx with rfl | hx
      · exact ⟨by omega, h2, h3⟩
      · exact ok.right x hx
    · rcases List.mem_cons.1 hx with rfl | hx
      · exact h1
      · have := hb x hx; omega
theorem okB : Ok rsB := (ok_of_okb rsB (-1) (by omega) rsB_okb).1
theorem okJ : Ok rsJ := (ok_of_okb rsJ (-1) (by omega) rsJ_okb).1
theorem exec_shr7 {a : Act} {o : Oper} (w : World) (x : Operand) (c q : Nat) (hq : q = c / 128) (ho : o.op = .binOp .shr 3 x (.const (.int .u64 7)) 135) (hx : a.eval x = .int .i64 c) : (execOp a.eval o).run Try.prog w = .ok (.value (.int .i64 (q : Int))) w := by
  subst hq
  have h1 : (binOp .shr 3 (.int .i64 c) (.int .u64 7)) = pure (.int .i64 ((c : Int) / 2 ^ (7 : Int).toNat)) := shift_shr .i64 .u64 c 7 (by decide) (by decide)
  have h2 : ∀ u v, eqGuard .shr 3 x (.const (.int .u64 7)) u v = pure () := fun u v => rfl
  have he : a.eval (.const (.int .u64 7)) = .int .u64 7 := rfl
  have h128 : (c : Int) / 2 ^ (7 : Int).toNat = ((c / 128 : Nat) : Int) := by show (c : Int) / 128 = _; omega
  unfold execOp
  simp only [ho, hx, he, h2, h1, h128]
  rfl
theorem exec_and127 {a : Act} {o : Oper} (w : World) (x : Operand) (c r : Nat) (hc : c < 2000000) (hr : r = c % 128) (ho : o.op = .binOp .and 3 x (.const (.int .i64 127)) 3) (hx : a.eval x = .int .i64 c) : (execOp a.eval o).run Try.prog w = .ok (.value (.int .i64 (r : Int))) w := by
  subst hr
  have h1 : (binOp .and 3 (.int .i64 c) (.int .i64 127)) = pure (.int .i64 ((c % 128 : Nat) : Int)) := by
    show pure (Value.int .i64 (IntKind.i64.wrap ((BitVec.ofInt 64 (c : Int) &&& BitVec.ofInt 64 127).toNat : Int))) = _
    have e : (BitVec.ofInt 64 (c : Int) &&& BitVec.ofInt 64 127).toNat = c % 128 := by
      rw [BitVec.toNat_and, BitVec.toNat_ofInt, BitVec.toNat_ofInt]
      rw [show ((c : Int) % ((2 ^ 64 : Nat) : Int)).toNat = c by omega, show ((127 : Int) % ((2 ^ 64 : Nat) : Int)).toNat = 2 ^ 7 - 1 by decide]
      exact Nat.and_two_pow_sub_one_eq_mod c 7
    rw [e, IntWalk.i64_in _ (by omega)]
  have h2 : ∀ u v, eqGuard .and 3 x (.const (.int .i64 127)) u v = pure () := fun u v => rfl
  have he : a.eval (.const (.int .i64 127)) = .int .i64 127 := rfl
  unfold execOp
  simp only [ho, hx, he, h2, h1]
  rfl
theorem table_below {w w' : World} {l : List S127} {n : Int} {g : Nat} (h : Table w l n g) (hb : Below w.heap.size w w') : Table w' l n g := by
  obtain ⟨vf, v2, first, second, hT, h1, h2, tab⟩ := h
  exact ⟨vf, v2, first, second, (hb.block g (blk_lt hT)).trans hT, h1.below hb, h2.below hb, tab⟩
theorem getR_out (l : List S127) (ok : Ok l) (n c : Int) (h : c < 0 ∨ 1114111 < c) : getR l n c = n := getR_none l n c (fun r hr => by have := ok.right r hr; omega)
set_option maxRecDepth 100000 in
set_option maxHeartbeats 4000000 in
theorem at_c {w : World} {g : Nat} {l : List S127} {n : Int} (h : Table w l n g) (c : Nat) (hc : c ≤ 1114111) : Calls Try.prog 185 #[.pointer (some ⟨g, 0, none⟩), .int .i64 c] w fun e w' => e = .returned (.int .i64 (getR l n c)) ∧ Below w.heap.size w w' := by
  obtain ⟨vf, v2, first, second, hT, h1, h2, tab⟩ := h
  obtain ⟨A, cp, rfl, hlen, hC⟩ := h1
  obtain ⟨A2, cp2, rfl, hlen2, hC2⟩ := h2
  obtain ⟨i, hi, hf, hb⟩ := tab.each (c / 128) (by omega)
  have t0 : w.cell? ⟨g, 0, none⟩ = some (.slice A first.length cp) := (blk_cell hT 0).trans rfl
  have t1 : w.cell? ⟨g, 1, none⟩ = some (.slice A2 second.length cp2) := (blk_cell hT 1).trans rfl
  obtain ⟨ad, rfl, hcell⟩ := Kd.at_int hC ((c / 128 : Nat) : Int) (by omega) (by have := tab.len; omega)
  obtain ⟨ad2, rfl, hl2, hcell2⟩ := kb_at hC2 i hi
  have hv : (vs (second.getD i [])).toList[c % 128]? = some (.int .i64 (getR l n c)) := by
    rw [hb]
    have := blockL_get l n c
    have hlt : c % 128 < (blockL l n (c / 128)).length := by rw [blockL_length]; omega
    rw [List.getD_eq_getElem?_getD, List.getElem?_eq_getElem hlt, Option.getD_some] at this
    simp [vs, List.getElem?_eq_getElem hlt, this]
  have hcell2 := hcell2 _ _ hv
  have hlen1 := tab.len
  rw [Int.toNat_natCast] at hcell
  rw [show rd first ((c / 128 : Nat) : Int) = (i : Int) by show first.getD _ 0 = _; rw [Int.toNat_natCast]; exact hf] at hcell
  rw [hlen1] at t0
  obtain ⟨m, hm⟩ : ∃ m, m = second.length := ⟨_, rfl⟩
  rw [← hm] at t1 hi
  obtain ⟨q, hq⟩ : ∃ q, q = c / 128 := ⟨_, rfl⟩
  obtain ⟨r, hr⟩ : ∃ r, r = c % 128 := ⟨_, rfl⟩
  rw [← hq] at hcell
  rw [← hr] at hcell2
  have HQ := Aside0.mk hq
  have HR := Aside0.mk hr
  have hq1 : q < 8704 := by omega
  have hqI : (q : Int) < 8704 := by omega
  have hiI : (i : Int) < m := by omega
  have hrI : (r : Int) < 128 := by omega
  clear hq hr
  obtain ⟨X, hX⟩ : ∃ X, X = getR l n c := ⟨_, rfl⟩
  rw [← hX] at hcell2 ⊢
  clear hC hC2 hT tab hf hb hv hl2 hlen hlen2 hm hX hlen1
  go_enter Try.func185, Try.ntmps185
  go_wp2_with fail
  refine start_ (n := 18) (S := fun W => Below w.heap.size w W) (ds := []) #[false, false, false, false, false, false, false, false, false, false, false, false, false, false, false, false, false, false] (by kernel_rfl) (by kernel_rfl) (by rfl) (below_drew (Below.refl _ _)) (fun hS0 => ?_)
  refine pure_ (i := 0) (N := (some 5)) (v := ?_) (a' := ?_) #[true, false, false, false, false, false, false, false, false, false, false, false, false, false, false, false, false, false] rfl rfl (by kernel_rfl) (fun _ _ _ h => h) (Or.inl ⟨by rfl, ?_⟩) ?_ ?_
  rotate_left
  · intro w'
    go_simp
    with_reducible rfl
  rotate_left
  · simp only [Act.put, List.setIfInBounds_toArray, List.set_cons_zero, List.set_cons_succ]
    rfl
  refine pure_ (i := 1) (N := (some 6)) (v := ?_) (a' := ?_) #[true, true, false, false, false, false, false, false, false, false, false, false, false, false, false, false, false, false] rfl rfl (by kernel_rfl) (fun _ _ _ h => h) (Or.inl ⟨by rfl, ?_⟩) ?_ ?_
  rotate_left
  · intro w'
    go_simp
    with_reducible rfl
  rotate_left
  · simp only [Act.put, List.setIfInBounds_toArray, List.set_cons_zero, List.set_cons_succ]
    rfl
  refine pure_ (i := 2) (N := (some 7)) (v := ?_) (a' := ?_) #[true, true, true, false, false, false, false, false, false, false, false, false, false, false, false, false, false, false] rfl rfl (by kernel_rfl) (fun _ _ _ h => h) (Or.inl ⟨by rfl, ?_⟩) ?_ ?_
  rotate_left
  · intro w'
    go_simp
    with_reducible rfl
  rotate_left
  · simp only [Act.put, List.setIfInBounds_toArray, List.set_cons_zero, List.set_cons_succ]
    rfl
  refine take_ (i := 3) (N := (some 8)) (v := ?_) (a' := ?_) #[true, true, true, true, false, false, false, false, false, false, false, false, false, false, false, false, false, false] rfl rfl (by kernel_rfl) (fun _ _ _ h => h) (Or.inl ⟨by rfl, ?_⟩) hS0 ?_ ?_
  rotate_left
  · intro w' s0
    have hx := (s0.cell (World.block_lt_of_cell? _ _ t1)).trans t1
    go_simp
    with_reducible rfl
  rotate_left
  · simp only [Act.put, List.setIfInBounds_toArray, List.set_cons_zero, List.set_cons_succ]
    rfl
  refine pure_ (i := 4) (N := (some 9)) (v := ?_) (a' := ?_) #[true, true, true, true, true, false, false, false, false, false, false, false, false, false, false, false, false, false] rfl rfl (by kernel_rfl) (fun _ _ _ h => h) (Or.inl ⟨by rfl, ?_⟩) ?_ ?_
  rotate_left
  · intro w'
    go_simp
    with_reducible rfl
  rotate_left
  · simp only [Act.put, List.setIfInBounds_toArray, List.set_cons_zero, List.set_cons_succ]
    rfl
  refine pure_ (i := 5) (N := (some 10)) (v := ?_) (a' := ?_) #[true, true, true, true, true, true, false, false, false, false, false, false, false, false, false, false, false, false] rfl rfl (by kernel_rfl) (fun _ _ _ h => h) (Or.inl ⟨by rfl, ?_⟩) ?_ ?_
  rotate_left
  · intro w'
    go_simp
    with_reducible rfl
  rotate_left
  · simp only [Act.put, List.setIfInBounds_toArray, List.set_cons_zero, List.set_cons_succ]
    rfl
  refine pure_ (i := 6) (N := (some 11)) (v := ?_) (a' := ?_) #[true, true, true, true, true, true, true, false, false, false, false, false, false, false, false, false, false, false] rfl rfl (by kernel_rfl) (fun _ _ _ h => h) (Or.inl ⟨by rfl, ?_⟩) ?_ ?_
  rotate_left
  · intro w'
    go_simp
    with_reducible rfl
  rotate_left
  · simp only [Act.put, List.setIfInBounds_toArray, List.set_cons_zero, List.set_cons_succ]
    rfl
  refine take_ (i := 7) (N := (some 12)) (v := ?_) (a' := ?_) #[true, true, true, true, true, true, true, true, false, false, false, false, false, false, false, false, false, false] rfl rfl (by kernel_rfl) (fun _ _ _ h => h) (Or.inl ⟨by rfl, ?_⟩) hS0 ?_ ?_
  rotate_left
  · intro w' s0
    have hx := (s0.cell (World.block_lt_of_cell? _ _ t0)).trans t0
    go_simp
    with_reducible rfl
  rotate_left
  · simp only [Act.put, List.setIfInBounds_toArray, List.set_cons_zero, List.set_cons_succ]
    rfl
  refine pure_ (i := 8) (N := (some 13)) (v := ?_) (a' := ?_) #[true, true, true, true, true, true, true, true, true, false, false, false, false, false, false, false, false, false] rfl rfl (by kernel_rfl) (fun _ _ _ h => h) (Or.inl ⟨by rfl, ?_⟩) ?_ ?_
  rotate_left
  · intro w'
    go_simp
    with_reducible rfl
  rotate_left
  · simp only [Act.put, List.setIfInBounds_toArray, List.set_cons_zero, List.set_cons_succ]
    rfl
  refine pure_ (i := 9) (N := (some 14)) (v := ?_) (a' := ?_) #[true, true, true, true, true, true, true, true, true, true, false, false, false, false, false, false, false, false] rfl rfl (by kernel_rfl) (fun _ _ _ h => h) (Or.inl ⟨by rfl, ?_⟩) ?_ ?_
  rotate_left
  · intro w'
    refine exec_shr7 w' (.tmp 13) c q HQ.out ?_ ?_
    · rfl
    · rfl
  rotate_left
  · simp only [Act.put, List.setIfInBounds_toArray, List.set_cons_zero, List.set_cons_succ]
    rfl
  refine pure_ (i := 10) (N := (some 15)) (v := ?_) (a' := ?_) #[true, true, true, true, true, true, true, true, true, true, true, false, false, false, false, false, false, false] rfl rfl (by kernel_rfl) (fun _ _ _ h => h) (Or.inl ⟨by rfl, ?_⟩) ?_ ?_
  rotate_left
  · intro w'
    go_simp
    with_reducible rfl
  rotate_left
  · simp only [Act.put, List.setIfInBounds_toArray, List.set_cons_zero, List.set_cons_succ]
    rfl
  refine take_ (i := 11) (N := (some 16)) (v := ?_) (a' := ?_) #[true, true, true, true, true, true, true, true, true, true, true, true, false, false, false, false, false, false] rfl rfl (by kernel_rfl) (fun _ _ _ h => h) (Or.inl ⟨by rfl, ?_⟩) hS0 ?_ ?_
  rotate_left
  · intro w' s0
    have hx := (s0.cell (World.block_lt_of_cell? _ _ hcell)).trans hcell
    go_simp
    with_reducible rfl
  rotate_left
  · simp only [Act.put, List.setIfInBounds_toArray, List.set_cons_zero, List.set_cons_succ]
    rfl
  refine pure_ (i := 12) (N := (some 17)) (v := ?_) (a' := ?_) #[true, true, true, true, true, true, true, true, true, true, true, true, true, false, false, false, false, false] rfl rfl (by kernel_rfl) (fun _ _ _ h => h) (Or.inl ⟨by rfl, ?_⟩) ?_ ?_
  rotate_left
  · intro w'
    go_simp
    with_reducible rfl
  rotate_left
  · simp only [Act.put, List.setIfInBounds_toArray, List.set_cons_zero, List.set_cons_succ]
    rfl
  refine pure_ (i := 13) (N := (some 18)) (v := ?_) (a' := ?_) #[true, true, true, true, true, true, true, true, true, true, true, true, true, true, false, false, false, false] rfl rfl (by kernel_rfl) (fun _ _ _ h => h) (Or.inl ⟨by rfl, ?_⟩) ?_ ?_
  rotate_left
  · intro w'
    refine exec_and127 w' (.tmp 17) c r (by omega) HR.out ?_ ?_
    · rfl
    · rfl
  rotate_left
  · simp only [Act.put, List.setIfInBounds_toArray, List.set_cons_zero, List.set_cons_succ]
    rfl
  refine pure_ (i := 14) (N := (some 19)) (v := ?_) (a' := ?_) #[true, true, true, true, true, true, true, true, true, true, true, true, true, true, true, false, false, false] rfl rfl (by kernel_rfl) (fun _ _ _ h => h) (Or.inl ⟨by rfl, ?_⟩) ?_ ?_
  rotate_left
  · intro w'
    go_simp
    with_reducible rfl
  rotate_left
  · simp only [Act.put, List.setIfInBounds_toArray, List.set_cons_zero, List.set_cons_succ]
    rfl
  refine pure_ (i := 15) (N := (some 20)) (v := ?_) (a' := ?_) #[true, true, true, true, true, true, true, true, true, true, true, true, true, true, true, true, false, false] rfl rfl (by kernel_rfl) (fun _ _ _ h => h) (Or.inl ⟨by rfl, ?_⟩) ?_ ?_
  rotate_left
  · intro w'
    go_simp
    with_reducible rfl
  rotate_left
  · simp only [Act.put, List.setIfInBounds_toArray, List.set_cons_zero, List.set_cons_succ]
    rfl
  refine take_ (i := 16) (N := (some 21)) (v := ?_) (a' := ?_) #[true, true, true, true, true, true, true, true, true, true, true, true, true, true, true, true, true, false] rfl rfl (by kernel_rfl) (fun _ _ _ h => h) (Or.inl ⟨by rfl, ?_⟩) hS0 ?_ ?_
  rotate_left
  · intro w' s0
    have hx := (s0.cell (World.block_lt_of_cell? _ _ hcell2)).trans hcell2
    go_simp
    with_reducible rfl
  rotate_left
  · simp only [Act.put, List.setIfInBounds_toArray, List.set_cons_zero, List.set_cons_succ]
    rfl
  refine pure_ (i := 17) (N := (some 4)) (v := ?_) (a' := ?_) #[true, true, true, true, true, true, true, true, true, true, true, true, true, true, true, true, true, true] rfl rfl (by kernel_rfl) (fun _ _ _ h => h) (Or.inl ⟨by rfl, ?_⟩) ?_ ?_
  rotate_left
  · intro w'
    go_simp
    with_reducible rfl
  rotate_left
  · simp only [Act.put, List.setIfInBounds_toArray, List.set_cons_zero, List.set_cons_succ]
    rfl
  refine done_ (by kernel_rfl) ?_
  go_wp2
  go_ret
  exact ⟨rfl, by assumption⟩
set_option maxRecDepth 100000 in
set_option maxHeartbeats 4000000 in
theorem has_c {w : World} {g : Nat} {l : List S127} {n : Int} (h : Table w l n g) (c : Int) : Calls Try.prog 184 #[.pointer (some ⟨g, 0, none⟩), .int .i64 c] w fun e w' => e = .returned (.bool (decide (0 ≤ c) && decide (c ≤ 1114111))) ∧ Below w.heap.size w w' := by
  obtain ⟨vf, v2, first, second, hT, h1, h2, tab⟩ := h
  have t3 : w.cell? ⟨g, 3, none⟩ = some (.bool true) := (blk_cell hT 3).trans rfl
  clear hT h1 h2 tab
  go_enter Try.func184, Try.ntmps184
  by_cases h1 : 0 ≤ c
  · by_cases h2 : c ≤ 1114111
    · go_wp2
      go_ret
      exact ⟨by simp [h1, h2], Below.refl _ _⟩
    · go_wp2
      go_ret
      exact ⟨by simp [h1, h2], Below.refl _ _⟩
  · go_wp2
    go_ret
    exact ⟨by simp [h1]; omega, Below.refl _ _⟩
set_option maxRecDepth 100000 in
set_option maxHeartbeats 4000000 in
theorem get_c {w : World} {g : Nat} {l : List S127} {n : Int} (h : Table w l n g) (ok : Ok l) (c : Int) : Calls Try.prog 169 #[.pointer (some ⟨g, 0, none⟩), .int .i64 c] w fun e w' => e = .returned (.int .i64 (getR l n c)) ∧ Below w.heap.size w w' := by
  have H := Aside0.mk h
  have HOK := Aside0.mk ok
  obtain ⟨vf, v2, first, second, hT, h1, h2, tab⟩ := h
  have t2 : w.cell? ⟨g, 2, none⟩ = some (.int .i64 n) := (blk_cell hT 2).trans rfl
  have t0 : w.cell? ⟨g, 0, none⟩ = some vf := (blk_cell hT 0).trans rfl
  clear hT h1 h2 tab ok
  by_cases hin : 0 ≤ c ∧ c ≤ 1114111
  · obtain ⟨k, rfl⟩ : ∃ k : Nat, c = k := ⟨c.toNat, by omega⟩
    have hk : k ≤ 1114111 := by omega
    have hb : (decide ((0 : Int) ≤ k) && decide ((k : Int) ≤ 1114111)) = true := by simp; omega
    clear hin
    go_enter Try.func169, Try.ntmps169
    go_wp2_with fail
    refine (has_c H.out _).mono ?_
    rintro e w1 ⟨rfl, hb1⟩
    rw [hb]
    have HB1 := Aside0.mk hb1
    clear hb1
    go_wp2_with fail
    refine (at_c (table_below H.out HB1.out) k hk).mono ?_
    rintro e w2 ⟨rfl, hb2⟩
    have HB2 : Aside0 (Below w.heap.size w w2) := ⟨below_step HB1.out hb2⟩
    clear hb2
    go_wp2
    go_ret
    exact ⟨rfl, HB2.out⟩
  · have hb : (decide ((0 : Int) ≤ c) && decide ((c : Int) ≤ 1114111)) = false := by simp; omega
    have hG := Aside0.mk (getR_out l HOK.out n c (by omega))
    clear hin
    go_enter Try.func169, Try.ntmps169
    go_wp2_with fail
    refine (has_c H.out _).mono ?_
    rintro e w1 ⟨rfl, hb1⟩
    rw [hb]
    have t2' : w1.cell? ⟨g, 2, none⟩ = some (.int .i64 n) := (hb1.cell (World.block_lt_of_cell? _ _ t2)).trans t2
    have HB1 := Aside0.mk hb1
    clear hb1
    go_wp2
    go_ret
    exact ⟨by rw [hG.out]; rfl, HB1.out⟩
/-- the properties stand in memory -/
def PropsAt (w : World) (g : Nat) : Prop := ∃ g1 g2 : Nat, w.heap[g]? = some (.cells #[.pointer (some ⟨g1, 0, none⟩), .pointer (some ⟨g2, 0, none⟩)] 85 (0, 0)) ∧ Table w rsB 0 g1 ∧ Table w rsJ 0 g2
theorem PropsAt.below {w w' : World} {g : Nat} (h : PropsAt w g) (hb : Below w.heap.size w w') : PropsAt w' g := by
  obtain ⟨g1, g2, hT, h1, h2⟩ := h
  exact ⟨g1, g2, (hb.block g (blk_lt hT)).trans hT, table_below h1 hb, table_below h2 hb⟩
/-- a code's class -/
noncomputable def cl (c : Int) : Int := if 0 ≤ c ∧ c ≤ 1114111 then getR rsB 0 c else 13
noncomputable def jn (c : Int) : Int := getR rsJ 0 c
set_option maxRecDepth 100000 in
set_option maxHeartbeats 4000000 in
theorem code_c {w : World} (c : Int) : Calls Try.prog 168 #[.int .i64 c] w fun e w' => e = .returned (.bool (decide (0 ≤ c) && decide (c ≤ 1114111))) ∧ Below w.heap.size w w' := by
  go_enter Try.func168, Try.ntmps168
  by_cases h1 : 0 ≤ c
  · by_cases h2 : c ≤ 1114111
    · go_wp2
      go_ret
      exact ⟨by simp [h1, h2], Below.refl _ _⟩
    · go_wp2
      go_ret
      exact ⟨by simp [h1, h2], Below.refl _ _⟩
  · go_wp2
    go_ret
    exact ⟨by simp [h1]; omega, Below.refl _ _⟩
set_option maxRecDepth 100000 in
set_option maxHeartbeats 4000000 in
theorem made_c {w : World} {g : Nat} (h : PropsAt w g) : Calls Try.prog 167 #[.pointer (some ⟨g, 0, none⟩)] w fun e w' => e = .returned (.bool true) ∧ Below w.heap.size w w' := by
  obtain ⟨g1, g2, hT, h1, h2⟩ := h
  have t0 : w.cell? ⟨g, 0, none⟩ = some (.pointer (some ⟨g1, 0, none⟩)) := (blk_cell hT 0).trans rfl
  clear hT h1 h2
  go_enter Try.func167, Try.ntmps167
  go_wp2
  go_ret
  exact ⟨rfl, Below.refl _ _⟩
set_option maxRecDepth 100000 in
set_option maxHeartbeats 4000000 in
theorem class_c {w : World} {g : Nat} (h : PropsAt w g) (c : Int) : Calls Try.prog 145 #[.pointer (some ⟨g, 0, none⟩), .int .i64 c] w fun e w' => e = .returned (.int .i64 (cl c)) ∧ Below w.heap.size w w' := by
  have H := Aside0.mk h
  obtain ⟨g1, g2, hT, h1, h2⟩ := h
  have t0 : w.cell? ⟨g, 0, none⟩ = some (.pointer (some ⟨g1, 0, none⟩)) := (blk_cell hT 0).trans rfl
  have H1 := Aside0.mk h1
  have HC : Aside0 ((0 ≤ c ∧ c ≤ 1114111) ∧ cl c = getR rsB 0 c ∨ ¬ (0 ≤ c ∧ c ≤ 1114111) ∧ cl c = 13) := ⟨by unfold cl; split <;> simp [*]⟩
  obtain ⟨X, hX⟩ : ∃ X, X = cl c := ⟨_, rfl⟩
  rw [← hX] at HC ⊢
  clear hT h1 h2 hX
  go_enter Try.func145, Try.ntmps145
  go_wp2_with fail
  refine (made_c H.out).mono ?_
  rintro e w1 ⟨rfl, hb1⟩
  have HB1 := Aside0.mk hb1
  clear hb1
  go_wp2_with fail
  refine (code_c c).mono ?_
  rintro e w2 ⟨rfl, hb2⟩
  have HB2 : Aside0 (Below w.heap.size w w2) := ⟨below_step HB1.out hb2⟩
  clear hb2
  rcases HC.out with ⟨hin, hc⟩ | ⟨hin, hc⟩
  · have hb : (decide ((0 : Int) ≤ c) && decide ((c : Int) ≤ 1114111)) = true := by simp; omega
    have HX := Aside0.mk hc
    have t2 : w2.cell? ⟨g, 0, none⟩ = some (.pointer (some ⟨g1, 0, none⟩)) := (HB2.out.cell (World.block_lt_of_cell? _ _ t0)).trans t0
    rw [hb]
    clear hin hc HC
    go_wp2_with fail
    refine (get_c (table_below H1.out HB2.out) okB c).mono ?_
    rintro e w3 ⟨rfl, hb3⟩
    have HB3 : Aside0 (Below w.heap.size w w3) := ⟨below_step HB2.out hb3⟩
    clear hb3
    go_wp2
    go_ret
    exact ⟨by rw [HX.out]; rfl, HB3.out⟩
  · have hb : (decide ((0 : Int) ≤ c) && decide ((c : Int) ≤ 1114111)) = false := by simp; omega
    subst hc
    rw [hb]
    clear hin HC
    go_wp2
    go_ret
    exact ⟨rfl, HB2.out⟩
set_option maxRecDepth 100000 in
set_option maxHeartbeats 4000000 in
theorem new_c (w : World) : Calls Try.prog 52 #[] w fun e w' => ∃ g : Nat, e = .returned (.pointer (some ⟨g, 0, none⟩)) ∧ PropsAt w' g ∧ Below w.heap.size w w' := by
  go_enter Try.func52, Try.ntmps52
  go_wp2_with fail
  refine (bidi_c w).mono ?_
  rintro e w1 ⟨rfl, hC1, hb1⟩
  have HB1 := Aside0.mk hb1
  have H1 : Aside0 (SLk k127 w1 (.slice (some ⟨w.heap.size, 0, none⟩) rsB.length rsB.length) rsB) := ⟨SLk.mk hC1 (Nat.le_refl _)⟩
  clear hC1 hb1
  go_wp2_with fail
  refine (build_c 0 H1.out okB (by rw [rsB_length]; decide)).mono ?_
  rintro e w2 ⟨g1, rfl, hg1, hT1, hb2⟩
  have HB2 : Aside0 (Below w.heap.size w w2) := ⟨below_step HB1.out hb2⟩
  have HT1 := Aside0.mk hT1
  clear hT1 hb2 hg1
  go_wp2_with fail
  refine (joinr_c w2).mono ?_
  rintro e w3 ⟨rfl, hC3, hb3⟩
  have HB3 : Aside0 (Below w.heap.size w w3) := ⟨below_step HB2.out hb3⟩
  have HT3 : Aside0 (Table w3 rsB 0 g1) := ⟨table_below HT1.out hb3⟩
  have H3 : Aside0 (SLk k127 w3 (.slice (some ⟨w2.heap.size, 0, none⟩) rsJ.length rsJ.length) rsJ) := ⟨SLk.mk hC3 (Nat.le_refl _)⟩
  clear hC3 hb3
  go_wp2_with fail
  refine (build_c 0 H3.out okJ (by rw [rsJ_length]; decide)).mono ?_
  rintro e w4 ⟨g2, rfl, hg2, hT4, hb4⟩
  have HB4 : Aside0 (Below w.heap.size w w4) := ⟨below_step HB3.out hb4⟩
  have HT4 : Aside0 (Table w4 rsB 0 g1) := ⟨table_below HT3.out hb4⟩
  have HJ4 := Aside0.mk hT4
  clear hT4 hb4 hg2
  go_wp2_with fail
  go_ret
  exact ⟨w4.heap.size, rfl, ⟨g1, g2, blk_new w4 _, table_below HT4.out (below_alloc (Below.refl _ _) _), table_below HJ4.out (below_alloc (Below.refl _ _) _)⟩, below_alloc HB4.out _⟩
end Go.Proofs.Ytfkgjoflekemaaa.CProps
