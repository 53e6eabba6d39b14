/- A function that makes a list of triples of constants: run by induction, not by the kernel. Of whatever program. -/
import Derived.Test.YtfkgjoflekemaaaUBase
namespace Go.Proofs.Ytfkgjoflekemaaa.UTable
set_option linter.unusedVariables false
open Go Go.Proofs.Ytfkgjoflekemaaa.U
structure T3 where
  a : Int
  b : Int
  c : Int
def T3.v (r : T3) : Value := .agg #[.int .i64 r.a, .int .i64 r.b, .int .i64 r.c]
def T3.op (t : TypeId) (r : T3) : Op := .build t #[(0, .const (.int .i64 r.a)), (1, .const (.int .i64 r.b)), (2, .const (.int .i64 r.c))]
def reops (t : TypeId) : Nat → List Oper → List T3 → List Oper
  | _, os, [] => os
  | _, [], _ :: _ => []
  | i, o :: os, r :: rs => { dst := some i, op := r.op t, type := o.type, pos := o.pos, after := o.after, guard := none } :: reops t (i + 1) os rs
def tripOf (o : Oper) : Option T3 := match o.op with
  | .build _ ps => match ps.toList with
    | [(_, .const (.int _ a)), (_, .const (.int _ b)), (_, .const (.int _ c))] => some ⟨a, b, c⟩
    | _ => none
  | _ => none
def flat (rs : List T3) : List Value := rs.flatMap fun x => [.int .i64 x.a, .int .i64 x.b, .int .i64 x.c]
theorem flat_length (rs : List T3) : (flat rs).length = rs.length * 3 := by
  induction rs with
  | nil => rfl
  | cons r t ih =>
    have : flat (r :: t) = [.int .i64 r.a, .int .i64 r.b, .int .i64 r.c] ++ flat t := by unfold flat; rw [List.flatMap_cons]
    rw [this, List.length_append, ih]
    simp
    omega
def Builds (P : Program) (t : TypeId) : Prop := ∀ (ev : Operand → Value) (_ : ∀ v, ev (.const v) = v) (o : Oper) (r : T3) (w : World), o.op = r.op t → (execOp ev o).run P w = .ok (.value r.v) w
theorem run_builds {P : Program} {call : CallF} {ops : Array Oper} {t : TypeId} (hb : Builds P t) (d : List Deferred) : ∀ (rs : List T3) (os : List Oper) (i : Nat) (pre post : List Value) (w : World), pre.length = i → rs.length ≤ os.length → rs.length ≤ post.length → runList P call ops (reops t i os rs) { tmps := (pre ++ post).toArray, defers := d } w = runList P call ops (os.drop rs.length) { tmps := (pre ++ rs.map T3.v ++ post.drop rs.length).toArray, defers := d } w
  | [], os, i, pre, post, w, _, _, _ => by simp [reops]
  | r :: rs, [], i, pre, post, w, _, h, _ => by simp at h
  | r :: rs, o :: os, i, pre, [], w, _, _, h => by simp at h
  | r :: rs, o :: os, i, pre, p :: post, w, h1, h2, h3 => by
    conv => lhs; unfold reops runList
    rw [if_pos (by rfl), hb _ (fun v => rfl) _ r w rfl]
    dsimp only
    have e : (({ tmps := (pre ++ p :: post).toArray, defers := d } : Act).put (some i) r.v) = { tmps := ((pre ++ [r.v]) ++ post).toArray, defers := d } := by
      simp only [Act.put, List.setIfInBounds_toArray]
      congr 2
      subst h1
      simp
    rw [e, run_builds hb d rs os (i + 1) (pre ++ [r.v]) post w (by simp; omega) (by simpa using h2) (by simpa using h3)]
    simp
theorem take3 (l : List Value) (k : Nat) (x y z : Value) (h : k + 3 ≤ l.length) : (((l.set k x).set (k + 1) y).set (k + 2) z).take (k + 3) = l.take k ++ [x, y, z] := by
  refine List.ext_getElem? fun i => ?_
  rw [List.getElem?_take, List.getElem?_append, List.length_take, Nat.min_eq_left (by omega)]
  by_cases h0 : i < k
  · rw [if_pos (by omega), if_pos h0, List.getElem?_set_ne (by omega), List.getElem?_set_ne (by omega), List.getElem?_set_ne (by omega), List.getElem?_take, if_pos h0]
  · rw [if_neg h0]
    obtain ⟨j, rfl⟩ : ∃ j, i = k + j := ⟨i - k, by omega⟩
    rw [Nat.add_sub_cancel_left]
    match j with
    | 0 => rw [if_pos (by omega), List.getElem?_set_ne (by omega), List.getElem?_set_ne (by omega), Nat.add_zero, List.getElem?_set_self (by omega)]; rfl
    | 1 => rw [if_pos (by omega), List.getElem?_set_ne (by omega), List.getElem?_set_self (by simp; omega)]; rfl
    | 2 => rw [if_pos (by omega), List.getElem?_set_self (by simp; omega)]; rfl
    | j + 3 => rw [if_neg (by omega)]; rfl
theorem fill_rows : ∀ (rs : List T3) (j : Nat) (cells : Array Value), j * 3 + rs.length * 3 = cells.size → Instr.fill (fun i => some (i * 3, 3)) cells ((rs.zipIdx j).map fun p => (p.2, p.1.v)) = some (cells.toList.take (j * 3) ++ flat rs).toArray
  | [], j, cells, h => by
    unfold Instr.fill
    simp only [List.zipIdx_nil, List.map_nil, flat, List.flatMap_nil, List.append_nil]
    rw [List.take_of_length_le (by simp at h ⊢; omega)]
  | r :: rs, j, cells, h => by
    rw [List.zipIdx_cons, List.map_cons]
    unfold Instr.fill
    have hc : (T3.v r).cells = #[.int .i64 r.a, .int .i64 r.b, .int .i64 r.c] := rfl
    rw [List.length_cons] at h
    dsimp only
    rw [hc]
    rw [if_neg (by simp; omega)]
    have hz : ((#[.int .i64 r.a, .int .i64 r.b, .int .i64 r.c] : Array Value).zipIdx.foldl (fun cs (p : Value × Nat) => cs.setIfInBounds (j * 3 + p.2) p.1) cells) = ((cells.setIfInBounds (j * 3) (.int .i64 r.a)).setIfInBounds (j * 3 + 1) (.int .i64 r.b)).setIfInBounds (j * 3 + 2) (.int .i64 r.c) := rfl
    rw [hz, fill_rows rs (j + 1) _ (by simp; omega)]
    congr 2
    simp only [Array.toList_setIfInBounds]
    rw [show (j + 1) * 3 = j * 3 + 3 by omega, take3 _ _ _ _ _ (by simp; omega), List.append_assoc]
    unfold flat
    rw [List.flatMap_cons]
def partsOf (n : Nat) : Array (Nat × Operand) := ((List.range n).map fun i => (i, Operand.tmp (i + 1))).toArray
structure Rows (P : Program) (ts t : TypeId) : Prop where
  slice : ∀ w, (underlying ts).run P w = .ok (.slice t) w
  size : ∀ w, (sizeOf t).run P w = .ok 3 w
  zero : ∀ w, ∃ v, (zeroValue t).run P w = .ok v w
theorem run_rows {P : Program} {ts t : TypeId} (h : Rows P ts t) {o : Oper} {rs : List T3} {a : Act} {w : World} (hm : rs.length ≤ 100000) (h0 : rs ≠ []) (ho : o.op = .buildSlice ts rs.length (partsOf rs.length)) (hx : ∀ (i : Nat) (hi : i < rs.length), a.eval (.tmp (i + 1)) = rs[i].v) :
    (execOp a.eval o).run P w = .ok (.value (.slice (some ⟨w.heap.size, 0, none⟩) rs.length rs.length)) (w.alloc (.cells (flat rs).toArray t)) := by
  have hl : rs.length ≠ 0 := fun e => h0 (List.length_eq_zero_iff.1 e)
  have hp : ((partsOf rs.length).map fun x => (x.1, a.eval x.2)).toList = (rs.zipIdx 0).map fun p => (p.2, p.1.v) := by
    unfold partsOf
    rw [Array.toList_map]
    refine List.ext_getElem (by simp) fun i h1 h2 => ?_
    simp only [List.getElem_map, List.getElem_range, List.getElem_zipIdx, Nat.zero_add]
    rw [hx i (by simpa using h1)]
  obtain ⟨zv, hz⟩ := h.zero w
  unfold execOp
  simp only [ho]
  unfold Instr.buildSlice
  have hfill : Instr.fill (fun i => some (i * 3, 3)) ((Array.range (rs.length * 3)).map (zv.cells[· % zv.cells.size]!)) ((partsOf rs.length).map fun x => (x.1, a.eval x.2)).toList = some (flat rs).toArray := by
    rw [hp, fill_rows rs 0 _ (by simp)]
    simp
  rw [Array.toList_map] at hfill
  have hl3 : ¬ (rs.length * 3 = 0) := by omega
  have hs := h.slice w
  have hsz := h.size w
  simp [hs, hsz, hz, hfill, hl3, newRow, show ¬ (2 ^ 24 < rs.length * 3) by omega]
/-- A function that tells such a list. -/
structure TableFn (P : Program) (ts t : TypeId) (f : Nat) (fn : Func) (o0 : Oper) (ops : Array Oper) (rs : List T3) (oS oA : Oper) (i0 i1 : Nat) : Prop where
  get : P.funcs[f]? = some fn
  body : fn.body = some ((Code.region i0 #[o0] false).seq ((Code.region i1 ops false).seq .ret))
  h0 : o0.op = .assign (.const (.slice none 0 0)) ∧ o0.dst = some 0 ∧ o0.guard = none
  rows : reops t 1 ops.toList rs = ops.toList
  rest : ops.toList.drop rs.length = [oS, oA]
  hS : oS.op = .buildSlice ts rs.length (partsOf rs.length) ∧ oS.dst = some (rs.length + 1) ∧ oS.guard = none
  hA : oA.op = .assign (.tmp (rs.length + 1)) ∧ oA.dst = some 0 ∧ oA.guard = none
  ntmps : fn.ntmps = rs.length + 2
  res : fn.results = #[.tmp 0]
theorem set_toArray (l : List Value) (i : Nat) (v : Value) (d : List Deferred) : (({ tmps := l.toArray, defers := d } : Act).put (some i) v) = { tmps := (l.set i v).toArray, defers := d } := by
  simp [Act.put]
theorem table_run {P : Program} {ts t : TypeId} {f : Nat} {fn : Func} {o0 : Oper} {ops : Array Oper} {rs : List T3} {oS oA : Oper} {i0 i1 : Nat} (h : TableFn P ts t f fn o0 ops rs oS oA i0 i1) (hr : Rows P ts t) (hb : Builds P t) (hm : rs.length ≤ 100000) (hn : rs ≠ []) (w : World) :
    runF P 10 1 f #[] w = some (.slice (some ⟨w.heap.size, 0, none⟩) rs.length rs.length, w.alloc (.cells (flat rs).toArray t)) := by
  have hl : rs.length ≤ ops.toList.length := by
    have := congrArg List.length h.rest
    simp at this
    simp
    omega
  have hstart : (#[] ++ Array.replicate (fn.ntmps - (#[] : Array Value).size) undef) = (undef :: List.replicate (rs.length + 1) undef).toArray := by
    rw [h.ntmps]
    apply Array.ext'
    simp [List.replicate_succ]
  have e1 : (runList P (runF P 10 0) #[o0] [o0] { tmps := (undef :: List.replicate (rs.length + 1) undef).toArray, defers := [] } w) = some ({ tmps := ([Value.slice none 0 0] ++ List.replicate (rs.length + 1) undef).toArray, defers := [] }, w) := by
    unfold runList
    rw [if_pos (by unfold Region.wanted; rw [h.h0.2.2])]
    unfold execOp
    simp only [h.h0.1, h.h0.2.1, Sem.run_pure, set_toArray]
    unfold runList
    rfl
  have hdrop : (List.replicate (rs.length + 1) undef).drop rs.length = [undef] := by simp
  have e2 : runList P (runF P 10 0) ops ops.toList { tmps := ([Value.slice none 0 0] ++ List.replicate (rs.length + 1) undef).toArray, defers := [] } w = some ({ tmps := (((Value.slice (some ⟨w.heap.size, 0, none⟩) rs.length rs.length) :: rs.map T3.v) ++ [Value.slice (some ⟨w.heap.size, 0, none⟩) rs.length rs.length]).toArray, defers := [] }, w.alloc (.cells (flat rs).toArray t)) := by
    conv => lhs; arg 4; rw [← h.rows]
    rw [run_builds hb [] rs ops.toList 1 [Value.slice none 0 0] _ w rfl hl (by simp), h.rest, hdrop]
    unfold runList
    rw [if_pos (by unfold Region.wanted; rw [h.hS.2.2])]
    rw [run_rows hr hm hn h.hS.1 (fun i hi => by
      show ([Value.slice none 0 0] ++ List.map T3.v rs ++ [undef]).toArray.getD (i + 1) undef = _
      simp [List.getElem?_append, hi])]
    dsimp only
    rw [h.hS.2.1, set_toArray]
    unfold runList
    rw [if_pos (by unfold Region.wanted; rw [h.hA.2.2])]
    unfold execOp
    simp only [h.hA.1, h.hA.2.1]
    have hs : ([Value.slice none 0 0] ++ List.map T3.v rs ++ [undef]).set (rs.length + 1) (Value.slice (some { block := w.heap.size, off := 0 }) rs.length rs.length) = Value.slice none 0 0 :: (List.map T3.v rs ++ [Value.slice (some { block := w.heap.size, off := 0 }) rs.length rs.length]) := by
      simp
    rw [hs]
    have hv : (({ tmps := (Value.slice none 0 0 :: (List.map T3.v rs ++ [Value.slice (some { block := w.heap.size, off := 0 }) rs.length rs.length])).toArray, defers := [] } : Act).eval (.tmp (rs.length + 1))) = Value.slice (some { block := w.heap.size, off := 0 }) rs.length rs.length := by
      show (Value.slice none 0 0 :: (List.map T3.v rs ++ [Value.slice (some { block := w.heap.size, off := 0 }) rs.length rs.length])).toArray.getD (rs.length + 1) undef = _
      simp
    rw [hv]
    simp only [Sem.run_pure, set_toArray]
    unfold runList
    simp
  unfold runF
  rw [h.get]
  dsimp only
  rw [h.body]
  dsimp only
  rw [hstart]
  unfold runC
  unfold runC
  dsimp only
  rw [e1]
  dsimp only [Option.map]
  unfold runC
  dsimp only
  rw [e2]
  dsimp only [Option.map]
  rw [if_pos List.length_nil]
  unfold resOf
  rw [h.res]
  rfl
end Go.Proofs.Ytfkgjoflekemaaa.UTable
