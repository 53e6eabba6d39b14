/- Blocks of a table: whether two are one; a block is read where it lies among others; add: walked. -/
import Derived.Test.YtfkgjoflekemaaaCTrie
import Derived.Laws.StructEq
namespace Go.Proofs.Ytfkgjoflekemaaa.CTrie
open Go.RowKit Go.Proofs.YtfkgjoflekemaaaW.PrintWords Go.Proofs.YtfkgjoflekemaaaW.PrintMore Go.Proofs.YtfkgjoflekemaaaW.PrintLast Go.Proofs.Ytfkgjoflekemaaa.U Go.Proofs.Ytfkgjoflekemaaa.UTrie Go.Proofs.Ytfkgjoflekemaaa.PEmbedJoins
set_option linter.unusedVariables false
set_option linter.unusedSimpArgs false
theorem all_range_eq : ∀ (xs ys : List Int), xs.length = ys.length → ((List.range xs.length).all fun i => xs.getD i 0 == ys.getD i 0) = (xs == ys)
  | [], [], _ => rfl
  | x :: xs, y :: ys, h => by
    have ih := all_range_eq xs ys (by simpa using h)
    rw [List.length_cons, List.range_succ_eq_map, List.all_cons, List.all_map]
    simp only [List.getD_cons_zero, Function.comp_def, List.getD_cons_succ, ih]
    simp [List.cons_beq_cons]
  | [], _ :: _, h => by simp at h
  | _ :: _, [], h => by simp at h
theorem run_equalIn_ints (w : World) (d : Nat) (xs ys : List Int) (hx : xs.length = 128) (hy : ys.length = 128) :
    (Op.equalIn (d + 2) 122 (.agg (vs xs)) (.agg (vs ys))).run Try.prog w = .ok (xs == ys) w := by
  have hsz : ∀ w, (sizeOf 3).run Try.prog w = .ok 1 w := Try.sizeOf3
  rw [← all_range_eq xs ys (hx.trans hy.symm), hx, List.range_eq_range', Op.equalIn]
  simp only [Sem.run_bind, run_underlying Try.underlying122, Result.andThen_ok, hsz, Std.Legacy.Range.forIn_eq_forIn_range', Std.Legacy.Range.size, Nat.sub_zero, Nat.add_sub_cancel, Nat.div_one]
  have hl : ∀ i ∈ List.range' 0 128 1, i < 128 := fun i hi => by simpa using (List.mem_range'_1.1 hi).2
  generalize List.range' 0 128 1 = l at hl ⊢
  induction l with
  | nil => simp
  | cons i l ih =>
    have hi : i < 128 := hl i (by simp)
    have px : (part 3 (vs xs) (i * 1)).run Try.prog w = .ok (.int .i64 (xs.getD i 0)) w := by
      simp [part, isAgg, run_underlying Try.underlying3, vs, List.getD, List.getElem?_eq_getElem (show i < xs.length by omega)]
    have py : (part 3 (vs ys) (i * 1)).run Try.prog w = .ok (.int .i64 (ys.getD i 0)) w := by
      simp [part, isAgg, run_underlying Try.underlying3, vs, List.getD, List.getElem?_eq_getElem (show i < ys.length by omega)]
    have pe : (Op.equalIn (d + 1) 3 (.int .i64 (xs.getD i 0)) (.int .i64 (ys.getD i 0))).run Try.prog w = .ok (xs.getD i 0 == ys.getD i 0) w := by
      rw [run_equalIn_int w d 3 .i64 .i64 _ _ Try.underlying3]
    simp only [List.forIn_cons, Sem.run_bind, px, py, pe, Result.andThen_ok, List.all_cons]
    cases hb : (xs.getD i 0 == ys.getD i 0)
    · simp
    · simp only [Bool.not_true, Bool.false_eq_true, if_false, Sem.run_pure, Result.andThen_ok, Bool.true_and]
      exact ih fun j hj => hl j (by simp [hj])
theorem run_eql_vs (w : World) (xs ys : List Int) (hx : xs.length = 128) (hy : ys.length = 128) : (binOp .eql 122 (.agg (vs xs)) (.agg (vs ys))).run Try.prog w = .ok (.bool (xs == ys)) w := by
  rw [run_eql_struct, run_equalIn_ints w 9998 xs ys hx hy]
  rfl
theorem guard122 : Try.prog.eqGuardType Try.prog.depth 122 = false := by kernel_rfl
theorem exec_eql {o : Oper} {a : Act} (w : World) (x y : Operand) (t : TypeId) (ho : o.op = .binOp .eql 122 x y t) {xs ys : List Int} (hx : a.eval x = .agg (vs xs)) (hy : a.eval y = .agg (vs ys)) (hl : xs.length = 128) (hl2 : ys.length = 128) :
    (execOp a.eval o).run Try.prog w = .ok (.value (.bool (xs == ys))) w := by
  unfold execOp
  simp [ho, hx, hy, eqGuard, guard122, run_eql_vs w xs ys hl hl2]
theorem load_mid {w : World} {ad : Addr} {xs : List Int} (h : ∀ j v, (vs xs).toList[j]? = some v → w.cell? (ad.add j) = some v) (hl : xs.length = 128) : (loadVar 122 ad).run Try.prog w = .ok (.agg (vs xs)) w := by
  have h1 := run_loadCells_list (P := Try.prog) w ad (vs xs).toList h
  have hn : (vs xs).toList.length = 128 := by simp [vs, hl]
  rw [hn] at h1
  unfold loadVar
  simp [Try.isAgg122, Try.sizeOf122, h1]
theorem exec_load {o : Oper} {a : Act} {w : World} (x : Operand) (ho : o.op = .load 122 x) {ad : Addr} (hx : a.eval x = .pointer (some ad)) {xs : List Int} (h : (loadVar 122 ad).run Try.prog w = .ok (.agg (vs xs)) w) :
    (execOp a.eval o).run Try.prog w = .ok (.value (.agg (vs xs))) w := by
  unfold execOp
  simp [ho, hx, Instr.loadAt, Instr.sureAddr, h]
end Go.Proofs.Ytfkgjoflekemaaa.CTrie
