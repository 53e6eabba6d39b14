/- A call that draws no order, run by the kernel: for tables and closed calls. Of whatever program. -/
import Derived.Tactics
import Derived.WalkKit
import Derived.KernelRfl
import Derived.LoopN
namespace Go.Proofs.Ytfkgjoflekemaaa.U
open Go
abbrev CallF := FuncId → Array Value → World → Option (Value × World)
def runList (P : Program) (call : CallF) (ops : Array Oper) : List Oper → Act → World → Option (Act × World)
  | [], a, w => some (a, w)
  | o :: rest, a, w =>
    if Region.wanted o (yielded ops a.tmps) then
      match (execOp a.eval o).run P w with
      | .ok (.value v) w' => runList P call ops rest (a.put o.dst v) w'
      | .ok .skip w' => runList P call ops rest (a.put o.dst undef) w'
      | .ok (.enter f args) w' => match call f args w' with
        | some (v, w2) => runList P call ops rest (a.put o.dst v) w2
        | none => none
      | _ => none
    else runList P call ops rest (a.put o.dst undef) w
def CallOk (P : Program) (call : CallF) : Prop := ∀ f args w v w', call f args w = some (v, w') → Calls P f args w fun e W => e = .returned v ∧ W = w'
theorem wpList_runList {P : Program} {call : CallF} (hcall : CallOk P call) {ops : Array Oper} {Q : Exit → Act → World → Prop} (l : List Oper) : ∀ (a a' : Act) (w w' : World), runList P call ops l a w = some (a', w') → Q .normal a' w' → wpList P ops Q l a w := by
  induction l with
  | nil =>
    intro a a' w w' h hq
    obtain ⟨rfl, rfl⟩ := Prod.mk.inj (Option.some.inj h)
    exact hq
  | cons o rest ih =>
    intro a a' w w' h hq
    unfold runList at h
    unfold wpList
    by_cases hw : Region.wanted o (yielded ops a.tmps) = true
    · rw [if_pos hw] at h ⊢
      left
      unfold Oper.wp
      cases hr : (execOp a.eval o).run P w with
      | halt x y => rw [hr] at h; cases h
      | ok n w1 =>
        rw [hr] at h
        cases n with
        | value v => exact ih _ _ _ _ h hq
        | skip => exact ih _ _ _ _ h hq
        | enter f args =>
          dsimp only at h
          cases hc : call f args w1 with
          | none => rw [hc] at h; cases h
          | some p =>
            rw [hc] at h
            rw [Oper.upon_enter]
            refine (hcall _ _ _ _ _ hc).mono ?_
            rintro e W ⟨rfl, rfl⟩
            exact ih _ _ _ _ h hq
        | _ => cases h
    · rw [if_neg hw] at h ⊢
      exact ih _ _ _ _ h hq
def loopRun (f : Act → World → Option (Exit × Act × World)) : Nat → Act → World → Option (Exit × Act × World)
  | 0, _, _ => none
  | m + 1, a, w => match f a w with
    | some (.normal, a1, w1) => loopRun f m a1 w1
    | r => r
def runC (P : Program) (call : CallF) : Nat → Code → Act → World → Option (Exit × Act × World)
  | 0, _, _, _ => none
  | n + 1, c, a, w =>
    match c with
    | .skip => some (.normal, a, w)
    | .label _ => some (.normal, a, w)
    | .exit id => some (.exit id, a, w)
    | .ret => some (.ret, a, w)
    | .region _ ops false => (runList P call ops ops.toList a w).map fun p => (.normal, p.1, p.2)
    | .seq x y => match runC P call n x a w with
      | some (.normal, a1, w1) => runC P call n y a1 w1
      | r => r
    | .cond c x y => match a.eval c with
      | .bool true => runC P call n x a w
      | .bool false => runC P call n y a w
      | _ => none
    | .block id x => match runC P call n x a w with
      | some (.exit j, a1, w1) => if j = id then some (.normal, a1, w1) else some (.exit j, a1, w1)
      | r => r
    | .loop x => loopRun (runC P call n x) n a w
    | _ => none
def CodeOk (P : Program) (f : Act → World → Option (Exit × Act × World)) (c : Code) : Prop := ∀ (a a' : Act) (w w' : World) (e : Exit) (Q : Exit → Act → World → Prop), f a w = some (e, a', w') → Q e a' w' → c.wp P Q a w
theorem loopRun_ok {P : Program} {f : Act → World → Option (Exit × Act × World)} {c : Code} (hf : CodeOk P f c) (m : Nat) : ∀ (a a' : Act) (w w' : World) (e : Exit) (Q : Exit → Act → World → Prop), loopRun f m a w = some (e, a', w') → Q e a' w' → e ≠ .normal → Code.rounds P c Q m a w := by
  induction m with
  | zero => intro a a' w w' e Q h; cases h
  | succ m ih =>
    intro a a' w w' e Q h hq hne
    rw [rounds_succ]
    unfold loopRun at h
    cases hr : f a w with
    | none => rw [hr] at h; cases h
    | some r =>
      obtain ⟨e1, a1, w1⟩ := r
      rw [hr] at h
      refine hf _ _ _ _ _ _ hr ?_
      cases e1 with
      | normal => exact ih _ _ _ _ _ _ h hq hne
      | _ => obtain ⟨rfl, rfl, rfl⟩ := h; exact hq
theorem loopRun_ne {f : Act → World → Option (Exit × Act × World)} (m : Nat) : ∀ (a a' : Act) (w w' : World) (e : Exit), loopRun f m a w = some (e, a', w') → e ≠ .normal := by
  induction m with
  | zero => intro a a' w w' e h; cases h
  | succ m ih =>
    intro a a' w w' e h
    unfold loopRun at h
    cases hr : f a w with
    | none => rw [hr] at h; cases h
    | some r =>
      obtain ⟨e1, a1, w1⟩ := r
      rw [hr] at h
      cases e1 with
      | normal => exact ih _ _ _ _ _ h
      | _ => obtain ⟨rfl, rfl, rfl⟩ := h; simp
theorem runC_ok {P : Program} {call : CallF} (hcall : CallOk P call) (n : Nat) : ∀ c, CodeOk P (runC P call n c) c := by
  induction n with
  | zero => intro c a a' w w' e Q h; cases h
  | succ n ih =>
    intro c a a' w w' e Q h hq
    cases c with
    | skip => obtain ⟨rfl, rfl, rfl⟩ := h; exact wp_skip hq
    | label l => obtain ⟨rfl, rfl, rfl⟩ := h; exact wp_label hq
    | exit id => obtain ⟨rfl, rfl, rfl⟩ := h; exact wp_exit hq
    | ret => obtain ⟨rfl, rfl, rfl⟩ := h; exact wp_ret hq
    | region id ops draw =>
      cases draw with
      | true => cases h
      | false =>
        obtain ⟨⟨a1, w1⟩, h1, h2⟩ := Option.map_eq_some_iff.1 h
        obtain ⟨rfl, rfl, rfl⟩ := h2
        exact wp_region_list (wpList_runList hcall _ _ _ _ _ h1 hq)
    | seq x y =>
      unfold runC at h
      dsimp only at h
      cases hr : runC P call n x a w with
      | none => rw [hr] at h; cases h
      | some r =>
        obtain ⟨e1, a1, w1⟩ := r
        rw [hr] at h
        refine wp_seq (ih x _ _ _ _ _ _ hr ?_)
        cases e1 with
        | normal => exact ih y _ _ _ _ _ _ h hq
        | _ => obtain ⟨rfl, rfl, rfl⟩ := h; exact hq
    | cond c x y =>
      unfold runC at h
      dsimp only at h
      cases hc : a.eval c with
      | bool b =>
        rw [hc] at h
        cases b with
        | true => exact wp_cond_true hc (ih x _ _ _ _ _ _ h hq)
        | false => exact wp_cond_false hc (ih y _ _ _ _ _ _ h hq)
      | _ => rw [hc] at h; cases h
    | block id x =>
      unfold runC at h
      dsimp only at h
      cases hr : runC P call n x a w with
      | none => rw [hr] at h; cases h
      | some r =>
        obtain ⟨e1, a1, w1⟩ := r
        rw [hr] at h
        refine wp_block (ih x _ _ _ _ _ _ hr ?_)
        cases e1 with
        | exit j =>
          dsimp only at h
          unfold Exit.inBlock
          dsimp only
          by_cases hj : j = id
          · rw [if_pos hj] at h ⊢
            obtain ⟨rfl, rfl, rfl⟩ := h; exact hq
          · rw [if_neg hj] at h ⊢
            obtain ⟨rfl, rfl, rfl⟩ := h; exact hq
        | _ => obtain ⟨rfl, rfl, rfl⟩ := h; exact hq
    | loop x =>
      unfold runC at h
      dsimp only at h
      exact wp_loop_rounds n (loopRun_ok (ih x) n _ _ _ _ _ _ h hq (loopRun_ne n _ _ _ _ _ h))
    | _ => cases h
def resOf (fn : Func) (tmps : Array Value) : Option Value :=
  match fn.results.toList with
  | [] => some (.tuple #[])
  | [.tmp t] => some (tmps.getD t undef)
  | [.tmp t, .tmp u] => some (.tuple #[tmps.getD t undef, tmps.getD u undef])
  | _ => none
theorem resOf_run {fn : Func} {tmps : Array Value} {v : Value} (h : resOf fn tmps = some v) (P : Program) (w : World) : (results fn tmps).run P w = .ok v w := by
  unfold resOf at h
  split at h
  · rename_i e; obtain rfl := Option.some.inj h; exact results_none (by rw [← Array.toArray_toList (xs := fn.results), e]) _ _ _
  · rename_i e; obtain rfl := Option.some.inj h; exact results_tmp (by rw [← Array.toArray_toList (xs := fn.results), e]) _ _ _
  · rename_i e; obtain rfl := Option.some.inj h; exact results_tmp2 (by rw [← Array.toArray_toList (xs := fn.results), e]) _ _ _
  · cases h
/-- A call, by the kernel: d calls deep, n rounds and steps in each. -/
def runF (P : Program) (n : Nat) : Nat → CallF
  | 0, _, _, _ => none
  | d + 1, f, args, w =>
    match P.funcs[f]? with
    | none => none
    | some fn => match fn.body with
      | none => none
      | some c => match runC P (runF P n d) n c { tmps := args ++ Array.replicate (fn.ntmps - args.size) undef, defers := [] } w with
        | some (.ret, a, w') => if a.defers.length = 0 then (resOf fn a.tmps).map fun v => (v, w') else none
        | some (.normal, a, w') => if a.defers.length = 0 then (resOf fn a.tmps).map fun v => (v, w') else none
        | _ => none
theorem runF_ok {P : Program} (n d : Nat) : CallOk P (runF P n d) := by
  induction d with
  | zero => intro f args w v w' h; cases h
  | succ d ih =>
    intro f args w v w' h
    unfold runF at h
    cases hf : P.funcs[f]? with
    | none => rw [hf] at h; cases h
    | some fn =>
      rw [hf] at h
      dsimp only at h
      cases hb : fn.body with
      | none => rw [hb] at h; cases h
      | some c =>
        rw [hb] at h
        dsimp only at h
        refine calls_of_wp hf hb ?_
        cases hr : runC P (runF P n d) n c { tmps := args ++ Array.replicate (fn.ntmps - args.size) undef, defers := [] } w with
        | none => rw [hr] at h; cases h
        | some r =>
          obtain ⟨e, a, w1⟩ := r
          rw [hr] at h
          refine runC_ok ih n c _ _ _ _ _ _ hr ?_
          cases e with
          | ret =>
            dsimp only at h
            split at h
            · rename_i hd
              obtain ⟨v', h1, h2⟩ := Option.map_eq_some_iff.1 h
              obtain ⟨rfl, rfl⟩ := Prod.mk.inj h2
              exact ⟨List.eq_nil_of_length_eq_zero hd, _, resOf_run h1 _ _, rfl, rfl⟩
            · cases h
          | normal =>
            dsimp only at h
            split at h
            · rename_i hd
              obtain ⟨v', h1, h2⟩ := Option.map_eq_some_iff.1 h
              obtain ⟨rfl, rfl⟩ := Prod.mk.inj h2
              exact ⟨List.eq_nil_of_length_eq_zero hd, _, resOf_run h1 _ _, rfl, rfl⟩
            · cases h
          | _ => cases h
end Go.Proofs.Ytfkgjoflekemaaa.U
