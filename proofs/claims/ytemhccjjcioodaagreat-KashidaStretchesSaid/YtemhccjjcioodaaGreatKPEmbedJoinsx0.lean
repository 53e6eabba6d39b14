/- Cut. -/
import Derived.Test.YtemhccjjcioodaaGreatKWWords
import Derived.Test.YtemhccjjcioodaaGreatKWMore
import Derived.Lib.Hide
import Derived.StillTailTactics
import Derived.Deep.RegionWith
import Derived.Tactics
import Derived.WalkKit
import Derived.KernelRfl
import Derived.LoopN
import Derived.Test.YtemhccjjcioodaaGreatKUFinest
import Derived.Laws.CopyOwn
import Derived.BigQuiet
import Derived.Maps.Own
import Derived.Maps.Views
import Derived.Test.YtemhccjjcioodaaGreatKPKashidaStretchesx6
import Derived.Test.YtemhccjjcioodaaGreatProg
import Derived.Below
import Derived.Deep.Draws
import Derived.Deep.AppendLies
import Derived.Maps.AppendAt
import Derived.OwnWalk
import Derived.Laws.BytesArg
import Derived.Laws.MakeOwn
import Derived.Laws.OwnMore
import Derived.Deep.OwnRows
import Derived.Lib.ConvBytes
import Derived.Laws.Slices
import Derived.RowKit3
import Derived.Deep.LoopGhost
import Derived.Deep.QuietTactic
import Derived.WideLaws
import Derived.Deep.DeepCutAuto
import Derived.Deep.CutBlock
import Derived.Deep.RegionHeld3
import Derived.Laws.Rows
import Derived.Lib.AppendStr
import Derived.ArgAppend
import Derived.Laws.IdiomCopy
import Derived.OrdersHeld
import Derived.Laws.BitsLemmas
import Derived.RowKit
import Derived.Test.YtemhccjjcioodaaGreatKAl
set_option linter.unusedSimpArgs false
set_option linter.unusedVariables false
set_option maxRecDepth 100000
set_option maxHeartbeats 16000000
namespace Go.Proofs.YtemhccjjcioodaaGreat
open Go.RowKit YtemhccjjcioodaaGreatW.PrintLast YtemhccjjcioodaaGreatW.PrintMore YtemhccjjcioodaaGreatW.PrintWords
section
namespace U

theorem ev_now {α : Type} (r : α) : Ev (fun _ => some r) r := ⟨0, fun _ _ => rfl⟩
theorem ev_const {α : Type} {x : Option α} {r : α} (h : x = some r) : Ev (fun _ => x) r := ⟨0, fun _ _ => h⟩
theorem ev_pos {α : Type} {c : Prop} [Decidable c] {f g : Nat → Option α} {r : α} (hc : c) (h : Ev f r) : Ev (fun k => if c then f k else g k) r := by
 simpa only [if_pos hc] using h
theorem ev_neg {α : Type} {c : Prop} [Decidable c] {f g : Nat → Option α} {r : α} (hc : ¬ c) (h : Ev g r) : Ev (fun k => if c then f k else g k) r := by
 simpa only [if_neg hc] using h
theorem ev_ite {α : Type} {c : Prop} [Decidable c] {f g : Nat → Option α} {r : α} (h : c → Ev f r) (h' : ¬ c → Ev g r) : Ev (fun k => if c then f k else g k) r := by
 by_cases hc : c
 ·exact ev_pos hc (h hc)
 ·exact ev_neg hc (h' hc)
theorem ev_bind {α β : Type} {g : Nat → Option α} {f : Nat → α → Option β} {a : α} {r : β} (h : Ev g a) (k : Ev (fun n => f n a) r) : Ev (fun n => (g n).bind (f n)) r := Ev.bind h k
theorem ev_bindc {α β : Type} {x : Option α} {f : Nat → α → Option β} {a : α} {r : β} (h : x = some a) (k : Ev (fun n => f n a) r) : Ev (fun n => x.bind (f n)) r := by
 simpa only [h, qoS] using k
theorem ev_eq {α : Type} {g : Nat → Option α} {r r' : α} (h : Ev g r) (e : r = r') : Ev g r' := e ▸ h
theorem ev_at {α : Type} {g : Nat → Option α} {r : α} (hg : ∀ k, LeO (g k) (g (k + 1))) (k : Nat) (h : g k = some r) : Ev g r := Ev.of hg h
theorem w64 {n : Int} (h0 : -9223372036854775808 ≤ n) (h1 : n ≤ 9223372036854775807) : wrap64 n = n := by unfold wrap64; omega
theorem rd_get {xs : List Int} {i : Nat} (h : i < xs.length) : rd xs (i : Int) = xs[i] := by
 unfold rd
 rw [qtN, qgD, qgG h]
 rfl
theorem rd_nat (xs : List Int) (i : Nat) : rd xs (i : Int) = xs.getD i 0 := by
 unfold rd
 rw [qtN]
end U
namespace U

theorem R_form {α : Type} {d : Kd α} {e : TypeId} {w : World} {base : Nat} {ok : Nat → Prop} {v : Value} {xs : List α} (h : d.R e w base ok v xs) (hb : ∃ b, v.ownBlock = some b) : ∃ g cap, v = .slice (some ⟨g, 0, none⟩) xs.length cap ∧ base ≤ g := by
 obtain ⟨inner, h1, h2⟩ := Kd.R_own h
 obtain ⟨b, hb⟩ := hb
 rcases h2 with ⟨rfl, _⟩ | ⟨g, cap, cur, rfl, hg, _⟩
 ·simp [Value.ownBlock] at hb
 ·exact ⟨g, cap, rfl, hg⟩
theorem grown_set (w : World) (g j : Nat) (u : Value) : w.grownBy (w.setCell ⟨g, j, none⟩ u) (some g) :=
 ⟨rfl, rfl, rfl, by simp [World.setCell], fun k _ hk => Below.heap_setCell w ⟨g, j, none⟩ u k (fun e => hk (by rw [e]))⟩
def SLk {α : Type} (d : Kd α) (w : World) (v : Value) (xs : List α) : Prop := ∃ A c, v = .slice A xs.length c ∧ xs.length ≤ c ∧ d.C w A xs.length xs
abbrev SL (w : World) (v : Value) (xs : List Int) : Prop := SLk (Kd.int .i64) w v xs
theorem SLk.mk {α : Type} {d : Kd α} {w : World} {A : Option Addr} {c : Nat} {xs : List α} (h : d.C w A xs.length xs) (hc : xs.length ≤ c) : SLk d w (.slice A xs.length c) xs := ⟨A, c, rfl, hc, h⟩
theorem SLk.of_R {α : Type} {d : Kd α} {e : TypeId} {w : World} {base : Nat} {ok : Nat → Prop} {v : Value} {xs : List α} (h : d.R e w base ok v xs) : SLk d w v xs := by
 obtain ⟨A, c, rfl, h1, h2⟩ := Kd.R_reads h
 exact ⟨A, c, rfl, h1, h2⟩
theorem SLk.below {α : Type} {d : Kd α} {w w' : World} {v : Value} {xs : List α} (h : SLk d w v xs) (hb : Below w.heap.size w w') : SLk d w' v xs := by
 obtain ⟨A, c, rfl, h1, h2⟩ := h
 exact ⟨A, c, rfl, h1, Kd.C_below h2 hb⟩
theorem SLk.nil {α : Type} {d : Kd α} (w : World) : SLk d w (.slice none 0 0) ([] : List α) := by
 refine ⟨none, 0, rfl, qlR _, ?_⟩
 exact ⟨rfl, by simp, fun h => absurd h (by simp)⟩
theorem SLk.at_int {k : IntKind} {w : World} {v : Value} {xs : List Int} (h : SLk (Kd.int k) w v xs) (i : Int) (h0 : 0 ≤ i) (h1 : i < xs.length) : ∃ ad c, v = .slice (some ad) xs.length c ∧ w.cell? (ad.add i.toNat) = some (.int k (rd xs i)) := by
 obtain ⟨A, c, rfl, _, h2⟩ := h
 obtain ⟨ad, rfl, h⟩ := Kd.at_int h2 i h0 h1
 exact ⟨ad, c, rfl, h⟩
end U
namespace U

abbrev Hd := Option Addr × Nat × Nat
def encH (h : Hd) : Value := .slice h.1 h.2.1 h.2.2
def KH : Kd Hd := Kd.scalar encH (fun _ => rfl)
def RS (e : TypeId) (w : World) (base : Nat) (v : Value) (xss : List (List Int)) : Prop :=
 ∃ hs : List Hd, Kd.R KH e w base (fun _ => True) v hs ∧ hs.length = xss.length ∧ ∀ (i : Nat) (x : List Int), xss[i]? = some x → ∃ h : Hd, hs[i]? = some h ∧ SL w (encH h) x
theorem SL.header {w : World} {v : Value} {xs : List Int} (h : SL w v xs) : ∃ hd : Hd, v = encH hd := by
 obtain ⟨A, c, rfl, _⟩ := h
 exact ⟨(A, xs.length, c), rfl⟩
theorem SL.set_slice {w : World} {v : Value} {xs : List Int} (h : SL w v xs) {g i : Nat} {hd : Hd} (hc : w.cell? ⟨g, i, none⟩ = some (encH hd)) (u : Value) : SL (w.setCell ⟨g, i, none⟩ u) v xs := by
 obtain ⟨A, c, rfl, hl, h1, h2, h3⟩ := h
 refine ⟨A, c, rfl, hl, h1, h2, fun hn => ?_⟩
 obtain ⟨ad, rfl, hcell⟩ := h3 hn
 refine ⟨ad, rfl, fun j p hj => ?_⟩
 obtain ⟨cs, hcl, hk, hcc⟩ := hcell j p hj
 refine ⟨cs, hcl, hk, fun k u' hu => ?_⟩
 have hold := hcc k u' hu
 have hne : ad.add (j * (Kd.int .i64).sz + k) ≠ ⟨g, i, none⟩ := by
  intro e
  rw [e, hc] at hold
  have hk' : cs = [.int .i64 p] := hk
  subst hk'
  cases k with
  | zero => simp at hu; subst hu; simp [encH] at hold
  | succ k => simp at hu
 have hlt := qwL w _ hold
 rw [← hold]
 unfold World.cell? World.setCell
 simp only [Array.getElem?_modify]
 by_cases hb : g = (ad.add (j * (Kd.int .i64).sz + k)).block
 ·rw [if_pos hb]
  generalize hg : w.heap[(ad.add (j * (Kd.int .i64).sz + k)).block]? = o
  cases o with
  | none => rfl
  | some o =>
   cases o with
   | cells c t f =>
    simp only [Option.map_some]
    by_cases hsp : (ad.add (j * (Kd.int .i64).sz + k)).spot.isSome
    ·simp [hsp]
    ·simp only [hsp]
     simp
     rw [Array.getElem?_setIfInBounds_ne]
     intro ei
     apply hne
     generalize ad.add (j * (Kd.int .i64).sz + k) = q at *
     obtain ⟨qb, qo, qs⟩ := q
     simp at hb ei hsp
     subst hb ei hsp
     rfl
   | _ => rfl
 ·rw [if_neg hb]
theorem RS.cell {e : TypeId} {w : World} {base g n cap : Nat} {xss : List (List Int)} (h : RS e w base (.slice (some ⟨g, 0, none⟩) n cap) xss) (i : Nat) (hi : i < n) : (∃ hd : Hd, w.cell? ⟨g, i, none⟩ = some (encH hd)) ∧ w.frozen? ⟨g, i, none⟩ = false := by
 obtain ⟨hs, h1, h2, h3⟩ := h
 have hc := Kd.R_celln ((none, 0, 0) : Hd) h1 (i : Int) (by omega) (by omega)
 rw [qtN] at hc
 exact ⟨⟨_, hc.1⟩, hc.2⟩
theorem RS.slice {e : TypeId} {w : World} {base : Nat} {v : Value} {xss : List (List Int)} (h : RS e w base v xss) : ∃ A c, v = .slice A xss.length c := by
 obtain ⟨hs, h1, h2, h3⟩ := h
 obtain ⟨A, c, rfl⟩ := Kd.R_slice h1
 exact ⟨A, c, by rw [h2]⟩
end U
namespace U
open Go
abbrev CallF := FuncId → Array Value → World → Option (Value × World)
def runList (P : Program) (call : CallF) (ops : Array Oper) : List Oper → Act → World → Option (Act × World)
 | [], a, w => some (a, w)
 | o :: rest, a, w =>
  if Region.wanted o (yielded ops a.tmps) then
   match (execOp a.eval o).run P w with
   | .ok (.value v) w' => runList P call ops rest (a.put o.dst v) w'
   | .ok .skip w' => runList P call ops rest (a.put o.dst undef) w'
   | .ok (.enter f args) w' => match call f args w' with
    | some (v, w2) => runList P call ops rest (a.put o.dst v) w2
    | none => none
   | _ => none
  else runList P call ops rest (a.put o.dst undef) w
def CallOk (P : Program) (call : CallF) : Prop := ∀ f args w v w', call f args w = some (v, w') → Calls P f args w fun e W => e = .returned v ∧ W = w'
theorem wpList_runList {P : Program} {call : CallF} (hcall : CallOk P call) {ops : Array Oper} {Q : Exit → Act → World → Prop} (l : List Oper) : ∀ (a a' : Act) (w w' : World), runList P call ops l a w = some (a', w') → Q .normal a' w' → wpList P ops Q l a w := by
 induction l with
 | nil =>
  intro a a' w w' h hq
  obtain ⟨rfl, rfl⟩ := Prod.mk.inj (qoI h)
  exact hq
 | cons o rest ih =>
  intro a a' w w' h hq
  unfold runList at h
  unfold wpList
  by_cases hw : Region.wanted o (yielded ops a.tmps) = true
  ·rw [if_pos hw] at h ⊢
   left
   unfold Oper.wp
   cases hr : (execOp a.eval o).run P w with
   | halt x y => rw [hr] at h; cases h
   | ok n w1 =>
    rw [hr] at h
    cases n with
    | value v => exact ih _ _ _ _ h hq
    | skip => exact ih _ _ _ _ h hq
    | enter f args =>
     dsimp only at h
     cases hc : call f args w1 with
     | none => rw [hc] at h; cases h
     | some p =>
      rw [hc] at h
      rw [Oper.upon_enter]
      refine (hcall _ _ _ _ _ hc).mono ?_
      rintro e W ⟨rfl, rfl⟩
      exact ih _ _ _ _ h hq
    | _ => cases h
  ·rw [if_neg hw] at h ⊢
   exact ih _ _ _ _ h hq
def loopRun (f : Act → World → Option (Exit × Act × World)) : Nat → Act → World → Option (Exit × Act × World)
 | 0, _, _ => none
 | m + 1, a, w => match f a w with
  | some (.normal, a1, w1) => loopRun f m a1 w1
  | r => r
def runC (P : Program) (call : CallF) : Nat → Code → Act → World → Option (Exit × Act × World)
 | 0, _, _, _ => none
 | n + 1, c, a, w =>
  match c with
  | .skip => some (.normal, a, w)
  | .label _ => some (.normal, a, w)
  | .exit id => some (.exit id, a, w)
  | .ret => some (.ret, a, w)
  | .region _ ops false => (runList P call ops ops.toList a w).map fun p => (.normal, p.1, p.2)
  | .seq x y => match runC P call n x a w with
   | some (.normal, a1, w1) => runC P call n y a1 w1
   | r => r
  | .cond c x y => match a.eval c with
   | .bool true => runC P call n x a w
   | .bool false => runC P call n y a w
   | _ => none
  | .block id x => match runC P call n x a w with
   | some (.exit j, a1, w1) => if j = id then some (.normal, a1, w1) else some (.exit j, a1, w1)
   | r => r
  | .loop x => loopRun (runC P call n x) n a w
  | _ => none
def CodeOk (P : Program) (f : Act → World → Option (Exit × Act × World)) (c : Code) : Prop := ∀ (a a' : Act) (w w' : World) (e : Exit) (Q : Exit → Act → World → Prop), f a w = some (e, a', w') → Q e a' w' → c.wp P Q a w
theorem loopRun_ok {P : Program} {f : Act → World → Option (Exit × Act × World)} {c : Code} (hf : CodeOk P f c) (m : Nat) : ∀ (a a' : Act) (w w' : World) (e : Exit) (Q : Exit → Act → World → Prop), loopRun f m a w = some (e, a', w') → Q e a' w' → e ≠ .normal → Code.rounds P c Q m a w := by
 induction m with
 | zero => intro a a' w w' e Q h; cases h
 | succ m ih =>
  intro a a' w w' e Q h hq hne
  rw [rounds_succ]
  unfold loopRun at h
  cases hr : f a w with
  | none => rw [hr] at h; cases h
  | some r =>
   obtain ⟨e1, a1, w1⟩ := r
   rw [hr] at h
   refine hf _ _ _ _ _ _ hr ?_
   cases e1 with
   | normal => exact ih _ _ _ _ _ _ h hq hne
   | _ => obtain ⟨rfl, rfl, rfl⟩ := h; exact hq
theorem loopRun_ne {f : Act → World → Option (Exit × Act × World)} (m : Nat) : ∀ (a a' : Act) (w w' : World) (e : Exit), loopRun f m a w = some (e, a', w') → e ≠ .normal := by
 induction m with
 | zero => intro a a' w w' e h; cases h
 | succ m ih =>
  intro a a' w w' e h
  unfold loopRun at h
  cases hr : f a w with
  | none => rw [hr] at h; cases h
  | some r =>
   obtain ⟨e1, a1, w1⟩ := r
   rw [hr] at h
   cases e1 with
   | normal => exact ih _ _ _ _ _ h
   | _ => obtain ⟨rfl, rfl, rfl⟩ := h; simp
theorem runC_ok {P : Program} {call : CallF} (hcall : CallOk P call) (n : Nat) : ∀ c, CodeOk P (runC P call n c) c := by
 induction n with
 | zero => intro c a a' w w' e Q h; cases h
 | succ n ih =>
  intro c a a' w w' e Q h hq
  cases c with
  | skip => obtain ⟨rfl, rfl, rfl⟩ := h; exact wp_skip hq
  | label l => obtain ⟨rfl, rfl, rfl⟩ := h; exact wp_label hq
  | exit id => obtain ⟨rfl, rfl, rfl⟩ := h; exact wp_exit hq
  | ret => obtain ⟨rfl, rfl, rfl⟩ := h; exact wp_ret hq
  | region id ops draw =>
   cases draw with
   | true => cases h
   | false =>
    obtain ⟨⟨a1, w1⟩, h1, h2⟩ := Option.map_eq_some_iff.1 h
    obtain ⟨rfl, rfl, rfl⟩ := h2
    exact wp_region_list (wpList_runList hcall _ _ _ _ _ h1 hq)
  | seq x y =>
   unfold runC at h
   dsimp only at h
   cases hr : runC P call n x a w with
   | none => rw [hr] at h; cases h
   | some r =>
    obtain ⟨e1, a1, w1⟩ := r
    rw [hr] at h
    refine wp_seq (ih x _ _ _ _ _ _ hr ?_)
    cases e1 with
    | normal => exact ih y _ _ _ _ _ _ h hq
    | _ => obtain ⟨rfl, rfl, rfl⟩ := h; exact hq
  | cond c x y =>
   unfold runC at h
   dsimp only at h
   cases hc : a.eval c with
   | bool b =>
    rw [hc] at h
    cases b with
    | true => exact wp_cond_true hc (ih x _ _ _ _ _ _ h hq)
    | false => exact wp_cond_false hc (ih y _ _ _ _ _ _ h hq)
   | _ => rw [hc] at h; cases h
  | block id x =>
   unfold runC at h
   dsimp only at h
   cases hr : runC P call n x a w with
   | none => rw [hr] at h; cases h
   | some r =>
    obtain ⟨e1, a1, w1⟩ := r
    rw [hr] at h
    refine wp_block (ih x _ _ _ _ _ _ hr ?_)
    cases e1 with
    | exit j =>
     dsimp only at h
     unfold Exit.inBlock
     dsimp only
     by_cases hj : j = id
     ·rw [if_pos hj] at h ⊢
      obtain ⟨rfl, rfl, rfl⟩ := h; exact hq
     ·rw [if_neg hj] at h ⊢
      obtain ⟨rfl, rfl, rfl⟩ := h; exact hq
    | _ => obtain ⟨rfl, rfl, rfl⟩ := h; exact hq
  | loop x =>
   unfold runC at h
   dsimp only at h
   exact wp_loop_rounds n (loopRun_ok (ih x) n _ _ _ _ _ _ h hq (loopRun_ne n _ _ _ _ _ h))
  | _ => cases h
def resOf (fn : Func) (tmps : Array Value) : Option Value :=
 match fn.results.toList with
 | [] => some (.tuple #[])
 | [.tmp t] => some (tmps.getD t undef)
 | [.tmp t, .tmp u] => some (.tuple #[tmps.getD t undef, tmps.getD u undef])
 | _ => none
theorem resOf_run {fn : Func} {tmps : Array Value} {v : Value} (h : resOf fn tmps = some v) (P : Program) (w : World) : (results fn tmps).run P w = .ok v w := by
 unfold resOf at h
 split at h
 ·rename_i e; obtain rfl := qoI h; exact results_none (by rw [← Array.toArray_toList (xs := fn.results), e]) _ _ _
 ·rename_i e; obtain rfl := qoI h; exact results_tmp (by rw [← Array.toArray_toList (xs := fn.results), e]) _ _ _
 ·rename_i e; obtain rfl := qoI h; exact results_tmp2 (by rw [← Array.toArray_toList (xs := fn.results), e]) _ _ _
 ·cases h
def runF (P : Program) (n : Nat) : Nat → CallF
 | 0, _, _, _ => none
 | d + 1, f, args, w =>
  match P.funcs[f]? with
  | none => none
  | some fn => match fn.body with
   | none => none
   | some c => match runC P (runF P n d) n c { tmps := args ++ Array.replicate (fn.ntmps - args.size) undef, defers := [] } w with
    | some (.ret, a, w') => if a.defers.length = 0 then (resOf fn a.tmps).map fun v => (v, w') else none
    | some (.normal, a, w') => if a.defers.length = 0 then (resOf fn a.tmps).map fun v => (v, w') else none
    | _ => none
theorem runF_ok {P : Program} (n d : Nat) : CallOk P (runF P n d) := by
 induction d with
 | zero => intro f args w v w' h; cases h
 | succ d ih =>
  intro f args w v w' h
  unfold runF at h
  cases hf : P.funcs[f]? with
  | none => rw [hf] at h; cases h
  | some fn =>
   rw [hf] at h
   dsimp only at h
   cases hb : fn.body with
   | none => rw [hb] at h; cases h
   | some c =>
    rw [hb] at h
    dsimp only at h
    refine calls_of_wp hf hb ?_
    cases hr : runC P (runF P n d) n c { tmps := args ++ Array.replicate (fn.ntmps - args.size) undef, defers := [] } w with
    | none => rw [hr] at h; cases h
    | some r =>
     obtain ⟨e, a, w1⟩ := r
     rw [hr] at h
     refine runC_ok ih n c _ _ _ _ _ _ hr ?_
     cases e with
     | ret =>
      dsimp only at h
      split at h
      ·rename_i hd
       obtain ⟨v', h1, h2⟩ := Option.map_eq_some_iff.1 h
       obtain ⟨rfl, rfl⟩ := Prod.mk.inj h2
       exact ⟨List.eq_nil_of_length_eq_zero hd, _, resOf_run h1 _ _, rfl, rfl⟩
      ·cases h
     | normal =>
      dsimp only at h
      split at h
      ·rename_i hd
       obtain ⟨v', h1, h2⟩ := Option.map_eq_some_iff.1 h
       obtain ⟨rfl, rfl⟩ := Prod.mk.inj h2
       exact ⟨List.eq_nil_of_length_eq_zero hd, _, resOf_run h1 _ _, rfl, rfl⟩
      ·cases h
     | _ => cases h
end U
end
section
namespace UFinEv
open U PClusterFinest UFinest
def Rep (L : Lab) (lo : Nat) (l : List Int) : Prop := ∀ i, i < l.length → l.getD i 0 = ((L (lo + i) : Nat) : Int)
theorem rep_rd {L : Lab} {lo : Nat} {l : List Int} (h : Rep L lo l) (i : Nat) (hi : i < l.length) : rd l (i : Int) = ((L (lo + i) : Nat) : Int) := by
 rw [rd_nat]; exact h i hi
theorem mn_nat (a b : Nat) : mn (a : Int) (b : Int) = ((min a b : Nat) : Int) := by unfold mn; split <;> omega
def lkOf (x : S45) : Lk := ⟨x.f0.f0.toNat, x.f0.f1.toNat, x.f1.f0.toNat, x.f1.f1.toNat⟩
structure NonNeg (x : S45) : Prop where
 a : 0 ≤ x.f0.f0
 b : 0 ≤ x.f0.f1
 c : 0 ≤ x.f1.f0
 d : 0 ≤ x.f1.f1
theorem right_f (a b : Int) (h : 0 ≤ a) : naskhref03_Right.f a b = some (decide (a < b)) := by unfold naskhref03_Right.f; rw [if_pos (by omega)]
theorem rep_out {L : Lab} {lo c d v : Nat} {l : List Int} (h : Rep L lo l) (hd : d ≤ lo ∨ lo + l.length ≤ c) : Rep (setL L c d v) lo l := by
 intro i hi
 rw [h i hi]
 unfold setL
 rw [if_neg (by omega)]
theorem rd45 {l : List S45} {i : Nat} (h : i < l.length) : rd_T45 l (i : Int) = l[i] := by
 unfold rd_T45
 rw [qtN, qgD, qgG h]
 rfl
theorem foldl_take {α β : Type} (f : β → α → β) (s : β) (l : List α) (i : Nat) (h : i < l.length) : (l.take (i + 1)).foldl f s = f ((l.take i).foldl f s) l[i] := by
 rw [qtS h, List.foldl_append]; rfl
theorem wholeTo_out (L : Lab) (lo len : Nat) (x : Nat) (hx : x < lo ∨ lo + len ≤ x) (k : Nat) (hk : k ≤ len) : (wholeTo L lo len k).1 x = L x := by
 induction k with
 | zero => rfl
 | succ k ih =>
  have ih' := ih (by omega)
  unfold wholeTo
  dsimp only
  generalize wholeTo L lo len k = q at ih' ⊢
  have hs : (hullL q.1 lo (q.1 (lo + k)) len).2 ≤ len := by
   rcases hullL_is q.1 lo (q.1 (lo + k)) len with ⟨e, _⟩ | ⟨_, g, _⟩
   ·rw [e]; exact Nat.zero_le _
   ·exact g
  generalize hullL q.1 lo (q.1 (lo + k)) len = s at hs
  unfold setL
  by_cases hc : lo + s.1 ≤ x ∧ x < lo + s.1 + (s.2 - s.1)
  ·omega
  ·rw [if_neg hc]; exact ih'
end UFinEv
namespace UFinEv
open U PClusterFinest UFinest
def RepB (P : Nat → Bool) (l : List Bool) : Prop := ∀ i, i < l.length → l.getD i false = P i
theorem repB_set {P : Nat → Bool} {l : List Bool} (h : RepB P l) (i : Nat) (hi : i < l.length) : RepB (fun j => P j || decide (j = i)) (l.set i true) := by
 intro j hj
 rw [List.length_set] at hj
 by_cases hji : j = i
 ·subst hji
  rw [qgD, List.getElem?_set_self (by omega)]
  simp
 ·rw [qgD, List.getElem?_set_ne (Ne.symm hji), ← qgD, h j hj]
  simp [hji]
theorem rdB (l : List Bool) (i : Nat) : rdOf false l (i : Int) = l.getD i false := by
 unfold rdOf
 rw [qtN]
structure LinkOk (n m : Nat) (x : S45) : Prop where
 a0 : 0 ≤ x.f0.f0
 ab : x.f0.f0 < x.f0.f1
 bn : x.f0.f1 ≤ n
 c0 : 0 ≤ x.f1.f0
 cd : x.f1.f0 < x.f1.f1
 dm : x.f1.f1 ≤ m
theorem LinkOk.nn {n m : Nat} {x : S45} (h : LinkOk n m x) : NonNeg x := by
 have := h.a0; have := h.ab; have := h.c0; have := h.cd
 exact ⟨by omega, by omega, by omega, by omega⟩
end UFinEv
namespace UFinEv
open U PClusterFinest UFinest
def fitB (lo hi n : Int) : Bool := decide (0 ≤ lo) && decide (lo < hi) && decide (hi ≤ n)
def okB (n m : Int) (x : S45) : Bool := fitB x.f0.f0 x.f0.f1 n && fitB x.f1.f0 x.f1.f1 m
def outB (l : List S45) (k : Nat) : Bool := l.any fun x => decide (x.f1.f0 ≤ k) && decide ((k : Int) < x.f1.f1)
def wrongIn (n m : Int) (l : List S45) : Int := if m = 0 ∧ n > 0 then 8 else if n = 0 ∧ m > 0 then 13 else if (List.range m.toNat).all (outB l) then 0 else 13
def wrongR (n m : Int) (l : List S45) : Int := if n < 0 ∨ n > 16777216 ∨ m < 0 ∨ m > 16777216 then 1 else if l.all (okB n m) then wrongIn n m l else 1
theorem outB_add (l : List S45) (x : S45) (k : Nat) : outB (l ++ [x]) k = (outB l k || (decide (x.f1.f0 ≤ k) && decide ((k : Int) < x.f1.f1))) := by
 unfold outB
 rw [List.any_append]
 simp
theorem fitB_right {lo hi n : Int} (h : fitB lo hi n = true) : 0 ≤ lo ∧ lo < hi ∧ hi ≤ n := by
 unfold fitB at h
 simp at h
 exact ⟨h.1.1, h.1.2, h.2⟩
theorem right_is (lo hi : Int) : naskhref03_Right.f lo hi = some (decide (0 ≤ lo) && decide (lo < hi)) := by
 unfold naskhref03_Right.f
 split
 ·rename_i h; simp [h]
 ·rename_i h; simp [h]
end UFinEv
namespace UFinest
structure LabOk (N : Nat) (r : Lab) : Prop where
 le : ∀ i, i < N → r i ≤ i
 rr : ∀ i, i < N → r (r i) = r i
def PF (N : Nat) (r : Lab) (p : List Int) : Prop := ∀ i, i < N → ∃ q : Nat, p.getD i 0 = (q : Int) ∧ q ≤ i ∧ r q = r i ∧ (q = i → r i = i)
theorem getD_set_self (p : List Int) (i : Nat) (x : Int) (h : i < p.length) : (p.set i x).getD i 0 = x := by
 rw [qgD, List.getElem?_set_self h]; rfl
theorem getD_set_ne (p : List Int) (i j : Nat) (x : Int) (h : j ≠ i) : (p.set i x).getD j 0 = p.getD j 0 := by
 rw [qgD, List.getElem?_set_ne (Ne.symm h), ← qgD]
theorem PF.half {N : Nat} {r : Lab} {p : List Int} (h : PF N r p) (hl : p.length = N) {i q q2 : Nat} (hi : i < N) (h1 : p.getD i 0 = (q : Int)) (h2 : p.getD q 0 = (q2 : Int)) : PF N r (p.set i (q2 : Int)) := by
 intro j hj
 by_cases e : j = i
 ·subst e
  obtain ⟨a, a1, a2, a3, a4⟩ := h j hi
  have ea : a = q := by omega
  subst ea
  obtain ⟨b, b1, b2, b3, b4⟩ := h a (by omega)
  have eb : b = q2 := by omega
  subst eb
  exact ⟨b, getD_set_self p j _ (by omega), by omega, b3.trans a3, fun e => a4 (by omega)⟩
 ·obtain ⟨a, a1, a2, a3, a4⟩ := h j hj
  exact ⟨a, (getD_set_ne p i j _ e).trans a1, a2, a3, a4⟩
theorem LabOk.merge {N : Nat} {r : Lab} (h : LabOk N r) (a b : Nat) (ha : a < N) (hb : b < N) : LabOk N (merge r a b) := by
 have h1 := h.le a ha
 have h2 := h.le b hb
 have h3 := h.rr a ha
 have h4 := h.rr b hb
 refine ⟨fun i hi => qlT (merge_le _ _ _ _) (h.le i hi), fun i hi => ?_⟩
 have h5 := h.rr i hi
 unfold UFinest.merge
 by_cases e : r i = max (r a) (r b)
 ·rw [if_pos e]
  rcases Nat.le_total (r a) (r b) with hab | hab
  ·rw [Nat.min_eq_left hab, Nat.max_eq_right hab, h3]; split <;> omega
  ·rw [Nat.min_eq_right hab, Nat.max_eq_left hab, h4]; split <;> omega
 ·rw [if_neg e, h5, if_neg e]
theorem PF.join {N : Nat} {r : Lab} {p : List Int} (h : PF N r p) (ho : LabOk N r) (hl : p.length = N) (a b : Nat) (ha : a < N) (hb : b < N) (hne : r a ≠ r b) : PF N (merge r a b) (p.set (max (r a) (r b)) ((min (r a) (r b) : Nat) : Int)) := by
 have h1 := ho.le a ha
 have h2 := ho.le b hb
 have h3 := ho.rr a ha
 have h4 := ho.rr b hb
 have hM : r (max (r a) (r b)) = max (r a) (r b) := by
  rcases Nat.le_total (r a) (r b) with hab | hab
  ·rw [Nat.max_eq_right hab]; exact h4
  ·rw [Nat.max_eq_left hab]; exact h3
 have hm : r (min (r a) (r b)) = min (r a) (r b) := by
  rcases Nat.le_total (r a) (r b) with hab | hab
  ·rw [Nat.min_eq_left hab]; exact h3
  ·rw [Nat.min_eq_right hab]; exact h4
 intro j hj
 by_cases e : j = max (r a) (r b)
 ·refine ⟨min (r a) (r b), ?_, by omega, ?_, fun h => by omega⟩
  ·rw [e]; exact getD_set_self p _ _ (by omega)
  ·rw [e]
   unfold UFinest.merge
   rw [hm, hM, if_pos rfl, if_neg (by omega)]
 ·obtain ⟨q, q1, q2, q3, q4⟩ := h j hj
  refine ⟨q, (getD_set_ne p _ _ _ e).trans q1, q2, merge_keep r a b q j q3, fun eq => ?_⟩
  have := q4 eq
  unfold UFinest.merge
  rw [this, if_neg e]
theorem PF.root {N : Nat} {r : Lab} {p : List Int} (h : PF N r p) {i : Nat} (hi : i < N) (he : p.getD i 0 = (i : Int)) : r i = i := by
 obtain ⟨q, q1, q2, q3, q4⟩ := h i hi
 exact q4 (by omega)
theorem PF.up {N : Nat} {r : Lab} {p : List Int} (h : PF N r p) {i : Nat} (hi : i < N) (he : p.getD i 0 ≠ (i : Int)) : ∃ q : Nat, p.getD i 0 = (q : Int) ∧ q < i ∧ r q = r i := by
 obtain ⟨q, q1, q2, q3, q4⟩ := h i hi
 exact ⟨q, q1, by rcases Nat.lt_or_ge q i with h | h; exact h; exact absurd (by rw [q1]; omega) he, q3⟩
theorem labOk_id (N : Nat) : LabOk N idL := ⟨fun _ _ => qlR _, fun _ _ => rfl⟩
theorem PF.id {N : Nat} {p : List Int} (h : ∀ i, i < N → p.getD i 0 = (i : Int)) : PF N idL p := fun i hi => ⟨i, h i hi, qlR _, rfl, fun _ => rfl⟩
theorem two_false {r : Lab} {a b : Nat} (h : r a = r b) : two r a b = false := by unfold two; rw [decide_eq_false_iff_not]; exact fun h' => h' h
theorem two_true {r : Lab} {a b : Nat} (h : r a ≠ r b) : two r a b = true := by unfold two; exact qdT h
end UFinest
namespace UFinest
structure FinOk (n m : Nat) (l : List Lk) (L : Lab) : Prop where
 sound : ∀ R, Closed n m l R → Sound R L
 closed : Closed n m l (fun x y => L x = L y)
theorem FinOk.same {n m : Nat} {l : List Lk} {L L' : Lab} (h : FinOk n m l L) (h' : FinOk n m l L') (x y : Nat) : L x = L y ↔ L' x = L' y := same_sets h.sound h'.sound h.closed h'.closed x y
def strayL (l : List Lk) (k : Nat) : List Lk := (List.range k).filterMap fun i => if 1 ≤ i ∧ linkedB l i = false then some ⟨i - 1, i + 1, 0, 0⟩ else none
def aheadL (l : List Lk) (n : Nat) : List Lk := if 0 < firstF l n ∧ firstF l n < n then [⟨0, firstF l n + 1, 0, 0⟩] else []
def allL (n : Nat) (l : List Lk) : List Lk := l ++ strayL l n ++ aheadL l n
theorem strayL_add (l : List Lk) (k : Nat) : strayL l (k + 1) = strayL l k ++ (if 1 ≤ k ∧ linkedB l k = false then [⟨k - 1, k + 1, 0, 0⟩] else []) := by
 unfold strayL
 rw [List.range_succ, List.filterMap_append]
 by_cases h : 1 ≤ k ∧ linkedB l k = false
 ·simp [h]
 ·rw [if_neg h]; simp [List.filterMap_cons, h]
theorem mem_strayL {l : List Lk} {k : Nat} {x : Lk} (h : x ∈ strayL l k) : ∃ i, 1 ≤ i ∧ i < k ∧ linkedB l i = false ∧ x = ⟨i - 1, i + 1, 0, 0⟩ := by
 unfold strayL at h
 obtain ⟨i, h1, h2⟩ := List.mem_filterMap.1 h
 by_cases hc : 1 ≤ i ∧ linkedB l i = false
 ·rw [if_pos hc] at h2
  exact ⟨i, hc.1, List.mem_range.1 h1, hc.2, (qoI h2).symm⟩
 ·rw [if_neg hc] at h2; cases h2
theorem strayL_mem {l : List Lk} {k i : Nat} (h1 : 1 ≤ i) (h2 : i < k) (h3 : linkedB l i = false) : (⟨i - 1, i + 1, 0, 0⟩ : Lk) ∈ strayL l k := List.mem_filterMap.2 ⟨i, List.mem_range.2 h2, by rw [if_pos ⟨h1, h3⟩]⟩
theorem mem_aheadL {l : List Lk} {n : Nat} {x : Lk} (h : x ∈ aheadL l n) : 0 < firstF l n ∧ firstF l n < n ∧ x = ⟨0, firstF l n + 1, 0, 0⟩ := by
 unfold aheadL at h
 by_cases hc : 0 < firstF l n ∧ firstF l n < n
 ·rw [if_pos hc] at h; exact ⟨hc.1, hc.2, List.mem_singleton.1 h⟩
 ·rw [if_neg hc] at h; cases h
theorem ahead_all {n m : Nat} {l : List Lk} {R : Nat → Nat → Prop} (hR : Closed n m l R) (hf : firstF l n < n) (i : Nat) : i ≤ firstF l n → R 0 i := by
 induction i with
 | zero => intro _; exact hR.eqv.refl 0
 | succ i ih => intro h; exact hR.eqv.trans _ _ _ (ih (by omega)) (hR.ahead i (by omega) hf)
theorem all_in {n m : Nat} {l : List Lk} (hw : ∀ x ∈ l, LkIn n m x) : ∀ x ∈ allL n l, LkIn n m x := by
 intro x hx
 unfold allL at hx
 rcases List.mem_append.1 hx with hx | hx
 ·rcases List.mem_append.1 hx with hx | hx
  ·exact hw x hx
  ·obtain ⟨i, h1, h2, h3, rfl⟩ := mem_strayL hx
   exact ⟨by dsimp only; omega, by dsimp only; omega, fun h => absurd h (Nat.lt_irrefl 0)⟩
 ·obtain ⟨h1, h2, rfl⟩ := mem_aheadL hx
  exact ⟨by dsimp only; omega, by dsimp only; omega, fun h => absurd h (Nat.lt_irrefl 0)⟩
theorem all_ok {n m : Nat} {l : List Lk} {R : Nat → Nat → Prop} (hR : Closed n m l R) : ∀ x ∈ allL n l, LkOk n m R x := by
 intro x hx
 unfold allL at hx
 rcases List.mem_append.1 hx with hx | hx
 ·rcases List.mem_append.1 hx with hx | hx
  ·exact ⟨hR.ins x hx, hR.outs x hx, fun _ => hR.both x hx⟩
  ·obtain ⟨i, h1, h2, h3, rfl⟩ := mem_strayL hx
   refine ⟨?_, fun j _ h => absurd h (Nat.not_lt_zero j), fun h => absurd h (Nat.lt_irrefl 0)⟩
   intro j hj1 hj2
   dsimp only at hj1 hj2 ⊢
   by_cases hj : j = i
   ·rw [hj]; exact hR.stray i (by omega) h2 h3
   ·rw [show j = i - 1 by omega]; exact hR.eqv.refl _
 ·obtain ⟨h1, h2, rfl⟩ := mem_aheadL hx
  refine ⟨?_, fun j _ h => absurd h (Nat.not_lt_zero j), fun h => absurd h (Nat.lt_irrefl 0)⟩
  intro j hj1 hj2
  dsimp only at hj1 hj2 ⊢
  exact ahead_all hR h2 j (by omega)
theorem turn_step {n m : Nat} {l : List Lk} (hw : ∀ x ∈ l, LkIn n m x) {L : Lab} (h : ∀ R, Closed n m l R → Sound R L) : ∀ R, Closed n m l R → Sound R (turnL n m (allL n l) L).1 :=
 fun R hR => sound_turnL hR.eqv (fun i j k _ => hR.conv1 i j k) (fun i j k h1 h2 h3 h4 => hR.conv2 i j k h1 h2 h3 h4) (all_ok hR) (all_in hw) (h R hR)
theorem turn_last {n m : Nat} {l : List Lk} (hw : ∀ x ∈ l, LkIn n m x) (hw2 : ∀ x ∈ l, x.c < x.d) {L : Lab} (h : ∀ R, Closed n m l R → Sound R L) (hf : (turnL n m (allL n l) L).2 = false) : FinOk n m l L := by
 obtain ⟨h1, h2, h3, h4⟩ := turnL_false hf
 have mem1 : ∀ x ∈ l, x ∈ allL n l := fun x hx => List.mem_append_left _ (List.mem_append_left _ hx)
 have hst : ∀ i, 0 < i → i < n → linkedB l i = false → L (i - 1) = L i := by
  intro i h0 h1 h3
  exact (h2 _ (List.mem_append_left _ (List.mem_append_right _ (strayL_mem h0 h1 h3)))).1 i (by dsimp only; omega) (by dsimp only; omega)
 refine ⟨h, ⟨⟨fun _ => rfl, fun _ _ h => h.symm, fun _ _ _ h h' => h.trans h'⟩, fun x hx => (h2 x (mem1 x hx)).1, fun x hx => ((h2 x (mem1 x hx)).2 (hw2 x hx) (hw x hx).a).1, fun x hx => ((h2 x (mem1 x hx)).2 (hw2 x hx) (hw x hx).a).2, hst, ?_, ?_, ?_⟩⟩
 ·intro i hi hn
  by_cases hi1 : i + 1 = firstF l n
  ·have hm : (⟨0, firstF l n + 1, 0, 0⟩ : Lk) ∈ allL n l := List.mem_append_right _ (by unfold aheadL; rw [if_pos ⟨by omega, hn⟩]; exact List.mem_singleton.2 rfl)
   have := (h2 _ hm).1
   exact (this i (by dsimp only; omega) (by dsimp only; omega)).symm.trans (this (i + 1) (by dsimp only; omega) (by dsimp only; omega))
  ·exact hst (i + 1) (by omega) (by omega) (first_least l n (i + 1) (by omega) (first_le l n))
 ·exact fun i j k h1 h2 h4 h5 => h3 i j k (Nat.zero_le _) h1 h2 h4 h5
 ·exact fun i j k h0 h1 h2 h5 h6 => h4 i j k h0 h1 h2 h5 h6
abbrev Clu := (Nat × Nat) × (Nat × Nat)
def cluTo (n m : Nat) (L : Lab) (k : Nat) : List Clu := (List.range k).filterMap fun i => if i = 0 ∨ L i ≠ L (i - 1) then some (hullL L 0 (L i) n, hullL L n (L i) m) else none
theorem cluTo_add (n m : Nat) (L : Lab) (k : Nat) : cluTo n m L (k + 1) = cluTo n m L k ++ (if k = 0 ∨ L k ≠ L (k - 1) then [(hullL L 0 (L k) n, hullL L n (L k) m)] else []) := by
 unfold cluTo
 rw [List.range_succ, List.filterMap_append]
 by_cases h : k = 0 ∨ L k ≠ L (k - 1)
 ·rw [if_pos h]; simp [List.filterMap_cons, h]
 ·rw [if_neg h]; simp [List.filterMap_cons, h]
theorem hullL_same {r q : Lab} (h : ∀ x y, r x = r y ↔ q x = q y) (lo i : Nat) (k : Nat) : hullL r lo (r i) k = hullL q lo (q i) k := by
 induction k with
 | zero => rfl
 | succ k ih =>
  unfold hullL
  rw [ih]
  by_cases hc : r (lo + k) = r i
  ·rw [if_pos hc, if_pos ((h _ _).1 hc)]
  ·rw [if_neg hc, if_neg (fun h' => hc ((h _ _).2 h'))]
theorem cluTo_same {r q : Lab} (h : ∀ x y, r x = r y ↔ q x = q y) (n m k : Nat) : cluTo n m r k = cluTo n m q k := by
 unfold cluTo
 congr 1
 funext i
 rw [hullL_same h 0 i n, hullL_same h n i m]
 by_cases hc : i = 0 ∨ r i ≠ r (i - 1)
 ·rw [if_pos hc, if_pos (hc.imp_right fun h' => fun e => h' ((h _ _).2 e))]
 ·rw [if_neg hc, if_neg (fun h' => hc (h'.imp_right fun h2 => fun e => h2 ((h _ _).1 e)))]
end UFinest
namespace UFinest
def firsts (r : Lab) : Nat → List Nat
 | 0 => []
 | k + 1 => if r k ∈ firsts r k then firsts r k else firsts r k ++ [r k]
theorem mem_firsts (r : Lab) (k v : Nat) : v ∈ firsts r k ↔ ∃ i, i < k ∧ r i = v := by
 induction k with
 | zero => simp [firsts]
 | succ k ih =>
  unfold firsts
  by_cases h : r k ∈ firsts r k
  ·rw [if_pos h, ih]
   constructor
   ·rintro ⟨i, hi, e⟩; exact ⟨i, by omega, e⟩
   ·rintro ⟨i, hi, e⟩
    rcases Nat.lt_or_ge i k with h' | h'
    ·exact ⟨i, h', e⟩
    ·obtain rfl : i = k := by omega
     exact ih.1 (e ▸ h)
  ·rw [if_neg h, List.mem_append, ih, List.mem_singleton]
   constructor
   ·rintro (⟨i, hi, e⟩ | e)
    ·exact ⟨i, by omega, e⟩
    ·exact ⟨k, by omega, e.symm⟩
   ·rintro ⟨i, hi, e⟩
    rcases Nat.lt_or_ge i k with h' | h'
    ·exact .inl ⟨i, h', e⟩
    ·obtain rfl : i = k := by omega
     exact .inr e.symm
theorem firsts_nodup (r : Lab) (k : Nat) : (firsts r k).Nodup := by
 induction k with
 | zero => exact List.nodup_nil
 | succ k ih =>
  unfold firsts
  split
  ·exact ih
  ·rename_i h
   rw [List.nodup_append]
   exact ⟨ih, by simp, fun a ha b hb e => h (by rw [List.mem_singleton] at hb; rw [← hb, ← e]; exact ha)⟩
theorem firsts_len (r : Lab) (k : Nat) : (firsts r k).length ≤ k := by
 induction k with
 | zero => exact qlR _
 | succ k ih =>
  unfold firsts
  split
  ·omega
  ·simp; exact ih
theorem map_set_idx {β : Type} (l : List Nat) (hn : l.Nodup) (v : Nat) (hv : v ∈ l) (f f' : Nat → β) (h : ∀ x ∈ l, x ≠ v → f' x = f x) : l.map f' = (l.map f).set (l.idxOf v) (f' v) := by
 apply List.ext_getElem (by simp)
 intro i h1 h2
 have hi : i < l.length := by simpa using h1
 rw [List.getElem_set]
 by_cases e : l.idxOf v = i
 ·rw [if_pos e]
  subst e
  rw [List.getElem_map, List.getElem_idxOf]
 ·rw [if_neg e, List.getElem_map, List.getElem_map]
  refine h _ (List.getElem_mem hi) fun e' => e ?_
  rw [← e']
  exact hn.idxOf_getElem i hi
def clu1 (r : Lab) (m k : Nat) (v : Nat) : Clu := (hullL r 0 v k, (m, 0))
def out2 (r : Lab) (n m : Nat) (v t : Nat) : Nat × Nat := if (hullL r n v t).2 = 0 then (m, 0) else hullL r n v t
def clu2 (r : Lab) (n m t : Nat) (v : Nat) : Clu := (hullL r 0 v n, out2 r n m v t)
theorem hull_far {r : Lab} {lo v k : Nat} (h : r (lo + k) ≠ v) : hullL r lo v (k + 1) = hullL r lo v k := by
 show (if r (lo + k) = v then _ else _) = _
 rw [if_neg h]
theorem hull_met {r : Lab} {k v : Nat} (h : v ∈ firsts r k) : (hullL r 0 v k).1 < (hullL r 0 v k).2 := by
 obtain ⟨i, hi, e⟩ := (mem_firsts r k v).1 h
 rcases hullL_is r 0 v k with ⟨h1, h2⟩ | h2
 ·exact absurd (by rw [Nat.zero_add]; exact e) (h2 i hi)
 ·exact h2.1
theorem clu1_there {r : Lab} {m k : Nat} (h : r k ∈ firsts r k) : (firsts r (k + 1)).map (clu1 r m (k + 1)) = ((firsts r k).map (clu1 r m k)).set ((firsts r k).idxOf (r k)) (((hullL r 0 (r k) k).1, k + 1), (m, 0)) := by
 have e : firsts r (k + 1) = firsts r k := by rw [firsts, if_pos h]
 rw [e, map_set_idx _ (firsts_nodup r k) _ h (clu1 r m k) (clu1 r m (k + 1))]
 ·congr 1
  unfold clu1
  have hm := hull_met h
  show ((if r (0 + k) = r k then _ else _), (m, 0)) = _
  rw [Nat.zero_add, if_pos rfl, if_neg (by omega)]
 ·intro x hx hne
  unfold clu1
  rw [hull_far (by rw [Nat.zero_add]; exact fun e => hne e.symm)]
theorem clu1_new {r : Lab} {m k : Nat} (h : r k ∉ firsts r k) : (firsts r (k + 1)).map (clu1 r m (k + 1)) = (firsts r k).map (clu1 r m k) ++ [((k, k + 1), (m, 0))] := by
 have e : firsts r (k + 1) = firsts r k ++ [r k] := by rw [firsts, if_neg h]
 rw [e, List.map_append]
 congr 1
 ·apply List.map_congr_left
  intro x hx
  unfold clu1
  rw [hull_far (by rw [Nat.zero_add]; exact fun e => h (e ▸ hx))]
 ·unfold clu1
  have h0 : hullL r 0 (r k) k = (0, 0) := by
   rcases hullL_is r 0 (r k) k with ⟨h1, _⟩ | h2
   ·exact h1
   ·exact absurd ((mem_firsts r k _).2 ⟨(hullL r 0 (r k) k).1, by omega, by have := h2.2.2.1; rwa [Nat.zero_add] at this⟩) h
  rw [List.map_singleton]
  show [((if r (0 + k) = r k then _ else _), (m, 0))] = _
  rw [Nat.zero_add, if_pos rfl, h0, if_pos rfl]
theorem clu2_start (r : Lab) (n m : Nat) : (firsts r n).map (clu1 r m n) = (firsts r n).map (clu2 r n m 0) := List.map_congr_left fun v _ => by
 unfold clu1 clu2 out2
 rw [if_pos (by rfl)]
theorem clu2_step {r : Lab} {n m t : Nat} (ht : t < m) (h : r (n + t) ∈ firsts r n) : (firsts r n).map (clu2 r n m (t + 1)) = ((firsts r n).map (clu2 r n m t)).set ((firsts r n).idxOf (r (n + t))) (hullL r 0 (r (n + t)) n, (min (out2 r n m (r (n + t)) t).1 t, t + 1)) := by
 rw [map_set_idx _ (firsts_nodup r n) _ h (clu2 r n m t) (clu2 r n m (t + 1))]
 ·congr 1
  unfold clu2 out2
  have e : hullL r n (r (n + t)) (t + 1) = ((if (hullL r n (r (n + t)) t).2 = 0 then t else (hullL r n (r (n + t)) t).1), t + 1) := by
   show (if r (n + t) = r (n + t) then _ else _) = _
   rw [if_pos rfl]
  rw [e, if_neg (by simp)]
  congr 1
  congr 1
  by_cases hz : (hullL r n (r (n + t)) t).2 = 0
  ·rw [if_pos hz, if_pos hz]; dsimp only; omega
  ·rw [if_neg hz, if_neg hz]
   rcases hullL_is r n (r (n + t)) t with ⟨h1, _⟩ | h2
   ·rw [h1] at hz; exact absurd rfl hz
   ·omega
 ·intro x hx hne
  unfold clu2 out2
  rw [hull_far (fun e => hne e.symm)]
theorem firsts_cut {r : Lab} {n : Nat} (hb : Between (fun x y => r x = r y) 0 n) (k : Nat) (hk : k < n) : r k ∈ firsts r k ↔ ¬ (k = 0 ∨ r k ≠ r (k - 1)) := by
 rw [mem_firsts]
 constructor
 ·rintro ⟨i, hi, e⟩ (h | h)
  ·omega
  ·exact h (e.symm.trans (hb i (k - 1) k (Nat.zero_le _) (by omega) (by omega) hk e))
 ·intro h
  exact ⟨k - 1, by omega, (Decidable.byContradiction fun e => h (.inr (fun e' => e e'.symm)))⟩
theorem cluTo_firsts {r : Lab} {n m : Nat} (hb : Between (fun x y => r x = r y) 0 n) (k : Nat) (hk : k ≤ n) : cluTo n m r k = (firsts r k).map fun v => (hullL r 0 v n, hullL r n v m) := by
 induction k with
 | zero => rfl
 | succ k ih =>
  rw [cluTo_add, ih (by omega), firsts]
  have hc := firsts_cut hb k (by omega)
  by_cases h : k = 0 ∨ r k ≠ r (k - 1)
  ·rw [if_pos h, if_neg (fun h' => hc.1 h' h), List.map_append]; rfl
  ·rw [if_neg h, if_pos (hc.2 h), List.append_nil]
theorem clu2_end {r : Lab} {n m : Nat} (hb : Between (fun x y => r x = r y) 0 n) (ho : ∀ j, j < n → ∃ i, i < m ∧ r (n + i) = r j) : (firsts r n).map (clu2 r n m m) = cluTo n m r n := by
 rw [cluTo_firsts hb n (qlR _)]
 apply List.map_congr_left
 intro v hv
 obtain ⟨j, hj, e⟩ := (mem_firsts r n v).1 hv
 obtain ⟨i, hi, e2⟩ := ho j hj
 unfold clu2 out2
 rw [if_neg]
 rcases hullL_is r n v m with ⟨_, h2⟩ | h2
 ·exact absurd (e2.trans e) (h2 i hi)
 ·omega
theorem outs_met {n m : Nat} {l : List Lk} {R : Nat → Nat → Prop} (hR : Closed n m l R) (hw : ∀ x ∈ l, x.a < x.b ∧ x.c < x.d) (hm : ∀ x ∈ l, x.d ≤ m) (hf : firstF l n < n) (j : Nat) (hj : j < n) : ∃ i, i < m ∧ R (n + i) j := by
 have linked : ∀ j, linkedB l j = true → ∃ i, i < m ∧ R (n + i) j := by
  intro j h
  unfold linkedB at h
  obtain ⟨x, hx, h⟩ := List.any_eq_true.1 h
  simp only [Bool.and_eq_true, decide_eq_true_eq] at h
  have := hw x hx; have := hm x hx
  exact ⟨x.c, by omega, hR.eqv.trans _ _ _ (hR.eqv.symm _ _ (hR.both x hx)) (hR.ins x hx j h.1 h.2)⟩
 have hfirst := linked _ (first_linked l n hf)
 have behind : ∀ d, firstF l n + d < n → ∃ i, i < m ∧ R (n + i) (firstF l n + d) := by
  intro d
  induction d with
  | zero => intro _; exact hfirst
  | succ d ih =>
   intro h
   cases e : linkedB l (firstF l n + (d + 1)) with
   | true => exact linked _ e
   | false =>
    obtain ⟨i, hi, h'⟩ := ih (by omega)
    exact ⟨i, hi, hR.eqv.trans _ _ _ h' (hR.stray (firstF l n + (d + 1)) (by omega) h e)⟩
 have ahead : ∀ d, d ≤ firstF l n → ∃ i, i < m ∧ R (n + i) (firstF l n - d) := by
  intro d
  induction d with
  | zero => intro _; exact hfirst
  | succ d ih =>
   intro h
   obtain ⟨i, hi, h'⟩ := ih (by omega)
   have := hR.ahead (firstF l n - (d + 1)) (by omega) hf
   rw [show firstF l n - (d + 1) + 1 = firstF l n - d by omega] at this
   exact ⟨i, hi, hR.eqv.trans _ _ _ h' (hR.eqv.symm _ _ this)⟩
 rcases Nat.lt_or_ge j (firstF l n) with h | h
 ·have := ahead (firstF l n - j) (by omega)
  rwa [show firstF l n - (firstF l n - j) = j by omega] at this
 ·have := behind (j - firstF l n) (by omega)
  rwa [show firstF l n + (j - firstF l n) = j by omega] at this
theorem ins_met {n m : Nat} {l : List Lk} {R : Nat → Nat → Prop} (hR : Closed n m l R) (hb : ∀ x ∈ l, x.a < x.b ∧ x.b ≤ n) (hc : ∀ i, i < m → ∃ x ∈ l, x.c ≤ i ∧ i < x.d) (i : Nat) (hi : i < m) : ∃ j, j < n ∧ R j (n + i) := by
 obtain ⟨x, hx, h1, h2⟩ := hc i hi
 have := hb x hx
 exact ⟨x.a, by omega, hR.eqv.trans _ _ _ (hR.both x hx) (hR.outs x hx i h1 h2)⟩
end UFinest
end
section
namespace CFin
open U PClusterFinest UFinest UFinEv
theorem ev_some {α : Type} {f : Nat → Option α} {r : α} (h : Ev f r) : ∃ k, f k = some r := by
 obtain ⟨k, h⟩ := h
 exact ⟨k, h k (qlR _)⟩
end CFin
namespace CFin
open U PClusterFinest UFinest UFinEv
theorem cell_al {w : World} {p : Addr} {v : Value} (h : w.cell? p = some v) (o : Obj) : (w.alloc o).cell? p = some v := ((qbA (qBr _ _) o).cell (qwL _ _ h)).trans h
def LI (w : World) (base g n cap : Nat) (xs : List Int) : Prop := Kd.R (Kd.int .i64) 3 w base (fun k => k = g) (.slice (some ⟨g, 0, none⟩) n cap) xs
theorem LI.len {w : World} {base g n cap : Nat} {xs : List Int} (h : LI w base g n cap xs) : n = xs.length := (Kd.R_reads' h).1
theorem LI.lt {w : World} {base g n cap : Nat} {xs : List Int} (h : LI w base g n cap xs) : base ≤ g := by
 obtain ⟨_, _, ho, _⟩ := h
 rcases ho.2 with ⟨e, _⟩ | ⟨g', _, _, e, hb, _⟩
 ·cases e
 ·injection e with e1 e2 e3; injection e1 with e1; injection e1 with e1 e4; rw [e1]; exact hb
theorem LI.ltw {w : World} {base g n cap : Nat} {xs : List Int} (h : LI w base g n cap xs) : g < w.heap.size := by
 obtain ⟨_, _, h2, _⟩ := (Kd.R_bound h).1 g rfl
 exact h2
theorem LI.below {w w' : World} {base g n cap : Nat} {xs : List Int} (h : LI w base g n cap xs) (hb : Below w.heap.size w w') : LI w' base g n cap xs := qrB h hb
theorem LI.of_R {w : World} {base n cap g : Nat} {ok : Nat → Prop} {xs : List Int} (h : Kd.R (Kd.int .i64) 3 w base ok (.slice (some ⟨g, 0, none⟩) n cap) xs) : LI w base g n cap xs := by
 obtain ⟨_, inner, ho, hr⟩ := h
 refine ⟨fun k hk => by simpa [Value.ownBlock] using hk.symm, inner, ho, hr.imp_ (fun _ _ hp => hp)⟩
theorem LI.put {w : World} {base g n cap : Nat} {xs : List Int} (h : LI w base g n cap xs) (i : Nat) (x : Int) : LI (w.setCell ⟨g, i, none⟩ (.int .i64 x)) base g n cap (xs.set i x) := by
 have := (Kd.R_putg h (i : Int) x).1
 rwa [qtN] at this
theorem LI.other {w : World} {base g n cap : Nat} {xs : List Int} (h : LI w base g n cap xs) {g' : Nat} (hg : g ≠ g') (i : Nat) (v : Value) : LI (w.setCell ⟨g', i, none⟩ v) base g n cap xs :=
 Kd.R_grown h (grown_set w g' i v) (fun k hk e => hg (by rw [← hk]; exact qoI e))
theorem LI.cell {w : World} {base g n cap : Nat} {xs : List Int} (h : LI w base g n cap xs) (i : Nat) (hi : i < n) : w.cell? ⟨g, i, none⟩ = some (.int .i64 (xs.getD i 0)) ∧ w.frozen? ⟨g, i, none⟩ = false := by
 have := Kd.R_celln (0 : Int) h (i : Int) (by omega) (by omega)
 rw [qtN] at this
 refine ⟨this.1.trans ?_, this.2⟩
 unfold rdOf
 rw [qtN]
def Upto (b k : Nat) (xs : List Int) : Prop := ∀ i, i < k → xs.getD i 0 = ((b + i : Nat) : Int)
theorem Upto.set {b k : Nat} {xs : List Int} (h : Upto b k xs) (hk : k < xs.length) : Upto b (k + 1) (xs.set k ((b + k : Nat) : Int)) := by
 intro i hi
 by_cases e : i = k
 ·subst e
  rw [qgD, List.getElem?_set_self hk]
  rfl
 ·rw [qgD, List.getElem?_set_ne (fun h => e h.symm), ← qgD]
  exact h i (by omega)
theorem Upto.rep {b : Nat} {xs : List Int} (h : Upto b xs.length xs) : Rep idL b xs := fun i hi => h i hi
def LB (w : World) (base g n cap : Nat) (xs : List Bool) : Prop := Kd.R Kd.bool 4 w base (fun k => k = g) (.slice (some ⟨g, 0, none⟩) n cap) xs
theorem LB.below {w w' : World} {base g n cap : Nat} {xs : List Bool} (h : LB w base g n cap xs) (hb : Below w.heap.size w w') : LB w' base g n cap xs := qrB h hb
theorem LB.of_R {w : World} {base n cap g : Nat} {ok : Nat → Prop} {xs : List Bool} (h : Kd.R Kd.bool 4 w base ok (.slice (some ⟨g, 0, none⟩) n cap) xs) : LB w base g n cap xs := by
 obtain ⟨_, inner, ho, hr⟩ := h
 refine ⟨fun k hk => by simpa [Value.ownBlock] using hk.symm, inner, ho, hr.imp_ (fun _ _ hp => hp)⟩
theorem LB.ltw {w : World} {base g n cap : Nat} {xs : List Bool} (h : LB w base g n cap xs) : g < w.heap.size := by
 obtain ⟨_, _, h2, _⟩ := (Kd.R_bound h).1 g rfl
 exact h2
theorem LB.cell {w : World} {base g n cap : Nat} {xs : List Bool} (h : LB w base g n cap xs) (i : Nat) (hi : i < n) : w.cell? ⟨g, i, none⟩ = some (.bool (xs.getD i false)) := by
 have := (Kd.R_celln false h (i : Int) (by omega) (by omega)).1
 rw [qtN] at this
 refine this.trans ?_
 unfold rdOf
 rw [qtN]
def stray1 (i : Nat) : S45 := ⟨⟨(i : Int) - 1, (i : Int) + 1⟩, ⟨0, 0⟩⟩
theorem stray1_lk {i : Nat} (h : 1 ≤ i) : lkOf (stray1 i) = ⟨i - 1, i + 1, 0, 0⟩ := by
 unfold lkOf stray1
 dsimp only
 rw [show ((i : Int) - 1).toNat = i - 1 by omega, show ((i : Int) + 1).toNat = i + 1 by omega]
 rfl
theorem stray1_nn {i : Nat} (h : 1 ≤ i) : NonNeg (stray1 i) := ⟨by show 0 ≤ (i : Int) - 1; omega, by show 0 ≤ (i : Int) + 1; omega, Int.le_refl 0, Int.le_refl 0⟩
abbrev AL (w : World) (base g1 g2 gh : Nat) (v : Value) (al : List S45) : Prop := Kd.R k45 36 w base (fun k => (k ≠ g1 ∧ k ≠ g2) ∧ k ≠ gh) v al
def aheadS (L : List Lk) (n : Nat) : List S45 := if 0 < firstF L n ∧ firstF L n < n then [⟨⟨0, (firstF L n : Int) + 1⟩, ⟨0, 0⟩⟩] else []
theorem aheadS_lk (L : List Lk) (n : Nat) : (aheadS L n).map lkOf = aheadL L n := by
 unfold aheadS aheadL
 split
 ·rw [List.map_cons, List.map_nil]
  unfold lkOf
  dsimp only
  rw [show ((firstF L n : Int) + 1).toNat = firstF L n + 1 by omega]
  rfl
 ·rfl
theorem aheadS_nn (L : List Lk) (n : Nat) : ∀ x ∈ aheadS L n, NonNeg x := by
 intro x hx
 unfold aheadS at hx
 split at hx
 ·rw [List.mem_singleton.1 hx]
  exact ⟨Int.le_refl 0, by show 0 ≤ (firstF L n : Int) + 1; omega, Int.le_refl 0, Int.le_refl 0⟩
 ·cases hx
theorem aheadS_len (L : List Lk) (n : Nat) : (aheadS L n).length ≤ 1 := by
 unfold aheadS
 split <;> simp
theorem linkOk_in {n m : Nat} {x : S45} (h : LinkOk n m x) : LkIn n m (lkOf x) := by
 have := h.a0; have := h.ab; have := h.bn; have := h.c0; have := h.cd; have := h.dm
 unfold lkOf
 exact ⟨by dsimp only; omega, by dsimp only; omega, fun _ => by dsimp only; omega⟩
theorem linkOk_out {n m : Nat} {x : S45} (h : LinkOk n m x) : (lkOf x).c < (lkOf x).d := by
 have := h.c0; have := h.cd
 unfold lkOf
 dsimp only
 omega
def toS (x : Clu) : S45 := ⟨⟨(x.1.1 : Nat), (x.1.2 : Nat)⟩, ⟨(x.2.1 : Nat), (x.2.2 : Nat)⟩⟩
def cluS (n m : Nat) (L : Lab) (k : Nat) : List S45 := (cluTo n m L k).map toS
theorem cluS_yes {n m : Nat} {L : Lab} {k : Nat} (h : k = 0 ∨ L k ≠ L (k - 1)) : cluS n m L (k + 1) = cluS n m L k ++ [toS (hullL L 0 (L k) n, hullL L n (L k) m)] := by
 unfold cluS
 rw [cluTo_add, if_pos h, List.map_append]
 rfl
theorem cluS_no {n m : Nat} {L : Lab} {k : Nat} (h : ¬ (k = 0 ∨ L k ≠ L (k - 1))) : cluS n m L (k + 1) = cluS n m L k := by
 unfold cluS
 rw [cluTo_add, if_neg h, List.append_nil]
theorem cluS_len (n m : Nat) (L : Lab) (k : Nat) : (cluS n m L k).length ≤ k := by
 induction k with
 | zero => exact qlR _
 | succ k ih =>
  by_cases h : k = 0 ∨ L k ≠ L (k - 1)
  ·rw [cluS_yes h, List.length_append]; simp; exact ih
  ·rw [cluS_no h]; omega
end CFin
end
section
namespace CFin
open U PClusterFinest UFinest UFinEv
attribute [local go_sem] max2_int min2_int max_two min_two
theorem find_c {w : World} {base g N cap : Nat} {p : List Int} {r : Lab} (h : LI w base g N cap p) (hp : PF N r p) (hN : N ≤ 1000000) (i : Nat) (hi : i < N) :
 Calls Tryz.prog 253 #[.slice (some ⟨g, 0, none⟩) N cap, .int .i64 i] w fun e w' => ∃ p', e = .returned (.int .i64 (r i : Nat)) ∧ LI w' base g N cap p' ∧ PF N r p' ∧ w.grownBy w' (some g) := by
 have HV := aMk h
 have HP := aMk hp
 clear h hp
 go_enter Tryz.func253, Tryz.ntmps253
 go_wp2_with fail
 go_loopw [1] (fun v wr => ∃ (j : Nat) (p : List Int), v = .int .i64 j ∧ j < N ∧ Aside0 (r j = r i) ∧ Aside0 (LI wr base g N cap p) ∧ Aside0 (PF N r p) ∧ Aside0 (w.grownBy wr (some g))) (fun v _ => (intOf v).toNat)
 case atStart => exact ⟨i, p, rfl, hi, ⟨rfl⟩, HV, HP, ⟨World.grownBy.refl _ _⟩⟩
 case round =>
  clear HV HP
  obtain ⟨j, p, rfl, hj, HRR, HV, HP, HG⟩ := hrel
  have hjN : (j : Int) < (N : Int) := by omega
  by_cases hr : p.getD j 0 = (j : Int)
  ·obtain ⟨hc, hf⟩ := HV.out.cell j hj
   rw [hr] at hc
   have HRT := aMk (HP.out.root hj hr)
   clear hr
   go_wp2_with fail
   go_ret
   have hri : r i = j := HRR.out.symm.trans HRT.out
   exact ⟨p, by rw [hri]; rfl, HV.out, HP.out, HG.out⟩
  ·obtain ⟨q, hq, hlt, hqr⟩ := HP.out.up hj hr
   obtain ⟨q2, hq2, hle2, hqr2, _⟩ := HP.out q (by omega)
   obtain ⟨hc, hf⟩ := HV.out.cell j hj
   obtain ⟨hc2, hf2⟩ := HV.out.cell q (by omega)
   rw [hq] at hc
   rw [hq2] at hc2
   have HH := aMk (HP.out.half HV.out.len.symm hj hq hq2)
   have HP2 := aMk (HV.out.put j (q2 : Int))
   have HR2 := aMk (hqr2.trans hqr)
   have hne : ¬ (q : Int) = (j : Int) := by omega
   have hqN : (q : Int) < (N : Int) := by omega
   clear hr hq hq2 hqr hqr2 HV HP
   go_wp2_with fail
   exact ⟨⟨q2, _, rfl, by omega, ⟨HR2.out.trans HRR.out⟩, HP2, HH, ⟨qgT HG.out (grown_set _ _ _ _)⟩⟩, by simp [intOf]; omega⟩
theorem LI.grown {w w' : World} {base g n cap g' : Nat} {xs : List Int} (h : LI w base g n cap xs) (hg : w.grownBy w' (some g')) (hne : g ≠ g') : LI w' base g n cap xs :=
 Kd.R_grown h hg (fun k hk e => hne (by rw [← hk]; exact qoI e))
theorem join_c {w : World} {base g N cap : Nat} {p : List Int} {r : Lab} (h : LI w base g N cap p) (hp : PF N r p) (ho : LabOk N r) (hN : N ≤ 1000000) (a b : Nat) (ha : a < N) (hb : b < N) :
 Calls Tryz.prog 251 #[.slice (some ⟨g, 0, none⟩) N cap, .int .i64 a, .int .i64 b] w fun e w' => ∃ p', e = .returned (.bool (two r a b)) ∧ LI w' base g N cap p' ∧ PF N (merge r a b) p' ∧ w.grownBy w' (some g) := by
 have HV := aMk h
 have HP := aMk hp
 clear h hp
 have h1 := ho.le a ha
 have h2 := ho.le b hb
 have HO := aMk ho; clear ho
 go_enter Tryz.func251, Tryz.ntmps251
 by_cases hab : r a = r b
 ·have ht := aMk (two_false hab)
  have hm := aMk (merge_same r a b hab)
  have HAB := aMk hab; clear hab
  go_wp2_with (first | (go_at_call 253; refine (find_c HV.out HP.out hN a ha).mono ?_; rintro e w1 ⟨p1, rfl, a1, a2, a3⟩; have HV1 := aMk a1; have HP1 := aMk a2; have HG1 := aMk a3; clear a1 a2 a3 HV HP) | (go_at_call 253; refine (find_c HV1.out HP1.out hN b hb).mono ?_; rintro e w2 ⟨p2, rfl, a1, a2, a3⟩; rw [← HAB.out]; have HV2 := aMk a1; have HP2 := aMk a2; have HG2 : Aside0 (w.grownBy w2 (some g)) := ⟨qgT HG1.out a3⟩; clear a1 a2 a3 HV1 HP1))
  go_ret
  exact ⟨p2, by rw [ht.out]; rfl, HV2.out, by rw [hm.out]; exact HP2.out, HG2.out⟩
 ·have ht := aMk (two_true hab)
  have HAB := aMk hab
  obtain ⟨x, hx⟩ : ∃ x, x = r a := ⟨_, rfl⟩
  obtain ⟨y, hy⟩ : ∃ y, y = r b := ⟨_, rfl⟩
  have hxy : ¬ (x : Int) = (y : Int) := by omega
  have HX := aMk hx
  have HY := aMk hy
  have hxN : x < N := by omega
  have hyN : y < N := by omega
  clear hab hx hy
  go_upto_region 4 with (first | (go_at_call 253; refine (find_c HV.out HP.out hN a ha).mono ?_; rintro e w1 ⟨p1, rfl, a1, a2, a3⟩; rw [← HX.out]; have HV1 := aMk a1; have HP1 := aMk a2; have HG1 := aMk a3; clear a1 a2 a3 HV HP) | (go_at_call 253; refine (find_c HV1.out HP1.out hN b hb).mono ?_; rintro e w2 ⟨p2, rfl, a1, a2, a3⟩; rw [← HY.out]; have HV2 := aMk a1; have HP2 := aMk a2; have HG2 : Aside0 (w.grownBy w2 (some g)) := ⟨qgT HG1.out a3⟩; clear a1 a2 a3 HV1 HP1))
  by_cases hlt : (x : Int) < (y : Int)
  ·have hc0 := HV2.out.cell y hyN
   obtain ⟨hc, hf⟩ := hc0
   have HP3 := aMk (HV2.out.put y (x : Int))
   have HQ3 : Aside0 (PF N (merge r a b) (p2.set y (x : Int))) := ⟨by
    have h := HP2.out.join HO.out HV2.out.len.symm a b ha hb HAB.out
    rw [← HX.out, ← HY.out, show max x y = y by omega, show min x y = x by omega] at h
    exact h⟩
   have hI : (y : Int) < (N : Int) := by omega
   have hJ : ¬ (y : Int) < (x : Int) := by omega
   clear HV2 HP2
   go_wp2_with fail
   go_ret
   exact ⟨by rw [ht.out]; rfl, _, HP3.out, HQ3.out, qgT HG2.out (grown_set _ _ _ _)⟩
  ·have hlt2 : (y : Int) < (x : Int) := by omega
   have hc0 := HV2.out.cell x hxN
   obtain ⟨hc, hf⟩ := hc0
   have HP3 := aMk (HV2.out.put x (y : Int))
   have HQ3 : Aside0 (PF N (merge r a b) (p2.set x (y : Int))) := ⟨by
    have h := HP2.out.join HO.out HV2.out.len.symm a b ha hb HAB.out
    rw [← HX.out, ← HY.out, show max x y = x by omega, show min x y = y by omega] at h
    exact h⟩
   have hI : (x : Int) < (N : Int) := by omega
   have hJ : ¬ (x : Int) < (y : Int) := by omega
   clear HV2 HP2
   go_wp2_with fail
   go_ret
   exact ⟨by rw [ht.out]; rfl, _, HP3.out, HQ3.out, qgT HG2.out (grown_set _ _ _ _)⟩
end CFin
namespace CFin
open U PClusterFinest UFinest UFinEv
theorem labOk_allF {N : Nat} {r : Lab} (h : LabOk N r) (base k : Nat) (hb : base + k < N) : LabOk N (allF r base k) := by
 induction k with
 | zero => exact h
 | succ k ih => exact (ih (by omega)).merge _ _ (by omega) (by omega)
def WV (w : World) (B g n m N cap : Nat) : Prop := w.heap[B]? = some (.cells #[.slice (some ⟨g, 0, none⟩) N cap, .int .i64 n, .int .i64 m] 217 (0, 0))
theorem WV.below {w w' : World} {B g n m N cap : Nat} (h : WV w B g n m N cap) (hb : Below w.heap.size w w') : WV w' B g n m N cap := (hb.block _ (blk_lt h)).trans h
theorem WV.grown {w w' : World} {B g g' n m N cap : Nat} (h : WV w B g n m N cap) (hg : w.grownBy w' (some g')) (hne : B ≠ g') : WV w' B g n m N cap := (hg.block _ (blk_lt h) (fun e => hne (qoI e))).trans h
theorem WV.c0 {w : World} {B g n m N cap : Nat} (h : WV w B g n m N cap) : w.cell? ⟨B, 0, none⟩ = some (.slice (some ⟨g, 0, none⟩) N cap) := (blk_cell h 0).trans rfl
theorem WV.c1 {w : World} {B g n m N cap : Nat} (h : WV w B g n m N cap) : w.cell? ⟨B, 1, none⟩ = some (.int .i64 n) := (blk_cell h 1).trans rfl
theorem WV.c2 {w : World} {B g n m N cap : Nat} (h : WV w B g n m N cap) : w.cell? ⟨B, 2, none⟩ = some (.int .i64 m) := (blk_cell h 2).trans rfl
theorem below_grownBy {w w' : World} (h : Below w.heap.size w w') (row : Option Nat) : w.grownBy w' row := ⟨h.os, h.tape, h.output, h.size, fun k hk _ => h.block k hk⟩
theorem all_c {w : World} {base B g n m N cap : Nat} {p : List Int} {r : Lab} (hW : WV w B g n m N cap) (h : LI w base g N cap p) (hne : B ≠ g) (hp : PF N r p) (ho : LabOk N r) (hN : N ≤ 1000000) (lo hi by_ : Nat) (hlh : lo < hi) (hh : by_ + hi ≤ N) :
 Calls Tryz.prog 250 #[.pointer (some ⟨B, 0, none⟩), .agg #[.int .i64 lo, .int .i64 hi], .int .i64 by_] w fun e w' => e = .returned (.tuple #[]) ∧ ∃ p', LI w' base g N cap p' ∧ PF N (allF r (by_ + lo) (hi - lo - 1)) p' ∧ w.grownBy w' (some g) := by
 have HW := aMk hW
 have HV := aMk h
 have HP := aMk hp
 have HO := aMk ho
 have hgw := h.ltw
 have e1 : IntKind.i64.wrap ((lo : Int) + 1) = ((lo + 1 : Nat) : Int) := by rw [IntWalk.i64_in _ (by omega)]; omega
 clear hW h hp ho
 go_enter Tryz.func250, Tryz.ntmps250
 go_wp2_with (first | ((with_reducible refine gate_dst (N := 4) rfl ?_); refine box_event ?hg (N := 4) ?hd (cs := #[.int .i64 lo, .int .i64 hi]) (t := 34) ?hr ?_; (case hd => rfl); (case hg => rfl); (case hr => go_simp; done); intro gb hg w5 hbox hb; have HW5 := aMk (HW.out.below hb); have HV5 := aMk (HV.out.below hb); have HX := aMk hbox; have HGB := aMk hg; have HG5 := aMk (below_grownBy hb (some g)); have b0 : w5.cell? ⟨gb, 0, none⟩ = some (.int .i64 lo) := (blk_cell hbox 0).trans rfl; have b1 : w5.cell? ⟨gb, 1, none⟩ = some (.int .i64 hi) := (blk_cell hbox 1).trans rfl; clear hg hbox hb HW HV))
 clear b0 b1
 have HGN : Aside0 (gb ≠ g) := ⟨by have := HGB.out; omega⟩
 go_loopw [6] (fun v wr => ∃ (j : Nat) (p : List Int), v = .int .i64 j ∧ lo + 1 ≤ j ∧ j ≤ hi ∧ Aside0 (WV wr B g n m N cap) ∧ Aside0 (LI wr base g N cap p) ∧ Aside0 (PF N (allF r (by_ + lo) (j - lo - 1)) p) ∧ Aside0 (wr.heap[gb]? = some (.cells #[.int .i64 lo, .int .i64 hi] 34 (0, 0))) ∧ Aside0 (w.grownBy wr (some g))) (fun v _ => hi - (intOf v).toNat)
 case atStart => exact ⟨lo + 1, p, rfl, qlR _, hlh, HW5, HV5, ⟨by rw [show lo + 1 - lo - 1 = 0 by omega]; exact HP.out⟩, HX, HG5⟩
 case round =>
  clear HW5 HV5 HP HX HG5
  obtain ⟨j, p, rfl, hj1, hj2, HW, HV, HP, HX, HG⟩ := hrel
  have b0 := (blk_cell HX.out 0).trans rfl
  have b1 := (blk_cell HX.out 1).trans rfl
  have d0 := HW.out.c0
  by_cases hlt : j < hi
  ·have hjI : (j : Int) < (hi : Int) := by omega
   obtain ⟨a, ha⟩ : ∃ a, a = by_ + lo := ⟨_, rfl⟩
   obtain ⟨b, hb⟩ : ∃ b, b = by_ + j := ⟨_, rfl⟩
   have e2 : IntKind.i64.wrap ((by_ : Int) + (lo : Int)) = (a : Int) := by rw [IntWalk.i64_in _ (by omega)]; omega
   have e3 : IntKind.i64.wrap ((by_ : Int) + (j : Int)) = (b : Int) := by rw [IntWalk.i64_in _ (by omega)]; omega
   have haN : a < N := by omega
   have hbN : b < N := by omega
   have HA := aMk ha
   have HB := aMk hb
   clear ha hb
   go_wp2_with fail
   go_still_tail 11, (by kernel_rfl)
   repeat still_step
   have HWd : Aside0 (WV wr.drew B g n m N cap) := ⟨HW.out⟩
   have HVd : Aside0 (LI wr.drew base g N cap p) := ⟨qrD HV.out⟩
   go_wp2_with (go_at_call 251; refine (join_c HVd.out HP.out (labOk_allF HO.out _ _ (by omega)) hN a b haN hbN).mono ?_; rintro e w6 ⟨p1, rfl, a1, a2, a3⟩; have HV6 := aMk a1; have HP6 : Aside0 (PF N (allF r (by_ + lo) (j + 1 - lo - 1)) p1) := ⟨by rw [HA.out, HB.out] at a2; rw [show j + 1 - lo - 1 = (j - lo - 1) + 1 by omega]; have e : by_ + lo + (j - lo - 1) + 1 = by_ + j := (by omega); show PF N (merge (allF r (by_ + lo) (j - lo - 1)) (by_ + lo) (by_ + lo + (j - lo - 1) + 1)) p1; rw [e]; exact a2⟩; have HG6 := aMk a3; clear a1 a2 a3)
   have HGd : Aside0 (wr.grownBy w6 (some g)) := ⟨qgT (below_grownBy (below_drew (qBr _ _)) _) HG6.out⟩
   exact ⟨⟨j + 1, p1, by go_num, by omega, by omega, ⟨HW.out.grown HGd.out hne⟩, HV6, HP6, ⟨(HGd.out.block _ (blk_lt HX.out) (fun e => HGN.out (qoI e))).trans HX.out⟩, ⟨qgT HG.out HGd.out⟩⟩, by simp [intOf]; omega⟩
  ·have ej : j = hi := by omega
   subst ej
   go_wp2_with fail
   go_end0
   exact ⟨rfl, p, HV.out, HP.out, HG.out⟩
end CFin
namespace CFin
open U PClusterFinest UFinest UFinEv
theorem link_c {w : World} {base B g n m N cap : Nat} {p : List Int} {r : Lab} (hW : WV w B g n m N cap) (h : LI w base g N cap p) (hne : B ≠ g) (hp : PF N r p) (ho : LabOk N r) (hN : N ≤ 1000000) (x : Lk) (hab : x.a < x.b) (hbn : x.b ≤ n) (hcd : x.c < x.d) (hdm : x.d ≤ m) (hnm : n + m = N) :
 Calls Tryz.prog 190 #[.pointer (some ⟨B, 0, none⟩), .agg #[.int .i64 x.a, .int .i64 x.b, .int .i64 x.c, .int .i64 x.d]] w fun e w' => e = .returned (.tuple #[]) ∧ ∃ p', LI w' base g N cap p' ∧ PF N (linkF n r x) p' ∧ w.grownBy w' (some g) := by
 have HW := aMk hW
 have HV := aMk h
 have HP := aMk hp
 have HO := aMk ho
 have hgw := h.ltw
 obtain ⟨a, b, c, d⟩ := x
 dsimp only at hab hbn hcd hdm
 have HO1 := aMk (labOk_allF ho a (b - a - 1) (by omega))
 have HO2 := aMk (labOk_allF HO1.out (n + c) (d - c - 1) (by omega))
 clear hW h hp ho
 dsimp only
 go_enter Tryz.func190, Tryz.ntmps190
 go_wp2_with (first | ((with_reducible refine gate_dst (N := 3) rfl ?_); refine box_event ?hg (N := 3) ?hd (cs := #[.int .i64 a, .int .i64 b, .int .i64 c, .int .i64 d]) (t := 36) ?hr ?_; (case hd => rfl); (case hg => rfl); (case hr => go_simp; done); intro gb hg w5 hbox hb; have HW5 := aMk (HW.out.below hb); have HV5 := aMk (HV.out.below hb); have HX := aMk hbox; have HGB := aMk hg; have HG5 := aMk (below_grownBy hb (some g)); have b0 : w5.cell? ⟨gb, 0, none⟩ = some (.int .i64 a) := (blk_cell hbox 0).trans rfl; have b1 : w5.cell? ⟨gb, 1, none⟩ = some (.int .i64 b) := (blk_cell hbox 1).trans rfl; clear hg hbox hb HW HV) | (go_at_call 250; refine (all_c (lo := a) (hi := b) (by_ := 0) HW5.out HV5.out hne HP.out HO.out hN hab (by omega)).mono ?_; rintro e w6 ⟨rfl, p1, a1, a2, a3⟩; have HV6 := aMk a1; have HP6 : Aside0 (PF N (allF r a (b - a - 1)) p1) := ⟨by rw [Nat.zero_add] at a2; exact a2⟩; have HW6 := aMk (HW5.out.grown a3 hne); have HX6 : Aside0 (w6.heap[gb]? = _) := ⟨(a3.block _ (blk_lt HX.out) (fun e => by have := HGB.out; have := qoI e; omega)).trans HX.out⟩; have HG6 : Aside0 (w.grownBy w6 (some g)) := ⟨qgT HG5.out a3⟩; clear a1 a2 a3 HW5 HV5 HX HG5 HP b0 b1))
 have q2 : w6.cell? ⟨gb, 2, none⟩ = some (.int .i64 c) := (blk_cell HX6.out 2).trans rfl
 have q3 : w6.cell? ⟨gb, 3, none⟩ = some (.int .i64 d) := (blk_cell HX6.out 3).trans rfl
 have d1 := HW6.out.c1
 go_still_tail 7, (by kernel_rfl)
 repeat still_step
 have HWd : Aside0 (WV w6.drew B g n m N cap) := ⟨HW6.out⟩
 have HVd : Aside0 (LI w6.drew base g N cap p1) := ⟨qrD HV6.out⟩
 clear q2 q3 d1
 go_wp2_with (go_at_call 250; refine (all_c (lo := c) (hi := d) (by_ := n) HWd.out HVd.out hne HP6.out HO1.out hN hcd (by omega)).mono ?_; rintro e w7 ⟨rfl, p2, a1, a2, a3⟩; have HV7 := aMk a1; have HP7 := aMk a2; have HW7 := aMk (HWd.out.grown a3 hne); have hgd : w6.grownBy w7 (some g) := qgT (below_grownBy (below_drew (qBr _ _)) _) a3; have HX7 : Aside0 (w7.heap[gb]? = _) := ⟨(hgd.block _ (blk_lt HX6.out) (fun e => by have := HGB.out; have := qoI e; omega)).trans HX6.out⟩; have HG7 : Aside0 (w.grownBy w7 (some g)) := ⟨qgT HG6.out hgd⟩; clear a1 a2 a3 hgd HWd HVd HW6 HV6 HX6 HG6 HP6)
 have q0 : w7.cell? ⟨gb, 0, none⟩ = some (.int .i64 a) := (blk_cell HX7.out 0).trans rfl
 have q2 : w7.cell? ⟨gb, 2, none⟩ = some (.int .i64 c) := (blk_cell HX7.out 2).trans rfl
 have d0 := HW7.out.c0
 have d1 := HW7.out.c1
 obtain ⟨k, hk⟩ : ∃ k, k = n + c := ⟨_, rfl⟩
 have e2 : IntKind.i64.wrap ((n : Int) + (c : Int)) = (k : Int) := by rw [IntWalk.i64_in _ (by omega)]; omega
 have hkN : k < N := by omega
 have haN : a < N := by omega
 have HK := aMk hk; clear hk
 go_still_tail 15, (by kernel_rfl)
 repeat still_step
 have HVd : Aside0 (LI w7.drew base g N cap p2) := ⟨qrD HV7.out⟩
 clear q0 q2 d0 d1
 go_wp2_with (go_at_call 251; refine (join_c HVd.out HP7.out HO2.out hN a k haN hkN).mono ?_; rintro e w8 ⟨p3, rfl, a1, a2, a3⟩; have HV8 := aMk a1; have HP8 : Aside0 (PF N (linkF n r ⟨a, b, c, d⟩) p3) := ⟨by rw [HK.out] at a2; exact a2⟩; have HG8 : Aside0 (w.grownBy w8 (some g)) := ⟨qgT HG7.out (qgT (below_grownBy (below_drew (qBr _ _)) _) a3)⟩; clear a1 a2 a3)
 go_end0
 exact ⟨rfl, p3, HV8.out, HP8.out, HG8.out⟩
end CFin
namespace CFin
open U PClusterFinest UFinest UFinEv
theorem alone_c {w : World} (n : Nat) (hn : n ≤ 1000000) :
 Calls Tryz.prog 189 #[.int .i64 n] w fun e w' => ∃ (g cap : Nat) (p : List Int), e = .returned (.slice (some ⟨g, 0, none⟩) n cap) ∧ LI w' w.heap.size g n cap p ∧ PF n idL p ∧ Below w.heap.size w w' := by
 go_enter Tryz.func189, Tryz.ntmps189
 go_wp2_with (first | ((with_reducible refine gate_dst (N := 6) rfl ?_); refine Kd.R_make (Kd.int .i64) (w0 := w) w.heap.size 3 rfl (N := 6) rfl 214 _ _ rfl n rfl rfl Tryz.underlying214 (.int .i64 0) 8 info3 rfl (by decide) (by omega) 0 (ok := fun _ => True) (okp := fun _ => True) rfl (fun _ hk => hk) trivial (by omega) (by omega) (qBr _ _) (qlR _) ?_; intro v w1 hv hb hg hnew; obtain ⟨g, cap, ev, hgo⟩ := R_form hv (hnew.imp fun _ h => h.1); subst ev; rw [qlr, qtN] at hv ⊢; have HV := aMk (LI.of_R hv); have HB := aMk hb; clear hv hb hg hnew hgo))
 go_loopw [9] (fun v wr => ∃ (k : Nat) (xs : List Int), v = .int .i64 k ∧ k ≤ n ∧ Aside0 (xs.length = n) ∧ Aside0 (Upto 0 k xs) ∧ Aside0 (LI wr w.heap.size g n cap xs) ∧ Aside0 (Below w.heap.size w wr)) (fun v _ => n - (intOf v).toNat)
 case atStart => exact ⟨0, List.replicate n 0, rfl, Nat.zero_le _, ⟨qlr ..⟩, ⟨fun i hi => absurd hi (Nat.not_lt_zero i)⟩, HV, HB⟩
 case round =>
  clear HV HB
  obtain ⟨k, xs, rfl, hk, HXL, HUP, HV, HB⟩ := hrel
  by_cases hlt : k < n
  ·obtain ⟨hy, hz⟩ := HV.out.cell k hlt
   have HP := aMk (HV.out.put k (k : Int))
   have HU : Aside0 (Upto 0 (k + 1) (xs.set k (k : Int))) := ⟨by have := HUP.out.set (by rw [HXL.out]; exact hlt); rwa [Nat.zero_add] at this⟩
   have HXL2 : Aside0 ((xs.set k (k : Int)).length = n) := ⟨by rw [List.length_set]; exact HXL.out⟩
   have HGE := aMk HV.out.lt
   clear HV HUP
   have hkI : (k : Int) < (n : Int) := by omega
   go_wp2_with fail
   exact ⟨⟨k + 1, _, by go_num, by omega, HXL2, HU, HP, ⟨HB.out.setCell (p := ⟨g, k, none⟩) HGE.out _⟩⟩, by simp [intOf]; omega⟩
  ·have ek : k = n := by omega
   subst ek
   go_wp2_with fail
   go_ret
   exact ⟨g, cap, xs, rfl, HV.out, PF.id (fun i hi => by have := HUP.out i hi; rwa [Nat.zero_add] at this), HB.out⟩
end CFin
namespace CFin
open U PClusterFinest UFinest UFinEv
theorem index_loop (P : Nat → Bool) (b : List Bool) (hb : RepB P b) (hl : b.length ≤ 1000000) (d : Nat) : ∀ i : Nat, i + d = b.length → (∀ j, j < i → P j = false) → (List.range b.length).findIdx P < b.length →
 Ev (fun k => slices_Index_bool_bool.l0 k b true (b.length : Int) (i : Int)) (((List.range b.length).findIdx P : Nat) : Int) := by
 induction d with
 | zero =>
  intro i hd hf hlt
  exfalso
  have h := List.findIdx_getElem (xs := List.range b.length) (p := P) (w := by simpa using hlt)
  rw [List.getElem_range] at h
  rw [hf _ (by omega)] at h
  cases h
 | succ d ih =>
  intro i hd hf hfl
  have hlt : i < b.length := by omega
  refine Ev.step (fun k => by rw [slices_Index_bool_bool.l0]) (ev_pos (by omega) (ev_pos (by omega) (ev_pos (by omega) ?_)))
  rw [rdB, hb i hlt]
  by_cases hp : P i = true
  ·have hfi : (List.range b.length).findIdx P = i := by
    rw [List.findIdx_eq (by simpa using hlt)]
    refine ⟨by simpa using hp, fun j hj => ?_⟩
    simp [hf j hj]
   rw [hfi]
   exact ev_pos (by rw [hp]; rfl) (ev_now _)
  ·have hpf : P i = false := by simpa using hp
   refine ev_neg (by rw [hpf]; decide) ?_
   rw [w64 (by omega) (by omega), show (i : Int) + 1 = ((i + 1 : Nat) : Int) by omega]
   exact ih (i + 1) (by omega) (fun j hj => by
    by_cases hji : j = i
    ·subst hji; exact hpf
    ·exact hf j (by omega)) hfl
theorem index_c (n : Nat) {w : World} {base g cap : Nat} {L : List Lk} {b : List Bool} (h : LB w base g n cap b) (hl : b.length = n) (hn : n ≤ 1000000) (hb : RepB (linkedB L) b) (hf : firstF L n < n) :
 Calls Tryz.prog 252 #[.slice (some ⟨g, 0, none⟩) n cap, .bool true] w fun e w' => e = .returned (.int .i64 (firstF L n : Nat)) ∧ Drawn0 w w' := by
 obtain ⟨_, hc, hC⟩ := Kd.R_reads' h
 subst hl
 have he : Ev (fun k => slices_Index_bool_bool.f k b true) ((firstF L b.length : Nat) : Int) := index_loop (linkedB L) b hb hn b.length 0 (by omega) (fun j h => absurd h (Nat.not_lt_zero j)) hf
 obtain ⟨k, hk⟩ := ev_some he
 exact slices_Index_bool_bool.calls k _ cap b true _ w hC hc hk
end CFin
namespace CFin
open U PClusterFinest UFinest UFinEv
theorem drawn0_below {w w' : World} (h : Drawn0 w w') : Below w.heap.size w w' := by
 obtain ⟨q, rfl⟩ := h
 exact qbN (qBr _ _) q
theorem LB.put {w : World} {base g n cap : Nat} {xs : List Bool} (h : LB w base g n cap xs) (i : Nat) (x : Bool) : LB (w.setCell ⟨g, i, none⟩ (.bool x)) base g n cap (xs.set i x) := by
 have := (Kd.R_putg h (i : Int) x).1
 rwa [qtN] at this
theorem LB.fro {w : World} {base g n cap : Nat} {xs : List Bool} (h : LB w base g n cap xs) (i : Nat) (hi : i < n) : w.frozen? ⟨g, i, none⟩ = false := by
 have := (Kd.R_celln false h (i : Int) (by omega) (by omega)).2
 rwa [qtN] at this
theorem LB.other {w : World} {base g n cap : Nat} {xs : List Bool} (h : LB w base g n cap xs) {g' : Nat} (hg : g ≠ g') (i : Nat) (v : Value) : LB (w.setCell ⟨g', i, none⟩ v) base g n cap xs :=
 Kd.R_grown h (grown_set w g' i v) (fun k hk e => hg (by rw [← hk]; exact qoI e))
theorem LB.len {w : World} {base g n cap : Nat} {xs : List Bool} (h : LB w base g n cap xs) : n = xs.length := (Kd.R_reads' h).1
theorem LB.lt {w : World} {base g n cap : Nat} {xs : List Bool} (h : LB w base g n cap xs) : base ≤ g := by
 obtain ⟨_, h2, _, _⟩ := (Kd.R_bound h).1 g rfl
 exact h2
theorem stray_c {w : World} {base B g n m N cap c : Nat} {A : Option Addr} {p : List Int} {r : Lab} {l : List S45} (hW : WV w B g n m N cap) (h : LI w base g N cap p) (hne : B ≠ g) (hp : PF N r p) (ho : LabOk N r) (hN : N ≤ 100000) (hnm : n + m = N) (hm : 0 < m)
 (hC : Kd.C k45 w A l.length l) (hl : l.length ≤ 5000) (hlk : ∀ x ∈ l, LinkOk n m x) (hf : firstF (l.map lkOf) n < n) :
 Calls Tryz.prog 191 #[.pointer (some ⟨B, 0, none⟩), .slice A l.length c] w fun e w' => e = .returned (.tuple #[]) ∧ ∃ p', LI w' base g N cap p' ∧ PF N (strayF (l.map lkOf) n r n) p' ∧ w.grownBy w' (some g) := by
 have HW := aMk hW
 have HV := aMk h
 have HP := aMk hp
 have HO := aMk ho
 have HC := aMk hC
 have HLK := aMk hlk
 have HF := aMk hf
 have hgw := h.ltw
 have d1 := hW.c1
 clear hW h hp ho hC hlk hf
 go_enter Tryz.func191, Tryz.ntmps191
 go_wp2_with (first | ((with_reducible refine gate_dst (N := 14) rfl ?_); refine Kd.R_make Kd.bool (w0 := w) w.heap.size 4 rfl (N := 14) rfl 41 _ _ rfl n rfl rfl Tryz.underlying41 (.bool false) 1 info4 rfl (by decide) (by omega) false (ok := fun _ => True) (okp := fun _ => True) rfl (fun _ hk => hk) trivial (by omega) (by omega) (qBr _ _) (qlR _) ?_; intro v w1 hv hb hg hnew; obtain ⟨gl, capl, ev, hgo⟩ := R_form hv (hnew.imp fun _ h => h.1); subst ev; rw [qlr, qtN] at hv ⊢; have HB0 := aMk (LB.of_R hv); have HB := aMk hb; clear hv hb hg hnew hgo d1))
 go_loopw [17] (fun v wr => ∃ (k : Nat) (bs : List Bool), v = .int .i64 k ∧ k ≤ l.length ∧ Aside0 (RepB (linkedB ((l.take k).map lkOf)) bs) ∧ Aside0 (LB wr w.heap.size gl n capl bs) ∧ Aside0 (Below w.heap.size w wr)) (fun v _ => l.length - (intOf v).toNat)
 case atStart => exact ⟨0, List.replicate n false, rfl, Nat.zero_le _, ⟨fun i hi => by simp at hi; simp [linkedB, qgD, List.getElem?_replicate, hi]⟩, HB0, HB⟩
 case round =>
  clear HB0 HB
  obtain ⟨k, bs, rfl, hk, HR, HB0, HB⟩ := hrel
  by_cases hlt : k < l.length
  ·have hx := HLK.out _ (List.getElem_mem hlt)
   obtain ⟨ad, ead, c0, c1, c2, c3⟩ := at_T45 (Kd.C_below HC.out HB.out) (k : Int) (by omega) (by omega)
   rw [rd45 hlt, qtN] at c0 c1 c2 c3
   have ha0 := hx.a0; have hab := hx.ab; have hbn := hx.bn
   obtain ⟨lo, hlo⟩ : ∃ lo : Nat, l[k].f0.f0 = (lo : Int) := ⟨l[k].f0.f0.toNat, by omega⟩
   obtain ⟨hi, hhi⟩ : ∃ hi : Nat, l[k].f0.f1 = (hi : Int) := ⟨l[k].f0.f1.toNat, by omega⟩
   rw [hlo] at c0
   rw [hhi] at c1
   generalize hx3 : l[k].f1.f0 = x3 at c2
   generalize hx4 : l[k].f1.f1 = x4 at c3
   have HLO := aMk hlo
   have HHI := aMk hhi
   have hlh : lo < hi := by omega
   have hhn : hi ≤ n := by omega
   have HEA := aMk ead
   subst ead
   clear hx ha0 hab hbn hlo hhi hx3 hx4
   have hkI : (k : Int) < (l.length : Int) := by omega
   go_wp2_with (first | ((with_reducible refine gate_dst (N := 6) rfl ?_); refine box_event ?hg (N := 6) ?hd (cs := #[.int .i64 0, .int .i64 0, .int .i64 0, .int .i64 0]) (t := 36) ?hr ?_; (case hd => rfl); (case hg => rfl); (case hr => go_simp; done); intro gb hg w6 hbox hb; have HX6 := aMk hbox; have HGB := aMk hg; have HGW := aMk HB0.out.ltw; have HGX : Aside0 (w.heap.size ≤ gb) := ⟨by rw [hg]; exact HB.out.size⟩; have HB6 : Aside0 (Below w.heap.size w w6) := ⟨qbP HB.out hb⟩; have HB06 := aMk (HB0.out.below hb); have z0 : w6.cell? ⟨gb, 0, none⟩ = some (.int .i64 0) := (blk_cell hbox 0).trans rfl; have z1 : w6.cell? ⟨gb, 1, none⟩ = some (.int .i64 0) := (blk_cell hbox 1).trans rfl; have z2 : w6.cell? ⟨gb, 2, none⟩ = some (.int .i64 0) := (blk_cell hbox 2).trans rfl; have z3 : w6.cell? ⟨gb, 3, none⟩ = some (.int .i64 0) := (blk_cell hbox 3).trans rfl; have f0 := qbF hbox 0; have f1 := qbF hbox 1; have f2 := qbF hbox 2; have f3 := qbF hbox 3; clear hg hbox hb HB HB0))
   have hgl := HB06.out.ltw
   have HNG : Aside0 (gl ≠ gb) := ⟨by have h1 := HGB.out; have h2 := HGW.out; omega⟩
   have HGE : Aside0 (w.heap.size ≤ gb) := ⟨HGX.out⟩
   have HX := aMk (blk_put (blk_put (blk_put (blk_put HX6.out 0 (.int .i64 lo) rfl) 1 (.int .i64 hi) rfl) 2 (.int .i64 x3) rfl) 3 (.int .i64 x4) rfl)
   have HB7 := aMk ((((HB6.out.setCell (p := ⟨gb, 0, none⟩) HGE.out (.int .i64 lo)).setCell (p := ⟨gb, 1, none⟩) HGE.out (.int .i64 hi)).setCell (p := ⟨gb, 2, none⟩) HGE.out (.int .i64 x3)).setCell (p := ⟨gb, 3, none⟩) HGE.out (.int .i64 x4))
   have HB07 := aMk ((((HB06.out.other HNG.out 0 (.int .i64 lo)).other HNG.out 1 (.int .i64 hi)).other HNG.out 2 (.int .i64 x3)).other HNG.out 3 (.int .i64 x4))
   clear z0 z1 z2 z3 f0 f1 f2 f3 HX6 HB6 HB06 hgl c0 c1 c2 c3
   go_loopw [7] (fun v wr => ∃ (t : Nat) (bs : List Bool), v = .int .i64 t ∧ lo ≤ t ∧ t ≤ hi ∧ Aside0 (RepB (fun q => linkedB ((l.take k).map lkOf) q || (decide (lo ≤ q) && decide (q < t))) bs) ∧ Aside0 (LB wr w.heap.size gl n capl bs) ∧ Aside0 (wr.heap[gb]? = some (.cells #[.int .i64 lo, .int .i64 hi, .int .i64 x3, .int .i64 x4] 36 (0, 0))) ∧ Aside0 (Below w.heap.size w wr)) (fun v _ => hi - (intOf v).toNat)
   case atStart => exact ⟨lo, bs, rfl, qlR _, by omega, ⟨fun q hq => by rw [HR.out q hq]; have : (decide (lo ≤ q) && decide (q < lo)) = false := (by simp <;> omega); dsimp only; rw [this, Bool.or_false]⟩, HB07, HX, HB7⟩
   case round =>
    clear HB07 HX HB7 HR
    obtain ⟨t, bs, rfl, ht1, ht2, HR, HB0, HX, HB⟩ := hrel
    have b1 : wr.cell? ⟨gb, 1, none⟩ = some (.int .i64 hi) := (blk_cell HX.out 1).trans rfl
    by_cases hlt2 : t < hi
    ·have hcl := HB0.out.cell t (by omega)
     have hfr := HB0.out.fro t (by omega)
     have HP2 := aMk (HB0.out.put t true)
     have HR2 : Aside0 (RepB (fun q => linkedB ((l.take k).map lkOf) q || (decide (lo ≤ q) && decide (q < t + 1))) (bs.set t true)) := ⟨by
      intro q hq
      rw [repB_set HR.out t (by rw [← HB0.out.len]; omega) q hq]
      dsimp only
      by_cases e : q = t
      ·subst e; simp; omega
      ·have e1 : decide (q = t) = false := qdF e
       have e2 : decide (q < t + 1) = decide (q < t) := by rw [decide_eq_decide]; omega
       rw [e1, e2, Bool.or_false]⟩
     have HX2 : Aside0 ((wr.setCell ⟨gl, t, none⟩ (.bool true)).heap[gb]? = some (.cells #[.int .i64 lo, .int .i64 hi, .int .i64 x3, .int .i64 x4] 36 (0, 0))) := ⟨((grown_set wr gl t (.bool true)).block _ (blk_lt HX.out) (fun e => HNG.out (qoI e).symm)).trans HX.out⟩
     have HGL := aMk HB0.out.lt
     have htI : (t : Int) < (hi : Int) := by omega
     have htn : (t : Int) < (n : Int) := by omega
     clear HR HX HB0
     go_wp2_with fail
     exact ⟨⟨t + 1, _, by go_num, by omega, by omega, HR2, HP2, HX2, ⟨HB.out.setCell (p := ⟨gl, t, none⟩) HGL.out _⟩⟩, by simp [intOf]; omega⟩
    ·have et : t = hi := by omega
     subst et
     have HR3 : Aside0 (RepB (linkedB ((l.take (k + 1)).map lkOf)) bs) := ⟨by
      intro q hq
      rw [HR.out q hq, qtS hlt, List.map_append]
      unfold linkedB
      rw [List.any_append]
      have ea : (lkOf l[k]).a = lo := by unfold lkOf; dsimp only; rw [HLO.out, qtN]
      have eb : (lkOf l[k]).b = t := by unfold lkOf; dsimp only; rw [HHI.out, qtN]
      simp [ea, eb]⟩
     clear HR
     go_wp2_with fail
     exact ⟨⟨k + 1, bs, by go_num, by omega, HR3, HB0, HB⟩, by simp [intOf]; omega⟩
  ·have ek : k = l.length := by omega
   subst ek
   have HR2 : Aside0 (RepB (linkedB (l.map lkOf)) bs) := ⟨by have := HR.out; rwa [List.take_of_length_le (qlR _)] at this⟩
   clear HR
   obtain ⟨f, hfe⟩ : ∃ f, f = firstF (l.map lkOf) n := ⟨_, rfl⟩
   have HFE := aMk hfe; clear hfe
   go_wp2_with (go_at_call 252; refine (index_c n HB0.out HB0.out.len.symm (by omega) HR2.out HF.out).mono ?_; rintro e w3 ⟨rfl, hd⟩; rw [← HFE.out]; have hb3 := drawn0_below hd; have HB3 : Aside0 (Below w.heap.size w w3) := ⟨qbP HB.out hb3⟩; have HB03 := aMk (HB0.out.below hb3); clear hd hb3 HB HB0)
   have HW3 := aMk (HW.out.below HB3.out)
   have HV3 := aMk (HV.out.below HB3.out)
   have HG3 := aMk (below_grownBy HB3.out (some g))
   have HNL : Aside0 (gl ≠ g) := ⟨by have := HB03.out.lt; omega⟩
   go_loopw [39] (fun v wr => ∃ (i : Nat) (p : List Int), v = .int .i64 i ∧ i ≤ n ∧ Aside0 (WV wr B g n m N cap) ∧ Aside0 (LI wr base g N cap p) ∧ Aside0 (PF N (strayF (l.map lkOf) n r i) p) ∧ Aside0 (LabOk N (strayF (l.map lkOf) n r i)) ∧ Aside0 (LB wr w.heap.size gl n capl bs) ∧ Aside0 (w.grownBy wr (some g))) (fun v _ => n - (intOf v).toNat)
   case atStart => exact ⟨0, p, rfl, Nat.zero_le _, HW3, HV3, HP, HO, HB03, HG3⟩
   case round =>
    clear HW3 HV3 HG3 HB03 HW HV HP HO HB3
    obtain ⟨i, p, rfl, hi, HW, HV, HP, HO, HB0, HG⟩ := hrel
    by_cases hlt : i < n
    ·have hcl := HB0.out.cell i hlt
     rw [HR2.out i (by rw [← HB0.out.len]; exact hlt)] at hcl
     have d0 := HW.out.c0
     have hiI : (i : Int) < (n : Int) := by omega
     obtain ⟨b, hb⟩ : ∃ b, b = linkedB (l.map lkOf) i := ⟨_, rfl⟩
     rw [← hb] at hcl
     have HBB := aMk hb; clear hb
     cases b with
     | true =>
      have HST : Aside0 (strayF (l.map lkOf) n r (i + 1) = strayF (l.map lkOf) n r i) := ⟨by show (if linkedB (l.map lkOf) i then _ else _) = _; rw [if_pos HBB.out.symm]⟩
      go_wp2_with fail
      exact ⟨⟨i + 1, p, by go_num, by omega, HW, HV, ⟨by rw [HST.out]; exact HP.out⟩, ⟨by rw [HST.out]; exact HO.out⟩, HB0, HG⟩, by simp [intOf]; omega⟩
     | false =>
      by_cases hfi : f < i
      ·have HST : Aside0 (strayF (l.map lkOf) n r (i + 1) = merge (strayF (l.map lkOf) n r i) (i - 1) i) := ⟨by show (if linkedB (l.map lkOf) i then _ else _) = _; rw [if_neg (by rw [← HBB.out]; simp), if_pos (by rw [← HFE.out]; exact hfi)]⟩
       have hfI : (f : Int) < (i : Int) := by omega
       have e1 : IntKind.i64.wrap ((i : Int) - 1) = ((i - 1 : Nat) : Int) := by rw [IntWalk.i64_in _ (by omega)]; omega
       obtain ⟨j, hj⟩ : ∃ j, j = i - 1 := ⟨_, rfl⟩
       rw [← hj] at e1
       have HJ := aMk hj
       have hjN : j < N := by omega
       have hiN : i < N := by omega
       clear hj
       go_wp2_with (go_at_call 251; refine (join_c HV.out HP.out HO.out (by omega) j i hjN hiN).mono ?_; rintro e w5 ⟨p1, rfl, a1, a2, a3⟩; have HV5 := aMk a1; have HP5 : Aside0 (PF N (strayF (l.map lkOf) n r (i + 1)) p1) := ⟨by rw [HST.out, ← HJ.out]; exact a2⟩; have HG5 := aMk a3; clear a1 a2 a3)
       exact ⟨⟨i + 1, p1, by go_num, by omega, ⟨HW.out.grown HG5.out hne⟩, HV5, HP5, ⟨by rw [HST.out]; exact HO.out.merge _ _ (by omega) hiN⟩, ⟨Kd.R_grown HB0.out HG5.out (fun q hq e => HNL.out (by rw [← hq]; exact qoI e))⟩, ⟨qgT HG.out HG5.out⟩⟩, by simp [intOf]; omega⟩
      ·have HST : Aside0 (strayF (l.map lkOf) n r (i + 1) = merge (strayF (l.map lkOf) n r i) i (i + 1)) := ⟨by show (if linkedB (l.map lkOf) i then _ else _) = _; rw [if_neg (by rw [← HBB.out]; simp), if_neg (by rw [← HFE.out]; exact hfi)]⟩
       have hfI : ¬ (f : Int) < (i : Int) := by omega
       have hfI2 : (i : Int) ≤ (f : Int) := by omega
       have hjN : i + 1 < N := by omega
       have hiN : i < N := by omega
       have e1 : IntKind.i64.wrap ((i : Int) + 1) = ((i + 1 : Nat) : Int) := by rw [IntWalk.i64_in _ (by omega)]; omega
       go_wp2_with (go_at_call 251; refine (join_c HV.out HP.out HO.out (by omega) i (i + 1) hiN hjN).mono ?_; rintro e w5 ⟨p1, rfl, a1, a2, a3⟩; have HV5 := aMk a1; have HP5 : Aside0 (PF N (strayF (l.map lkOf) n r (i + 1)) p1) := ⟨by rw [HST.out]; exact a2⟩; have HG5 := aMk a3; clear a1 a2 a3)
       exact ⟨⟨i + 1, p1, by go_num, by omega, ⟨HW.out.grown HG5.out hne⟩, HV5, HP5, ⟨by rw [HST.out]; exact HO.out.merge _ _ hiN hjN⟩, ⟨Kd.R_grown HB0.out HG5.out (fun q hq e => HNL.out (by rw [← hq]; exact qoI e))⟩, ⟨qgT HG.out HG5.out⟩⟩, by simp [intOf]; omega⟩
    ·have ei : i = n := by omega
     subst ei
     go_wp2_with fail
     go_end0
     exact ⟨rfl, p, HV.out, HP.out, HG.out⟩
end CFin
namespace CFin
open Go.Maps U PClusterFinest UFinest UFinEv
theorem keyed3 : Keyed Tryz.prog 3 := int_keyed Tryz.underlying3
def MV (w : World) (b n : Nat) (f : Nat → Nat) : Prop := ∃ D : DataW Unit, IsMap D ∧ w.ownsMap Tryz.prog 3 (plainElem Tryz.prog 3) b n D ∧ ∀ v : Nat, D.atKey (.int .i64 v) (.lit (.int .i64 0)) = .lit (.int .i64 (f v : Nat))
theorem MV.made (w : World) : MV (w.alloc (.map #[] 0)) w.heap.size 0 (fun _ => 0) := ⟨.map [], isMap_empty, World.ownsMap_made w _ _ _, fun v => rfl⟩
theorem MV.kept {w w' : World} {b n : Nat} {f : Nat → Nat} (h : MV w b n f) {row : Option Nat} (hg : w.grownBy w' row) (hne : some b ≠ row) : MV w' b n f := by
 obtain ⟨D, h1, h2, h3⟩ := h
 exact ⟨D, h1, h2.kept hg hne, h3⟩
theorem key3 (v : Nat) (hv : v ≤ 1000000) : keyOf Tryz.prog 3 (.int .i64 v) = some (.int .i64 v) := by
 simp [keyOf, mapKey, Tryz.underlying3, Lit.wf]
 have : IntKind.i64.min = -9223372036854775808 := by decide
 omega
theorem MV.lookup {w : World} {b n : Nat} {f : Nat → Nat} (h : MV w b n f) (v : Nat) (hv : v ≤ 1000000) (hz : (zeroValue 3).run Tryz.prog w = .ok (.int .i64 0) w) : (Instr.lookup 259 (.map (some b)) (.int .i64 v) false).run Tryz.prog w = .ok (.int .i64 (f v : Nat)) w := by
 obtain ⟨D, h1, h2, h3⟩ := h
 obtain ⟨c, hr, hc, _⟩ := h2.lookup_int keyed3 Tryz.underlying259 Tryz.underlying3 hz (key3 v hv)
 rw [h3 v] at hc
 injection hc with hc
 injection hc with _ hc
 rw [hc]
 exact hr
theorem MV.put {w w' : World} {b n v i : Nat} {f : Nat → Nat} {D : DataW Unit} (h1 : IsMap D) (h3 : ∀ v : Nat, D.atKey (.int .i64 v) (.lit (.int .i64 0)) = .lit (.int .i64 (f v : Nat))) (hv : v ≤ 1000000) (h2 : w'.ownsMap Tryz.prog 3 (plainElem Tryz.prog 3) b (n + 1) (D.put (.int .i64 v) (.lit (.int .i64 i)))) : MV w' b (n + 1) (fun x => if x = v then i else f x) := by
 refine ⟨_, h1.put _ _, h2, fun x => ?_⟩
 by_cases e : x = v
 ·subst e
  rw [atKey_put_same h1 (keyed3.key (key3 x hv))]
  dsimp only
  rw [if_pos rfl]
 ·rw [atKey_put_other (fun h => e (by injection h with _ h; omega))]
  dsimp only
  rw [if_neg e]
  exact h3 x
theorem elem3 (i : Nat) (hi : i ≤ 1000000) : (plainElem Tryz.prog 3 (.int .i64 i) : Option (DataW Unit × List MemPlace)) = some (.lit (.int .i64 i), []) := plainElem_int Tryz.underlying3 (by
 simp [Lit.wf]
 have : IntKind.i64.min = -9223372036854775808 := by decide
 omega)
theorem zero3 (w : World) : (zeroValue 3).run Tryz.prog w = .ok (.int .i64 0) w := by
 obtain ⟨i, hi, hz⟩ := Option.map_eq_some_iff.1 info3
 simp only [Prod.mk.injEq] at hz
 simp [zeroValue, typeInfo, hi, hz.1]
end CFin
namespace CFin
open Go.Maps U PClusterFinest UFinest UFinEv
theorem labOk_closeIn {N : Nat} (last : Nat → Nat) (i : Nat) (hi : i < N) (hl : ∀ v, last v < N) (f : Nat) : ∀ (k : Nat) (r : Lab) (t : Bool), LabOk N r → LabOk N (closeIn last i f k r t).1 := by
 induction f with
 | zero => intro k r t h; exact h
 | succ f ih =>
  intro k r t h
  unfold closeIn
  split
  ·rename_i hk
   exact ih _ _ _ (h.merge _ _ hi (Nat.lt_of_le_of_lt hk (hl _)))
  ·exact h
theorem labOk_closeTo {N : Nat} (last : Nat → Nat) (lo hi : Nat) (hN : hi ≤ N) (hl : ∀ v, last v < N) (k : Nat) (hk : lo + k ≤ hi) (s : Lab × Bool) (h : LabOk N s.1) : LabOk N (closeTo last lo hi k s).1 := by
 induction k with
 | zero => exact h
 | succ k ih => exact labOk_closeIn last _ (by omega) hl _ _ _ _ (ih (by omega))
theorem labOk_closeF {N : Nat} {r : Lab} (lo hi : Nat) (hlh : lo < hi) (hN : hi ≤ N) (h : LabOk N r) : LabOk N (closeF r lo hi).1 :=
 labOk_closeTo _ lo hi hN (fun v => Nat.lt_of_lt_of_le (lastF_lt r lo hi hlh v) hN) _ (by omega) _ h
theorem MV.cast {w : World} {b n : Nat} {f f' : Nat → Nat} (h : MV w b n f) (e : ∀ v, f v = f' v) : MV w b n f' := by
 obtain rfl : f = f' := funext e
 exact h
theorem grown_new {w a b : World} {g gm : Nat} (h1 : w.grownBy a (some g)) (h2 : a.grownBy b (some gm)) (hgm : w.heap.size ≤ gm) : w.grownBy b (some g) :=
 ⟨h2.os.trans h1.os, h2.tape.trans h1.tape, h2.output.trans h1.output, qlT h1.size h2.size, fun k hk hne => (h2.block k (Nat.lt_of_lt_of_le hk h1.size) (fun e => by have := qoI e; omega)).trans (h1.block k hk hne)⟩
theorem MV.last {w' : World} {b n x i lo j : Nat} {r : Lab} {D : DataW Unit} (hx : x = r i) (hi : i = lo + j) (hv : x ≤ 1000000) (h1 : IsMap D) (h3 : ∀ v : Nat, D.atKey (.int .i64 v) (.lit (.int .i64 0)) = .lit (.int .i64 (lastF r lo j v : Nat))) (h2 : w'.ownsMap Tryz.prog 3 (plainElem Tryz.prog 3) b (n + 1) (D.put (.int .i64 x) (.lit (.int .i64 i)))) : MV w' b (n + 1) (lastF r lo (j + 1)) := by
 refine (MV.put (w := w') h1 h3 hv h2).cast fun v => ?_
 subst hx hi
 show (if v = r (lo + j) then lo + j else lastF r lo j v) = (if r (lo + j) = v then lo + j else lastF r lo j v)
 simp only [eq_comm]
theorem close_c {w : World} {base B g n m N cap : Nat} {p : List Int} {r : Lab} (hW : WV w B g n m N cap) (h : LI w base g N cap p) (hne : B ≠ g) (hp : PF N r p) (ho : LabOk N r) (hN : N ≤ 100000) (lo hi : Nat) (hlh : lo < hi) (hh : hi ≤ N) :
 Calls Tryz.prog 192 #[.pointer (some ⟨B, 0, none⟩), .agg #[.int .i64 lo, .int .i64 hi]] w fun e w' => e = .returned (.bool (closeF r lo hi).2) ∧ ∃ p', LI w' base g N cap p' ∧ PF N (closeF r lo hi).1 p' ∧ w.grownBy w' (some g) := by
 have HW := aMk hW
 have HV := aMk h
 have HP := aMk hp
 have HO := aMk ho
 have hgw := h.ltw
 clear hW h hp ho
 have hmm := @run_makeMap Tryz.prog
 go_enter Tryz.func192, Tryz.ntmps192
 go_wp2_with (first | ((with_reducible refine gate_dst (N := 3) rfl ?_); refine box_event ?hg (N := 3) ?hd (cs := #[.int .i64 lo, .int .i64 hi]) (t := 34) ?hr ?_; (case hd => rfl); (case hg => rfl); (case hr => go_simp; done); intro gb hg w5 hbox hb; have HW5 := aMk ((HW.out.below hb).below (qbA (qBr _ _) (.map #[] 0))); have HV5 := aMk ((HV.out.below hb).below (qbA (qBr _ _) (.map #[] 0))); have HX : Aside0 ((w5.alloc (.map #[] 0)).heap[gb]? = _) := ⟨(World.grownBy_alloc w5 (.map #[] 0) none |>.block _ (blk_lt hbox) (by simp)).trans hbox⟩; have HGB : Aside0 (gb ≠ g) := ⟨by omega⟩; have HG5 : Aside0 (w.grownBy (w5.alloc (.map #[] 0)) (some g)) := ⟨qgT (below_grownBy hb (some g)) (World.grownBy_alloc _ _ _)⟩; have HM5 : Aside0 (MV (w5.alloc (.map #[] 0)) w5.heap.size 0 (lastF r lo 0)) := ⟨MV.made w5⟩; have HMG : Aside0 (w5.heap.size ≠ g) := ⟨by have := (HV.out.below hb).ltw; omega⟩; have HMW : Aside0 (B ≠ w5.heap.size) := ⟨by have := blk_lt (HW.out.below hb); omega⟩; have HMS : Aside0 (w.heap.size ≤ w5.heap.size) := ⟨hb.size⟩; have HMB : Aside0 (w5.heap.size ≠ gb) := ⟨by have := blk_lt hbox; omega⟩; have b0 : (w5.alloc (.map #[] 0)).cell? ⟨gb, 0, none⟩ = some (.int .i64 lo) := (blk_cell HX.out 0).trans rfl; clear hg hbox hb HW HV))
 generalize w5.heap.size = gm at *
 clear hmm
 go_loopw [6] (fun v wr => ∃ (j : Nat) (p : List Int), v = .int .i64 ((lo + j : Nat) : Int) ∧ lo + j ≤ hi ∧ Aside0 (WV wr B g n m N cap) ∧ Aside0 (LI wr base g N cap p) ∧ Aside0 (PF N r p) ∧ Aside0 (MV wr gm j (lastF r lo j)) ∧ Aside0 (wr.heap[gb]? = some (.cells #[.int .i64 lo, .int .i64 hi] 34 (0, 0))) ∧ Aside0 (w.grownBy wr (some g))) (fun v _ => hi - (intOf v).toNat)
 case atStart => exact ⟨0, p, rfl, by omega, HW5, HV5, HP, HM5, HX, HG5⟩
 case round =>
  clear HW5 HV5 HP HM5 HX HG5 b0
  obtain ⟨j, p, rfl, hj, HW, HV, HP, HM, HX, HG⟩ := hrel
  have b1 : wr.cell? ⟨gb, 1, none⟩ = some (.int .i64 hi) := (blk_cell HX.out 1).trans rfl
  have d0 := HW.out.c0
  by_cases hlt : lo + j < hi
  ·obtain ⟨i, hi'⟩ : ∃ i, i = lo + j := ⟨_, rfl⟩
   rw [← hi'] at hlt ⊢
   have hiI : (i : Int) < (hi : Int) := by omega
   have hiN : i < N := by omega
   obtain ⟨x, hx⟩ : ∃ x, x = r i := ⟨_, rfl⟩
   have HXE := aMk hx
   have hxN : x < N := by have := HO.out.le i hiN; omega
   have HIE := aMk hi'
   clear hx hi'
   go_wp2_with (first | (go_at_call 253; refine (find_c HV.out HP.out (by omega) i hiN).mono ?_; rintro e w6 ⟨p1, rfl, a1, a2, a3⟩; rw [← HXE.out]; have HV6 := aMk a1; have HP6 := aMk a2; have HG6 : Aside0 (wr.grownBy w6 (some g)) := ⟨a3⟩; clear a1 a2 a3 HV HP) | (at_mapUpdate; obtain ⟨D, m1, m2, m3⟩ := HM.out; refine wpList_mapUpdate_own _ rfl _ _ _ 259 rfl 3 3 keyed3 Tryz.underlying259 (plainElem Tryz.prog 3) gm j D rfl (m2.kept HG6.out (by intro e; exact HMG.out (qoI e))) (by unfold maxLen; omega) _ _ (.int .i64 x) rfl rfl (key3 x (by omega)) _ [] (elem3 i (by omega)) ?_; intro w7 m4 m5; have HM7 := aMk (MV.last HXE.out HIE.out (by omega) m1 m3 m4); have HG7 : Aside0 (w6.grownBy w7 (some gm)) := ⟨m5⟩; clear m1 m2 m3 m4 m5 HM))
   have HW7 : Aside0 (WV w7 B g n m N cap) := ⟨(HW.out.grown HG6.out hne).grown HG7.out HMW.out⟩
   have HV7 : Aside0 (LI w7 base g N cap p1) := ⟨HV6.out.grown HG7.out HMG.out.symm⟩
   have HX7 : Aside0 (w7.heap[gb]? = some (.cells #[.int .i64 lo, .int .i64 hi] 34 (0, 0))) := ⟨(HG7.out.block _ (Nat.lt_of_lt_of_le (blk_lt HX.out) HG6.out.size) (fun e => HMB.out (qoI e).symm)).trans ((HG6.out.block _ (blk_lt HX.out) (fun e => HGB.out (qoI e))).trans HX.out)⟩
   have HG8 : Aside0 (w.grownBy w7 (some g)) := ⟨grown_new (qgT HG.out HG6.out) HG7.out HMS.out⟩
   exact ⟨⟨j + 1, p1, by have := HIE.out; go_num, by have := HIE.out; omega, HW7, HV7, HP6, HM7, HX7, HG8⟩, by simp [intOf]; omega⟩
  ·obtain ⟨t, ht⟩ : ∃ t, t = hi - lo := ⟨_, rfl⟩
   have ejt : j = t := by omega
   subst ejt
   have ej : lo + j = hi := by omega
   rw [ej]
   obtain ⟨last, hlast⟩ : ∃ last, last = lastF r lo j := ⟨_, rfl⟩
   have HM2 : Aside0 (MV wr gm j last) := ⟨by rw [hlast]; exact HM.out⟩
   have HLB : Aside0 (∀ v, last v < hi) := ⟨fun v => by rw [hlast, ht]; exact lastF_lt r lo hi hlh v⟩
   have HCF : Aside0 (closeF r lo hi = closeTo last lo hi (hi - lo) (r, false)) := ⟨by rw [hlast, ht]; rfl⟩
   clear hlast ht HM hlt
   have b0 := (blk_cell HX.out 0).trans rfl
   go_wp2_with fail
   go_loopw [7, 8] (fun v7 v8 wr => ∃ (q : Nat) (p : List Int) (r1 : Lab) (t1 : Bool), v8 = .int .i64 ((lo + q : Nat) : Int) ∧ v7 = .bool t1 ∧ lo + q ≤ hi ∧ Aside0 (closeTo last lo hi q (r, false) = (r1, t1)) ∧ Aside0 (WV wr B g n m N cap) ∧ Aside0 (LI wr base g N cap p) ∧ Aside0 (PF N r1 p) ∧ Aside0 (LabOk N r1) ∧ Aside0 (MV wr gm j last) ∧ Aside0 (wr.heap[gb]? = some (.cells #[.int .i64 lo, .int .i64 hi] 34 (0, 0))) ∧ Aside0 (w.grownBy wr (some g))) (fun _ v _ => hi - (intOf v).toNat)
   case atStart => exact ⟨0, p, r, false, rfl, rfl, by omega, ⟨rfl⟩, HW, HV, HP, HO, HM2, HX, HG⟩
   case round =>
    clear HW HV HP HO HM2 HX HG b0 b1 d0
    obtain ⟨q, p, r1, t1, rfl, rfl, hq, HS, HW, HV, HP, HO, HM, HX, HG⟩ := hrel
    have b1 : wr.cell? ⟨gb, 1, none⟩ = some (.int .i64 hi) := (blk_cell HX.out 1).trans rfl
    by_cases hlt : lo + q < hi
    ·obtain ⟨i, hi'⟩ : ∃ i, i = lo + q := ⟨_, rfl⟩
     rw [← hi'] at hlt ⊢
     have hiI : (i : Int) < (hi : Int) := by omega
     have hiN : i < N := by omega
     have HIE := aMk hi'
     have e1 : IntKind.i64.wrap ((i : Int) + 1) = ((i + 1 : Nat) : Int) := by rw [IntWalk.i64_in _ (by omega)]; omega
     clear hi'
     go_wp2_with fail
     go_loopw [7, 9] (fun v7 v9 wr => ∃ (k f : Nat) (p : List Int) (r2 : Lab) (t2 : Bool), v9 = .int .i64 (k : Int) ∧ v7 = .bool t2 ∧ i < k ∧ k ≤ hi ∧ f + k = hi + i + 2 ∧ Aside0 (closeIn last i f k r2 t2 = closeIn last i (hi + 1) (i + 1) r1 t1) ∧ Aside0 (WV wr B g n m N cap) ∧ Aside0 (LI wr base g N cap p) ∧ Aside0 (PF N r2 p) ∧ Aside0 (LabOk N r2) ∧ Aside0 (MV wr gm j last) ∧ Aside0 (wr.heap[gb]? = some (.cells #[.int .i64 lo, .int .i64 hi] 34 (0, 0))) ∧ Aside0 (w.grownBy wr (some g))) (fun _ v _ => hi + 1 - (intOf v).toNat)
     case atStart => exact ⟨i + 1, hi + 1, p, r1, t1, by go_num, rfl, by omega, by omega, by omega, ⟨rfl⟩, HW, HV, HP, HO, HM, HX, HG⟩
     case round =>
      clear HW HV HP HO HM HX HG b1
      obtain ⟨k, f, p, r2, t2, rfl, rfl, hik, hkh, hf, HC, HW, HV, HP, HO, HM, HX, HG⟩ := hrel
      have d0 := HW.out.c0
      have hkN : k ≤ N := by omega
      obtain ⟨f, rfl⟩ : ∃ f', f = f' + 1 := ⟨f - 1, by omega⟩
      obtain ⟨x, hx⟩ : ∃ x, x = r2 i := ⟨_, rfl⟩
      have hxN : x < N := by have := HO.out.le i hiN; omega
      obtain ⟨z, hz⟩ : ∃ z, z = last x := ⟨_, rfl⟩
      have hzh : z < hi := by rw [hz]; exact HLB.out x
      have hC := HC.out
      rw [closeIn] at hC
      rw [← hx, ← hz] at hC
      have HXE := aMk hx
      have HZE := aMk hz
      clear hx hz HC
      by_cases hkz : k ≤ z
      ·rw [if_pos hkz] at hC
       have HC := aMk hC
       have hkzI : (k : Int) ≤ (z : Int) := by omega
       clear hC
       have hkN2 : k < N := by omega
       go_wp2_with (first | (go_at_call 253; refine (find_c HV.out HP.out (by omega) i hiN).mono ?_; rintro e w6 ⟨p1, rfl, a1, a2, a3⟩; rw [← HXE.out]; have HV6 := aMk a1; have HP6 := aMk a2; have HG6 : Aside0 (wr.grownBy w6 (some g)) := ⟨a3⟩; have hlk := (HM.out.kept a3 (fun e => HMG.out (qoI e))).lookup x (by omega) (zero3 w6); rw [← HZE.out] at hlk; have HW6 := aMk (HW.out.grown a3 hne); have d06 := HW6.out.c0; clear a1 a2 a3 HV HP) | (go_at_call 251; refine (join_c HV6.out HP6.out HO.out (by omega) i k hiN hkN2).mono ?_; rintro e w7 ⟨p2, rfl, a1, a2, a3⟩; have HV7 := aMk a1; have HP7 := aMk a2; have HG7 : Aside0 (wr.grownBy w7 (some g)) := ⟨qgT HG6.out a3⟩; obtain ⟨bb, hbb⟩ : ∃ bb, bb = two r2 i k := ⟨_, rfl⟩; have HBB := aMk hbb; rw [← hbb]; clear a1 a2 a3 hbb; cases bb))
       ·have HC2 : Aside0 (closeIn last i f (k + 1) (merge r2 i k) t2 = closeIn last i (hi + 1) (i + 1) r1 t1) := ⟨by have := HC.out; rw [← HBB.out] at this; simpa using this⟩
        exact ⟨⟨k + 1, f, p2, _, t2, by go_num, rfl, by omega, by omega, by omega, HC2, ⟨HW.out.grown HG7.out hne⟩, HV7, HP7, ⟨HO.out.merge _ _ hiN hkN2⟩, ⟨HM.out.kept HG7.out (fun e => HMG.out (qoI e))⟩, ⟨(HG7.out.block _ (blk_lt HX.out) (fun e => HGB.out (qoI e))).trans HX.out⟩, ⟨qgT HG.out HG7.out⟩⟩, by simp [intOf]; omega⟩
       ·have HC2 : Aside0 (closeIn last i f (k + 1) (merge r2 i k) true = closeIn last i (hi + 1) (i + 1) r1 t1) := ⟨by have := HC.out; rw [← HBB.out] at this; simpa using this⟩
        exact ⟨⟨k + 1, f, p2, _, true, by go_num, rfl, by omega, by omega, by omega, HC2, ⟨HW.out.grown HG7.out hne⟩, HV7, HP7, ⟨HO.out.merge _ _ hiN hkN2⟩, ⟨HM.out.kept HG7.out (fun e => HMG.out (qoI e))⟩, ⟨(HG7.out.block _ (blk_lt HX.out) (fun e => HGB.out (qoI e))).trans HX.out⟩, ⟨qgT HG.out HG7.out⟩⟩, by simp [intOf]; omega⟩
      ·rw [if_neg hkz] at hC
       have HS2 : Aside0 (closeTo last lo hi (q + 1) (r, false) = (r2, t2)) := ⟨by rw [closeTo, HS.out, ← HIE.out]; exact hC.symm⟩
       have hkzI : ¬ (k : Int) ≤ (z : Int) := by omega
       clear hC
       go_wp2_with (first | (go_at_call 253; refine (find_c HV.out HP.out (by omega) i hiN).mono ?_; rintro e w6 ⟨p1, rfl, a1, a2, a3⟩; rw [← HXE.out]; have HV6 := aMk a1; have HP6 := aMk a2; have HG6 : Aside0 (wr.grownBy w6 (some g)) := ⟨a3⟩; have hlk := (HM.out.kept a3 (fun e => HMG.out (qoI e))).lookup x (by omega) (zero3 w6); rw [← HZE.out] at hlk; clear a1 a2 a3 HV HP))
       exact ⟨⟨q + 1, p1, r2, t2, by have := HIE.out; go_num, rfl, by have := HIE.out; omega, HS2, ⟨HW.out.grown HG6.out hne⟩, HV6, HP6, HO, ⟨HM.out.kept HG6.out (fun e => HMG.out (qoI e))⟩, ⟨(HG6.out.block _ (blk_lt HX.out) (fun e => HGB.out (qoI e))).trans HX.out⟩, ⟨qgT HG.out HG6.out⟩⟩, by simp [intOf]; omega⟩
    ·have eq : lo + q = hi := by omega
     have eqt : q = hi - lo := by omega
     have HS2 : Aside0 (closeF r lo hi = (r1, t1)) := ⟨by rw [HCF.out, ← eqt]; exact HS.out⟩
     rw [eq]
     clear eqt
     go_wp2_with fail
     go_ret
     exact ⟨by rw [HS2.out]; rfl, p, HV.out, by rw [HS2.out]; exact HP.out, HG.out⟩
end CFin
end
section
namespace KRank
open U (runF runF_ok)
open PKashidaStretches
def rankO (c : Int) : Int := if c = 1600 then 1 else if c = 1587 ∨ c = 1588 ∨ c = 1589 ∨ c = 1590 then 2 else if c = 1577 ∨ c = 1583 ∨ c = 1584 ∨ c = 1607 ∨ c = 1729 ∨ c = 1749 then 3 else if c = 1575 ∨ c = 1591 ∨ c = 1592 ∨ c = 1604 ∨ c = 1603 ∨ c = 1705 ∨ c = 1711 then 4 else if c = 1585 ∨ c = 1586 ∨ c = 1610 ∨ c = 1740 ∨ c = 1602 ∨ c = 1601 ∨ c = 1593 then 5 else 6
theorem rank_f (c : Int) : kashida_Rank.f 20 c = some (rankO c) := by
 by_cases h1600 : c = 1600
 ·subst h1600; kernel_rfl
 by_cases h1587 : c = 1587
 ·subst h1587; kernel_rfl
 by_cases h1588 : c = 1588
 ·subst h1588; kernel_rfl
 by_cases h1589 : c = 1589
 ·subst h1589; kernel_rfl
 by_cases h1590 : c = 1590
 ·subst h1590; kernel_rfl
 by_cases h1577 : c = 1577
 ·subst h1577; kernel_rfl
 by_cases h1583 : c = 1583
 ·subst h1583; kernel_rfl
 by_cases h1584 : c = 1584
 ·subst h1584; kernel_rfl
 by_cases h1607 : c = 1607
 ·subst h1607; kernel_rfl
 by_cases h1729 : c = 1729
 ·subst h1729; kernel_rfl
 by_cases h1749 : c = 1749
 ·subst h1749; kernel_rfl
 by_cases h1575 : c = 1575
 ·subst h1575; kernel_rfl
 by_cases h1591 : c = 1591
 ·subst h1591; kernel_rfl
 by_cases h1592 : c = 1592
 ·subst h1592; kernel_rfl
 by_cases h1604 : c = 1604
 ·subst h1604; kernel_rfl
 by_cases h1603 : c = 1603
 ·subst h1603; kernel_rfl
 by_cases h1705 : c = 1705
 ·subst h1705; kernel_rfl
 by_cases h1711 : c = 1711
 ·subst h1711; kernel_rfl
 by_cases h1585 : c = 1585
 ·subst h1585; kernel_rfl
 by_cases h1586 : c = 1586
 ·subst h1586; kernel_rfl
 by_cases h1610 : c = 1610
 ·subst h1610; kernel_rfl
 by_cases h1740 : c = 1740
 ·subst h1740; kernel_rfl
 by_cases h1602 : c = 1602
 ·subst h1602; kernel_rfl
 by_cases h1601 : c = 1601
 ·subst h1601; kernel_rfl
 by_cases h1593 : c = 1593
 ·subst h1593; kernel_rfl
 have e : rankO c = 6 := by simp [rankO, h1600, h1587, h1588, h1589, h1590, h1577, h1583, h1584, h1607, h1729, h1749, h1575, h1591, h1592, h1604, h1603, h1705, h1711, h1585, h1586, h1610, h1740, h1602, h1601, h1593]
 rw [e]
 simp [kashida_Rank.f, kashida_Rank.l0, slices_Contains_int_int.f, slices_Index_int_int.f, slices_Index_int_int.l0, rd_L2, rd, wrap64, h1600, h1587, h1588, h1589, h1590, h1577, h1583, h1584, h1607, h1729, h1749, h1575, h1591, h1592, h1604, h1603, h1705, h1711, h1585, h1586, h1610, h1740, h1602, h1601, h1593]
theorem rk (c r : Int) (w : World) (h : runF Tryz.prog 90 1 22 #[.int .i64 c] w = some (.int .i64 r, w)) (hr : rankO c = r) : Calls Tryz.prog 22 #[.int .i64 c] w fun e w' => e = .returned (.int .i64 (rankO c)) ∧ Below w.heap.size w w' := by
 rw [hr]
 refine (runF_ok 90 1 22 _ w _ _ h).mono ?_
 rintro e W ⟨rfl, rfl⟩
 exact ⟨rfl, qBr _ _⟩
theorem rrank_c (c : Int) (w : World) : Calls Tryz.prog 22 #[.int .i64 c] w fun e w' => e = .returned (.int .i64 (rankO c)) ∧ Below w.heap.size w w' := by
 by_cases h1600 : c = 1600
 ·subst h1600; exact rk _ 1 w (by kernel_rfl) (by decide)
 by_cases h1587 : c = 1587
 ·subst h1587; exact rk _ 2 w (by kernel_rfl) (by decide)
 by_cases h1588 : c = 1588
 ·subst h1588; exact rk _ 2 w (by kernel_rfl) (by decide)
 by_cases h1589 : c = 1589
 ·subst h1589; exact rk _ 2 w (by kernel_rfl) (by decide)
 by_cases h1590 : c = 1590
 ·subst h1590; exact rk _ 2 w (by kernel_rfl) (by decide)
 by_cases h1577 : c = 1577
 ·subst h1577; exact rk _ 3 w (by kernel_rfl) (by decide)
 by_cases h1583 : c = 1583
 ·subst h1583; exact rk _ 3 w (by kernel_rfl) (by decide)
 by_cases h1584 : c = 1584
 ·subst h1584; exact rk _ 3 w (by kernel_rfl) (by decide)
 by_cases h1607 : c = 1607
 ·subst h1607; exact rk _ 3 w (by kernel_rfl) (by decide)
 by_cases h1729 : c = 1729
 ·subst h1729; exact rk _ 3 w (by kernel_rfl) (by decide)
 by_cases h1749 : c = 1749
 ·subst h1749; exact rk _ 3 w (by kernel_rfl) (by decide)
 by_cases h1575 : c = 1575
 ·subst h1575; exact rk _ 4 w (by kernel_rfl) (by decide)
 by_cases h1591 : c = 1591
 ·subst h1591; exact rk _ 4 w (by kernel_rfl) (by decide)
 by_cases h1592 : c = 1592
 ·subst h1592; exact rk _ 4 w (by kernel_rfl) (by decide)
 by_cases h1604 : c = 1604
 ·subst h1604; exact rk _ 4 w (by kernel_rfl) (by decide)
 by_cases h1603 : c = 1603
 ·subst h1603; exact rk _ 4 w (by kernel_rfl) (by decide)
 by_cases h1705 : c = 1705
 ·subst h1705; exact rk _ 4 w (by kernel_rfl) (by decide)
 by_cases h1711 : c = 1711
 ·subst h1711; exact rk _ 4 w (by kernel_rfl) (by decide)
 by_cases h1585 : c = 1585
 ·subst h1585; exact rk _ 5 w (by kernel_rfl) (by decide)
 by_cases h1586 : c = 1586
 ·subst h1586; exact rk _ 5 w (by kernel_rfl) (by decide)
 by_cases h1610 : c = 1610
 ·subst h1610; exact rk _ 5 w (by kernel_rfl) (by decide)
 by_cases h1740 : c = 1740
 ·subst h1740; exact rk _ 5 w (by kernel_rfl) (by decide)
 by_cases h1602 : c = 1602
 ·subst h1602; exact rk _ 5 w (by kernel_rfl) (by decide)
 by_cases h1601 : c = 1601
 ·subst h1601; exact rk _ 5 w (by kernel_rfl) (by decide)
 by_cases h1593 : c = 1593
 ·subst h1593; exact rk _ 5 w (by kernel_rfl) (by decide)
 have e : rankO c = 6 := by simp [rankO, h1600, h1587, h1588, h1589, h1590, h1577, h1583, h1584, h1607, h1729, h1749, h1575, h1591, h1592, h1604, h1603, h1705, h1711, h1585, h1586, h1610, h1740, h1602, h1601, h1593]
 rw [e]
 go_enter Tryz.func22, Tryz.ntmps22
 go_wp2
 go_ret
 exact ⟨rfl, qBr _ _⟩
def alefB (c : Int) : Bool := decide (c = 1570 ∨ c = 1571 ∨ c = 1573 ∨ c = 1575)
theorem alef_f (c : Int) : lamalef_Alef.f 20 c = some (alefB c) := by
 by_cases h1570 : c = 1570
 ·subst h1570; kernel_rfl
 by_cases h1571 : c = 1571
 ·subst h1571; kernel_rfl
 by_cases h1573 : c = 1573
 ·subst h1573; kernel_rfl
 by_cases h1575 : c = 1575
 ·subst h1575; kernel_rfl
 have e : alefB c = false := by simp [alefB, h1570, h1571, h1573, h1575]
 rw [e]
 simp [lamalef_Alef.f, forms_Ligate.f, forms_alef.f, forms_alef.l0, api_Ligatures.f, rd_T95, wrap64, h1570, Ne.symm h1570, h1571, Ne.symm h1571, h1573, Ne.symm h1573, h1575, Ne.symm h1575]
theorem ralef_f (c : Int) : naskhref14_Alef.f 20 c = some (alefB c) := by
 by_cases h1570 : c = 1570
 ·subst h1570; kernel_rfl
 by_cases h1571 : c = 1571
 ·subst h1571; kernel_rfl
 by_cases h1573 : c = 1573
 ·subst h1573; kernel_rfl
 by_cases h1575 : c = 1575
 ·subst h1575; kernel_rfl
 have e : alefB c = false := by simp [alefB, h1570, h1571, h1573, h1575]
 rw [e]
 simp [naskhref14_Alef.f, naskhref09_Ligate.f, naskhref09_Ligate.l0, naskhref09_Ligate.j1, api_Ligatures.f, rd_T95, wrap64, h1570, Ne.symm h1570, h1571, Ne.symm h1571, h1573, Ne.symm h1573, h1575, Ne.symm h1575]
theorem rank_c (c : Int) (w : World) : Calls Tryz.prog 21 #[.int .i64 c] w fun e w' => e = .returned (.int .i64 (rankO c)) ∧ Below w.heap.size w w' := kashida_Rank.calls 20 c _ w (rank_f c)
theorem alef_c (c : Int) (w : World) : Calls Tryz.prog 181 #[.int .i64 c] w fun e w' => e = .returned (.bool (alefB c)) ∧ Below w.heap.size w w' := lamalef_Alef.calls 20 c _ w (alef_f c)
end KRank
end
section
namespace PEmbedJoins

attribute [local go_sem] max2_int min2_int max_two min_two max_three min_three max_four min_four
def errW : Option Int → Value
 | none => .nilIface
 | some c => .iface 0 (.int .i64 c)
theorem errW_none : errW none = .nilIface := rfl
theorem errW_some (c : Int) : errW (some c) = .iface 0 (.int .i64 c) := rfl
-- the values' own types
structure S127 where
 f0 : Int
 f1 : Int
 f2 : Int
def z127 : S127 := ⟨(0 : Int), (0 : Int), (0 : Int)⟩
def k127 : Kd S127 := Kd.iso (Kd.pair (Kd.int .i64) (Kd.pair (Kd.int .i64) (Kd.int .i64))) (fun x : S127 => (x.f0, x.f1, x.f2))
theorem k127_open {w : World} {x : S127} {cs : List Value} (h : k127.K w x cs) : cs = [.int .i64 x.f0, .int .i64 x.f1, .int .i64 x.f2] := by
 obtain ⟨_, _, rfl, rfl, ⟨_, _, rfl, rfl, rfl⟩⟩ := h
 exact rfl
theorem k127_mk (w : World) (x : S127)  : k127.K w x [.int .i64 x.f0, .int .i64 x.f1, .int .i64 x.f2] := ⟨[.int .i64 x.f0], [.int .i64 x.f1, .int .i64 x.f2], rfl, rfl, ⟨[.int .i64 x.f1], [.int .i64 x.f2], rfl, rfl, rfl⟩⟩
def rd_T127 (xs : List S127) (i : Int) : S127 := xs.getD i.toNat z127
theorem at_T127 {w : World} {A : Option Addr} {n : Nat} {xs : List S127} (h : Kd.C k127 w A n xs) (i : Int) (h0 : 0 ≤ i) (h1 : i < n) : ∃ ad , A = some ad ∧ w.cell? (ad.add (i.toNat * 3)) = some (.int .i64 (rd_T127 xs i).f0) ∧ w.cell? ⟨(ad.add (i.toNat * 3)).block, (ad.add (i.toNat * 3)).off + 1, none⟩ = some (.int .i64 (rd_T127 xs i).f1) ∧ w.cell? ⟨(ad.add (i.toNat * 3)).block, (ad.add (i.toNat * 3)).off + 2, none⟩ = some (.int .i64 (rd_T127 xs i).f2) := by
 obtain ⟨ad, c, e, _, hK, hc0⟩ := Kd.C_get h z127 i h0 h1
 have hc : ∀ j u, c[j]? = some u → w.cell? (ad.add (i.toNat * 3 + j)) = some u := hc0
 obtain rfl := k127_open hK
 exact ⟨ad, e, hc 0 _ rfl, by rw [← add_field _ _ 1 (by omega)]; exact hc 1 _ rfl, by rw [← add_field _ _ 2 (by omega)]; exact hc 2 _ rfl⟩
end PEmbedJoins
end
end Go.Proofs.YtemhccjjcioodaaGreat
