/- Merged of own texts: UEv, UKit, UKit2, UClosed. -/
import Derived.Test.YtohhobcipfmkbaaWWords
import Derived.Test.YtohhobcipfmkbaaWMore
import Derived.Lib.Hide
import Derived.StillTailTactics
import Derived.Deep.RegionWith
import Derived.Tactics
import Derived.WalkKit
import Derived.KernelRfl
import Derived.LoopN
/-! Plain words for the printed functions: what a function of rounds tells from some number of rounds on. No Go and no memory in it. -/
namespace Go.Proofs.Ytohhobcipfmkbaa.U
open Go.RowKit Go.Proofs.YtohhobcipfmkbaaW.PrintWords

theorem ev_now {α : Type} (r : α) : Ev (fun _ => some r) r := ⟨0, fun _ _ => rfl⟩
theorem ev_const {α : Type} {x : Option α} {r : α} (h : x = some r) : Ev (fun _ => x) r := ⟨0, fun _ _ => h⟩
theorem ev_pos {α : Type} {c : Prop} [Decidable c] {f g : Nat → Option α} {r : α} (hc : c) (h : Ev f r) : Ev (fun k => if c then f k else g k) r := by
  simpa only [if_pos hc] using h
theorem ev_neg {α : Type} {c : Prop} [Decidable c] {f g : Nat → Option α} {r : α} (hc : ¬ c) (h : Ev g r) : Ev (fun k => if c then f k else g k) r := by
  simpa only [if_neg hc] using h
theorem ev_ite {α : Type} {c : Prop} [Decidable c] {f g : Nat → Option α} {r : α} (h : c → Ev f r) (h' : ¬ c → Ev g r) : Ev (fun k => if c then f k else g k) r := by
  by_cases hc : c
  · exact ev_pos hc (h hc)
  · exact ev_neg hc (h' hc)
theorem ev_bind {α β : Type} {g : Nat → Option α} {f : Nat → α → Option β} {a : α} {r : β} (h : Ev g a) (k : Ev (fun n => f n a) r) : Ev (fun n => (g n).bind (f n)) r := Ev.bind h k
theorem ev_bindc {α β : Type} {x : Option α} {f : Nat → α → Option β} {a : α} {r : β} (h : x = some a) (k : Ev (fun n => f n a) r) : Ev (fun n => x.bind (f n)) r := by
  simpa only [h, Option.bind_some] using k
theorem ev_eq {α : Type} {g : Nat → Option α} {r r' : α} (h : Ev g r) (e : r = r') : Ev g r' := e ▸ h
theorem ev_at {α : Type} {g : Nat → Option α} {r : α} (hg : ∀ k, LeO (g k) (g (k + 1))) (k : Nat) (h : g k = some r) : Ev g r := Ev.of hg h

theorem w64 {n : Int} (h0 : -9223372036854775808 ≤ n) (h1 : n ≤ 9223372036854775807) : wrap64 n = n := by unfold wrap64; omega

theorem rd_get {xs : List Int} {i : Nat} (h : i < xs.length) : rd xs (i : Int) = xs[i] := by
  unfold rd
  rw [Int.toNat_natCast, List.getD_eq_getElem?_getD, List.getElem?_eq_getElem h]
  rfl
theorem rd_nat (xs : List Int) (i : Nat) : rd xs (i : Int) = xs.getD i 0 := by
  unfold rd
  rw [Int.toNat_natCast]
end Go.Proofs.Ytohhobcipfmkbaa.U
/-! Words of this session's own for walks: a slice that reads as a list (SL), kept from world to world; a row's form; a written cell. -/
namespace Go.Proofs.Ytohhobcipfmkbaa.U
open Go.RowKit Go.Proofs.YtohhobcipfmkbaaW.PrintWords
set_option linter.unusedVariables false

theorem R_form {α : Type} {d : Kd α} {e : TypeId} {w : World} {base : Nat} {ok : Nat → Prop} {v : Value} {xs : List α} (h : d.R e w base ok v xs) (hb : ∃ b, v.ownBlock = some b) : ∃ g cap, v = .slice (some ⟨g, 0, none⟩) xs.length cap ∧ base ≤ g := by
  obtain ⟨inner, h1, h2⟩ := Kd.R_own h
  obtain ⟨b, hb⟩ := hb
  rcases h2 with ⟨rfl, _⟩ | ⟨g, cap, cur, rfl, hg, _⟩
  · simp [Value.ownBlock] at hb
  · exact ⟨g, cap, rfl, hg⟩
theorem grown_set (w : World) (g j : Nat) (u : Value) : w.grownBy (w.setCell ⟨g, j, none⟩ u) (some g) :=
  ⟨rfl, rfl, rfl, by simp [World.setCell], fun k _ hk => Below.heap_setCell w ⟨g, j, none⟩ u k (fun e => hk (by rw [e]))⟩

/-- A slice value that reads as a list in a world. -/
def SLk {α : Type} (d : Kd α) (w : World) (v : Value) (xs : List α) : Prop := ∃ A c, v = .slice A xs.length c ∧ xs.length ≤ c ∧ d.C w A xs.length xs
abbrev SL (w : World) (v : Value) (xs : List Int) : Prop := SLk (Kd.int .i64) w v xs
theorem SLk.mk {α : Type} {d : Kd α} {w : World} {A : Option Addr} {c : Nat} {xs : List α} (h : d.C w A xs.length xs) (hc : xs.length ≤ c) : SLk d w (.slice A xs.length c) xs := ⟨A, c, rfl, hc, h⟩
theorem SLk.of_R {α : Type} {d : Kd α} {e : TypeId} {w : World} {base : Nat} {ok : Nat → Prop} {v : Value} {xs : List α} (h : d.R e w base ok v xs) : SLk d w v xs := by
  obtain ⟨A, c, rfl, h1, h2⟩ := Kd.R_reads h
  exact ⟨A, c, rfl, h1, h2⟩
theorem SLk.below {α : Type} {d : Kd α} {w w' : World} {v : Value} {xs : List α} (h : SLk d w v xs) (hb : Below w.heap.size w w') : SLk d w' v xs := by
  obtain ⟨A, c, rfl, h1, h2⟩ := h
  exact ⟨A, c, rfl, h1, Kd.C_below h2 hb⟩
theorem SLk.nil {α : Type} {d : Kd α} (w : World) : SLk d w (.slice none 0 0) ([] : List α) := by
  refine ⟨none, 0, rfl, Nat.le_refl _, ?_⟩
  exact ⟨rfl, by simp, fun h => absurd h (by simp)⟩
theorem SLk.at_int {k : IntKind} {w : World} {v : Value} {xs : List Int} (h : SLk (Kd.int k) w v xs) (i : Int) (h0 : 0 ≤ i) (h1 : i < xs.length) : ∃ ad c, v = .slice (some ad) xs.length c ∧ w.cell? (ad.add i.toNat) = some (.int k (rd xs i)) := by
  obtain ⟨A, c, rfl, _, h2⟩ := h
  obtain ⟨ad, rfl, h⟩ := Kd.at_int h2 i h0 h1
  exact ⟨ad, c, rfl, h⟩
end Go.Proofs.Ytohhobcipfmkbaa.U
/-! Words of this session's own for walks: a row of slices of the call's own, whose elements read as lists. -/
namespace Go.Proofs.Ytohhobcipfmkbaa.U
open Go.RowKit Go.Proofs.YtohhobcipfmkbaaW.PrintWords
set_option linter.unusedVariables false

/-- A slice's header. -/
abbrev Hd := Option Addr × Nat × Nat
def encH (h : Hd) : Value := .slice h.1 h.2.1 h.2.2
def KH : Kd Hd := Kd.scalar encH (fun _ => rfl)
/-- A row of slices of the call's own (elements of type e), that read as lists. -/
def RS (e : TypeId) (w : World) (base : Nat) (v : Value) (xss : List (List Int)) : Prop :=
  ∃ hs : List Hd, Kd.R KH e w base (fun _ => True) v hs ∧ hs.length = xss.length ∧ ∀ (i : Nat) (x : List Int), xss[i]? = some x → ∃ h : Hd, hs[i]? = some h ∧ SL w (encH h) x
theorem SL.header {w : World} {v : Value} {xs : List Int} (h : SL w v xs) : ∃ hd : Hd, v = encH hd := by
  obtain ⟨A, c, rfl, _⟩ := h
  exact ⟨(A, xs.length, c), rfl⟩
theorem RS.below {e : TypeId} {w w' : World} {base : Nat} {v : Value} {xss : List (List Int)} (h : RS e w base v xss) (hb : Below w.heap.size w w') : RS e w' base v xss := by
  obtain ⟨hs, h1, h2, h3⟩ := h
  exact ⟨hs, Kd.R_below h1 hb, h2, fun i x hx => let ⟨hd, a, b⟩ := h3 i x hx; ⟨hd, a, SLk.below b hb⟩⟩
/-- What reads as numbers lives on where a slice's cell is written. -/
theorem SL.set_slice {w : World} {v : Value} {xs : List Int} (h : SL w v xs) {g i : Nat} {hd : Hd} (hc : w.cell? ⟨g, i, none⟩ = some (encH hd)) (u : Value) : SL (w.setCell ⟨g, i, none⟩ u) v xs := by
  obtain ⟨A, c, rfl, hl, h1, h2, h3⟩ := h
  refine ⟨A, c, rfl, hl, h1, h2, fun hn => ?_⟩
  obtain ⟨ad, rfl, hcell⟩ := h3 hn
  refine ⟨ad, rfl, fun j p hj => ?_⟩
  obtain ⟨cs, hcl, hk, hcc⟩ := hcell j p hj
  refine ⟨cs, hcl, hk, fun k u' hu => ?_⟩
  have hold := hcc k u' hu
  have hne : ad.add (j * (Kd.int .i64).sz + k) ≠ ⟨g, i, none⟩ := by
    intro e
    rw [e, hc] at hold
    have hk' : cs = [.int .i64 p] := hk
    subst hk'
    cases k with
    | zero => simp at hu; subst hu; simp [encH] at hold
    | succ k => simp at hu
  have hlt := World.block_lt_of_cell? w _ hold
  rw [← hold]
  unfold World.cell? World.setCell
  simp only [Array.getElem?_modify]
  by_cases hb : g = (ad.add (j * (Kd.int .i64).sz + k)).block
  · rw [if_pos hb]
    generalize hg : w.heap[(ad.add (j * (Kd.int .i64).sz + k)).block]? = o
    cases o with
    | none => rfl
    | some o =>
      cases o with
      | cells c t f =>
        simp only [Option.map_some]
        by_cases hsp : (ad.add (j * (Kd.int .i64).sz + k)).spot.isSome
        · simp [hsp]
        · simp only [hsp]
          simp
          rw [Array.getElem?_setIfInBounds_ne]
          intro ei
          apply hne
          generalize ad.add (j * (Kd.int .i64).sz + k) = q at *
          obtain ⟨qb, qo, qs⟩ := q
          simp at hb ei hsp
          subst hb ei hsp
          rfl
      | _ => rfl
  · rw [if_neg hb]
theorem RS.put {e : TypeId} {w : World} {base g n cap : Nat} {xss : List (List Int)} (h : RS e w base (.slice (some ⟨g, 0, none⟩) n cap) xss) (hn : n = xss.length) (i : Nat) (hi : i < xss.length) {v' : Value} {x : List Int} (hx : SL w v' x) :
    RS e (w.setCell ⟨g, i, none⟩ v') base (.slice (some ⟨g, 0, none⟩) n cap) (xss.set i x) ∧ w.grownBy (w.setCell ⟨g, i, none⟩ v') (some g) := by
  obtain ⟨hs, h1, h2, h3⟩ := h
  obtain ⟨hd, rfl⟩ := hx.header
  have hp := Kd.R_putg h1 (i : Int) hd
  have hc := Kd.R_celln ((none, 0, 0) : Hd) h1 (i : Int) (by omega) (by omega)
  rw [Int.toNat_natCast] at hp hc
  refine ⟨⟨hs.set i hd, hp.1, by simp [h2], fun j y hy => ?_⟩, hp.2⟩
  by_cases hji : j = i
  · subst hji
    rw [List.getElem?_set_self hi] at hy
    obtain rfl := Option.some.inj hy
    exact ⟨hd, List.getElem?_set_self (by omega), SL.set_slice hx hc.1 _⟩
  · rw [List.getElem?_set_ne (Ne.symm hji)] at hy
    obtain ⟨hd', a, b⟩ := h3 j y hy
    exact ⟨hd', by rw [List.getElem?_set_ne (Ne.symm hji)]; exact a, SL.set_slice b hc.1 _⟩
theorem RS.cell {e : TypeId} {w : World} {base g n cap : Nat} {xss : List (List Int)} (h : RS e w base (.slice (some ⟨g, 0, none⟩) n cap) xss) (i : Nat) (hi : i < n) : (∃ hd : Hd, w.cell? ⟨g, i, none⟩ = some (encH hd)) ∧ w.frozen? ⟨g, i, none⟩ = false := by
  obtain ⟨hs, h1, h2, h3⟩ := h
  have hc := Kd.R_celln ((none, 0, 0) : Hd) h1 (i : Int) (by omega) (by omega)
  rw [Int.toNat_natCast] at hc
  exact ⟨⟨_, hc.1⟩, hc.2⟩
theorem RS.form {e : TypeId} {w : World} {base : Nat} {v : Value} {xss : List (List Int)} (h : RS e w base v xss) (hn : 0 < xss.length) : ∃ g cap, v = .slice (some ⟨g, 0, none⟩) xss.length cap ∧ base ≤ g ∧ xss.length ≤ cap := by
  obtain ⟨hs, h1, h2, h3⟩ := h
  obtain ⟨inner, a, b⟩ := Kd.R_own h1
  rcases b with ⟨_, b⟩ | ⟨g, cap, cur, rfl, hg, _, h4, _⟩
  · omega
  · exact ⟨g, cap, by rw [h2], hg, by omega⟩
theorem RS.slice {e : TypeId} {w : World} {base : Nat} {v : Value} {xss : List (List Int)} (h : RS e w base v xss) : ∃ A c, v = .slice A xss.length c := by
  obtain ⟨hs, h1, h2, h3⟩ := h
  obtain ⟨A, c, rfl⟩ := Kd.R_slice h1
  exact ⟨A, c, by rw [h2]⟩
theorem RS.lower {e : TypeId} {w : World} {base base' : Nat} {v : Value} {xss : List (List Int)} (h : RS e w base v xss) (hb : base' ≤ base) : RS e w base' v xss := by
  obtain ⟨hs, h1, h2⟩ := h
  exact ⟨hs, Kd.R_lower h1 hb, h2⟩
theorem RS.nils {e : TypeId} {w : World} {base : Nat} {v : Value} {n : Nat} (h : Kd.R KH e w base (fun _ => True) v (List.replicate n ((none, 0, 0) : Hd))) : RS e w base v (List.replicate n []) := by
  refine ⟨_, h, by simp, fun i x hx => ?_⟩
  rw [List.getElem?_replicate] at hx
  split at hx
  · rename_i hi
    obtain rfl := Option.some.inj hx
    exact ⟨(none, 0, 0), by rw [List.getElem?_replicate, if_pos hi], SLk.nil w⟩
  · cases hx
theorem RS.nil (e : TypeId) (w : World) (base : Nat) : RS e w base (.slice none 0 0) [] := ⟨[], Kd.R_nil _ _ _ _ _, rfl, fun i x hx => by simp at hx⟩
/-- such a row reads as a list of lists -/
theorem RS.reads {e : TypeId} {w : World} {base : Nat} {v : Value} {xss : List (List Int)} (h : RS e w base v xss) (t : Nat) : SLk (Kd.slice t (Kd.int .i64)) w v xss := by
  obtain ⟨hs, h1, h2, h3⟩ := h
  obtain ⟨A, c, rfl, hc, hC⟩ := Kd.R_reads h1
  rw [h2] at hC hc ⊢
  refine ⟨A, c, rfl, hc, rfl, hC.2.1, fun hn => ?_⟩
  obtain ⟨ad, rfl, hcell⟩ := hC.2.2 hn
  refine ⟨ad, rfl, fun j p hj => ?_⟩
  obtain ⟨hd, a, b⟩ := h3 j p hj
  obtain ⟨cs, _, hk, hcc⟩ := hcell j hd a
  obtain ⟨A', c', e', hl, hC'⟩ := b
  refine ⟨[encH hd], rfl, ⟨A', c', by rw [e'], hl, hC'⟩, fun k u hu => ?_⟩
  have hk' : cs = [encH hd] := hk
  subst hk'
  exact hcc k u hu
end Go.Proofs.Ytohhobcipfmkbaa.U
/-! A call that draws no order, run by the kernel: for tables and closed calls. Of whatever program. -/
namespace Go.Proofs.Ytohhobcipfmkbaa.U
open Go
abbrev CallF := FuncId → Array Value → World → Option (Value × World)
def runList (P : Program) (call : CallF) (ops : Array Oper) : List Oper → Act → World → Option (Act × World)
  | [], a, w => some (a, w)
  | o :: rest, a, w =>
    if Region.wanted o (yielded ops a.tmps) then
      match (execOp a.eval o).run P w with
      | .ok (.value v) w' => runList P call ops rest (a.put o.dst v) w'
      | .ok .skip w' => runList P call ops rest (a.put o.dst undef) w'
      | .ok (.enter f args) w' => match call f args w' with
        | some (v, w2) => runList P call ops rest (a.put o.dst v) w2
        | none => none
      | _ => none
    else runList P call ops rest (a.put o.dst undef) w
def CallOk (P : Program) (call : CallF) : Prop := ∀ f args w v w', call f args w = some (v, w') → Calls P f args w fun e W => e = .returned v ∧ W = w'
theorem wpList_runList {P : Program} {call : CallF} (hcall : CallOk P call) {ops : Array Oper} {Q : Exit → Act → World → Prop} (l : List Oper) : ∀ (a a' : Act) (w w' : World), runList P call ops l a w = some (a', w') → Q .normal a' w' → wpList P ops Q l a w := by
  induction l with
  | nil =>
    intro a a' w w' h hq
    obtain ⟨rfl, rfl⟩ := Prod.mk.inj (Option.some.inj h)
    exact hq
  | cons o rest ih =>
    intro a a' w w' h hq
    unfold runList at h
    unfold wpList
    by_cases hw : Region.wanted o (yielded ops a.tmps) = true
    · rw [if_pos hw] at h ⊢
      left
      unfold Oper.wp
      cases hr : (execOp a.eval o).run P w with
      | halt x y => rw [hr] at h; cases h
      | ok n w1 =>
        rw [hr] at h
        cases n with
        | value v => exact ih _ _ _ _ h hq
        | skip => exact ih _ _ _ _ h hq
        | enter f args =>
          dsimp only at h
          cases hc : call f args w1 with
          | none => rw [hc] at h; cases h
          | some p =>
            rw [hc] at h
            rw [Oper.upon_enter]
            refine (hcall _ _ _ _ _ hc).mono ?_
            rintro e W ⟨rfl, rfl⟩
            exact ih _ _ _ _ h hq
        | _ => cases h
    · rw [if_neg hw] at h ⊢
      exact ih _ _ _ _ h hq
def loopRun (f : Act → World → Option (Exit × Act × World)) : Nat → Act → World → Option (Exit × Act × World)
  | 0, _, _ => none
  | m + 1, a, w => match f a w with
    | some (.normal, a1, w1) => loopRun f m a1 w1
    | r => r
def runC (P : Program) (call : CallF) : Nat → Code → Act → World → Option (Exit × Act × World)
  | 0, _, _, _ => none
  | n + 1, c, a, w =>
    match c with
    | .skip => some (.normal, a, w)
    | .label _ => some (.normal, a, w)
    | .exit id => some (.exit id, a, w)
    | .ret => some (.ret, a, w)
    | .region _ ops false => (runList P call ops ops.toList a w).map fun p => (.normal, p.1, p.2)
    | .seq x y => match runC P call n x a w with
      | some (.normal, a1, w1) => runC P call n y a1 w1
      | r => r
    | .cond c x y => match a.eval c with
      | .bool true => runC P call n x a w
      | .bool false => runC P call n y a w
      | _ => none
    | .block id x => match runC P call n x a w with
      | some (.exit j, a1, w1) => if j = id then some (.normal, a1, w1) else some (.exit j, a1, w1)
      | r => r
    | .loop x => loopRun (runC P call n x) n a w
    | _ => none
def CodeOk (P : Program) (f : Act → World → Option (Exit × Act × World)) (c : Code) : Prop := ∀ (a a' : Act) (w w' : World) (e : Exit) (Q : Exit → Act → World → Prop), f a w = some (e, a', w') → Q e a' w' → c.wp P Q a w
theorem loopRun_ok {P : Program} {f : Act → World → Option (Exit × Act × World)} {c : Code} (hf : CodeOk P f c) (m : Nat) : ∀ (a a' : Act) (w w' : World) (e : Exit) (Q : Exit → Act → World → Prop), loopRun f m a w = some (e, a', w') → Q e a' w' → e ≠ .normal → Code.rounds P c Q m a w := by
  induction m with
  | zero => intro a a' w w' e Q h; cases h
  | succ m ih =>
    intro a a' w w' e Q h hq hne
    rw [rounds_succ]
    unfold loopRun at h
    cases hr : f a w with
    | none => rw [hr] at h; cases h
    | some r =>
      obtain ⟨e1, a1, w1⟩ := r
      rw [hr] at h
      refine hf _ _ _ _ _ _ hr ?_
      cases e1 with
      | normal => exact ih _ _ _ _ _ _ h hq hne
      | _ => obtain ⟨rfl, rfl, rfl⟩ := h; exact hq
theorem loopRun_ne {f : Act → World → Option (Exit × Act × World)} (m : Nat) : ∀ (a a' : Act) (w w' : World) (e : Exit), loopRun f m a w = some (e, a', w') → e ≠ .normal := by
  induction m with
  | zero => intro a a' w w' e h; cases h
  | succ m ih =>
    intro a a' w w' e h
    unfold loopRun at h
    cases hr : f a w with
    | none => rw [hr] at h; cases h
    | some r =>
      obtain ⟨e1, a1, w1⟩ := r
      rw [hr] at h
      cases e1 with
      | normal => exact ih _ _ _ _ _ h
      | _ => obtain ⟨rfl, rfl, rfl⟩ := h; simp
theorem runC_ok {P : Program} {call : CallF} (hcall : CallOk P call) (n : Nat) : ∀ c, CodeOk P (runC P call n c) c := by
  induction n with
  | zero => intro c a a' w w' e Q h; cases h
  | succ n ih =>
    intro c a a' w w' e Q h hq
    cases c with
    | skip => obtain ⟨rfl, rfl, rfl⟩ := h; exact wp_skip hq
    | label l => obtain ⟨rfl, rfl, rfl⟩ := h; exact wp_label hq
    | exit id => obtain ⟨rfl, rfl, rfl⟩ := h; exact wp_exit hq
    | ret => obtain ⟨rfl, rfl, rfl⟩ := h; exact wp_ret hq
    | region id ops draw =>
      cases draw with
      | true => cases h
      | false =>
        obtain ⟨⟨a1, w1⟩, h1, h2⟩ := Option.map_eq_some_iff.1 h
        obtain ⟨rfl, rfl, rfl⟩ := h2
        exact wp_region_list (wpList_runList hcall _ _ _ _ _ h1 hq)
    | seq x y =>
      unfold runC at h
      dsimp only at h
      cases hr : runC P call n x a w with
      | none => rw [hr] at h; cases h
      | some r =>
        obtain ⟨e1, a1, w1⟩ := r
        rw [hr] at h
        refine wp_seq (ih x _ _ _ _ _ _ hr ?_)
        cases e1 with
        | normal => exact ih y _ _ _ _ _ _ h hq
        | _ => obtain ⟨rfl, rfl, rfl⟩ := h; exact hq
    | cond c x y =>
      unfold runC at h
      dsimp only at h
      cases hc : a.eval c with
      | bool b =>
        rw [hc] at h
        cases b with
        | true => exact wp_cond_true hc (ih x _ _ _ _ _ _ h hq)
        | false => exact wp_cond_false hc (ih y _ _ _ _ _ _ h hq)
      | _ => rw [hc] at h; cases h
    | block id x =>
      unfold runC at h
      dsimp only at h
      cases hr : runC P call n x a w with
      | none => rw [hr] at h; cases h
      | some r =>
        obtain ⟨e1, a1, w1⟩ := r
        rw [hr] at h
        refine wp_block (ih x _ _ _ _ _ _ hr ?_)
        cases e1 with
        | exit j =>
          dsimp only at h
          unfold Exit.inBlock
          dsimp only
          by_cases hj : j = id
          · rw [if_pos hj] at h ⊢
            obtain ⟨rfl, rfl, rfl⟩ := h; exact hq
          · rw [if_neg hj] at h ⊢
            obtain ⟨rfl, rfl, rfl⟩ := h; exact hq
        | _ => obtain ⟨rfl, rfl, rfl⟩ := h; exact hq
    | loop x =>
      unfold runC at h
      dsimp only at h
      exact wp_loop_rounds n (loopRun_ok (ih x) n _ _ _ _ _ _ h hq (loopRun_ne n _ _ _ _ _ h))
    | _ => cases h
def resOf (fn : Func) (tmps : Array Value) : Option Value :=
  match fn.results.toList with
  | [] => some (.tuple #[])
  | [.tmp t] => some (tmps.getD t undef)
  | [.tmp t, .tmp u] => some (.tuple #[tmps.getD t undef, tmps.getD u undef])
  | _ => none
theorem resOf_run {fn : Func} {tmps : Array Value} {v : Value} (h : resOf fn tmps = some v) (P : Program) (w : World) : (results fn tmps).run P w = .ok v w := by
  unfold resOf at h
  split at h
  · rename_i e; obtain rfl := Option.some.inj h; exact results_none (by rw [← Array.toArray_toList (xs := fn.results), e]) _ _ _
  · rename_i e; obtain rfl := Option.some.inj h; exact results_tmp (by rw [← Array.toArray_toList (xs := fn.results), e]) _ _ _
  · rename_i e; obtain rfl := Option.some.inj h; exact results_tmp2 (by rw [← Array.toArray_toList (xs := fn.results), e]) _ _ _
  · cases h
/-- A call, by the kernel: d calls deep, n rounds and steps in each. -/
def runF (P : Program) (n : Nat) : Nat → CallF
  | 0, _, _, _ => none
  | d + 1, f, args, w =>
    match P.funcs[f]? with
    | none => none
    | some fn => match fn.body with
      | none => none
      | some c => match runC P (runF P n d) n c { tmps := args ++ Array.replicate (fn.ntmps - args.size) undef, defers := [] } w with
        | some (.ret, a, w') => if a.defers.length = 0 then (resOf fn a.tmps).map fun v => (v, w') else none
        | some (.normal, a, w') => if a.defers.length = 0 then (resOf fn a.tmps).map fun v => (v, w') else none
        | _ => none
theorem runF_ok {P : Program} (n d : Nat) : CallOk P (runF P n d) := by
  induction d with
  | zero => intro f args w v w' h; cases h
  | succ d ih =>
    intro f args w v w' h
    unfold runF at h
    cases hf : P.funcs[f]? with
    | none => rw [hf] at h; cases h
    | some fn =>
      rw [hf] at h
      dsimp only at h
      cases hb : fn.body with
      | none => rw [hb] at h; cases h
      | some c =>
        rw [hb] at h
        dsimp only at h
        refine calls_of_wp hf hb ?_
        cases hr : runC P (runF P n d) n c { tmps := args ++ Array.replicate (fn.ntmps - args.size) undef, defers := [] } w with
        | none => rw [hr] at h; cases h
        | some r =>
          obtain ⟨e, a, w1⟩ := r
          rw [hr] at h
          refine runC_ok ih n c _ _ _ _ _ _ hr ?_
          cases e with
          | ret =>
            dsimp only at h
            split at h
            · rename_i hd
              obtain ⟨v', h1, h2⟩ := Option.map_eq_some_iff.1 h
              obtain ⟨rfl, rfl⟩ := Prod.mk.inj h2
              exact ⟨List.eq_nil_of_length_eq_zero hd, _, resOf_run h1 _ _, rfl, rfl⟩
            · cases h
          | normal =>
            dsimp only at h
            split at h
            · rename_i hd
              obtain ⟨v', h1, h2⟩ := Option.map_eq_some_iff.1 h
              obtain ⟨rfl, rfl⟩ := Prod.mk.inj h2
              exact ⟨List.eq_nil_of_length_eq_zero hd, _, resOf_run h1 _ _, rfl, rfl⟩
            · cases h
          | _ => cases h
end Go.Proofs.Ytohhobcipfmkbaa.U
