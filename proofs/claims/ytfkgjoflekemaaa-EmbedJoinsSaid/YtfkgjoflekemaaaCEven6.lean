/- slices.Backward on whole numbers; what ends a paragraph ((*walk).ends): walked. -/
import Derived.Test.YtfkgjoflekemaaaCEven5
import Derived.RangeFuncNested
import Derived.RangeFuncBox
import Derived.RangeFuncBound
import Derived.RangeFuncCalls
import Derived.RangeFuncLeaves
import Derived.Shelf.Abstract
import Derived.Shelf.RegionOpen
import Derived.WalkKit
import Derived.OwnWalkIn
import Derived.TacticsInMore
import Derived.LoopNIn
import Derived.LoopIn
import Derived.Maps.AppendAt
namespace Go.Proofs.Ytfkgjoflekemaaa.CBack
open Go Go.Proofs Go.RowKit Go.Shelf Go.Proofs.YtfkgjoflekemaaaW.PrintWords Go.Proofs.Ytfkgjoflekemaaa.U Go.Proofs.Ytfkgjoflekemaaa.CBase Go.Proofs.Ytfkgjoflekemaaa.UEven Go.Proofs.Ytfkgjoflekemaaa.CEven
set_option linter.unusedVariables false
set_option linter.unusedSimpArgs false
attribute [local go_sem] Oper.semAt_some
def upto {α : Type} (f : Nat → α) (k : Nat) : List α := (List.range k).map f
theorem upto_succ {α : Type} (f : Nat → α) (k : Nat) : upto f (k + 1) = upto f k ++ [f k] := by simp [upto, List.range_succ]
theorem upto_length {α : Type} (f : Nat → α) (k : Nat) : (upto f k).length = k := by simp [upto]
/-- the places of a list from the last one on, and what is there -/
def backF (zs : List Int) (j : Nat) : Int × Int := (((zs.length - 1 - j : Nat) : Int), zs.getD (zs.length - 1 - j) 0)
theorem back_map (zs : List Int) : (upto (backF zs) zs.length).map (·.2) = zs.reverse := by
  unfold upto
  rw [List.map_map]
  apply List.ext_getElem
  · simp
  · intro i h1 h2
    simp at h1
    simp [backF, List.getElem_reverse]
    rw [List.getElem?_eq_getElem (by omega)]
    rfl
set_option maxRecDepth 100000 in
set_option maxHeartbeats 2000000 in
theorem back1_in (F : Fence) (n : Nat) (h7 : F.fn 192) (hro : F.round = none) (hn : 1 ≤ n) (l Bs : Nat) (Kp : World → World → Prop) (hKt : ∀ {A B C : World}, Kp A B → Kp B C → Kp A C) (hKr : ∀ A, Kp A A) (v : Value) (zs : List Int) (hm : zs.length ≤ 1000000) (P : Int → Prop) (L : List {x : Int × Int // P x.2}) (hL : L.map (·.1) = upto (backF zs) zs.length) (J Jx : List {x : Int × Int // P x.2} → World → Prop)
    (hY : ∀ pre x W, J pre W → pre.length < zs.length → YieldAt F (n - 1) Try.prog l #[.int .i64 x.1.1, .int .i64 x.1.2] W fun e W' =>
      (e = .returned (.bool true) ∧ J (pre ++ [x]) W' ∧ Kp W W') ∨ (e = .returned (.bool false) ∧ Jx (pre ++ [x]) W'))
    (W : World) (hBs : ∀ W', Kp W W' → W'.cell? ⟨Bs, 0, none⟩ = some v) (hS : ∀ W', Kp W W' → SL W' v zs) (h0 : J [] W) :
    CallsIn F n Try.prog 192 #[.func (.yield l) #[] #[], .pointer (some ⟨Bs, 0, none⟩)] W fun e W' => (∃ v, e = .returned v) ∧
      ((∃ ys, ys = L ∧ J ys W') ∨ (∃ pre, True ∧ Jx pre W')) := by
  obtain ⟨A, c, rfl, _, _⟩ := hS W (hKr W)
  have hBW := hBs W (hKr W)
  have hLl : L.length = zs.length := by have := congrArg List.length hL; rw [List.length_map, upto_length] at this; exact this
  refine callsIn_of_wp Try.func192 rfl h7 ?_ hro
  simp only [Try.ntmps192, List.size_toArray, List.length_cons, List.length_nil, Nat.reduceAdd, Nat.reduceSub, Array.replicate_succ, Array.replicate_zero, List.push_toArray, List.append_toArray, List.nil_append, List.cons_append]
  gi_wp2
  gi_loopw [3] (fun i wr => ∃ k : Nat, k ≤ zs.length ∧ i = .int .i64 ((zs.length : Int) - 1 - k) ∧ J (L.take k) wr ∧ Kp W wr)
    (fun i _ => (intOf i + 1).toNat)
  case atStart => exact ⟨0, Nat.zero_le _, by simp, by simpa using h0, hKr _⟩
  case round =>
    obtain ⟨k, hk, rfl, hJs, hnx⟩ := hrel
    by_cases hlt : k < zs.length
    · obtain ⟨i, hi⟩ : ∃ i : Nat, i = zs.length - 1 - k := ⟨_, rfl⟩
      have ei : (zs.length : Int) - 1 - k = i := by omega
      rw [ei]
      obtain ⟨ad, c1, ea, hct⟩ := SLk.at_int (hS wr hnx) (i : Int) (by omega) (by omega)
      injection ea with e1 e2 e3
      subst e1
      rw [rd_nat, Int.toNat_natCast] at hct
      obtain ⟨fn, tmps, assign, body, hy, hR⟩ := hY _ (L[k]'(by omega)) wr hJs (by rw [List.length_take]; omega)
      have hb : (L[k]'(by omega)).1 = ((i : Int), zs.getD i 0) := by
        have h1 : (L.map (·.1))[k]? = (upto (backF zs) zs.length)[k]? := by rw [hL]
        rw [List.getElem?_map, List.getElem?_eq_getElem (by omega)] at h1
        unfold upto at h1
        rw [List.getElem?_map, List.getElem?_range hlt] at h1
        have h2 : (L[k]'(by omega)).1 = backF zs k := Option.some.inj h1
        refine h2.trans ?_
        unfold backF
        rw [← hi]
      have htk : L.take (k + 1) = L.take k ++ [L[k]'(by omega)] := List.take_succ_eq_append_getElem (by omega)
      rw [← htk] at hR
      rw [hb] at hy
      dsimp only at hy
      have hcb := hBs wr hnx
      obtain ⟨x, hx⟩ : ∃ x, x = zs.getD i 0 := ⟨_, rfl⟩
      rw [← hx] at hct hy
      have hil : (i : Int) < zs.length := by omega
      have HEI := Aside0.mk ei
      have HI := Aside0.mk hi
      clear hx e2 e3 ei hi hb htk
      gi_wp2
      refine hR.mono ?_
      rintro e W3 (⟨rfl, hJ3, hk3⟩ | ⟨rfl, hJx3⟩)
      · gi_wp2
        go_roundw
        case rel => exact ⟨k + 1, by omega, by have := HEI.out; congr 1; omega, hJ3, hKt hnx hk3⟩
        case measure => simp [intOf] <;> omega
      · gi_wp2
        refine bodyPost_ret (results_none rfl _ _ _) rfl ?_
        exact ⟨⟨_, rfl⟩, .inr ⟨_, trivial, hJx3⟩⟩
    · obtain rfl : k = zs.length := by omega
      gi_wp2
      go_end0
      exact ⟨⟨_, rfl⟩, .inl ⟨_, rfl, by rwa [List.take_of_length_le (by omega)] at hJs⟩⟩
set_option maxHeartbeats 1000000 in
theorem back_in (F : Fence) (n : Nat) (h5 : F.fn 178) (hro : F.round = none) (A : Option Addr) (ln cp : Nat) (w : World) :
    CallsIn F n Try.prog 178 #[.slice A ln cp] w fun e w' => e = .returned (.func (.func 192) #[] #[.pointer (some ⟨w.heap.size, 0, none⟩)]) ∧ w' = w.alloc (.cells #[.slice A ln cp] 22) := by
  refine callsIn_of_wp Try.func178 rfl h5 ?_ hro
  simp only [Try.ntmps178, List.size_toArray, List.length_cons, List.length_nil, Nat.reduceAdd, Nat.reduceSub, Array.replicate_succ, Array.replicate_zero, List.push_toArray, List.append_toArray, List.nil_append, List.cons_append]
  gi_wp2
  go_ret
  exact ⟨rfl, rfl⟩
theorem back_stops (F : Fence) (n : Nat) (h7 : F.fn 192) (hro : F.round = none) (hn : 1 ≤ n) (Bs : Nat) (Kp : World → World → Prop) (hKt : ∀ {A B C : World}, Kp A B → Kp B C → Kp A C) (hKr : ∀ A, Kp A A) (v : Value) (zs : List Int) (hm : zs.length ≤ 1000000) (P : Int → Prop) (L : List {x : Int × Int // P x.2}) (hL : L.map (·.1) = upto (backF zs) zs.length) (w : World) (hBs : ∀ W W', Below w.heap.size w W → Kp W W' → W'.cell? ⟨Bs, 0, none⟩ = some v) (hS : ∀ W W', Below w.heap.size w W → Kp W W' → SL W' v zs) :
    SeqStopsK F n Try.prog 192 #[.pointer (some ⟨Bs, 0, none⟩)] (fun x : {x : Int × Int // P x.2} => #[Value.int .i64 x.1.1, Value.int .i64 x.1.2]) Kp (fun ys => ys = L) (fun _ => True) zs.length w := fun l J Jx W hW _ _ hY h0 =>
  back1_in F n h7 hro hn l Bs Kp hKt hKr v zs hm P L hL J Jx hY W (fun W' hb => hBs W W' hW hb) (fun W' hb => hS W W' hW hb) h0
/-! ### what ends a paragraph -/
/-- what lay below stays, and one box -/
def KB (n₀ B : Nat) (W W' : World) : Prop := Below n₀ W W' ∧ ∀ v, Boxed W B 22 v → Boxed W' B 22 v
theorem KB_t {n₀ B : Nat} {X Y Z : World} (h : KB n₀ B X Y) (k : KB n₀ B Y Z) : KB n₀ B X Z := ⟨h.1.trans k.1, fun v hb => k.2 v (h.2 v hb)⟩
theorem KB_r (n₀ B : Nat) (X : World) : KB n₀ B X X := ⟨Below.refl _ _, fun _ h => h⟩
theorem KB_b {n₀ B : Nat} {w : World} (hn : n₀ ≤ w.heap.size) (W : World) (l : Nat) (o o' : Obj) (hl : w.heap.size ≤ l) (h : W.heap[l]? = some o) (hc : o.isCells = false) (hw : o.isWalk = false) : KB n₀ B W (W.putObj l o') :=
  ⟨belowK_b hn W l o o' hl h hc hw, fun v hb => hb.kept (grownBy_putObj' W l o') (fun e => by
    cases e
    rw [show W.heap[B]? = _ from hb] at h
    cases h
    cases hc)⟩
def endC (cls : List Int) (x : Int × Int) : Int := if isoB (rd cls x.2) then 0x2069 else 0x202C
theorem ends_map (cls s : List Int) : (upto (backF s.reverse) s.reverse.length).map (endC cls) = ends (rd cls) s := by
  have h := back_map s.reverse
  rw [List.reverse_reverse] at h
  unfold ends
  conv => rhs; rw [← h]
  rw [List.map_map]
  rfl
theorem exists_sub {α : Type} (P : α → Prop) : ∀ l : List α, (∀ x ∈ l, P x) → ∃ L : List {x // P x}, L.map (·.1) = l
  | [], _ => ⟨[], rfl⟩
  | x :: l, h => by
    obtain ⟨L, hL⟩ := exists_sub P l fun y hy => h y (List.mem_cons_of_mem _ hy)
    exact ⟨⟨x, h x List.mem_cons_self⟩ :: L, by rw [List.map_cons, hL]⟩
set_option maxRecDepth 100000 in
set_option maxHeartbeats 2000000 in
theorem ends_c {w : World} {base g : Nat} {cv : Value} {cls : List Int} {st : UEven.W} (hC : SL w cv cls) (hW : WT w base g cv st) (hi : ∀ j ∈ st.stack, 0 ≤ j ∧ j < cls.length) (hm : st.stack.length ≤ 1000000) :
    Calls Try.prog 175 #[.pointer (some ⟨g, 0, none⟩)] w fun e w' => ∃ u, e = .returned u ∧ Kd.R (Kd.int .i64) 3 w' w.heap.size (fun _ => True) u (ends (rd cls) st.stack) ∧ Below w.heap.size w w' := by
  obtain ⟨vs, vl, vo, hW⟩ := hW
  have HW := Aside0.mk hW
  have HC := Aside0.mk hC
  have HI := Aside0.mk hi
  obtain ⟨A1, c1, rfl⟩ := Kd.R_slice hW.own.ra
  obtain ⟨d0, d1, d2, d3⟩ := hW.cells
  have hgl := blk_lt hW.blk
  have hql : st.stack.reverse.length ≤ 1000000 := by rw [List.length_reverse]; exact hm
  have hqi : ∀ j ∈ st.stack.reverse, 0 ≤ j ∧ j < cls.length := fun j hj => hi j (List.mem_reverse.1 hj)
  have hem := ends_map cls st.stack
  obtain ⟨q, hq⟩ : ∃ q, q = st.stack.reverse := ⟨_, rfl⟩
  rw [← hq] at HW d1 hql hqi hem
  rw [← hem]
  clear hW hC hi hq hem
  have hpl : ∀ x ∈ upto (backF q) q.length, (0 ≤ x.2 ∧ x.2 < (cls.length : Int)) := fun x hx => by
    have : x.2 ∈ (upto (backF q) q.length).map (·.2) := List.mem_map_of_mem hx
    rw [back_map] at this
    exact hqi _ (List.mem_reverse.1 this)
  obtain ⟨L, hL⟩ : ∃ L : List {x : Int × Int // 0 ≤ x.2 ∧ x.2 < (cls.length : Int)}, L.map (·.1) = upto (backF q) q.length := exists_sub (fun x : Int × Int => 0 ≤ x.2 ∧ x.2 < (cls.length : Int)) _ hpl
  have hLm : L.map (fun x => endC cls x.1) = (upto (backF q) q.length).map (endC cls) := by rw [← hL, List.map_map]; rfl
  rw [← hLm]
  clear hpl hLm
  obtain ⟨i0, hi0, hz0, hz1, hz2⟩ := info_parts CSlices.info3
  refine (callsIn_wide (n := 4)).1 ?_
  refine callsIn_of_wp_marks Try.func175 rfl trivial ?_ rfl
  simp only [Try.ntmps175, List.size_toArray, List.length_cons, List.length_nil, Nat.reduceAdd, Nat.reduceSub, Array.replicate_succ, Array.replicate_zero, List.push_toArray, List.append_toArray, List.nil_append, List.cons_append]
  gi_wp2_with (refine ⟨trivial, ?_⟩; gi_at_call 178; refine (back_in Fence.wide _ trivial rfl _ _ _ _).mono ?_; rintro e w' ⟨rfl, rfl⟩)
  have bP := Boxed.new w 159 (.pointer (some ⟨g, 0, none⟩))
  have bO := Boxed.new (w.alloc (.cells #[.pointer (some ⟨g, 0, none⟩)] 159)) 22 (.slice none 0 0)
  have bS := Boxed.new ((w.alloc (.cells #[.pointer (some ⟨g, 0, none⟩)] 159)).alloc (.cells #[.slice none 0 0] 22)) 22 (.slice A1 q.length c1)
  rw [World.size_alloc] at bO
  rw [World.size_alloc, World.size_alloc] at bS
  have hB0 : Below w.heap.size w (((w.alloc (.cells #[.pointer (some ⟨g, 0, none⟩)] 159)).alloc (.cells #[.slice none 0 0] 22)).alloc (.cells #[.slice A1 q.length c1] 22)) := (((Below.refl _ w).alloc (Nat.le_refl _) _).alloc (by simp) _).alloc (by simp; omega) _
  have bP2 := (bP.alloc (.cells #[.slice none 0 0] 22)).alloc (.cells #[.slice A1 q.length c1] 22)
  have bO2 := bO.alloc (.cells #[.slice A1 q.length c1] 22)
  have hkeep : ∀ W', Below w.heap.size w W' → SL W' (.slice A1 q.length c1) q := fun W' hb => SLk.of_R (Kd.R_below HW.out.own.ra hb)
  obtain ⟨W0, hW0⟩ : ∃ W0, (((w.alloc (.cells #[.pointer (some ⟨g, 0, none⟩)] 159)).alloc (.cells #[.slice none 0 0] 22)).alloc (.cells #[.slice A1 q.length c1] 22)) = W0 := ⟨_, rfl⟩
  have hsz : W0.heap.size = w.heap.size + 3 := by rw [← hW0]; simp
  rw [hW0] at bS bP2 bO2 hB0 ⊢
  refine wpIn_rangeFunc_ownG rfl (by omega) (gf := 192) (lb := #[.pointer (some ⟨w.heap.size + 2, 0, none⟩)]) rfl trivial (enters_of Try.func192 (by kernel_rfl) rfl)
    (back_stops Fence.wide _ trivial rfl (by omega) (w.heap.size + 2) (KB w.heap.size (w.heap.size + 2)) KB_t (KB_r _ _) _ q hql (fun y => 0 ≤ y ∧ y < (cls.length : Int)) L hL W0 (fun W W' hW hb => (hb.2 _ ((hW.block _ bS.lt).trans bS)).cell) (fun W W' hW hb => hkeep W' ((hB0.trans (hW.mono (by omega))).trans hb.1))) KB_t (KB_b (by omega)) (Below.refl _ _) (fun _ => rfl)
    (fun (pre : List {x : Int × Int // 0 ≤ x.2 ∧ x.2 < (cls.length : Int)}) W => ((∃ v, Boxed W (w.heap.size + 1) 22 v ∧ W.ownsRow w.heap.size 3 1 v (pre.map fun x => endC cls x.1).length ((pre.map fun x => endC cls x.1).map (Value.int .i64)) ∧ True) ∧ Boxed W w.heap.size 159 (.pointer (some ⟨g, 0, none⟩))) ∧ Below w.heap.size w W)
    (fun _ _ _ => False)
    (OwnFrom.and (OwnFrom.and (Own.from (holdsRow_own w.heap.size (w.heap.size + 1) 22 3 1 (fun (pre : List {x : Int × Int // 0 ≤ x.2 ∧ x.2 < (cls.length : Int)}) => (pre.map fun x => endC cls x.1).length) (fun (pre : List {x : Int × Int // 0 ≤ x.2 ∧ x.2 < (cls.length : Int)}) => (pre.map fun x => endC cls x.1).map (Value.int .i64)) (fun _ _ => True)) _) (Own.from (boxed_own w.heap.size 159 (fun _ => .pointer (some ⟨g, 0, none⟩))) _)) (ownFrom_below (Nat.le_refl _) (by omega)))
    (fun _ _ _ _ _ hs _ _ => hs)
    ⟨⟨⟨_, bO2, World.ownsRow_nil _ _ _ _, trivial⟩, bP2⟩, hB0⟩
    (fun x => { tmps := #[.pointer (some ⟨g, 0, none⟩), .pointer (some ⟨w.heap.size, 0, none⟩), .slice none 0 0, .pointer (some ⟨w.heap.size + 1, 0, none⟩), undef, .int .i64 x.1.2, undef, .pointer (some ⟨g, 0, none⟩), .pointer (some ⟨g, 0, none⟩), .pointer (some ⟨g, 1, none⟩), .slice A1 q.length c1, .func (.func 192) #[] #[.pointer (some ⟨w.heap.size + 2, 0, none⟩)], .int .i64 x.1.1, .int .i64 x.1.2, undef, undef, undef, undef, undef, undef, undef, undef, undef, undef, undef, undef, undef], defers := [] }) ?assign ?body ?done ?stop
  case assign =>
    intro l x W K hK
    gi_wp2
    exact hK
  case body =>
    rintro l pre x W ⟨⟨⟨v, hv, hrow, _⟩, hbp⟩, hB⟩ hlt
    obtain ⟨⟨xi, y⟩, hy0, hy1⟩ := x
    dsimp only at hy0 hy1
    obtain ⟨ad, ca, ecv, hx⟩ := SLk.at_int (SLk.below HC.out hB) y hy0 hy1
    have e0 : ((y.toNat : Nat) : Int) = y := by omega
    have hcp := hbp.cell
    have dg : W.cell? ⟨g, 0, none⟩ = some (.slice (some ad) cls.length ca) := by rw [← ecv]; exact (hB.cell (p := ⟨g, 0, none⟩) hgl).trans d0
    have hpl : (pre.map fun x => endC cls x.1).length ≤ 1000000 := by rw [List.length_map]; omega
    obtain ⟨b, hb⟩ : ∃ b, b = isoB (rd cls y) := ⟨_, rfl⟩
    have HBB := Aside0.mk hb
    have hone : 1 ≤ 4 - 1 - 1 := by omega
    have hsn : (List.map (fun x : {x : Int × Int // 0 ≤ x.2 ∧ x.2 < (cls.length : Int)} => endC cls x.1) (pre ++ [⟨(xi, y), hy0, hy1⟩])) = List.map (fun x => endC cls x.1) pre ++ [if b then 0x2069 else 0x202C] := by rw [List.map_append, hb]; rfl
    have HSN := Aside0.mk hsn
    obtain ⟨ps, hps⟩ : ∃ ps, ps = List.map (fun x : {x : Int × Int // 0 ≤ x.2 ∧ x.2 < (cls.length : Int)} => endC cls x.1) pre := ⟨_, rfl⟩
    rw [← hps] at hrow hpl HSN
    clear hb hsn hps hlt
    cases b with
    | true =>
      gi_wp2_with fail
      refine ⟨trivial, ?_⟩
      refine (CallsIn.inRound l (callsIn_wide.2 (isolates_c _ _))).mono ?_
      rintro e w2 ⟨rfl, hb2⟩
      rw [← HBB.out]
      have hv2 : Boxed w2 (w.heap.size + 1) 22 v := (hb2.block _ hv.lt).trans hv
      have hbp2 : Boxed w2 w.heap.size 159 (.pointer (some ⟨g, 0, none⟩)) := (hb2.block _ hbp.lt).trans hbp
      have hrow2 : w2.ownsRow w.heap.size 3 1 v ps.length (ps.map (Value.int .i64)) := Kd.own_of_R (Kd.R_below (Kd.R_of_own (h1 := fun _ => rfl) (ok := fun _ => True) hrow (fun _ _ => trivial)) hb2)
      have hc2 := hv2.cell
      have hbs2 := hB.size
      have hbs3 := hb2.size
      gi_wp2_with (gi_at_builtin; refine wpListIn_append_own _ rfl _ _ 22 rfl w.heap.size 3 i0 (.int .i64 0) 1 8 Try.underlying22 hi0 hz0 hz1 hz2 rfl (by decide) _ _ _ rfl (hrow2.alloc _) ⟨w2.heap.size, 0, none⟩ 1 1 [.int .i64 8297] rfl rfl (cell_one_new _ _ _) (by simp [Value.oneCell']) (by unfold maxLen; omega) (by omega) (by simp; omega) ?_; intro v' w3 hown' hgrow _; obtain ⟨g', cap', rfl⟩ := ownsRow_succ hown'; obtain ⟨hv3, hv4, hr3, hk2, hb3⟩ := hv2.appended (by decide) hrow2 (Nat.le_trans hbs2 hbs3) (Nat.le_succ _) hown' hgrow; have hc3 := hv3.cell; have hf3 := hv3.frozen)
      refine ⟨((KeepsOthers.of_grownBy (grown_of_below hb2 none) (fun j o ej => by cases ej)).trans hk2).from _, ⟨(below_to hb2 hbs2).trans hb3, fun u hbx => Boxed.other (Boxed.kept (Boxed.alloc ((hb2.block _ hbx.lt).trans hbx) _) hgrow (Boxed.not_row ((hb2.block _ hbx.lt).trans hbx) (by decide) hrow2)) (by omega) _⟩, ⟨⟨⟨_, hv4, by rw [HSN.out]; simpa using hr3, trivial⟩, ?_⟩, hB.trans ((below_to hb2 hbs2).trans hb3)⟩⟩
      exact Boxed.other ((hbp2.alloc _).kept hgrow (hbp2.not_row (by decide) hrow2)) (by omega) _
    | false =>
      gi_wp2_with fail
      refine ⟨trivial, ?_⟩
      refine (CallsIn.inRound l (callsIn_wide.2 (isolates_c _ _))).mono ?_
      rintro e w2 ⟨rfl, hb2⟩
      rw [← HBB.out]
      have hv2 : Boxed w2 (w.heap.size + 1) 22 v := (hb2.block _ hv.lt).trans hv
      have hbp2 : Boxed w2 w.heap.size 159 (.pointer (some ⟨g, 0, none⟩)) := (hb2.block _ hbp.lt).trans hbp
      have hrow2 : w2.ownsRow w.heap.size 3 1 v ps.length (ps.map (Value.int .i64)) := Kd.own_of_R (Kd.R_below (Kd.R_of_own (h1 := fun _ => rfl) (ok := fun _ => True) hrow (fun _ _ => trivial)) hb2)
      have hc2 := hv2.cell
      have hbs2 := hB.size
      have hbs3 := hb2.size
      gi_wp2_with (gi_at_builtin; refine wpListIn_append_own _ rfl _ _ 22 rfl w.heap.size 3 i0 (.int .i64 0) 1 8 Try.underlying22 hi0 hz0 hz1 hz2 rfl (by decide) _ _ _ rfl (hrow2.alloc _) ⟨w2.heap.size, 0, none⟩ 1 1 [.int .i64 8236] rfl rfl (cell_one_new _ _ _) (by simp [Value.oneCell']) (by unfold maxLen; omega) (by omega) (by simp; omega) ?_; intro v' w3 hown' hgrow _; obtain ⟨g', cap', rfl⟩ := ownsRow_succ hown'; obtain ⟨hv3, hv4, hr3, hk2, hb3⟩ := hv2.appended (by decide) hrow2 (Nat.le_trans hbs2 hbs3) (Nat.le_succ _) hown' hgrow; have hc3 := hv3.cell; have hf3 := hv3.frozen)
      refine ⟨((KeepsOthers.of_grownBy (grown_of_below hb2 none) (fun j o ej => by cases ej)).trans hk2).from _, ⟨(below_to hb2 hbs2).trans hb3, fun u hbx => Boxed.other (Boxed.kept (Boxed.alloc ((hb2.block _ hbx.lt).trans hbx) _) hgrow (Boxed.not_row ((hb2.block _ hbx.lt).trans hbx) (by decide) hrow2)) (by omega) _⟩, ⟨⟨⟨_, hv4, by rw [HSN.out]; simpa using hr3, trivial⟩, ?_⟩, hB.trans ((below_to hb2 hbs2).trans hb3)⟩⟩
      exact Boxed.other ((hbp2.alloc _).kept hgrow (hbp2.not_row (by decide) hrow2)) (by omega) _
  case done =>
    rintro D ys W hD rfl ⟨⟨⟨v, hv, hrow, _⟩, hbp⟩, hB⟩ hK
    have hc := hv.cell
    gi_wp2
    refine ⟨by simp, .inl ⟨_, _, rfl, run_takeDeferred hK, ?_⟩⟩
    exact ⟨_, results_tmp rfl _ _ _, v, rfl, Kd.R_of_own (h1 := fun _ => rfl) (ownsRow_putObj hrow _ hK rfl) (fun _ _ => trivial), hB.trans (belowK_b (w := w) (Nat.le_refl _) W D _ _ (by omega) hK rfl rfl)⟩
  case stop =>
    rintro D c pre W _ _ h _
    exact h.elim
end Go.Proofs.Ytfkgjoflekemaaa.CBack
