/- Merged of own texts: PureAll, CAll. -/
import Derived.Test.YtfkgjoflekemaaaPAllx2
import Derived.Test.YtfkgjoflekemaaaPhasx1
import Derived.Test.YtfkgjoflekemaaaUPlain
import Derived.Test.YtfkgjoflekemaaaCMark
import Derived.Deep.RegionLaw
import Derived.Deep.DeepCutAuto
/-! What the document's functions for marks tell: the plain words of UMark. -/
namespace Go.Proofs.Ytfkgjoflekemaaa.PureAll
open Go.RowKit Go.Proofs.Ytfkgjoflekemaaa.PAll Go.Proofs.YtfkgjoflekemaaaW.PrintWords Go.Proofs.Ytfkgjoflekemaaa.U Go.Proofs.Ytfkgjoflekemaaa.UMark
theorem rpile_eq (a : Int) : naskhref09_Pile.f 10 a = some (pile a) := by
  by_cases h : a = 1612 ∨ a = 1613 ∨ a = 1614 ∨ a = 1615 ∨ a = 1616 ∨ a = 1648
  · rcases h with rfl | rfl | rfl | rfl | rfl | rfl <;> decide +kernel
  · simp only [not_or] at h
    obtain ⟨h1, h2, h3, h4, h5, h6⟩ := h
    simp [naskhref09_Pile.f, api_Piles.f, naskhref09_Pile.l0, rd_T112, wrap64, pile, h1, h2, h3, h4, h5, h6, Ne.symm h1, Ne.symm h2, Ne.symm h3, Ne.symm h4, Ne.symm h5, Ne.symm h6]
theorem rpile_ev (a : Int) : Ev (fun k => naskhref09_Pile.f k a) (pile a) := ev_at (fun k => naskhref09_Pile.mono a k) 10 (rpile_eq a)
theorem pilesN_snoc (text : List Int) (n : Nat) : ((List.range (n + 1)).filter (pileAt text)).map (fun i : Nat => (i : Int)) = ((List.range n).filter (pileAt text)).map (fun i : Nat => (i : Int)) ++ (if pileAt text n then [(n : Int)] else []) := by
  rw [List.range_succ, List.filter_append, List.map_append]
  congr 1
  cases h : pileAt text n <;> simp [h]
theorem rpiles_loop (text : List Int) (hm : text.length ≤ 1000000) (n : Nat) : ∀ (i : Nat) (out : List Int), i + n = text.length → out = ((List.range i).filter (pileAt text)).map (fun i : Nat => (i : Int)) →
    Ev (fun k => naskhref15_Piles.l0 k text out i) (pilesL text) := by
  induction n with
  | zero =>
    intro i out hi ho
    refine Ev.step (fun k => by rw [naskhref15_Piles.l0]) ?_
    rw [w64 (by omega) (by omega)]
    refine ev_neg (by omega) (ev_eq (ev_now _) ?_)
    rw [ho, show i = text.length by omega]
    rfl
  | succ n ih =>
    intro i out hi ho
    have hol : out.length < 17592186044416 := by
      rw [ho, List.length_map]
      have := List.length_filter_le (pileAt text) (List.range i)
      rw [List.length_range] at this
      omega
    refine Ev.step (fun k => by rw [naskhref15_Piles.l0]) ?_
    rw [w64 (by omega) (by omega)]
    have key : ∀ o, o = out ++ (if pileAt text i then [(i : Int)] else []) → Ev (fun k => naskhref15_Piles.l0 k text o ((i : Int) + 1)) (pilesL text) := by
      rintro o rfl
      refine ih (i + 1) _ (by omega) ?_
      rw [pilesN_snoc, ho]
    by_cases h2 : (i : Int) + 1 < text.length
    · refine ev_pos h2 (ev_pos (by omega) (ev_bind (rpile_ev _) ?_))
      refine ev_ite (fun h3 => ev_pos (by omega) (ev_pos (by omega) (ev_ite (fun h4 => ev_pos hol ?_) (fun h4 => ?_)))) (fun h3 => ?_)
      · refine key _ ?_
        unfold pileAt
        rw [decide_eq_true (by omega), decide_eq_true h4, show ((i + 1 : Nat) : Int) = (i : Int) + 1 by omega, h3]
        rfl
      · refine key _ ?_
        unfold pileAt
        rw [decide_eq_false h4]
        simp
      · refine key _ ?_
        unfold pileAt
        rw [show ((i + 1 : Nat) : Int) = (i : Int) + 1 by omega, Bool.eq_false_iff.mpr h3]
        simp
    · refine ev_neg h2 (ev_eq (ev_now _) ?_)
      have hn : n = 0 := by omega
      have hp : pileAt text i = false := by unfold pileAt; rw [decide_eq_false (by omega)]; simp
      have := pilesN_snoc text i
      rw [hp, show i + 1 = text.length by omega] at this
      rw [ho]
      unfold pilesL pilesN
      rw [this]
      simp
theorem rpiles_ev (text : List Int) (hm : text.length ≤ 1000000) : Ev (fun k => naskhref15_Piles.f k text) (pilesL text) := rpiles_loop text hm text.length 0 [] (by omega) rfl
theorem has_loop (xs : List Int) (x : Int) (hm : xs.length ≤ 1000000) (n : Nat) : ∀ i : Nat, i + n = xs.length → Ev (fun k => Phas.naskhref15_has.l0 k xs x i) (decide (x ∈ xs.drop i)) := by
  induction n with
  | zero =>
    intro i hi
    refine Ev.step (fun k => by rw [Phas.naskhref15_has.l0]) (ev_neg (by omega) (ev_eq (ev_now _) ?_))
    rw [List.drop_of_length_le (by omega)]
    simp
  | succ n ih =>
    intro i hi
    refine Ev.step (fun k => by rw [Phas.naskhref15_has.l0]) (ev_pos (by omega) (ev_pos (by omega) ?_))
    rw [rd_get (show i < xs.length by omega), List.drop_eq_getElem_cons (l := xs) (show i < xs.length by omega), w64 (by omega) (by omega)]
    refine ev_ite (fun h => ev_eq (ev_now _) ?_) (fun h => ev_eq (ih (i + 1) (by omega)) ?_)
    · rw [h, decide_eq_true List.mem_cons_self]
    · congr 1
      rw [List.mem_cons]
      apply propext
      constructor
      · exact .inr
      · rintro (h' | h')
        · exact absurd h'.symm h
        · exact h'
theorem has_ev (xs : List Int) (x : Int) (hm : xs.length ≤ 1000000) : Ev (fun k => Phas.naskhref15_has.f k xs x) (decide (x ∈ xs)) := by
  have := has_loop xs x hm xs.length 0 (by omega)
  rwa [List.drop_zero] at this
theorem has_piles (text : List Int) (i : Nat) : decide ((i : Int) ∈ pilesL text) = pileAt text i := by
  rw [Bool.eq_iff_iff, decide_eq_true_iff, ← mem_piles]
  unfold pilesL
  rw [List.mem_map]
  constructor
  · rintro ⟨j, hj, e⟩
    obtain rfl : j = i := by omega
    exact hj
  · exact fun h => ⟨i, h, rfl⟩
theorem has_piles_pred (text : List Int) (i : Nat) : decide ((i : Int) - 1 ∈ pilesL text) = (decide (1 ≤ i) && pileAt text (i - 1)) := by
  by_cases h : 1 ≤ i
  · rw [decide_eq_true h, Bool.true_and, ← has_piles, show ((i - 1 : Nat) : Int) = (i : Int) - 1 by omega]
  · rw [decide_eq_false h, Bool.false_and, decide_eq_false]
    unfold pilesL
    rw [List.mem_map]
    rintro ⟨j, hj, e⟩
    omega
end Go.Proofs.Ytfkgjoflekemaaa.PureAll
/-! The document's answer for all marks of a text; and that two lists of lists that are the same are told so. -/
namespace Go.Proofs.Ytfkgjoflekemaaa.CAll
open Go.RowKit Go.Proofs.Ytfkgjoflekemaaa.PAll Go.Proofs.YtfkgjoflekemaaaW.PrintWords Go.Proofs.YtfkgjoflekemaaaW.PrintMore Go.Proofs.YtfkgjoflekemaaaW.PrintLast Go.Proofs.Ytfkgjoflekemaaa.U Go.Proofs.Ytfkgjoflekemaaa.UJoin Go.Proofs.Ytfkgjoflekemaaa.UMark Go.Proofs.Ytfkgjoflekemaaa.PureAll Go.Proofs.Ytfkgjoflekemaaa.CMark Go.Proofs.Ytfkgjoflekemaaa.CMark2 Go.Proofs.Ytfkgjoflekemaaa.CBase Go.Proofs.Ytfkgjoflekemaaa.CSlices Go.Proofs.Ytfkgjoflekemaaa.CJoin3
set_option linter.unusedVariables false
set_option linter.unusedSimpArgs false
theorem rpile_c (a : Int) (w : World) : Calls Try.prog 90 #[.int .i64 a] w fun e w' => e = .returned (.tuple #[.int .i64 (pile a).1, .bool (pile a).2]) ∧ Below w.heap.size w w' :=
  naskhref09_Pile.calls 10 a _ _ w (rpile_eq a)
theorem rpiles_c {v : Value} {xs : List Int} {w : World} (h : SL w v xs) (hm : xs.length ≤ 1000000) : Calls Try.prog 47 #[v] w fun e w' => ∃ u, e = .returned u ∧ SL w' u (pilesL xs) ∧ Below w.heap.size w w' := by
  obtain ⟨A, c, rfl, hc, h⟩ := h
  obtain ⟨k, hk⟩ := (rpiles_ev xs hm).rounds
  exact (naskhref15_Piles.calls k A c xs _ w h hc hk).mono fun e w' ⟨u, he, hr, hb⟩ => ⟨u, he, SLk.of_R hr, hb⟩
theorem has_c {v : Value} {xs : List Int} {w : World} (h : SL w v xs) (hm : xs.length ≤ 1000000) (x : Int) : Calls Try.prog 89 #[v, .int .i64 x] w fun e w' => e = .returned (.bool (decide (x ∈ xs))) ∧ Below w.heap.size w w' := by
  obtain ⟨A, c, rfl, hc, h⟩ := h
  obtain ⟨k, hk⟩ := (has_ev xs x hm).rounds
  exact (Phas.naskhref15_has.calls k A c xs x _ w h hc hk).mono fun e w' h => ⟨h.1, h.2.below⟩
theorem eq1_c {u v : Value} {xs : List Int} {w : World} (h1 : SL w u xs) (h2 : SL w v xs) (hm : xs.length ≤ 1000000) : Calls Try.prog 88 #[u, v] w fun e w' => e = .returned (.bool true) ∧ Below w.heap.size w w' := by
  have H1 := Aside0.mk h1
  have H2 := Aside0.mk h2
  clear h1 h2
  go_enter Try.func88, Try.ntmps88
  go_wp2_with fail
  refine (equal_c H1.out H2.out (by omega)).mono ?_
  rw [decide_eq_true rfl]
  rintro e w1 ⟨rfl, hb⟩
  go_wp2
  go_ret
  exact ⟨rfl, hb⟩
set_option maxHeartbeats 1000000 in
theorem eqf_c {u v : Value} {xss : List (List Int)} {w : World} (h1 : SLs w u xss) (h2 : SLs w v xss) (hn : xss.length ≤ 1000000) (hm : ∀ i, (xss.getD i []).length ≤ 1000000) : Calls Try.prog 87 #[u, v, .func (.func 88) #[] #[]] w fun e w' => e = .returned (.bool true) ∧ Below w.heap.size w w' := by
  have H1 := Aside0.mk h1
  have H2 := Aside0.mk h2
  have HM := Aside0.mk hm
  obtain ⟨A, c, rfl, _, _⟩ := h1
  obtain ⟨B, d, rfl, _, _⟩ := h2
  have hne : ((xss.length : Int) != (xss.length : Int)) = false := by simp
  clear hm
  go_enter Try.func87, Try.ntmps87
  go_wp2_with fail
  go_loopw [17] (fun v wr => ∃ k : Nat, v = .int .i64 k ∧ k ≤ xss.length ∧ Aside0 (Below w.heap.size w wr)) (fun v _ => xss.length - (intOf v).toNat)
  case atStart => exact ⟨0, rfl, Nat.zero_le _, ⟨Below.refl _ _⟩⟩
  case round =>
    obtain ⟨k, rfl, hk, HB⟩ := hrel
    by_cases hlt : k < xss.length
    · obtain ⟨ad, c1, ev, A0, c0, hcell, hsl⟩ := SLs.at_ (SLk.below H1.out HB.out) k hlt
      injection ev with e1 e2 e3
      subst e1
      obtain ⟨bd, d1, ev, B0, d0, hcell2, hsl2⟩ := SLs.at_ (SLk.below H2.out HB.out) k hlt
      injection ev with e1 e4 e5
      subst e1
      have hy := HM.out k
      generalize xss.getD k [] = y at hcell hsl hcell2 hsl2 hy
      have HS := Aside0.mk hsl
      have HS2 := Aside0.mk hsl2
      have HY := Aside0.mk hy
      clear hsl hsl2 e2 e3 e4 e5 hy
      go_wp2_with fail
      refine (eq1_c HS.out HS2.out HY.out).mono ?_
      rintro e w1 ⟨rfl, hb⟩
      have HB1 := Aside0.mk (below_step HB.out hb)
      clear hb HB hcell hcell2
      go_wp2_with fail
      exact ⟨⟨k + 1, by go_num, by omega, HB1⟩, by simp [intOf]; omega⟩
    · go_wp2
      go_ret
      exact ⟨rfl, HB.out⟩
theorem equals_c {u v : Value} {xss : List (List Int)} {w : World} (h1 : SLs w u xss) (h2 : SLs w v xss) (hn : xss.length ≤ 1000000) (hm : ∀ i, (xss.getD i []).length ≤ 1000000) : Calls Try.prog 44 #[u, v] w fun e w' => e = .returned (.bool true) ∧ Below w.heap.size w w' := by
  have H1 := Aside0.mk h1
  have H2 := Aside0.mk h2
  have HM := Aside0.mk hm
  clear h1 h2 hm
  go_enter Try.func44, Try.ntmps44
  go_wp2_with fail
  refine (eqf_c H1.out H2.out hn HM.out).mono ?_
  rintro e w1 ⟨rfl, hb⟩
  go_wp2
  go_ret
  exact ⟨rfl, hb⟩

abbrev KL : Kd (List Int) := Kd.slice 3 (Kd.int .i64)
theorem rone_r (c mode : Int) (over : Bool) (w : World) : Calls Try.prog 39 #[.int .i64 c, .int .i64 mode, .bool over] w fun e w' => ∃ u, e = .returned u ∧ Kd.R (Kd.int .i64) 3 w' w.heap.size (fun _ => True) u (oneL c mode over) ∧ Below w.heap.size w w' := by
  obtain ⟨k, hk⟩ := (PureMark.rone_ev c mode over).rounds
  exact PMarkOne.naskhref15_One.calls k c mode over _ w hk
theorem R_one (w : World) (x : Int) : Kd.R (Kd.int .i64) 3 (w.alloc (.cells #[.int .i64 x] 3)) w.heap.size (fun k => k = w.heap.size) (.slice (some ⟨w.heap.size, 0, none⟩) 1 1) [x] := by
  refine ⟨fun k hk => by simp [Value.ownBlock] at hk; exact hk.symm, [.int .i64 x], ⟨rfl, .inr ⟨w.heap.size, 1, #[.int .i64 x], rfl, Nat.le_refl _, blk_new _ _, Nat.le_refl _, by decide, rfl, rfl⟩⟩, ?_⟩
  exact Reps.one (show Kd.M (Kd.int .i64) _ _ _ x [.int .i64 x] from rfl) (Reps.none _ _)
theorem KL_append {ops : Array Oper} {rest : List Oper} {o : Oper} {a : Act} {Q : Exit → Act → World → Prop} {w0 W : World} (base : Nat) (hgd : o.guard = none) (s x : Operand)
    (ho : o.op = .call { callee := .builtin .append, args := #[s, x], argTypes := #[41, 41] }) (v : Value) (xss : List (List Int)) (p : List Int) (u : Value) (okp : Nat → Prop) (hs : a.eval s = v) (hx : a.eval x = .slice (some ⟨W.heap.size, 0, none⟩) 1 1)
    (hp : Kd.R (Kd.int .i64) 3 W base okp u p) (hokp : ∀ k, okp k → some k ≠ v.ownBlock) (HO : Kd.R KL 22 W base (fun _ => True) v xss) (HB : Below base w0 W) (hbase : base ≤ W.heap.size) (hl : xss.length ≤ 1000000)
    (h : ∀ v1 w1, Kd.R KL 22 w1 base (fun _ => True) v1 (xss ++ [p]) → Below base w0 w1 → W.grownBy w1 v.ownBlock → wpList Try.prog ops Q rest (a.put o.dst v1) w1) : wpList Try.prog ops Q (o :: rest) a (W.alloc (.cells #[u] 22)) :=
  Kd.R_append KL base hgd s x 41 22 (.slice none 0 0) 24 ho Try.underlying41 CMark.info22 rfl Nat.one_pos (by omega) v xss p [u] (fun _ => True) okp hs hx ⟨u, rfl, hp⟩ (fun k hk => ⟨trivial, hokp k hk⟩) (fun _ _ => trivial) HO HB hbase (by omega) (fun v1 w1 h1 h2 h3 _ => h v1 w1 h1 h2 h3)
theorem KL_append_step {ops : Array Oper} {o : Oper} {a : Act} {Q : Exit → Act → World → Prop} {Kc : Act → World → Prop} {w0 W : World} (base : Nat) {N : Option Tmp} (hw : Region.wanted o (yielded ops a.tmps) = true) (hN : o.dst = N) (s x : Operand)
    (ho : o.op = .call { callee := .builtin .append, args := #[s, x], argTypes := #[41, 41] }) (v : Value) (xss : List (List Int)) (p : List Int) (u : Value) (okp : Nat → Prop) (hs : a.eval s = v) (hx : a.eval x = .slice (some ⟨W.heap.size, 0, none⟩) 1 1)
    (hp : Kd.R (Kd.int .i64) 3 W base okp u p) (hokp : ∀ k, okp k → some k ≠ v.ownBlock) (HO : Kd.R KL 22 W base (fun _ => True) v xss) (HB : Below base w0 W) (hbase : base ≤ W.heap.size) (hl : xss.length ≤ 1000000)
    (h : ∀ v1 w1, Kd.R KL 22 w1 base (fun _ => True) v1 (xss ++ [p]) → Below base w0 w1 → W.grownBy w1 v.ownBlock → Kc (a.put N v1) w1) : if Region.wanted o (yielded ops a.tmps) = true then Oper.wp Try.prog o a (W.alloc (.cells #[u] 22)) Kc Q else Kc (a.put N undef) (W.alloc (.cells #[u] 22)) := by
  subst hN
  exact Kd.R_append_step KL base hw s x 41 22 (.slice none 0 0) 24 ho Try.underlying41 CMark.info22 rfl Nat.one_pos (by omega) v xss p [u] (fun _ => True) okp hs hx ⟨u, rfl, hp⟩ (fun k hk => ⟨trivial, hokp k hk⟩) (fun _ _ => trivial) HO HB hbase (by omega) (fun v1 w1 h1 h2 h3 _ => h v1 w1 h1 h2 h3)
theorem KL_M {w : World} {base : Nat} {ok : Nat → Prop} {v : Value} {xs : List Int} (h : Kd.R (Kd.int .i64) 3 w base ok v xs) : KL.M w base ok xs [v] := ⟨v, rfl, h⟩
theorem rpiles_r {v : Value} {xs : List Int} {w : World} (h : SL w v xs) (hm : xs.length ≤ 1000000) : Calls Try.prog 47 #[v] w fun e w' => ∃ u, e = .returned u ∧ Kd.R (Kd.int .i64) 3 w' w.heap.size (fun _ => True) u (pilesL xs) ∧ Below w.heap.size w w' := by
  obtain ⟨A, c, rfl, hc, h⟩ := h
  obtain ⟨k, hk⟩ := (rpiles_ev xs hm).rounds
  exact naskhref15_Piles.calls k A c xs _ w h hc hk
theorem R_past {w w1 : World} {base base' : Nat} {ok ok' : Nat → Prop} {v r : Value} {xs : List Int} {out : List (List Int)} (h : Kd.R (Kd.int .i64) 3 w base ok v xs) (hr : Kd.R KL 22 w base' ok' r out) (hg : w.grownBy w1 r.ownBlock) : Kd.R (Kd.int .i64) 3 w1 base ok v xs := by
  refine Kd.R_grown2 h rfl hg (fun k hk => ?_)
  obtain ⟨i1, o1⟩ := Kd.R_own h
  obtain ⟨i2, o2⟩ := Kd.R_own hr
  rcases own_type_ne o2 o1 (by decide) with e | e
  · rw [e] at hk; cases hk
  · rw [← hk]; exact e
set_option maxRecDepth 100000 in
set_option maxHeartbeats 2000000 in
theorem rall_c {v0 v1 : Value} {text types : List Int} {w : World} (h0 : SL w v0 text) (h1 : SL w v1 types) (mode : Int) (pl : Bool) (hm : text.length ≤ 1000000) (hm1 : types.length ≤ 1000000) :
    Calls Try.prog 45 #[v0, v1, .int .i64 mode, .bool pl] w fun e w' => ∃ u, e = .returned u ∧ Kd.R KL 22 w' w.heap.size (fun _ => True) u (allL text types mode pl) ∧ Below w.heap.size w w' := by
  have H0 := Aside0.mk h0
  have H1 := Aside0.mk h1
  obtain ⟨A, ca, rfl, _, hC0⟩ := h0
  obtain ⟨B, cb, rfl, _, hC1⟩ := h1
  have HC0 := Aside0.mk hC0
  clear hC0 hC1
  by_cases hl : text.length = types.length
  · have hne : ((text.length : Int) != (types.length : Int)) = false := by simp [hl]
    have HA : Aside0 (allL text types mode pl = (List.range text.length).map (allAt text types mode (pl && pilesB mode))) := ⟨by unfold allL; rw [if_pos hl]⟩
    clear hl
    go_enter Try.func45, Try.ntmps45
    go_upto_region 4 with (fail)
    go_cut [27] (fun v27 wc => ∃ (use : Bool), v27 = .bool use ∧ Aside0 (use = (pl && pilesB mode)) ∧ Aside0 (wc = w))
    case first =>
      by_cases hu : pl = true ∧ 0 ≤ mode ∧ mode ≤ 2
      · obtain ⟨rfl, hq1, hq2⟩ := hu
        have HUse : Aside0 (true = (true && pilesB mode)) := ⟨by unfold pilesB; rw [Bool.true_and, decide_eq_true (by omega)]⟩
        have d1 : decide (0 ≤ mode) = true := decide_eq_true hq1
        have d2 : decide (mode ≤ 2) = true := decide_eq_true hq2
        clear hq1 hq2
        go_wp2
        go_meet
        case rel => exact ⟨true, rfl, HUse, ⟨rfl⟩⟩
      · have HUse : Aside0 (false = (pl && pilesB mode)) := ⟨by
          unfold pilesB
          cases pl
          · rfl
          · rw [Bool.true_and, decide_eq_false (by simp at hu; omega)]⟩
        cases pl
        · clear hu
          go_wp2
          go_meet
          case rel => exact ⟨false, rfl, HUse, ⟨rfl⟩⟩
        · by_cases hq : 0 ≤ mode
          · have d1 : decide (0 ≤ mode) = true := decide_eq_true hq
            have d2 : decide (mode ≤ 2) = false := decide_eq_false (by simp at hu; omega)
            clear hu hq
            go_wp2
            go_meet
            case rel => exact ⟨false, rfl, HUse, ⟨rfl⟩⟩
          · have d1 : decide (0 ≤ mode) = false := decide_eq_false hq
            clear hu hq
            go_wp2
            go_meet
            case rel => exact ⟨false, rfl, HUse, ⟨rfl⟩⟩
    case rest =>
    obtain ⟨use, rfl, HUse, HW⟩ := hcut
    have hw := HW.out
    subst hw
    clear HW
    rename World => w
    go_upto_if 27 with (fail)
    go_cut [9] (fun v9 w' => ∃ (ps : List Int), Aside0 (ps = if use = true then pilesL text else []) ∧ Aside0 (Kd.R (Kd.int .i64) 3 w' w.heap.size (fun _ => True) v9 ps) ∧ Aside0 (Below w.heap.size w w'))
    case first =>
      cases use
      · go_wp2
        go_meet
        case rel => exact ⟨[], ⟨by simp⟩, ⟨Kd.R_nil _ _ _ _ _⟩, ⟨Below.refl _ _⟩⟩
      · go_wp2_with fail
        refine (rpiles_r H0.out hm).mono ?_
        rintro e w1 ⟨u, rfl, hu, hb⟩
        have HU := Aside0.mk hu
        have HB := Aside0.mk hb
        clear hu hb
        go_wp2
        go_meet
        case rel => exact ⟨_, ⟨by simp⟩, HU, HB⟩
    case rest =>
      obtain ⟨ps, HP, HS, HB⟩ := hcut
      have HA2 := Aside0.mk (by rw [← HUse.out] at HA; exact HA.out : allL text types mode pl = (List.range text.length).map (allAt text types mode use))
      clear HA HUse
      have hh : ∀ i : Nat, i < text.length → decide ((i : Int) ∈ ps) = (use && pileAt text i) ∧ decide ((i : Int) - 1 ∈ ps) = (use && decide (1 ≤ i) && pileAt text (i - 1)) := by
        intro i hi
        rw [HP.out]
        cases use
        · simp
        · rw [if_pos rfl, has_piles, has_piles_pred]; simp
      have HH := Aside0.mk hh
      have hpl : ps.length ≤ 1000000 := by
        rw [HP.out]
        split
        · unfold pilesL pilesN
          rw [List.length_map]
          have := List.length_filter_le (pileAt text) (List.range text.length)
          rw [List.length_range] at this
          omega
        · simp
      have HPL := Aside0.mk hpl
      obtain ⟨D, cd, eD⟩ := Kd.R_slice HS.out
      subst eD
      clear hh HP hpl
      go_wp2_with fail
      go_loopw [11, 10] (fun v r wr => ∃ k : Nat, v = .int .i64 k ∧ k ≤ text.length ∧ Aside0 (Kd.R KL 22 wr w.heap.size (fun _ => True) r ((List.range k).map (allAt text types mode use))) ∧ Aside0 (Below w.heap.size w wr) ∧ Aside0 (Kd.R (Kd.int .i64) 3 wr w.heap.size (fun _ => True) (.slice D ps.length cd) ps)) (fun v _ _ => text.length - (intOf v).toNat)
      case atStart => exact ⟨0, rfl, Nat.zero_le _, ⟨Kd.R_nil _ _ _ _ _⟩, HB, HS⟩
      case round =>
        clear HB HS
        obtain ⟨k, rfl, hk, HR, HB, HS⟩ := hrel
        by_cases hlt : k < text.length
        · obtain ⟨hh1, hh2⟩ := HH.out k hlt
          have hns : (List.range (k + 1)).map (allAt text types mode use) = (List.range k).map (allAt text types mode use) ++ [allAt text types mode use k] := by rw [List.range_succ, List.map_append]; rfl
          have HNS := Aside0.mk hns
          have hol : ((List.range k).map (allAt text types mode use)).length ≤ 1000000 := by simp; omega
          generalize (List.range k).map (allAt text types mode use) = out at HR HNS hol
          clear hns
          have hh1 := Aside0.mk hh1
          have hh2 := Aside0.mk hh2
          have hltI : (k : Int) < (text.length : Int) := by omega
          have hkI : 0 ≤ (k : Int) := by omega
          go_wp2_with fail
          refine (has_c (SLk.of_R HS.out) HPL.out _).mono ?_
          rw [hh1.out]
          generalize hq : (use && pileAt text k) = q1
          have Q1 := Aside0.mk hq
          clear hq
          rintro e w2 ⟨rfl, hb⟩
          have HB2 := Aside0.mk (below_step HB.out hb)
          have HR2 := Aside0.mk (Kd.R_below HR.out hb)
          have HS2 := Aside0.mk (Kd.R_below HS.out hb)
          clear hb HB HR HS hh1
          cases q1
          · go_wp2_with fail
            refine (has_c (SLk.of_R HS2.out) HPL.out _).mono ?_
            rw [hh2.out]
            generalize hq : (use && decide (1 ≤ k) && pileAt text (k - 1)) = q2
            have Q2 := Aside0.mk hq
            clear hq
            rintro e w3 ⟨rfl, hb⟩
            have HB3 := Aside0.mk (below_step HB2.out hb)
            have HR3 := Aside0.mk (Kd.R_below HR2.out hb)
            have HS3 := Aside0.mk (Kd.R_below HS2.out hb)
            clear hb HB2 HR2 HS2 hh2
            cases q2
            · have hv : allAt text types mode use k = oneL (rd text k) mode (overI types k) := by
                unfold allAt
                rw [Q1.out, Q2.out]
                rfl
              rw [hv] at HNS
              obtain ⟨ad, ea, hx0⟩ := Kd.at_int HC0.out (k : Int) hkI hltI
              cases ea
              simp only [Int.toNat_natCast] at hx0
              have HTd := Aside0.mk (SLk.below H1.out (below_drew HB3.out))
              have HBd := Aside0.mk (below_drew HB3.out)
              have HRd := Aside0.mk (Kd.R_below HR3.out (below_drew (Below.refl _ _)))
              have HSd := Aside0.mk (Kd.R_below HS3.out (below_drew (Below.refl _ _)))
              clear hv
              go_wp2_with fail
              refine start_ (n := 13) (S := fun W => Below w.heap.size w W) (ds := []) #[false, false, false, false, false, false, false, false, false, false, false, false, false] (by kernel_rfl) (by kernel_rfl) (by rfl) HBd.out (fun hS0 => ?_)
              refine pure_ (i := 0) (N := (some 36)) (v := ?_) (a' := ?_) #[true, false, false, false, false, false, false, false, false, false, false, false, false] rfl rfl (by kernel_rfl) (fun _ _ _ h => h) (Or.inl ⟨by rfl, ?_⟩) ?_ ?_
              rotate_left
              · intro w'
                go_simp
                with_reducible rfl
              rotate_left
              · simp only [Act.put, List.setIfInBounds_toArray, List.set_cons_zero, List.set_cons_succ]
                rfl
              refine pure_ (i := 1) (N := (some 37)) (v := ?_) (a' := ?_) #[true, true, false, false, false, false, false, false, false, false, false, false, false] rfl rfl (by kernel_rfl) (fun _ _ _ h => h) (Or.inl ⟨by rfl, ?_⟩) ?_ ?_
              rotate_left
              · intro w'
                go_simp
                with_reducible rfl
              rotate_left
              · simp only [Act.put, List.setIfInBounds_toArray, List.set_cons_zero, List.set_cons_succ]
                rfl
              refine pure_ (i := 2) (N := (some 38)) (v := ?_) (a' := ?_) #[true, true, true, false, false, false, false, false, false, false, false, false, false] rfl rfl (by kernel_rfl) (fun _ _ _ h => h) (Or.inl ⟨by rfl, ?_⟩) ?_ ?_
              rotate_left
              · intro w'
                go_simp
                with_reducible rfl
              rotate_left
              · simp only [Act.put, List.setIfInBounds_toArray, List.set_cons_zero, List.set_cons_succ]
                rfl
              refine pure_ (i := 3) (N := (some 39)) (v := ?_) (a' := ?_) #[true, true, true, true, false, false, false, false, false, false, false, false, false] rfl rfl (by kernel_rfl) (fun _ _ _ h => h) (Or.inl ⟨by rfl, ?_⟩) ?_ ?_
              rotate_left
              · intro w'
                go_simp
                with_reducible rfl
              rotate_left
              · simp only [Act.put, List.setIfInBounds_toArray, List.set_cons_zero, List.set_cons_succ]
                rfl
              refine take_ (i := 4) (N := (some 40)) (v := ?_) (a' := ?_) #[true, true, true, true, true, false, false, false, false, false, false, false, false] rfl rfl (by kernel_rfl) (fun _ _ _ h => h) (Or.inl ⟨by rfl, ?_⟩) hS0 ?_ ?_
              rotate_left
              · intro w' s0
                have hx := (s0.cell (World.block_lt_of_cell? w _ hx0)).trans hx0
                go_simp
                with_reducible rfl
              rotate_left
              · simp only [Act.put, List.setIfInBounds_toArray, List.set_cons_zero, List.set_cons_succ]
                rfl
              refine pure_ (i := 5) (N := (some 41)) (v := ?_) (a' := ?_) #[true, true, true, true, true, true, false, false, false, false, false, false, false] rfl rfl (by kernel_rfl) (fun _ _ _ h => h) (Or.inl ⟨by rfl, ?_⟩) ?_ ?_
              rotate_left
              · intro w'
                go_simp
                with_reducible rfl
              rotate_left
              · simp only [Act.put, List.setIfInBounds_toArray, List.set_cons_zero, List.set_cons_succ]
                rfl
              refine pure_ (i := 6) (N := (some 42)) (v := ?_) (a' := ?_) #[true, true, true, true, true, true, true, false, false, false, false, false, false] rfl rfl (by kernel_rfl) (fun _ _ _ h => h) (Or.inl ⟨by rfl, ?_⟩) ?_ ?_
              rotate_left
              · intro w'
                go_simp
                with_reducible rfl
              rotate_left
              · simp only [Act.put, List.setIfInBounds_toArray, List.set_cons_zero, List.set_cons_succ]
                rfl
              refine pure_ (i := 7) (N := (some 43)) (v := ?_) (a' := ?_) #[true, true, true, true, true, true, true, true, false, false, false, false, false] rfl rfl (by kernel_rfl) (fun _ _ _ h => h) (Or.inl ⟨by rfl, ?_⟩) ?_ ?_
              rotate_left
              · intro w'
                go_simp
                with_reducible rfl
              rotate_left
              · simp only [Act.put, List.setIfInBounds_toArray, List.set_cons_zero, List.set_cons_succ]
                rfl
              clear hS0
              refine one_ (i := 8) (N := (some 44)) #[true, true, true, true, true, true, true, true, true, false, false, false, false] rfl rfl (by kernel_rfl) (by decide) (fun K hK => ?_)
              refine goes_ Try.func33 (by kernel_rfl) rfl #[.slice B types.length cb, .int .i64 k] (by rfl) rfl rfl (by (try simp only [List.map_toArray, List.map_cons, List.map_nil]); rfl) ?_
              refine (rover_c HTd.out hm1 _).mono ?_
              rintro e w4 ⟨rfl, hb⟩
              refine ⟨_, rfl, ?_⟩
              have HB4 := Aside0.mk (below_step HBd.out hb)
              have HR4 := Aside0.mk (Kd.R_below HRd.out hb)
              have HS4 := Aside0.mk (Kd.R_below HSd.out hb)
              clear hb
              refine hK.out _ _ HB4.out (fun hS0 => ?_)
              clear hK
              refine norm_ (a' := ?_) ?_ ?_
              rotate_left
              · simp only [Act.put, List.setIfInBounds_toArray, List.set_cons_zero, List.set_cons_succ]
                rfl
              clear hS0
              refine one_ (i := 9) (N := (some 45)) #[true, true, true, true, true, true, true, true, true, true, false, false, false] rfl rfl (by kernel_rfl) (by decide) (fun K hK => ?_)
              refine goes_ Try.func39 (by kernel_rfl) rfl #[.int .i64 (rd text k), .int .i64 mode, .bool (overI types k)] (by rfl) rfl rfl (by (try simp only [List.map_toArray, List.map_cons, List.map_nil]); rfl) ?_
              refine (rone_r _ _ _ _).mono ?_
              rintro e w5 ⟨u, rfl, hu, hb⟩
              refine ⟨_, rfl, ?_⟩
              obtain ⟨U, cu, eu⟩ := Kd.R_slice hu
              subst eu
              have HU := Aside0.mk (Kd.R_lower (Kd.R_new' hu (Kd.R_lt HR4.out)) HB4.out.size)
              have HB5 := Aside0.mk (below_step HB4.out hb)
              have HR5 := Aside0.mk (Kd.R_below HR4.out hb)
              have HS5 := Aside0.mk (Kd.R_below HS4.out hb)
              clear hu hb
              refine hK.out _ _ HB5.out (fun hS0 => ?_)
              clear hK
              refine norm_ (a' := ?_) ?_ ?_
              rotate_left
              · simp only [Act.put, List.setIfInBounds_toArray, List.set_cons_zero, List.set_cons_succ]
                rfl
              clear hS0
              refine one_ (i := 10) (N := (some 46)) #[true, true, true, true, true, true, true, true, true, true, true, false, false] rfl rfl (by kernel_rfl) (by decide) (fun K hK => ?_)
              refine value_ (v := .slice (some ⟨w5.heap.size, 0, none⟩) 1 1) (w1 := w5.alloc (.cells #[.slice U (oneL (rd text k) mode (overI types k)).length cu] 22)) (by rfl) rfl ?_ ?_
              · go_simp
              refine hK.out _ _ (below_alloc HB5.out _) (fun hS0 => ?_)
              clear hK
              refine norm_ (a' := ?_) ?_ ?_
              rotate_left
              · simp only [Act.put, List.setIfInBounds_toArray, List.set_cons_zero, List.set_cons_succ]
                rfl
              clear hS0
              refine one_ (i := 11) (N := (some 47)) #[true, true, true, true, true, true, true, true, true, true, true, true, false] rfl rfl (by kernel_rfl) (by decide) (fun K hK => ?_)
              refine KL_append_step (w0 := w) w.heap.size (by rfl) rfl (.tmp 36) (.tmp 46) rfl _ out _ _ _ (by rfl) (by rfl) HU.out (fun _ h => h.2) HR5.out HB5.out HB5.out.size hol ?_
              intro v1 w1 hv1 hb1 hg1
              have HV1 := Aside0.mk hv1
              have HB1 := Aside0.mk hb1
              have HS1 := Aside0.mk (R_past HS5.out HR5.out hg1)
              clear hv1 hb1 hg1
              refine hK.out _ _ HB1.out (fun hS0 => ?_)
              clear hK
              refine norm_ (a' := ?_) ?_ ?_
              rotate_left
              · simp only [Act.put, List.setIfInBounds_toArray, List.set_cons_zero, List.set_cons_succ]
                rfl
              refine pure_ (i := 12) (N := (some 10)) (v := ?_) (a' := ?_) #[true, true, true, true, true, true, true, true, true, true, true, true, true] rfl rfl (by kernel_rfl) (fun _ _ _ h => h) (Or.inl ⟨by rfl, ?_⟩) ?_ ?_
              rotate_left
              · intro w'
                go_simp
                with_reducible rfl
              rotate_left
              · simp only [Act.put, List.setIfInBounds_toArray, List.set_cons_zero, List.set_cons_succ]
                rfl
              refine done_ (by kernel_rfl) ?_
              go_wp2_with fail
              exact ⟨⟨k + 1, by go_num, by omega, ⟨by rw [HNS.out]; exact HV1.out⟩, HB1, HS1⟩, by simp [intOf]; omega⟩
            · have hv : allAt text types mode use k = [] := by
                unfold allAt
                rw [Q1.out, Q2.out]
                rfl
              rw [hv] at HNS
              clear hv
              go_wp2_with (first | (at_builtin; refine KL_append (w0 := w) w.heap.size rfl (.tmp 71) (.tmp 72) rfl _ out [] (.slice none 0 0) (fun _ => False) rfl rfl (Kd.R_nil _ _ _ _ _) (fun _ h => h.elim) HR3.out HB3.out HB3.out.size hol ?_; intro v1 w1 hv1 hb1 hg1; have HV1 := Aside0.mk hv1; have HB1 := Aside0.mk hb1; have HS1 := Aside0.mk (R_past HS3.out HR3.out hg1); clear hv1 hb1 hg1))
              exact ⟨⟨k + 1, by go_num, by omega, ⟨by rw [HNS.out]; exact HV1.out⟩, HB1, HS1⟩, by simp [intOf]; omega⟩
          · have hit : k + 1 < text.length := by
              have := Q1.out
              unfold pileAt at this
              simp only [Bool.and_eq_true, decide_eq_true_eq] at this
              omega
            have hv : allAt text types mode use k = [(pile (rd text ((k : Int) + 1))).1] := by
              unfold allAt
              rw [Q1.out]
              rfl
            rw [hv] at HNS
            obtain ⟨ad, ea, hx⟩ := Kd.at_int (Kd.C_below HC0.out HB2.out) ((k : Int) + 1) (by omega) (by omega)
            cases ea
            rw [show ((k : Int) + 1).toNat = k + 1 by omega, Addr.add_succ'] at hx
            have hit2 : (k : Int) + 1 < (text.length : Int) := by omega
            clear hv hit
            go_wp2_with fail
            refine (rpile_c _ _).mono ?_
            rintro e w3 ⟨rfl, hb⟩
            have HB3 := Aside0.mk (below_step HB2.out hb)
            have HR3 := Aside0.mk (Kd.R_below HR2.out hb)
            have HS3 := Aside0.mk (Kd.R_below HS2.out hb)
            generalize (pile (rd text ((k : Int) + 1))).1 = code at HNS
            clear hb hx HB2 HR2 HS2
            go_wp2_with (first | (at_builtin; refine KL_append (w0 := w) w.heap.size rfl (.tmp 61) (.tmp 64) rfl _ out [code] (.slice (some ⟨w3.heap.size, 0, none⟩) 1 1) (fun k => k = w3.heap.size) rfl (by refine Eq.trans (b := Value.slice (some ⟨w3.heap.size + 1, 0, none⟩) 1 1) rfl ?_; rw [World.size_alloc]) (Kd.R_lower (R_one w3 code) HB3.out.size) (fun kk hk h => by subst hk; exact absurd (Kd.R_lt HR3.out _ h.symm) (Nat.lt_irrefl _)) (Kd.R_alloc HR3.out _) (below_alloc HB3.out _) (below_alloc HB3.out _).size hol ?_; intro v1 w1 hv1 hb1 hg1; have HV1 := Aside0.mk hv1; have HB1 := Aside0.mk hb1; have HS1 := Aside0.mk (R_past (Kd.R_alloc HS3.out _) (Kd.R_alloc HR3.out _) hg1); clear hv1 hb1 hg1))
            exact ⟨⟨k + 1, by go_num, by omega, ⟨by rw [HNS.out]; exact HV1.out⟩, HB1, HS1⟩, by simp [intOf]; omega⟩
        · go_wp2
          go_ret
          refine ⟨_, rfl, ?_, HB.out⟩
          rw [HA2.out]
          have ek : k = text.length := by omega
          subst ek
          exact HR.out
  · have hne : ((text.length : Int) != (types.length : Int)) = true := by simp; omega
    have HA : Aside0 (allL text types mode pl = []) := ⟨by unfold allL; rw [if_neg hl]⟩
    clear hl
    go_enter Try.func45, Try.ntmps45
    go_wp2
    go_ret
    exact ⟨_, rfl, by rw [HA.out]; exact Kd.R_nil _ _ _ _ _, Below.refl _ _⟩
end Go.Proofs.Ytfkgjoflekemaaa.CAll
