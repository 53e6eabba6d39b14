/- Cut. -/
import Derived.Test.YtemhccjjcioodaaGreatKCFinP
import Derived.Test.YtemhccjjcioodaaGreatKPEmbedJoinsx0
import Derived.Test.YtemhccjjcioodaaGreatKUFinest
import Derived.Laws.CopyOwn
import Derived.BigQuiet
import Derived.Test.YtemhccjjcioodaaGreatKCRefCel3
import Derived.Test.YtemhccjjcioodaaGreatKUCells
import Derived.Test.YtemhccjjcioodaaGreatKAl
set_option linter.unusedSimpArgs false
set_option linter.unusedVariables false
set_option maxRecDepth 100000
set_option maxHeartbeats 16000000
namespace Go.Proofs.YtemhccjjcioodaaGreat
open Go.RowKit YtemhccjjcioodaaGreatW.PrintLast YtemhccjjcioodaaGreatW.PrintMore YtemhccjjcioodaaGreatW.PrintWords
section
namespace UFinEv
open U PClusterFinest UFinest
theorem least_loop {L : Lab} {lo : Nat} {l : List Int} (h : Rep L lo l) (hm : l.length ≤ 1000000) (a b : Nat) (hb : b ≤ l.length) (z : Int) (d : Nat) : ∀ i : Nat, a ≤ i → i + d = b →
 Ev (fun k => naskhref04_least.l0 k l ((leastL L (lo + a) (i - a) : Nat) : Int) (i : Int) z (b : Int)) ((leastL L (lo + a) (b - a) : Nat) : Int) := by
 induction d with
 | zero =>
  intro i hi hd
  refine Ev.step (fun k => by rw [naskhref04_least.l0]) (ev_neg (by omega) (ev_eq (ev_now _) ?_))
  rw [show i = b by omega]
 | succ d ih =>
  intro i hi hd
  refine Ev.step (fun k => by rw [naskhref04_least.l0]) (ev_pos (by omega) (ev_pos (by omega) (ev_pos (by omega) ?_)))
  rw [rep_rd h i (by omega), mn_nat, w64 (by omega) (by omega), show (i : Int) + 1 = ((i + 1 : Nat) : Int) by omega]
  have hl : leastL L (lo + a) (i + 1 - a) = min (leastL L (lo + a) (i - a)) (L (lo + i)) := by
   rw [show i + 1 - a = (i - a) + 1 by omega]
   show min _ (L (lo + a + (i - a))) = _
   rw [show lo + a + (i - a) = lo + i by omega]
  have := ih (i + 1) (by omega) (by omega)
  rw [hl] at this
  exact this
theorem least_ev {L : Lab} {lo : Nat} {l : List Int} (h : Rep L lo l) (hm : l.length ≤ 1000000) (a b : Nat) (hab : a < b) (hb : b ≤ l.length) : Ev (fun k => naskhref04_least.f k l (a : Int) (b : Int)) ((leastL L (lo + a) (b - a) : Nat) : Int) := by
 unfold naskhref04_least.f
 refine ev_pos (by omega) (ev_pos (by omega) ?_)
 rw [rep_rd h a (by omega)]
 have := least_loop h hm a b hb (a : Int) (b - a) a (qlR _) (by omega)
 rw [Nat.sub_self] at this
 exact this
theorem same_loop {L : Lab} {lo : Nat} (v : Nat) (a b : Nat) (z : Int) (d : Nat) : ∀ (i : Nat) (l : List Int), a ≤ i → i + d = b → b ≤ l.length → l.length ≤ 1000000 → Rep (setL L (lo + a) (lo + i) v) lo l →
 ∃ l' : List Int, Ev (fun k => naskhref04_same.l0 k l (v : Int) (chg L (lo + a) v (i - a)) (i : Int) z (b : Int)) (chg L (lo + a) v (b - a), l') ∧ l'.length = l.length ∧ Rep (setL L (lo + a) (lo + b) v) lo l' := by
 induction d with
 | zero =>
  intro i l hi hd hb hm h
  have e : i = b := by omega
  subst e
  exact ⟨l, Ev.step (fun k => by rw [naskhref04_same.l0]) (ev_neg (by omega) (ev_now _)), rfl, h⟩
 | succ d ih =>
  intro i l hi hd hb hm h
  have hli := h i (by omega)
  have hold : setL L (lo + a) (lo + i) v (lo + i) = L (lo + i) := by unfold setL; rw [if_neg (by omega)]
  rw [hold] at hli
  have hch : chg L (lo + a) v (i + 1 - a) = (chg L (lo + a) v (i - a) || decide (L (lo + i) ≠ v)) := by
   rw [show i + 1 - a = (i - a) + 1 by omega]
   unfold chg
   rw [show lo + a + (i - a) = lo + i by omega]
   congr 1
   cases i - a <;> rfl
  by_cases he : L (lo + i) = v
  ·have hrep : Rep (setL L (lo + a) (lo + (i + 1)) v) lo l := by
    intro j hj
    rw [h j hj]
    unfold setL
    by_cases hji : j = i
    ·subst hji; rw [if_neg (by omega), if_pos (by omega), he]
    ·congr 1
     by_cases hc : lo + a ≤ lo + j ∧ lo + j < lo + i
     ·rw [if_pos hc, if_pos (by omega)]
     ·rw [if_neg hc, if_neg (by omega)]
   obtain ⟨l', h1, h2, h3⟩ := ih (i + 1) l (by omega) (by omega) hb hm hrep
   refine ⟨l', Ev.step (fun k => by rw [naskhref04_same.l0]) (ev_pos (by omega) (ev_pos (by omega) (ev_pos (by omega) (ev_pos (by rw [rd_nat, hli, he]) ?_)))), h2, h3⟩
   rw [hch, he] at h1
   simp only [ne_eq, not_true_eq_false, decide_false, Bool.or_false] at h1
   rw [w64 (by omega) (by omega)]
   exact h1
  ·have hrep : Rep (setL L (lo + a) (lo + (i + 1)) v) lo (l.set i (v : Int)) := by
    intro j hj
    rw [List.length_set] at hj
    by_cases hji : j = i
    ·subst hji
     rw [qgD, List.getElem?_set_self (by omega)]
     unfold setL
     rw [if_pos (by omega)]
     rfl
    ·rw [qgD, List.getElem?_set_ne (Ne.symm hji), ← qgD, h j hj]
     unfold setL
     congr 1
     by_cases hc : lo + a ≤ lo + j ∧ lo + j < lo + i
     ·rw [if_pos hc, if_pos (by omega)]
     ·rw [if_neg hc, if_neg (by omega)]
   obtain ⟨l', h1, h2, h3⟩ := ih (i + 1) (l.set i (v : Int)) (by omega) (by omega) (by rw [List.length_set]; exact hb) (by rw [List.length_set]; exact hm) hrep
   refine ⟨l', Ev.step (fun k => by rw [naskhref04_same.l0]) (ev_pos (by omega) (ev_pos (by omega) (ev_pos (by omega) (ev_neg (by rw [rd_nat, hli]; omega) ?_)))), by rw [h2, List.length_set], h3⟩
   rw [hch, qdT he, Bool.or_true] at h1
   rw [w64 (by omega) (by omega), qtN]
   exact h1
theorem same_ev {L : Lab} {lo : Nat} {l : List Int} (h : Rep L lo l) (hm : l.length ≤ 1000000) (v a b : Nat) (hab : a ≤ b) (hb : b ≤ l.length) :
 ∃ l' : List Int, Ev (fun k => naskhref04_same.f k l (a : Int) (b : Int) (v : Int)) (chg L (lo + a) v (b - a), l') ∧ l'.length = l.length ∧ Rep (setL L (lo + a) (lo + b) v) lo l' := by
 have h0 : Rep (setL L (lo + a) (lo + a) v) lo l := by
  rw [setL_same _ _ _ _ (fun x h1 h2 => by omega)]; exact h
 obtain ⟨l', h1, h2, h3⟩ := same_loop v a b (a : Int) (b - a) a l (qlR _) (by omega) hb hm h0
 refine ⟨l', ?_, h2, h3⟩
 rw [Nat.sub_self] at h1
 exact h1
theorem hull_loop {L : Lab} {lo : Nat} {l : List Int} (h : Rep L lo l) (hm : l.length ≤ 1000000) (v : Nat) (d : Nat) : ∀ i : Nat, i + d = l.length →
 Ev (fun k => naskhref04_hull.l0 k l (v : Int) (i : Int) (((hullL L lo v i).1 : Nat) : Int) (((hullL L lo v i).2 : Nat) : Int)) ((((hullL L lo v l.length).1 : Nat) : Int), (((hullL L lo v l.length).2 : Nat) : Int)) := by
 induction d with
 | zero =>
  intro i hd
  have e : i = l.length := by omega
  subst e
  exact Ev.step (fun k => by rw [naskhref04_hull.l0]) (ev_neg (by omega) (ev_now _))
 | succ d ih =>
  intro i hd
  have ih' := ih (i + 1) (by omega)
  refine Ev.step (fun k => by rw [naskhref04_hull.l0]) (ev_pos (by omega) (ev_pos (by omega) ?_))
  rw [rep_rd h i (by omega), w64 (by omega) (by omega), show (i : Int) + 1 = ((i + 1 : Nat) : Int) by omega]
  have hstep : hullL L lo v (i + 1) = if L (lo + i) = v then ((if (hullL L lo v i).2 = 0 then i else (hullL L lo v i).1), i + 1) else hullL L lo v i := rfl
  rw [hstep] at ih'
  by_cases he : L (lo + i) = v
  ·refine ev_pos (by omega) ?_
   rw [if_pos he] at ih'
   dsimp only at ih'
   by_cases h0 : (hullL L lo v i).2 = 0
   ·refine ev_pos (by omega) ?_
    rw [if_pos h0] at ih'
    exact ih'
   ·refine ev_neg (by omega) ?_
    rw [if_neg h0] at ih'
    exact ih'
  ·refine ev_neg (by omega) ?_
   rw [if_neg he] at ih'
   exact ih'
theorem hull_ev {L : Lab} {lo : Nat} {l : List Int} (h : Rep L lo l) (hm : l.length ≤ 1000000) (v : Nat) : Ev (fun k => naskhref04_hull.f k l (v : Int)) ((((hullL L lo v l.length).1 : Nat) : Int), (((hullL L lo v l.length).2 : Nat) : Int)) := by
 have := hull_loop h hm v l.length 0 (by omega)
 exact this
theorem whole_loop {L : Lab} {lo : Nat} (len : Nat) (hm : len ≤ 1000000) (d : Nat) : ∀ (i : Nat) (l : List Int), i + d = len → l.length = len → Rep (wholeTo L lo len i).1 lo l →
 ∃ l' : List Int, Ev (fun k => naskhref04_whole.l0 k l (wholeTo L lo len i).2 (i : Int)) ((wholeTo L lo len len).2, l') ∧ l'.length = len ∧ Rep (wholeTo L lo len len).1 lo l' := by
 induction d with
 | zero =>
  intro i l hd hl h
  have e : i = len := by omega
  subst e
  exact ⟨l, Ev.step (fun k => by rw [naskhref04_whole.l0]) (ev_neg (by omega) (ev_now _)), hl, h⟩
 | succ d ih =>
  intro i l hd hl h
  obtain ⟨q, hq⟩ : ∃ q, q = wholeTo L lo len i := ⟨_, rfl⟩
  have hst : wholeTo L lo len (i + 1) = (setL q.1 (lo + (hullL q.1 lo (q.1 (lo + i)) len).1) (lo + (hullL q.1 lo (q.1 (lo + i)) len).1 + ((hullL q.1 lo (q.1 (lo + i)) len).2 - (hullL q.1 lo (q.1 (lo + i)) len).1)) (leastL q.1 (lo + (hullL q.1 lo (q.1 (lo + i)) len).1) ((hullL q.1 lo (q.1 (lo + i)) len).2 - (hullL q.1 lo (q.1 (lo + i)) len).1)), chg q.1 (lo + (hullL q.1 lo (q.1 (lo + i)) len).1) (leastL q.1 (lo + (hullL q.1 lo (q.1 (lo + i)) len).1) ((hullL q.1 lo (q.1 (lo + i)) len).2 - (hullL q.1 lo (q.1 (lo + i)) len).1)) ((hullL q.1 lo (q.1 (lo + i)) len).2 - (hullL q.1 lo (q.1 (lo + i)) len).1) || q.2) := by rw [hq]; rfl
  rw [← hq] at h ⊢
  have hh := hull_ev h (by omega) (q.1 (lo + i))
  rw [hl] at hh
  have hs : (hullL q.1 lo (q.1 (lo + i)) len).1 < (hullL q.1 lo (q.1 (lo + i)) len).2 ∧ (hullL q.1 lo (q.1 (lo + i)) len).2 ≤ len := by
   rcases hullL_is q.1 lo (q.1 (lo + i)) len with ⟨_, g⟩ | ⟨g1, g2, _⟩
   ·exact absurd rfl (g i (by omega))
   ·exact ⟨g1, g2⟩
  obtain ⟨s, hsd⟩ : ∃ s, s = hullL q.1 lo (q.1 (lo + i)) len := ⟨_, rfl⟩
  rw [← hsd] at hh hs hst
  have hle := least_ev h (by omega) s.1 s.2 hs.1 (by omega)
  obtain ⟨v, hv⟩ : ∃ v, v = leastL q.1 (lo + s.1) (s.2 - s.1) := ⟨_, rfl⟩
  rw [← hv] at hle hst
  obtain ⟨l1, hsm, hl1, hr1⟩ := same_ev h (by omega) v s.1 s.2 (by omega) (by omega)
  rw [show lo + s.2 = lo + s.1 + (s.2 - s.1) by omega] at hr1
  obtain ⟨l', h1, h2, h3⟩ := ih (i + 1) l1 (by omega) (by omega) (by rw [hst]; exact hr1)
  rw [hst] at h1
  dsimp only at h1
  refine ⟨l', Ev.step (fun k => by rw [naskhref04_whole.l0]) (ev_pos (by omega) (ev_pos (by omega) ?_)), h2, h3⟩
  rw [rep_rd h i (by omega)]
  refine ev_bind hh (ev_bind hle (ev_bind hsm ?_))
  rw [w64 (by omega) (by omega), show (i : Int) + 1 = ((i + 1 : Nat) : Int) by omega]
  refine ev_ite (fun hc => ?_) (fun hc => ?_)
  ·dsimp only at hc
   rw [hc, Bool.true_or] at h1
   exact h1
  ·dsimp only at hc
   have hc' : chg q.1 (lo + s.1) v (s.2 - s.1) = false := by simpa using hc
   rw [hc', Bool.false_or] at h1
   exact h1
theorem whole_ev {L : Lab} {lo : Nat} {l : List Int} (h : Rep L lo l) (hm : l.length ≤ 1000000) : ∃ l' : List Int, Ev (fun k => naskhref04_whole.f k l) ((wholeTo L lo l.length l.length).2, l') ∧ l'.length = l.length ∧ Rep (wholeTo L lo l.length l.length).1 lo l' := by
 obtain ⟨l', h1, h2, h3⟩ := whole_loop l.length hm l.length 0 l (by omega) rfl h
 exact ⟨l', h1, h2, h3⟩
theorem turn_loop {L : Lab} {n m : Nat} (all : List S45) (hn : n ≤ 100000) (hm : m ≤ 100000) (hal : all.length ≤ 1000000) (hnn : ∀ x ∈ all, NonNeg x) (hin : ∀ x ∈ all, LkIn n m (lkOf x)) (d : Nat) : ∀ (i : Nat) (inl outl : List Int), i + d = all.length → inl.length = n → outl.length = m →
 Rep (((all.map lkOf).take i).foldl (turn1 n) (L, false)).1 0 inl → Rep (((all.map lkOf).take i).foldl (turn1 n) (L, false)).1 n outl →
 ∃ inl' outl' : List Int, Ev (fun k => naskhref04_turn.l0 k inl outl all (((all.map lkOf).take i).foldl (turn1 n) (L, false)).2 (i : Int)) ((turnL n m (all.map lkOf) L).2, inl', outl') ∧ inl'.length = n ∧ outl'.length = m ∧ Rep (turnL n m (all.map lkOf) L).1 0 inl' ∧ Rep (turnL n m (all.map lkOf) L).1 n outl' := by
 induction d with
 | zero =>
  intro i inl outl hd hil hol hi ho
  have e : i = all.length := by omega
  rw [List.take_of_length_le (by simp; omega)] at hi ho ⊢
  obtain ⟨q, hq⟩ : ∃ q, q = (all.map lkOf).foldl (turn1 n) (L, false) := ⟨_, rfl⟩
  rw [← hq] at hi ho ⊢
  have htl : turnL n m (all.map lkOf) L = ((wholeTo (wholeTo q.1 0 n n).1 n m m).1, (wholeTo (wholeTo q.1 0 n n).1 n m m).2 || ((wholeTo q.1 0 n n).2 || q.2)) := by rw [hq]; rfl
  obtain ⟨i1, e1, l1, r1⟩ := whole_ev hi (by omega)
  rw [hil] at e1 l1 r1
  have ho1 : Rep (wholeTo q.1 0 n n).1 n outl := by
   intro j hj
   rw [ho j hj, wholeTo_out _ _ _ (n + j) (by omega) n (qlR _)]
  obtain ⟨o1, e2, l2, r2⟩ := whole_ev ho1 (by omega)
  rw [hol] at e2 l2 r2
  have hi1 : Rep (wholeTo (wholeTo q.1 0 n n).1 n m m).1 0 i1 := by
   intro j hj
   rw [r1 j hj, wholeTo_out _ _ _ (0 + j) (by omega) m (qlR _)]
  rw [htl]
  refine ⟨i1, o1, Ev.step (fun k => by rw [naskhref04_turn.l0]) (ev_neg (by omega) ?_), l1, l2, hi1, r2⟩
  refine ev_bind e1 ?_
  refine ev_ite (fun h1 => ?_) (fun h1 => ?_)
  ·refine ev_bind e2 ?_
   dsimp only at h1 ⊢
   refine ev_ite (fun h2 => ev_eq (ev_now _) ?_) (fun h2 => ev_eq (ev_now _) ?_)
   ·rw [h1]; simp
   ·rw [h1]; simp
  ·refine ev_bind e2 ?_
   dsimp only at h1 ⊢
   have h1' : (wholeTo q.1 0 n n).2 = false := by simpa using h1
   refine ev_ite (fun h2 => ev_eq (ev_now _) ?_) (fun h2 => ev_eq (ev_now _) ?_)
   ·rw [h1', h2]; simp
   ·have h2' : (wholeTo (wholeTo q.1 0 n n).1 n m m).2 = false := by simpa using h2
    rw [h1', h2']; simp
 | succ d ih =>
  intro i inl outl hd hil hol hi ho
  have hlt : i < all.length := by omega
  have hx := hnn _ (List.getElem_mem hlt)
  have hk := hin _ (List.getElem_mem hlt)
  have hft : ((all.map lkOf).take (i + 1)).foldl (turn1 n) (L, false) = turn1 n (((all.map lkOf).take i).foldl (turn1 n) (L, false)) (lkOf all[i]) := by
   rw [foldl_take _ _ _ _ (by simpa using hlt)]
   simp
  have ih' := fun a b => ih (i + 1) a b (by omega)
  rw [hft] at ih'
  obtain ⟨q, hq⟩ : ∃ q, q = ((all.map lkOf).take i).foldl (turn1 n) (L, false) := ⟨_, rfl⟩
  rw [← hq] at hi ho ih' ⊢
  obtain ⟨x, hxx⟩ : ∃ x, x = all[i] := ⟨_, rfl⟩
  rw [← hxx] at hx hk ih'
  obtain ⟨a, ha⟩ : ∃ a : Nat, x.f0.f0 = (a : Int) := ⟨x.f0.f0.toNat, by have := hx.a; omega⟩
  obtain ⟨b, hb⟩ : ∃ b : Nat, x.f0.f1 = (b : Int) := ⟨x.f0.f1.toNat, by have := hx.b; omega⟩
  obtain ⟨c, hc⟩ : ∃ c : Nat, x.f1.f0 = (c : Int) := ⟨x.f1.f0.toNat, by have := hx.c; omega⟩
  obtain ⟨e, he⟩ : ∃ e : Nat, x.f1.f1 = (e : Int) := ⟨x.f1.f1.toNat, by have := hx.d; omega⟩
  have hlk : lkOf x = ⟨a, b, c, e⟩ := by unfold lkOf; rw [ha, hb, hc, he]; simp
  rw [hlk] at hk ih'
  have hka : a < b := hk.a
  have hkb : b ≤ n := hk.b
  have hkd : c < e → e ≤ m := hk.d
  have hle := least_ev hi (by omega) a b hka (by omega)
  rw [Nat.zero_add] at hle
  by_cases hce : c < e
  ·have hem := hkd hce
   have hlo := least_ev ho (by omega) c e hce (by omega)
   obtain ⟨v, hv⟩ : ∃ v, v = min (leastL q.1 a (b - a)) (leastL q.1 (n + c) (e - c)) := ⟨_, rfl⟩
   have ht1 : turn1 n q ⟨a, b, c, e⟩ = (setL (setL q.1 (n + c) (n + c + (e - c)) v) a (a + (b - a)) v, chg (setL q.1 (n + c) (n + c + (e - c)) v) a v (b - a) || (chg q.1 (n + c) v (e - c) || q.2)) := by
    unfold turn1
    dsimp only
    rw [if_pos hce, ← hv]
   rw [ht1] at ih'
   dsimp only at ih'
   obtain ⟨o1, s1, lo1, ro1⟩ := same_ev ho (by omega) v c e (by omega) (by omega)
   rw [show n + e = n + c + (e - c) by omega] at ro1
   have hi1 : Rep (setL q.1 (n + c) (n + c + (e - c)) v) 0 inl := rep_out hi (by omega)
   obtain ⟨i1, s2, li1, ri1⟩ := same_ev hi1 (by omega) v a b (by omega) (by omega)
   rw [Nat.zero_add, Nat.zero_add, show b = a + (b - a) by omega] at ri1
   rw [Nat.zero_add] at s2
   have ro2 : Rep (setL (setL q.1 (n + c) (n + c + (e - c)) v) a (a + (b - a)) v) n o1 := rep_out ro1 (by omega)
   obtain ⟨i', o', h1, h2, h3, h4, h5⟩ := ih' i1 o1 (by omega) (by omega) ri1 ro2
   refine ⟨i', o', Ev.step (fun k => by rw [naskhref04_turn.l0]) (ev_pos (by omega) (ev_pos (by omega) ?_)), h2, h3, h4, h5⟩
   rw [rd45 hlt, ← hxx, ha, hb, hc, he, w64 (by omega) (by omega), show (i : Int) + 1 = ((i + 1 : Nat) : Int) by omega]
   refine ev_bind hle ?_
   rw [right_f _ _ (by omega)]
   refine ev_bindc rfl (ev_pos (qdT (by omega)) ?_)
   refine ev_bind hlo ?_
   rw [mn_nat, ← hv]
   refine ev_bind s1 ?_
   refine ev_ite (fun g1 => ?_) (fun g1 => ?_)
   ·dsimp only at g1
    refine ev_bind s2 ?_
    rw [g1, Bool.true_or, Bool.or_true] at h1
    refine ev_ite (fun _ => h1) (fun _ => h1)
   ·have g1' : chg q.1 (n + c) v (e - c) = false := by simpa using g1
    rw [g1', Bool.false_or] at h1
    refine ev_bind s2 ?_
    refine ev_ite (fun g2 => ?_) (fun g2 => ?_)
    ·dsimp only at g2
     rw [g2, Bool.true_or] at h1
     exact h1
    ·have g2' : chg (setL q.1 (n + c) (n + c + (e - c)) v) a v (b - a) = false := by simpa using g2
     rw [g2', Bool.false_or] at h1
     exact h1
  ·obtain ⟨v, hv⟩ : ∃ v, v = leastL q.1 a (b - a) := ⟨_, rfl⟩
   have ht1 : turn1 n q ⟨a, b, c, e⟩ = (setL q.1 a (a + (b - a)) v, chg q.1 a v (b - a) || q.2) := by
    unfold turn1
    dsimp only
    rw [if_neg hce, ← hv]
   rw [ht1] at ih'
   dsimp only at ih'
   rw [← hv] at hle
   obtain ⟨i1, s2, li1, ri1⟩ := same_ev hi (by omega) v a b (by omega) (by omega)
   rw [Nat.zero_add, Nat.zero_add, show b = a + (b - a) by omega] at ri1
   rw [Nat.zero_add] at s2
   have ro2 : Rep (setL q.1 a (a + (b - a)) v) n outl := rep_out ho (by omega)
   obtain ⟨i', o', h1, h2, h3, h4, h5⟩ := ih' i1 outl (by omega) (by omega) ri1 ro2
   refine ⟨i', o', Ev.step (fun k => by rw [naskhref04_turn.l0]) (ev_pos (by omega) (ev_pos (by omega) ?_)), h2, h3, h4, h5⟩
   rw [rd45 hlt, ← hxx, ha, hb, hc, he, w64 (by omega) (by omega), show (i : Int) + 1 = ((i + 1 : Nat) : Int) by omega]
   refine ev_bind hle ?_
   rw [right_f _ _ (by omega)]
   refine ev_bindc rfl (ev_neg (by simp; omega) ?_)
   refine ev_bind s2 ?_
   refine ev_ite (fun g2 => ?_) (fun g2 => ?_)
   ·dsimp only at g2
    rw [g2, Bool.true_or] at h1
    exact h1
   ·have g2' : chg q.1 a v (b - a) = false := by simpa using g2
    rw [g2', Bool.false_or] at h1
    exact h1
theorem turn_ev {L : Lab} {n m : Nat} (all : List S45) (hn : n ≤ 100000) (hm : m ≤ 100000) (hal : all.length ≤ 1000000) (hnn : ∀ x ∈ all, NonNeg x) (hin : ∀ x ∈ all, LkIn n m (lkOf x)) (inl outl : List Int) (hil : inl.length = n) (hol : outl.length = m) (hi : Rep L 0 inl) (ho : Rep L n outl) :
 ∃ inl' outl' : List Int, Ev (fun k => naskhref04_turn.f k inl outl all) ((turnL n m (all.map lkOf) L).2, inl', outl') ∧ inl'.length = n ∧ outl'.length = m ∧ Rep (turnL n m (all.map lkOf) L).1 0 inl' ∧ Rep (turnL n m (all.map lkOf) L).1 n outl' :=
 turn_loop all hn hm hal hnn hin all.length 0 inl outl (by omega) hil hol hi ho
end UFinEv
namespace UFinEv
open U PClusterFinest UFinest
theorem linked_inner {n m : Nat} (links : List S45) (hl : links.length ≤ 1000000) (hn : n ≤ 1000000) (i : Nat) (hi : i < links.length) (hx : LinkOk n m links[i]) (R : List Bool → Prop) (d : Nat) : ∀ (t : Nat) (b : List Bool) (P : Nat → Bool), links[i].f0.f0 ≤ t → t + d = links[i].f0.f1.toNat → b.length = n → RepB P b →
 (∀ b', b'.length = n → RepB (fun j => P j || (decide (t ≤ j) && decide (j < links[i].f0.f1.toNat))) b' → ∃ r, R r ∧ Ev (fun k => naskhref04_linked.l0 k links b' ((i + 1 : Nat) : Int)) r) →
 ∃ r, R r ∧ Ev (fun k => naskhref04_linked.l1 k links b (i : Int) (t : Int)) r := by
 have h1 := hx.a0; have h2 := hx.ab; have h3 := hx.bn
 induction d with
 | zero =>
  intro t b P ht hd hb hP hc
  obtain ⟨r, hr, he⟩ := hc b hb (by
   intro j hj
   rw [hP j hj]
   have : (decide (t ≤ j) && decide (j < links[i].f0.f1.toNat)) = false := by simp; omega
   dsimp only
   rw [this, Bool.or_false])
  refine ⟨r, hr, Ev.step (fun k => by rw [naskhref04_linked.l1]) (ev_pos (by omega) (ev_pos (by omega) ?_))⟩
  rw [rd45 hi]
  refine ev_neg (by omega) ?_
  rw [w64 (by omega) (by omega), show (i : Int) + 1 = ((i + 1 : Nat) : Int) by omega]
  exact he
 | succ d ih =>
  intro t b P ht hd hb hP hc
  obtain ⟨r, hr, he⟩ := ih (t + 1) (b.set t true) (fun j => P j || decide (j = t)) (by omega) (by omega) (by rw [List.length_set]; exact hb) (repB_set hP t (by omega)) (fun b' hb' hr' => hc b' hb' (by
   intro j hj
   rw [hr' j hj]
   by_cases hjt : j = t
   ·subst hjt; simp; omega
   ·have e1 : decide (j = t) = false := qdF hjt
    have e2 : decide (t + 1 ≤ j) = decide (t ≤ j) := by rw [decide_eq_decide]; omega
    dsimp only
    rw [e1, e2, Bool.or_false]))
  refine ⟨r, hr, Ev.step (fun k => by rw [naskhref04_linked.l1]) (ev_pos (by omega) (ev_pos (by omega) ?_))⟩
  rw [rd45 hi]
  refine ev_pos (by omega) (ev_pos (by omega) (ev_pos (by omega) ?_))
  rw [w64 (by omega) (by omega), qtN, show (t : Int) + 1 = ((t + 1 : Nat) : Int) by omega]
  exact he
theorem linked_loop {n m : Nat} (links : List S45) (hl : links.length ≤ 1000000) (hn : n ≤ 1000000) (hx : ∀ x ∈ links, LinkOk n m x) (d : Nat) : ∀ (i : Nat) (b : List Bool), i + d = links.length → b.length = n → RepB (linkedB ((links.take i).map lkOf)) b →
 ∃ r : List Bool, (r.length = n ∧ RepB (linkedB (links.map lkOf)) r) ∧ Ev (fun k => naskhref04_linked.l0 k links b (i : Int)) r := by
 induction d with
 | zero =>
  intro i b hd hb hP
  rw [List.take_of_length_le (by omega)] at hP
  exact ⟨b, ⟨hb, hP⟩, Ev.step (fun k => by rw [naskhref04_linked.l0]) (ev_neg (by omega) (ev_now _))⟩
 | succ d ih =>
  intro i b hd hb hP
  have hlt : i < links.length := by omega
  have hxi := hx _ (List.getElem_mem hlt)
  have h1 := hxi.a0; have h2 := hxi.ab; have h3 := hxi.bn
  obtain ⟨r, hr, he⟩ := linked_inner links hl hn i hlt hxi (fun r => r.length = n ∧ RepB (linkedB (links.map lkOf)) r) (links[i].f0.f1.toNat - links[i].f0.f0.toNat) links[i].f0.f0.toNat b _ (by omega) (by omega) hb hP (fun b' hb' hr' => ih (i + 1) b' (by omega) hb' (by
   intro j hj
   rw [hr' j hj, qtS hlt, List.map_append]
   unfold linkedB
   rw [List.any_append]
   simp [lkOf]))
  refine ⟨r, hr, Ev.step (fun k => by rw [naskhref04_linked.l0]) (ev_pos (by omega) (ev_pos (by omega) ?_))⟩
  rw [rd45 hlt, show links[i].f0.f0 = ((links[i].f0.f0.toNat : Nat) : Int) by omega]
  exact he
theorem linked_ev {n m : Nat} (links : List S45) (hl : links.length ≤ 1000000) (hn : n ≤ 1000000) (hx : ∀ x ∈ links, LinkOk n m x) : ∃ r : List Bool, r.length = n ∧ RepB (linkedB (links.map lkOf)) r ∧ Ev (fun k => naskhref04_linked.f k (n : Int) links) r := by
 obtain ⟨r, ⟨h1, h2⟩, h3⟩ := linked_loop links hl hn hx links.length 0 (List.replicate n false) (by omega) (by simp) (by
  intro j hj
  simp at hj
  simp [linkedB, qgD, List.getElem?_replicate, hj])
 refine ⟨r, h1, h2, ?_⟩
 unfold naskhref04_linked.f
 refine ev_pos (by omega) (ev_pos (by omega) ?_)
 rw [qtN]
 exact h3
theorem ahead_loop (P : Nat → Bool) (b : List Bool) (hb : RepB P b) (hl : b.length ≤ 1000000) (d : Nat) : ∀ i : Nat, i + d = b.length → (∀ j, j < i → P j = false) →
 Ev (fun k => naskhref04_ahead.l0 k b (i : Int)) (let f := (List.range b.length).findIdx P; if 0 < f ∧ f < b.length then [(⟨⟨0, (f : Int) + 1⟩, ⟨0, 0⟩⟩ : S45)] else []) := by
 induction d with
 | zero =>
  intro i hd hf
  refine Ev.step (fun k => by rw [naskhref04_ahead.l0]) (ev_neg (by omega) (ev_eq (ev_now _) ?_))
  have : (List.range b.length).findIdx P = b.length := by
   have := List.findIdx_eq_length (xs := List.range b.length) (p := P)
   rw [List.length_range] at this
   rw [this]
   intro x hx
   rw [hf x (by have := List.mem_range.1 hx; omega)]
  dsimp only
  rw [this, if_neg (by omega)]
 | succ d ih =>
  intro i hd hf
  have hlt : i < b.length := by omega
  have hbi := hb i hlt
  by_cases hp : P i = true
  ·have hfi : (List.range b.length).findIdx P = i := by
    rw [List.findIdx_eq (by simpa using hlt)]
    refine ⟨by simpa using hp, fun j hj => ?_⟩
    simp [hf j hj]
   dsimp only
   rw [hfi]
   refine Ev.step (fun k => by rw [naskhref04_ahead.l0]) (ev_pos (by omega) (ev_pos (by omega) ?_))
   rw [rdB, hbi]
   refine ev_pos hp ?_
   by_cases h0 : 0 < i
   ·rw [if_pos ⟨h0, hlt⟩]
    refine Ev.step (fun k => by rw [naskhref04_ahead.j1]) (ev_pos (qdT (by omega)) (ev_eq (ev_now _) ?_))
    rw [w64 (by omega) (by omega)]
   ·rw [if_neg (by omega)]
    refine Ev.step (fun k => by rw [naskhref04_ahead.j1]) (ev_neg (by simp; omega) (ev_pos (by omega) (ev_pos (by omega) ?_)))
    rw [rdB, hbi]
    exact ev_pos hp (ev_now _)
  ·have hpf : P i = false := by simpa using hp
   have := ih (i + 1) (by omega) (fun j hj => by
    by_cases hji : j = i
    ·subst hji; exact hpf
    ·exact hf j (by omega))
   refine Ev.step (fun k => by rw [naskhref04_ahead.l0]) (ev_pos (by omega) (ev_pos (by omega) ?_))
   rw [rdB, hbi]
   refine ev_neg hp (Ev.step (fun k => by rw [naskhref04_ahead.j1]) (ev_neg (by simp) (ev_pos (by omega) (ev_pos (by omega) ?_))))
   rw [rdB, hbi, w64 (by omega) (by omega), show (i : Int) + 1 = ((i + 1 : Nat) : Int) by omega]
   exact ev_neg hp this
theorem ahead_ev {l : List Lk} (b : List Bool) (hb : RepB (linkedB l) b) (hl : b.length ≤ 1000000) : Ev (fun k => naskhref04_ahead.f k b) (if 0 < firstF l b.length ∧ firstF l b.length < b.length then [(⟨⟨0, (firstF l b.length : Int) + 1⟩, ⟨0, 0⟩⟩ : S45)] else []) := by
 have := ahead_loop (linkedB l) b hb hl b.length 0 (by omega) (fun j h => absurd h (Nat.not_lt_zero _))
 exact this
end UFinEv
namespace UFinEv
open U PClusterFinest UFinest
theorem wrong_l2 (m : Nat) (hm : m ≤ 16777216) (P : Nat → Bool) (b : List Bool) (hb : b.length = m) (hP : RepB P b) (d : Nat) : ∀ i : Nat, i + d = m → (∀ j, j < i → P j = true) →
 Ev (fun k => naskhref04_wrong.l2 k (m : Int) b (i : Int)) (if (List.range m).all P then 0 else 13) := by
 induction d with
 | zero =>
  intro i hd hf
  refine Ev.step (fun k => by rw [naskhref04_wrong.l2]) (ev_neg (by omega) (ev_eq (ev_now _) ?_))
  rw [if_pos]
  rw [List.all_eq_true]
  intro x hx
  exact hf x (by have := List.mem_range.1 hx; omega)
 | succ d ih =>
  intro i hd hf
  refine Ev.step (fun k => by rw [naskhref04_wrong.l2]) (ev_pos (by omega) (ev_pos (by omega) (ev_pos (by omega) ?_)))
  rw [rdB, hP i (by omega)]
  by_cases hp : P i = true
  ·refine ev_pos hp ?_
   rw [w64 (by omega) (by omega), show (i : Int) + 1 = ((i + 1 : Nat) : Int) by omega]
   exact ih (i + 1) (by omega) (fun j hj => by
    by_cases hji : j = i
    ·subst hji; exact hp
    ·exact hf j (by omega))
  ·refine ev_neg hp (ev_eq (ev_now _) ?_)
   rw [if_neg]
   intro h
   exact hp (List.all_eq_true.1 h i (List.mem_range.2 (by omega)))
theorem wrong_l1 {R : Int → Prop} (n m : Nat) (hm : m ≤ 16777216) (l : List S45) (hl : l.length ≤ 1000000) (i : Nat) (hi : i < l.length) (lo hi2 z1 z2 : Nat) (hh : hi2 ≤ m) (d : Nat) : ∀ (t : Nat) (b : List Bool) (P : Nat → Bool), t + d = hi2 → b.length = m → RepB P b →
 (∀ b', b'.length = m → RepB (fun j => P j || (decide (t ≤ j) && decide (j < hi2))) b' → ∃ r, R r ∧ Ev (fun k => naskhref04_wrong.l0 k (n : Int) (m : Int) l b' ((i + 1 : Nat) : Int)) r) →
 ∃ r, R r ∧ Ev (fun k => naskhref04_wrong.l1 k (n : Int) (m : Int) l b (i : Int) (t : Int) (z1 : Int) (z2 : Int) (lo : Int) (hi2 : Int)) r := by
 induction d with
 | zero =>
  intro t b P hd hb hP hc
  obtain ⟨r, hr, he⟩ := hc b hb (by
   intro j hj
   rw [hP j hj]
   have : (decide (t ≤ j) && decide (j < hi2)) = false := by simp; omega
   dsimp only
   rw [this, Bool.or_false])
  refine ⟨r, hr, Ev.step (fun k => by rw [naskhref04_wrong.l1]) (ev_neg (by omega) ?_)⟩
  rw [w64 (by omega) (by omega), show (i : Int) + 1 = ((i + 1 : Nat) : Int) by omega]
  exact he
 | succ d ih =>
  intro t b P hd hb hP hc
  obtain ⟨r, hr, he⟩ := ih (t + 1) (b.set t true) (fun j => P j || decide (j = t)) (by omega) (by rw [List.length_set]; exact hb) (repB_set hP t (by omega)) (fun b' hb' hr' => hc b' hb' (by
   intro j hj
   rw [hr' j hj]
   by_cases hjt : j = t
   ·subst hjt; simp; omega
   ·have e1 : decide (j = t) = false := qdF hjt
    have e2 : decide (t + 1 ≤ j) = decide (t ≤ j) := by rw [decide_eq_decide]; omega
    dsimp only
    rw [e1, e2, Bool.or_false]))
  refine ⟨r, hr, Ev.step (fun k => by rw [naskhref04_wrong.l1]) (ev_pos (by omega) (ev_pos (by omega) (ev_pos (by omega) ?_)))⟩
  rw [w64 (by omega) (by omega), qtN, show (t : Int) + 1 = ((t + 1 : Nat) : Int) by omega]
  exact he
theorem wrong_j2 {n m : Int} {l : List S45} {b : List Bool} {i : Int} {z1 z2 z3 z4 : Int} : Ev (fun k => naskhref04_wrong.j2 k n m l b i true z1 z2 z3 z4) 1 := Ev.step (fun k => by rw [naskhref04_wrong.j2]) (ev_pos rfl (ev_now _))
theorem wrong_l0 (n m : Nat) (hn : n ≤ 16777216) (hm : m ≤ 16777216) (l : List S45) (hl : l.length ≤ 1000000) (d : Nat) : ∀ (i : Nat) (b : List Bool), i + d = l.length → b.length = m → RepB (outB (l.take i)) b →
 (∀ x ∈ l.take i, okB (n : Int) (m : Int) x = true) →
 ∃ r, r = (if l.all (okB (n : Int) (m : Int)) then wrongIn n m l else 1) ∧ Ev (fun k => naskhref04_wrong.l0 k (n : Int) (m : Int) l b (i : Int)) r := by
 induction d with
 | zero =>
  intro i b hd hb hP hok
  rw [List.take_of_length_le (by omega)] at hP hok
  refine ⟨_, rfl, Ev.step (fun k => by rw [naskhref04_wrong.l0]) (ev_neg (by omega) ?_)⟩
  rw [if_pos (List.all_eq_true.2 hok)]
  unfold wrongIn
  have h2 : Ev (fun k => naskhref04_wrong.l2 k (m : Int) b 0) (if (List.range m).all (outB l) then 0 else 13) := wrong_l2 m hm _ b hb hP m 0 (by omega) (fun j h => absurd h (Nat.not_lt_zero _))
  by_cases h8 : (m : Int) = 0 ∧ (n : Int) > 0
  ·rw [if_pos h8]
   exact ev_pos h8.1 (Ev.step (fun k => by rw [naskhref04_wrong.j4]) (ev_pos (qdT h8.2) (ev_now _)))
  ·rw [if_neg h8]
   have h4 : ∀ t : Bool, t = false → Ev (fun k => naskhref04_wrong.j4 k (n : Int) (m : Int) b t) (if (n : Int) = 0 ∧ (m : Int) > 0 then 13 else if (List.range (m : Int).toNat).all (outB l) then 0 else 13) := by
    intro t ht
    refine Ev.step (fun k => by rw [naskhref04_wrong.j4]) (ev_neg (by rw [ht]; decide) ?_)
    have h5 : ∀ t : Bool, t = decide ((n : Int) = 0 ∧ (m : Int) > 0) → Ev (fun k => naskhref04_wrong.j5 k (m : Int) b t) (if (n : Int) = 0 ∧ (m : Int) > 0 then 13 else if (List.range (m : Int).toNat).all (outB l) then 0 else 13) := by
     intro t ht
     by_cases h13 : (n : Int) = 0 ∧ (m : Int) > 0
     ·rw [if_pos h13]
      exact Ev.step (fun k => by rw [naskhref04_wrong.j5]) (ev_pos (by rw [ht]; exact qdT h13) (ev_now _))
     ·rw [if_neg h13, qtN]
      exact Ev.step (fun k => by rw [naskhref04_wrong.j5]) (ev_neg (by rw [ht]; simpa using h13) h2)
    by_cases h0 : (n : Int) = 0
    ·exact ev_pos h0 (h5 _ (by rw [decide_eq_decide]; exact ⟨fun h => ⟨h0, h⟩, fun h => h.2⟩))
    ·exact ev_neg h0 (h5 _ (by symm; rw [decide_eq_false_iff_not]; exact fun h => h0 h.1))
   by_cases h0 : (m : Int) = 0
   ·exact ev_pos h0 (h4 _ (by rw [decide_eq_false_iff_not]; exact fun h => h8 ⟨h0, h⟩))
   ·exact ev_neg h0 (h4 _ rfl)
 | succ d ih =>
  intro i b hd hb hP hok
  have hlt : i < l.length := by omega
  have hmem : l[i] ∈ l := List.getElem_mem hlt
  refine ?_
  by_cases hk : okB (n : Int) (m : Int) l[i] = true
  ·have hk' := hk
   unfold okB at hk'
   rw [Bool.and_eq_true] at hk'
   obtain ⟨a1, a2, a3⟩ := fitB_right hk'.1
   obtain ⟨b1, b2, b3⟩ := fitB_right hk'.2
   have hnext : ∀ b' : List Bool, b'.length = m → RepB (fun j => outB (l.take i) j || (decide (l[i].f1.f0.toNat ≤ j) && decide (j < l[i].f1.f1.toNat))) b' → ∃ r, r = (if l.all (okB (n : Int) (m : Int)) then wrongIn n m l else 1) ∧ Ev (fun k => naskhref04_wrong.l0 k (n : Int) (m : Int) l b' ((i + 1 : Nat) : Int)) r := fun b' hb' hr' => ih (i + 1) b' (by omega) hb' (by
    intro j hj
    rw [hr' j hj, qtS hlt, outB_add]
    dsimp only
    have e1 : decide (l[i].f1.f0.toNat ≤ j) = decide (l[i].f1.f0 ≤ (j : Int)) := by rw [decide_eq_decide]; omega
    have e2 : decide (j < l[i].f1.f1.toNat) = decide ((j : Int) < l[i].f1.f1) := by rw [decide_eq_decide]; omega
    rw [e1, e2]) (by
    intro x hx
    rw [qtS hlt, List.mem_append] at hx
    rcases hx with h | h
    ·exact hok x h
    ·rw [List.mem_singleton.1 h]; exact hk)
   obtain ⟨r, hr, he⟩ := wrong_l1 (R := fun r => r = (if l.all (okB (n : Int) (m : Int)) then wrongIn n m l else 1)) n m hm l hl i hlt l[i].f1.f0.toNat l[i].f1.f1.toNat l[i].f0.f0.toNat l[i].f0.f1.toNat (by omega) (l[i].f1.f1.toNat - l[i].f1.f0.toNat) l[i].f1.f0.toNat b _ (by omega) hb hP hnext
   refine ⟨r, hr, Ev.step (fun k => by rw [naskhref04_wrong.l0]) (ev_pos (by omega) (ev_pos (by omega) ?_))⟩
   rw [rd45 hlt, right_is, right_is]
   refine ev_bindc rfl (ev_pos (by rw [qdT a1, qdT a2]; rfl) (ev_bindc rfl (ev_pos (by rw [qdT b1, qdT b2]; rfl) (ev_neg (by omega) (Ev.step (fun k => by rw [naskhref04_wrong.j2]) (ev_neg (by simp; omega) ?_))))))
   rw [Int.toNat_of_nonneg b1, Int.toNat_of_nonneg a1, Int.toNat_of_nonneg (by omega : 0 ≤ l[i].f1.f1), Int.toNat_of_nonneg (by omega : 0 ≤ l[i].f0.f1)] at he
   exact he
  ·refine ⟨1, ?_, Ev.step (fun k => by rw [naskhref04_wrong.l0]) (ev_pos (by omega) (ev_pos (by omega) ?_))⟩
   ·rw [if_neg]
    intro h
    exact hk (List.all_eq_true.1 h _ hmem)
   ·rw [rd45 hlt, right_is, right_is]
    refine ev_bindc rfl ?_
    by_cases c1 : (decide (0 ≤ l[i].f0.f0) && decide (l[i].f0.f0 < l[i].f0.f1)) = true
    ·refine ev_pos c1 (ev_bindc rfl ?_)
     by_cases c2 : (decide (0 ≤ l[i].f1.f0) && decide (l[i].f1.f0 < l[i].f1.f1)) = true
     ·refine ev_pos c2 ?_
      by_cases c3 : l[i].f0.f1 > (n : Int)
      ·exact ev_pos c3 wrong_j2
      ·refine ev_neg c3 ?_
       have c4 : l[i].f1.f1 > (m : Int) := by
        by_cases c4 : l[i].f1.f1 > (m : Int)
        ·exact c4
        ·exfalso
         apply hk
         unfold okB fitB
         rw [c1, c2, qdT (by omega : l[i].f0.f1 ≤ (n : Int)), qdT (by omega : l[i].f1.f1 ≤ (m : Int))]
         rfl
       rw [qdT c4]
       exact wrong_j2
     ·exact ev_neg c2 wrong_j2
    ·exact ev_neg c1 wrong_j2
theorem wrong_ev (n m : Int) (l : List S45) (hl : l.length ≤ 1000000) : Ev (fun k => naskhref04_wrong.f k n m l) (wrongR n m l) := by
 unfold naskhref04_wrong.f wrongR
 have hT : Ev (fun k => naskhref04_wrong.j0 k n m l true) 1 := Ev.step (fun k => by rw [naskhref04_wrong.j0]) (ev_pos rfl (ev_now _))
 by_cases h1 : n < 0
 ·rw [if_pos (Or.inl h1)]; exact ev_pos h1 hT
 by_cases h2 : n > 16777216
 ·rw [if_pos (Or.inr (Or.inl h2))]; exact ev_neg h1 (ev_pos h2 hT)
 by_cases h3 : m < 0
 ·rw [if_pos (Or.inr (Or.inr (Or.inl h3)))]; exact ev_neg h1 (ev_neg h2 (ev_pos h3 hT))
 by_cases h4 : m > 16777216
 ·rw [if_pos (Or.inr (Or.inr (Or.inr h4)))]
  refine ev_neg h1 (ev_neg h2 (ev_neg h3 ?_))
  rw [qdT h4]; exact hT
 rw [if_neg (by omega)]
 refine ev_neg h1 (ev_neg h2 (ev_neg h3 (Ev.step (fun k => by rw [naskhref04_wrong.j0]) (ev_neg (by simpa using h4) (ev_pos (by omega) (ev_pos (by omega) ?_))))))
 obtain ⟨r, hr, he⟩ := wrong_l0 n.toNat m.toNat (by omega) (by omega) l hl l.length 0 (List.replicate m.toNat false) (by omega) (by simp) (by
  intro j hj
  simp at hj
  simp [outB, qgD, List.getElem?_replicate, hj]) (fun x hx => by simp at hx)
 rw [Int.toNat_of_nonneg (by omega : 0 ≤ n), Int.toNat_of_nonneg (by omega : 0 ≤ m)] at hr he
 rw [hr] at he
 exact he
end UFinEv
end
section
namespace CFin
open U PClusterFinest UFinest UFinEv
theorem wrong_c (n m : Int) {w : World} {v : Value} {l : List S45} (h : SLk k45 w v l) (hl : l.length ≤ 1000000) : Calls Tryz.prog 195 #[.int .i64 n, .int .i64 m, v] w fun e w' => e = .returned (.int .i64 (wrongR n m l)) ∧ Below w.heap.size w w' := by
 obtain ⟨A, c, rfl, hc, hC⟩ := h
 obtain ⟨k, hk⟩ := ev_some (wrong_ev n m l hl)
 exact naskhref04_wrong.calls k n m A c l _ w hC hc hk
theorem refFinest_bad (n m : Int) {w : World} {v : Value} {l : List S45} (h : SLk k45 w v l) (hl : l.length ≤ 1000000) (hb : wrongR n m l ≠ 0 ∨ n = 0) :
 Calls Tryz.prog 122 #[.int .i64 n, .int .i64 m, v] w fun e w' => e = .returned (.tuple #[.slice none 0 0, .int .i64 (wrongR n m l)]) ∧ Below w.heap.size w w' := by
 have H := aMk h
 obtain ⟨A, c, rfl, _, _⟩ := h
 obtain ⟨r, hr⟩ : ∃ r, r = wrongR n m l := ⟨_, rfl⟩
 rw [← hr] at hb ⊢
 have HR := aMk hr; clear hr
 go_enter Tryz.func122, Tryz.ntmps122
 by_cases h0 : r = 0
 ·subst h0
  obtain rfl : n = 0 := by rcases hb with h | h; exact absurd rfl h; exact h
  clear hb
  go_wp2_with (go_at_call 195; refine (wrong_c 0 m H.out hl).mono ?_; rintro e w1 ⟨rfl, hb1⟩; rw [← HR.out]; have HB1 := aMk hb1; clear hb1)
  refine bodyPost_ret (results_tmp2 rfl _ _ _) rfl ?_
  exact ⟨rfl, HB1.out⟩
 ·clear hb
  go_wp2_with (go_at_call 195; refine (wrong_c n m H.out hl).mono ?_; rintro e w1 ⟨rfl, hb1⟩; rw [← HR.out]; have HB1 := aMk hb1; clear hb1)
  refine bodyPost_ret (results_tmp2 rfl _ _ _) rfl ?_
  exact ⟨rfl, HB1.out⟩
end CFin
namespace CFin
open U PClusterFinest UFinest UFinEv
theorem linked_c (n m : Nat) {w : World} {v : Value} {l : List S45} (h : SLk k45 w v l) (hl : l.length ≤ 1000000) (hn : n ≤ 1000000) (h0 : 0 < n) (hx : ∀ x ∈ l, LinkOk n m x) :
 Calls Tryz.prog 196 #[.int .i64 n, v] w fun e w' => ∃ (g cap : Nat) (r : List Bool), e = .returned (.slice (some ⟨g, 0, none⟩) n cap) ∧ r.length = n ∧ RepB (linkedB (l.map lkOf)) r ∧ w.heap.size ≤ g ∧ LB w' w.heap.size g n cap r ∧ Below w.heap.size w w' := by
 obtain ⟨A, c, rfl, hc, hC⟩ := h
 obtain ⟨r, h1, h2, h3⟩ := linked_ev l hl hn hx
 obtain ⟨k, hk⟩ := ev_some h3
 refine (naskhref04_linked.calls k n A c l r w hC hc hk).mono ?_
 rintro e w' ⟨u, rfl, hu, hb⟩
 obtain ⟨g, cap, rfl, hg, _⟩ := Kd.R_form hu (by omega)
 rw [h1] at hu ⊢
 exact ⟨g, cap, r, rfl, h1, h2, hg, LB.of_R hu, hb⟩
theorem ahead_c (n : Nat) {w : World} {base g cap : Nat} {L : List Lk} {b : List Bool} (h : LB w base g n cap b) (hl : b.length = n) (hn : n ≤ 1000000) (hb : RepB (linkedB L) b) :
 Calls Tryz.prog 197 #[.slice (some ⟨g, 0, none⟩) n cap] w fun e w' => ∃ (A : Option Addr) (c : Nat), e = .returned (.slice A (aheadS L n).length c) ∧ Kd.C k45 w' A (aheadS L n).length (aheadS L n) ∧ Below w.heap.size w w' := by
 obtain ⟨_, hc, hC⟩ := Kd.R_reads' h
 have he := ahead_ev b hb (by omega)
 rw [hl] at he
 obtain ⟨k, hk⟩ := ev_some he
 subst hl
 refine (naskhref04_ahead.calls k _ cap b _ w hC hc hk).mono ?_
 rintro e w' ⟨u, rfl, hu, hb⟩
 obtain ⟨A, c, rfl, _, hC2⟩ := Kd.R_reads hu
 exact ⟨A, c, rfl, hC2, hb⟩
theorem turn_c {w0 w : World} {g1 g2 gh n m cap1 cap2 c : Nat} {A : Option Addr} {xs ys : List Int} {all : List S45} {L : Lab} (hB : Below w0.heap.size w0 w) (h1 : LI w w0.heap.size g1 n cap1 xs) (h2 : LI w w0.heap.size g2 m cap2 ys) (hne : g1 ≠ g2)
 (h3 : AL w w0.heap.size g1 g2 gh (.slice A all.length c) all) (hn : n ≤ 100000) (hm : m ≤ 100000) (hal : all.length ≤ 1000000) (hnn : ∀ x ∈ all, NonNeg x) (hin : ∀ x ∈ all, LkIn n m (lkOf x)) (hi : Rep L 0 xs) (ho : Rep L n ys) :
 Calls Tryz.prog 198 #[.slice (some ⟨g1, 0, none⟩) n cap1, .slice (some ⟨g2, 0, none⟩) m cap2, .slice A all.length c] w fun e w' => ∃ xs' ys', e = .returned (.bool (turnL n m (all.map lkOf) L).2) ∧ LI w' w0.heap.size g1 n cap1 xs' ∧ LI w' w0.heap.size g2 m cap2 ys' ∧ AL w' w0.heap.size g1 g2 gh (.slice A all.length c) all ∧ Rep (turnL n m (all.map lkOf) L).1 0 xs' ∧ Rep (turnL n m (all.map lkOf) L).1 n ys' ∧ Below w0.heap.size w0 w' := by
 obtain ⟨xs', ys', he, e1, e2, r1, r2⟩ := turn_ev all hn hm hal hnn hin xs ys h1.len.symm h2.len.symm hi ho
 obtain ⟨k, hk⟩ := ev_some he
 have hc := (Kd.R_reads' h3).2.1
 refine (naskhref04_turn.calls k (fun k => k = g1) _ xs (fun k => k = g2) _ ys A c all _ xs' ys' w0 w hB h1 (fun k e1 e2 => hne (e1.symm.trans e2)) h2 (fun k e1 e2 => hne (e2.symm.trans e1)) (fun W hW => ?_) hc hk).mono ?_
 ·exact (Kd.R_reads' (Kd.R_kept h3 hW (fun q hq hs => hs.elim hq.1.1 hq.1.2))).2.2
 ·rintro e w' ⟨rfl, a1, a2, a3, a4⟩
  exact ⟨xs', ys', rfl, LI.of_R a1, LI.of_R a2, Kd.R_kept h3 a4 (fun q hq hs => hs.elim hq.1.1 hq.1.2), r1, r2, a3⟩
theorem hull_c {w : World} {base g n cap lo : Nat} {xs : List Int} {L : Lab} (h : LI w base g n cap xs) (hr : Rep L lo xs) (hm : n ≤ 1000000) (v : Nat) :
 Calls Tryz.prog 199 #[.slice (some ⟨g, 0, none⟩) n cap, .int .i64 v] w fun e w' => e = .returned (.agg #[.int .i64 ((hullL L lo v n).1 : Nat), .int .i64 ((hullL L lo v n).2 : Nat)]) ∧ Below w.heap.size w w' := by
 obtain ⟨hl, hc, hC⟩ := Kd.R_reads' h
 obtain ⟨k, hk⟩ := ev_some (hull_ev hr (by omega) v)
 rw [← hl] at hk
 subst hl
 exact naskhref04_hull.calls k _ cap xs v _ _ w hC hc hk
theorem refFinest_c (n m : Nat) {w : World} {v : Value} {l : List S45} (h : SLk k45 w v l) (hl : l.length ≤ 1000) (hn : 0 < n) (hn6 : n ≤ 1000) (hm0 : 0 < m) (hm6 : m ≤ 1000) (hw : wrongR n m l = 0) (hlk : ∀ x ∈ l, LinkOk n m x) :
 Calls Tryz.prog 122 #[.int .i64 n, .int .i64 m, v] w fun e w' => ∃ (u : Value) (L : Lab), e = .returned (.tuple #[u, .int .i64 0]) ∧ FinOk n m (l.map lkOf) L ∧ Kd.R k45 36 w' w.heap.size (fun _ => True) u (cluS n m L n) ∧ Below w.heap.size w w' := by
 have H := aMk h
 obtain ⟨A, c, rfl, hcc, hC⟩ := h
 have HW := aMk hw
 have HLK := aMk hlk
 have HC0 := aMk hC
 have HCC := aMk hcc
 clear hw hlk hC hcc
 have hn0 : ¬ (n : Int) = 0 := by omega
 go_enter Tryz.func122, Tryz.ntmps122
 go_upto_region 4 with (go_at_call 195; refine (wrong_c n m H.out (by omega)).mono ?_; rintro e w1 ⟨rfl, hb1⟩; rw [HW.out]; have HB1 := aMk hb1; clear hb1)
 refine start_ (n := 6) (S := (fun W => True)) (ds := []) #[false, false, false, false, false, false] (by kernel_rfl) (by kernel_rfl) (by rfl) trivial (fun hS0 => ?_)
 refine pure_ (i := 0) (N := (some 29)) (v := ?_) (a' := ?_) #[true, false, false, false, false, false] rfl rfl (by kernel_rfl) (fun _ _ _ h => h) (Or.inl ⟨by rfl, ?_⟩) ?_ ?_
 rotate_left
 ·intro w'
  go_simp
  with_reducible rfl
 rotate_left
 ·simp only [Act.put, sqA, sq0, sq1]
  rfl
 refine pure_ (i := 2) (N := (some 31)) (v := ?_) (a' := ?_) #[true, false, true, false, false, false] rfl rfl (by kernel_rfl) (fun _ _ _ h => h) (Or.inl ⟨by rfl, ?_⟩) ?_ ?_
 rotate_left
 ·intro w'
  go_simp
  with_reducible rfl
 rotate_left
 ·simp only [Act.put, sqA, sq0, sq1]
  rfl
 clear hS0
 refine join_ (σ := Nat × Nat × Nat × Nat) 1 #[true, true, true, true, true, false] (fun s => [(30, .slice (some ⟨s.1, 0, none⟩) n s.2.1), (32, .slice (some ⟨s.2.2.1, 0, none⟩) m s.2.2.2), (9, .slice (some ⟨s.1, 0, none⟩) n s.2.1)]) (fun s w' => Below w.heap.size w w' ∧ LI w' w.heap.size s.1 n s.2.1 (List.replicate n 0) ∧ LI w' w.heap.size s.2.2.1 m s.2.2.2 (List.replicate m 0) ∧ s.1 ≠ s.2.2.1) ?_ (fun hcont => ?_)
 rotate_left
 ·refine two_ (i := 1) (j := 3) (Ni := some 30) (Nj := some 32) #[true, true, true, false, false, false] #[true, false, true, true, false, false] rfl rfl rfl rfl (by kernel_rfl) (by decide) (by decide) (fun K hK => ?_) (fun K hK => ?_)
  ·refine Kd.R_make_step (Kd.int .i64) (w0 := w) w.heap.size 3 (by rfl) (N := 30) rfl 22 _ _ rfl n rfl rfl Tryz.underlying22 (.int .i64 0) 8 info3 rfl (by decide) (by omega) 0 (ok := fun k => k = w1.heap.size) (okp := fun k => k = w1.heap.size) rfl (fun _ hk => hk) rfl (by omega) (by omega) (below_drew HB1.out) ((below_drew HB1.out)).size ?_
   intro v w2 hv hb hg hnew
   obtain ⟨gax, capax, ev, hgo⟩ := R_form hv (hnew.imp fun _ h => h.1)
   subst ev
   rw [qlr, qtN] at hv ⊢
   have egx : gax = w1.heap.size := hv.1 _ rfl
   have HEx := aMk egx
   have HVax := aMk (LI.of_R hv)
   have HBax := aMk hb
   have HGx := aMk hg
   clear hv hb hg hnew hgo egx
   change K (Act.put _ (some 30) _) _
   refine hK.out _ _ trivial (fun hS0 => ?_)
   clear hK
   refine norm_ (a' := ?_) ?_ ?_
   rotate_left
   ·simp only [Act.put, sqA, sq0, sq1]
    rfl
   clear hS0
   refine pure_ (i := 4) (N := (some 9)) (v := ?_) (a' := ?_) #[true, true, true, false, true, false] rfl rfl (by kernel_rfl) (fun _ _ _ h => h) (Or.inl ⟨by rfl, ?_⟩) ?_ ?_
   rotate_left
   ·intro w'
    go_simp
    with_reducible rfl
   rotate_left
   ·simp only [Act.put, sqA, sq0, sq1]
    rfl
   refine one_ (i := 3) (N := (some 32)) #[true, true, true, true, true, false] rfl rfl (by kernel_rfl) (by decide) (fun K hK => ?_)
   refine Kd.R_make_step (Kd.int .i64) (w0 := w) w.heap.size 3 (by rfl) (N := 32) rfl 22 _ _ rfl m rfl rfl Tryz.underlying22 (.int .i64 0) 8 info3 rfl (by decide) (by omega) 0 (ok := fun k => k = w2.heap.size) (okp := fun k => k = w2.heap.size) rfl (fun _ hk => hk) rfl (by omega) (by omega) HBax.out (HBax.out).size ?_
   intro v w3 hv hb hg hnew
   obtain ⟨gay, capay, ev, hgo⟩ := R_form hv (hnew.imp fun _ h => h.1)
   subst ev
   rw [qlr, qtN] at hv ⊢
   have egy : gay = w2.heap.size := hv.1 _ rfl
   have HEy := aMk egy
   have HVay := aMk (LI.of_R hv)
   have HBay := aMk hb
   have HGy := aMk hg
   clear hv hb hg hnew hgo egy
   change K (Act.put _ (some 32) _) _
   refine hK.out _ _ trivial (fun hS0 => ?_)
   clear hK
   have hlx : w2.heap.size ≠ w1.heap.size := by have h := HVax.out.ltw; have e := HEx.out; omega
   have hx' : LI w3 w.heap.size gax n capax (List.replicate n 0) := Kd.R_grown HVax.out HGy.out (fun k _ e => by cases e)
   have hne : gax ≠ gay := by rw [HEx.out, HEy.out]; exact fun e => hlx e.symm
   exact hcont (gax, capax, gay, capay) w3 ⟨HBay.out, hx', HVay.out, hne⟩
  ·refine Kd.R_make_step (Kd.int .i64) (w0 := w) w.heap.size 3 (by rfl) (N := 32) rfl 22 _ _ rfl m rfl rfl Tryz.underlying22 (.int .i64 0) 8 info3 rfl (by decide) (by omega) 0 (ok := fun k => k = w1.heap.size) (okp := fun k => k = w1.heap.size) rfl (fun _ hk => hk) rfl (by omega) (by omega) (below_drew HB1.out) ((below_drew HB1.out)).size ?_
   intro v w2 hv hb hg hnew
   obtain ⟨gax, capax, ev, hgo⟩ := R_form hv (hnew.imp fun _ h => h.1)
   subst ev
   rw [qlr, qtN] at hv ⊢
   have egx : gax = w1.heap.size := hv.1 _ rfl
   have HEx := aMk egx
   have HVax := aMk (LI.of_R hv)
   have HBax := aMk hb
   have HGx := aMk hg
   clear hv hb hg hnew hgo egx
   change K (Act.put _ (some 32) _) _
   refine hK.out _ _ trivial (fun hS0 => ?_)
   clear hK
   refine norm_ (a' := ?_) ?_ ?_
   rotate_left
   ·simp only [Act.put, sqA, sq0, sq1]
    rfl
   clear hS0
   refine one_ (i := 1) (N := (some 30)) #[true, true, true, true, false, false] rfl rfl (by kernel_rfl) (by decide) (fun K hK => ?_)
   refine Kd.R_make_step (Kd.int .i64) (w0 := w) w.heap.size 3 (by rfl) (N := 30) rfl 22 _ _ rfl n rfl rfl Tryz.underlying22 (.int .i64 0) 8 info3 rfl (by decide) (by omega) 0 (ok := fun k => k = w2.heap.size) (okp := fun k => k = w2.heap.size) rfl (fun _ hk => hk) rfl (by omega) (by omega) HBax.out (HBax.out).size ?_
   intro v w3 hv hb hg hnew
   obtain ⟨gay, capay, ev, hgo⟩ := R_form hv (hnew.imp fun _ h => h.1)
   subst ev
   rw [qlr, qtN] at hv ⊢
   have egy : gay = w2.heap.size := hv.1 _ rfl
   have HEy := aMk egy
   have HVay := aMk (LI.of_R hv)
   have HBay := aMk hb
   have HGy := aMk hg
   clear hv hb hg hnew hgo egy
   change K (Act.put _ (some 30) _) _
   refine hK.out _ _ trivial (fun hS0 => ?_)
   clear hK
   refine norm_ (a' := ?_) ?_ ?_
   rotate_left
   ·simp only [Act.put, sqA, sq0, sq1]
    rfl
   clear hS0
   refine pure_ (i := 4) (N := (some 9)) (v := ?_) (a' := ?_) #[true, true, true, true, true, false] rfl rfl (by kernel_rfl) (fun _ _ _ h => h) (Or.inl ⟨by rfl, ?_⟩) ?_ ?_
   rotate_left
   ·intro w'
    go_simp
    with_reducible rfl
   rotate_left
   ·simp only [Act.put, sqA, sq0, sq1]
    rfl
   have hlx : w2.heap.size ≠ w1.heap.size := by have h := HVax.out.ltw; have e := HEx.out; omega
   have hx' : LI w3 w.heap.size gax m capax (List.replicate m 0) := Kd.R_grown HVax.out HGy.out (fun k _ e => by cases e)
   have hne : gax ≠ gay := by rw [HEx.out, HEy.out]; exact fun e => hlx e.symm
   exact hcont (gay, capay, gax, capax) w3 ⟨HBay.out, HVay.out, hx', fun e => hne e.symm⟩
 rintro ⟨g1, cap1, g2, cap2⟩ w3 ⟨hb3, hv1, hv2, hne⟩
 dsimp only [putAll]
 have HB3 := aMk hb3
 have HV1 := aMk hv1
 have HV2 := aMk hv2
 have HNE := aMk hne
 clear hb3 hv1 hv2 hne HB1
 refine norm_ (a' := ?_) ?_ ?_
 rotate_left
 ·simp only [Act.put, sqA, sq0, sq1]
  rfl
 refine pure_ (i := 5) (N := (some 10)) (v := ?_) (a' := ?_) #[true, true, true, true, true, true] rfl rfl (by kernel_rfl) (fun _ _ _ h => h) (Or.inl ⟨by rfl, ?_⟩) ?_ ?_
 rotate_left
 ·intro w'
  go_simp
  with_reducible rfl
 rotate_left
 ·simp only [Act.put, sqA, sq0, sq1]
  rfl
 refine done_ (by kernel_rfl) ?_
 go_wp2_with fail
 go_loopw [11] (fun v wr => ∃ (k : Nat) (xs : List Int), v = .int .i64 k ∧ k ≤ n ∧ Aside0 (xs.length = n) ∧ Aside0 (Upto 0 k xs) ∧ Aside0 (LI wr w.heap.size g1 n cap1 xs) ∧ Aside0 (LI wr w.heap.size g2 m cap2 (List.replicate m 0)) ∧ Aside0 (Below w.heap.size w wr)) (fun v _ => n - (intOf v).toNat)
 case atStart => exact ⟨0, List.replicate n 0, rfl, Nat.zero_le _, ⟨qlr ..⟩, ⟨fun i hi => absurd hi (Nat.not_lt_zero i)⟩, HV1, HV2, HB3⟩
 case round =>
  clear HV1 HV2 HB3
  obtain ⟨k, xs, rfl, hk, HXL, HUP, HV1, HV2, HB1⟩ := hrel
  by_cases hlt : k < n
  ·obtain ⟨hy, hz⟩ := HV1.out.cell k hlt
   have HP := aMk (HV1.out.put k (k : Int))
   have HQ := aMk (HV2.out.other HNE.out.symm k (.int .i64 k))
   have HU : Aside0 (Upto 0 (k + 1) (xs.set k (k : Int))) := ⟨by have := HUP.out.set (by rw [HXL.out]; exact hlt); rwa [Nat.zero_add] at this⟩
   have HXL2 : Aside0 ((xs.set k (k : Int)).length = n) := ⟨by rw [List.length_set]; exact HXL.out⟩
   have HGE := aMk HV1.out.lt
   clear HV1 HV2 HUP
   have hkI : (k : Int) < (n : Int) := by omega
   go_wp2_with fail
   exact ⟨⟨k + 1, _, by go_num, by omega, HXL2, HU, HP, HQ, ⟨HB1.out.setCell (p := ⟨g1, k, none⟩) HGE.out _⟩⟩, by simp [intOf]; omega⟩
  ·have ek : k = n := by omega
   subst ek
   go_wp2_with fail
   have HRI : Aside0 (Rep idL 0 xs) := ⟨by have h := HUP.out; rw [← HXL.out] at h; exact h.rep⟩
   clear HUP
   go_loopw [12] (fun v wr => ∃ (j : Nat) (ys : List Int), v = .int .i64 j ∧ j ≤ m ∧ Aside0 (ys.length = m) ∧ Aside0 (Upto k j ys) ∧ Aside0 (LI wr w.heap.size g1 k cap1 xs) ∧ Aside0 (LI wr w.heap.size g2 m cap2 ys) ∧ Aside0 (Below w.heap.size w wr)) (fun v _ => m - (intOf v).toNat)
   case atStart => exact ⟨0, List.replicate m 0, rfl, Nat.zero_le _, ⟨qlr ..⟩, ⟨fun i hi => absurd hi (Nat.not_lt_zero i)⟩, HV1, HV2, HB1⟩
   case round =>
    clear HV1 HV2 HB1
    obtain ⟨j, ys, rfl, hj, HYL, HUP, HV1, HV2, HB1⟩ := hrel
    by_cases hlt2 : j < m
    ·obtain ⟨hy, hz⟩ := HV2.out.cell j hlt2
     have HP := aMk (HV2.out.put j ((k + j : Nat) : Int))
     have HQ := aMk (HV1.out.other HNE.out j (.int .i64 ((k + j : Nat) : Int)))
     have HU : Aside0 (Upto k (j + 1) (ys.set j ((k + j : Nat) : Int))) := ⟨HUP.out.set (by rw [HYL.out]; exact hlt2)⟩
     have HYL2 : Aside0 ((ys.set j ((k + j : Nat) : Int)).length = m) := ⟨by rw [List.length_set]; exact HYL.out⟩
     have HGE := aMk HV2.out.lt
     clear HV1 HV2 HUP
     have hkI : (j : Int) < (m : Int) := by omega
     obtain ⟨q, hq⟩ : ∃ q : Nat, q = k + j := ⟨_, rfl⟩
     rw [← hq] at HP HQ HU HYL2
     have e1 : IntKind.i64.wrap ((k : Int) + (j : Int)) = (q : Int) := by rw [IntWalk.i64_in _ (by omega)]; omega
     clear hq
     go_wp2_with fail
     exact ⟨⟨j + 1, _, by go_num, by omega, HYL2, HU, HQ, HP, ⟨HB1.out.setCell (p := ⟨g2, j, none⟩) HGE.out _⟩⟩, by simp [intOf]; omega⟩
    ·have ej : j = m := by omega
     subst ej
     have HRO : Aside0 (Rep idL k ys) := ⟨by have h := HUP.out; rw [← HYL.out] at h; exact h.rep⟩
     clear HUP
     go_wp2_with (first | ((with_reducible refine gate_builtin (b := .append) (xs := #[.const (.slice none 0 0), .tmp 53]) rfl ?_); at_builtin; refine Kd.R_append_rows k45 (w0 := w) w.heap.size rfl (.const (.slice none 0 0)) (.tmp 53) 26 36 (.agg #[(.int .i64 0), (.int .i64 0), (.int .i64 0), (.int .i64 0)]) 32 rfl Tryz.underlying26 info45 rfl (by decide) (by omega) (.slice none 0 0) [] l A l.length c (fun k => k ≠ g1 ∧ k ≠ g2) (fun _ => False) rfl rfl (Kd.R_nil _ _ _ _ _) (Kd.C_below HC0.out HB1.out) (fun x cs h => by rw [k45_open h]; exact k45_mkM _ _ _ x) (fun _ h => h.elim) (fun q hq => ⟨fun e => by have := HV1.out.ltw; omega, fun e => by have := HV2.out.ltw; omega⟩) HB1.out HB1.out.size (by simp only [List.length_nil]; omega) ?_; intro v4 w4 hv hb hg hat; rw [List.nil_append] at hv; have HAL := aMk hv; have HB4 := aMk hb; have HV14 : Aside0 (LI w4 w.heap.size g1 k cap1 xs) := ⟨Kd.R_grown HV1.out hg (fun _ _ e => by cases e)⟩; have HV24 : Aside0 (LI w4 w.heap.size g2 j cap2 ys) := ⟨Kd.R_grown HV2.out hg (fun _ _ e => by cases e)⟩; clear hv hb hg hat HB1 HV1 HV2) | (go_at_call 196; refine (linked_c k j (SLk.below H.out HB4.out) (by omega) (by omega) hn HLK.out).mono ?_; rintro e w5 ⟨gh, caph, has, rfl, hhl, hhr, hgh, hu, hb5⟩; have HHL := aMk hhl; have HHR := aMk hhr; have HU := aMk hu; have HB5 : Aside0 (Below w.heap.size w w5) := ⟨qbP HB4.out hb5⟩; have HV15 := aMk (HV14.out.below hb5); have HV25 := aMk (HV24.out.below hb5); have HAL5 : Aside0 (AL w5 w.heap.size g1 g2 gh v4 l) := ⟨qrB (qrM (Kd.R_bound HAL.out) (fun q hq => ⟨hq.1, by have := hq.2.2.1; omega⟩)) hb5⟩; have HU : Aside0 (LB w5 w.heap.size gh k caph has) := ⟨Kd.R_lower HU.out HB4.out.size⟩; clear hhl hhr hgh hu hb5 HB4 HV14 HV24 HAL))
     go_loopw [13, 15] (fun v13 v15 wr => ∃ (i : Nat) (al : List S45), v15 = .int .i64 i ∧ 1 ≤ i ∧ i ≤ k ∧ Aside0 (al.map lkOf = l.map lkOf ++ strayL (l.map lkOf) i) ∧ Aside0 (∀ x ∈ al, NonNeg x) ∧ Aside0 (al.length ≤ l.length + i) ∧ Aside0 (AL wr w.heap.size g1 g2 gh v13 al) ∧ Aside0 (LB wr w.heap.size gh k caph has) ∧ Aside0 (LI wr w.heap.size g1 k cap1 xs) ∧ Aside0 (LI wr w.heap.size g2 j cap2 ys) ∧ Aside0 (Below w.heap.size w wr)) (fun _ v _ => k - (intOf v).toNat)
     case atStart => exact ⟨1, l, rfl, qlR _, hn, ⟨by rw [show strayL (l.map lkOf) 1 = [] by rw [strayL_add]; rfl, List.append_nil]⟩, ⟨fun x hx => (HLK.out x hx).nn⟩, ⟨by omega⟩, HAL5, HU, HV15, HV25, HB5⟩
     case round =>
      clear HAL5 HU HV15 HV25 HB5
      obtain ⟨i, al, rfl, hi1, hik, HMP, HNN, HLE, HAL, HU, HV1, HV2, HB5⟩ := hrel
      by_cases hlt3 : i < k
      ·have hcl := HU.out.cell i hlt3
       rw [HHR.out i (by rw [HHL.out]; exact hlt3)] at hcl
       have hkI : (i : Int) < (k : Int) := by omega
       obtain ⟨b, hb⟩ : ∃ b, b = linkedB (l.map lkOf) i := ⟨_, rfl⟩
       rw [← hb] at hcl
       have HBB := aMk hb; clear hb
       cases b with
       | true =>
        go_wp2_with fail
        exact ⟨⟨i + 1, al, by go_num, by omega, by omega, ⟨by rw [HMP.out, strayL_add, if_neg (by rw [← HBB.out]; simp), List.append_nil]⟩, HNN, ⟨by have := HLE.out; omega⟩, HAL, HU, HV1, HV2, HB5⟩, by simp [intOf]; omega⟩
       | false =>
        have e1 : IntKind.i64.wrap ((i : Int) - 1) = (i : Int) - 1 := by rw [IntWalk.i64_in _ (by omega)]
        have e2 : IntKind.i64.wrap ((i : Int) + 1) = (i : Int) + 1 := by rw [IntWalk.i64_in _ (by omega)]
        go_wp2_with (first | ((with_reducible refine gate_builtin (b := .append) (xs := #[.tmp 68, .tmp 75]) rfl ?_); at_builtin; refine Kd.R_append k45 (w0 := w) w.heap.size rfl (.tmp 68) (.tmp 75) 26 36 (.agg #[(.int .i64 0), (.int .i64 0), (.int .i64 0), (.int .i64 0)]) 32 rfl Tryz.underlying26 info45 rfl (by decide) (by omega) _ al (stray1 i) [.int .i64 ((i : Int) - 1), .int .i64 ((i : Int) + 1), .int .i64 0, .int .i64 0] (fun k => (k ≠ g1 ∧ k ≠ g2) ∧ k ≠ gh) (fun _ => False) rfl (by first | (go_simp; done) | (go_simp; rfl)) (k45_mkM _ _ _ (stray1 i)) (fun _ hk => hk.elim) (fun q hq => ⟨⟨fun e => by have := HV1.out.ltw; omega, fun e => by have := HV2.out.ltw; omega⟩, fun e => by have := HU.out.ltw; omega⟩) HAL.out HB5.out HB5.out.size (by have := HLE.out; omega) ?_; intro v6 w6 hv hb hg hat; have HAL6 := aMk hv; have HB6 := aMk hb; have HV16 : Aside0 (LI w6 w.heap.size g1 k cap1 xs) := ⟨Kd.R_grown HV1.out hg (fun q hq e => (HAL.out.1 q e.symm).1.1 hq)⟩; have HV26 : Aside0 (LI w6 w.heap.size g2 j cap2 ys) := ⟨Kd.R_grown HV2.out hg (fun q hq e => (HAL.out.1 q e.symm).1.2 hq)⟩; have HU6 : Aside0 (LB w6 w.heap.size gh k caph has) := ⟨Kd.R_grown HU.out hg (fun q hq e => (HAL.out.1 q e.symm).2 hq)⟩; clear hv hb hg hat HAL HB5 HV1 HV2 HU hcl))
        exact ⟨⟨i + 1, al ++ [stray1 i], by go_num, by omega, by omega, ⟨by rw [List.map_append, HMP.out, strayL_add, if_pos ⟨hi1, HBB.out.symm⟩, List.append_assoc, List.map_cons, List.map_nil, stray1_lk hi1]⟩, ⟨fun x hx => (List.mem_append.1 hx).elim (HNN.out x) (fun h => by rw [List.mem_singleton.1 h]; exact stray1_nn hi1)⟩, ⟨by rw [List.length_append]; have := HLE.out; simp only [List.length_cons, List.length_nil]; omega⟩, HAL6, HU6, HV16, HV26, HB6⟩, by simp [intOf]; omega⟩
      ·have ei : i = k := by omega
       subst ei
       go_wp2_with (first | (go_at_call 197; refine (ahead_c i HU.out HHL.out (by omega) HHR.out).mono ?_; rintro e w7 ⟨Aa, ca, rfl, hca, hb7⟩; have HCA := aMk hca; have HGH := aMk (Nat.lt_of_lt_of_le HU.out.ltw hb7.size); have HAL7 := aMk (qrB HAL.out hb7); have HV17 := aMk (HV1.out.below hb7); have HV27 := aMk (HV2.out.below hb7); have HB7 : Aside0 (Below w.heap.size w w7) := ⟨qbP HB5.out hb7⟩; clear hca hb7 HAL HU HV1 HV2 HB5) | ((with_reducible refine gate_builtin (b := .append) (xs := #[.tmp 77, .tmp 79]) rfl ?_); at_builtin; refine Kd.R_append_rows k45 (w0 := w) w.heap.size rfl (.tmp 77) (.tmp 79) 26 36 (.agg #[(.int .i64 0), (.int .i64 0), (.int .i64 0), (.int .i64 0)]) 32 rfl Tryz.underlying26 info45 rfl (by decide) (by omega) _ al (aheadS (l.map lkOf) i) Aa (aheadS (l.map lkOf) i).length ca (fun k => (k ≠ g1 ∧ k ≠ g2) ∧ k ≠ gh) (fun _ => False) rfl rfl HAL7.out HCA.out (fun x cs h => by rw [k45_open h]; exact k45_mkM _ _ _ x) (fun _ h => h.elim) (fun q hq => ⟨⟨fun e => by have := HV17.out.ltw; omega, fun e => by have := HV27.out.ltw; omega⟩, fun e => by have := HGH.out; omega⟩) HB7.out HB7.out.size (by have := HLE.out; have := aheadS_len (l.map lkOf) i; omega) ?_; intro v8 w8 hv hb hg hat; have HAL8 := aMk hv; have HB8 := aMk hb; have HV18 : Aside0 (LI w8 w.heap.size g1 i cap1 xs) := ⟨Kd.R_grown HV17.out hg (fun q hq e => (HAL7.out.1 q e.symm).1.1 hq)⟩; have HV28 : Aside0 (LI w8 w.heap.size g2 j cap2 ys) := ⟨Kd.R_grown HV27.out hg (fun q hq e => (HAL7.out.1 q e.symm).1.2 hq)⟩; clear hv hb hg hat HAL7 HCA HV17 HV27 HB7))
       have HMP8 : Aside0 ((al ++ aheadS (l.map lkOf) i).map lkOf = allL i (l.map lkOf)) := ⟨by rw [List.map_append, HMP.out, aheadS_lk]; rfl⟩
       have HNN8 : Aside0 (∀ x ∈ al ++ aheadS (l.map lkOf) i, NonNeg x) := ⟨fun x hx => (List.mem_append.1 hx).elim (HNN.out x) (aheadS_nn _ _ x)⟩
       have HLE8 : Aside0 ((al ++ aheadS (l.map lkOf) i).length ≤ 10000) := ⟨by rw [List.length_append]; have := HLE.out; have := aheadS_len (l.map lkOf) i; omega⟩
       obtain ⟨A8, c8, e8⟩ := Kd.R_slice HAL8.out
       obtain ⟨all, hall⟩ : ∃ all, all = al ++ aheadS (l.map lkOf) i := ⟨_, rfl⟩
       rw [← hall] at HAL8 HMP8 HNN8 HLE8 e8
       subst e8
       clear hall HMP HNN HLE HHL HHR HGH
       have HIN : Aside0 (∀ x ∈ all, LkIn i j (lkOf x)) := ⟨fun x hx => all_in (l := l.map lkOf) (fun y hy => by obtain ⟨z, hz, rfl⟩ := List.mem_map.1 hy; exact linkOk_in (HLK.out z hz)) _ (by rw [← HMP8.out]; exact List.mem_map_of_mem hx)⟩
       go_loopg [84] (sumL idL (i + j) + 1) (fun kq _ wr => ∃ (L : Lab) (xs ys : List Int), Aside0 (∀ R, Closed i j (l.map lkOf) R → Sound R L) ∧ Aside0 (sumL L (i + j) < kq) ∧ Aside0 (Rep L 0 xs) ∧ Aside0 (Rep L i ys) ∧ Aside0 (LI wr w.heap.size g1 i cap1 xs) ∧ Aside0 (LI wr w.heap.size g2 j cap2 ys) ∧ Aside0 (AL wr w.heap.size g1 g2 gh (.slice A8 all.length c8) all) ∧ Aside0 (Below w.heap.size w wr))
       case atStart => exact ⟨idL, xs, ys, ⟨fun R hR x => hR.eqv.refl x⟩, ⟨Nat.lt_succ_self _⟩, HRI, HRO, HV18, HV28, HAL8, HB8⟩
       case round =>
        clear HRI HRO HV18 HV28 HAL8 HB8
        obtain ⟨L, xs, ys, HSD, HKQ, HRI, HRO, HV1, HV2, HAL, HB8⟩ := hrel
        cases gk with
        | zero => exact absurd HKQ.out (Nat.not_lt_zero _)
        | succ gk =>
         have HTS := aMk (turnL_sum (fun x hx => by obtain ⟨z, hz, rfl⟩ := List.mem_map.1 hx; exact HIN.out z hz) L : sumL (turnL i j (all.map lkOf) L).1 (i + j) ≤ sumL L (i + j) ∧ _)
         have HTL : Aside0 ((turnL i j (all.map lkOf) L).2 = false → FinOk i j (l.map lkOf) L) := ⟨fun hf => turn_last (fun y hy => by obtain ⟨z, hz, rfl⟩ := List.mem_map.1 hy; exact linkOk_in (HLK.out z hz)) (fun y hy => by obtain ⟨z, hz, rfl⟩ := List.mem_map.1 hy; exact linkOk_out (HLK.out z hz)) HSD.out (by rw [← HMP8.out]; exact hf)⟩
         have HTD : Aside0 (∀ R, Closed i j (l.map lkOf) R → Sound R (turnL i j (all.map lkOf) L).1) := ⟨by rw [HMP8.out]; exact turn_step (fun y hy => by obtain ⟨z, hz, rfl⟩ := List.mem_map.1 hy; exact linkOk_in (HLK.out z hz)) HSD.out⟩
         have HTF : Aside0 ((turnL i j (all.map lkOf) L).2 = false → (turnL i j (all.map lkOf) L).1 = L) := ⟨fun hf => (turnL_false hf).1⟩
         obtain ⟨b, hb⟩ : ∃ b, b = (turnL i j (all.map lkOf) L).2 := ⟨_, rfl⟩
         have HBB := aMk hb; clear hb
         cases b with
         | true =>
          go_wp2_with (go_at_call 198; refine (turn_c HB8.out HV1.out HV2.out HNE.out HAL.out (by omega) (by omega) (qlT HLE8.out (by decide)) HNN8.out HIN.out HRI.out HRO.out).mono ?_; rintro e w9 ⟨xs', ys', rfl, a1, a2, a3, a4, a5, a6⟩; rw [← HBB.out]; have HV19 := aMk a1; have HV29 := aMk a2; have HAL9 := aMk a3; have HRI9 := aMk a4; have HRO9 := aMk a5; have HB9 := aMk a6; clear a1 a2 a3 a4 a5 a6 HV1 HV2 HAL HB8)
          go_roundg gk
          case measure => omega
          case rel => exact ⟨_, xs', ys', HTD, ⟨by have := HTS.out.2 HBB.out.symm; have := HKQ.out; omega⟩, HRI9, HRO9, HV19, HV29, HAL9, HB9⟩
         | false =>
          go_wp2_with (go_at_call 198; refine (turn_c HB8.out HV1.out HV2.out HNE.out HAL.out (by omega) (by omega) (qlT HLE8.out (by decide)) HNN8.out HIN.out HRI.out HRO.out).mono ?_; rintro e w9 ⟨xs', ys', rfl, a1, a2, a3, a4, a5, a6⟩; rw [← HBB.out]; have HV19 := aMk a1; have HV29 := aMk a2; have HRI9 : Aside0 (Rep L 0 xs') := ⟨by rw [HTF.out HBB.out.symm] at a4; exact a4⟩; have HRO9 : Aside0 (Rep L i ys') := ⟨by rw [HTF.out HBB.out.symm] at a5; exact a5⟩; have HB9 := aMk a6; clear a1 a2 a3 a4 a5 a6 HV1 HV2 HAL HB8)
          have HFO : Aside0 (FinOk i j (l.map lkOf) L) := ⟨HTL.out HBB.out.symm⟩
          clear HTS HTL HTD HTF HBB HKQ HSD HRI HRO HIN HNN8 HLE8 HMP8
          go_loopw [16, 17] (fun v16 v17 wr => ∃ q : Nat, v17 = .int .i64 q ∧ q ≤ i ∧ Aside0 (Kd.R k45 36 wr w.heap.size (fun p => p ≠ g1 ∧ p ≠ g2) v16 (cluS i j L q)) ∧ Aside0 (LI wr w.heap.size g1 i cap1 xs') ∧ Aside0 (LI wr w.heap.size g2 j cap2 ys') ∧ Aside0 (Below w.heap.size w wr)) (fun _ v _ => i - (intOf v).toNat)
          case atStart => exact ⟨0, rfl, Nat.zero_le _, ⟨Kd.R_nil _ _ _ _ _⟩, HV19, HV29, HB9⟩
          case round =>
           clear HV19 HV29 HB9
           obtain ⟨q, rfl, hq, HR, HV1, HV2, HB9⟩ := hrel
           by_cases hlt4 : q < i
           ·go_wp2_with fail
            go_cut [103] (fun v103 wc => v103 = .bool (decide (q = 0 ∨ L q ≠ L (q - 1))) ∧ Aside0 (Kd.R k45 36 wc w.heap.size (fun p => p ≠ g1 ∧ p ≠ g2) u16 (cluS i j L q)) ∧ Aside0 (LI wc w.heap.size g1 i cap1 xs') ∧ Aside0 (LI wc w.heap.size g2 j cap2 ys') ∧ Aside0 (Below w.heap.size w wc))
            case first =>
             rcases q with _ | q
             ·have e0 : decide ((0 : Nat) = 0 ∨ L 0 ≠ L (0 - 1)) = true := qdT (Or.inl rfl)
              go_quiet (fail)
              go_wp2
              go_meet
              case rel => exact ⟨by rw [e0], ⟨qrN HR.out _⟩, ⟨qrN HV1.out _⟩, ⟨qrN HV2.out _⟩, ⟨qbN HB9.out _⟩⟩
             ·have hc1 := (HV1.out.cell (q + 1) hlt4).1
              have hc2 := (HV1.out.cell q (by omega)).1
              rw [HRI9.out (q + 1) (by rw [← HV1.out.len]; exact hlt4), Nat.zero_add] at hc1
              rw [HRI9.out q (by rw [← HV1.out.len]; omega), Nat.zero_add] at hc2
              have e0 : decide (q + 1 = 0 ∨ L (q + 1) ≠ L (q + 1 - 1)) = !decide ((L (q + 1) : Int) = (L q : Int)) := by
               rw [Nat.add_sub_cancel]
               by_cases h : L (q + 1) = L q
               ·rw [h]; simp
               ·rw [qdT (Or.inr h), qdF (by omega)]; rfl
              have e1 : IntKind.i64.wrap (((q + 1 : Nat) : Int) - 1) = (q : Int) := by rw [IntWalk.i64_in _ (by omega)]; omega
              obtain ⟨p, hp⟩ : ∃ p, p = q + 1 := ⟨_, rfl⟩
              have HP := aMk hp
              have HE0 := aMk e0
              have e2 : decide ((p : Int) = 0) = false := qdF (by omega)
              have e5 : decide (p = 0) = false := qdF (by omega)
              have e6 : ((p : Int) == 0) = false := by rw [beq_eq_false_iff_ne]; omega
              rw [← hp] at hc1 e1 hlt4 ⊢
              clear hp e0
              have e3 : (p : Int) < (i : Int) := by omega
              have e4 : (q : Int) < (i : Int) := by omega
              go_quiet (fail)
              go_wp2
              have hp := HP.out
              subst hp
              go_meet
              case rel => exact ⟨by rw [HE0.out]; rfl, ⟨qrN HR.out _⟩, ⟨qrN HV1.out _⟩, ⟨qrN HV2.out _⟩, ⟨qbN HB9.out _⟩⟩
            case rest =>
             obtain ⟨rfl, HR, HV1, HV2, HB9⟩ := hcut
             by_cases hcnd : q = 0 ∨ L q ≠ L (q - 1)
             ·have HYES := aMk (cluS_yes (n := i) (m := j) hcnd)
              have HLN := aMk (cluS_len i j L q)
              rw [qdT hcnd]
              clear hcnd
              have hkI : (q : Int) < (i : Int) := by omega
              go_wp2_with fail
              have hc1 := (HV1.out.cell q hlt4).1
              rw [HRI9.out q (by rw [← HV1.out.len]; exact hlt4), Nat.zero_add] at hc1
              refine start_ (n := 17) (S := (fun W => W.cell? ⟨g1, q, none⟩ = some (.int .i64 (L q : Nat)) ∧ True)) (ds := [15]) #[false, false, false, false, false, false, false, false, false, false, false, false, false, false, false, false, false] (by kernel_rfl) (by kernel_rfl) (by rfl) (⟨hc1, trivial⟩) (fun hS0 => ?_)
              refine pure_ (i := 0) (N := (some 104)) (v := ?_) (a' := ?_) #[true, false, false, false, false, false, false, false, false, false, false, false, false, false, false, false, false] rfl rfl (by kernel_rfl) (fun _ _ _ h => h) (Or.inl ⟨by rfl, ?_⟩) ?_ ?_
              rotate_left
              ·intro w'
               go_simp
               with_reducible rfl
              rotate_left
              ·simp only [Act.put, sqA, sq0, sq1]
               rfl
              refine pure_ (i := 1) (N := (some 105)) (v := ?_) (a' := ?_) #[true, true, false, false, false, false, false, false, false, false, false, false, false, false, false, false, false] rfl rfl (by kernel_rfl) (fun _ _ _ h => h) (Or.inl ⟨by rfl, ?_⟩) ?_ ?_
              rotate_left
              ·intro w'
               go_simp
               with_reducible rfl
              rotate_left
              ·simp only [Act.put, sqA, sq0, sq1]
               rfl
              refine pure_ (i := 2) (N := (some 106)) (v := ?_) (a' := ?_) #[true, true, true, false, false, false, false, false, false, false, false, false, false, false, false, false, false] rfl rfl (by kernel_rfl) (fun _ _ _ h => h) (Or.inl ⟨by rfl, ?_⟩) ?_ ?_
              rotate_left
              ·intro w'
               go_simp
               with_reducible rfl
              rotate_left
              ·simp only [Act.put, sqA, sq0, sq1]
               rfl
              refine pure_ (i := 3) (N := (some 107)) (v := ?_) (a' := ?_) #[true, true, true, true, false, false, false, false, false, false, false, false, false, false, false, false, false] rfl rfl (by kernel_rfl) (fun _ _ _ h => h) (Or.inl ⟨by rfl, ?_⟩) ?_ ?_
              rotate_left
              ·intro w'
               go_simp
               with_reducible rfl
              rotate_left
              ·simp only [Act.put, sqA, sq0, sq1]
               rfl
              refine pure_ (i := 4) (N := (some 108)) (v := ?_) (a' := ?_) #[true, true, true, true, true, false, false, false, false, false, false, false, false, false, false, false, false] rfl rfl (by kernel_rfl) (fun _ _ _ h => h) (Or.inl ⟨by rfl, ?_⟩) ?_ ?_
              rotate_left
              ·intro w'
               go_simp
               with_reducible rfl
              rotate_left
              ·simp only [Act.put, sqA, sq0, sq1]
               rfl
              refine take_ (i := 5) (N := (some 109)) (v := ?_) (a' := ?_) #[true, true, true, true, true, true, false, false, false, false, false, false, false, false, false, false, false] rfl rfl (by kernel_rfl) (fun _ _ _ h => h) (Or.inl ⟨by rfl, ?_⟩) hS0 ?_ ?_
              rotate_left
              ·intro w' s0
               obtain ⟨hx0, hx1⟩ := s0
               go_simp
               with_reducible rfl
              rotate_left
              ·simp only [Act.put, sqA, sq0, sq1]
               rfl
              refine pure_ (i := 7) (N := (some 111)) (v := ?_) (a' := ?_) #[true, true, true, true, true, true, false, true, false, false, false, false, false, false, false, false, false] rfl rfl (by kernel_rfl) (fun _ _ _ h => h) (Or.inl ⟨by rfl, ?_⟩) ?_ ?_
              rotate_left
              ·intro w'
               go_simp
               with_reducible rfl
              rotate_left
              ·simp only [Act.put, sqA, sq0, sq1]
               rfl
              refine pure_ (i := 8) (N := (some 112)) (v := ?_) (a' := ?_) #[true, true, true, true, true, true, false, true, true, false, false, false, false, false, false, false, false] rfl rfl (by kernel_rfl) (fun _ _ _ h => h) (Or.inl ⟨by rfl, ?_⟩) ?_ ?_
              rotate_left
              ·intro w'
               go_simp
               with_reducible rfl
              rotate_left
              ·simp only [Act.put, sqA, sq0, sq1]
               rfl
              refine pure_ (i := 9) (N := (some 113)) (v := ?_) (a' := ?_) #[true, true, true, true, true, true, false, true, true, true, false, false, false, false, false, false, false] rfl rfl (by kernel_rfl) (fun _ _ _ h => h) (Or.inl ⟨by rfl, ?_⟩) ?_ ?_
              rotate_left
              ·intro w'
               go_simp
               with_reducible rfl
              rotate_left
              ·simp only [Act.put, sqA, sq0, sq1]
               rfl
              refine pure_ (i := 10) (N := (some 114)) (v := ?_) (a' := ?_) #[true, true, true, true, true, true, false, true, true, true, true, false, false, false, false, false, false] rfl rfl (by kernel_rfl) (fun _ _ _ h => h) (Or.inl ⟨by rfl, ?_⟩) ?_ ?_
              rotate_left
              ·intro w'
               go_simp
               with_reducible rfl
              rotate_left
              ·simp only [Act.put, sqA, sq0, sq1]
               rfl
              refine take_ (i := 11) (N := (some 115)) (v := ?_) (a' := ?_) #[true, true, true, true, true, true, false, true, true, true, true, true, false, false, false, false, false] rfl rfl (by kernel_rfl) (fun _ _ _ h => h) (Or.inl ⟨by rfl, ?_⟩) hS0 ?_ ?_
              rotate_left
              ·intro w' s0
               obtain ⟨hx0, hx1⟩ := s0
               go_simp
               with_reducible rfl
              rotate_left
              ·simp only [Act.put, sqA, sq0, sq1]
               rfl
              clear hS0
              refine one_ (i := 6) (N := (some 110)) #[true, true, true, true, true, true, true, true, true, true, true, true, false, false, false, false, false] rfl rfl (by kernel_rfl) (by decide) (fun K hK => ?_)
              refine goes_ Tryz.func199 (by kernel_rfl) rfl #[.slice (some ⟨g1, 0, none⟩) i cap1, .int .i64 (L q : Nat)] (by rfl) rfl rfl (by (try simp only [lm0, lm1, lm2]); rfl) ?_
              refine (hull_c (LI.below HV1.out (below_drew (qBr _ _))) HRI9.out (by omega) (L q)).mono ?_
              rintro e wa ⟨rfl, hba⟩
              refine ⟨_, rfl, ?_⟩
              have hba' := qbP (below_drew (qBr _ _)) hba
              have HVa := aMk (HV1.out.below hba')
              have HVb := aMk (HV2.out.below hba')
              have HRa := aMk (qrB HR.out hba')
              have HBa : Aside0 (Below w.heap.size w wa) := ⟨qbP HB9.out hba'⟩
              have hca := (HVa.out.cell q hlt4).1
              rw [HRI9.out q (by rw [← HV1.out.len]; exact hlt4), Nat.zero_add] at hca
              clear hba hba' HV1 HV2 HR HB9 hc1
              change K (Act.put _ (some 110) _) _
              refine hK.out _ _ ⟨hca, trivial⟩ (fun hS0 => ?_)
              clear hK
              refine norm_ (a' := ?_) ?_ ?_
              rotate_left
              ·simp only [Act.put, sqA, sq0, sq1]
               rfl
              clear hS0
              refine one_ (i := 12) (N := (some 116)) #[true, true, true, true, true, true, true, true, true, true, true, true, true, false, false, false, false] rfl rfl (by kernel_rfl) (by decide) (fun K hK => ?_)
              refine goes_ Tryz.func199 (by kernel_rfl) rfl #[.slice (some ⟨g2, 0, none⟩) j cap2, .int .i64 (L q : Nat)] (by rfl) rfl rfl (by (try simp only [lm0, lm1, lm2]); rfl) ?_
              refine (hull_c HVb.out HRO9.out (by omega) (L q)).mono ?_
              rintro e wb ⟨rfl, hbb⟩
              refine ⟨_, rfl, ?_⟩
              have HVa2 := aMk (HVa.out.below hbb)
              have HVb2 := aMk (HVb.out.below hbb)
              have HRa2 := aMk (qrB HRa.out hbb)
              have HBa2 : Aside0 (Below w.heap.size w wb) := ⟨qbP HBa.out hbb⟩
              have hcb := (HVa2.out.cell q hlt4).1
              rw [HRI9.out q (by rw [← HVa2.out.len]; exact hlt4), Nat.zero_add] at hcb
              clear hbb HVa HVb HRa HBa hca
              change K (Act.put _ (some 116) _) _
              refine hK.out _ _ ⟨hcb, trivial⟩ (fun hS0 => ?_)
              clear hK
              refine norm_ (a' := ?_) ?_ ?_
              rotate_left
              ·simp only [Act.put, sqA, sq0, sq1]
               rfl
              refine pure_ (i := 13) (N := (some 117)) (v := ?_) (a' := ?_) #[true, true, true, true, true, true, true, true, true, true, true, true, true, true, false, false, false] rfl rfl (by kernel_rfl) (fun _ _ _ h => h) (Or.inl ⟨by rfl, ?_⟩) ?_ ?_
              rotate_left
              ·intro w'
               go_simp
               with_reducible rfl
              rotate_left
              ·simp only [Act.put, sqA, sq0, sq1]
               rfl
              clear hS0
              refine one_ (i := 14) (N := (some 118)) #[true, true, true, true, true, true, true, true, true, true, true, true, true, true, true, false, false] rfl rfl (by kernel_rfl) (by decide) (fun K hK => ?_)
              refine value_ (w1 := wb.alloc (.cells #[.int .i64 ((hullL L 0 (L q) i).1 : Nat), .int .i64 ((hullL L 0 (L q) i).2 : Nat), .int .i64 ((hullL L i (L q) j).1 : Nat), .int .i64 ((hullL L i (L q) j).2 : Nat)] 36)) (v := .slice (some ⟨wb.heap.size, 0, none⟩) 1 1) (by rfl) rfl (by go_simp) ?_
              have hal : Below wb.heap.size wb (wb.alloc (.cells #[.int .i64 ((hullL L 0 (L q) i).1 : Nat), .int .i64 ((hullL L 0 (L q) i).2 : Nat), .int .i64 ((hullL L i (L q) j).1 : Nat), .int .i64 ((hullL L i (L q) j).2 : Nat)] 36)) := qbA (qBr _ _) _
              have hcc : (wb.alloc (.cells #[.int .i64 ((hullL L 0 (L q) i).1 : Nat), .int .i64 ((hullL L 0 (L q) i).2 : Nat), .int .i64 ((hullL L i (L q) j).1 : Nat), .int .i64 ((hullL L i (L q) j).2 : Nat)] 36)).cell? ⟨g1, q, none⟩ = some (.int .i64 (L q : Nat)) := cell_al hcb _
              change K (Act.put _ (some 118) _) _
              refine hK.out _ _ ⟨hcc, trivial⟩ (fun hS0 => ?_)
              clear hK
              refine norm_ (a' := ?_) ?_ ?_
              rotate_left
              ·simp only [Act.put, sqA, sq0, sq1]
               rfl
              clear hS0
              refine last_ (i := 15) (N := (some 119)) #[true, true, true, true, true, true, true, true, true, true, true, true, true, true, true, true, false] rfl rfl (by kernel_rfl) (by decide) (fun K hK => ?_)
              refine Kd.R_append_step k45 (w0 := w) w.heap.size (by rfl) (.tmp 104) (.tmp 118) 26 36 (.agg #[(.int .i64 0), (.int .i64 0), (.int .i64 0), (.int .i64 0)]) 32 rfl Tryz.underlying26 info45 rfl (by decide) (by omega) _ (cluS i j L q) (toS (hullL L 0 (L q) i, hullL L i (L q) j)) [.int .i64 ((hullL L 0 (L q) i).1 : Nat), .int .i64 ((hullL L 0 (L q) i).2 : Nat), .int .i64 ((hullL L i (L q) j).1 : Nat), .int .i64 ((hullL L i (L q) j).2 : Nat)] (fun p => p ≠ g1 ∧ p ≠ g2) (fun _ => False) rfl rfl (k45_mkM _ _ _ (toS (hullL L 0 (L q) i, hullL L i (L q) j))) (fun _ hk => hk.elim) (fun p hp => ⟨fun e => by have := HVa2.out.ltw; omega, fun e => by have := HVb2.out.ltw; omega⟩) HRa2.out HBa2.out HBa2.out.size (by have := HLN.out; omega) ?_
              intro v1 w2 hv hb hg hat
              rw [← HYES.out] at hv
              have HR2 := aMk hv
              have HB2 := aMk hb
              have HV12 : Aside0 (LI w2 w.heap.size g1 i cap1 xs') := ⟨Kd.R_grown HVa2.out hg (fun p hp e => (HRa2.out.1 p e.symm).1 hp)⟩
              have HV22 : Aside0 (LI w2 w.heap.size g2 j cap2 ys') := ⟨Kd.R_grown HVb2.out hg (fun p hp e => (HRa2.out.1 p e.symm).2 hp)⟩
              clear hv hb hg hat HRa2 HBa2 HVa2 HVb2 hcb hcc hal
              change K (Act.put _ (some 119) _) _
              refine hK.out _ _ ?_
              clear hK
              refine pure_ (i := 16) (N := (some 16)) (v := ?_) (a' := ?_) #[true, true, true, true, true, true, true, true, true, true, true, true, true, true, true, true, true] rfl rfl (by kernel_rfl) (fun _ _ _ h => h) (Or.inl ⟨by rfl, ?_⟩) ?_ ?_
              rotate_left
              ·intro w'
               go_simp
               with_reducible rfl
              rotate_left
              ·simp only [Act.put, sqA, sq0, sq1]
               rfl
              refine done_ (by kernel_rfl) ?_
              go_wp2_with fail
              exact ⟨⟨q + 1, by go_num, by omega, HR2, HV12, HV22, HB2⟩, by simp [intOf]; omega⟩
             ·have HNO := aMk (cluS_no (n := i) (m := j) hcnd)
              rw [qdF hcnd]
              clear hcnd
              go_wp2_with fail
              exact ⟨⟨q + 1, by go_num, by omega, ⟨by rw [HNO.out]; exact HR.out⟩, HV1, HV2, HB9⟩, by simp [intOf]; omega⟩
           ·have eq : q = i := by omega
            subst eq
            go_wp2_with fail
            refine bodyPost_ret (results_tmp2 rfl _ _ _) rfl ?_
            exact ⟨_, L, rfl, HFO.out, qrM HR.out (fun _ _ => trivial), HB9.out⟩
end CFin
end
section
namespace Cel
open U PClusterFinest UFinest UGroups UFinEv UMap
open CFin (finest_c finest_bad cluS cluS_len wrong_ok)
open CFin (refFinest_c refFinest_bad)
variable {w W W2 : World} {F G : Nat → Prop} {base b N i : Nat} {u : Value} {L : List (List Int)} {J p : List S33}
theorem refClu_one {D : Nat → Prop} (hD : CellsAt 102 w D b L J) (hn : L.length ≤ 100) (hJ : J.length ≤ 1000) (hF : L.flatten.length ≤ 800) :
 Calls Tryz.prog 65 #[ptr b] w fun e W => ∃ v r, e = .returned (.tuple #[v, .int .i64 r]) ∧ Below w.heap.size w W ∧ ((L.flatten.length = 0 ∧ r = (if 0 < L.length then 8 else 0)) ∨ (0 < L.flatten.length ∧ 0 < L.length ∧ r = 0 ∧ ∃ A, FinOk L.length L.flatten.length ((linksOf L (groups L.length J)).1.map lkOf) A ∧ SLk k45 W v (cluS L.length L.flatten.length A L.length))) := by
 have hend := Cel.groups_end J L
 have hlen : (linksOf L (groups L.length J)).1.length ≤ 100 := by
  have h1 := (linksOf_le L (groups L.length J) (groups L.length J).length (qlR _)).2
  rw [List.take_length] at h1
  have h2 : (groups L.length J).length ≤ L.length := grp_len L.length J L.length
  omega
 rcases Nat.eq_zero_or_pos L.flatten.length with e0 | e0
 ·have hl := links_none (J := J) e0
  have hz : ((0 : Nat) : Int) = 0 := rfl
  have hbad : wrongR (L.length : Int) (L.flatten.length : Int) [] ≠ 0 ∨ (L.length : Int) = 0 := by
   rw [e0, wrong_empty _ (by omega)]
   by_cases h : 0 < L.length
   ·rw [if_pos h]; exact .inl (by decide)
   ·exact .inr (by omega)
  refine (refClusters_c hD (by omega) (by omega) (by omega) (fun u r _ => r = (if 0 < L.length then 8 else 0)) (fun w1 u hs hb => by rw [hend]; rw [hl] at hs; exact (refFinest_bad _ _ hs (by simp) hbad).mono (by rintro e w' ⟨rfl, hb⟩; exact ⟨_, _, rfl, by rw [e0, wrong_empty _ (by omega)], hb⟩))).mono ?_
  rintro e W ⟨u, r, rfl, hr, hb⟩
  exact ⟨u, r, rfl, hb, .inl ⟨e0, hr⟩⟩
 ·have hN0 : 0 < L.length := by
   rcases Nat.eq_zero_or_pos L.length with h | h
   ·rw [List.eq_nil_of_length_eq_zero h] at e0; exact absurd e0 (Nat.lt_irrefl 0)
   ·exact h
  have hw := links_right (J := J) hN0 e0 (by omega) (by omega)
  refine (refClusters_c hD (by omega) (by omega) (by omega) (fun u r w' => r = 0 ∧ ∃ A, FinOk L.length L.flatten.length ((linksOf L (groups L.length J)).1.map lkOf) A ∧ SLk k45 w' u (cluS L.length L.flatten.length A L.length)) (fun w1 u hs hb => by rw [hend]; exact (refFinest_c L.length L.flatten.length hs (by omega) hN0 (by omega) e0 (by omega) hw (wrong_ok hN0 e0 hw).1).mono (by rintro e w' ⟨u, A, rfl, hf, hR, hb⟩; exact ⟨_, _, rfl, ⟨rfl, A, hf, SLk.of_R hR⟩, hb⟩))).mono ?_
  rintro e W ⟨u, r, rfl, ⟨hr, A, hf, hs⟩, hb⟩
  exact ⟨u, r, rfl, hb, .inr ⟨e0, hN0, hr, A, hf, hs⟩⟩
end Cel
end
section
namespace KStretch
open U PClusterFinest KPlace UKash KBehind UStretch
open CProps (PropsAt)
open Cel (CellsAt Eff CellsAt.below CellsAt.mono linksOf)
open UGroups (groups)
open UFinEv (lkOf)
open UFinest (FinOk)
open CFin (cluS)
def ints (l : List Nat) : List Int := l.map fun i : Nat => (i : Int)
theorem ints_len (l : List Nat) : (ints l).length = l.length := by simp [ints]
theorem ints_zero (n : Nat) : ints (List.replicate n 0) = List.replicate n (0 : Int) := by simp [ints]
theorem ints_set (l : List Nat) (i v : Nat) : (ints l).set i (v : Int) = ints (l.set i v) := by simp [ints, List.map_set]
theorem rd_ints {M : List Nat} {b y : Nat} (h : y = M.getD b 0) : rdOf (0 : Int) (ints M) (b : Int) = (y : Int) := by
 unfold rdOf ints
 rw [qtN, h, qgD, qgD, List.getElem?_map]
 cases M[b]? <;> rfl
def Lto (xs : List Int) (M : List Nat) (j : Nat) : List (List Int) := (rowsOf xs M).take j ++ List.replicate (xs.length - j) []
theorem Lto_zero (xs : List Int) (M : List Nat) : Lto xs M 0 = List.replicate xs.length [] := by unfold Lto; rw [List.take_zero, List.nil_append, Nat.sub_zero]
theorem Lto_len (xs : List Int) (M : List Nat) {j : Nat} (h : j ≤ xs.length) : (Lto xs M j).length = xs.length := by
 unfold Lto
 rw [List.length_append, List.length_take, rowsOf_len, qlr]
 omega
theorem Lto_end (xs : List Int) (M : List Nat) : Lto xs M xs.length = rowsOf xs M := by
 unfold Lto
 rw [Nat.sub_self, List.replicate_zero, List.append_nil, List.take_of_length_le (by rw [rowsOf_len]; exact qlR _)]
theorem Lto_set (xs : List Int) (M : List Nat) {j : Nat} (h : j < xs.length) : (Lto xs M j).set j (xs[j] :: List.replicate (M.getD j 0) 1600) = Lto xs M (j + 1) := by
 have hl : ((rowsOf xs M).take j).length = j := by rw [List.length_take, rowsOf_len]; omega
 have hr : (rowsOf xs M)[j]'(by rw [rowsOf_len]; exact h) = xs[j] :: List.replicate (M.getD j 0) 1600 := by
  simp [rowsOf, qgD, h]
 unfold Lto
 obtain ⟨k, hk⟩ : ∃ k, xs.length - j = k + 1 := ⟨xs.length - j - 1, by omega⟩
 rw [List.set_append_right _ _ (by omega), hl, Nat.sub_self, hk, List.replicate_succ, List.set_cons_zero, qtS (by rw [rowsOf_len]; exact h), hr, List.append_assoc, show xs.length - (j + 1) = k by omega]
 rfl
noncomputable def strL (xs : List Int) (n : Nat) : List (List Int) := rowsOf xs (manyTo (xs.map CJoins.jn) xs.length n (placesN xs (xs.map CJoins.jn) xs.length) (placesN xs (xs.map CJoins.jn) xs.length).length)
theorem R_one (w : World) (x : Int) : Kd.R (Kd.int .i64) 3 (w.alloc (.cells #[.int .i64 x] 3 (0, 0))) w.heap.size (fun k => k = w.heap.size) (.slice (some ⟨w.heap.size, 0, none⟩) 1 1) [x] := by
 refine ⟨fun k hk => by simp [Value.ownBlock] at hk; exact hk.symm, [.int .i64 x], ⟨rfl, .inr ⟨w.heap.size, 1, #[.int .i64 x], rfl, qlR _, blk_new _ _, qlR _, by decide, rfl, rfl⟩⟩, ?_⟩
 exact Reps.one (show Kd.M (Kd.int .i64) _ _ _ x [.int .i64 x] from rfl) (Reps.none _ _)
theorem placesN_le {xs ts : List Int} {ps : List Nat} (h : ps = placesN xs ts xs.length) : ps.length ≤ 6 * xs.length := by
 rw [h]
 unfold placesN
 rw [List.length_flatMap]
 have hb : ∀ k : Nat, (byRank xs ts xs.length ((k : Int) + 1)).length ≤ xs.length := fun k => by
  unfold byRank
  exact qlT (List.length_filter_le _ _) (by simp)
 have h0 := hb 0; have h1 := hb 1; have h2 := hb 2; have h3 := hb 3; have h4 := hb 4; have h5 := hb 5
 simp only [List.range, List.range.loop, List.map_cons, List.map_nil, List.sum_cons, List.sum_nil]
 omega
theorem stretch_c {w : World} {g : Nat} (h : PropsAt w g) {A : Option Addr} {c : Nat} {xs : List Int} (hx : SL w (.slice A xs.length c) xs) (hm : xs.length ≤ 60) (n : Nat) (hn : 0 < n) (hn6 : n ≤ 60) :
 Calls Tryz.prog 15 #[.pointer (some ⟨g, 0, none⟩), .slice A xs.length c, .int .i64 n] w fun e w' => Below w.heap.size w w' ∧
  ((placesN xs (xs.map CJoins.jn) xs.length = [] ∧ e = .returned (.tuple #[.slice none 0 0, .slice none 0 0, .int .i64 9])) ∨
   (0 < (placesN xs (xs.map CJoins.jn) xs.length).length ∧ ∃ u v F, e = .returned (.tuple #[u, v, .int .i64 0]) ∧ SL w' u (strL xs n).flatten ∧ FinOk (strL xs n).length (strL xs n).flatten.length ((linksOf (strL xs n) (groups (strL xs n).length [])).1.map lkOf) F ∧ SLk k45 w' v (cluS (strL xs n).length (strL xs n).flatten.length F (strL xs n).length))) := by
 have H := aMk h
 have HX := aMk hx
 have HM := aMk hm
 have HN := aMk hn
 have HN6 := aMk hn6
 obtain ⟨ts, hts⟩ : ∃ ts, ts = xs.map CJoins.jn := ⟨_, rfl⟩
 rw [← hts]
 have HTL : Aside0 (ts.length = xs.length) := ⟨by rw [hts, qlm]⟩
 have HTS := aMk hts
 obtain ⟨ps, hps⟩ : ∃ ps, ps = placesN xs ts xs.length := ⟨_, rfl⟩
 rw [← hps]
 have HPS := aMk hps
 have h0 : ¬ (n : Int) < 0 := by omega
 have h1 : ¬ (n : Int) > 16777216 := by omega
 have h2 : ¬ (n : Int) = 0 := by omega
 have h3 : ¬ (xs.length : Int) > 16777216 - (n : Int) := by omega
 clear h hx hm hn hn6 hts hps
 go_enter Tryz.func15, Tryz.ntmps15
 go_upto_region 9 with (first | (go_at_call 51; refine (KProps.pjoins_c H.out HX.out (by have := HM.out; omega)).mono ?_; rintro e w1 ⟨u, rfl, hr, hb⟩; rw [← HTS.out] at hr; obtain ⟨B, d, ed⟩ := Kd.R_slice hr; subst ed; rw [HTL.out]; have HT := aMk (SLk.of_R hr); have HB1 := aMk hb; clear hr hb) | ((with_reducible refine gate_dst (N := 9) rfl ?_); refine box_event ?hg (N := 9) ?hd (cs := #[.slice none 0 0, .slice none 0 0]) (t := 82) ?hr ?_; (case hd => rfl); (case hg => rfl); (case hr => go_simp; done); intro g9 hg w2 hbox hb; have HX9 := aMk hbox; have HG9 : Aside0 (w.heap.size ≤ g9) := ⟨by rw [hg]; exact HB1.out.size⟩; have HG91 : Aside0 (w1.heap.size ≤ g9) := ⟨by rw [hg]; exact qlR _⟩; have HB2 : Aside0 (Below w.heap.size w w2) := ⟨qbP HB1.out hb⟩; have HB12 := aMk hb; have z0 : w2.cell? ⟨g9, 0, none⟩ = some (.slice none 0 0) := (blk_cell hbox 0).trans rfl; have z1 : w2.cell? ⟨g9, 1, none⟩ = some (.slice none 0 0) := (blk_cell hbox 1).trans rfl; have f0 := qbF hbox 0; have f1 := qbF hbox 1; clear hg hbox hb))
 have HY9 := aMk (blk_put (blk_put HX9.out 0 (.slice A xs.length c) rfl) 1 (.slice B xs.length d) rfl)
 have HGG := aMk (qgT (grown_set w2 g9 0 (.slice A xs.length c)) (grown_set _ g9 1 (.slice B xs.length d)))
 generalize (w2.setCell ⟨g9, 0, none⟩ (.slice A xs.length c)).setCell ⟨g9, 1, none⟩ (.slice B xs.length d) = w3 at HY9 HGG ⊢
 have HB3 : Aside0 (Below w.heap.size w w3) := ⟨HB2.out.grown HGG.out HB2.out.size (fun j hj => by obtain rfl := qoI hj; exact HG9.out)⟩
 have HB13 : Aside0 (Below w1.heap.size w1 w3) := ⟨HB12.out.grown HGG.out HB12.out.size (fun j hj => by obtain rfl := qoI hj; exact HG91.out)⟩
 have HX3 := aMk (SLk.below HX.out HB3.out)
 have HT3 := aMk (SLk.below HT.out HB13.out)
 have y0 := (blk_cell HY9.out 0).trans rfl
 have y1 := (blk_cell HY9.out 1).trans rfl
 clear z0 z1 f0 f1 HX9
 by_cases hp0 : ps.length = 0
 ·have e0 : ps = [] := List.eq_nil_of_length_eq_zero hp0
  have hp0I : (ps.length : Int) = 0 := by omega
  clear hp0
  go_wp2_with (first | (go_at_call 56; have hcon := KPlaces.textPlaces_c HX3.out HT3.out HTL.out (by have := HM.out; omega); rw [HTL.out] at hcon; refine hcon.mono ?_; rintro e w4 ⟨u10, rfl, hr, hb⟩; clear hcon; rw [← HPS.out] at hr; obtain ⟨Ap, cp, ep⟩ := Kd.R_slice hr; rw [qlm] at ep; subst ep; have HP4 := aMk (SLk.of_R hr); have HB34 := aMk hb; have HB4 : Aside0 (Below w.heap.size w w4) := ⟨qbP HB3.out hb⟩; clear hr hb))
  refine bodyPost_ret (results_tmp3 rfl _ _ _) rfl ?_
  exact ⟨HB4.out, .inl ⟨e0, rfl⟩⟩
 ·have HP0 : Aside0 (0 < ps.length) := ⟨by omega⟩
  have hp0I : ¬ (ps.length : Int) = 0 := by omega
  clear hp0
  go_upto_region 14 with (first | (go_at_call 56; have hcon := KPlaces.textPlaces_c HX3.out HT3.out HTL.out (by have := HM.out; omega); rw [HTL.out] at hcon; refine hcon.mono ?_; rintro e w4 ⟨u10, rfl, hr, hb⟩; clear hcon; rw [← HPS.out] at hr; obtain ⟨Ap, cp, ep⟩ := Kd.R_slice hr; rw [qlm] at ep; subst ep; have HP4 := aMk (SLk.of_R hr); have HB34 := aMk hb; have HB4 : Aside0 (Below w.heap.size w w4) := ⟨qbP HB3.out hb⟩; clear hr hb) | ((with_reducible refine gate_dst (N := 51) rfl ?_); refine Kd.R_make (Kd.int .i64) (w0 := w4) w4.heap.size 3 rfl rfl 22 (.tmp 50) (.tmp 50) rfl (xs.length : Int) (by first | (go_simp; done) | (go_simp; rfl)) (by first | (go_simp; done) | (go_simp; rfl)) Tryz.underlying22 (.int .i64 0) 8 KPlaces.info3 rfl (by decide) (by omega) (0 : Int) (ok := fun _ => True) (okp := fun _ => False) rfl (fun _ h => h.elim) trivial (by omega) (by have := HM.out; simp only [qtN]; omega) (qBr _ _) (qlR _) ?_; intro v5 w5 hv hb hg hat; rw [qtN] at hv; obtain ⟨Am, cm, em⟩ := Kd.R_slice hv; rw [qlr] at em; subst em; have HV5 : Aside0 (Kd.R (Kd.int .i64) 3 w5 w4.heap.size (fun _ => True) (.slice Am xs.length cm) (ints (manyTo ts xs.length n ps 0))) := ⟨by rw [manyTo, ints_zero]; exact hv⟩; have HB5 := aMk hb; clear hv hb hg hat))
  clear y0 y1
  go_loopw [54] (fun v wr => ∃ i : Nat, v = .int .i64 i ∧ i ≤ ps.length ∧ Aside0 (Kd.R (Kd.int .i64) 3 wr w4.heap.size (fun _ => True) (.slice Am xs.length cm) (ints (manyTo ts xs.length n ps i))) ∧ Aside0 (Below w4.heap.size w4 wr)) (fun v _ => ps.length - (intOf v).toNat)
  case atStart => exact ⟨0, rfl, Nat.zero_le _, HV5, HB5⟩
  case round =>
   obtain ⟨i, rfl, hi, HV, HB⟩ := hrel
   have HYr : Aside0 (wr.heap[g9]? = some (.cells #[.slice A xs.length c, .slice B xs.length d] 82 (0, 0))) := ⟨((qbP HB34.out HB.out).block _ (blk_lt HY9.out)).trans HY9.out⟩
   have HB3r : Aside0 (Below w3.heap.size w3 wr) := ⟨qbP HB34.out HB.out⟩
   have x0 := (blk_cell HYr.out 0).trans rfl
   have x1 := (blk_cell HYr.out 1).trans rfl
   by_cases hli : i < ps.length
   ·have hiI : (i : Int) < (ps.length : Int) := by omega
    have hi9 : (i : Int) ≤ 1000000 := by have h1 := placesN_le HPS.out; have := HM.out; omega
    have hi0 : 0 ≤ (i : Int) := by omega
    obtain ⟨adp, cp', ep, c0⟩ := SLk.at_int (SLk.below HP4.out HB.out) (i : Int) (by omega) (by rw [qlm]; omega)
    injection ep with ep e2 e3
    clear e2 e3
    subst ep
    rw [qtN, rd_get (by rw [qlm]; exact hli), List.getElem_map] at c0
    have hmem : ps[i] ∈ placesN xs ts xs.length := by rw [← HPS.out]; exact List.getElem_mem _
    have HPL : Aside0 (ps[i] < xs.length) := ⟨(mem_placesN.1 hmem).1⟩
    clear hmem
    have HPG : Aside0 (ps.getD i 0 = ps[i]) := ⟨by rw [qgD, qgG hli]; rfl⟩
    generalize ps[i] = p at c0 HPL HPG
    have HI := aMk hli
    clear hli hi
    obtain ⟨M, hM⟩ : ∃ M, M = manyTo ts xs.length n ps i := ⟨_, rfl⟩
    have HML : Aside0 (M.length = xs.length) := ⟨by rw [hM]; exact manyTo_len _ _ _ _ _⟩
    obtain ⟨b, hb⟩ : ∃ b, b = mEnd ts xs.length p := ⟨_, rfl⟩
    have HBE := aMk hb
    have HBL : Aside0 (b < xs.length) := ⟨by rw [hb]; have h1 := mEnd_lt ts xs.length p (by rw [HTL.out]; exact HPL.out); rw [HTL.out] at h1; exact h1⟩
    obtain ⟨sh, hsh⟩ : ∃ sh, sh = share n ps.length i := ⟨_, rfl⟩
    have HNX : Aside0 (manyTo ts xs.length n ps (i + 1) = M.set b (M.getD b 0 + sh)) := ⟨by rw [manyTo, HPG.out, ← hb, ← hM, ← hsh]⟩
    have HMS : Aside0 (M.getD b 0 ≤ n) := ⟨by
     have h1 := getD_le_sum M b
     have h2 := manyTo_sum ts xs.length n ps HTL.out (fun q hq => (mem_placesN.1 (by rw [← HPS.out]; exact hq)).1) i (by have := HI.out; omega)
     have h3 := shares_le n ps.length HP0.out i (by have := HI.out; omega)
     rw [hM] at h1 ⊢
     omega⟩
    obtain ⟨y, hy⟩ : ∃ y, y = M.getD b 0 := ⟨_, rfl⟩
    rw [← hy] at HNX HMS
    have HYE := aMk hy
    rw [← hM] at HV
    obtain ⟨gm, capm, em, -, -, -⟩ := Kd.R_form HV.out (by rw [ints_len, HML.out]; have := HBL.out; omega)
    rw [ints_len, HML.out] at em
    injection em with em e2 e3
    clear e2
    subst em
    subst e3
    have hq : wrap64 ((n : Int) / (ps.length : Int)) = ((n / ps.length : Nat) : Int) := by
     have h1 : ((n / ps.length : Nat) : Int) = (n : Int) / (ps.length : Int) := by simp
     have h2 : n / ps.length ≤ n := Nat.div_le_self _ _
     have h3 := HN6.out
     have h5 : (0 : Int) ≤ (n : Int) / (ps.length : Int) := Int.ediv_nonneg (by omega) (by omega)
     have h4 := w64 (n := ((n / ps.length : Nat) : Int)) (by omega) (by omega)
     rw [← h1]
     exact h4
    have hr : (n : Int) % (ps.length : Int) = ((n % ps.length : Nat) : Int) := by simp
    have hq9 : n / ps.length ≤ 60 := qlT (Nat.div_le_self _ _) HN6.out
    have hy9 : (y : Int) ≤ 60 := by have h1 := HMS.out; have h2 := HN6.out; omega
    have hbI : (b : Int) < (xs.length : Int) := by have := HBL.out; omega
    have hb0 : 0 ≤ (b : Int) := by omega
    have HSH := aMk hsh
    clear hM hb hsh hy
    go_upto_region 17 with (fail)
    rw [hq]
    clear hq
    unfold share at HSH
    generalize n / ps.length = q at hq9 HSH ⊢
    by_cases hlt : i < n % ps.length
    ·have hltI : (i : Int) < ((n % ps.length : Nat) : Int) := by omega
     rw [if_pos hlt] at HSH
     have hse := HSH.out
     clear HSH
     subst hse
     generalize n % ps.length = r at hr hltI
     clear hlt
     have ev : ((y + (q + 1) : Nat) : Int) = (y : Int) + ((q : Int) + 1) := by omega
     have HEV := aMk ev; clear ev
     go_wp2_with (first | (go_at_call 57; have hcon := KBehind.behind_c (SLk.below HX3.out HB3r.out) (SLk.below HT3.out HB3r.out) HTL.out (by have := HM.out; omega) p HPL.out; rw [HTL.out] at hcon; refine hcon.mono ?_; rintro e w6 ⟨rfl, hb⟩; clear hcon; rw [← HBE.out]; have hv2 := qrB HV.out hb; obtain ⟨z9, z1⟩ := Kd.R_celln (0 : Int) hv2 (b : Int) hb0 hbI; have hp := (Kd.R_putg hv2 (b : Int) ((y + (q + 1) : Nat) : Int)).1; rw [qtN] at z9 z1 hp; have z0 : w6.cell? ⟨gm, b, none⟩ = some (.int .i64 (y : Int)) := (by rw [z9, rd_ints HYE.out]); clear z9; rw [ints_set, ← HNX.out, HEV.out] at hp; have HP := aMk hp; have HGM : Aside0 (w4.heap.size ≤ gm) := ⟨Kd.R_base hv2 gm (by simp [Value.ownBlock])⟩; have HB6 : Aside0 (Below w4.heap.size w4 w6) := ⟨qbP HB.out hb⟩; clear hb hv2 hp))
     exact ⟨⟨i + 1, by go_num, by have := HI.out; omega, HP, ⟨HB6.out.setCell (p := ⟨gm, b, none⟩) HGM.out _⟩⟩, by have := HI.out; simp [intOf]; omega⟩
    ·have hltI : ¬ (i : Int) < ((n % ps.length : Nat) : Int) := by omega
     rw [if_neg hlt, Nat.add_zero] at HSH
     have hse := HSH.out
     clear HSH
     subst hse
     generalize n % ps.length = r at hr hltI
     clear hlt
     have ev : ((y + sh : Nat) : Int) = (y : Int) + (sh : Int) := by omega
     have HEV := aMk ev; clear ev
     go_wp2_with (first | (go_at_call 57; have hcon := KBehind.behind_c (SLk.below HX3.out HB3r.out) (SLk.below HT3.out HB3r.out) HTL.out (by have := HM.out; omega) p HPL.out; rw [HTL.out] at hcon; refine hcon.mono ?_; rintro e w6 ⟨rfl, hb⟩; clear hcon; rw [← HBE.out]; have hv2 := qrB HV.out hb; obtain ⟨z9, z1⟩ := Kd.R_celln (0 : Int) hv2 (b : Int) hb0 hbI; have hp := (Kd.R_putg hv2 (b : Int) ((y + sh : Nat) : Int)).1; rw [qtN] at z9 z1 hp; have z0 : w6.cell? ⟨gm, b, none⟩ = some (.int .i64 (y : Int)) := (by rw [z9, rd_ints HYE.out]); clear z9; rw [ints_set, ← HNX.out, HEV.out] at hp; have HP := aMk hp; have HGM : Aside0 (w4.heap.size ≤ gm) := ⟨Kd.R_base hv2 gm (by simp [Value.ownBlock])⟩; have HB6 : Aside0 (Below w4.heap.size w4 w6) := ⟨qbP HB.out hb⟩; clear hb hv2 hp))
     exact ⟨⟨i + 1, by go_num, by have := HI.out; omega, HP, ⟨HB6.out.setCell (p := ⟨gm, b, none⟩) HGM.out _⟩⟩, by have := HI.out; simp [intOf]; omega⟩
   ·obtain rfl : i = ps.length := by omega
    clear hli hi
    obtain ⟨M, hM⟩ : ∃ M, M = manyTo ts xs.length n ps ps.length := ⟨_, rfl⟩
    have HML : Aside0 (M.length = xs.length) := ⟨by rw [hM]; exact manyTo_len _ _ _ _ _⟩
    have HMS : Aside0 (M.sum = n) := ⟨by rw [hM, manyTo_sum ts xs.length n ps HTL.out (fun q hq => (mem_placesN.1 (by rw [← HPS.out]; exact hq)).1) ps.length (qlR _)]; exact shares_all n ps.length HP0.out⟩
    rw [← hM] at HV
    have HME := aMk hM
    clear hM x0 x1
    obtain ⟨wr0, hwr0⟩ : ∃ wr0, wr0 = wr := ⟨_, rfl⟩
    subst hwr0
    go_upto_region 25 with (first | (go_at_call 58; refine (Cel.new_c xs.length (by have := HM.out; omega)).mono ?_; rintro e w6 ⟨b, rfl, hc, hb⟩; have HC6 := aMk hc; have HB6 := aMk hb; clear hc hb))
    go_loopw [92] (fun v wq => ∃ j : Nat, v = .int .i64 j ∧ j ≤ xs.length ∧ Aside0 (CellsAt 100 wq (fun q => wr0.heap.size ≤ q) b (Lto xs M j) []) ∧ Aside0 (Below wr0.heap.size wr0 wq)) (fun v _ => xs.length - (intOf v).toNat)
    case atStart => exact ⟨0, rfl, Nat.zero_le _, ⟨by rw [Lto_zero]; exact HC6.out⟩, HB6⟩
    case round =>
     clear HC6 HB6
     obtain ⟨j, rfl, hj, HC, HBQ⟩ := hrel
     have HBwr : Aside0 (Below w.heap.size w wr0) := ⟨qbP HB4.out HB.out⟩
     have HBwq : Aside0 (Below w.heap.size w wr) := ⟨qbP HBwr.out HBQ.out⟩
     by_cases hlj : j < xs.length
     ·have hjI : (j : Int) < (xs.length : Int) := by omega
      have hj0 : 0 ≤ (j : Int) := by omega
      have hj9 : (j : Int) ≤ 60 := by have := HM.out; omega
      obtain ⟨adx, cx', ex, c0⟩ := SLk.at_int (SLk.below HX.out HBwq.out) (j : Int) hj0 hjI
      injection ex with ex e2 e3
      clear e2 e3
      subst ex
      rw [qtN, rd_get hlj] at c0
      have hvq := qrB HV.out HBQ.out
      obtain ⟨gm, capm, em, -, -, -⟩ := Kd.R_form hvq (by rw [ints_len, HML.out]; omega)
      rw [ints_len, HML.out] at em
      injection em with em e2 e3
      clear e2
      subst em
      subst e3
      obtain ⟨y, hy⟩ : ∃ y, y = M.getD j 0 := ⟨_, rfl⟩
      obtain ⟨z9, z1⟩ := Kd.R_celln (0 : Int) hvq (j : Int) hj0 hjI
      rw [qtN] at z9
      have z0 : wr.cell? ⟨gm, j, none⟩ = some (.int .i64 (y : Int)) := (by rw [z9, rd_ints hy])
      have HY60 : Aside0 (y ≤ 60) := ⟨by have h1 := getD_le_sum M j; have h2 := HMS.out; have h3 := HN6.out; omega⟩
      have HST : Aside0 ((Lto xs M j).set j (xs[j] :: List.replicate y 1600) = Lto xs M (j + 1)) := ⟨by rw [hy]; exact Lto_set xs M hlj⟩
      have HLL : Aside0 (j < (Lto xs M j).length) := ⟨by rw [Lto_len xs M hj]; exact hlj⟩
      generalize xs[j] = x at c0 HST
      have HJ := aMk hlj
      clear z9 z1 hvq hy hlj hj
      have z2 : ((wr.alloc (.cells #[.int .i64 x] 3 (0, 0))).alloc (.cells #[.int .i64 1600] 3 (0, 0))).cell? ⟨gm, j, none⟩ = some (.int .i64 (y : Int)) := ((qbA (qbA (qBr _ _) _) _).cell (qwL _ _ z0)).trans z0
      have HO1 := aMk (qrA (R_one wr x) (.cells #[.int .i64 1600] 3 (0, 0)))
      have HO2 : Aside0 (SL ((wr.alloc (.cells #[.int .i64 x] 3 (0, 0))).alloc (.cells #[.int .i64 1600] 3 (0, 0))) (.slice (some ⟨wr.heap.size + 1, 0, none⟩) 1 1) [1600]) := ⟨by
       have h := SLk.of_R (R_one (wr.alloc (.cells #[.int .i64 x] 3 (0, 0))) 1600)
       rwa [show (wr.alloc (.cells #[.int .i64 x] 3 (0, 0))).heap.size = wr.heap.size + 1 by simp] at h⟩
      have HBA : Aside0 (Below wr.heap.size wr ((wr.alloc (.cells #[.int .i64 x] 3 (0, 0))).alloc (.cells #[.int .i64 1600] 3 (0, 0)))) := ⟨qbA (qbA (qBr _ _) _) _⟩
      go_wp2_with (first | (go_at_call 60; refine (KRep.repeat_c HO2.out y (by have := HY60.out; omega)).mono ?_; rintro e w7 ⟨u, rfl, hr, hb⟩; obtain ⟨Ar, cr, er, hcr, hCr⟩ := hr; rw [qlr] at er hCr; subst er; have HCr := aMk hCr; have HO7 := aMk (qrB HO1.out hb); have HB7 : Aside0 (Below wr.heap.size wr w7) := ⟨qbP HBA.out hb⟩; clear hb hcr hCr) | ((with_reducible refine gate_builtin (b := .append) (xs := #[.tmp 100, .tmp 106]) rfl ?_); at_builtin; refine Kd.R_append_rows (Kd.int .i64) (w0 := wr) wr.heap.size rfl (.tmp 100) (.tmp 106) 22 3 (.int .i64 0) 8 rfl Tryz.underlying22 KPlaces.info3 rfl (by decide) (by omega) (.slice (some ⟨wr.heap.size, 0, none⟩) 1 1) [x] (List.replicate y 1600) Ar y cr (fun _ => True) (fun _ => False) (by first | rfl | (go_simp; done) | (go_simp; rfl)) (by first | rfl | (go_simp; done) | (go_simp; rfl)) (qrM HO7.out (fun _ _ => trivial)) HCr.out (fun x cs h => h) (fun _ h => h.elim) (fun _ _ => trivial) HB7.out HB7.out.size (by have := HY60.out; simp only [List.length_singleton]; omega) ?_; intro v8 w8 hv hb hg hat; have HV8 := aMk (SLk.of_R hv); have HB8 := aMk hb; clear hv hb hg hat) | (go_at_call 59; refine (Cel.set_c (HC.out.below HB8.out) j HLL.out HV8.out (by have := HY60.out; rw [List.length_append, qlr]; simp only [List.length_singleton]; omega)).mono ?_; rintro e w9 ⟨rfl, hc, he⟩; have HC9 : Aside0 (CellsAt 100 w9 (fun q => wr0.heap.size ≤ q) b (Lto xs M (j + 1)) []) := ⟨by rw [← HST.out]; exact hc.mono (fun q hq => hq.elim (fun h => h) (fun h => qlT HBQ.out.size (qlT HB8.out.size h)))⟩; have HB9 : Aside0 (Below wr0.heap.size wr0 w9) := ⟨(qbP HBQ.out HB8.out).trans (he.below (qlT HBQ.out.size HB8.out.size) (fun k hk => hk))⟩; clear hc he))
      exact ⟨⟨j + 1, by go_num, by have := HJ.out; omega, HC9, HB9⟩, by have := HJ.out; simp [intOf]; omega⟩
     ·obtain rfl : j = xs.length := by omega
      clear hlj hj
      have HL : Aside0 ((rowsOf xs M).length ≤ 60 ∧ (rowsOf xs M).flatten.length = xs.length + n) := ⟨by rw [rowsOf_len]; exact HM.out, by rw [rowsOf_flat xs M HML.out, HMS.out]⟩
      have HCE : Aside0 (CellsAt 100 wr (fun q => wr0.heap.size ≤ q) b (rowsOf xs M) []) := ⟨by rw [← Lto_end]; exact HC.out⟩
      have HSTR : Aside0 (strL xs n = rowsOf xs M) := ⟨by unfold strL; rw [HME.out, HTS.out, HPS.out, HTS.out]⟩
      go_wp2_with (first | (go_at_call 61; refine (Cel.clu_one HCE.out (by have := HL.out.1; omega) (Nat.zero_le _) (by have h1 := HL.out.2; have h2 := HM.out; have h3 := HN6.out; omega)).mono ?_; rintro e w10 ⟨v10, r10, rfl, hb, hc⟩; obtain ⟨-, -, rfl, FF, hf, hs⟩ := hc.resolve_left (fun h => absurd h.1 (by have h1 := HL.out.2; have h2 := HN.out; omega)); have HF10 := aMk hf; have HS10 := aMk hs; have HB10 : Aside0 (Below w.heap.size w w10) := ⟨qbP HBwq.out hb⟩; have HC10 := aMk (HCE.out.below hb); clear hb hc hf hs) | (go_at_call 30; refine (Cel.text_c HC10.out (by have := HL.out.1; omega) (by have h1 := HL.out.2; have h2 := HM.out; have h3 := HN6.out; omega)).mono ?_; rintro e w11 ⟨u11, rfl, hr, hb⟩; have HR11 := aMk hr; have HB101 := aMk hb; have HB11 : Aside0 (Below w.heap.size w w11) := ⟨qbP HB10.out hb⟩; clear hr hb))
      refine bodyPost_ret (results_tmp3 rfl _ _ _) rfl ?_
      refine ⟨HB11.out, .inr ⟨HP0.out, _, _, FF, rfl, ?_⟩⟩
      rw [HSTR.out]
      exact ⟨SLk.of_R HR11.out, HF10.out, SLk.below HS10.out HB101.out⟩
end KStretch
end
end Go.Proofs.YtemhccjjcioodaaGreat
