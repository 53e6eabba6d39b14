/- Texts of this claim, cut to what it needs. -/
import Derived.Test.YtohhobcipfmkbaaKCFinP
import Derived.Test.YtohhobcipfmkbaaKUFinDoc
import Derived.Test.YtohhobcipfmkbaaKUFinest
import Derived.Test.YtohhobcipfmkbaaKUBase
namespace Go.Proofs.Ytohhobcipfmkbaa.UFinEv
open Go.RowKit Go.Proofs.YtohhobcipfmkbaaW.PrintWords Go.Proofs.Ytohhobcipfmkbaa.U Go.Proofs.Ytohhobcipfmkbaa.PClusterFinest Go.Proofs.Ytohhobcipfmkbaa.UFinest
set_option linter.unusedVariables false
set_option linter.unusedSimpArgs false
theorem least_loop {L : Lab} {lo : Nat} {l : List Int} (h : Rep L lo l) (hm : l.length ≤ 1000000) (a b : Nat) (hb : b ≤ l.length) (z : Int) (d : Nat) : ∀ i : Nat, a ≤ i → i + d = b →
    Ev (fun k => naskhref04_least.l0 k l ((leastL L (lo + a) (i - a) : Nat) : Int) (i : Int) z (b : Int)) ((leastL L (lo + a) (b - a) : Nat) : Int) := by
  induction d with
  | zero =>
    intro i hi hd
    refine Ev.step (fun k => by rw [naskhref04_least.l0]) (ev_neg (by omega) (ev_eq (ev_now _) ?_))
    rw [show i = b by omega]
  | succ d ih =>
    intro i hi hd
    refine Ev.step (fun k => by rw [naskhref04_least.l0]) (ev_pos (by omega) (ev_pos (by omega) (ev_pos (by omega) ?_)))
    rw [rep_rd h i (by omega), mn_nat, w64 (by omega) (by omega), show (i : Int) + 1 = ((i + 1 : Nat) : Int) by omega]
    have hl : leastL L (lo + a) (i + 1 - a) = min (leastL L (lo + a) (i - a)) (L (lo + i)) := by
      rw [show i + 1 - a = (i - a) + 1 by omega]
      show min _ (L (lo + a + (i - a))) = _
      rw [show lo + a + (i - a) = lo + i by omega]
    have := ih (i + 1) (by omega) (by omega)
    rw [hl] at this
    exact this
theorem least_ev {L : Lab} {lo : Nat} {l : List Int} (h : Rep L lo l) (hm : l.length ≤ 1000000) (a b : Nat) (hab : a < b) (hb : b ≤ l.length) : Ev (fun k => naskhref04_least.f k l (a : Int) (b : Int)) ((leastL L (lo + a) (b - a) : Nat) : Int) := by
  unfold naskhref04_least.f
  refine ev_pos (by omega) (ev_pos (by omega) ?_)
  rw [rep_rd h a (by omega)]
  have := least_loop h hm a b hb (a : Int) (b - a) a (Nat.le_refl _) (by omega)
  rw [Nat.sub_self] at this
  exact this
theorem same_loop {L : Lab} {lo : Nat} (v : Nat) (a b : Nat) (z : Int) (d : Nat) : ∀ (i : Nat) (l : List Int), a ≤ i → i + d = b → b ≤ l.length → l.length ≤ 1000000 → Rep (setL L (lo + a) (lo + i) v) lo l →
    ∃ l' : List Int, Ev (fun k => naskhref04_same.l0 k l (v : Int) (chg L (lo + a) v (i - a)) (i : Int) z (b : Int)) (chg L (lo + a) v (b - a), l') ∧ l'.length = l.length ∧ Rep (setL L (lo + a) (lo + b) v) lo l' := by
  induction d with
  | zero =>
    intro i l hi hd hb hm h
    have e : i = b := by omega
    subst e
    exact ⟨l, Ev.step (fun k => by rw [naskhref04_same.l0]) (ev_neg (by omega) (ev_now _)), rfl, h⟩
  | succ d ih =>
    intro i l hi hd hb hm h
    have hli := h i (by omega)
    have hold : setL L (lo + a) (lo + i) v (lo + i) = L (lo + i) := by unfold setL; rw [if_neg (by omega)]
    rw [hold] at hli
    have hch : chg L (lo + a) v (i + 1 - a) = (chg L (lo + a) v (i - a) || decide (L (lo + i) ≠ v)) := by
      rw [show i + 1 - a = (i - a) + 1 by omega]
      unfold chg
      rw [show lo + a + (i - a) = lo + i by omega]
      congr 1
      cases i - a <;> rfl
    by_cases he : L (lo + i) = v
    · have hrep : Rep (setL L (lo + a) (lo + (i + 1)) v) lo l := by
        intro j hj
        rw [h j hj]
        unfold setL
        by_cases hji : j = i
        · subst hji; rw [if_neg (by omega), if_pos (by omega), he]
        · congr 1
          by_cases hc : lo + a ≤ lo + j ∧ lo + j < lo + i
          · rw [if_pos hc, if_pos (by omega)]
          · rw [if_neg hc, if_neg (by omega)]
      obtain ⟨l', h1, h2, h3⟩ := ih (i + 1) l (by omega) (by omega) hb hm hrep
      refine ⟨l', Ev.step (fun k => by rw [naskhref04_same.l0]) (ev_pos (by omega) (ev_pos (by omega) (ev_pos (by omega) (ev_pos (by rw [rd_nat, hli, he]) ?_)))), h2, h3⟩
      rw [hch, he] at h1
      simp only [ne_eq, not_true_eq_false, decide_false, Bool.or_false] at h1
      rw [w64 (by omega) (by omega)]
      exact h1
    · have hrep : Rep (setL L (lo + a) (lo + (i + 1)) v) lo (l.set i (v : Int)) := by
        intro j hj
        rw [List.length_set] at hj
        by_cases hji : j = i
        · subst hji
          rw [List.getD_eq_getElem?_getD, List.getElem?_set_self (by omega)]
          unfold setL
          rw [if_pos (by omega)]
          rfl
        · rw [List.getD_eq_getElem?_getD, List.getElem?_set_ne (Ne.symm hji), ← List.getD_eq_getElem?_getD, h j hj]
          unfold setL
          congr 1
          by_cases hc : lo + a ≤ lo + j ∧ lo + j < lo + i
          · rw [if_pos hc, if_pos (by omega)]
          · rw [if_neg hc, if_neg (by omega)]
      obtain ⟨l', h1, h2, h3⟩ := ih (i + 1) (l.set i (v : Int)) (by omega) (by omega) (by rw [List.length_set]; exact hb) (by rw [List.length_set]; exact hm) hrep
      refine ⟨l', Ev.step (fun k => by rw [naskhref04_same.l0]) (ev_pos (by omega) (ev_pos (by omega) (ev_pos (by omega) (ev_neg (by rw [rd_nat, hli]; omega) ?_)))), by rw [h2, List.length_set], h3⟩
      rw [hch, decide_eq_true he, Bool.or_true] at h1
      rw [w64 (by omega) (by omega), Int.toNat_natCast]
      exact h1
theorem same_ev {L : Lab} {lo : Nat} {l : List Int} (h : Rep L lo l) (hm : l.length ≤ 1000000) (v a b : Nat) (hab : a ≤ b) (hb : b ≤ l.length) :
    ∃ l' : List Int, Ev (fun k => naskhref04_same.f k l (a : Int) (b : Int) (v : Int)) (chg L (lo + a) v (b - a), l') ∧ l'.length = l.length ∧ Rep (setL L (lo + a) (lo + b) v) lo l' := by
  have h0 : Rep (setL L (lo + a) (lo + a) v) lo l := by
    rw [setL_same _ _ _ _ (fun x h1 h2 => by omega)]; exact h
  obtain ⟨l', h1, h2, h3⟩ := same_loop v a b (a : Int) (b - a) a l (Nat.le_refl _) (by omega) hb hm h0
  refine ⟨l', ?_, h2, h3⟩
  rw [Nat.sub_self] at h1
  exact h1
theorem hull_loop {L : Lab} {lo : Nat} {l : List Int} (h : Rep L lo l) (hm : l.length ≤ 1000000) (v : Nat) (d : Nat) : ∀ i : Nat, i + d = l.length →
    Ev (fun k => naskhref04_hull.l0 k l (v : Int) (i : Int) (((hullL L lo v i).1 : Nat) : Int) (((hullL L lo v i).2 : Nat) : Int)) ((((hullL L lo v l.length).1 : Nat) : Int), (((hullL L lo v l.length).2 : Nat) : Int)) := by
  induction d with
  | zero =>
    intro i hd
    have e : i = l.length := by omega
    subst e
    exact Ev.step (fun k => by rw [naskhref04_hull.l0]) (ev_neg (by omega) (ev_now _))
  | succ d ih =>
    intro i hd
    have ih' := ih (i + 1) (by omega)
    refine Ev.step (fun k => by rw [naskhref04_hull.l0]) (ev_pos (by omega) (ev_pos (by omega) ?_))
    rw [rep_rd h i (by omega), w64 (by omega) (by omega), show (i : Int) + 1 = ((i + 1 : Nat) : Int) by omega]
    have hstep : hullL L lo v (i + 1) = if L (lo + i) = v then ((if (hullL L lo v i).2 = 0 then i else (hullL L lo v i).1), i + 1) else hullL L lo v i := rfl
    rw [hstep] at ih'
    by_cases he : L (lo + i) = v
    · refine ev_pos (by omega) ?_
      rw [if_pos he] at ih'
      dsimp only at ih'
      by_cases h0 : (hullL L lo v i).2 = 0
      · refine ev_pos (by omega) ?_
        rw [if_pos h0] at ih'
        exact ih'
      · refine ev_neg (by omega) ?_
        rw [if_neg h0] at ih'
        exact ih'
    · refine ev_neg (by omega) ?_
      rw [if_neg he] at ih'
      exact ih'
theorem hull_ev {L : Lab} {lo : Nat} {l : List Int} (h : Rep L lo l) (hm : l.length ≤ 1000000) (v : Nat) : Ev (fun k => naskhref04_hull.f k l (v : Int)) ((((hullL L lo v l.length).1 : Nat) : Int), (((hullL L lo v l.length).2 : Nat) : Int)) := by
  have := hull_loop h hm v l.length 0 (by omega)
  exact this
theorem whole_loop {L : Lab} {lo : Nat} (len : Nat) (hm : len ≤ 1000000) (d : Nat) : ∀ (i : Nat) (l : List Int), i + d = len → l.length = len → Rep (wholeTo L lo len i).1 lo l →
    ∃ l' : List Int, Ev (fun k => naskhref04_whole.l0 k l (wholeTo L lo len i).2 (i : Int)) ((wholeTo L lo len len).2, l') ∧ l'.length = len ∧ Rep (wholeTo L lo len len).1 lo l' := by
  induction d with
  | zero =>
    intro i l hd hl h
    have e : i = len := by omega
    subst e
    exact ⟨l, Ev.step (fun k => by rw [naskhref04_whole.l0]) (ev_neg (by omega) (ev_now _)), hl, h⟩
  | succ d ih =>
    intro i l hd hl h
    obtain ⟨q, hq⟩ : ∃ q, q = wholeTo L lo len i := ⟨_, rfl⟩
    have hst : wholeTo L lo len (i + 1) = (setL q.1 (lo + (hullL q.1 lo (q.1 (lo + i)) len).1) (lo + (hullL q.1 lo (q.1 (lo + i)) len).1 + ((hullL q.1 lo (q.1 (lo + i)) len).2 - (hullL q.1 lo (q.1 (lo + i)) len).1)) (leastL q.1 (lo + (hullL q.1 lo (q.1 (lo + i)) len).1) ((hullL q.1 lo (q.1 (lo + i)) len).2 - (hullL q.1 lo (q.1 (lo + i)) len).1)), chg q.1 (lo + (hullL q.1 lo (q.1 (lo + i)) len).1) (leastL q.1 (lo + (hullL q.1 lo (q.1 (lo + i)) len).1) ((hullL q.1 lo (q.1 (lo + i)) len).2 - (hullL q.1 lo (q.1 (lo + i)) len).1)) ((hullL q.1 lo (q.1 (lo + i)) len).2 - (hullL q.1 lo (q.1 (lo + i)) len).1) || q.2) := by rw [hq]; rfl
    rw [← hq] at h ⊢
    have hh := hull_ev h (by omega) (q.1 (lo + i))
    rw [hl] at hh
    have hs : (hullL q.1 lo (q.1 (lo + i)) len).1 < (hullL q.1 lo (q.1 (lo + i)) len).2 ∧ (hullL q.1 lo (q.1 (lo + i)) len).2 ≤ len := by
      rcases hullL_is q.1 lo (q.1 (lo + i)) len with ⟨_, g⟩ | ⟨g1, g2, _⟩
      · exact absurd rfl (g i (by omega))
      · exact ⟨g1, g2⟩
    obtain ⟨s, hsd⟩ : ∃ s, s = hullL q.1 lo (q.1 (lo + i)) len := ⟨_, rfl⟩
    rw [← hsd] at hh hs hst
    have hle := least_ev h (by omega) s.1 s.2 hs.1 (by omega)
    obtain ⟨v, hv⟩ : ∃ v, v = leastL q.1 (lo + s.1) (s.2 - s.1) := ⟨_, rfl⟩
    rw [← hv] at hle hst
    obtain ⟨l1, hsm, hl1, hr1⟩ := same_ev h (by omega) v s.1 s.2 (by omega) (by omega)
    rw [show lo + s.2 = lo + s.1 + (s.2 - s.1) by omega] at hr1
    obtain ⟨l', h1, h2, h3⟩ := ih (i + 1) l1 (by omega) (by omega) (by rw [hst]; exact hr1)
    rw [hst] at h1
    dsimp only at h1
    refine ⟨l', Ev.step (fun k => by rw [naskhref04_whole.l0]) (ev_pos (by omega) (ev_pos (by omega) ?_)), h2, h3⟩
    rw [rep_rd h i (by omega)]
    refine ev_bind hh (ev_bind hle (ev_bind hsm ?_))
    rw [w64 (by omega) (by omega), show (i : Int) + 1 = ((i + 1 : Nat) : Int) by omega]
    refine ev_ite (fun hc => ?_) (fun hc => ?_)
    · dsimp only at hc
      rw [hc, Bool.true_or] at h1
      exact h1
    · dsimp only at hc
      have hc' : chg q.1 (lo + s.1) v (s.2 - s.1) = false := by simpa using hc
      rw [hc', Bool.false_or] at h1
      exact h1
theorem whole_ev {L : Lab} {lo : Nat} {l : List Int} (h : Rep L lo l) (hm : l.length ≤ 1000000) : ∃ l' : List Int, Ev (fun k => naskhref04_whole.f k l) ((wholeTo L lo l.length l.length).2, l') ∧ l'.length = l.length ∧ Rep (wholeTo L lo l.length l.length).1 lo l' := by
  obtain ⟨l', h1, h2, h3⟩ := whole_loop l.length hm l.length 0 l (by omega) rfl h
  exact ⟨l', h1, h2, h3⟩
theorem turn_loop {L : Lab} {n m : Nat} (all : List S45) (hn : n ≤ 100000) (hm : m ≤ 100000) (hal : all.length ≤ 1000000) (hnn : ∀ x ∈ all, NonNeg x) (hin : ∀ x ∈ all, LkIn n m (lkOf x)) (d : Nat) : ∀ (i : Nat) (inl outl : List Int), i + d = all.length → inl.length = n → outl.length = m →
    Rep (((all.map lkOf).take i).foldl (turn1 n) (L, false)).1 0 inl → Rep (((all.map lkOf).take i).foldl (turn1 n) (L, false)).1 n outl →
    ∃ inl' outl' : List Int, Ev (fun k => naskhref04_turn.l0 k inl outl all (((all.map lkOf).take i).foldl (turn1 n) (L, false)).2 (i : Int)) ((turnL n m (all.map lkOf) L).2, inl', outl') ∧ inl'.length = n ∧ outl'.length = m ∧ Rep (turnL n m (all.map lkOf) L).1 0 inl' ∧ Rep (turnL n m (all.map lkOf) L).1 n outl' := by
  induction d with
  | zero =>
    intro i inl outl hd hil hol hi ho
    have e : i = all.length := by omega
    rw [List.take_of_length_le (by simp; omega)] at hi ho ⊢
    obtain ⟨q, hq⟩ : ∃ q, q = (all.map lkOf).foldl (turn1 n) (L, false) := ⟨_, rfl⟩
    rw [← hq] at hi ho ⊢
    have htl : turnL n m (all.map lkOf) L = ((wholeTo (wholeTo q.1 0 n n).1 n m m).1, (wholeTo (wholeTo q.1 0 n n).1 n m m).2 || ((wholeTo q.1 0 n n).2 || q.2)) := by rw [hq]; rfl
    obtain ⟨i1, e1, l1, r1⟩ := whole_ev hi (by omega)
    rw [hil] at e1 l1 r1
    have ho1 : Rep (wholeTo q.1 0 n n).1 n outl := by
      intro j hj
      rw [ho j hj, wholeTo_out _ _ _ (n + j) (by omega) n (Nat.le_refl _)]
    obtain ⟨o1, e2, l2, r2⟩ := whole_ev ho1 (by omega)
    rw [hol] at e2 l2 r2
    have hi1 : Rep (wholeTo (wholeTo q.1 0 n n).1 n m m).1 0 i1 := by
      intro j hj
      rw [r1 j hj, wholeTo_out _ _ _ (0 + j) (by omega) m (Nat.le_refl _)]
    rw [htl]
    refine ⟨i1, o1, Ev.step (fun k => by rw [naskhref04_turn.l0]) (ev_neg (by omega) ?_), l1, l2, hi1, r2⟩
    refine ev_bind e1 ?_
    refine ev_ite (fun h1 => ?_) (fun h1 => ?_)
    · refine ev_bind e2 ?_
      dsimp only at h1 ⊢
      refine ev_ite (fun h2 => ev_eq (ev_now _) ?_) (fun h2 => ev_eq (ev_now _) ?_)
      · rw [h1]; simp
      · rw [h1]; simp
    · refine ev_bind e2 ?_
      dsimp only at h1 ⊢
      have h1' : (wholeTo q.1 0 n n).2 = false := by simpa using h1
      refine ev_ite (fun h2 => ev_eq (ev_now _) ?_) (fun h2 => ev_eq (ev_now _) ?_)
      · rw [h1', h2]; simp
      · have h2' : (wholeTo (wholeTo q.1 0 n n).1 n m m).2 = false := by simpa using h2
        rw [h1', h2']; simp
  | succ d ih =>
    intro i inl outl hd hil hol hi ho
    have hlt : i < all.length := by omega
    have hx := hnn _ (List.getElem_mem hlt)
    have hk := hin _ (List.getElem_mem hlt)
    have hft : ((all.map lkOf).take (i + 1)).foldl (turn1 n) (L, false) = turn1 n (((all.map lkOf).take i).foldl (turn1 n) (L, false)) (lkOf all[i]) := by
      rw [foldl_take _ _ _ _ (by simpa using hlt)]
      simp
    have ih' := fun a b => ih (i + 1) a b (by omega)
    rw [hft] at ih'
    obtain ⟨q, hq⟩ : ∃ q, q = ((all.map lkOf).take i).foldl (turn1 n) (L, false) := ⟨_, rfl⟩
    rw [← hq] at hi ho ih' ⊢
    obtain ⟨x, hxx⟩ : ∃ x, x = all[i] := ⟨_, rfl⟩
    rw [← hxx] at hx hk ih'
    obtain ⟨a, ha⟩ : ∃ a : Nat, x.f0.f0 = (a : Int) := ⟨x.f0.f0.toNat, by have := hx.a; omega⟩
    obtain ⟨b, hb⟩ : ∃ b : Nat, x.f0.f1 = (b : Int) := ⟨x.f0.f1.toNat, by have := hx.b; omega⟩
    obtain ⟨c, hc⟩ : ∃ c : Nat, x.f1.f0 = (c : Int) := ⟨x.f1.f0.toNat, by have := hx.c; omega⟩
    obtain ⟨e, he⟩ : ∃ e : Nat, x.f1.f1 = (e : Int) := ⟨x.f1.f1.toNat, by have := hx.d; omega⟩
    have hlk : lkOf x = ⟨a, b, c, e⟩ := by unfold lkOf; rw [ha, hb, hc, he]; simp
    rw [hlk] at hk ih'
    have hka : a < b := hk.a
    have hkb : b ≤ n := hk.b
    have hkd : c < e → e ≤ m := hk.d
    have hle := least_ev hi (by omega) a b hka (by omega)
    rw [Nat.zero_add] at hle
    by_cases hce : c < e
    · have hem := hkd hce
      have hlo := least_ev ho (by omega) c e hce (by omega)
      obtain ⟨v, hv⟩ : ∃ v, v = min (leastL q.1 a (b - a)) (leastL q.1 (n + c) (e - c)) := ⟨_, rfl⟩
      have ht1 : turn1 n q ⟨a, b, c, e⟩ = (setL (setL q.1 (n + c) (n + c + (e - c)) v) a (a + (b - a)) v, chg (setL q.1 (n + c) (n + c + (e - c)) v) a v (b - a) || (chg q.1 (n + c) v (e - c) || q.2)) := by
        unfold turn1
        dsimp only
        rw [if_pos hce, ← hv]
      rw [ht1] at ih'
      dsimp only at ih'
      obtain ⟨o1, s1, lo1, ro1⟩ := same_ev ho (by omega) v c e (by omega) (by omega)
      rw [show n + e = n + c + (e - c) by omega] at ro1
      have hi1 : Rep (setL q.1 (n + c) (n + c + (e - c)) v) 0 inl := rep_out hi (by omega)
      obtain ⟨i1, s2, li1, ri1⟩ := same_ev hi1 (by omega) v a b (by omega) (by omega)
      rw [Nat.zero_add, Nat.zero_add, show b = a + (b - a) by omega] at ri1
      rw [Nat.zero_add] at s2
      have ro2 : Rep (setL (setL q.1 (n + c) (n + c + (e - c)) v) a (a + (b - a)) v) n o1 := rep_out ro1 (by omega)
      obtain ⟨i', o', h1, h2, h3, h4, h5⟩ := ih' i1 o1 (by omega) (by omega) ri1 ro2
      refine ⟨i', o', Ev.step (fun k => by rw [naskhref04_turn.l0]) (ev_pos (by omega) (ev_pos (by omega) ?_)), h2, h3, h4, h5⟩
      rw [rd45 hlt, ← hxx, ha, hb, hc, he, w64 (by omega) (by omega), show (i : Int) + 1 = ((i + 1 : Nat) : Int) by omega]
      refine ev_bind hle ?_
      rw [right_f _ _ (by omega)]
      refine ev_bindc rfl (ev_pos (decide_eq_true (by omega)) ?_)
      refine ev_bind hlo ?_
      rw [mn_nat, ← hv]
      refine ev_bind s1 ?_
      refine ev_ite (fun g1 => ?_) (fun g1 => ?_)
      · dsimp only at g1
        refine ev_bind s2 ?_
        rw [g1, Bool.true_or, Bool.or_true] at h1
        refine ev_ite (fun _ => h1) (fun _ => h1)
      · have g1' : chg q.1 (n + c) v (e - c) = false := by simpa using g1
        rw [g1', Bool.false_or] at h1
        refine ev_bind s2 ?_
        refine ev_ite (fun g2 => ?_) (fun g2 => ?_)
        · dsimp only at g2
          rw [g2, Bool.true_or] at h1
          exact h1
        · have g2' : chg (setL q.1 (n + c) (n + c + (e - c)) v) a v (b - a) = false := by simpa using g2
          rw [g2', Bool.false_or] at h1
          exact h1
    · obtain ⟨v, hv⟩ : ∃ v, v = leastL q.1 a (b - a) := ⟨_, rfl⟩
      have ht1 : turn1 n q ⟨a, b, c, e⟩ = (setL q.1 a (a + (b - a)) v, chg q.1 a v (b - a) || q.2) := by
        unfold turn1
        dsimp only
        rw [if_neg hce, ← hv]
      rw [ht1] at ih'
      dsimp only at ih'
      rw [← hv] at hle
      obtain ⟨i1, s2, li1, ri1⟩ := same_ev hi (by omega) v a b (by omega) (by omega)
      rw [Nat.zero_add, Nat.zero_add, show b = a + (b - a) by omega] at ri1
      rw [Nat.zero_add] at s2
      have ro2 : Rep (setL q.1 a (a + (b - a)) v) n outl := rep_out ho (by omega)
      obtain ⟨i', o', h1, h2, h3, h4, h5⟩ := ih' i1 outl (by omega) (by omega) ri1 ro2
      refine ⟨i', o', Ev.step (fun k => by rw [naskhref04_turn.l0]) (ev_pos (by omega) (ev_pos (by omega) ?_)), h2, h3, h4, h5⟩
      rw [rd45 hlt, ← hxx, ha, hb, hc, he, w64 (by omega) (by omega), show (i : Int) + 1 = ((i + 1 : Nat) : Int) by omega]
      refine ev_bind hle ?_
      rw [right_f _ _ (by omega)]
      refine ev_bindc rfl (ev_neg (by simp; omega) ?_)
      refine ev_bind s2 ?_
      refine ev_ite (fun g2 => ?_) (fun g2 => ?_)
      · dsimp only at g2
        rw [g2, Bool.true_or] at h1
        exact h1
      · have g2' : chg q.1 a v (b - a) = false := by simpa using g2
        rw [g2', Bool.false_or] at h1
        exact h1
theorem turn_ev {L : Lab} {n m : Nat} (all : List S45) (hn : n ≤ 100000) (hm : m ≤ 100000) (hal : all.length ≤ 1000000) (hnn : ∀ x ∈ all, NonNeg x) (hin : ∀ x ∈ all, LkIn n m (lkOf x)) (inl outl : List Int) (hil : inl.length = n) (hol : outl.length = m) (hi : Rep L 0 inl) (ho : Rep L n outl) :
    ∃ inl' outl' : List Int, Ev (fun k => naskhref04_turn.f k inl outl all) ((turnL n m (all.map lkOf) L).2, inl', outl') ∧ inl'.length = n ∧ outl'.length = m ∧ Rep (turnL n m (all.map lkOf) L).1 0 inl' ∧ Rep (turnL n m (all.map lkOf) L).1 n outl' :=
  turn_loop all hn hm hal hnn hin all.length 0 inl outl (by omega) hil hol hi ho
end Go.Proofs.Ytohhobcipfmkbaa.UFinEv
namespace Go.Proofs.Ytohhobcipfmkbaa.UFinEv
open Go.RowKit Go.Proofs.YtohhobcipfmkbaaW.PrintWords Go.Proofs.Ytohhobcipfmkbaa.U Go.Proofs.Ytohhobcipfmkbaa.PClusterFinest Go.Proofs.Ytohhobcipfmkbaa.UFinest
set_option linter.unusedVariables false
set_option linter.unusedSimpArgs false
theorem linked_inner {n m : Nat} (links : List S45) (hl : links.length ≤ 1000000) (hn : n ≤ 1000000) (i : Nat) (hi : i < links.length) (hx : LinkOk n m links[i]) (R : List Bool → Prop) (d : Nat) : ∀ (t : Nat) (b : List Bool) (P : Nat → Bool), links[i].f0.f0 ≤ t → t + d = links[i].f0.f1.toNat → b.length = n → RepB P b →
    (∀ b', b'.length = n → RepB (fun j => P j || (decide (t ≤ j) && decide (j < links[i].f0.f1.toNat))) b' → ∃ r, R r ∧ Ev (fun k => naskhref04_linked.l0 k links b' ((i + 1 : Nat) : Int)) r) →
    ∃ r, R r ∧ Ev (fun k => naskhref04_linked.l1 k links b (i : Int) (t : Int)) r := by
  have h1 := hx.a0; have h2 := hx.ab; have h3 := hx.bn
  induction d with
  | zero =>
    intro t b P ht hd hb hP hc
    obtain ⟨r, hr, he⟩ := hc b hb (by
      intro j hj
      rw [hP j hj]
      have : (decide (t ≤ j) && decide (j < links[i].f0.f1.toNat)) = false := by simp; omega
      dsimp only
      rw [this, Bool.or_false])
    refine ⟨r, hr, Ev.step (fun k => by rw [naskhref04_linked.l1]) (ev_pos (by omega) (ev_pos (by omega) ?_))⟩
    rw [rd45 hi]
    refine ev_neg (by omega) ?_
    rw [w64 (by omega) (by omega), show (i : Int) + 1 = ((i + 1 : Nat) : Int) by omega]
    exact he
  | succ d ih =>
    intro t b P ht hd hb hP hc
    obtain ⟨r, hr, he⟩ := ih (t + 1) (b.set t true) (fun j => P j || decide (j = t)) (by omega) (by omega) (by rw [List.length_set]; exact hb) (repB_set hP t (by omega)) (fun b' hb' hr' => hc b' hb' (by
      intro j hj
      rw [hr' j hj]
      by_cases hjt : j = t
      · subst hjt; simp; omega
      · have e1 : decide (j = t) = false := decide_eq_false hjt
        have e2 : decide (t + 1 ≤ j) = decide (t ≤ j) := by rw [decide_eq_decide]; omega
        dsimp only
        rw [e1, e2, Bool.or_false]))
    refine ⟨r, hr, Ev.step (fun k => by rw [naskhref04_linked.l1]) (ev_pos (by omega) (ev_pos (by omega) ?_))⟩
    rw [rd45 hi]
    refine ev_pos (by omega) (ev_pos (by omega) (ev_pos (by omega) ?_))
    rw [w64 (by omega) (by omega), Int.toNat_natCast, show (t : Int) + 1 = ((t + 1 : Nat) : Int) by omega]
    exact he
theorem linked_loop {n m : Nat} (links : List S45) (hl : links.length ≤ 1000000) (hn : n ≤ 1000000) (hx : ∀ x ∈ links, LinkOk n m x) (d : Nat) : ∀ (i : Nat) (b : List Bool), i + d = links.length → b.length = n → RepB (linkedB ((links.take i).map lkOf)) b →
    ∃ r : List Bool, (r.length = n ∧ RepB (linkedB (links.map lkOf)) r) ∧ Ev (fun k => naskhref04_linked.l0 k links b (i : Int)) r := by
  induction d with
  | zero =>
    intro i b hd hb hP
    rw [List.take_of_length_le (by omega)] at hP
    exact ⟨b, ⟨hb, hP⟩, Ev.step (fun k => by rw [naskhref04_linked.l0]) (ev_neg (by omega) (ev_now _))⟩
  | succ d ih =>
    intro i b hd hb hP
    have hlt : i < links.length := by omega
    have hxi := hx _ (List.getElem_mem hlt)
    have h1 := hxi.a0; have h2 := hxi.ab; have h3 := hxi.bn
    obtain ⟨r, hr, he⟩ := linked_inner links hl hn i hlt hxi (fun r => r.length = n ∧ RepB (linkedB (links.map lkOf)) r) (links[i].f0.f1.toNat - links[i].f0.f0.toNat) links[i].f0.f0.toNat b _ (by omega) (by omega) hb hP (fun b' hb' hr' => ih (i + 1) b' (by omega) hb' (by
      intro j hj
      rw [hr' j hj, List.take_succ_eq_append_getElem hlt, List.map_append]
      unfold linkedB
      rw [List.any_append]
      simp [lkOf]))
    refine ⟨r, hr, Ev.step (fun k => by rw [naskhref04_linked.l0]) (ev_pos (by omega) (ev_pos (by omega) ?_))⟩
    rw [rd45 hlt, show links[i].f0.f0 = ((links[i].f0.f0.toNat : Nat) : Int) by omega]
    exact he
theorem linked_ev {n m : Nat} (links : List S45) (hl : links.length ≤ 1000000) (hn : n ≤ 1000000) (hx : ∀ x ∈ links, LinkOk n m x) : ∃ r : List Bool, r.length = n ∧ RepB (linkedB (links.map lkOf)) r ∧ Ev (fun k => naskhref04_linked.f k (n : Int) links) r := by
  obtain ⟨r, ⟨h1, h2⟩, h3⟩ := linked_loop links hl hn hx links.length 0 (List.replicate n false) (by omega) (by simp) (by
    intro j hj
    simp at hj
    simp [linkedB, List.getD_eq_getElem?_getD, List.getElem?_replicate, hj])
  refine ⟨r, h1, h2, ?_⟩
  unfold naskhref04_linked.f
  refine ev_pos (by omega) (ev_pos (by omega) ?_)
  rw [Int.toNat_natCast]
  exact h3
theorem ahead_loop (P : Nat → Bool) (b : List Bool) (hb : RepB P b) (hl : b.length ≤ 1000000) (d : Nat) : ∀ i : Nat, i + d = b.length → (∀ j, j < i → P j = false) →
    Ev (fun k => naskhref04_ahead.l0 k b (i : Int)) (let f := (List.range b.length).findIdx P; if 0 < f ∧ f < b.length then [(⟨⟨0, (f : Int) + 1⟩, ⟨0, 0⟩⟩ : S45)] else []) := by
  induction d with
  | zero =>
    intro i hd hf
    refine Ev.step (fun k => by rw [naskhref04_ahead.l0]) (ev_neg (by omega) (ev_eq (ev_now _) ?_))
    have : (List.range b.length).findIdx P = b.length := by
      have := List.findIdx_eq_length (xs := List.range b.length) (p := P)
      rw [List.length_range] at this
      rw [this]
      intro x hx
      rw [hf x (by have := List.mem_range.1 hx; omega)]
    dsimp only
    rw [this, if_neg (by omega)]
  | succ d ih =>
    intro i hd hf
    have hlt : i < b.length := by omega
    have hbi := hb i hlt
    by_cases hp : P i = true
    · have hfi : (List.range b.length).findIdx P = i := by
        rw [List.findIdx_eq (by simpa using hlt)]
        refine ⟨by simpa using hp, fun j hj => ?_⟩
        simp [hf j hj]
      dsimp only
      rw [hfi]
      refine Ev.step (fun k => by rw [naskhref04_ahead.l0]) (ev_pos (by omega) (ev_pos (by omega) ?_))
      rw [rdB, hbi]
      refine ev_pos hp ?_
      by_cases h0 : 0 < i
      · rw [if_pos ⟨h0, hlt⟩]
        refine Ev.step (fun k => by rw [naskhref04_ahead.j1]) (ev_pos (decide_eq_true (by omega)) (ev_eq (ev_now _) ?_))
        rw [w64 (by omega) (by omega)]
      · rw [if_neg (by omega)]
        refine Ev.step (fun k => by rw [naskhref04_ahead.j1]) (ev_neg (by simp; omega) (ev_pos (by omega) (ev_pos (by omega) ?_)))
        rw [rdB, hbi]
        exact ev_pos hp (ev_now _)
    · have hpf : P i = false := by simpa using hp
      have := ih (i + 1) (by omega) (fun j hj => by
        by_cases hji : j = i
        · subst hji; exact hpf
        · exact hf j (by omega))
      refine Ev.step (fun k => by rw [naskhref04_ahead.l0]) (ev_pos (by omega) (ev_pos (by omega) ?_))
      rw [rdB, hbi]
      refine ev_neg hp (Ev.step (fun k => by rw [naskhref04_ahead.j1]) (ev_neg (by simp) (ev_pos (by omega) (ev_pos (by omega) ?_))))
      rw [rdB, hbi, w64 (by omega) (by omega), show (i : Int) + 1 = ((i + 1 : Nat) : Int) by omega]
      exact ev_neg hp this
theorem ahead_ev {l : List Lk} (b : List Bool) (hb : RepB (linkedB l) b) (hl : b.length ≤ 1000000) : Ev (fun k => naskhref04_ahead.f k b) (if 0 < firstF l b.length ∧ firstF l b.length < b.length then [(⟨⟨0, (firstF l b.length : Int) + 1⟩, ⟨0, 0⟩⟩ : S45)] else []) := by
  have := ahead_loop (linkedB l) b hb hl b.length 0 (by omega) (fun j h => absurd h (Nat.not_lt_zero _))
  exact this
end Go.Proofs.Ytohhobcipfmkbaa.UFinEv
namespace Go.Proofs.Ytohhobcipfmkbaa.UFinEv
open Go.RowKit Go.Proofs.YtohhobcipfmkbaaW.PrintWords Go.Proofs.Ytohhobcipfmkbaa.U Go.Proofs.Ytohhobcipfmkbaa.PClusterFinest Go.Proofs.Ytohhobcipfmkbaa.UFinest
set_option linter.unusedVariables false
set_option linter.unusedSimpArgs false
theorem wrong_l2 (m : Nat) (hm : m ≤ 16777216) (P : Nat → Bool) (b : List Bool) (hb : b.length = m) (hP : RepB P b) (d : Nat) : ∀ i : Nat, i + d = m → (∀ j, j < i → P j = true) →
    Ev (fun k => naskhref04_wrong.l2 k (m : Int) b (i : Int)) (if (List.range m).all P then 0 else 13) := by
  induction d with
  | zero =>
    intro i hd hf
    refine Ev.step (fun k => by rw [naskhref04_wrong.l2]) (ev_neg (by omega) (ev_eq (ev_now _) ?_))
    rw [if_pos]
    rw [List.all_eq_true]
    intro x hx
    exact hf x (by have := List.mem_range.1 hx; omega)
  | succ d ih =>
    intro i hd hf
    refine Ev.step (fun k => by rw [naskhref04_wrong.l2]) (ev_pos (by omega) (ev_pos (by omega) (ev_pos (by omega) ?_)))
    rw [rdB, hP i (by omega)]
    by_cases hp : P i = true
    · refine ev_pos hp ?_
      rw [w64 (by omega) (by omega), show (i : Int) + 1 = ((i + 1 : Nat) : Int) by omega]
      exact ih (i + 1) (by omega) (fun j hj => by
        by_cases hji : j = i
        · subst hji; exact hp
        · exact hf j (by omega))
    · refine ev_neg hp (ev_eq (ev_now _) ?_)
      rw [if_neg]
      intro h
      exact hp (List.all_eq_true.1 h i (List.mem_range.2 (by omega)))
theorem wrong_l1 {R : Int → Prop} (n m : Nat) (hm : m ≤ 16777216) (l : List S45) (hl : l.length ≤ 1000000) (i : Nat) (hi : i < l.length) (lo hi2 z1 z2 : Nat) (hh : hi2 ≤ m) (d : Nat) : ∀ (t : Nat) (b : List Bool) (P : Nat → Bool), t + d = hi2 → b.length = m → RepB P b →
    (∀ b', b'.length = m → RepB (fun j => P j || (decide (t ≤ j) && decide (j < hi2))) b' → ∃ r, R r ∧ Ev (fun k => naskhref04_wrong.l0 k (n : Int) (m : Int) l b' ((i + 1 : Nat) : Int)) r) →
    ∃ r, R r ∧ Ev (fun k => naskhref04_wrong.l1 k (n : Int) (m : Int) l b (i : Int) (t : Int) (z1 : Int) (z2 : Int) (lo : Int) (hi2 : Int)) r := by
  induction d with
  | zero =>
    intro t b P hd hb hP hc
    obtain ⟨r, hr, he⟩ := hc b hb (by
      intro j hj
      rw [hP j hj]
      have : (decide (t ≤ j) && decide (j < hi2)) = false := by simp; omega
      dsimp only
      rw [this, Bool.or_false])
    refine ⟨r, hr, Ev.step (fun k => by rw [naskhref04_wrong.l1]) (ev_neg (by omega) ?_)⟩
    rw [w64 (by omega) (by omega), show (i : Int) + 1 = ((i + 1 : Nat) : Int) by omega]
    exact he
  | succ d ih =>
    intro t b P hd hb hP hc
    obtain ⟨r, hr, he⟩ := ih (t + 1) (b.set t true) (fun j => P j || decide (j = t)) (by omega) (by rw [List.length_set]; exact hb) (repB_set hP t (by omega)) (fun b' hb' hr' => hc b' hb' (by
      intro j hj
      rw [hr' j hj]
      by_cases hjt : j = t
      · subst hjt; simp; omega
      · have e1 : decide (j = t) = false := decide_eq_false hjt
        have e2 : decide (t + 1 ≤ j) = decide (t ≤ j) := by rw [decide_eq_decide]; omega
        dsimp only
        rw [e1, e2, Bool.or_false]))
    refine ⟨r, hr, Ev.step (fun k => by rw [naskhref04_wrong.l1]) (ev_pos (by omega) (ev_pos (by omega) (ev_pos (by omega) ?_)))⟩
    rw [w64 (by omega) (by omega), Int.toNat_natCast, show (t : Int) + 1 = ((t + 1 : Nat) : Int) by omega]
    exact he
theorem wrong_j2 {n m : Int} {l : List S45} {b : List Bool} {i : Int} {z1 z2 z3 z4 : Int} : Ev (fun k => naskhref04_wrong.j2 k n m l b i true z1 z2 z3 z4) 1 := Ev.step (fun k => by rw [naskhref04_wrong.j2]) (ev_pos rfl (ev_now _))
theorem wrong_l0 (n m : Nat) (hn : n ≤ 16777216) (hm : m ≤ 16777216) (l : List S45) (hl : l.length ≤ 1000000) (d : Nat) : ∀ (i : Nat) (b : List Bool), i + d = l.length → b.length = m → RepB (outB (l.take i)) b →
    (∀ x ∈ l.take i, okB (n : Int) (m : Int) x = true) →
    ∃ r, r = (if l.all (okB (n : Int) (m : Int)) then wrongIn n m l else 1) ∧ Ev (fun k => naskhref04_wrong.l0 k (n : Int) (m : Int) l b (i : Int)) r := by
  induction d with
  | zero =>
    intro i b hd hb hP hok
    rw [List.take_of_length_le (by omega)] at hP hok
    refine ⟨_, rfl, Ev.step (fun k => by rw [naskhref04_wrong.l0]) (ev_neg (by omega) ?_)⟩
    rw [if_pos (List.all_eq_true.2 hok)]
    unfold wrongIn
    have h2 : Ev (fun k => naskhref04_wrong.l2 k (m : Int) b 0) (if (List.range m).all (outB l) then 0 else 13) := wrong_l2 m hm _ b hb hP m 0 (by omega) (fun j h => absurd h (Nat.not_lt_zero _))
    by_cases h8 : (m : Int) = 0 ∧ (n : Int) > 0
    · rw [if_pos h8]
      exact ev_pos h8.1 (Ev.step (fun k => by rw [naskhref04_wrong.j4]) (ev_pos (decide_eq_true h8.2) (ev_now _)))
    · rw [if_neg h8]
      have h4 : ∀ t : Bool, t = false → Ev (fun k => naskhref04_wrong.j4 k (n : Int) (m : Int) b t) (if (n : Int) = 0 ∧ (m : Int) > 0 then 13 else if (List.range (m : Int).toNat).all (outB l) then 0 else 13) := by
        intro t ht
        refine Ev.step (fun k => by rw [naskhref04_wrong.j4]) (ev_neg (by rw [ht]; decide) ?_)
        have h5 : ∀ t : Bool, t = decide ((n : Int) = 0 ∧ (m : Int) > 0) → Ev (fun k => naskhref04_wrong.j5 k (m : Int) b t) (if (n : Int) = 0 ∧ (m : Int) > 0 then 13 else if (List.range (m : Int).toNat).all (outB l) then 0 else 13) := by
          intro t ht
          by_cases h13 : (n : Int) = 0 ∧ (m : Int) > 0
          · rw [if_pos h13]
            exact Ev.step (fun k => by rw [naskhref04_wrong.j5]) (ev_pos (by rw [ht]; exact decide_eq_true h13) (ev_now _))
          · rw [if_neg h13, Int.toNat_natCast]
            exact Ev.step (fun k => by rw [naskhref04_wrong.j5]) (ev_neg (by rw [ht]; simpa using h13) h2)
        by_cases h0 : (n : Int) = 0
        · exact ev_pos h0 (h5 _ (by rw [decide_eq_decide]; exact ⟨fun h => ⟨h0, h⟩, fun h => h.2⟩))
        · exact ev_neg h0 (h5 _ (by symm; rw [decide_eq_false_iff_not]; exact fun h => h0 h.1))
      by_cases h0 : (m : Int) = 0
      · exact ev_pos h0 (h4 _ (by rw [decide_eq_false_iff_not]; exact fun h => h8 ⟨h0, h⟩))
      · exact ev_neg h0 (h4 _ rfl)
  | succ d ih =>
    intro i b hd hb hP hok
    have hlt : i < l.length := by omega
    have hmem : l[i] ∈ l := List.getElem_mem hlt
    refine ?_
    by_cases hk : okB (n : Int) (m : Int) l[i] = true
    · have hk' := hk
      unfold okB at hk'
      rw [Bool.and_eq_true] at hk'
      obtain ⟨a1, a2, a3⟩ := fitB_right hk'.1
      obtain ⟨b1, b2, b3⟩ := fitB_right hk'.2
      have hnext : ∀ b' : List Bool, b'.length = m → RepB (fun j => outB (l.take i) j || (decide (l[i].f1.f0.toNat ≤ j) && decide (j < l[i].f1.f1.toNat))) b' → ∃ r, r = (if l.all (okB (n : Int) (m : Int)) then wrongIn n m l else 1) ∧ Ev (fun k => naskhref04_wrong.l0 k (n : Int) (m : Int) l b' ((i + 1 : Nat) : Int)) r := fun b' hb' hr' => ih (i + 1) b' (by omega) hb' (by
          intro j hj
          rw [hr' j hj, List.take_succ_eq_append_getElem hlt, outB_add]
          dsimp only
          have e1 : decide (l[i].f1.f0.toNat ≤ j) = decide (l[i].f1.f0 ≤ (j : Int)) := by rw [decide_eq_decide]; omega
          have e2 : decide (j < l[i].f1.f1.toNat) = decide ((j : Int) < l[i].f1.f1) := by rw [decide_eq_decide]; omega
          rw [e1, e2]) (by
          intro x hx
          rw [List.take_succ_eq_append_getElem hlt, List.mem_append] at hx
          rcases hx with h | h
          · exact hok x h
          · rw [List.mem_singleton.1 h]; exact hk)
      obtain ⟨r, hr, he⟩ := wrong_l1 (R := fun r => r = (if l.all (okB (n : Int) (m : Int)) then wrongIn n m l else 1)) n m hm l hl i hlt l[i].f1.f0.toNat l[i].f1.f1.toNat l[i].f0.f0.toNat l[i].f0.f1.toNat (by omega) (l[i].f1.f1.toNat - l[i].f1.f0.toNat) l[i].f1.f0.toNat b _ (by omega) hb hP hnext
      refine ⟨r, hr, Ev.step (fun k => by rw [naskhref04_wrong.l0]) (ev_pos (by omega) (ev_pos (by omega) ?_))⟩
      rw [rd45 hlt, right_is, right_is]
      refine ev_bindc rfl (ev_pos (by rw [decide_eq_true a1, decide_eq_true a2]; rfl) (ev_bindc rfl (ev_pos (by rw [decide_eq_true b1, decide_eq_true b2]; rfl) (ev_neg (by omega) (Ev.step (fun k => by rw [naskhref04_wrong.j2]) (ev_neg (by simp; omega) ?_))))))
      rw [Int.toNat_of_nonneg b1, Int.toNat_of_nonneg a1, Int.toNat_of_nonneg (by omega : 0 ≤ l[i].f1.f1), Int.toNat_of_nonneg (by omega : 0 ≤ l[i].f0.f1)] at he
      exact he
    · refine ⟨1, ?_, Ev.step (fun k => by rw [naskhref04_wrong.l0]) (ev_pos (by omega) (ev_pos (by omega) ?_))⟩
      · rw [if_neg]
        intro h
        exact hk (List.all_eq_true.1 h _ hmem)
      · rw [rd45 hlt, right_is, right_is]
        refine ev_bindc rfl ?_
        by_cases c1 : (decide (0 ≤ l[i].f0.f0) && decide (l[i].f0.f0 < l[i].f0.f1)) = true
        · refine ev_pos c1 (ev_bindc rfl ?_)
          by_cases c2 : (decide (0 ≤ l[i].f1.f0) && decide (l[i].f1.f0 < l[i].f1.f1)) = true
          · refine ev_pos c2 ?_
            by_cases c3 : l[i].f0.f1 > (n : Int)
            · exact ev_pos c3 wrong_j2
            · refine ev_neg c3 ?_
              have c4 : l[i].f1.f1 > (m : Int) := by
                by_cases c4 : l[i].f1.f1 > (m : Int)
                · exact c4
                · exfalso
                  apply hk
                  unfold okB fitB
                  rw [c1, c2, decide_eq_true (by omega : l[i].f0.f1 ≤ (n : Int)), decide_eq_true (by omega : l[i].f1.f1 ≤ (m : Int))]
                  rfl
              rw [decide_eq_true c4]
              exact wrong_j2
          · exact ev_neg c2 wrong_j2
        · exact ev_neg c1 wrong_j2
theorem wrong_ev (n m : Int) (l : List S45) (hl : l.length ≤ 1000000) : Ev (fun k => naskhref04_wrong.f k n m l) (wrongR n m l) := by
  unfold naskhref04_wrong.f wrongR
  have hT : Ev (fun k => naskhref04_wrong.j0 k n m l true) 1 := Ev.step (fun k => by rw [naskhref04_wrong.j0]) (ev_pos rfl (ev_now _))
  by_cases h1 : n < 0
  · rw [if_pos (Or.inl h1)]; exact ev_pos h1 hT
  by_cases h2 : n > 16777216
  · rw [if_pos (Or.inr (Or.inl h2))]; exact ev_neg h1 (ev_pos h2 hT)
  by_cases h3 : m < 0
  · rw [if_pos (Or.inr (Or.inr (Or.inl h3)))]; exact ev_neg h1 (ev_neg h2 (ev_pos h3 hT))
  by_cases h4 : m > 16777216
  · rw [if_pos (Or.inr (Or.inr (Or.inr h4)))]
    refine ev_neg h1 (ev_neg h2 (ev_neg h3 ?_))
    rw [decide_eq_true h4]; exact hT
  rw [if_neg (by omega)]
  refine ev_neg h1 (ev_neg h2 (ev_neg h3 (Ev.step (fun k => by rw [naskhref04_wrong.j0]) (ev_neg (by simpa using h4) (ev_pos (by omega) (ev_pos (by omega) ?_))))))
  obtain ⟨r, hr, he⟩ := wrong_l0 n.toNat m.toNat (by omega) (by omega) l hl l.length 0 (List.replicate m.toNat false) (by omega) (by simp) (by
    intro j hj
    simp at hj
    simp [outB, List.getD_eq_getElem?_getD, List.getElem?_replicate, hj]) (fun x hx => by simp at hx)
  rw [Int.toNat_of_nonneg (by omega : 0 ≤ n), Int.toNat_of_nonneg (by omega : 0 ≤ m)] at hr he
  rw [hr] at he
  exact he
end Go.Proofs.Ytohhobcipfmkbaa.UFinEv
