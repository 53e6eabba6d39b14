/- Texts of this claim, cut to what it needs. -/
import Derived.Test.YtohhobcipfmkbaaKCFinQ
import Derived.Test.YtohhobcipfmkbaaKCFinR
import Derived.Test.YtohhobcipfmkbaaKCCells3
import Derived.Laws.CopyOwn
import Derived.BigQuiet
import Derived.Test.YtohhobcipfmkbaaKCRowDo
import Derived.Sort.LotA
set_option linter.unusedSimpArgs false
set_option linter.unusedVariables false
section
namespace Go.Proofs.Ytohhobcipfmkbaa.UFinEv
open Go.RowKit Go.Proofs.YtohhobcipfmkbaaW.PrintWords Go.Proofs.Ytohhobcipfmkbaa.U Go.Proofs.Ytohhobcipfmkbaa.PClusterFinest Go.Proofs.Ytohhobcipfmkbaa.UFinest
theorem ahead_loop (P : Nat → Bool) (b : List Bool) (hb : RepB P b) (hl : b.length ≤ 1000000) (d : Nat) : ∀ i : Nat, i + d = b.length → (∀ j, j < i → P j = false) →
 Ev (fun k => naskhref04_ahead.l0 k b (i : Int)) (let f := (List.range b.length).findIdx P; if 0 < f ∧ f < b.length then [(⟨⟨0, (f : Int) + 1⟩, ⟨0, 0⟩⟩ : S45)] else []) := by
 induction d with
 | zero =>
  intro i hd hf
  refine Ev.step (fun k => by rw [naskhref04_ahead.l0]) (ev_neg (by omega) (ev_eq (ev_now _) ?_))
  have : (List.range b.length).findIdx P = b.length := by
   have := List.findIdx_eq_length (xs := List.range b.length) (p := P)
   rw [List.length_range] at this
   rw [this]
   intro x hx
   rw [hf x (by have := List.mem_range.1 hx; omega)]
  dsimp only
  rw [this, if_neg (by omega)]
 | succ d ih =>
  intro i hd hf
  have hlt : i < b.length := by omega
  have hbi := hb i hlt
  by_cases hp : P i = true
  ·have hfi : (List.range b.length).findIdx P = i := by
    rw [List.findIdx_eq (by simpa using hlt)]
    refine ⟨by simpa using hp, fun j hj => ?_⟩
    simp [hf j hj]
   dsimp only
   rw [hfi]
   refine Ev.step (fun k => by rw [naskhref04_ahead.l0]) (ev_pos (by omega) (ev_pos (by omega) ?_))
   rw [rdB, hbi]
   refine ev_pos hp ?_
   by_cases h0 : 0 < i
   ·rw [if_pos ⟨h0, hlt⟩]
    refine Ev.step (fun k => by rw [naskhref04_ahead.j1]) (ev_pos (decide_eq_true (by omega)) (ev_eq (ev_now _) ?_))
    rw [w64 (by omega) (by omega)]
   ·rw [if_neg (by omega)]
    refine Ev.step (fun k => by rw [naskhref04_ahead.j1]) (ev_neg (by simp; omega) (ev_pos (by omega) (ev_pos (by omega) ?_)))
    rw [rdB, hbi]
    exact ev_pos hp (ev_now _)
  ·have hpf : P i = false := by simpa using hp
   have := ih (i + 1) (by omega) (fun j hj => by
    by_cases hji : j = i
    ·subst hji; exact hpf
    ·exact hf j (by omega))
   refine Ev.step (fun k => by rw [naskhref04_ahead.l0]) (ev_pos (by omega) (ev_pos (by omega) ?_))
   rw [rdB, hbi]
   refine ev_neg hp (Ev.step (fun k => by rw [naskhref04_ahead.j1]) (ev_neg (by simp) (ev_pos (by omega) (ev_pos (by omega) ?_))))
   rw [rdB, hbi, w64 (by omega) (by omega), show (i : Int) + 1 = ((i + 1 : Nat) : Int) by omega]
   exact ev_neg hp this
theorem ahead_ev {l : List Lk} (b : List Bool) (hb : RepB (linkedB l) b) (hl : b.length ≤ 1000000) : Ev (fun k => naskhref04_ahead.f k b) (if 0 < firstF l b.length ∧ firstF l b.length < b.length then [(⟨⟨0, (firstF l b.length : Int) + 1⟩, ⟨0, 0⟩⟩ : S45)] else []) := by
 have := ahead_loop (linkedB l) b hb hl b.length 0 (by omega) (fun j h => absurd h (Nat.not_lt_zero _))
 exact this
end Go.Proofs.Ytohhobcipfmkbaa.UFinEv
end
section
namespace Go.Proofs.Ytohhobcipfmkbaa.CFin
open Go.RowKit Go.Proofs.YtohhobcipfmkbaaW.PrintWords Go.Proofs.YtohhobcipfmkbaaW.PrintMore Go.Proofs.YtohhobcipfmkbaaW.PrintLast Go.Proofs.Ytohhobcipfmkbaa.U Go.Proofs.Ytohhobcipfmkbaa.PClusterFinest Go.Proofs.Ytohhobcipfmkbaa.UFinest Go.Proofs.Ytohhobcipfmkbaa.UFinEv
theorem ahead_c (n : Nat) {w : World} {base g cap : Nat} {L : List Lk} {b : List Bool} (h : LB w base g n cap b) (hl : b.length = n) (hn : n ≤ 1000000) (hb : RepB (linkedB L) b) :
 Calls Try.prog 66 #[.slice (some ⟨g, 0, none⟩) n cap] w fun e w' => ∃ (A : Option Addr) (c : Nat), e = .returned (.slice A (aheadS L n).length c) ∧ Kd.C k45 w' A (aheadS L n).length (aheadS L n) ∧ Below w.heap.size w w' := by
 obtain ⟨_, hc, hC⟩ := Kd.R_reads' h
 have he := ahead_ev b hb (by omega)
 rw [hl] at he
 obtain ⟨k, hk⟩ := ev_some he
 subst hl
 refine (naskhref04_ahead.calls k _ cap b _ w hC hc hk).mono ?_
 rintro e w' ⟨u, rfl, hu, hb⟩
 obtain ⟨A, c, rfl, _, hC2⟩ := Kd.R_reads hu
 exact ⟨A, c, rfl, hC2, hb⟩
end Go.Proofs.Ytohhobcipfmkbaa.CFin
end
section
namespace Go.Proofs.Ytohhobcipfmkbaa.Cel
open Go.RowKit Go.Proofs.YtohhobcipfmkbaaW.PrintWords Go.Proofs.YtohhobcipfmkbaaW.PrintMore Go.Proofs.YtohhobcipfmkbaaW.PrintLast Go.Proofs.Ytohhobcipfmkbaa.U Go.Proofs.Ytohhobcipfmkbaa.PClusterFinest Go.Proofs.Ytohhobcipfmkbaa.UFinest Go.Proofs.Ytohhobcipfmkbaa.UGroups Go.Proofs.Ytohhobcipfmkbaa.UFinEv
open Go.Proofs.Ytohhobcipfmkbaa.CFin (finest_c finest_bad cluS cluS_len wrong_ok)
variable {w W W2 : World} {F G : Nat → Prop} {b c : Nat} {L L2 : List (List Int)} {J J2 : List S33}
def rowAt (L : List (List Int)) (at_ : Int) : List Int := if h : 0 ≤ at_ ∧ at_ < (L.length : Int) then L[at_.toNat]'(by omega) else []
theorem at_any {D : Nat → Prop} (h : CellsAt 51 w D b L J) (hf : L.flatten.length ≤ 1000000) (at_ : Int) : Calls Try.prog 19 #[ptr b, .int .i64 at_] w fun e w' => ∃ u, e = .returned u ∧ SL w' u (rowAt L at_) ∧ Below w.heap.size w w' := by
 by_cases hat : 0 ≤ at_ ∧ at_ < (L.length : Int)
 ·have e : rowAt L at_ = L[at_.toNat]'(by omega) := dif_pos hat
  rw [e]
  obtain ⟨k, rfl⟩ : ∃ k : Nat, at_ = (k : Int) := ⟨at_.toNat, by omega⟩
  have hk : k < L.length := by omega
  refine (at_c h k hk (Nat.le_trans (flat_row L k hk) hf)).mono ?_
  rintro e w' ⟨u, rfl, hr, hb⟩
  exact ⟨u, rfl, SLk.of_R hr, hb⟩
 ·have e : rowAt L at_ = [] := dif_neg hat
  rw [e]
  refine (at_bad h at_ hat).mono ?_
  rintro e w' ⟨rfl, hb⟩
  exact ⟨_, rfl, SLk.nil _, hb⟩
end Go.Proofs.Ytohhobcipfmkbaa.Cel
end
section
namespace Go.Proofs.Ytohhobcipfmkbaa.UWhole
open Go.Proofs.Ytohhobcipfmkbaa.PClusterFinest Go.Proofs.Ytohhobcipfmkbaa.UFinest Go.Proofs.Ytohhobcipfmkbaa.UFinEv Go.Proofs.Ytohhobcipfmkbaa.CFin Go.Proofs.Ytohhobcipfmkbaa.CSort
theorem parts_cover (n : Int) : ∀ (d : List S33) (s : Int), 0 ≤ s → s ≤ n → (∀ x ∈ d, s ≤ x.f0 ∧ x.f0 < x.f1 ∧ x.f1 ≤ n) → d.Pairwise (fun a b => ¬ b.f0 < a.f0) → d.Pairwise (fun a b => a.f1 ≤ b.f0 ∨ b.f1 ≤ a.f0) → (∀ i, s ≤ i → i < n → ∃ x ∈ d, x.f0 ≤ i ∧ i < x.f1) → partsTo n d s = true
 | [], s, h0, hs, _, _, _, hc => by
  unfold partsTo
  by_cases h : s < n
  ·obtain ⟨x, hx, _⟩ := hc s (Int.le_refl _) h
   cases hx
  ·exact decide_eq_true (by omega)
 | x :: r, s, h0, hs, hb, hp, hd, hc => by
  rw [List.pairwise_cons] at hp hd
  have hx := hb x List.mem_cons_self
  have e : x.f0 = s := by
   obtain ⟨y, hy, h1, h2⟩ := hc s (Int.le_refl _) (by omega)
   rcases List.mem_cons.1 hy with rfl | hy
   ·omega
   ·have := hp.1 y hy; omega
  unfold partsTo
  rw [if_pos ⟨e, by omega, hx.2.1⟩]
  refine parts_cover n r x.f1 (by omega) hx.2.2 (fun y hy => ?_) hp.2 hd.2 (fun i h1 h2 => ?_)
  ·have := hb y (List.mem_cons_of_mem _ hy)
   have := hd.1 y hy
   omega
  ·obtain ⟨y, hy, h3, h4⟩ := hc i (by omega) h2
   rcases List.mem_cons.1 hy with rfl | hy
   ·omega
   ·exact ⟨y, hy, h3, h4⟩
def hullS (r : Lab) (lo k v : Nat) : S33 := ⟨((hullL r lo v k).1 : Nat), ((hullL r lo v k).2 : Nat)⟩
theorem hull_of {r : Lab} {lo k v : Nat} (h : ∃ i, i < k ∧ r (lo + i) = v) : (hullL r lo v k).1 < (hullL r lo v k).2 ∧ (hullL r lo v k).2 ≤ k ∧ r (lo + (hullL r lo v k).1) = v ∧ r (lo + (hullL r lo v k).2 - 1) = v ∧ ∀ i, i < k → r (lo + i) = v → (hullL r lo v k).1 ≤ i ∧ i < (hullL r lo v k).2 := by
 obtain ⟨i, hi, e⟩ := h
 rcases hullL_is r lo v k with ⟨_, h2⟩ | h2
 ·exact absurd e (h2 i hi)
 ·exact h2
theorem hull_all {r : Lab} {lo k v : Nat} (hb : Between (fun x y => r x = r y) lo (lo + k)) (h : ∃ i, i < k ∧ r (lo + i) = v) (i : Nat) (h1 : (hullL r lo v k).1 ≤ i) (h2 : i < (hullL r lo v k).2) : r (lo + i) = v := by
 obtain ⟨g1, g2, g3, g4, g5⟩ := hull_of h
 have := hb (lo + (hullL r lo v k).1) (lo + i) (lo + (hullL r lo v k).2 - 1) (by omega) (by omega) (by omega) (by omega) (g3.trans g4.symm)
 exact this.symm.trans g3
def SideOk (d : List S33) (k : Nat) : Prop := (∀ x ∈ d, (0 : Int) ≤ x.f0 ∧ x.f0 < x.f1 ∧ x.f1 ≤ (k : Int)) ∧ d.Pairwise (fun a b => a.f1 ≤ b.f0 ∨ b.f1 ≤ a.f0) ∧ ∀ i : Int, 0 ≤ i → i < (k : Int) → ∃ x ∈ d, x.f0 ≤ i ∧ i < x.f1
theorem side_ok {r : Lab} {lo k : Nat} (hb : Between (fun x y => r x = r y) lo (lo + k)) (vs : List Nat) (hn : vs.Nodup) (hv : ∀ v ∈ vs, ∃ i, i < k ∧ r (lo + i) = v) (ha : ∀ i, i < k → r (lo + i) ∈ vs) :
 SideOk (vs.map (hullS r lo k)) k := by
 refine ⟨fun x hx => ?_, ?_, fun i h0 h1 => ?_⟩
 ·obtain ⟨v, hv', rfl⟩ := List.mem_map.1 hx
  obtain ⟨g1, g2, _⟩ := hull_of (hv v hv')
  unfold hullS
  dsimp only
  omega
 ·rw [List.pairwise_map]
  refine List.Pairwise.imp_of_mem (fun {v w} hv1 hw1 hne => ?_) hn
  obtain ⟨g1, g2, g3, _⟩ := hull_of (hv v hv1)
  obtain ⟨k1, k2, k3, _⟩ := hull_of (hv w hw1)
  unfold hullS
  dsimp only
  by_cases hc : (hullL r lo v k).2 ≤ (hullL r lo w k).1
  ·omega
  ·by_cases hc2 : (hullL r lo w k).2 ≤ (hullL r lo v k).1
   ·omega
   ·exfalso
    refine hne ?_
    exact (hull_all hb (hv v hv1) (max (hullL r lo v k).1 (hullL r lo w k).1) (by omega) (by omega)).symm.trans (hull_all hb (hv w hw1) (max (hullL r lo v k).1 (hullL r lo w k).1) (by omega) (by omega))
 ·have hi := ha i.toNat (by omega)
  refine ⟨_, List.mem_map.2 ⟨_, hi, rfl⟩, ?_⟩
  obtain ⟨_, _, _, _, g5⟩ := hull_of (hv _ hi)
  have := g5 i.toNat (by omega) rfl
  unfold hullS
  dsimp only
  omega
theorem firsts_order {r : Lab} {n : Nat} (k : Nat) (hk : k ≤ n) : (firsts r k).Pairwise (fun v w => (hullL r 0 v n).1 < (hullL r 0 w n).1) := by
 induction k with
 | zero => exact List.Pairwise.nil
 | succ k ih =>
  rw [firsts]
  split
  ·exact ih (by omega)
  ·rename_i h
   rw [List.pairwise_append]
   refine ⟨ih (by omega), List.pairwise_singleton _ _, fun v hv w hw => ?_⟩
   rw [List.mem_singleton] at hw
   subst hw
   obtain ⟨i, hi, e⟩ := (mem_firsts r k v).1 hv
   obtain ⟨_, _, _, _, g5⟩ := hull_of (r := r) (lo := 0) (k := n) (v := v) ⟨i, by omega, by rw [Nat.zero_add]; exact e⟩
   have h1 := (g5 i (by omega) (by rw [Nat.zero_add]; exact e)).1
   obtain ⟨_, _, k3, _, k5⟩ := hull_of (r := r) (lo := 0) (k := n) (v := r k) ⟨k, by omega, by rw [Nat.zero_add]⟩
   rw [Nat.zero_add] at k3
   have h2 : ¬ (hullL r 0 (r k) n).1 < k := fun hc => h ((mem_firsts r k (r k)).2 ⟨_, hc, k3⟩)
   omega
structure MapOk (n m : Nat) (r : Lab) : Prop where
 b1 : Between (fun x y => r x = r y) 0 n
 b2 : Between (fun x y => r x = r y) n (n + m)
 outs : ∀ j, j < n → ∃ i, i < m ∧ r (n + i) = r j
 ins : ∀ i, i < m → ∃ j, j < n ∧ r j = r (n + i)
theorem mapOk {n m : Nat} {l : List S45} {r : Lab} (h : FinOk n m (l.map lkOf) r) (hn : 0 < n) (hm : 0 < m) (hw : wrongR n m l = 0) : MapOk n m r := by
 have hcl := h.closed
 obtain ⟨hlk, hcov⟩ := wrong_ok hn hm hw
 have hf := first_lt hn hm hlk hcov
 exact ⟨fun i j k _ h1 h2 h3 h4 => hcl.conv1 i j k h1 h2 h3 h4, fun i j k h0 h1 h2 h3 h4 => hcl.conv2 i j k h0 h1 h2 h3 h4,
  fun j hj => outs_met hcl (lk_wf hlk).1 (lk_wf hlk).2.2 hf j hj,
  fun i hi => ins_met hcl (lk_wf hlk).2.1 (fun i hi => outB_met (fun x hx => (hlk x hx).c0) hcov i hi) i hi⟩
theorem cluS_is {n m : Nat} {r : Lab} (h : MapOk n m r) : cluS n m r n = (firsts r n).map fun v => (⟨hullS r 0 n v, hullS r n m v⟩ : S45) := by
 unfold cluS
 rw [cluTo_firsts h.b1 n (Nat.le_refl _), List.map_map]
 rfl
theorem ins_is {n m : Nat} {r : Lab} (h : MapOk n m r) : (cluS n m r n).map (·.f0) = (firsts r n).map (hullS r 0 n) := by
 rw [cluS_is h, List.map_map]; rfl
theorem outs_is {n m : Nat} {r : Lab} (h : MapOk n m r) : (cluS n m r n).map (·.f1) = (firsts r n).map (hullS r n m) := by
 rw [cluS_is h, List.map_map]; rfl
theorem ins_ok {n m : Nat} {r : Lab} (h : MapOk n m r) : SideOk ((firsts r n).map (hullS r 0 n)) n := side_ok (lo := 0) (k := n) (by rw [Nat.zero_add]; exact h.b1) (firsts r n) (firsts_nodup r n) (fun v hv => by obtain ⟨i, hi, e⟩ := (mem_firsts r n v).1 hv; exact ⟨i, hi, by rw [Nat.zero_add]; exact e⟩) (fun i hi => (mem_firsts r n _).2 ⟨i, hi, by rw [Nat.zero_add]⟩)
theorem outs_ok {n m : Nat} {r : Lab} (h : MapOk n m r) : SideOk ((firsts r n).map (hullS r n m)) m := side_ok (lo := n) (k := m) h.b2 (firsts r n) (firsts_nodup r n) (fun v hv => by obtain ⟨j, hj, e⟩ := (mem_firsts r n v).1 hv; obtain ⟨i, hi, e'⟩ := h.outs j hj; exact ⟨i, hi, e'.trans e⟩) (fun i hi => by obtain ⟨j, hj, e⟩ := h.ins i hi; exact (mem_firsts r n _).2 ⟨j, hj, e⟩)
theorem ins_sorted {n m : Nat} {r : Lab} (h : MapOk n m r) : (cluS n m r n).Pairwise (fun a b => a.f0.f0 < b.f0.f0) := by
 rw [cluS_is h, List.pairwise_map]
 refine List.Pairwise.imp (fun {a b} hab => ?_) (firsts_order (r := r) (n := n) n (Nat.le_refl _))
 show (((hullL r 0 a n).1 : Nat) : Int) < ((hullL r 0 b n).1 : Nat)
 omega
theorem ins_parts {n m : Nat} {r : Lab} (h : MapOk n m r) : partsTo n ((cluS n m r n).map (·.f0)) 0 = true := by
 obtain ⟨h1, h2, h3⟩ := ins_ok h
 refine parts_cover n _ 0 (Int.le_refl 0) (by omega) (by rw [ins_is h]; exact h1) ?_ (by rw [ins_is h]; exact h2) (by rw [ins_is h]; exact h3)
 rw [List.pairwise_map]
 exact List.Pairwise.imp (fun {a b} hab => by omega) (ins_sorted h)
theorem outs_parts {n m : Nat} {r : Lab} (h : MapOk n m r) (d : List S33) (hp : d.Perm ((cluS n m r n).map (·.f1))) (hs : d.Pairwise (fun a b => ¬ b.f0 < a.f0)) : partsTo m d 0 = true := by
 obtain ⟨h1, h2, h3⟩ := outs_ok h
 rw [outs_is h] at hp
 refine parts_cover m d 0 (Int.le_refl 0) (by omega) (fun x hx => h1 x (hp.mem_iff.1 hx)) hs ?_ (fun i h0 hi => ?_)
 ·exact (hp.pairwise_iff (R := fun a b : S33 => a.f1 ≤ b.f0 ∨ b.f1 ≤ a.f0) (fun {a b} hab => hab.symm)).2 h2
 ·obtain ⟨x, hx, h4⟩ := h3 i h0 hi
  exact ⟨x, hp.mem_iff.2 hx, h4⟩
theorem check_true {n m : Nat} {r : Lab} (h : MapOk n m r) (d : List S33) (hp : d.Perm ((cluS n m r n).map (·.f1))) (hs : d.Pairwise (fun a b => ¬ b.f0 < a.f0)) : checkB n m (cluS n m r n) d = true := by
 unfold checkB
 rw [ins_parts h, outs_parts h d hp hs]
 rfl
def within (c x : S45) : Bool := decide (c.f0.f0 ≤ x.f0.f0) && (decide (x.f0.f1 ≤ c.f0.f1) && (decide (c.f1.f0 ≤ x.f1.f0) && decide (x.f1.f1 ≤ c.f1.f1)))
theorem link_within {n m : Nat} {l : List S45} {r : Lab} (h : FinOk n m (l.map lkOf) r) (hn : 0 < n) (hm : 0 < m) (hw : wrongR n m l = 0) (x : S45) (hx : x ∈ l) : (cluS n m r n).any (fun c => within c x) = true := by
 have hM := mapOk h hn hm hw
 have hlk := (wrong_ok hn hm hw).1 x hx
 have a0 := hlk.a0; have ab := hlk.ab; have bn := hlk.bn; have c0 := hlk.c0; have cd := hlk.cd; have dm := hlk.dm
 have hmem : lkOf x ∈ l.map lkOf := List.mem_map.2 ⟨x, hx, rfl⟩
 have e1 : (lkOf x).a = x.f0.f0.toNat := rfl
 have e2 : (lkOf x).b = x.f0.f1.toNat := rfl
 have e3 : (lkOf x).c = x.f1.f0.toNat := rfl
 have e4 : (lkOf x).d = x.f1.f1.toNat := rfl
 have hi := h.closed.ins _ hmem
 have ho := h.closed.outs _ hmem
 have hb := h.closed.both _ hmem
 rw [e1, e2] at hi
 rw [e3, e4] at ho
 rw [e1, e3] at hb
 have hv : r x.f0.f0.toNat ∈ firsts r n := (mem_firsts r n _).2 ⟨_, by omega, rfl⟩
 rw [List.any_eq_true, cluS_is hM]
 refine ⟨_, List.mem_map.2 ⟨_, hv, rfl⟩, ?_⟩
 obtain ⟨_, _, _, _, g5⟩ := hull_of (r := r) (lo := 0) (k := n) (v := r x.f0.f0.toNat) ⟨x.f0.f0.toNat, by omega, by rw [Nat.zero_add]⟩
 have p1 := g5 x.f0.f0.toNat (by omega) (by rw [Nat.zero_add])
 have p2 := g5 (x.f0.f1.toNat - 1) (by omega) (by rw [Nat.zero_add]; exact (hi (x.f0.f1.toNat - 1) (by omega) (by omega)).symm)
 obtain ⟨_, _, _, _, k5⟩ := hull_of (r := r) (lo := n) (k := m) (v := r x.f0.f0.toNat) ⟨x.f1.f0.toNat, by omega, hb.symm⟩
 have q1 := k5 x.f1.f0.toNat (by omega) hb.symm
 have q2 := k5 (x.f1.f1.toNat - 1) (by omega) ((hb.trans (ho (x.f1.f1.toNat - 1) (by omega) (by omega))).symm)
 unfold within hullS
 simp only [Bool.and_eq_true, decide_eq_true_eq]
 refine ⟨by omega, by omega, by omega, by omega⟩
end Go.Proofs.Ytohhobcipfmkbaa.UWhole
namespace Go.Proofs.Ytohhobcipfmkbaa.UWhole
open Go.Proofs.Ytohhobcipfmkbaa.PClusterFinest Go.Proofs.Ytohhobcipfmkbaa.UFinest Go.Proofs.Ytohhobcipfmkbaa.UFinEv Go.Proofs.Ytohhobcipfmkbaa.CFin Go.Proofs.Ytohhobcipfmkbaa.CSort
def one (i : Nat) : S33 := ⟨(i : Int), (i : Int) + 1⟩
theorem mem_clu {n m : Nat} {r : Lab} (h : MapOk n m r) {z : S45} : z ∈ cluS n m r n ↔ ∃ j, j < n ∧ z = ⟨hullS r 0 n (r j), hullS r n m (r j)⟩ := by
 rw [cluS_is h, List.mem_map]
 constructor
 ·rintro ⟨v, hv, rfl⟩; obtain ⟨j, hj, rfl⟩ := (mem_firsts r n v).1 hv; exact ⟨j, hj, rfl⟩
 ·rintro ⟨j, hj, rfl⟩; exact ⟨r j, (mem_firsts r n _).2 ⟨j, hj, rfl⟩, rfl⟩
end Go.Proofs.Ytohhobcipfmkbaa.UWhole
end
section
namespace Go.Proofs.Ytohhobcipfmkbaa.UMap
open Go.Proofs.Ytohhobcipfmkbaa.PClusterFinest Go.Proofs.Ytohhobcipfmkbaa.UFinest Go.Proofs.Ytohhobcipfmkbaa.UGroups Go.Proofs.Ytohhobcipfmkbaa.UFinEv Go.Proofs.Ytohhobcipfmkbaa.Cel
open Go.Proofs.Ytohhobcipfmkbaa.CFin (cluS wrong_ok)
open Go.Proofs.Ytohhobcipfmkbaa.UWhole (mapOk cluS_is hullS hull_of link_within within mem_clu)
def Free (ls : List S45) (g : S33) : Prop := ∀ x ∈ ls, ∀ i : Int, g.f0 ≤ i → i < g.f1 → ¬ (x.f0.f0 ≤ i ∧ i < x.f0.f1)
structure Inv (N : Nat) (J : List S33) (lo : Nat) (ls : List S45) (e : Nat) : Prop where
 ok : ∀ x ∈ ls, 0 ≤ x.f0.f0 ∧ x.f0.f0 < x.f0.f1 ∧ x.f0.f1 ≤ (lo : Int) ∧ 0 ≤ x.f1.f0 ∧ x.f1.f0 < x.f1.f1 ∧ x.f1.f1 ≤ (e : Int)
 cover : ∀ i : Nat, i < e → ∃ x ∈ ls, x.f1.f0 ≤ (i : Int) ∧ (i : Int) < x.f1.f1
 joined : ∀ s ∈ J, OkS N s → s.f0 < (lo : Int) → ∃ g : S33, 0 ≤ g.f0 ∧ g.f0 ≤ s.f0 ∧ s.f1 ≤ g.f1 ∧ g.f1 ≤ (lo : Int) ∧ ((∃ x ∈ ls, x.f0 = g) ∨ Free ls g)
theorem inv_step {N : Nat} {J : List S33} {lo e t : Nat} {ls : List S45} (h : Inv N J lo ls e) (hlo : lo < t) (hclose : ∀ s ∈ J, OkS N s → s.f0 < (t : Int) → s.f1 ≤ (t : Int)) (d : Nat) :
 Inv N J t (if e < e + d then ls ++ [⟨⟨(lo : Int), (t : Int)⟩, ⟨(e : Int), ((e + d : Nat) : Int)⟩⟩] else ls) (e + d) := by
 obtain ⟨h1, h2, h3⟩ := h
 by_cases hd : e < e + d
 ·rw [if_pos hd]
  refine ⟨fun x hx => ?_, fun i hi => ?_, fun s hs ho hlt => ?_⟩
  ·rcases List.mem_append.1 hx with hx | hx
   ·have := h1 x hx; omega
   ·rw [List.mem_singleton] at hx; subst hx; dsimp only; omega
  ·by_cases hi2 : i < e
   ·obtain ⟨x, hx, k1, k2⟩ := h2 i hi2
    exact ⟨x, List.mem_append.2 (.inl hx), k1, k2⟩
   ·exact ⟨_, List.mem_append.2 (.inr (List.mem_singleton.2 rfl)), by dsimp only; omega, by dsimp only; omega⟩
  ·by_cases hs2 : s.f0 < (lo : Int)
   ·obtain ⟨g, g0, g1, g2, g3, hg⟩ := h3 s hs ho hs2
    refine ⟨g, g0, g1, g2, by omega, ?_⟩
    rcases hg with ⟨x, hx, ex⟩ | hg
    ·exact .inl ⟨x, List.mem_append.2 (.inl hx), ex⟩
    ·refine .inr fun x hx i k1 k2 => ?_
     rcases List.mem_append.1 hx with hx | hx
     ·exact hg x hx i k1 k2
     ·rw [List.mem_singleton] at hx; subst hx; dsimp only; omega
   ·exact ⟨⟨(lo : Int), (t : Int)⟩, by dsimp only; omega, by dsimp only; omega, hclose s hs ho hlt, Int.le_refl _, .inl ⟨_, List.mem_append.2 (.inr (List.mem_singleton.2 rfl)), rfl⟩⟩
 ·rw [if_neg hd]
  have e0 : d = 0 := by omega
  subst e0
  refine ⟨fun x hx => ?_, h2, fun s hs ho hlt => ?_⟩
  ·have := h1 x hx; omega
  ·by_cases hs2 : s.f0 < (lo : Int)
   ·obtain ⟨g, g0, g1, g2, g3, hg⟩ := h3 s hs ho hs2
    exact ⟨g, g0, g1, g2, by omega, hg⟩
   ·refine ⟨⟨(lo : Int), (t : Int)⟩, by dsimp only; omega, by dsimp only; omega, hclose s hs ho hlt, Int.le_refl _, .inr fun x hx i k1 k2 => ?_⟩
    dsimp only at k1 k2
    have := h1 x hx; omega
theorem inv_all (N : Nat) (J : List S33) (L : List (List Int)) (hL : L.length = N) : ∀ t, t ≤ N → Inv N J (grpTo N J t).2 (linksOf L (grpTo N J t).1).1 (linksOf L (grpTo N J t).1).2
 | 0, _ => ⟨(fun x hx => by simp [grpTo, linksOf] at hx), (fun i hi => by simp [grpTo, linksOf] at hi), (fun s _ hs h => by simp [grpTo] at h; have := hs.1; omega)⟩
 | t + 1, ht => by
  have ih := inv_all N J L hL t (by omega)
  have hlo := grp_lo N J t (by omega)
  rw [show grpTo N J (t + 1) = UGroups.stepG N J (t + 1) (grpTo N J t) from rfl]
  unfold UGroups.stepG
  by_cases hc : t + 1 = N ∨ acrossB N J (t + 1) = false
  ·rw [if_pos hc]
   dsimp only
   have hclose : ∀ s ∈ J, OkS N s → s.f0 < ((t + 1 : Nat) : Int) → s.f1 ≤ ((t + 1 : Nat) : Int) := by
    intro s hs ho h1
    rcases hc with h | h
    ·have := ho.2.2; omega
    ·rcases Int.lt_or_le ((t + 1 : Nat) : Int) s.f1 with h2 | h2
     ·have : acrossB N J (t + 1) = true := across_iff.2 ⟨s, hs, ho, h1, h2⟩
      rw [h] at this; cases this
     ·exact h2
   rw [show linksOf L ((grpTo N J t).1 ++ [⟨((grpTo N J t).2 : Int), ((t + 1 : Nat) : Int)⟩]) = linkStep L (linksOf L (grpTo N J t).1) ⟨((grpTo N J t).2 : Int), ((t + 1 : Nat) : Int)⟩ by unfold linksOf; rw [List.foldl_append]; rfl]
   exact inv_step ih (by omega) hclose _
  ·rw [if_neg hc]
   exact ih
theorem grp_end (N : Nat) (J : List S33) (hN : 0 < N) : (grpTo N J N).2 = N := by
 obtain ⟨t, rfl⟩ : ∃ t, N = t + 1 := ⟨N - 1, by omega⟩
 rw [show grpTo (t + 1) J (t + 1) = UGroups.stepG (t + 1) J (t + 1) (grpTo (t + 1) J t) from rfl]
 unfold UGroups.stepG
 rw [if_pos (.inl rfl)]
theorem inv_end {L : List (List Int)} {J : List S33} (hL : 0 < L.length) : Inv L.length J L.length (linksOf L (groups L.length J)).1 L.flatten.length := by
 have h := inv_all L.length J L rfl L.length (Nat.le_refl _)
 rw [grp_end _ _ hL] at h
 have e := groups_end J L
 unfold groups at e ⊢
 rw [e] at h
 exact h
theorem links_right {L : List (List Int)} {J : List S33} (hn : 0 < L.length) (hm : 0 < L.flatten.length) (hn2 : L.length ≤ 1000) (hm2 : L.flatten.length ≤ 1000) : wrongR (L.length : Nat) (L.flatten.length : Nat) (linksOf L (groups L.length J)).1 = 0 := by
 have hI := inv_end (J := J) hn
 unfold wrongR
 rw [if_neg (by omega), if_pos]
 ·unfold wrongIn
  rw [if_neg (by omega), if_neg (by omega), if_pos]
  rw [List.all_eq_true, Int.toNat_natCast]
  intro i hi
  obtain ⟨x, hx, h1, h2⟩ := hI.cover i (List.mem_range.1 hi)
  unfold outB
  rw [List.any_eq_true]
  exact ⟨x, hx, by simp only [Bool.and_eq_true, decide_eq_true_eq]; exact ⟨h1, h2⟩⟩
 ·rw [List.all_eq_true]
  intro x hx
  have h := hI.ok x hx
  unfold okB fitB
  simp only [Bool.and_eq_true, decide_eq_true_eq]
  omega
theorem links_none {L : List (List Int)} {J : List S33} (hm : L.flatten.length = 0) : (linksOf L (groups L.length J)).1 = [] := by
 rcases Nat.eq_zero_or_pos L.length with h0 | h0
 ·rw [h0]; rfl
 ·have hI := inv_end (J := J) h0
  cases h : (linksOf L (groups L.length J)).1 with
  | nil => rfl
  | cons x l =>
   have := hI.ok x (by rw [h]; exact List.mem_cons_self)
   omega
theorem wrong_empty (n : Nat) (hn : n ≤ 1000) : wrongR n (0 : Nat) [] = if 0 < n then 8 else 0 := by
 unfold wrongR
 rw [if_neg (by omega), if_pos (by rfl)]
 unfold wrongIn
 by_cases h : 0 < n
 ·rw [if_pos (by omega), if_pos h]
 ·rw [if_neg (by omega), if_neg (by omega), if_pos (by rfl), if_neg h]
def holds (s : S33) (c : S45) : Bool := decide (c.f0.f0 ≤ s.f0) && decide (s.f1 ≤ c.f0.f1)
theorem joined_within {L : List (List Int)} {J : List S33} {r : Lab} (h : FinOk L.length L.flatten.length ((linksOf L (groups L.length J)).1.map lkOf) r) (hn : 0 < L.length) (hm : 0 < L.flatten.length) (hn2 : L.length ≤ 1000) (hm2 : L.flatten.length ≤ 1000)
 {s : S33} (hs : s ∈ J) (ho : OkS L.length s) : (cluS L.length L.flatten.length r L.length).any (holds s) = true := by
 have hw := links_right (J := J) hn hm hn2 hm2
 have hI := inv_end (J := J) hn
 obtain ⟨g, g0, g1, g2, g3, hg⟩ := hI.joined s hs ho (by have := ho.2; omega)
 have ho1 := ho.1; have ho2 := ho.2.1
 rcases hg with ⟨x, hx, rfl⟩ | hg
 ·have hk := link_within h hn hm hw x hx
  rw [List.any_eq_true] at hk ⊢
  obtain ⟨c, hc, hk⟩ := hk
  refine ⟨c, hc, ?_⟩
  unfold within at hk
  simp only [Bool.and_eq_true, decide_eq_true_eq] at hk
  unfold holds
  simp only [Bool.and_eq_true, decide_eq_true_eq]
  omega
 ·have hst : ∀ i : Nat, g.f0 ≤ (i : Int) → (i : Int) < g.f1 → linkedB ((linksOf L (groups L.length J)).1.map lkOf) i = false := by
   intro i k1 k2
   unfold linkedB
   rw [List.any_eq_false]
   intro y hy
   obtain ⟨x, hx, rfl⟩ := List.mem_map.1 hy
   have := hg x hx i k1 k2
   have hok := hI.ok x hx
   have e1 : (lkOf x).a = x.f0.f0.toNat := rfl
   have e2 : (lkOf x).b = x.f0.f1.toNat := rfl
   simp only [Bool.and_eq_true, decide_eq_true_eq]
   omega
  have hsame : ∀ d : Nat, g.f0 + (d : Int) < g.f1 → r (g.f0.toNat + d) = r g.f0.toNat := by
   intro d
   induction d with
   | zero => intro _; rfl
   | succ d ih =>
    intro hd
    have k := h.closed.stray (g.f0.toNat + (d + 1)) (by omega) (by omega) (hst _ (by omega) (by omega))
    rw [show g.f0.toNat + (d + 1) - 1 = g.f0.toNat + d by omega] at k
    exact k.symm.trans (ih (by omega))
  have hM := mapOk h hn hm hw
  rw [List.any_eq_true]
  refine ⟨_, (mem_clu hM).2 ⟨g.f0.toNat, by omega, rfl⟩, ?_⟩
  obtain ⟨_, _, _, _, g5⟩ := hull_of (r := r) (lo := 0) (k := L.length) (v := r g.f0.toNat) ⟨g.f0.toNat, by omega, by rw [Nat.zero_add]⟩
  have p1 := g5 g.f0.toNat (by omega) (by rw [Nat.zero_add])
  have p2 := g5 (g.f0.toNat + (g.f1 - g.f0 - 1).toNat) (by omega) (by rw [Nat.zero_add]; exact hsame _ (by omega))
  unfold holds hullS
  simp only [Bool.and_eq_true, decide_eq_true_eq]
  omega
end Go.Proofs.Ytohhobcipfmkbaa.UMap
end
section
namespace Go.Proofs.Ytohhobcipfmkbaa.Cel
open Go.RowKit Go.Proofs.YtohhobcipfmkbaaW.PrintWords Go.Proofs.YtohhobcipfmkbaaW.PrintMore Go.Proofs.YtohhobcipfmkbaaW.PrintLast Go.Proofs.Ytohhobcipfmkbaa.U Go.Proofs.Ytohhobcipfmkbaa.PClusterFinest Go.Proofs.Ytohhobcipfmkbaa.UFinest Go.Proofs.Ytohhobcipfmkbaa.UGroups Go.Proofs.Ytohhobcipfmkbaa.UFinEv Go.Proofs.Ytohhobcipfmkbaa.UMap
open Go.Proofs.Ytohhobcipfmkbaa.CFin (finest_c finest_bad cluS cluS_len wrong_ok)
variable {w W W2 : World} {F G : Nat → Prop} {base b N i : Nat} {u : Value} {L : List (List Int)} {J p : List S33}
def St (F : Nat → Prop) (base : Nat) (w : World) (b N i : Nat) (u : Value) (p : List S33) : Prop :=
 ∃ L J D, (∀ k, D k → ¬ F k ∧ k < w.heap.size ∧ some k ≠ u.ownBlock) ∧ CellsAt 51 w D b L (J ++ p) ∧ Few N i L (J ++ p) ∧ (∀ s ∈ J ++ p, OkS N s) ∧ Kd.R k33 33 w base (fun _ => True) u J
theorem St.kept {S : Nat → Prop} (h : St F base w b N i u p) (hk : Kept w W S) (hS : ∀ k, S k → F k ∨ w.heap.size ≤ k) (hu : ∀ k, S k → some k ≠ u.ownBlock) : St F base W b N i u p := by
 obtain ⟨L, J, D, h1, h2, h3, h4, h5⟩ := h
 exact ⟨L, J, D, fun k hd => ⟨(h1 k hd).1, Nat.lt_of_lt_of_le (h1 k hd).2.1 hk.1, (h1 k hd).2.2⟩, h2.kept hk (fun k hd hs => (hS k hs).elim (h1 k hd).1 (fun h => Nat.not_lt.2 h (h1 k hd).2.1)), h3, h4,
  Kd.R_mono (Kd.R_kept (Kd.R_tight rfl h5) hk (fun q hq hs => hu q hs hq)) (fun _ _ => trivial)⟩
theorem St.below (h : St F base w b N i u p) (hb : Below w.heap.size w W) : St F base W b N i u p := h.kept (S := fun _ => False) (Kept.of_below hb _) (fun _ h => h.elim) (fun _ h => h.elim)
theorem St.mono (h : St F base w b N i u p) (hs : ∀ k, G k → F k) : St G base w b N i u p := by
 obtain ⟨L, J, D, h1, h2, h3, h4, h5⟩ := h
 exact ⟨L, J, D, fun k hd => ⟨fun hg => (h1 k hd).1 (hs k hg), (h1 k hd).2⟩, h2, h3, h4, h5⟩
theorem St.grow (h : St F base w b N i u p) (hb : Below w.heap.size w W) : St (fun q => F q ∨ (w.heap.size ≤ q ∧ q < W.heap.size)) base W b N i u p := by
 obtain ⟨L, J, D, h1, h2, h3, h4, h5⟩ := h
 exact ⟨L, J, D, fun k hd => ⟨fun hg => hg.elim (h1 k hd).1 (fun h => Nat.not_lt.2 h.1 (h1 k hd).2.1), Nat.lt_of_lt_of_le (h1 k hd).2.1 hb.size, (h1 k hd).2.2⟩, h2.below hb, h3, h4, Kd.R_below h5 hb⟩
theorem step_ {D : Nat → Prop} (hF : ∀ k, F k → k < w.heap.size) (hD : ∀ k, D k → ¬ F k ∧ k < w.heap.size ∧ some k ≠ u.ownBlock) {L' : List (List Int)} {J' Jl : List S33} (h5 : Kd.R k33 33 w base (fun _ => True) u Jl) (k1 : CellsAt 51 W (fun q => D q ∨ w.heap.size ≤ q) b L' J') (e1 : Eff w W D) :
 ∃ D', (∀ k, D' k → ¬ F k ∧ k < W.heap.size ∧ some k ≠ u.ownBlock) ∧ CellsAt 51 W D' b L' J' ∧ Kd.R k33 33 W base (fun _ => True) u Jl := by
 refine ⟨_, fun k hk => ⟨?_, hk.2, ?_⟩, k1.bound, Kd.R_mono (Kd.R_kept (Kd.R_tight rfl h5) e1.kept (fun q hq hs => (hD q hs).2.2 hq)) (fun _ _ => trivial)⟩
 ·exact hk.1.elim (fun h => (hD k h).1) (fun h hf => Nat.not_lt.2 h (hF k hf))
 ·exact hk.1.elim (fun h => (hD k h).2.2) (fun h e => Nat.not_lt.2 h (Kd.R_lt h5 k e.symm))
theorem set_one (hF : ∀ k, F k → k < w.heap.size) (h : St F base w b N i u []) (hi : i ≤ 1000) (hN : N ≤ 1000) (at_ : Int) {v : Value} {x : List Int} (hx : SL w v x) (hx4 : x.length ≤ 4) :
 Calls Try.prog 24 #[ptr b, .int .i64 at_, v] w fun e W => ∃ r, e = .returned (.int .i64 r) ∧ St F base W b N (i + 1) u [] ∧ Eff w W (fun k => ¬ F k) := by
 obtain ⟨L, J, D, h1, h2, h3, h4, h5⟩ := h
 rw [List.append_nil] at h2 h3 h4
 by_cases hat : 0 ≤ at_ ∧ at_ < (L.length : Int)
 ·obtain ⟨k, rfl⟩ : ∃ k : Nat, at_ = (k : Int) := ⟨at_.toNat, by omega⟩
  have hk : k < L.length := by omega
  refine (set_c h2 k hk hx (by omega)).mono ?_
  rintro e W ⟨rfl, k1, e1⟩
  obtain ⟨D', g1, g2, g3⟩ := step_ hF h1 h5 k1 e1
  exact ⟨0, rfl, ⟨_, J, D', g1, by rw [List.append_nil]; exact g2, by rw [List.append_nil]; exact h3.set hk (by omega), by rw [List.append_nil]; exact h4, g3⟩, e1.mono (fun k hk => (h1 k hk).1)⟩
 ·refine (set_bad h2 at_ hat v).mono ?_
  rintro e W ⟨rfl, hb0⟩
  exact ⟨1, rfl, St.below ⟨L, J, D, h1, by rw [List.append_nil]; exact h2, by rw [List.append_nil]; exact h3.mono, by rw [List.append_nil]; exact h4, h5⟩ hb0, Eff.of_below hb0 _⟩
theorem ahead_one (hF : ∀ k, F k → k < w.heap.size) (h : St F base w b N i u []) (hi : i ≤ 1000) (hN : N ≤ 1000) {v : Value} {x : List Int} (hx : SL w v x) (hx4 : x.length ≤ 4) :
 Calls Try.prog 25 #[ptr b, v] w fun e W => ∃ r, e = .returned (.int .i64 r) ∧ St F base W b N (i + 1) u [] ∧ Eff w W (fun k => ¬ F k) := by
 obtain ⟨L, J, D, h1, h2, h3, h4, h5⟩ := h
 rw [List.append_nil] at h2 h3 h4
 by_cases hl : 0 < L.length
 ·have hr := h3.row hl
  refine (ahead_c h2 hl (by have := h3.1; omega) hx (by omega)).mono ?_
  rintro e W ⟨rfl, k1, e1⟩
  obtain ⟨D', g1, g2, g3⟩ := step_ hF h1 h5 k1 e1
  exact ⟨0, rfl, ⟨_, J, D', g1, by rw [List.append_nil]; exact g2, by rw [List.append_nil]; exact h3.set hl (by rw [List.length_append]; omega), by rw [List.append_nil]; exact h4, g3⟩, e1.mono (fun k hk => (h1 k hk).1)⟩
 ·obtain rfl : L = [] := List.eq_nil_of_length_eq_zero (by omega)
  refine (ahead_bad h2 v).mono ?_
  rintro e W ⟨rfl, hb0⟩
  exact ⟨1, rfl, St.below ⟨[], J, D, h1, by rw [List.append_nil]; exact h2, by rw [List.append_nil]; exact h3.mono, by rw [List.append_nil]; exact h4, h5⟩ hb0, Eff.of_below hb0 _⟩
theorem join_no (h : St F base w b N i u []) (lo hi : Int) (hno : ¬ OkS N ⟨lo, hi⟩) :
 Calls Try.prog 27 #[ptr b, .agg #[.int .i64 lo, .int .i64 hi]] w fun e W => e = .returned (.int .i64 1) ∧ St F base W b N (i + 1) u [] ∧ Eff w W (fun k => ¬ F k) := by
 obtain ⟨L, J, D, h1, h2, h3, h4, h5⟩ := h
 rw [List.append_nil] at h2 h3 h4
 refine (join_bad h2 lo hi (by rw [h3.1]; exact hno)).mono ?_
 rintro e W ⟨rfl, hb0⟩
 exact ⟨rfl, St.below ⟨L, J, D, h1, by rw [List.append_nil]; exact h2, by rw [List.append_nil]; exact h3.mono, by rw [List.append_nil]; exact h4, h5⟩ hb0, Eff.of_below hb0 _⟩
theorem join_yes (hF : ∀ k, F k → k < w.heap.size) (h : St F base w b N i u []) (hi' : i ≤ 1000) (lo hi : Int) (hok : OkS N ⟨lo, hi⟩) :
 Calls Try.prog 27 #[ptr b, .agg #[.int .i64 lo, .int .i64 hi]] w fun e W => e = .returned (.int .i64 0) ∧ St F base W b N (i + 1) u [⟨lo, hi⟩] ∧ Eff w W (fun k => ¬ F k) := by
 obtain ⟨L, J, D, h1, h2, h3, h4, h5⟩ := h
 rw [List.append_nil] at h2 h3 h4
 refine (join_c h2 (by have := h3.2.2; omega) lo hi hok.1 hok.2.1 (by rw [h3.1]; exact hok.2.2)).mono ?_
 rintro e W ⟨rfl, k1, e1⟩
 obtain ⟨D', g1, g2, g3⟩ := step_ hF h1 h5 k1 e1
 exact ⟨rfl, ⟨L, J, D', g1, g2, h3.join _, (fun s hs => (List.mem_append.1 hs).elim (h4 s) (fun h => by rw [List.mem_singleton.1 h]; exact hok)), g3⟩, e1.mono (fun k hk => (h1 k hk).1)⟩
theorem St.put {D : Nat → Prop} {s : S33} {u' : Value} (h1 : ∀ k, D k → ¬ F k ∧ k < w.heap.size ∧ some k ≠ u.ownBlock) (h2 : CellsAt 51 w D b L (J ++ [s])) (h3 : Few N i L (J ++ [s])) (h4 : ∀ t ∈ J ++ [s], OkS N t) (h5 : Kd.R k33 33 W base (fun _ => True) u' (J ++ [s]))
 (hg : w.grownBy W u.ownBlock) (hat : u'.ownBlock = u.ownBlock ∨ ∃ c, u'.ownBlock = some c ∧ w.heap.size ≤ c) : St F base W b N i u' [] := by
 refine ⟨L, J ++ [s], D, fun k hd => ⟨(h1 k hd).1, Nat.lt_of_lt_of_le (h1 k hd).2.1 hg.size, ?_⟩, ?_, by rw [List.append_nil]; exact h3, by rw [List.append_nil]; exact h4, h5⟩
 ·rcases hat with e | ⟨c, e, hc⟩
  ·rw [e]; exact (h1 k hd).2.2
  ·rw [e]; intro e2; obtain rfl := Option.some.inj e2; exact Nat.not_lt.2 hc (h1 k hd).2.1
 ·rw [List.append_nil]
  exact h2.kept (Kept.of_grown hg (Kept.refl w (fun k => some k = u.ownBlock)) (fun k e => .inl e.symm)) (fun k hd hs => (h1 k hd).2.2 hs)
theorem clu_one {D : Nat → Prop} (hD : CellsAt 51 w D b L J) (hn : L.length ≤ 40) (hJ : J.length ≤ 1000) (hF : L.flatten.length ≤ 200) :
 Calls Try.prog 21 #[ptr b] w fun e W => ∃ v r, e = .returned (.tuple #[v, .int .i64 r]) ∧ Below w.heap.size w W ∧ ((L.flatten.length = 0 ∧ r = (if 0 < L.length then 8 else 0)) ∨ (0 < L.flatten.length ∧ 0 < L.length ∧ r = 0 ∧ ∃ A, FinOk L.length L.flatten.length ((linksOf L (groups L.length J)).1.map lkOf) A ∧ SLk k45 W v (cluS L.length L.flatten.length A L.length))) := by
 have hend := Cel.groups_end J L
 have hlen : (linksOf L (groups L.length J)).1.length ≤ 40 := by
  have h1 := (linksOf_le L (groups L.length J) (groups L.length J).length (Nat.le_refl _)).2
  rw [List.take_length] at h1
  have h2 : (groups L.length J).length ≤ L.length := grp_len L.length J L.length
  omega
 rcases Nat.eq_zero_or_pos L.flatten.length with e0 | e0
 ·have hl := links_none (J := J) e0
  have hz : ((0 : Nat) : Int) = 0 := rfl
  have hbad : wrongR (L.length : Int) (L.flatten.length : Int) [] ≠ 0 ∨ (L.length : Int) = 0 := by
   rw [e0, wrong_empty _ (by omega)]
   by_cases h : 0 < L.length
   ·rw [if_pos h]; exact .inl (by decide)
   ·exact .inr (by omega)
  refine (clusters_c hD (by omega) (by omega) (by omega) (fun u r _ => r = (if 0 < L.length then 8 else 0)) (fun w1 u hs hb => by rw [hend]; rw [hl] at hs; exact (finest_bad _ _ hs (by simp) hbad).mono (by rintro e w' ⟨rfl, hb⟩; exact ⟨_, _, rfl, by rw [e0, wrong_empty _ (by omega)], hb⟩))).mono ?_
  rintro e W ⟨u, r, rfl, hr, hb⟩
  exact ⟨u, r, rfl, hb, .inl ⟨e0, hr⟩⟩
 ·have hN0 : 0 < L.length := by
   rcases Nat.eq_zero_or_pos L.length with h | h
   ·rw [List.eq_nil_of_length_eq_zero h] at e0; exact absurd e0 (Nat.lt_irrefl 0)
   ·exact h
  have hw := links_right (J := J) hN0 e0 (by omega) (by omega)
  refine (clusters_c hD (by omega) (by omega) (by omega) (fun u r w' => r = 0 ∧ ∃ A, FinOk L.length L.flatten.length ((linksOf L (groups L.length J)).1.map lkOf) A ∧ SLk k45 w' u (cluS L.length L.flatten.length A L.length)) (fun w1 u hs hb => by rw [hend]; exact (finest_c L.length L.flatten.length hs (by omega) hN0 e0 (by omega) hw).mono (by rintro e w' ⟨u, A, rfl, hf, hR, hb⟩; exact ⟨_, _, rfl, ⟨rfl, A, hf, SLk.of_R hR⟩, hb⟩))).mono ?_
  rintro e W ⟨u, r, rfl, ⟨hr, A, hf, hs⟩, hb⟩
  exact ⟨u, r, rfl, hb, .inr ⟨e0, hN0, hr, A, hf, hs⟩⟩
end Go.Proofs.Ytohhobcipfmkbaa.Cel
end
section
namespace Go.Proofs.Ytohhobcipfmkbaa.Cel
open Go.RowKit Go.Proofs.YtohhobcipfmkbaaW.PrintWords Go.Proofs.YtohhobcipfmkbaaW.PrintMore Go.Proofs.YtohhobcipfmkbaaW.PrintLast Go.Proofs.Ytohhobcipfmkbaa.U Go.Proofs.Ytohhobcipfmkbaa.PClusterFinest Go.Proofs.Ytohhobcipfmkbaa.UFinest Go.Proofs.Ytohhobcipfmkbaa.UGroups Go.Proofs.Ytohhobcipfmkbaa.UFinEv Go.Proofs.Ytohhobcipfmkbaa.UMap
set_option maxRecDepth 100000 in
set_option maxHeartbeats 8000000 in
theorem held_c {w : World} {gs : Nat} {lo hi : Int} (x : S45) (h : w.heap[gs]? = some (.cells #[.int .i64 lo, .int .i64 hi] 33 (0, 0))) : Calls Try.prog 41 #[.agg #[.int .i64 x.f0.f0, .int .i64 x.f0.f1, .int .i64 x.f1.f0, .int .i64 x.f1.f1], .pointer (some ⟨gs, 0, none⟩)] w fun e w' => e = .returned (.bool (holds ⟨lo, hi⟩ x)) ∧ Below w.heap.size w w' := by
 obtain ⟨⟨a, b⟩, ⟨c, d⟩⟩ := x
 unfold holds
 dsimp only
 have HH := Aside0.mk h; clear h
 go_enter Try.func41, Try.ntmps41
 by_cases h1 : a ≤ lo
 ·by_cases h2 : hi ≤ b
  ·go_wp2_with ((with_reducible refine gate_dst (N := 2) rfl ?_); refine box_event ?hg (N := 2) ?hd (cs := #[.int .i64 a, .int .i64 b, .int .i64 c, .int .i64 d]) (t := 45) ?hr ?_; (case hd => rfl); (case hg => rfl); (case hr => first | (go_simp; done) | (go_simp; rfl)); intro gb hg w1 hbox hb; have HB := Aside0.mk hb; have x0 := (blk_cell hbox 0).trans rfl; have x1 := (blk_cell hbox 1).trans rfl; have c0 := (blk_cell ((hb.block _ (blk_lt HH.out)).trans HH.out) 0).trans rfl; have c1 := (blk_cell ((hb.block _ (blk_lt HH.out)).trans HH.out) 1).trans rfl; clear hg hbox hb)
   go_ret
   exact ⟨by simp [h1, h2], HB.out⟩
  ·go_wp2_with ((with_reducible refine gate_dst (N := 2) rfl ?_); refine box_event ?hg (N := 2) ?hd (cs := #[.int .i64 a, .int .i64 b, .int .i64 c, .int .i64 d]) (t := 45) ?hr ?_; (case hd => rfl); (case hg => rfl); (case hr => first | (go_simp; done) | (go_simp; rfl)); intro gb hg w1 hbox hb; have HB := Aside0.mk hb; have x0 := (blk_cell hbox 0).trans rfl; have x1 := (blk_cell hbox 1).trans rfl; have c0 := (blk_cell ((hb.block _ (blk_lt HH.out)).trans HH.out) 0).trans rfl; have c1 := (blk_cell ((hb.block _ (blk_lt HH.out)).trans HH.out) 1).trans rfl; clear hg hbox hb)
   go_ret
   exact ⟨by simp [h2], HB.out⟩
 ·go_wp2_with ((with_reducible refine gate_dst (N := 2) rfl ?_); refine box_event ?hg (N := 2) ?hd (cs := #[.int .i64 a, .int .i64 b, .int .i64 c, .int .i64 d]) (t := 45) ?hr ?_; (case hd => rfl); (case hg => rfl); (case hr => first | (go_simp; done) | (go_simp; rfl)); intro gb hg w1 hbox hb; have HB := Aside0.mk hb; have x0 := (blk_cell hbox 0).trans rfl; have x1 := (blk_cell hbox 1).trans rfl; have c0 := (blk_cell ((hb.block _ (blk_lt HH.out)).trans HH.out) 0).trans rfl; have c1 := (blk_cell ((hb.block _ (blk_lt HH.out)).trans HH.out) 1).trans rfl; clear hg hbox hb)
  go_ret
  have h3 : ¬ a ≤ lo := by omega
  exact ⟨by simp [h3], HB.out⟩
set_option maxRecDepth 100000 in
set_option maxHeartbeats 8000000 in
theorem index_c {w : World} {u : Value} {l : List S45} (h : SLk k45 w u l) (hl : l.length ≤ 1000000) {gs : Nat} {lo hi' : Int} (hb : w.heap[gs]? = some (.cells #[.int .i64 lo, .int .i64 hi'] 33 (0, 0))) : Calls Try.prog 75 #[u, .func (.func 41) #[] #[.pointer (some ⟨gs, 0, none⟩)]] w fun e w' => ∃ i : Int, e = .returned (.int .i64 i) ∧ (l.any (holds ⟨lo, hi'⟩) = true → 0 ≤ i) ∧ Below w.heap.size w w' := by
 have HH := Aside0.mk hb
 have HL := Aside0.mk hl
 obtain ⟨A, c, rfl, hc, hC⟩ := h
 have HC := Aside0.mk hC
 clear hb hl hc hC
 go_enter Try.func75, Try.ntmps75
 go_upto_region 2 with (fail)
 go_loopw [8] (fun v wr => ∃ i : Nat, v = .int .i64 i ∧ i ≤ l.length ∧ Aside0 ((l.take i).any (holds ⟨lo, hi'⟩) = false) ∧ Aside0 (Below w.heap.size w wr)) (fun v _ => l.length - (intOf v).toNat)
 case atStart => exact ⟨0, rfl, Nat.zero_le _, ⟨rfl⟩, ⟨Below.refl _ _⟩⟩
 case round =>
  obtain ⟨i, rfl, hi, HT, HB⟩ := hrel
  by_cases hli : i < l.length
  ·have hiI : (i : Int) < (l.length : Int) := by omega
   obtain ⟨ad, ead, c0, c1, c2, c3⟩ := at_T45 (Kd.C_below HC.out HB.out) (i : Int) (by omega) (by omega)
   rw [UFinEv.rd45 hli, Int.toNat_natCast] at c0 c1 c2 c3
   subst ead
   obtain ⟨x, hx⟩ : ∃ x, x = l[i] := ⟨_, rfl⟩
   rw [← hx] at c0 c1 c2 c3
   have HI := Aside0.mk hli
   have hi0 : 0 ≤ (i : Int) := by omega
   have HT2 : Aside0 (holds ⟨lo, hi'⟩ x = false → (l.take (i + 1)).any (holds ⟨lo, hi'⟩) = false) := ⟨fun hv => by
    rw [List.take_succ_eq_append_getElem hli, List.any_append, HT.out, ← hx, List.any_cons, hv]; rfl⟩
   clear hx hli hi HT
   cases hv : holds ⟨lo, hi'⟩ x with
   | true =>
    have HV := Aside0.mk hv
    clear hv HT2
    go_wp2_with (first | (refine (held_c x ((HB.out.block _ (blk_lt HH.out)).trans HH.out)).mono ?_; rintro e w2 ⟨rfl, hb⟩; rw [HV.out]; have HB2 : Aside0 (Below w.heap.size w w2) := ⟨below_step HB.out hb⟩; clear hb))
    go_ret
    exact ⟨_, rfl, fun _ => by omega, HB2.out⟩
   | false =>
    have HV := Aside0.mk hv
    have HT3 := Aside0.mk (HT2.out hv)
    clear hv HT2
    go_wp2_with (first | (refine (held_c x ((HB.out.block _ (blk_lt HH.out)).trans HH.out)).mono ?_; rintro e w2 ⟨rfl, hb⟩; rw [HV.out]; have HB2 : Aside0 (Below w.heap.size w w2) := ⟨below_step HB.out hb⟩; clear hb))
    have hw : wrap64 ((i : Int) + 1) = (i : Int) + 1 := w64 (by omega) (by have := HL.out; have := HI.out; omega)
    exact ⟨⟨i + 1, by rw [hw]; rfl, by have := HI.out; omega, HT3, HB2⟩, by have := HI.out; rw [hw]; simp [intOf]; omega⟩
  ·obtain rfl : i = l.length := by omega
   clear hli
   go_wp2
   go_ret
   rw [List.take_length] at HT
   exact ⟨_, rfl, (fun h => by rw [HT.out] at h; cases h), HB.out⟩
set_option maxRecDepth 100000 in
set_option maxHeartbeats 8000000 in
theorem contains_c {w : World} {u : Value} {l : List S45} (h : SLk k45 w u l) (hl : l.length ≤ 1000000) {gs : Nat} {lo hi' : Int} (hb : w.heap[gs]? = some (.cells #[.int .i64 lo, .int .i64 hi'] 33 (0, 0))) (ha : l.any (holds ⟨lo, hi'⟩) = true) : Calls Try.prog 40 #[u, .func (.func 41) #[] #[.pointer (some ⟨gs, 0, none⟩)]] w fun e w' => e = .returned (.bool true) ∧ Below w.heap.size w w' := by
 have HH := Aside0.mk hb
 have HL := Aside0.mk hl
 have HA := Aside0.mk ha
 have HS := Aside0.mk h
 clear hb hl ha h
 go_enter Try.func40, Try.ntmps40
 go_wp2_with (go_at_call 75; refine (index_c HS.out HL.out HH.out).mono ?_; rintro e w2 ⟨i, rfl, hi, hb⟩; have h0 := hi HA.out; have HB := Aside0.mk hb; clear hb hi)
 go_ret
 exact ⟨rfl, HB.out⟩
end Go.Proofs.Ytohhobcipfmkbaa.Cel
end
section
namespace Go.Proofs.Ytohhobcipfmkbaa.UStable
open Go.Sort
variable {α : Type} [Inhabited α]
def swapRange (a b : Nat) : Nat → Array α → Array α
 | 0, d => d
 | k + 1, d => swp (swapRange a b k d) (a + k) (b + k)
theorem swapRange_size (a b k : Nat) (d : Array α) : (swapRange a b k d).size = d.size := by
 induction k with
 | zero => rfl
 | succ k ih => rw [swapRange, size_swp, ih]
theorem at_eq (d : Array α) {x y : Nat} (h : x = y) : d[x]! = d[y]! := by rw [h]
theorem swapRange_get (a b k : Nat) (d : Array α) (h1 : a + k ≤ b) (h2 : b + k ≤ d.size) (x : Nat) :
 (swapRange a b k d)[x]! = if a ≤ x ∧ x < a + k then d[x + b - a]! else if b ≤ x ∧ x < b + k then d[x + a - b]! else d[x]! := by
 induction k generalizing x with
 | zero =>
  rw [swapRange, if_neg (by omega), if_neg (by omega)]
 | succ k ih =>
  have ih := ih (by omega) (by omega)
  rw [swapRange, swp_get _ (by rw [swapRange_size]; omega) (by rw [swapRange_size]; omega)]
  by_cases e1 : x = b + k
  ·subst e1
   rw [if_pos rfl, ih, if_neg (by omega), if_neg (by omega), if_neg (by omega), if_pos (by omega)]
   exact at_eq _ (by omega)
  ·rw [if_neg e1]
   by_cases e2 : x = a + k
   ·subst e2
    rw [if_pos rfl, ih, if_neg (by omega), if_neg (by omega), if_pos (by omega)]
    exact at_eq _ (by omega)
   ·rw [if_neg e2, ih]
    by_cases c1 : a ≤ x ∧ x < a + k
    ·rw [if_pos c1, if_pos (by omega)]
    ·rw [if_neg c1]
     by_cases c2 : b ≤ x ∧ x < b + k
     ·rw [if_pos c2, if_neg (by omega), if_pos (by omega)]
     ·rw [if_neg c2, if_neg (by omega), if_neg (by omega)]
theorem swapRange_perm (lo hi a b k : Nat) (d : Array α) (h0 : lo ≤ a) (h1 : a + k ≤ b) (h3 : b + k ≤ hi) (h2 : hi ≤ d.size) : PermIn lo hi d (swapRange a b k d) := by
 induction k with
 | zero => exact permIn_refl _ _ _
 | succ k ih => exact permIn_trans _ _ _ _ _ (ih (by omega) (by omega)) (swp_permIn _ _ _ _ _ (by omega) (by omega) (by omega) (by omega) (by rw [swapRange_size]; exact h2))
def rotLoop (m : Nat) : Nat → Nat → Nat → Array α → Array α
 | 0, _, _, d => d
 | f + 1, i, j, d => if i = j then swapRange (m - i) m i d else if j < i then rotLoop m f (i - j) j (swapRange (m - i) m j d) else rotLoop m f i (j - i) (swapRange (m - i) (m + j - i) i d)
def rotate (a m b : Nat) (d : Array α) : Array α := rotLoop m (m - a + (b - m)) (m - a) (b - m) d
structure IsRot (lo mid hi : Nat) (d d' : Array α) : Prop where
 perm : PermIn lo hi d d'
 get : ∀ x, d'[x]! = if lo ≤ x ∧ x < lo + (hi - mid) then d[x + (mid - lo)]! else if lo + (hi - mid) ≤ x ∧ x < hi then d[x - (hi - mid)]! else d[x]!
theorem rotLoop_is (m : Nat) (f : Nat) : ∀ (i j : Nat) (d : Array α), 0 < i → 0 < j → i ≤ m → m + j ≤ d.size → i + j ≤ f → IsRot (m - i) m (m + j) d (rotLoop m f i j d) := by
 induction f with
 | zero => intro i j d h1 h2 h3 h4 h5; omega
 | succ f ih =>
  intro i j d h1 h2 h3 h4 h5
  unfold rotLoop
  by_cases e : i = j
  ·subst e
   rw [if_pos rfl]
   refine ⟨swapRange_perm _ _ _ _ _ _ (Nat.le_refl _) (by omega) (Nat.le_refl _) h4, fun x => ?_⟩
   rw [swapRange_get _ _ _ _ (by omega) h4]
   by_cases c1 : m - i ≤ x ∧ x < m - i + i
   ·rw [if_pos c1, if_pos (by omega)]; exact at_eq _ (by omega)
   ·rw [if_neg c1]
    by_cases c2 : m ≤ x ∧ x < m + i
    ·rw [if_pos c2, if_neg (by omega), if_pos (by omega)]; exact at_eq _ (by omega)
    ·rw [if_neg c2, if_neg (by omega), if_neg (by omega)]
  ·rw [if_neg e]
   by_cases e2 : j < i
   ·rw [if_pos e2]
    have hs := swapRange_size (m - i) m j d
    have h := ih (i - j) j (swapRange (m - i) m j d) (by omega) h2 (by omega) (by rw [hs]; exact h4) (by omega)
    refine ⟨permIn_trans _ _ _ _ _ (swapRange_perm _ _ _ _ _ _ (Nat.le_refl _) (by omega) (Nat.le_refl _) h4) (permIn_mono _ _ _ _ _ _ (by omega) (Nat.le_refl _) (by rw [hs]; exact h4) h.perm), fun x => ?_⟩
    have hg := swapRange_get (m - i) m j d (by omega) (by omega)
    rw [h.get]
    by_cases c1 : m - (i - j) ≤ x ∧ x < m - (i - j) + (m + j - m)
    ·rw [if_pos c1, hg, if_neg (by omega), if_pos (by omega), if_neg (by omega), if_pos (by omega)]; exact at_eq _ (by omega)
    ·rw [if_neg c1]
     by_cases c2 : m - (i - j) + (m + j - m) ≤ x ∧ x < m + j
     ·rw [if_pos c2, hg, if_neg (by omega), if_neg (by omega), if_neg (by omega), if_pos (by omega)]
     ·rw [if_neg c2, hg]
      by_cases c3 : m - i ≤ x ∧ x < m - i + j
      ·rw [if_pos c3, if_pos (by omega)]; exact at_eq _ (by omega)
      ·rw [if_neg c3, if_neg (by omega), if_neg (by omega), if_neg (by omega)]
   ·rw [if_neg e2]
    have hs := swapRange_size (m - i) (m + j - i) i d
    have h := ih i (j - i) (swapRange (m - i) (m + j - i) i d) h1 (by omega) (by omega) (by rw [hs]; omega) (by omega)
    refine ⟨permIn_trans _ _ _ _ _ (swapRange_perm _ _ _ _ _ _ (Nat.le_refl _) (by omega) (by omega) h4) (permIn_mono _ _ _ _ _ _ (by omega) (by omega) (by rw [hs]; exact h4) h.perm), fun x => ?_⟩
    have hg := swapRange_get (m - i) (m + j - i) i d (by omega) (by omega)
    rw [h.get]
    by_cases c1 : m - i ≤ x ∧ x < m - i + (m + (j - i) - m)
    ·rw [if_pos c1, hg, if_neg (by omega), if_neg (by omega), if_pos (by omega)]
    ·rw [if_neg c1]
     by_cases c2 : m - i + (m + (j - i) - m) ≤ x ∧ x < m + (j - i)
     ·rw [if_pos c2, hg]
      rw [if_pos (by omega)]
      by_cases c3 : x < m - i + j
      ·rw [if_pos (by omega)]; exact at_eq _ (by omega)
      ·rw [if_neg (by omega), if_pos (by omega)]; exact at_eq _ (by omega)
     ·rw [if_neg c2, hg]
      by_cases c3 : m + j - i ≤ x ∧ x < m + j - i + i
      ·rw [if_neg (by omega), if_pos c3, if_neg (by omega), if_pos (by omega)]; exact at_eq _ (by omega)
      ·rw [if_neg (by omega), if_neg c3, if_neg (by omega), if_neg (by omega)]
theorem rotate_is (a m b : Nat) (d : Array α) (h1 : a < m) (h2 : m < b) (h3 : b ≤ d.size) : IsRot a m b d (rotate a m b d) := by
 have h := rotLoop_is m (m - a + (b - m)) (m - a) (b - m) d (by omega) (by omega) (by omega) (by omega) (Nat.le_refl _)
 rw [show m - (m - a) = a by omega, show m + (b - m) = b by omega] at h
 exact h
def bubUp (a : Nat) : Nat → Array α → Array α
 | 0, d => d
 | t + 1, d => swp (bubUp a t d) (a + t) (a + t + 1)
theorem bubUp_size (a t : Nat) (d : Array α) : (bubUp a t d).size = d.size := by
 induction t with
 | zero => rfl
 | succ t ih => rw [bubUp, size_swp, ih]
theorem bubUp_is (a t : Nat) (d : Array α) (h : a + t < d.size) : IsRot a (a + 1) (a + 1 + t) d (bubUp a t d) := by
 induction t with
 | zero =>
  refine ⟨permIn_refl _ _ _, fun x => ?_⟩
  rw [if_neg (by omega)]
  by_cases c : a + (a + 1 + 0 - (a + 1)) ≤ x ∧ x < a + 1 + 0
  ·rw [if_pos c]; exact at_eq _ (by omega)
  ·rw [if_neg c]; rfl
 | succ t ih =>
  have ih := ih (by omega)
  refine ⟨permIn_trans _ _ _ _ _ (permIn_mono _ _ _ _ _ _ (Nat.le_refl _) (by omega) (by omega) ih.perm) (swp_permIn _ _ _ _ _ (by omega) (by omega) (by omega) (by omega) (by rw [bubUp_size]; omega)), fun x => ?_⟩
  rw [bubUp, swp_get _ (by rw [bubUp_size]; omega) (by rw [bubUp_size]; omega), ih.get, ih.get, ih.get]
  by_cases e1 : x = a + t + 1
  ·subst e1
   rw [if_pos rfl, if_neg (by omega), if_pos (by omega), if_neg (by omega), if_pos (by omega)]; exact at_eq _ (by omega)
  ·rw [if_neg e1]
   by_cases e2 : x = a + t
   ·subst e2
    rw [if_pos rfl, if_neg (by omega), if_neg (by omega), if_pos (by omega)]; exact at_eq _ (by omega)
   ·rw [if_neg e2]
    by_cases c1 : a ≤ x ∧ x < a + (a + 1 + t - (a + 1))
    ·rw [if_pos c1, if_pos (by omega)]
    ·rw [if_neg c1, if_neg (by omega), if_neg (by omega), if_neg (by omega)]
def bubDown (m : Nat) : Nat → Array α → Array α
 | 0, d => d
 | t + 1, d => swp (bubDown m t d) (m - t) (m - t - 1)
theorem bubDown_size (m t : Nat) (d : Array α) : (bubDown m t d).size = d.size := by
 induction t with
 | zero => rfl
 | succ t ih => rw [bubDown, size_swp, ih]
theorem bubDown_is (m t : Nat) (d : Array α) (h : m < d.size) (ht : t ≤ m) : IsRot (m - t) m (m + 1) d (bubDown m t d) := by
 induction t with
 | zero =>
  refine ⟨permIn_refl _ _ _, fun x => ?_⟩
  by_cases c : m - 0 ≤ x ∧ x < m - 0 + (m + 1 - m)
  ·rw [if_pos c]; exact at_eq _ (by omega)
  ·rw [if_neg c, if_neg (by omega)]; rfl
 | succ t ih =>
  have ih := ih (by omega)
  refine ⟨permIn_trans _ _ _ _ _ (permIn_mono _ _ _ _ _ _ (by omega) (Nat.le_refl _) (by omega) ih.perm) (swp_permIn _ _ _ _ _ (by omega) (by omega) (by omega) (by omega) (by rw [bubDown_size]; omega)), fun x => ?_⟩
  rw [bubDown, swp_get _ (by rw [bubDown_size]; omega) (by rw [bubDown_size]; omega), ih.get, ih.get, ih.get]
  by_cases e1 : x = m - t - 1
  ·subst e1
   rw [if_pos rfl, if_pos (by omega), if_pos (by omega)]; exact at_eq _ (by omega)
  ·rw [if_neg e1]
   by_cases e2 : x = m - t
   ·subst e2
    rw [if_pos rfl, if_neg (by omega), if_neg (by omega), if_neg (by omega), if_pos (by omega)]; exact at_eq _ (by omega)
   ·rw [if_neg e2]
    by_cases c1 : m - t + (m + 1 - m) ≤ x ∧ x < m + 1
    ·rw [if_neg (by omega), if_pos c1, if_neg (by omega), if_pos (by omega)]
    ·rw [if_neg (by omega), if_neg c1, if_neg (by omega), if_neg (by omega)]
def bsearch (p : Nat → Bool) : Nat → Nat → Nat → Nat
 | 0, s, _ => s
 | f + 1, s, r => if s < r then (if p ((s + r) / 2) then bsearch p f ((s + r) / 2 + 1) r else bsearch p f s ((s + r) / 2)) else s
theorem bsearch_spec (p : Nat → Bool) (f : Nat) : ∀ s r, s ≤ r → r - s < f → s ≤ bsearch p f s r ∧ bsearch p f s r ≤ r ∧ (s < bsearch p f s r → p (bsearch p f s r - 1) = true) ∧ (bsearch p f s r < r → p (bsearch p f s r) = false) := by
 induction f with
 | zero => intro s r h1 h2; omega
 | succ f ih =>
  intro s r h1 h2
  unfold bsearch
  by_cases h : s < r
  ·rw [if_pos h]
   by_cases hp : p ((s + r) / 2) = true
   ·rw [if_pos hp]
    obtain ⟨a1, a2, a3, a4⟩ := ih ((s + r) / 2 + 1) r (by omega) (by omega)
    refine ⟨by omega, a2, fun _ => ?_, a4⟩
    by_cases e : (s + r) / 2 + 1 < bsearch p f ((s + r) / 2 + 1) r
    ·exact a3 e
    ·rw [show bsearch p f ((s + r) / 2 + 1) r - 1 = (s + r) / 2 by omega]; exact hp
   ·rw [if_neg hp]
    obtain ⟨a1, a2, a3, a4⟩ := ih s ((s + r) / 2) (by omega) (by omega)
    refine ⟨a1, by omega, a3, fun _ => ?_⟩
    by_cases e : bsearch p f s ((s + r) / 2) < (s + r) / 2
    ·exact a4 e
    ·rw [show bsearch p f s ((s + r) / 2) = (s + r) / 2 by omega]; simpa using hp
  ·rw [if_neg h]
   exact ⟨Nat.le_refl _, h1, fun h' => absurd h' (Nat.lt_irrefl _), fun h' => absurd h' h⟩
def bs (p : Nat → Bool) (s r : Nat) : Nat := bsearch p (r - s + 1) s r
theorem bs_spec (p : Nat → Bool) (s r : Nat) (h : s ≤ r) : s ≤ bs p s r ∧ bs p s r ≤ r ∧ (s < bs p s r → p (bs p s r - 1) = true) ∧ (bs p s r < r → p (bs p s r) = false) := bsearch_spec p _ s r h (by omega)
theorem bsearch_fuel (p : Nat → Bool) (f : Nat) : ∀ g s r, r - s < f → r - s < g → bsearch p f s r = bsearch p g s r := by
 induction f with
 | zero => intro g s r h1 h2; omega
 | succ f ih =>
  intro g s r h1 h2
  obtain ⟨g, rfl⟩ : ∃ g', g = g' + 1 := ⟨g - 1, by omega⟩
  unfold bsearch
  by_cases h : s < r
  ·rw [if_pos h, if_pos h, ih g _ r (by omega) (by omega), ih g s _ (by omega) (by omega)]
  ·rw [if_neg h, if_neg h]
theorem bs_step (p : Nat → Bool) (s r : Nat) (h : s < r) : bs p s r = if p ((s + r) / 2) then bs p ((s + r) / 2 + 1) r else bs p s ((s + r) / 2) := by
 unfold bs
 rw [bsearch, if_pos h, bsearch_fuel p _ (r - ((s + r) / 2 + 1) + 1) _ r (by omega) (by omega), bsearch_fuel p _ ((s + r) / 2 - s + 1) s _ (by omega) (by omega)]
theorem bs_stop (p : Nat → Bool) (s r : Nat) (h : ¬ s < r) : bs p s r = s := by unfold bs; rw [bsearch, if_neg h]
def startAt (lt : α → α → Bool) (a m b : Nat) (d : Array α) : Nat := if (a + b) / 2 < m then bs (fun c => !lt d[(a + b) / 2 + m - 1 - c]! d[c]!) ((a + b) / 2 + m - b) ((a + b) / 2) else bs (fun c => !lt d[(a + b) / 2 + m - 1 - c]! d[c]!) a m
def symMerge (lt : α → α → Bool) : Nat → Nat → Nat → Nat → Array α → Array α
 | 0, _, _, _, d => d
 | f + 1, a, m, b, d =>
  if m - a = 1 then bubUp a (bs (fun h => lt d[h]! d[a]!) m b - 1 - a) d
  else if b - m = 1 then bubDown m (m - bs (fun h => !lt d[m]! d[h]!) a m) d
  else
   let mid := (a + b) / 2
   let st := startAt lt a m b d
   let en := mid + m - st
   let d1 := if st < m ∧ m < en then rotate st m en d else d
   let d2 := if a < st ∧ st < mid then symMerge lt f a st mid d1 else d1
   if mid < en ∧ en < b then symMerge lt f mid en b d2 else d2
def Across (lt lx : α → α → Bool) (a m b : Nat) (d : Array α) : Prop := ∀ i j, a ≤ i → i < m → m ≤ j → j < b → lt d[j]! d[i]! = lx d[j]! d[i]!
theorem rot_id (lo mid hi : Nat) (d : Array α) (h : lo = mid ∨ mid = hi) (h1 : lo ≤ mid) (h2 : mid ≤ hi) : IsRot lo mid hi d d := by
 refine ⟨permIn_refl _ _ _, fun x => ?_⟩
 by_cases c1 : lo ≤ x ∧ x < lo + (hi - mid)
 ·rw [if_pos c1]; exact at_eq _ (by omega)
 ·rw [if_neg c1]
  by_cases c2 : lo + (hi - mid) ≤ x ∧ x < hi
  ·rw [if_pos c2]; exact at_eq _ (by omega)
  ·rw [if_neg c2]
section
variable {lx : α → α → Bool} (hS : SWO lx)
include hS
omit [Inhabited α] in
theorem le_trans' {x y z : α} (h1 : lx y x = false) (h2 : lx z y = false) : lx z x = false := hS.ntrans _ _ _ h2 h1
theorem sorted_le {a b : Nat} {d : Array α} (h : SortedIn lx a b d) {i j : Nat} (h1 : a ≤ i) (h2 : i ≤ j) (h3 : j < b) : lx d[j]! d[i]! = false := by
 rcases Nat.lt_or_ge i j with h' | h'
 ·exact h i j h1 h' h3
 ·obtain rfl : i = j := by omega
  exact hS.irrefl _
theorem symMerge_ok (lt : α → α → Bool) (f : Nat) : ∀ (a m b : Nat) (d : Array α), a < m → m < b → b ≤ d.size → b - a ≤ f → SortedIn lx a m d → SortedIn lx m b d → Across lt lx a m b d →
 PermIn a b d (symMerge lt f a m b d) ∧ SortedIn lx a b (symMerge lt f a m b d) := by
 induction f with
 | zero => intro a m b d h1 h2 h3 h4; omega
 | succ f ih =>
  intro a m b d h1 h2 h3 h4 hl hr hc
  unfold symMerge
  by_cases e1 : m - a = 1
  ·rw [if_pos e1]
   obtain rfl : m = a + 1 := by omega
   obtain ⟨i1, i2, i3, i4⟩ := bs_spec (fun h => lt d[h]! d[a]!) (a + 1) b (by omega)
   generalize bs (fun h => lt d[h]! d[a]!) (a + 1) b = i at i1 i2 i3 i4
   have h := bubUp_is a (i - 1 - a) d (by omega)
   rw [show a + 1 + (i - 1 - a) = i by omega] at h
   refine ⟨permIn_mono _ _ _ _ _ _ (Nat.le_refl _) i2 h3 h.perm, fun p q hp hpq hq => ?_⟩
   rw [h.get, h.get]
   by_cases q1 : q < i - 1
   ·rw [if_pos (by omega), if_pos (by omega)]
    exact hr _ _ (by omega) (by omega) (by omega)
   ·by_cases q2 : q = i - 1
    ·subst q2
     rw [if_neg (by omega), if_pos (by omega), if_pos (by omega), show i - 1 - (i - (a + 1)) = a by omega]
     refine le_trans' hS (y := d[i - 1]!) (sorted_le hS hr (by omega) (by omega) (by omega)) (hS.asymmA ?_)
     rw [← hc a (i - 1) (Nat.le_refl _) (by omega) (by omega) (by omega)]
     exact i3 (by omega)
    ·rw [if_neg (by omega), if_neg (by omega)]
     have hqa : lx d[q]! d[a]! = false := by
      by_cases e : i < b
      ·refine le_trans' hS (y := d[i]!) ?_ (sorted_le hS hr (by omega) (by omega) (by omega))
       rw [← hc a i (Nat.le_refl _) (by omega) (by omega) (by omega)]
       exact i4 e
      ·omega
     by_cases p1 : p < i - 1
     ·rw [if_pos (by omega)]
      exact hr _ _ (by omega) (by omega) (by omega)
     ·by_cases p2 : p = i - 1
      ·subst p2
       rw [if_neg (by omega), if_pos (by omega), show i - 1 - (i - (a + 1)) = a by omega]
       exact hqa
      ·rw [if_neg (by omega), if_neg (by omega)]
       exact hr _ _ (by omega) (by omega) (by omega)
  ·rw [if_neg e1]
   by_cases e2 : b - m = 1
   ·rw [if_pos e2]
    obtain rfl : b = m + 1 := by omega
    obtain ⟨i1, i2, i3, i4⟩ := bs_spec (fun h => !lt d[m]! d[h]!) a m (by omega)
    generalize bs (fun h => !lt d[m]! d[h]!) a m = i at i1 i2 i3 i4
    have h := bubDown_is m (m - i) d (by omega) (by omega)
    rw [show m - (m - i) = i by omega] at h
    refine ⟨permIn_mono _ _ _ _ _ _ i1 (Nat.le_refl _) h3 h.perm, fun p q hp hpq hq => ?_⟩
    rw [h.get, h.get]
    by_cases p1 : p < i
    ·rw [if_neg (c := i ≤ p ∧ p < i + (m + 1 - m)) (by omega), if_neg (c := i + (m + 1 - m) ≤ p ∧ p < m + 1) (by omega)]
     have hpm : lx d[m]! d[p]! = false := by
      have := i3 (by omega)
      have hh := hc (i - 1) m (by omega) (by omega) (Nat.le_refl _) (by omega)
      refine le_trans' hS (y := d[i - 1]!) (sorted_le hS hl hp (by omega) (by omega)) ?_
      rw [← hh]
      simpa using this
     by_cases q1 : q < i
     ·rw [if_neg (by omega), if_neg (by omega)]
      exact hl _ _ hp hpq (by omega)
     ·by_cases q2 : q = i
      ·subst q2
       rw [if_pos (by omega), show q + (m - q) = m by omega]
       exact hpm
      ·rw [if_neg (by omega), if_pos (by omega)]
       exact sorted_le hS hl hp (by omega) (by omega)
    ·by_cases p2 : p = i
     ·subst p2
      rw [if_pos (c := p ≤ p ∧ p < p + (m + 1 - m)) (by omega), if_neg (by omega), if_pos (by omega), show p + (m - p) = m by omega]
      have := i4 (by omega)
      have hh := hc p m (by omega) (by omega) (Nat.le_refl _) (by omega)
      refine le_trans' hS (y := d[p]!) (hS.asymmA ?_) (sorted_le hS hl (by omega) (by omega) (by omega))
      rw [← hh]
      simpa using this
     ·rw [if_neg (by omega), if_pos (by omega), if_neg (by omega), if_pos (by omega)]
      exact hl _ _ (by omega) (by omega) (by omega)
   ·rw [if_neg e2]
    dsimp only
    obtain ⟨mid, hmid⟩ : ∃ mid, mid = (a + b) / 2 := ⟨_, rfl⟩
    rw [← hmid]
    have hst : ∃ s0 r0, startAt lt a m b d = bs (fun c => !lt d[mid + m - 1 - c]! d[c]!) s0 r0 ∧ s0 ≤ r0 ∧ ((m > mid ∧ s0 = mid + m - b ∧ r0 = mid) ∨ (m ≤ mid ∧ s0 = a ∧ r0 = m)) := by
     unfold startAt
     rw [← hmid]
     by_cases e : mid < m
     ·exact ⟨_, _, if_pos e, by omega, Or.inl ⟨e, rfl, rfl⟩⟩
     ·exact ⟨_, _, if_neg e, by omega, Or.inr ⟨by omega, rfl, rfl⟩⟩
    obtain ⟨s0, r0, hst, hsr, hcase⟩ := hst
    rw [hst]
    obtain ⟨i1, i2, i3, i4⟩ := bs_spec (fun c => !lt d[mid + m - 1 - c]! d[c]!) s0 r0 hsr
    generalize bs (fun c => !lt d[mid + m - 1 - c]! d[c]!) s0 r0 = st at i1 i2 i3 i4
    obtain ⟨en, hen⟩ : ∃ en, en = mid + m - st := ⟨_, rfl⟩
    rw [← hen]
    have b1 : a ≤ st ∧ st ≤ m ∧ st ≤ mid ∧ m ≤ en ∧ mid ≤ en ∧ en ≤ b := by omega
    have hrot : IsRot st m en d (if st < m ∧ m < en then rotate st m en d else d) := by
     split
     ·rename_i h; exact rotate_is _ _ _ _ h.1 h.2 (by omega)
     ·rename_i h; exact rot_id _ _ _ _ (by omega) (by omega) (by omega)
    generalize (if st < m ∧ m < en then rotate st m en d else d) = d1 at hrot
    have hs1 : d1.size = d.size := hrot.perm.1
    have g1 : ∀ x, x < st → d1[x]! = d[x]! := fun x hx => by rw [hrot.get, if_neg (by omega), if_neg (by omega)]
    have g2 : ∀ x, st ≤ x → x < mid → d1[x]! = d[x + (m - st)]! := fun x h h' => by rw [hrot.get, if_pos (by omega)]
    have g3 : ∀ x, mid ≤ x → x < en → d1[x]! = d[x - (en - m)]! := fun x h h' => by rw [hrot.get, if_neg (by omega), if_pos (by omega)]
    have g4 : ∀ x, en ≤ x → d1[x]! = d[x]! := fun x h => by rw [hrot.get, if_neg (by omega), if_neg (by omega)]
    clear hst
    -- the first half is no greater than the second one
    have cross : ∀ x y, a ≤ x → x < mid → mid ≤ y → y < b → lx d1[y]! d1[x]! = false := by
     intro x y hx1 hx2 hy1 hy2
     by_cases cx : x < st
     ·rw [g1 x cx]
      by_cases cy : y < en
      ·rw [g3 y hy1 cy]
       exact sorted_le hS hl hx1 (by omega) (by omega)
      ·rw [g4 y (by omega)]
       have h := i3 (by omega)
       have hh := hc (st - 1) en (by omega) (by omega) (by omega) (by omega)
       try dsimp only at h
       rw [show mid + m - 1 - (st - 1) = en by omega] at h
       refine le_trans' hS (y := d[st - 1]!) (sorted_le hS hl hx1 (by omega) (by omega)) ?_
       refine le_trans' hS (y := d[en]!) ?_ (sorted_le hS hr (by omega) (by omega) hy2)
       rw [← hh]
       simpa using h
     ·rw [g2 x (by omega) hx2]
      by_cases cy : y < en
      ·rw [g3 y hy1 cy]
       have h := i4 (by omega)
       have hh := hc st (en - 1) (by omega) (by omega) (by omega) (by omega)
       try dsimp only at h
       rw [show mid + m - 1 - st = en - 1 by omega] at h
       refine le_trans' hS (y := d[en - 1]!) (sorted_le hS hr (by omega) (by omega) (by omega)) ?_
       refine le_trans' hS (y := d[st]!) (hS.asymmA ?_) (sorted_le hS hl (by omega) (by omega) (by omega))
       rw [← hh]
       simpa using h
      ·rw [g4 y (by omega)]
       exact sorted_le hS hr (by omega) (by omega) hy2
    have A1 : PermIn a mid d1 (if a < st ∧ st < mid then symMerge lt f a st mid d1 else d1) ∧ SortedIn lx a mid (if a < st ∧ st < mid then symMerge lt f a st mid d1 else d1) := by
     split
     ·rename_i h
      refine ih a st mid d1 h.1 h.2 (by omega) (by omega) (fun p q hp hpq hq => ?_) (fun p q hp hpq hq => ?_) (fun p q hp hpm hmq hq => ?_)
      ·rw [g1 p (by omega), g1 q hq]; exact hl _ _ hp hpq (by omega)
      ·rw [g2 p hp (by omega), g2 q (by omega) hq]; exact hr _ _ (by omega) (by omega) (by omega)
      ·rw [g1 p hpm, g2 q hmq hq]; exact hc _ _ hp (by omega) (by omega) (by omega)
     ·rename_i h
      refine ⟨permIn_refl _ _ _, fun p q hp hpq hq => ?_⟩
      by_cases e : a < st
      ·rw [g1 p (by omega), g1 q (by omega)]; exact hl _ _ hp hpq (by omega)
      ·rw [g2 p (by omega) (by omega), g2 q (by omega) hq]; exact hr _ _ (by omega) (by omega) (by omega)
    obtain ⟨P1, S1⟩ := A1
    generalize (if a < st ∧ st < mid then symMerge lt f a st mid d1 else d1) = d2 at P1 S1
    have hs2 : d2.size = d1.size := P1.1
    have k2 : ∀ x, mid ≤ x → d2[x]! = d1[x]! := fun x hx => P1.2.1 x (Or.inr hx)
    have A2 : PermIn mid b d2 (if mid < en ∧ en < b then symMerge lt f mid en b d2 else d2) ∧ SortedIn lx mid b (if mid < en ∧ en < b then symMerge lt f mid en b d2 else d2) := by
     split
     ·rename_i h
      refine ih mid en b d2 h.1 h.2 (by omega) (by omega) (fun p q hp hpq hq => ?_) (fun p q hp hpq hq => ?_) (fun p q hp hpm hmq hq => ?_)
      ·rw [k2 p (by omega), k2 q (by omega), g3 p (by omega) (by omega), g3 q (by omega) hq]; exact hl _ _ (by omega) (by omega) (by omega)
      ·rw [k2 p (by omega), k2 q (by omega), g4 p (by omega), g4 q (by omega)]; exact hr _ _ (by omega) (by omega) (by omega)
      ·rw [k2 p (by omega), k2 q (by omega), g3 p (by omega) (by omega), g4 q (by omega)]; exact hc _ _ (by omega) (by omega) (by omega) (by omega)
     ·rename_i h
      refine ⟨permIn_refl _ _ _, fun p q hp hpq hq => ?_⟩
      rw [k2 p (by omega), k2 q (by omega)]
      by_cases e : en < b
      ·rw [g4 p (by omega), g4 q (by omega)]; exact hr _ _ (by omega) (by omega) (by omega)
      ·rw [g3 p (by omega) (by omega), g3 q (by omega) (by omega)]; exact hl _ _ (by omega) (by omega) (by omega)
    obtain ⟨P2, S2⟩ := A2
    generalize (if mid < en ∧ en < b then symMerge lt f mid en b d2 else d2) = d3 at P2 S2
    have k3 : ∀ x, x < mid → d3[x]! = d2[x]! := fun x hx => P2.2.1 x (Or.inl hx)
    refine ⟨permIn_trans _ _ _ _ _ (permIn_mono _ _ _ _ _ _ (by omega) (by omega) h3 hrot.perm) (permIn_trans _ _ _ _ _ (permIn_mono _ _ _ _ _ _ (Nat.le_refl _) (by omega) (by omega) P1) (permIn_mono _ _ _ _ _ _ (by omega) (Nat.le_refl _) (by omega) P2)), fun p q hp hpq hq => ?_⟩
    by_cases cq : q < mid
    ·rw [k3 p (by omega), k3 q cq]; exact S1 _ _ hp hpq cq
    ·by_cases cp : p < mid
     ·rw [k3 p cp]
      have f1 : ∀ x, a ≤ x → x < mid → ∀ y, mid ≤ y → y < b → lx d1[y]! d2[x]! = false :=
       permIn_all d1 d2 a mid (fun v => ∀ y, mid ≤ y → y < b → lx d1[y]! v = false) (by omega) P1 (fun x h1 h2 y h3 h4 => cross x y h1 h2 h3 h4)
      exact permIn_all d2 d3 mid b (fun v => lx v d2[p]! = false) (by omega) P2 (fun y h1 h2 => by rw [k2 y h1]; exact f1 p hp cp y h1 h2) q (by omega) hq
     ·exact S2 _ _ (by omega) hpq hq
end
theorem insInner_perm (lt : α → α → Bool) (a b : Nat) : ∀ (j : Nat) (d : Array α), a ≤ j → j < b → b ≤ d.size → PermIn a b d (insInner lt a j d)
 | 0, d, _, _, _ => by unfold insInner; exact permIn_refl _ _ _
 | j + 1, d, h1, h2, h3 => by
  unfold insInner
  split
  ·rename_i hc
   simp only [Bool.and_eq_true, decide_eq_true_eq] at hc
   exact permIn_trans _ _ _ _ _ (swp_permIn d a b (j + 1) j (by omega) (by omega) (by omega) (by omega) h3) (insInner_perm lt a b j _ (by omega) (by omega) (by rw [size_swp]; exact h3))
  ·exact permIn_refl _ _ _
theorem insInner_eq (lt lx : α → α → Bool) (a : Nat) : ∀ (j : Nat) (d : Array α), j < d.size → (∀ k, a ≤ k → k < j → lt d[j]! d[k]! = lx d[j]! d[k]!) → insInner lt a j d = insInner lx a j d
 | 0, d, _, _ => rfl
 | j + 1, d, hs, h => by
  unfold insInner
  by_cases hj : j + 1 > a
  ·rw [h j (by omega) (by omega), insInner_eq lt lx a j _ (by rw [size_swp]; omega) fun k h1 h2 => ?_]
   rw [swp_get d hs (by omega), swp_get d hs (by omega), if_pos rfl, if_neg (by omega), if_neg (by omega)]
   exact h k h1 (by omega)
  ·simp [hj]
theorem insOuter_eq (lt lx : α → α → Bool) (a b : Nat) : ∀ (n i : Nat) (d : Array α), b - i = n → a < i → b ≤ d.size → (∀ k j, a ≤ k → k < j → i ≤ j → j < b → lt d[j]! d[k]! = lx d[j]! d[k]!) → insOuter lt a b i d = insOuter lx a b i d
 | 0, i, d, hn, _, _, _ => by rw [insOuter, if_neg (by omega), insOuter, if_neg (by omega)]
 | n + 1, i, d, hn, hai, hb, h => by
  have e1 : insOuter lt a b i d = insOuter lt a b (i + 1) (insInner lt a i d) := by rw [insOuter, if_pos (by omega)]
  have e2 : insOuter lx a b i d = insOuter lx a b (i + 1) (insInner lx a i d) := by rw [insOuter, if_pos (by omega)]
  rw [e1, e2, insInner_eq lt lx a i d (by omega) fun k h1 h2 => h k i h1 h2 (Nat.le_refl _) (by omega)]
  have hp := insInner_perm lx a (i + 1) i d (by omega) (by omega) (by omega)
  refine insOuter_eq lt lx a b n (i + 1) _ (by omega) (by omega) (by rw [hp.1]; exact hb) fun k j h1 h2 h3 h4 => ?_
  rw [hp.2.1 j (by omega)]
  by_cases hk : k < i + 1
  ·exact permIn_all d _ a (i + 1) (fun v => lt d[j]! v = lx d[j]! v) (by omega) hp (fun q hq1 hq2 => h q j hq1 (by omega) (by omega) h4) k h1 hk
  ·rw [hp.2.1 k (by omega)]
   exact h k j h1 h2 (by omega) h4
theorem insertion_ok {lx : α → α → Bool} (hS : SWO lx) (lt : α → α → Bool) (d : Array α) (a b : Nat) (hab : a ≤ b) (hb : b ≤ d.size) (h : ∀ k j, a ≤ k → k < j → j < b → lt d[j]! d[k]! = lx d[j]! d[k]!) :
 PermIn a b d (insertionSort lt d a b) ∧ SortedIn lx a b (insertionSort lt d a b) := by
 have e : insertionSort lt d a b = insertionSort lx d a b := insOuter_eq lt lx a b _ (a + 1) d rfl (by omega) hb fun k j h1 h2 h3 h4 => h k j h1 h2 h4
 rw [e]
 exact insertionSort_holds hS d a b hab hb
def insBlocks (lt : α → α → Bool) (n : Nat) : Nat → Nat → Array α → Array α
 | 0, _, d => d
 | f + 1, a, d => if a + 20 ≤ n then insBlocks lt n f (a + 20) (insertionSort lt d a (a + 20)) else insertionSort lt d a n
def mergeRow (lt : α → α → Bool) (s n : Nat) : Nat → Nat → Array α → Array α
 | 0, _, d => d
 | f + 1, a, d => if a + 2 * s ≤ n then mergeRow lt s n f (a + 2 * s) (symMerge lt n a (a + s) (a + 2 * s) d) else if a + s < n then symMerge lt n a (a + s) n d else d
def mergeRows (lt : α → α → Bool) (n : Nat) : Nat → Nat → Array α → Array α
 | 0, _, d => d
 | f + 1, s, d => if s < n then mergeRows lt n f (2 * s) (mergeRow lt s n (n + 1) 0 d) else d
def stable (lt : α → α → Bool) (n : Nat) (d : Array α) : Array α := mergeRows lt n (n + 1) 20 (insBlocks lt n (n + 1) 0 d)
def Ag (lt lx : α → α → Bool) (n : Nat) (d : Array α) (c : Nat) : Prop := ∀ i j, i < c → c ≤ j → j < n → lt d[j]! d[i]! = lx d[j]! d[i]!
theorem Ag.perm {lt lx : α → α → Bool} {n : Nat} {d d' : Array α} {c lo hi : Nat} (h : Ag lt lx n d c) (hn : n ≤ d.size) (hh : hi ≤ n) (hp : PermIn lo hi d d') (hc : c ≤ lo ∨ hi ≤ c) : Ag lt lx n d' c := by
 intro i j hi' hj hjn
 rcases hc with hc | hc
 ·rw [hp.2.1 i (by omega)]
  by_cases e : lo ≤ j ∧ j < hi
  ·exact permIn_all d d' lo hi (fun v => lt v d[i]! = lx v d[i]!) (by omega) hp (fun q h1 h2 => h i q hi' (by omega) (by omega)) j e.1 e.2
  ·rw [hp.2.1 j (by omega)]
   exact h i j hi' hj hjn
 ·rw [hp.2.1 j (by omega)]
  by_cases e : lo ≤ i ∧ i < hi
  ·exact permIn_all d d' lo hi (fun v => lt d[j]! v = lx d[j]! v) (by omega) hp (fun q h1 h2 => h q j (by omega) hj hjn) i e.1 e.2
  ·rw [hp.2.1 i (by omega)]
   exact h i j hi' hj hjn
theorem dvd_gap {k c a : Nat} (h1 : k ∣ c) (h2 : k ∣ a) (h : c < a) : c + k ≤ a := by
 have := Nat.le_of_dvd (by omega) (Nat.dvd_sub h2 h1)
 omega
theorem sorted_keep {lx : α → α → Bool} {a b lo hi : Nat} {d d' : Array α} (hp : PermIn lo hi d d') (h : SortedIn lx a b d) (hc : b ≤ lo ∨ hi ≤ a) : SortedIn lx a b d' := by
 intro i j h1 h2 h3
 rw [hp.2.1 i (by omega), hp.2.1 j (by omega)]
 exact h i j h1 h2 h3
section
variable {lx : α → α → Bool} (hS : SWO lx) (lt : α → α → Bool) (n : Nat)
include hS
theorem mergeRow_ok (s : Nat) (hs : 0 < s) (f : Nat) : ∀ (a : Nat) (d : Array α), n - a < f → 2 * s ∣ a → a ≤ n → n ≤ d.size →
 (∀ c, a ≤ c → s ∣ c → c < n → SortedIn lx c (min (c + s) n) d) → (∀ c, 2 * s ∣ c → c + 2 * s ≤ a → SortedIn lx c (c + 2 * s) d) → (∀ c, s ∣ c → a ≤ c → Ag lt lx n d c) → (∀ c, 2 * s ∣ c → Ag lt lx n d c) →
 PermIn 0 n d (mergeRow lt s n f a d) ∧ (∀ c, 2 * s ∣ c → c < n → SortedIn lx c (min (c + 2 * s) n) (mergeRow lt s n f a d)) ∧ ∀ c, 2 * s ∣ c → Ag lt lx n (mergeRow lt s n f a d) c := by
 induction f with
 | zero => intro a d h; omega
 | succ f ih =>
  intro a d hf hda han hn A1 A2 A3 A4
  have hsa : s ∣ a := Nat.dvd_trans (Nat.dvd_mul_left s 2) hda
  have hss : s ∣ a + s := Nat.dvd_add hsa (Nat.dvd_refl s)
  unfold mergeRow
  by_cases c1 : a + 2 * s ≤ n
  ·rw [if_pos c1]
   have hl := A1 a (Nat.le_refl _) hsa (by omega)
   have hr := A1 (a + s) (by omega) hss (by omega)
   rw [Nat.min_eq_left (by omega)] at hl hr
   rw [show a + s + s = a + 2 * s by omega] at hr
   have hm := symMerge_ok hS lt n a (a + s) (a + 2 * s) d (by omega) (by omega) (by omega) (by omega) hl hr (fun i j h1 h2 h3 h4 => A3 (a + s) hss (by omega) i j h2 h3 (by omega))
   generalize symMerge lt n a (a + s) (a + 2 * s) d = d1 at hm
   obtain ⟨hp, hm⟩ := hm
   have hd2 : 2 * s ∣ a + 2 * s := Nat.dvd_add hda (Nat.dvd_refl _)
   have h := ih (a + 2 * s) d1 (by omega) hd2 c1 (by rw [hp.1]; exact hn) (fun c h1 h2 h3 => sorted_keep hp (A1 c (by omega) h2 h3) (.inr h1)) (fun c h1 h2 => by
    by_cases e : c = a
    ·subst e; exact hm
    ·exact sorted_keep hp (A2 c h1 (dvd_gap h1 hda (by omega))) (.inl (dvd_gap h1 hda (by omega)))) (fun c h1 h2 => (A3 c h1 (by omega)).perm hn c1 hp (.inr h2)) (fun c h1 => (A4 c h1).perm hn c1 hp (by
    by_cases e : c ≤ a
    ·exact .inl e
    ·exact .inr (dvd_gap hda h1 (by omega))))
   exact ⟨permIn_trans _ _ _ _ _ (permIn_mono _ _ _ _ _ _ (Nat.zero_le _) c1 hn hp) h.1, h.2⟩
  ·rw [if_neg c1]
   by_cases c2 : a + s < n
   ·rw [if_pos c2]
    have hl := A1 a (Nat.le_refl _) hsa (by omega)
    have hr := A1 (a + s) (by omega) hss (by omega)
    rw [Nat.min_eq_left (by omega)] at hl
    rw [Nat.min_eq_right (by omega)] at hr
    have hm := symMerge_ok hS lt n a (a + s) n d (by omega) (by omega) hn (by omega) hl hr (fun i j h1 h2 h3 h4 => A3 (a + s) hss (by omega) i j h2 h3 h4)
    generalize symMerge lt n a (a + s) n d = d1 at hm
    obtain ⟨hp, hm⟩ := hm
    refine ⟨permIn_mono _ _ _ _ _ _ (Nat.zero_le _) (Nat.le_refl _) hn hp, fun c h1 h2 => ?_, fun c h1 => ?_⟩
    ·rcases Nat.lt_trichotomy c a with e | e | e
     ·have := dvd_gap h1 hda e
      rw [Nat.min_eq_left (by omega)]
      exact sorted_keep hp (A2 c h1 this) (.inl this)
     ·subst e
      rw [Nat.min_eq_right (by omega)]
      exact hm
     ·have := dvd_gap hda h1 e
      omega
    ·by_cases e : c ≤ a
     ·exact (A4 c h1).perm hn (Nat.le_refl _) hp (.inl e)
     ·have := dvd_gap hda h1 (by omega)
      intro i j h3 h4 h5
      omega
   ·rw [if_neg c2]
    refine ⟨permIn_refl _ _ _, fun c h1 h2 => ?_, A4⟩
    rcases Nat.lt_trichotomy c a with e | e | e
    ·have := dvd_gap h1 hda e
     rw [Nat.min_eq_left (by omega)]
     exact A2 c h1 this
    ·subst e
     have := A1 c (Nat.le_refl _) hsa h2
     rw [Nat.min_eq_right (by omega)] at this ⊢
     exact this
    ·have := dvd_gap hda h1 e
     omega
theorem mergeRows_ok (f : Nat) : ∀ (s : Nat) (d : Array α), 0 < s → n - s < f → n ≤ d.size → (∀ c, s ∣ c → c < n → SortedIn lx c (min (c + s) n) d) → (∀ c, s ∣ c → Ag lt lx n d c) → PermIn 0 n d (mergeRows lt n f s d) ∧ SortedIn lx 0 n (mergeRows lt n f s d) := by
 induction f with
 | zero => intro s d h1 h2; omega
 | succ f ih =>
  intro s d hs hf hn A1 A2
  unfold mergeRows
  by_cases c : s < n
  ·rw [if_pos c]
   have h := mergeRow_ok hS lt n s hs (n + 1) 0 d (by omega) (Nat.dvd_zero _) (Nat.zero_le _) hn (fun c _ h2 h3 => A1 c h2 h3) (fun c h1 h2 => by omega) (fun c h1 _ => A2 c h1) (fun c h1 => A2 c (Nat.dvd_trans (Nat.dvd_mul_left s 2) h1))
   generalize mergeRow lt s n (n + 1) 0 d = d1 at h
   have h2 := ih (2 * s) d1 (by omega) (by omega) (by rw [h.1.1]; exact hn) h.2.1 h.2.2
   exact ⟨permIn_trans _ _ _ _ _ h.1 h2.1, h2.2⟩
  ·rw [if_neg c]
   refine ⟨permIn_refl _ _ _, ?_⟩
   by_cases h0 : 0 < n
   ·have := A1 0 (Nat.dvd_zero _) h0
    rwa [Nat.zero_add, Nat.min_eq_right (by omega)] at this
   ·intro i j h1 h2 h3; omega
theorem insBlocks_ok (f : Nat) : ∀ (a : Nat) (d : Array α), n - a < f → 20 ∣ a → a ≤ n → n ≤ d.size → (∀ k j, a ≤ k → k < j → j < n → lt d[j]! d[k]! = lx d[j]! d[k]!) → (∀ c, 20 ∣ c → c + 20 ≤ a → SortedIn lx c (c + 20) d) → (∀ c, 20 ∣ c → Ag lt lx n d c) →
 PermIn 0 n d (insBlocks lt n f a d) ∧ (∀ c, 20 ∣ c → c < n → SortedIn lx c (min (c + 20) n) (insBlocks lt n f a d)) ∧ ∀ c, 20 ∣ c → Ag lt lx n (insBlocks lt n f a d) c := by
 induction f with
 | zero => intro a d h; omega
 | succ f ih =>
  intro a d hf hda han hn H A2 A4
  unfold insBlocks
  by_cases c1 : a + 20 ≤ n
  ·rw [if_pos c1]
   have hm := insertion_ok hS lt d a (a + 20) (by omega) (by omega) (fun k j h1 h2 h3 => H k j h1 h2 (by omega))
   generalize insertionSort lt d a (a + 20) = d1 at hm
   obtain ⟨hp, hm⟩ := hm
   have hd2 : 20 ∣ a + 20 := Nat.dvd_add hda (Nat.dvd_refl _)
   have h := ih (a + 20) d1 (by omega) hd2 c1 (by rw [hp.1]; exact hn) (fun k j h1 h2 h3 => by rw [hp.2.1 k (by omega), hp.2.1 j (by omega)]; exact H k j (by omega) h2 h3) (fun c h1 h2 => by
    by_cases e : c = a
    ·subst e; exact hm
    ·exact sorted_keep hp (A2 c h1 (dvd_gap h1 hda (by omega))) (.inl (dvd_gap h1 hda (by omega)))) (fun c h1 => (A4 c h1).perm hn c1 hp (by
    by_cases e : c ≤ a
    ·exact .inl e
    ·exact .inr (dvd_gap hda h1 (by omega))))
   exact ⟨permIn_trans _ _ _ _ _ (permIn_mono _ _ _ _ _ _ (Nat.zero_le _) c1 hn hp) h.1, h.2⟩
  ·rw [if_neg c1]
   have hm := insertion_ok hS lt d a n (by omega) (by omega) (fun k j h1 h2 h3 => H k j h1 h2 h3)
   generalize insertionSort lt d a n = d1 at hm
   obtain ⟨hp, hm⟩ := hm
   refine ⟨permIn_mono _ _ _ _ _ _ (Nat.zero_le _) (Nat.le_refl _) hn hp, fun c h1 h2 => ?_, fun c h1 => ?_⟩
   ·rcases Nat.lt_trichotomy c a with e | e | e
    ·have := dvd_gap h1 hda e
     rw [Nat.min_eq_left (by omega)]
     exact sorted_keep hp (A2 c h1 this) (.inl this)
    ·subst e
     rw [Nat.min_eq_right (by omega)]
     exact hm
    ·have := dvd_gap hda h1 e
     omega
   ·by_cases e : c ≤ a
    ·exact (A4 c h1).perm hn (Nat.le_refl _) hp (.inl e)
    ·have := dvd_gap hda h1 (by omega)
     intro i j h3 h4 h5
     omega
theorem stable_ok (d : Array α) (hn : n ≤ d.size) (h : ∀ k j, k < j → j < n → lt d[j]! d[k]! = lx d[j]! d[k]!) : PermIn 0 n d (stable lt n d) ∧ SortedIn lx 0 n (stable lt n d) := by
 unfold stable
 have h1 := insBlocks_ok hS lt n (n + 1) 0 d (by omega) (Nat.dvd_zero _) (Nat.zero_le _) hn (fun k j _ h2 h3 => h k j h2 h3) (fun c h1 h2 => by omega) (fun c _ i j h1 h2 h3 => h i j (by omega) h3)
 generalize insBlocks lt n (n + 1) 0 d = d1 at h1
 have h2 := mergeRows_ok hS lt n (n + 1) 20 d1 (by omega) (by omega) (by rw [h1.1.1]; exact hn) h1.2.1 h1.2.2
 exact ⟨permIn_trans _ _ _ _ _ h1.1 h2.1, h2.2⟩
end
end Go.Proofs.Ytohhobcipfmkbaa.UStable
end
