/- Texts of this claim, cut to what it needs. -/
import Derived.Test.YtohhobcipfmkbaaKCChk1
namespace Go.Proofs.Ytohhobcipfmkbaa.UWhole
open Go.Proofs.Ytohhobcipfmkbaa.PClusterFinest Go.Proofs.Ytohhobcipfmkbaa.UFinest Go.Proofs.Ytohhobcipfmkbaa.UFinEv Go.Proofs.Ytohhobcipfmkbaa.CFin Go.Proofs.Ytohhobcipfmkbaa.CSort
set_option linter.unusedVariables false
set_option linter.unusedSimpArgs false
theorem parts_cover (n : Int) : ∀ (d : List S33) (s : Int), 0 ≤ s → s ≤ n → (∀ x ∈ d, s ≤ x.f0 ∧ x.f0 < x.f1 ∧ x.f1 ≤ n) → d.Pairwise (fun a b => ¬ b.f0 < a.f0) → d.Pairwise (fun a b => a.f1 ≤ b.f0 ∨ b.f1 ≤ a.f0) → (∀ i, s ≤ i → i < n → ∃ x ∈ d, x.f0 ≤ i ∧ i < x.f1) → partsTo n d s = true
  | [], s, h0, hs, _, _, _, hc => by
    unfold partsTo
    by_cases h : s < n
    · obtain ⟨x, hx, _⟩ := hc s (Int.le_refl _) h
      cases hx
    · exact decide_eq_true (by omega)
  | x :: r, s, h0, hs, hb, hp, hd, hc => by
    rw [List.pairwise_cons] at hp hd
    have hx := hb x List.mem_cons_self
    have e : x.f0 = s := by
      obtain ⟨y, hy, h1, h2⟩ := hc s (Int.le_refl _) (by omega)
      rcases List.mem_cons.1 hy with rfl | hy
      · omega
      · have := hp.1 y hy; omega
    unfold partsTo
    rw [if_pos ⟨e, by omega, hx.2.1⟩]
    refine parts_cover n r x.f1 (by omega) hx.2.2 (fun y hy => ?_) hp.2 hd.2 (fun i h1 h2 => ?_)
    · have := hb y (List.mem_cons_of_mem _ hy)
      have := hd.1 y hy
      omega
    · obtain ⟨y, hy, h3, h4⟩ := hc i (by omega) h2
      rcases List.mem_cons.1 hy with rfl | hy
      · omega
      · exact ⟨y, hy, h3, h4⟩
def hullS (r : Lab) (lo k v : Nat) : S33 := ⟨((hullL r lo v k).1 : Nat), ((hullL r lo v k).2 : Nat)⟩
theorem hull_of {r : Lab} {lo k v : Nat} (h : ∃ i, i < k ∧ r (lo + i) = v) : (hullL r lo v k).1 < (hullL r lo v k).2 ∧ (hullL r lo v k).2 ≤ k ∧ r (lo + (hullL r lo v k).1) = v ∧ r (lo + (hullL r lo v k).2 - 1) = v ∧ ∀ i, i < k → r (lo + i) = v → (hullL r lo v k).1 ≤ i ∧ i < (hullL r lo v k).2 := by
  obtain ⟨i, hi, e⟩ := h
  rcases hullL_is r lo v k with ⟨_, h2⟩ | h2
  · exact absurd e (h2 i hi)
  · exact h2
theorem hull_all {r : Lab} {lo k v : Nat} (hb : Between (fun x y => r x = r y) lo (lo + k)) (h : ∃ i, i < k ∧ r (lo + i) = v) (i : Nat) (h1 : (hullL r lo v k).1 ≤ i) (h2 : i < (hullL r lo v k).2) : r (lo + i) = v := by
  obtain ⟨g1, g2, g3, g4, g5⟩ := hull_of h
  have := hb (lo + (hullL r lo v k).1) (lo + i) (lo + (hullL r lo v k).2 - 1) (by omega) (by omega) (by omega) (by omega) (g3.trans g4.symm)
  exact this.symm.trans g3
def SideOk (d : List S33) (k : Nat) : Prop := (∀ x ∈ d, (0 : Int) ≤ x.f0 ∧ x.f0 < x.f1 ∧ x.f1 ≤ (k : Int)) ∧ d.Pairwise (fun a b => a.f1 ≤ b.f0 ∨ b.f1 ≤ a.f0) ∧ ∀ i : Int, 0 ≤ i → i < (k : Int) → ∃ x ∈ d, x.f0 ≤ i ∧ i < x.f1
theorem side_ok {r : Lab} {lo k : Nat} (hb : Between (fun x y => r x = r y) lo (lo + k)) (vs : List Nat) (hn : vs.Nodup) (hv : ∀ v ∈ vs, ∃ i, i < k ∧ r (lo + i) = v) (ha : ∀ i, i < k → r (lo + i) ∈ vs) :
    SideOk (vs.map (hullS r lo k)) k := by
  refine ⟨fun x hx => ?_, ?_, fun i h0 h1 => ?_⟩
  · obtain ⟨v, hv', rfl⟩ := List.mem_map.1 hx
    obtain ⟨g1, g2, _⟩ := hull_of (hv v hv')
    unfold hullS
    dsimp only
    omega
  · rw [List.pairwise_map]
    refine List.Pairwise.imp_of_mem (fun {v w} hv1 hw1 hne => ?_) hn
    obtain ⟨g1, g2, g3, _⟩ := hull_of (hv v hv1)
    obtain ⟨k1, k2, k3, _⟩ := hull_of (hv w hw1)
    unfold hullS
    dsimp only
    by_cases hc : (hullL r lo v k).2 ≤ (hullL r lo w k).1
    · omega
    · by_cases hc2 : (hullL r lo w k).2 ≤ (hullL r lo v k).1
      · omega
      · exfalso
        refine hne ?_
        exact (hull_all hb (hv v hv1) (max (hullL r lo v k).1 (hullL r lo w k).1) (by omega) (by omega)).symm.trans (hull_all hb (hv w hw1) (max (hullL r lo v k).1 (hullL r lo w k).1) (by omega) (by omega))
  · have hi := ha i.toNat (by omega)
    refine ⟨_, List.mem_map.2 ⟨_, hi, rfl⟩, ?_⟩
    obtain ⟨_, _, _, _, g5⟩ := hull_of (hv _ hi)
    have := g5 i.toNat (by omega) rfl
    unfold hullS
    dsimp only
    omega
theorem firsts_order {r : Lab} {n : Nat} (k : Nat) (hk : k ≤ n) : (firsts r k).Pairwise (fun v w => (hullL r 0 v n).1 < (hullL r 0 w n).1) := by
  induction k with
  | zero => exact List.Pairwise.nil
  | succ k ih =>
    rw [firsts]
    split
    · exact ih (by omega)
    · rename_i h
      rw [List.pairwise_append]
      refine ⟨ih (by omega), List.pairwise_singleton _ _, fun v hv w hw => ?_⟩
      rw [List.mem_singleton] at hw
      subst hw
      obtain ⟨i, hi, e⟩ := (mem_firsts r k v).1 hv
      obtain ⟨_, _, _, _, g5⟩ := hull_of (r := r) (lo := 0) (k := n) (v := v) ⟨i, by omega, by rw [Nat.zero_add]; exact e⟩
      have h1 := (g5 i (by omega) (by rw [Nat.zero_add]; exact e)).1
      obtain ⟨_, _, k3, _, k5⟩ := hull_of (r := r) (lo := 0) (k := n) (v := r k) ⟨k, by omega, by rw [Nat.zero_add]⟩
      rw [Nat.zero_add] at k3
      have h2 : ¬ (hullL r 0 (r k) n).1 < k := fun hc => h ((mem_firsts r k (r k)).2 ⟨_, hc, k3⟩)
      omega
structure MapOk (n m : Nat) (r : Lab) : Prop where
  b1 : Between (fun x y => r x = r y) 0 n
  b2 : Between (fun x y => r x = r y) n (n + m)
  outs : ∀ j, j < n → ∃ i, i < m ∧ r (n + i) = r j
  ins : ∀ i, i < m → ∃ j, j < n ∧ r j = r (n + i)
theorem mapOk {n m : Nat} {l : List S45} {r : Lab} (h : FinOk n m (l.map lkOf) r) (hn : 0 < n) (hm : 0 < m) (hw : wrongR n m l = 0) : MapOk n m r := by
  have hcl := h.closed
  obtain ⟨hlk, hcov⟩ := wrong_ok hn hm hw
  have hf := first_lt hn hm hlk hcov
  exact ⟨fun i j k _ h1 h2 h3 h4 => hcl.conv1 i j k h1 h2 h3 h4, fun i j k h0 h1 h2 h3 h4 => hcl.conv2 i j k h0 h1 h2 h3 h4,
    fun j hj => outs_met hcl (lk_wf hlk).1 (lk_wf hlk).2.2 hf j hj,
    fun i hi => ins_met hcl (lk_wf hlk).2.1 (fun i hi => outB_met (fun x hx => (hlk x hx).c0) hcov i hi) i hi⟩
theorem cluS_is {n m : Nat} {r : Lab} (h : MapOk n m r) : cluS n m r n = (firsts r n).map fun v => (⟨hullS r 0 n v, hullS r n m v⟩ : S45) := by
  unfold cluS
  rw [cluTo_firsts h.b1 n (Nat.le_refl _), List.map_map]
  rfl
theorem ins_is {n m : Nat} {r : Lab} (h : MapOk n m r) : (cluS n m r n).map (·.f0) = (firsts r n).map (hullS r 0 n) := by
  rw [cluS_is h, List.map_map]; rfl
theorem outs_is {n m : Nat} {r : Lab} (h : MapOk n m r) : (cluS n m r n).map (·.f1) = (firsts r n).map (hullS r n m) := by
  rw [cluS_is h, List.map_map]; rfl
theorem ins_ok {n m : Nat} {r : Lab} (h : MapOk n m r) : SideOk ((firsts r n).map (hullS r 0 n)) n := side_ok (lo := 0) (k := n) (by rw [Nat.zero_add]; exact h.b1) (firsts r n) (firsts_nodup r n) (fun v hv => by obtain ⟨i, hi, e⟩ := (mem_firsts r n v).1 hv; exact ⟨i, hi, by rw [Nat.zero_add]; exact e⟩) (fun i hi => (mem_firsts r n _).2 ⟨i, hi, by rw [Nat.zero_add]⟩)
theorem outs_ok {n m : Nat} {r : Lab} (h : MapOk n m r) : SideOk ((firsts r n).map (hullS r n m)) m := side_ok (lo := n) (k := m) h.b2 (firsts r n) (firsts_nodup r n) (fun v hv => by obtain ⟨j, hj, e⟩ := (mem_firsts r n v).1 hv; obtain ⟨i, hi, e'⟩ := h.outs j hj; exact ⟨i, hi, e'.trans e⟩) (fun i hi => by obtain ⟨j, hj, e⟩ := h.ins i hi; exact (mem_firsts r n _).2 ⟨j, hj, e⟩)
theorem ins_sorted {n m : Nat} {r : Lab} (h : MapOk n m r) : (cluS n m r n).Pairwise (fun a b => a.f0.f0 < b.f0.f0) := by
  rw [cluS_is h, List.pairwise_map]
  refine List.Pairwise.imp (fun {a b} hab => ?_) (firsts_order (r := r) (n := n) n (Nat.le_refl _))
  show (((hullL r 0 a n).1 : Nat) : Int) < ((hullL r 0 b n).1 : Nat)
  omega
theorem ins_parts {n m : Nat} {r : Lab} (h : MapOk n m r) : partsTo n ((cluS n m r n).map (·.f0)) 0 = true := by
  obtain ⟨h1, h2, h3⟩ := ins_ok h
  refine parts_cover n _ 0 (Int.le_refl 0) (by omega) (by rw [ins_is h]; exact h1) ?_ (by rw [ins_is h]; exact h2) (by rw [ins_is h]; exact h3)
  rw [List.pairwise_map]
  exact List.Pairwise.imp (fun {a b} hab => by omega) (ins_sorted h)
theorem outs_parts {n m : Nat} {r : Lab} (h : MapOk n m r) (d : List S33) (hp : d.Perm ((cluS n m r n).map (·.f1))) (hs : d.Pairwise (fun a b => ¬ b.f0 < a.f0)) : partsTo m d 0 = true := by
  obtain ⟨h1, h2, h3⟩ := outs_ok h
  rw [outs_is h] at hp
  refine parts_cover m d 0 (Int.le_refl 0) (by omega) (fun x hx => h1 x (hp.mem_iff.1 hx)) hs ?_ (fun i h0 hi => ?_)
  · exact (hp.pairwise_iff (R := fun a b : S33 => a.f1 ≤ b.f0 ∨ b.f1 ≤ a.f0) (fun {a b} hab => hab.symm)).2 h2
  · obtain ⟨x, hx, h4⟩ := h3 i h0 hi
    exact ⟨x, hp.mem_iff.2 hx, h4⟩
theorem check_true {n m : Nat} {r : Lab} (h : MapOk n m r) (d : List S33) (hp : d.Perm ((cluS n m r n).map (·.f1))) (hs : d.Pairwise (fun a b => ¬ b.f0 < a.f0)) : checkB n m (cluS n m r n) d = true := by
  unfold checkB
  rw [ins_parts h, outs_parts h d hp hs]
  rfl
end Go.Proofs.Ytohhobcipfmkbaa.UWhole
namespace Go.Proofs.Ytohhobcipfmkbaa.UWhole
open Go.Proofs.Ytohhobcipfmkbaa.PClusterFinest Go.Proofs.Ytohhobcipfmkbaa.UFinest Go.Proofs.Ytohhobcipfmkbaa.UFinEv Go.Proofs.Ytohhobcipfmkbaa.CFin Go.Proofs.Ytohhobcipfmkbaa.CSort
set_option linter.unusedVariables false
set_option linter.unusedSimpArgs false
def meetB (a b : S33) : Bool := decide (a.f0 < b.f1) && decide (b.f0 < a.f1)
def compL (a b : List S45) : List S45 := a.flatMap fun x => (b.filter fun y => meetB x.f1 y.f0).map fun y => ⟨x.f0, y.f1⟩
theorem mem_compL {a b : List S45} {z : S45} : z ∈ compL a b ↔ ∃ x ∈ a, ∃ y ∈ b, meetB x.f1 y.f0 = true ∧ z = ⟨x.f0, y.f1⟩ := by
  unfold compL
  rw [List.mem_flatMap]
  constructor
  · rintro ⟨x, hx, h⟩
    obtain ⟨y, hy, rfl⟩ := List.mem_map.1 h
    obtain ⟨h1, h2⟩ := List.mem_filter.1 hy
    exact ⟨x, hx, y, h1, h2, rfl⟩
  · rintro ⟨x, hx, y, hy, h, rfl⟩
    exact ⟨x, hx, List.mem_map.2 ⟨y, List.mem_filter.2 ⟨hy, h⟩, rfl⟩⟩
theorem compL_len (a b : List S45) : (compL a b).length ≤ a.length * b.length := by
  unfold compL
  induction a with
  | nil => simp
  | cons x r ih =>
    rw [List.flatMap_cons, List.length_append, List.length_map, List.length_cons, Nat.add_mul, Nat.one_mul]
    have := List.length_filter_le (fun y => meetB x.f1 y.f0) b
    omega
def one (i : Nat) : S33 := ⟨(i : Int), (i : Int) + 1⟩
def idS (n : Nat) : List S45 := (List.range n).map fun i => ⟨one i, one i⟩
theorem idS_len (n : Nat) : (idS n).length = n := by simp [idS]
theorem mem_idS {n : Nat} {z : S45} : z ∈ idS n ↔ ∃ i, i < n ∧ z = ⟨one i, one i⟩ := by
  unfold idS
  rw [List.mem_map]
  constructor
  · rintro ⟨i, hi, rfl⟩; exact ⟨i, List.mem_range.1 hi, rfl⟩
  · rintro ⟨i, hi, rfl⟩; exact ⟨i, List.mem_range.2 hi, rfl⟩
theorem idS_parts (n : Nat) (d : List S33) (hp : d.Perm ((idS n).map (·.f0))) (hs : d.Pairwise (fun a b => ¬ b.f0 < a.f0)) : partsTo n d 0 = true := by
  have hm : ∀ x, x ∈ (idS n).map (·.f0) ↔ ∃ i, i < n ∧ x = one i := fun x => by
    rw [List.mem_map]
    constructor
    · rintro ⟨z, hz, rfl⟩; obtain ⟨i, hi, rfl⟩ := mem_idS.1 hz; exact ⟨i, hi, rfl⟩
    · rintro ⟨i, hi, rfl⟩; exact ⟨_, mem_idS.2 ⟨i, hi, rfl⟩, rfl⟩
  refine parts_cover n d 0 (Int.le_refl 0) (by omega) (fun x hx => ?_) hs ?_ (fun i h0 h1 => ?_)
  · obtain ⟨i, hi, rfl⟩ := (hm x).1 (hp.mem_iff.1 hx)
    unfold one; dsimp only; omega
  · refine (hp.pairwise_iff (R := fun a b : S33 => a.f1 ≤ b.f0 ∨ b.f1 ≤ a.f0) (fun {a b} hab => hab.symm)).2 ?_
    unfold idS
    rw [List.map_map, List.pairwise_map]
    refine List.Pairwise.imp (fun {a b} hab => ?_) (List.pairwise_lt_range (n := n))
    unfold one; simp only [Function.comp]; omega
  · exact ⟨one i.toNat, hp.mem_iff.2 ((hm _).2 ⟨i.toNat, by omega, rfl⟩), by unfold one; dsimp only; omega⟩
theorem mem_clu {n m : Nat} {r : Lab} (h : MapOk n m r) {z : S45} : z ∈ cluS n m r n ↔ ∃ j, j < n ∧ z = ⟨hullS r 0 n (r j), hullS r n m (r j)⟩ := by
  rw [cluS_is h, List.mem_map]
  constructor
  · rintro ⟨v, hv, rfl⟩; obtain ⟨j, hj, rfl⟩ := (mem_firsts r n v).1 hv; exact ⟨j, hj, rfl⟩
  · rintro ⟨j, hj, rfl⟩; exact ⟨r j, (mem_firsts r n _).2 ⟨j, hj, rfl⟩, rfl⟩
structure Spans (n m : Nat) (r : Lab) (v : Nat) : Prop where
  i1 : (hullL r 0 v n).1 < (hullL r 0 v n).2
  i2 : (hullL r 0 v n).2 ≤ n
  i3 : ∀ i, i < n → ((hullL r 0 v n).1 ≤ i ∧ i < (hullL r 0 v n).2 ↔ r i = v)
  o1 : (hullL r n v m).1 < (hullL r n v m).2
  o2 : (hullL r n v m).2 ≤ m
  o3 : ∀ i, i < m → ((hullL r n v m).1 ≤ i ∧ i < (hullL r n v m).2 ↔ r (n + i) = v)
theorem spans {n m : Nat} {r : Lab} (h : MapOk n m r) {j : Nat} (hj : j < n) : Spans n m r (r j) := by
  obtain ⟨i, hi, e⟩ := h.outs j hj
  have h1 : ∃ i, i < n ∧ r (0 + i) = r j := ⟨j, hj, by rw [Nat.zero_add]⟩
  have h2 : ∃ i, i < m ∧ r (n + i) = r j := ⟨i, hi, e⟩
  obtain ⟨a1, a2, _, _, a5⟩ := hull_of h1
  obtain ⟨b1, b2, _, _, b5⟩ := hull_of h2
  refine ⟨a1, a2, fun i hi => ⟨fun hc => ?_, fun hc => a5 i hi (by rw [Nat.zero_add]; exact hc)⟩, b1, b2, fun i hi => ⟨fun hc => hull_all h.b2 h2 i hc.1 hc.2, fun hc => b5 i hi hc⟩⟩
  have := hull_all (lo := 0) (k := n) (by rw [Nat.zero_add]; exact h.b1) h1 i hc.1 hc.2
  rwa [Nat.zero_add] at this
structure Tame (N : Nat) (r : Lab) : Prop where
  idem : ∀ x, r (r x) = r x
  lt : ∀ x, x < N → r x < N
  out : ∀ x, N ≤ x → r x = x
theorem tame {n m : Nat} {l : List S45} {r : Lab} (h : FinOk n m (l.map lkOf) r) (hlk : ∀ x ∈ l, LinkOk n m x) : Tame (n + m) r := by
  have h1 := h.sound _ h.closed
  have hk := lk_wf hlk
  have h2 : Closed n m (l.map lkOf) (fun x y => (x < n + m ∧ y < n + m) ∨ x = y) := by
    refine ⟨⟨fun _ => .inr rfl, fun x y hxy => hxy.imp (fun h => ⟨h.2, h.1⟩) (fun h => h.symm), fun x y z h h' => by omega⟩, fun x hx i h1 h2 => ?_, fun x hx i h1 h2 => ?_, fun x hx => ?_, fun i h0 h1 _ => ?_, fun i h1 h2 => ?_, fun i j k h1 h2 h3 _ => ?_, fun i j k h0 h1 h2 h3 _ => ?_⟩
    · have := (hk.2.1 x hx).2; exact .inl ⟨by omega, by omega⟩
    · have := hk.2.2 x hx; exact .inl ⟨by omega, by omega⟩
    · have := hk.2.2 x hx; have := hk.2.1 x hx; have := hk.1 x hx; exact .inl ⟨by omega, by omega⟩
    · exact .inl ⟨by omega, by omega⟩
    · exact .inl ⟨by omega, by omega⟩
    · exact .inl ⟨by omega, by omega⟩
    · exact .inl ⟨by omega, by omega⟩
  have h3 := h.sound _ h2
  exact ⟨fun x => (h1 x).symm, fun x hx => by have := h3 x; omega, fun x hx => by have := h3 x; omega⟩
theorem finOk_of {n m : Nat} {r : Lab} (hM : MapOk n m r) (hT : Tame (n + m) r) (ls : List S45)
    (hin : ∀ z ∈ ls, ∃ j i, j < n ∧ i < m ∧ r j = r (n + i) ∧ (z.f0 = one j ∨ z.f0 = hullS r 0 n (r j)) ∧ (z.f1 = one i ∨ z.f1 = hullS r n m (r j)))
    (hlk : ∀ j, j < n → linkedB (ls.map lkOf) j = true)
    (hall : ∀ R, Closed n m (ls.map lkOf) R → ∀ j i, j < n → i < m → r j = r (n + i) → R j (n + i)) : FinOk n m (ls.map lkOf) r := by
  have hf : firstF (ls.map lkOf) n = 0 ∨ n = 0 := by
    rcases Nat.eq_zero_or_pos n with h | h
    · exact .inr h
    · refine .inl ?_
      rcases Nat.eq_zero_or_pos (firstF (ls.map lkOf) n) with h0 | h0
      · exact h0
      · have := first_least (ls.map lkOf) n 0 h0 (first_le _ _)
        rw [hlk 0 h] at this
        cases this
  have hz : ∀ x ∈ ls.map lkOf, ∃ z ∈ ls, ∃ j i, j < n ∧ i < m ∧ r j = r (n + i) ∧ (∀ a, x.a ≤ a → a < x.b → r a = r j) ∧ x.a < x.b ∧ (∀ a, x.c ≤ a → a < x.d → r (n + a) = r j) ∧ x.c < x.d := by
    intro x hx
    obtain ⟨z, hz, rfl⟩ := List.mem_map.1 hx
    obtain ⟨j, i, hj, hi, he, h1, h2⟩ := hin z hz
    have S := spans hM hj
    refine ⟨z, hz, j, i, hj, hi, he, ?_⟩
    unfold lkOf
    dsimp only
    have i1 := S.i1; have i2 := S.i2; have o1 := S.o1; have o2 := S.o2
    refine ⟨fun a ha hb => ?_, ?_, fun a ha hb => ?_, ?_⟩
    · rcases h1 with e | e
      · rw [e] at ha hb
        unfold one at ha hb
        dsimp only at ha hb
        rw [show a = j by omega]
      · rw [e] at ha hb
        unfold hullS at ha hb
        dsimp only at ha hb
        exact (S.i3 a (by omega)).1 ⟨by omega, by omega⟩
    · rcases h1 with e | e
      · rw [e]; unfold one; dsimp only; omega
      · rw [e]; unfold hullS; dsimp only; omega
    · rcases h2 with e | e
      · rw [e] at ha hb
        unfold one at ha hb
        dsimp only at ha hb
        rw [show a = i by omega]; exact he.symm
      · rw [e] at ha hb
        unfold hullS at ha hb
        dsimp only at ha hb
        exact (S.o3 a (by omega)).1 ⟨by omega, by omega⟩
    · rcases h2 with e | e
      · rw [e]; unfold one; dsimp only; omega
      · rw [e]; unfold hullS; dsimp only; omega
  refine ⟨fun R hR x => ?_, ⟨⟨fun _ => rfl, fun _ _ h => h.symm, fun _ _ _ h h' => h.trans h'⟩, fun x hx i h1 h2 => ?_, fun x hx i h1 h2 => ?_, fun x hx => ?_, fun i h0 h1 h2 => ?_, fun i h1 h2 => ?_, fun i j k h1 h2 h3 h4 => hM.b1 i j k (Nat.zero_le _) h1 h2 h3 h4, fun i j k h0 h1 h2 h3 h4 => hM.b2 i j k h0 h1 h2 h3 h4⟩⟩
  · have hA := hall R hR
    -- places of one label belong together
    have key : ∀ x y, x < n + m → y < n + m → r x = r y → R x y := by
      have k1 : ∀ x y, x < n → y < n → r x = r y → R x y := fun x y hx hy e => by
        obtain ⟨i, hi, e1⟩ := hM.outs x hx
        exact hR.eqv.trans _ _ _ (hA x i hx hi e1.symm) (hR.eqv.symm _ _ (hA y i hy hi (e.symm.trans e1.symm)))
      have k2 : ∀ x y, x < n → n ≤ y → y < n + m → r x = r y → R x y := fun x y hx hy hy2 e => by
        have := hA x (y - n) hx (by omega) (by rw [show n + (y - n) = y by omega]; exact e)
        rwa [show n + (y - n) = y by omega] at this
      intro x y hx hy e
      rcases Nat.lt_or_ge x n with h1 | h1
      · rcases Nat.lt_or_ge y n with h2 | h2
        · exact k1 x y h1 h2 e
        · exact k2 x y h1 h2 hy e
      · rcases Nat.lt_or_ge y n with h2 | h2
        · exact hR.eqv.symm _ _ (k2 y x h2 h1 hx e.symm)
        · obtain ⟨j, hj, e1⟩ := hM.ins (x - n) (by omega)
          rw [show n + (x - n) = x by omega] at e1
          exact hR.eqv.trans _ _ _ (hR.eqv.symm _ _ (k2 j x hj h1 hx e1)) (k2 j y hj h2 hy (e1.trans e))
    rcases Nat.lt_or_ge x (n + m) with h | h
    · exact key x (r x) h (hT.lt x h) (hT.idem x).symm
    · rw [hT.out x h]; exact hR.eqv.refl x
  · obtain ⟨z, _, j, k, _, _, _, g1, g2, _⟩ := hz x hx
    exact (g1 _ (Nat.le_refl _) g2).trans (g1 i h1 h2).symm
  · obtain ⟨z, _, j, k, _, _, _, _, _, g3, g4⟩ := hz x hx
    exact (g3 _ (Nat.le_refl _) g4).trans (g3 i h1 h2).symm
  · obtain ⟨z, _, j, k, _, _, _, g1, g2, g3, g4⟩ := hz x hx
    exact (g1 _ (Nat.le_refl _) g2).trans (g3 _ (Nat.le_refl _) g4).symm
  · rw [hlk i h1] at h2; cases h2
  · omega
theorem same_ahead {n m : Nat} {r : Lab} (hM : MapOk n m r) (hT : Tame (n + m) r) : FinOk n m ((compL (idS n) (cluS n m r n)).map lkOf) r := by
  have mem : ∀ z, z ∈ compL (idS n) (cluS n m r n) ↔ ∃ j, j < n ∧ z = ⟨one j, hullS r n m (r j)⟩ := fun z => by
    rw [mem_compL]
    constructor
    · rintro ⟨x, hx, y, hy, hm, rfl⟩
      obtain ⟨j, hj, rfl⟩ := mem_idS.1 hx
      obtain ⟨k, hk, rfl⟩ := (mem_clu hM).1 hy
      unfold meetB one hullS at hm
      simp only [Bool.and_eq_true, decide_eq_true_eq] at hm
      have S := spans hM hk
      have := (S.i3 j hj).1 (by omega)
      exact ⟨j, hj, by rw [this]⟩
    · rintro ⟨j, hj, rfl⟩
      refine ⟨_, mem_idS.2 ⟨j, hj, rfl⟩, _, (mem_clu hM).2 ⟨j, hj, rfl⟩, ?_, rfl⟩
      have S := spans hM hj
      have := (S.i3 j hj).2 rfl
      unfold meetB one hullS
      simp only [Bool.and_eq_true, decide_eq_true_eq]
      omega
  refine finOk_of hM hT _ (fun z hz => ?_) (fun j hj => ?_) (fun R hR j i hj hi he => ?_)
  · obtain ⟨j, hj, rfl⟩ := (mem z).1 hz
    obtain ⟨i, hi, e⟩ := hM.outs j hj
    exact ⟨j, i, hj, hi, e.symm, .inl rfl, .inr rfl⟩
  · unfold linkedB
    rw [List.any_eq_true]
    refine ⟨_, List.mem_map.2 ⟨_, (mem _).2 ⟨j, hj, rfl⟩, rfl⟩, ?_⟩
    unfold lkOf one
    first | (simp; done) | (simp; omega)
  · have S := spans hM hj
    have hx : lkOf ⟨one j, hullS r n m (r j)⟩ ∈ (compL (idS n) (cluS n m r n)).map lkOf := List.mem_map.2 ⟨_, (mem _).2 ⟨j, hj, rfl⟩, rfl⟩
    have h1 := hR.both _ hx
    have hin := (S.o3 i hi).2 he.symm
    have h2 := hR.outs _ hx i (by unfold lkOf hullS; dsimp only; omega) (by unfold lkOf hullS; dsimp only; omega)
    have e1 : (lkOf ⟨one j, hullS r n m (r j)⟩).a = j := by unfold lkOf one; dsimp only; omega
    rw [e1] at h1
    exact hR.eqv.trans _ _ _ h1 h2
theorem same_behind {n m : Nat} {r : Lab} (hM : MapOk n m r) (hT : Tame (n + m) r) : FinOk n m ((compL (cluS n m r n) (idS m)).map lkOf) r := by
  have mem : ∀ z, z ∈ compL (cluS n m r n) (idS m) ↔ ∃ j i, j < n ∧ i < m ∧ r j = r (n + i) ∧ z = ⟨hullS r 0 n (r j), one i⟩ := fun z => by
    rw [mem_compL]
    constructor
    · rintro ⟨x, hx, y, hy, hm, rfl⟩
      obtain ⟨i, hi, rfl⟩ := mem_idS.1 hy
      obtain ⟨j, hj, rfl⟩ := (mem_clu hM).1 hx
      unfold meetB one hullS at hm
      simp only [Bool.and_eq_true, decide_eq_true_eq] at hm
      have S := spans hM hj
      have := (S.o3 i hi).1 (by omega)
      exact ⟨j, i, hj, hi, this.symm, rfl⟩
    · rintro ⟨j, i, hj, hi, he, rfl⟩
      refine ⟨_, (mem_clu hM).2 ⟨j, hj, rfl⟩, _, mem_idS.2 ⟨i, hi, rfl⟩, ?_, rfl⟩
      have S := spans hM hj
      have := (S.o3 i hi).2 he.symm
      unfold meetB one hullS
      simp only [Bool.and_eq_true, decide_eq_true_eq]
      omega
  refine finOk_of hM hT _ (fun z hz => ?_) (fun j hj => ?_) (fun R hR j i hj hi he => ?_)
  · obtain ⟨j, i, hj, hi, he, rfl⟩ := (mem z).1 hz
    exact ⟨j, i, hj, hi, he, .inr rfl, .inl rfl⟩
  · obtain ⟨i, hi, e⟩ := hM.outs j hj
    have S := spans hM hj
    have := (S.i3 j hj).2 rfl
    unfold linkedB
    rw [List.any_eq_true]
    refine ⟨_, List.mem_map.2 ⟨_, (mem _).2 ⟨j, i, hj, hi, e.symm, rfl⟩, rfl⟩, ?_⟩
    unfold lkOf hullS
    simp
    omega
  · have S := spans hM hj
    have hx : lkOf ⟨hullS r 0 n (r j), one i⟩ ∈ (compL (cluS n m r n) (idS m)).map lkOf := List.mem_map.2 ⟨_, (mem _).2 ⟨j, i, hj, hi, he, rfl⟩, rfl⟩
    have h1 := hR.both _ hx
    have hin := (S.i3 j hj).2 rfl
    have h2 := hR.ins _ hx j (by unfold lkOf hullS; dsimp only; omega) (by unfold lkOf hullS; dsimp only; omega)
    have e1 : (lkOf ⟨hullS r 0 n (r j), one i⟩).c = i := by unfold lkOf one; dsimp only; omega
    rw [e1] at h1
    exact hR.eqv.trans _ _ _ (hR.eqv.symm _ _ h2) h1
theorem wrong_none {n m : Nat} {l : List S45} (hn : 0 < n) (hm : 0 < m) (hn2 : n ≤ 60) (hm2 : m ≤ 60) (hl : ∀ x ∈ l, LinkOk n m x) (hc : ∀ i, i < m → ∃ x ∈ l, x.f1.f0 ≤ (i : Int) ∧ (i : Int) < x.f1.f1) : wrongR n m l = 0 := by
  unfold wrongR
  rw [if_neg (by omega), if_pos]
  · unfold wrongIn
    rw [if_neg (by omega), if_neg (by omega), if_pos]
    rw [List.all_eq_true, Int.toNat_natCast]
    intro i hi
    obtain ⟨x, hx, h1, h2⟩ := hc i (List.mem_range.1 hi)
    unfold outB
    rw [List.any_eq_true]
    exact ⟨x, hx, by simp only [Bool.and_eq_true, decide_eq_true_eq]; exact ⟨h1, h2⟩⟩
  · rw [List.all_eq_true]
    intro x hx
    have h := hl x hx
    unfold okB fitB
    simp only [Bool.and_eq_true, decide_eq_true_eq]
    exact ⟨⟨⟨h.a0, h.ab⟩, h.bn⟩, ⟨h.c0, h.cd⟩, h.dm⟩
theorem ahead_right {n m : Nat} {r : Lab} (hM : MapOk n m r) (hn : 0 < n) (hm : 0 < m) (hn2 : n ≤ 60) (hm2 : m ≤ 60) : wrongR n m (compL (idS n) (cluS n m r n)) = 0 := by
  refine wrong_none hn hm hn2 hm2 (fun z hz => ?_) (fun i hi => ?_)
  · obtain ⟨x, hx, y, hy, _, rfl⟩ := mem_compL.1 hz
    obtain ⟨j, hj, rfl⟩ := mem_idS.1 hx
    obtain ⟨k, hk, rfl⟩ := (mem_clu hM).1 hy
    have S := spans hM hk
    have o1 := S.o1; have o2 := S.o2
    exact ⟨by unfold one; dsimp only; omega, by unfold one; dsimp only; omega, by unfold one; dsimp only; omega, by unfold hullS; dsimp only; omega, by unfold hullS; dsimp only; omega, by unfold hullS; dsimp only; omega⟩
  · obtain ⟨j, hj, e⟩ := hM.ins i hi
    have S := spans hM hj
    have h1 := (S.i3 j hj).2 rfl
    have h2 := (S.o3 i hi).2 e.symm
    refine ⟨⟨one j, hullS r n m (r j)⟩, mem_compL.2 ⟨_, mem_idS.2 ⟨j, hj, rfl⟩, _, (mem_clu hM).2 ⟨j, hj, rfl⟩, ?_, rfl⟩, ?_⟩
    · unfold meetB one hullS
      simp only [Bool.and_eq_true, decide_eq_true_eq]
      omega
    · unfold hullS; dsimp only; omega
theorem behind_right {n m : Nat} {r : Lab} (hM : MapOk n m r) (hn : 0 < n) (hm : 0 < m) (hn2 : n ≤ 60) (hm2 : m ≤ 60) : wrongR n m (compL (cluS n m r n) (idS m)) = 0 := by
  refine wrong_none hn hm hn2 hm2 (fun z hz => ?_) (fun i hi => ?_)
  · obtain ⟨x, hx, y, hy, _, rfl⟩ := mem_compL.1 hz
    obtain ⟨j, hj, rfl⟩ := mem_idS.1 hy
    obtain ⟨k, hk, rfl⟩ := (mem_clu hM).1 hx
    have S := spans hM hk
    have i1 := S.i1; have i2 := S.i2
    exact ⟨by unfold hullS; dsimp only; omega, by unfold hullS; dsimp only; omega, by unfold hullS; dsimp only; omega, by unfold one; dsimp only; omega, by unfold one; dsimp only; omega, by unfold one; dsimp only; omega⟩
  · obtain ⟨j, hj, e⟩ := hM.ins i hi
    have S := spans hM hj
    have h2 := (S.o3 i hi).2 e.symm
    refine ⟨⟨hullS r 0 n (r j), one i⟩, mem_compL.2 ⟨_, (mem_clu hM).2 ⟨j, hj, rfl⟩, _, mem_idS.2 ⟨i, hi, rfl⟩, ?_, rfl⟩, ?_⟩
    · unfold meetB one hullS
      simp only [Bool.and_eq_true, decide_eq_true_eq]
      omega
    · unfold one; dsimp only; omega
def endS (l : List S33) : Int := l.foldl (fun e x => max e x.f1) 0
theorem endS_ge (l : List S33) : ∀ e : Int, e ≤ l.foldl (fun e x => max e x.f1) e ∧ ∀ x ∈ l, x.f1 ≤ l.foldl (fun e x => max e x.f1) e := by
  induction l with
  | nil => intro e; exact ⟨Int.le_refl _, fun x hx => by cases hx⟩
  | cons y t ih =>
    intro e
    obtain ⟨h1, h2⟩ := ih (max e y.f1)
    rw [List.foldl_cons]
    refine ⟨by omega, fun x hx => ?_⟩
    rcases List.mem_cons.1 hx with rfl | hx
    · omega
    · exact h2 x hx
theorem endS_le (n : Int) (l : List S33) (h : ∀ x ∈ l, x.f1 ≤ n) : ∀ e : Int, e ≤ n → l.foldl (fun e x => max e x.f1) e ≤ n := by
  induction l with
  | nil => intro e he; exact he
  | cons y t ih =>
    intro e he
    rw [List.foldl_cons]
    have := h y List.mem_cons_self
    exact ih (fun x hx => h x (List.mem_cons_of_mem _ hx)) _ (by omega)
theorem endS_is (n : Int) (l : List S33) (h0 : 0 ≤ n) (h : ∀ x ∈ l, x.f1 ≤ n) (hc : n = 0 ∨ ∃ x ∈ l, x.f1 = n) : endS l = n := by
  have h1 := endS_le n l h 0 h0
  have h2 := endS_ge l 0
  unfold endS
  rcases hc with rfl | ⟨x, hx, e⟩
  · omega
  · have := h2.2 x hx; omega
theorem end_in {n m : Nat} {r : Lab} (hM : MapOk n m r) : endS ((cluS n m r n).map (·.f0)) = n := by
  refine endS_is n _ (by omega) (fun x hx => ?_) ?_
  · obtain ⟨z, hz, rfl⟩ := List.mem_map.1 hx
    obtain ⟨j, hj, rfl⟩ := (mem_clu hM).1 hz
    have := (spans hM hj).i2
    unfold hullS; dsimp only; omega
  · rcases Nat.eq_zero_or_pos n with h | h
    · exact .inl (by omega)
    · refine .inr ⟨_, List.mem_map.2 ⟨_, (mem_clu hM).2 ⟨n - 1, by omega, rfl⟩, rfl⟩, ?_⟩
      have S := spans hM (j := n - 1) (by omega)
      have := (S.i3 (n - 1) (by omega)).2 rfl
      have := S.i2
      unfold hullS; dsimp only; omega
theorem end_out {n m : Nat} {r : Lab} (hM : MapOk n m r) : endS ((cluS n m r n).map (·.f1)) = m := by
  refine endS_is m _ (by omega) (fun x hx => ?_) ?_
  · obtain ⟨z, hz, rfl⟩ := List.mem_map.1 hx
    obtain ⟨j, hj, rfl⟩ := (mem_clu hM).1 hz
    have := (spans hM hj).o2
    unfold hullS; dsimp only; omega
  · rcases Nat.eq_zero_or_pos m with h | h
    · exact .inl (by omega)
    · obtain ⟨j, hj, e⟩ := hM.ins (m - 1) (by omega)
      refine .inr ⟨_, List.mem_map.2 ⟨_, (mem_clu hM).2 ⟨j, hj, rfl⟩, rfl⟩, ?_⟩
      have S := spans hM hj
      have := (S.o3 (m - 1) (by omega)).2 e.symm
      have := S.o2
      unfold hullS; dsimp only; omega
theorem end_id (n : Nat) : endS ((idS n).map (·.f0)) = n := by
  refine endS_is n _ (by omega) (fun x hx => ?_) ?_
  · obtain ⟨z, hz, rfl⟩ := List.mem_map.1 hx
    obtain ⟨j, hj, rfl⟩ := mem_idS.1 hz
    unfold one; dsimp only; omega
  · rcases Nat.eq_zero_or_pos n with h | h
    · exact .inl (by omega)
    · exact .inr ⟨_, List.mem_map.2 ⟨_, mem_idS.2 ⟨n - 1, by omega, rfl⟩, rfl⟩, by unfold one; dsimp only; omega⟩
theorem id_both (n : Nat) : (idS n).map (·.f1) = (idS n).map (·.f0) := by
  unfold idS; rw [List.map_map, List.map_map]; rfl
theorem idS_check (n : Nat) (d : List S33) (hp : d.Perm ((idS n).map (·.f1))) (hs : d.Pairwise (fun a b => ¬ b.f0 < a.f0)) : checkB n n (idS n) d = true := by
  unfold checkB
  rw [idS_parts n _ (List.Perm.refl _), idS_parts n d (by rw [← id_both]; exact hp) hs]
  · rfl
  · unfold idS
    rw [List.map_map, List.pairwise_map]
    refine List.Pairwise.imp (fun {a b} hab => ?_) (List.pairwise_lt_range (n := n))
    unfold one; simp only [Function.comp]; omega
end Go.Proofs.Ytohhobcipfmkbaa.UWhole
