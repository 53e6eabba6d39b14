/- Texts of this claim, cut to what it needs. -/
import Derived.Test.YtohhobcipfmkbaaKUStable
import Derived.Test.YtohhobcipfmkbaaKUFinDoc
import Derived.Test.YtohhobcipfmkbaaKCFinQ
namespace Go.Proofs.Ytohhobcipfmkbaa.UTurn
open Go.Proofs.Ytohhobcipfmkbaa.PClusterFinest
set_option linter.unusedVariables false
set_option linter.unusedSimpArgs false
def cntT (p : S45) : List S45 → Nat
  | [] => 0
  | q :: l => if q.f0.f0 ≤ p.f0.f0 then cntT p l + 1 else 0
def insT (p : S45) (l : List S45) : List S45 := l.take (cntT p l) ++ [p] ++ l.drop (cntT p l)
def sortT (l : List S45) : List S45 := l.foldl (fun o p => insT p o) []
theorem cntT_le (p : S45) (l : List S45) : cntT p l ≤ l.length := by
  induction l with
  | nil => exact Nat.le_refl _
  | cons q l ih => unfold cntT; split <;> simp <;> omega
theorem rd45_nat (l : List S45) (k : Nat) : rd_T45 l (k : Int) = l.getD k z45 := rfl
theorem cntT_lt (p : S45) (l : List S45) : ∀ k : Nat, k < cntT p l → (rd_T45 l k).f0.f0 ≤ p.f0.f0 := by
  induction l with
  | nil => intro k h; exact absurd h (Nat.not_lt_zero _)
  | cons q l ih =>
    intro k h
    unfold cntT at h
    split at h
    · rename_i hq
      cases k with
      | zero => exact hq
      | succ k =>
        have := ih k (by omega)
        rw [rd45_nat] at this ⊢
        simpa using this
    · exact absurd h (Nat.not_lt_zero _)
theorem cntT_at (p : S45) (l : List S45) (h : cntT p l < l.length) : ¬ (rd_T45 l (cntT p l : Nat)).f0.f0 ≤ p.f0.f0 := by
  induction l with
  | nil => exact absurd h (Nat.not_lt_zero _)
  | cons q l ih =>
    unfold cntT at h ⊢
    split
    · rename_i hq
      rw [if_pos hq] at h
      have := ih (by simpa using h)
      rw [rd45_nat] at this ⊢
      simpa using this
    · rename_i hq
      exact hq
theorem insT_perm (p : S45) (l : List S45) : (insT p l).Perm (p :: l) := by
  unfold insT
  rw [List.append_assoc]
  refine List.perm_middle.trans ?_
  show (p :: (List.take _ l ++ List.drop _ l)).Perm _
  rw [List.take_append_drop]
theorem sortT_snoc (l : List S45) (p : S45) : sortT (l ++ [p]) = insT p (sortT l) := by unfold sortT; rw [List.foldl_append]; rfl
theorem foldT_perm (l : List S45) : ∀ acc : List S45, (l.foldl (fun o p => insT p o) acc).Perm (l ++ acc) := by
  induction l with
  | nil => intro acc; exact List.Perm.refl _
  | cons p l ih =>
    intro acc
    refine (ih (insT p acc)).trans ?_
    refine (List.Perm.append_left l (insT_perm p acc)).trans ?_
    exact List.perm_middle
theorem sortT_perm (l : List S45) : (sortT l).Perm l := by
  have := foldT_perm l []
  rwa [List.append_nil] at this
theorem sortT_len (l : List S45) : (sortT l).length = l.length := (sortT_perm l).length_eq
theorem insT_sorted (p : S45) (l : List S45) (h : l.Pairwise (fun a b => ¬ b.f0.f0 < a.f0.f0)) : (insT p l).Pairwise (fun a b => ¬ b.f0.f0 < a.f0.f0) := by
  unfold insT
  induction l with
  | nil => simp [cntT]
  | cons q l ih =>
    rw [List.pairwise_cons] at h
    unfold cntT
    split
    · rename_i hq
      simp only [List.take_succ_cons, List.drop_succ_cons, List.cons_append, List.pairwise_cons]
      refine ⟨fun b hb => ?_, ih h.2⟩
      have : b ∈ p :: l := (insT_perm p l).mem_iff.1 hb
      rcases List.mem_cons.1 this with rfl | hb
      · omega
      · exact h.1 b hb
    · rename_i hq
      simp only [List.take_zero, List.drop_zero, List.nil_append, List.singleton_append, List.pairwise_cons]
      refine ⟨fun b hb => ?_, h⟩
      rcases List.mem_cons.1 hb with rfl | hb
      · omega
      · have := h.1 b hb
        omega
def swp (x : S45) : S45 := ⟨x.f1, x.f0⟩
def turnT (l : List S45) : List S45 := sortT (l.map swp)
abbrev An := S45 × Nat
def key (x : An) : Int := x.1.f0.f0
def lx (x y : An) : Bool := decide (key x < key y) || (decide (key x = key y) && decide (x.2 < y.2))
theorem lx_true {x y : An} : lx x y = true ↔ key x < key y ∨ (key x = key y ∧ x.2 < y.2) := by unfold lx; simp
theorem lx_false {x y : An} : lx x y = false ↔ ¬ (key x < key y ∨ (key x = key y ∧ x.2 < y.2)) := by rw [← lx_true]; simp
theorem swoX : Go.Sort.SWO lx where
  irrefl x := by rw [lx_false]; omega
  trans x y z h1 h2 := by rw [lx_true] at *; omega
  ntrans x y z h1 h2 := by rw [lx_false] at *; omega
def cntA (p : An) : List An → Nat
  | [] => 0
  | q :: l => if key q ≤ key p then cntA p l + 1 else 0
def insA (p : An) (l : List An) : List An := l.take (cntA p l) ++ [p] ++ l.drop (cntA p l)
theorem cntA_is (p : An) (l : List An) : cntT p.1 (l.map (·.1)) = cntA p l := by
  induction l with
  | nil => rfl
  | cons q l ih =>
    rw [List.map_cons]
    unfold cntT cntA
    rw [ih]
    rfl
theorem insA_is (p : An) (l : List An) : (insA p l).map (·.1) = insT p.1 (l.map (·.1)) := by
  unfold insA insT
  rw [cntA_is, List.map_append, List.map_append, List.map_take, List.map_drop]
  rfl
theorem insA_perm (p : An) (l : List An) : (insA p l).Perm (p :: l) := by
  unfold insA
  rw [List.append_assoc]
  refine List.perm_middle.trans ?_
  show (p :: (List.take _ l ++ List.drop _ l)).Perm _
  rw [List.take_append_drop]
def Sorted (l : List An) : Prop := l.Pairwise fun a b => lx b a = false
theorem insA_sorted (p : An) (l : List An) (h : Sorted l) (hp : ∀ q ∈ l, q.2 < p.2) : Sorted (insA p l) := by
  unfold Sorted at *
  unfold insA
  induction l with
  | nil => simp [cntA]
  | cons q l ih =>
    rw [List.pairwise_cons] at h
    have hq2 := hp q List.mem_cons_self
    unfold cntA
    split
    · rename_i hq
      simp only [List.take_succ_cons, List.drop_succ_cons, List.cons_append, List.pairwise_cons]
      refine ⟨fun b hb => ?_, ih h.2 (fun x hx => hp x (List.mem_cons_of_mem _ hx))⟩
      have : b ∈ p :: l := (insA_perm p l).mem_iff.1 hb
      rcases List.mem_cons.1 this with rfl | hb
      · rw [lx_false]; omega
      · exact h.1 b hb
    · rename_i hq
      simp only [List.take_zero, List.drop_zero, List.nil_append, List.singleton_append, List.pairwise_cons]
      refine ⟨fun b hb => ?_, h⟩
      rcases List.mem_cons.1 hb with rfl | hb
      · rw [lx_false]; omega
      · have h1 := h.1 b hb
        have h2 := hp b (List.mem_cons_of_mem _ hb)
        rw [lx_false] at h1 ⊢
        omega
def sortA (l : List An) : List An := l.foldl (fun o p => insA p o) []
theorem foldA_is (l : List An) : ∀ o : List An, (l.foldl (fun o p => insA p o) o).map (·.1) = (l.map (·.1)).foldl (fun o p => insT p o) (o.map (·.1)) := by
  induction l with
  | nil => intro o; rfl
  | cons p l ih => intro o; rw [List.foldl_cons, ih, insA_is]; rfl
theorem foldA_perm (l : List An) : ∀ o : List An, (l.foldl (fun o p => insA p o) o).Perm (l ++ o) := by
  induction l with
  | nil => intro o; exact List.Perm.refl _
  | cons p l ih =>
    intro o
    refine (ih (insA p o)).trans ?_
    refine (List.Perm.append_left l (insA_perm p o)).trans ?_
    exact List.perm_middle
theorem foldA_sorted (l : List S45) : ∀ (k : Nat) (o : List An), Sorted o → (∀ q ∈ o, q.2 < k) → Sorted ((l.zipIdx k).foldl (fun o p => insA p o) o) := by
  induction l with
  | nil => intro k o h _; exact h
  | cons x l ih =>
    intro k o h hk
    rw [List.zipIdx_cons, List.foldl_cons]
    refine ih (k + 1) _ (insA_sorted (x, k) o h hk) (fun q hq => ?_)
    rcases List.mem_cons.1 ((insA_perm (x, k) o).mem_iff.1 hq) with rfl | hq
    · exact Nat.lt_succ_self k
    · have := hk q hq; omega
theorem uniq : ∀ (a b : List An), a.Perm b → Sorted a → Sorted b → (∀ x ∈ a, ∀ y ∈ a, x.2 = y.2 → x = y) → a = b
  | [], b, hp, _, _, _ => (List.nil_perm.1 hp).symm
  | x :: r, b, hp, ha, hb, hi => by
    cases b with
    | nil => exact absurd (List.perm_nil.1 hp) (by simp)
    | cons y t =>
      unfold Sorted at ha hb
      rw [List.pairwise_cons] at ha hb
      have hxy : x = y := by
        rcases List.mem_cons.1 (hp.mem_iff.1 List.mem_cons_self) with h | h
        · exact h
        · rcases List.mem_cons.1 (hp.mem_iff.2 List.mem_cons_self) with h2 | h2
          · exact h2.symm
          · have h3 := hb.1 x h
            have h4 := ha.1 y h2
            rw [lx_false] at h3 h4
            exact hi x List.mem_cons_self y (List.mem_cons_of_mem _ h2) (by omega)
      subst hxy
      rw [uniq r t hp.cons_inv ha.2 hb.2 (fun z hz u hu => hi z (List.mem_cons_of_mem _ hz) u (List.mem_cons_of_mem _ hu))]
theorem zip_fst (l : List S45) (k : Nat) : (l.zipIdx k).map (·.1) = l := by
  induction l generalizing k with
  | nil => rfl
  | cons x l ih => rw [List.zipIdx_cons, List.map_cons, ih]
theorem stable_is (l : List S45) (d : List An) (hp : d.Perm l.zipIdx) (hs : Sorted d) : d.map (·.1) = sortT l := by
  have h1 : Sorted (sortA l.zipIdx) := foldA_sorted l 0 [] List.Pairwise.nil (fun q hq => by cases hq)
  have h2 : (sortA l.zipIdx).Perm l.zipIdx := by
    have := foldA_perm l.zipIdx []
    rwa [List.append_nil] at this
  have h3 : d = sortA l.zipIdx := uniq d _ (hp.trans h2.symm) hs h1 (fun x hx y hy e => by
    have hx' := List.mem_zipIdx_iff_getElem?.1 (hp.mem_iff.1 hx)
    have hy' := List.mem_zipIdx_iff_getElem?.1 (hp.mem_iff.1 hy)
    rw [e, hy'] at hx'
    exact Prod.ext (Option.some.inj hx').symm e)
  rw [h3]
  unfold sortA sortT
  rw [foldA_is, zip_fst]
  rfl
end Go.Proofs.Ytohhobcipfmkbaa.UTurn
