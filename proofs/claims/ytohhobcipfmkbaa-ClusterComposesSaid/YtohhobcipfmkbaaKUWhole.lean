/- Texts of this claim, cut to what it needs. -/
import Derived.Test.YtohhobcipfmkbaaKCChk1
namespace Go.Proofs.Ytohhobcipfmkbaa.UWhole
open Go.Proofs.Ytohhobcipfmkbaa.PClusterFinest Go.Proofs.Ytohhobcipfmkbaa.UFinest Go.Proofs.Ytohhobcipfmkbaa.UFinEv Go.Proofs.Ytohhobcipfmkbaa.CFin Go.Proofs.Ytohhobcipfmkbaa.CSort
set_option linter.unusedVariables false
set_option linter.unusedSimpArgs false
def meetB (a b : S33) : Bool := decide (a.f0 < b.f1) && decide (b.f0 < a.f1)
def compL (a b : List S45) : List S45 := a.flatMap fun x => (b.filter fun y => meetB x.f1 y.f0).map fun y => ⟨x.f0, y.f1⟩
theorem compL_len (a b : List S45) : (compL a b).length ≤ a.length * b.length := by
  unfold compL
  induction a with
  | nil => simp
  | cons x r ih =>
    rw [List.flatMap_cons, List.length_append, List.length_map, List.length_cons, Nat.add_mul, Nat.one_mul]
    have := List.length_filter_le (fun y => meetB x.f1 y.f0) b
    omega
def one (i : Nat) : S33 := ⟨(i : Int), (i : Int) + 1⟩
def endS (l : List S33) : Int := l.foldl (fun e x => max e x.f1) 0
theorem endS_ge (l : List S33) : ∀ e : Int, e ≤ l.foldl (fun e x => max e x.f1) e ∧ ∀ x ∈ l, x.f1 ≤ l.foldl (fun e x => max e x.f1) e := by
  induction l with
  | nil => intro e; exact ⟨Int.le_refl _, fun x hx => by cases hx⟩
  | cons y t ih =>
    intro e
    obtain ⟨h1, h2⟩ := ih (max e y.f1)
    rw [List.foldl_cons]
    refine ⟨by omega, fun x hx => ?_⟩
    rcases List.mem_cons.1 hx with rfl | hx
    · omega
    · exact h2 x hx
theorem endS_le (n : Int) (l : List S33) (h : ∀ x ∈ l, x.f1 ≤ n) : ∀ e : Int, e ≤ n → l.foldl (fun e x => max e x.f1) e ≤ n := by
  induction l with
  | nil => intro e he; exact he
  | cons y t ih =>
    intro e he
    rw [List.foldl_cons]
    have := h y List.mem_cons_self
    exact ih (fun x hx => h x (List.mem_cons_of_mem _ hx)) _ (by omega)
end Go.Proofs.Ytohhobcipfmkbaa.UWhole
