/- slices.Equal on whole numbers, and a literal slice: contracts over slices that read as lists. -/
import Derived.Test.YtfkgjoflekemaaaPResolveLinex1
import Derived.Test.YtfkgjoflekemaaaUKit
namespace Go.Proofs.Ytfkgjoflekemaaa.CBase
open Go.RowKit Go.Proofs.Ytfkgjoflekemaaa.PResolveLine Go.Proofs.YtfkgjoflekemaaaW.PrintWords Go.Proofs.YtfkgjoflekemaaaW.PrintLast Go.Proofs.Ytfkgjoflekemaaa.U
set_option linter.unusedVariables false

/-! ### slices.Equal -/
theorem equal_loop (xs ys : List Int) (hl : xs.length = ys.length) (hm : xs.length ≤ 1000000000000) (d : Nat) : ∀ i : Nat, i + d = xs.length →
    Ev (fun k => slices_Equal_int_int.l0 k xs ys (xs.length : Int) (i : Int)) (decide (xs.drop i = ys.drop i)) := by
  induction d with
  | zero =>
    intro i hi
    refine Ev.step (fun k => by rw [slices_Equal_int_int.l0]) ?_
    refine ev_neg (by omega) (ev_eq (ev_now _) ?_)
    rw [List.drop_of_length_le (by omega), List.drop_of_length_le (by omega)]
    simp
  | succ d ih =>
    intro i hi
    refine Ev.step (fun k => by rw [slices_Equal_int_int.l0]) ?_
    refine ev_pos (by omega) (ev_pos (by omega) (ev_pos (by omega) (ev_pos (by omega) ?_)))
    rw [rd_get (show i < xs.length by omega), rd_get (show i < ys.length by omega), List.drop_eq_getElem_cons (l := xs) (show i < xs.length by omega), List.drop_eq_getElem_cons (l := ys) (show i < ys.length by omega)]
    refine ev_ite (fun h => ?_) (fun h => ?_)
    · rw [w64 (by omega) (by omega)]
      refine ev_eq (ih (i + 1) (by omega)) ?_
      simp only [List.cons.injEq, h, true_and]
    · refine ev_eq (ev_now _) ?_
      simp only [List.cons.injEq, h, false_and, decide_false]
theorem equal_ev (xs ys : List Int) (hm : xs.length ≤ 1000000000000) : Ev (fun k => slices_Equal_int_int.f k xs ys) (decide (xs = ys)) := by
  unfold slices_Equal_int_int.f
  refine ev_ite (fun h => ?_) (fun h => ?_)
  · simpa using equal_loop xs ys (by omega) hm xs.length 0 (by omega)
  · refine ev_eq (ev_now _) ?_
    symm
    rw [decide_eq_false_iff_not]
    rintro rfl
    exact h rfl


theorem equal_c {u v : Value} {xs ys : List Int} {w : World} (h1 : SL w u xs) (h2 : SL w v ys) (hm : xs.length ≤ 1000000000000) :
    Calls Try.prog 20 #[u, v] w fun e w' => e = .returned (.bool (decide (xs = ys))) ∧ Below w.heap.size w w' := by
  obtain ⟨A, c, rfl, hc, h1⟩ := h1
  obtain ⟨B, d, rfl, hd, h2⟩ := h2
  obtain ⟨k, hk⟩ := (equal_ev xs ys hm).rounds
  exact (slices_Equal_int_int.calls k A c xs B d ys _ w h1 hc h2 hd hk).mono fun e w' h => ⟨h.1, h.2.below⟩
theorem SL_lit (w : World) (t : TypeId) (xs : List Int) (hm : xs.length ≤ 1000000) : SL (w.alloc (.cells (xs.map (Value.int .i64)).toArray t)) (.slice (some ⟨w.heap.size, 0, none⟩) xs.length xs.length) xs := by
  refine ⟨_, _, rfl, Nat.le_refl _, ?_⟩
  refine Kd.C_of_reads (d := (0 : Int)) (h1 := fun _ => rfl) ⟨rfl, by omega, fun _ => ⟨_, rfl, fun j hj => ?_⟩⟩
  rw [add_plain, World.cell?_alloc_new]
  simp [List.getElem?_eq_getElem hj, List.getD_eq_getElem?_getD]
end Go.Proofs.Ytfkgjoflekemaaa.CBase
