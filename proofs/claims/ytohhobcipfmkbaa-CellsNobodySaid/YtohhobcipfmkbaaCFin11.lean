/- A map from whole numbers to places in a list; a row of clusters whose cells are written. -/
import Derived.Test.YtohhobcipfmkbaaCFin3
import Derived.Test.YtohhobcipfmkbaaUFinDoc
namespace Go.Proofs.Ytohhobcipfmkbaa.CFin
open Go.RowKit Go.Maps Go.Proofs.YtohhobcipfmkbaaW.PrintWords Go.Proofs.YtohhobcipfmkbaaW.PrintMore Go.Proofs.YtohhobcipfmkbaaW.PrintLast Go.Proofs.Ytohhobcipfmkbaa.U Go.Proofs.Ytohhobcipfmkbaa.PClusterFinest Go.Proofs.Ytohhobcipfmkbaa.UFinest Go.Proofs.Ytohhobcipfmkbaa.UFinEv
set_option linter.unusedVariables false
set_option linter.unusedSimpArgs false
/-- block b is a map of at most n entries: the keys are those of l, each tells its place in l -/
def MO (w : World) (b n : Nat) (l : List Nat) : Prop := ∃ D : DataW Unit, IsMap D ∧ w.ownsMap Try.prog 3 (plainElem Try.prog 3) b n D ∧ (∀ v : Nat, has D (.int .i64 v) = decide (v ∈ l)) ∧ ∀ v : Nat, v ∈ l → D.atKey (.int .i64 v) (.lit (.int .i64 0)) = .lit (.int .i64 (l.idxOf v : Nat))
theorem MO.made (w : World) : MO (w.alloc (.map #[] 0)) w.heap.size 0 [] := ⟨.map [], isMap_empty, World.ownsMap_made w _ _ _, fun v => rfl, fun v h => by cases h⟩
theorem MO.kept {w w' : World} {b n : Nat} {l : List Nat} (h : MO w b n l) {row : Option Nat} (hg : w.grownBy w' row) (hne : some b ≠ row) : MO w' b n l := by
  obtain ⟨D, h1, h2, h3⟩ := h
  exact ⟨D, h1, h2.kept hg hne, h3⟩
theorem MO.mono {w : World} {b n n' : Nat} {l : List Nat} (h : MO w b n l) (hn : n ≤ n') : MO w b n' l := by
  obtain ⟨D, h1, h2, h3⟩ := h
  exact ⟨D, h1, h2.mono hn, h3⟩
theorem MO.lt {w : World} {b n : Nat} {l : List Nat} (h : MO w b n l) : b < w.heap.size := by
  obtain ⟨D, h1, h2, h3⟩ := h
  exact h2.lt
set_option maxRecDepth 100000 in
theorem MO.lookup {w : World} {b n : Nat} {l : List Nat} (h : MO w b n l) (v : Nat) (hv : v ≤ 1000000) (hl : v ∈ l) : (Instr.lookup 112 (.map (some b)) (.int .i64 v) false).run Try.prog w = .ok (.int .i64 (l.idxOf v : Nat)) w := by
  obtain ⟨D, h1, h2, h3, h4⟩ := h
  obtain ⟨c, hr, hc, _⟩ := h2.lookup_int keyed3 Try.underlying112 Try.underlying3 (zero3 w) (key3 v hv)
  rw [h4 v hl] at hc
  injection hc with hc
  injection hc with _ hc
  rw [hc]
  exact hr
set_option maxRecDepth 100000 in
theorem MO.look {w : World} {b n : Nat} {l : List Nat} (h : MO w b n l) (v : Nat) (hv : v ≤ 1000000) : (Instr.lookup 112 (.map (some b)) (.int .i64 v) true).run Try.prog w = .ok (.tuple #[.int .i64 (if v ∈ l then l.idxOf v else 0 : Nat), .bool (decide (v ∈ l))]) w := by
  obtain ⟨D, h1, h2, h3, h4⟩ := h
  obtain ⟨es, clock, hb, F, _, rfl⟩ := h2
  rcases Maps.fit_look true keyed3 Try.underlying112 (zero3 w) hb F (key3 v hv) with ⟨hrun, _, hat⟩ | ⟨e0, y, _, _, hrun, hRv, hat, _⟩
  · have hf := has_false_of_atKey hat
    rw [h3 v, decide_eq_false_iff_not] at hf
    rw [if_neg hf, decide_eq_false hf]
    exact hrun
  · have hf := has_true_of_atKey hat
    rw [h3 v, decide_eq_true_eq] at hf
    rw [if_pos hf, decide_eq_true hf]
    obtain ⟨a, ha, rfl, _⟩ := plainElem_int_inv Try.underlying3 hRv
    have := (h4 v hf).symm.trans (hat _)
    injection this with hc
    injection hc with _ hc
    rw [hc, ← ha]
    exact hrun
theorem MO.put {w' : World} {b n v : Nat} {l : List Nat} {D : DataW Unit} (h1 : IsMap D) (h3 : ∀ v : Nat, has D (.int .i64 v) = decide (v ∈ l)) (h4 : ∀ v : Nat, v ∈ l → D.atKey (.int .i64 v) (.lit (.int .i64 0)) = .lit (.int .i64 (l.idxOf v : Nat))) (hv : v ≤ 1000000) (hl : v ∉ l) (h2 : w'.ownsMap Try.prog 3 (plainElem Try.prog 3) b (n + 1) (D.put (.int .i64 v) (.lit (.int .i64 (l.length : Nat))))) : MO w' b (n + 1) (l ++ [v]) := by
  have hk := keyed3.key (key3 v hv)
  refine ⟨_, h1.put _ _, h2, fun x => ?_, fun x hx => ?_⟩
  · by_cases e : x = v
    · subst e
      rw [has_put_same h1 hk, decide_eq_true (by simp)]
    · rw [has_put_other (fun h => e (by injection h with _ h; omega)), h3]
      simp [e]
  · by_cases e : x = v
    · subst e
      rw [atKey_put_same h1 hk, List.idxOf_append, if_neg hl]
      simp
    · have hx' : x ∈ l := by simpa [e] using hx
      rw [atKey_put_other (fun h => e (by injection h with _ h; omega)), h4 x hx', List.idxOf_append, if_pos hx']
/-! ### a row of clusters -/
def fld (x : S45) : Nat → Int
  | 0 => x.f0.f0
  | 1 => x.f0.f1
  | 2 => x.f1.f0
  | _ => x.f1.f1
def setF (x : S45) (j : Nat) (u : Int) : S45 :=
  match j with
  | 0 => ⟨⟨u, x.f0.f1⟩, x.f1⟩
  | 1 => ⟨⟨x.f0.f0, u⟩, x.f1⟩
  | 2 => ⟨x.f0, ⟨u, x.f1.f1⟩⟩
  | _ => ⟨x.f0, ⟨x.f1.f0, u⟩⟩
/-- the row of clusters in block q -/
def RC (w : World) (base q cap : Nat) (xs : List S45) : Prop := Kd.R k45 45 w base (fun k => k = q) (.slice (some ⟨q, 0, none⟩) xs.length cap) xs
theorem RC.cell {w : World} {base q cap : Nat} {xs : List S45} (h : RC w base q cap xs) (i : Nat) (hi : i < xs.length) (j : Nat) (hj : j < 4) : w.cell? ⟨q, i * 4 + j, none⟩ = some (.int .i64 (fld xs[i] j)) ∧ w.frozen? ⟨q, i * 4 + j, none⟩ = false := by
  obtain ⟨c, _, hM, hc, hf⟩ := Kd.R_elem h z45 (i : Int) (by omega) (by omega)
  rw [Int.toNat_natCast, List.getD_eq_getElem?_getD, List.getElem?_eq_getElem hi] at hM
  obtain rfl := k45_openM hM
  rw [Int.toNat_natCast] at hc hf
  refine ⟨?_, hf j⟩
  match j, hj with
  | 0, _ => exact hc 0 _ rfl
  | 1, _ => exact hc 1 _ rfl
  | 2, _ => exact hc 2 _ rfl
  | 3, _ => exact hc 3 _ rfl
theorem RC.put {w : World} {base q cap : Nat} {xs : List S45} (h : RC w base q cap xs) (i : Nat) (hi : i < xs.length) (j : Nat) (hj : j < 4) (u : Int) : RC (w.setCell ⟨q, i * 4 + j, none⟩ (.int .i64 u)) base q cap (xs.set i (setF xs[i] j u)) := by
  obtain ⟨c, hl, hM, hc, hf⟩ := Kd.R_elem h z45 (i : Int) (by omega) (by omega)
  rw [Int.toNat_natCast, List.getD_eq_getElem?_getD, List.getElem?_eq_getElem hi] at hM
  obtain rfl := k45_openM hM
  unfold RC
  rw [List.length_set]
  have := (Kd.R_seg h (i : Int) (by omega) (by omega) (c := _) (seg := [.int .i64 u]) (j := j) (x' := setF xs[i] j u) (okp := fun _ => False) hl hc (by show j + 1 ≤ 4; omega) (by
    match j, hj with
    | 0, _ => exact k45_mkM _ _ _ _
    | 1, _ => exact k45_mkM _ _ _ _
    | 2, _ => exact k45_mkM _ _ _ _
    | 3, _ => exact k45_mkM _ _ _ _) (fun _ h => h.elim)).1
  rw [Int.toNat_natCast] at this
  exact this
theorem RC.grown {w w' : World} {base q cap : Nat} {xs : List S45} (h : RC w base q cap xs) {row : Option Nat} (hg : w.grownBy w' row) (hne : some q ≠ row) : RC w' base q cap xs := Kd.R_grown h hg (fun k hk => by rw [hk]; exact hne)
theorem RC.lt {w : World} {base q cap : Nat} {xs : List S45} (h : RC w base q cap xs) (hp : 0 < xs.length) : base ≤ q ∧ q < w.heap.size := by
  obtain ⟨g, cap', e, h1, h2, _⟩ := Kd.R_form h hp
  injection e with e1 _ _
  injection e1 with e1
  injection e1 with e1
  subst e1
  exact ⟨h1, h2⟩
end Go.Proofs.Ytohhobcipfmkbaa.CFin
