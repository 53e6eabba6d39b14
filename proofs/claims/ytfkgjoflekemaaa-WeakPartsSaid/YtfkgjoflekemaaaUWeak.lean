/- Plain: behind the steps of the weak types none of the weak ones is left but digits; a strong one parts what is ahead from what is behind. -/
import Derived.Test.YtfkgjoflekemaaaCWeak5
namespace Go.Proofs.Ytfkgjoflekemaaa.CWeak
open Go.RowKit Go.Proofs.YtfkgjoflekemaaaW.PrintWords Go.Proofs.Ytfkgjoflekemaaa.U
theorem eachL_nil (o nx : Int → Int → Int) (s : Int) : eachL o nx s [] = [] := rfl
theorem rd_cons (c : Int) (l : List Int) (i : Nat) : rd (c :: l) ((i + 1 : Nat) : Int) = rd l (i : Int) := by
  rw [rd_nat, rd_nat]
  simp
theorem rd_zero (c : Int) (l : List Int) : rd (c :: l) ((0 : Nat) : Int) = c := by
  rw [rd_nat]
  simp
theorem eachL_cons (o nx : Int → Int → Int) (s c : Int) (l : List Int) : eachL o nx s (c :: l) = o s c :: eachL o nx (nx s c) l := by
  unfold eachL
  rw [List.length_cons, List.range_succ_eq_map, List.map_cons, List.map_map]
  congr 1
theorem eachL_append (o nx : Int → Int → Int) (a b : List Int) : ∀ s, eachL o nx s (a ++ b) = eachL o nx s a ++ eachL o nx (a.foldl nx s) b := by
  induction a with
  | nil => intro s; rfl
  | cons c a ih => intro s; rw [List.cons_append, eachL_cons, ih, eachL_cons]; rfl
theorem eachL_all (o nx : Int → Int → Int) (Q P : Int → Prop) (hQ : ∀ s c, Q s → Q (nx s c)) (l : List Int) (R : Int → Prop) (hl : ∀ c ∈ l, R c) (hP : ∀ s c, Q s → R c → P (o s c)) : ∀ s, Q s → ∀ x ∈ eachL o nx s l, P x := by
  induction l with
  | nil => intro s _ x hx; simp [eachL_nil] at hx
  | cons c l ih =>
    intro s hs x hx
    rw [eachL_cons, List.mem_cons] at hx
    rcases hx with rfl | hx
    · exact hP s c hs (hl c List.mem_cons_self)
    · exact ih (fun c hc => hl c (List.mem_cons_of_mem _ hc)) _ (hQ s c hs) x hx
theorem rd_mem {l : List Int} {i : Nat} (h : i < l.length) : rd l (i : Int) ∈ l := by
  rw [rd_get h]
  exact List.getElem_mem h
theorem betw_or (s a b : Int) : betw s a b = s ∨ betw s a b = 3 ∨ betw s a b = 6 := by
  unfold betw
  split
  · split
    · rename_i h; exact .inr (.inl h.1)
    · split
      · rename_i h; exact .inr (.inr h.1)
      · exact .inl rfl
  · exact .inl rfl
theorem v4_or (l : List Int) (i : Nat) : v4 l i = rd l (i : Int) ∨ v4 l i = 3 ∨ v4 l i = 6 := by
  cases i with
  | zero => exact .inl rfl
  | succ i =>
    rw [v4]
    split
    · exact betw_or _ _ _
    · exact .inl rfl
theorem w4_all (P : Int → Prop) (h3 : P 3) (h6 : P 6) (l : List Int) (hl : ∀ c ∈ l, P c) : ∀ x ∈ w4L l, P x := by
  intro x hx
  obtain ⟨i, hi, rfl⟩ := List.mem_map.1 hx
  rcases v4_or l i with h | h | h <;> rw [h]
  · exact hl _ (rd_mem (List.mem_range.1 hi))
  · exact h3
  · exact h6
theorem w5_all (P : Int → Prop) (h3 : P 3) (l : List Int) (hl : ∀ c ∈ l, P c) : ∀ x ∈ w5L l, P x := by
  intro x hx
  obtain ⟨i, hi, rfl⟩ := List.mem_map.1 hx
  unfold v5
  split
  · exact h3
  · exact hl _ (rd_mem (List.mem_range.1 hi))
theorem gone (s : Int) (hs : s = 0 ∨ s = 1) (l : List Int) : ∀ x ∈ allW s l, x ≠ 2 ∧ x ≠ 8 ∧ x ≠ 4 ∧ x ≠ 5 ∧ x ≠ 7 := by
  have h1 : ∀ x ∈ t1 s l, x ≠ 8 := eachL_all o1 o1 (· ≠ 8) (· ≠ 8) (fun s c h => by unfold o1; split <;> (try split) <;> omega) l (fun _ => True) (fun _ _ => trivial) (fun s c h _ => by unfold o1; split <;> (try split) <;> omega) s (by omega)
  have h2 : ∀ x ∈ t2 s l, x ≠ 8 := eachL_all o2 nx2 (fun _ => True) (· ≠ 8) (fun _ _ _ => trivial) _ (· ≠ 8) h1 (fun s c _ h => by unfold o2; split <;> omega) s trivial
  have h3 : ∀ x ∈ t3 s l, x ≠ 8 ∧ x ≠ 2 := eachL_all o3 _ (fun _ => True) (fun x => x ≠ 8 ∧ x ≠ 2) (fun _ _ _ => trivial) _ (· ≠ 8) h2 (fun s c _ h => by unfold o3; split <;> omega) 0 trivial
  have h4 : ∀ x ∈ t4 s l, x ≠ 8 ∧ x ≠ 2 := w4_all _ (by omega) (by omega) _ h3
  have h5 : ∀ x ∈ t5 s l, x ≠ 8 ∧ x ≠ 2 := w5_all _ (by omega) _ h4
  have h6 : ∀ x ∈ t6 s l, x ≠ 2 ∧ x ≠ 8 ∧ x ≠ 4 ∧ x ≠ 5 ∧ x ≠ 7 := eachL_all o6 _ (fun _ => True) (fun x => x ≠ 2 ∧ x ≠ 8 ∧ x ≠ 4 ∧ x ≠ 5 ∧ x ≠ 7) (fun _ _ _ => trivial) _ _ h5 (fun s c _ h => by
    unfold o6
    split
    · omega
    · rename_i hc
      simp only [List.mem_cons, List.not_mem_nil, or_false] at hc
      omega) 0 trivial
  exact eachL_all o7 nx7 (fun _ => True) (fun x => x ≠ 2 ∧ x ≠ 8 ∧ x ≠ 4 ∧ x ≠ 5 ∧ x ≠ 7) (fun _ _ _ => trivial) _ _ h6 (fun s c _ h => by unfold o7; split <;> omega) s trivial
/-! a strong one parts -/
def w4R (p : Int) : List Int → List Int
  | [] => []
  | [c] => [c]
  | c :: d :: l => betw c p d :: w4R (betw c p d) (d :: l)
def w4S : List Int → List Int
  | [] => []
  | c :: l => c :: w4R c l
theorem w4R_two (p c d : Int) (l : List Int) : w4R p (c :: d :: l) = betw c p d :: w4R (betw c p d) (d :: l) := rfl
theorem w4R_one (p c : Int) : w4R p [c] = [c] := rfl
theorem w4R_nil (p : Int) : w4R p [] = [] := rfl
theorem w4S_cons (c : Int) (l : List Int) : w4S (c :: l) = c :: w4R c l := rfl
theorem bk_succ (l : List Int) (k : Nat) : bk l (k + 1) = if rd l k = 5 then bk l k else rd l k := rfl
theorem bk_zero (l : List Int) : bk l 0 = -1 := rfl
theorem fw_succ (l : List Int) (k n : Nat) : fw l k (n + 1) = if rd l k = 5 then fw l (k + 1) n else rd l k := rfl
theorem fw_zero (l : List Int) (k : Nat) : fw l k 0 = -1 := rfl
theorem v4_from (c : Int) (l : List Int) (p : Int) : ∀ (l' : List Int) (m : Nat), (c :: l).drop (m + 1) = l' → v4 (c :: l) m = p → (List.range l'.length).map (fun i => v4 (c :: l) (m + 1 + i)) = w4R p l' := by
  intro l'
  induction l' generalizing p with
  | nil => intro m _ _; rfl
  | cons d l' ih =>
    intro m hd hp
    have hlen : (c :: l).length = m + 1 + (d :: l').length := by
      have := congrArg List.length hd
      rw [List.length_drop, List.length_cons, List.length_cons] at this
      rw [List.length_cons, List.length_cons]
      omega
    have hrd : ∀ j, rd (c :: l) ((m + 1 + j : Nat) : Int) = rd (d :: l') (j : Int) := fun j => by
      rw [rd_nat, rd_nat, ← hd, List.getD_eq_getElem?_getD, List.getD_eq_getElem?_getD, List.getElem?_drop]
    rw [List.length_cons, List.range_succ_eq_map, List.map_cons, List.map_map]
    have hz : v4 (c :: l) (m + 1 + 0) = if l' = [] then d else betw d p (rd l' (0 : Nat)) := by
      rw [Nat.add_zero, v4]
      have e0 := hrd 0
      rw [Nat.add_zero, rd_zero] at e0
      rw [e0]
      cases l' with
      | nil => rw [if_neg (by rw [hlen]; simp), if_pos rfl]
      | cons e l'' =>
        rw [if_pos (by rw [hlen]; simp only [List.length_cons]; omega), if_neg (by simp)]
        have e1 := hrd 1
        rw [hp, show m + 2 = m + 1 + 1 from rfl, e1, rd_cons]
    cases l' with
    | nil =>
      rw [hz, if_pos rfl]
      rfl
    | cons e l'' =>
      have hd' : (c :: l).drop (m + 1 + 1) = e :: l'' := by
        rw [← List.drop_drop, hd]
        rfl
      have := ih (v4 (c :: l) (m + 1)) (m + 1) hd' rfl
      rw [Nat.add_zero] at hz
      rw [if_neg (by simp), rd_zero] at hz
      rw [w4R_two, Nat.add_zero, hz]
      congr 1
      rw [← hz, ← this]
      apply List.map_congr_left
      intro i _
      simp only [Function.comp_apply, Nat.succ_eq_add_one]
      congr 1
      omega
theorem w4L_eq (l : List Int) : w4L l = w4S l := by
  cases l with
  | nil => rfl
  | cons c l =>
    have h0 : v4 (c :: l) 0 = c := by rw [v4]; exact rd_zero c l
    have := v4_from c l c l 0 rfl h0
    rw [w4S_cons]
    unfold w4L
    rw [List.length_cons, List.range_succ_eq_map, List.map_cons, List.map_map, h0, ← this]
    congr 1
    apply List.map_congr_left
    intro i _
    simp only [Function.comp_apply, Nat.succ_eq_add_one]
    congr 1
    omega
theorem betw_right (c p x : Int) (hx : x = 0 ∨ x = 1) : betw c p x = c := by
  unfold betw
  split
  · rw [if_neg (by omega), if_neg (by omega)]
  · rfl
theorem betw_left (c x d : Int) (hx : x = 0 ∨ x = 1) : betw c x d = c := by
  unfold betw
  split
  · rw [if_neg (by omega), if_neg (by omega)]
  · rfl
theorem betw_mid (x p d : Int) (hx : x = 0 ∨ x = 1) : betw x p d = x := by
  unfold betw
  split
  · rw [if_neg (by simp only [List.mem_cons, List.not_mem_nil, or_false]; omega), if_neg (by omega)]
  · rfl
theorem w4R_strong (x : Int) (hx : x = 0 ∨ x = 1) (b : List Int) : w4R x b = w4S b := by
  cases b with
  | nil => rfl
  | cons c l =>
    cases l with
    | nil => rfl
    | cons d l => rw [w4R_two, w4S_cons, betw_left c x d hx]
theorem w4R_part (x : Int) (hx : x = 0 ∨ x = 1) (b : List Int) (a : List Int) : ∀ p, w4R p (a ++ x :: b) = w4R p a ++ x :: w4S b := by
  induction a with
  | nil =>
    intro p
    rw [List.nil_append]
    cases b with
    | nil => rfl
    | cons d l => rw [w4R_two, betw_mid x p d hx, w4R_strong x hx]; rfl
  | cons c a ih =>
    intro p
    cases a with
    | nil =>
      have := ih (betw c p x)
      rw [List.nil_append] at this
      rw [List.cons_append, List.nil_append, w4R_two, this, betw_right c p x hx]
      rfl
    | cons d a =>
      have := ih (betw c p d)
      rw [List.cons_append] at this
      rw [List.cons_append, List.cons_append, w4R_two, this, w4R_two]
      rfl
theorem w4L_part (x : Int) (hx : x = 0 ∨ x = 1) (a b : List Int) : w4L (a ++ x :: b) = w4L a ++ x :: w4L b := by
  rw [w4L_eq, w4L_eq, w4L_eq]
  cases a with
  | nil => rw [List.nil_append, w4S_cons, w4R_strong x hx]; rfl
  | cons c a => rw [List.cons_append, w4S_cons, w4R_part x hx, w4S_cons]; rfl
/-- the fifth, by what is behind -/
theorem part_left (a b : List Int) (x : Int) (i : Nat) (h : i < a.length) : rd (a ++ x :: b) (i : Int) = rd a (i : Int) := by
  rw [rd_nat, rd_nat, List.getD_eq_getElem?_getD, List.getD_eq_getElem?_getD, List.getElem?_append_left h]
theorem part_mid (a b : List Int) (x : Int) : rd (a ++ x :: b) (a.length : Int) = x := by
  rw [rd_nat, List.getD_eq_getElem?_getD, List.getElem?_append_right (Nat.le_refl _)]
  simp
theorem part_right (a b : List Int) (x : Int) (i : Nat) : rd (a ++ x :: b) ((a.length + 1 + i : Nat) : Int) = rd b (i : Int) := by
  rw [rd_nat, rd_nat, List.getD_eq_getElem?_getD, List.getD_eq_getElem?_getD, List.getElem?_append_right (by omega), show a.length + 1 + i - a.length = i + 1 by omega]
  simp
theorem bk_left (a b : List Int) (x : Int) : ∀ i, i ≤ a.length → bk (a ++ x :: b) i = bk a i := by
  intro i
  induction i with
  | zero => intro _; rfl
  | succ i ih => intro h; rw [bk_succ, bk_succ, ih (by omega), part_left a b x i (by omega)]
theorem bk_right (a b : List Int) (x : Int) (h5 : x ≠ 5) (h3 : x ≠ 3) : ∀ i, (bk (a ++ x :: b) (a.length + 1 + i) = 3 ↔ bk b i = 3) := by
  intro i
  induction i with
  | zero => rw [Nat.add_zero, bk_succ, part_mid, if_neg h5, bk_zero]; omega
  | succ i ih =>
    rw [show a.length + 1 + (i + 1) = a.length + 1 + i + 1 from rfl, bk_succ, bk_succ, part_right]
    split
    · exact ih
    · exact Iff.rfl
theorem fw_right (a b : List Int) (x : Int) : ∀ n i, fw (a ++ x :: b) (a.length + 1 + i) n = fw b i n := by
  intro n
  induction n with
  | zero => intro i; rfl
  | succ n ih => intro i; rw [fw_succ, fw_succ, part_right, show a.length + 1 + i + 1 = a.length + 1 + (i + 1) from rfl, ih]
theorem fw_left (a b : List Int) (x : Int) (h5 : x ≠ 5) (h3 : x ≠ 3) : ∀ n i, i + n = a.length → (fw (a ++ x :: b) i (n + (1 + b.length)) = 3 ↔ fw a i n = 3) := by
  intro n
  induction n with
  | zero =>
    intro i hi
    obtain rfl : i = a.length := by omega
    rw [show 0 + (1 + b.length) = b.length + 1 by omega, fw_succ, part_mid, if_neg h5, fw_zero]
    omega
  | succ n ih =>
    intro i hi
    rw [show n + 1 + (1 + b.length) = (n + (1 + b.length)) + 1 by omega, fw_succ, fw_succ, part_left a b x i (by omega)]
    split
    · exact ih (i + 1) (by omega)
    · exact Iff.rfl
theorem w5L_part (x : Int) (hx : x = 0 ∨ x = 1) (a b : List Int) : w5L (a ++ x :: b) = w5L a ++ x :: w5L b := by
  have hl : (a ++ x :: b).length = a.length + 1 + b.length := by simp; omega
  unfold w5L
  rw [hl, List.range_add, List.map_append, List.range_succ, List.map_append, List.map_map, List.append_assoc]
  congr 1
  · apply List.map_congr_left
    intro i hi
    have hi := List.mem_range.1 hi
    unfold v5 num5
    rw [part_left a b x i hi, bk_left a b x i (by omega), show (a ++ x :: b).length - i = (a.length - i) + (1 + b.length) by omega]
    rw [show decide (fw (a ++ x :: b) i (a.length - i + (1 + b.length)) = 3) = decide (fw a i (a.length - i) = 3) from decide_eq_decide.2 (fw_left a b x (by omega) (by omega) _ _ (by omega))]
  · rw [List.map_cons, List.map_nil, List.singleton_append]
    congr 1
    · unfold v5
      rw [part_mid, if_neg (by omega)]
    · apply List.map_congr_left
      intro i hi
      have hi := List.mem_range.1 hi
      simp only [Function.comp_apply]
      unfold v5 num5
      rw [part_right, show (a ++ x :: b).length - (a.length + 1 + i) = b.length - i by omega, fw_right]
      rw [show decide (bk (a ++ x :: b) (a.length + 1 + i) = 3) = decide (bk b i = 3) from decide_eq_decide.2 (bk_right a b x (by omega) (by omega) i)]
theorem eachL_part (o nx : Int → Int → Int) (x : Int) (ho : ∀ s, o s x = x) (hn : ∀ s, nx s x = x) (s : Int) (a b : List Int) : eachL o nx s (a ++ x :: b) = eachL o nx s a ++ x :: eachL o nx x b := by
  rw [eachL_append, eachL_cons, ho, hn]
theorem fold_same (a : List Int) (s : Int) : a.foldl (fun s _ => s) s = s := by
  induction a with
  | nil => rfl
  | cons c a ih => exact ih
theorem eachL_part0 (o : Int → Int → Int) (x : Int) (ho : ∀ s, o s x = x) (s : Int) (a b : List Int) : eachL o (fun s _ => s) s (a ++ x :: b) = eachL o (fun s _ => s) s a ++ x :: eachL o (fun s _ => s) s b := by
  rw [eachL_append, eachL_cons, ho, fold_same]
theorem parts (x : Int) (hx : x = 0 ∨ x = 1) (s : Int) (a b : List Int) : allW s (a ++ x :: b) = allW s a ++ x :: allW x b := by
  have m2 : x ∈ ([0, 1, 2] : List Int) := by simp only [List.mem_cons, List.not_mem_nil, or_false]; omega
  have m7 : x ∈ ([0, 1] : List Int) := by simp only [List.mem_cons, List.not_mem_nil, or_false]; omega
  have h1 : t1 s (a ++ x :: b) = t1 s a ++ x :: t1 x b := eachL_part _ _ x (fun s => by unfold o1; rw [if_neg (by omega)]) (fun s => by unfold o1; rw [if_neg (by omega)]) s a b
  have h2 : t2 s (a ++ x :: b) = t2 s a ++ x :: t2 x b := by
    unfold t2
    rw [h1]
    exact eachL_part _ _ x (fun s => by unfold o2; rw [if_neg (by omega)]) (fun s => by unfold nx2; rw [if_pos m2]) s _ _
  have h3 : t3 s (a ++ x :: b) = t3 s a ++ x :: t3 x b := by
    unfold t3
    rw [h2]
    exact eachL_part0 _ x (fun s => by unfold o3; rw [if_neg (by omega)]) 0 _ _
  have h4 : t4 s (a ++ x :: b) = t4 s a ++ x :: t4 x b := by
    unfold t4
    rw [h3]
    exact w4L_part x hx _ _
  have h5 : t5 s (a ++ x :: b) = t5 s a ++ x :: t5 x b := by
    unfold t5
    rw [h4]
    exact w5L_part x hx _ _
  have h6 : t6 s (a ++ x :: b) = t6 s a ++ x :: t6 x b := by
    unfold t6
    rw [h5]
    exact eachL_part0 _ x (fun s => by unfold o6; rw [if_neg (by simp only [List.mem_cons, List.not_mem_nil, or_false]; omega)]) 0 _ _
  unfold allW t7
  rw [h6]
  exact eachL_part _ _ x (fun s => by unfold o7; rw [if_neg (by omega)]) (fun s => by unfold nx7; rw [if_pos m7]) s _ _
end Go.Proofs.Ytfkgjoflekemaaa.CWeak
