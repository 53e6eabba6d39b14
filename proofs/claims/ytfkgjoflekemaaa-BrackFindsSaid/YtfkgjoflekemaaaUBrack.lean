/- Plain: which brackets go together: the program's way and the document's, in order, apart or one within the other. -/
import Derived.Test.YtfkgjoflekemaaaCBrackP
import Derived.Test.YtfkgjoflekemaaaUBase
namespace Go.Proofs.Ytfkgjoflekemaaa.UBrack
open Go.RowKit Go.Proofs.YtfkgjoflekemaaaW.PrintWords Go.Proofs.Ytfkgjoflekemaaa.U Go.Proofs.Ytfkgjoflekemaaa.PBrackFinds
def tab : List S58 := api_Brackets.f.getD []
theorem tab_f : api_Brackets.f = some tab := rfl
def alike : List S58 := api_Alike.f.getD []
theorem alike_f : api_Alike.f = some alike := rfl
def canonL (l : List S58) (c : Int) : Int := match l.find? (fun p => p.f0 == c) with | some p => p.f1 | none => c
def canon (c : Int) : Int := canonL alike c
def brkL (l : List S58) (c : Int) : Int × Int := match l.find? (fun p => p.f0 == c || p.f1 == c) with | some p => (if p.f0 = c then (1, canon p.f1) else (2, canon c)) | none => (0, 0)
def brk (c : Int) : Int × Int := brkL tab c
def brkP (c : Int) : Int × Int := match tab.find? (fun p => p.f0 == c) with | some p => (1, canon p.f1) | none => match tab.find? (fun p => p.f1 == c) with | some p => (2, canon p.f1) | none => (0, 0)
theorem find_congr {α : Type} {p q : α → Bool} (l : List α) (h : ∀ x ∈ l, p x = q x) : l.find? p = l.find? q := by
  induction l with
  | nil => rfl
  | cons a l ih =>
    rw [List.find?_cons, List.find?_cons, h a List.mem_cons_self, ih (fun x hx => h x (List.mem_cons_of_mem _ hx))]
theorem tab_apart : ∀ p ∈ tab, ∀ q ∈ tab, p.f0 ≠ q.f1 := by decide +kernel
theorem tab_lt : tab.Pairwise (fun p q => p.f0 < q.f0) := by decide +kernel
theorem alike_lt : alike.Pairwise (fun p q => p.f0 < q.f0) := by decide +kernel
theorem brkP_eq (c : Int) : brkP c = brk c := by
  unfold brkP brk brkL
  cases h : tab.find? (fun p => p.f0 == c) with
  | some p =>
    have h1 := List.find?_some h
    have h2 := List.mem_of_find?_eq_some h
    rw [show tab.find? (fun p => p.f0 == c || p.f1 == c) = some p from (find_congr tab (fun x hx => by
      have := tab_apart p h2 x hx
      have : (x.f1 == c) = false := by simp only [beq_eq_false_iff_ne, ne_eq]; intro e; apply this; rw [e]; simpa using h1
      rw [this, Bool.or_false])).trans h]
    simp only
    rw [if_pos (by simpa using h1)]
  | none =>
    have h0 := List.find?_eq_none.1 h
    rw [show tab.find? (fun p => p.f0 == c || p.f1 == c) = tab.find? (fun p => p.f1 == c) from find_congr tab (fun x hx => by
      have := h0 x hx
      simp only [Bool.not_eq_true] at this
      rw [this, Bool.false_or])]
    cases h2 : tab.find? (fun p => p.f1 == c) with
    | none => rfl
    | some p =>
      have h3 := List.find?_some h2
      have h4 := h0 p (List.mem_of_find?_eq_some h2)
      simp only
      rw [if_neg (by simpa using h4)]
      rw [show p.f1 = c by simpa using h3]
theorem rd58_nat (l : List S58) (i : Nat) : rd_T58 l (i : Int) = l.getD i z58 := rfl
theorem rd93_nat (l : List S93) (i : Nat) : rd_T93 l (i : Int) = l.getD i z93 := rfl
theorem rd58_get {l : List S58} {i : Nat} (h : i < l.length) : rd_T58 l (i : Int) = l[i] := by
  rw [rd58_nat, List.getD_eq_getElem?_getD, List.getElem?_eq_getElem h]; rfl
theorem rd93_get {l : List S93} {i : Nat} (h : i < l.length) : rd_T93 l (i : Int) = l[i] := by
  rw [rd93_nat, List.getD_eq_getElem?_getD, List.getElem?_eq_getElem h]; rfl
/-! the document's table lookups -/
theorem canon_loop (l : List S58) (c : Int) (hm : l.length ≤ 1000000) (n : Nat) : ∀ i : Nat, i + n = l.length → Ev (fun k => naskhref08_Canon.l0 k c l i) (canonL (l.drop i) c) := by
  induction n with
  | zero =>
    intro i hi
    refine Ev.step (fun k => by rw [naskhref08_Canon.l0]) (ev_neg (by omega) ?_)
    rw [List.drop_of_length_le (by omega)]
    exact ev_now _
  | succ n ih =>
    intro i hi
    have hlt : i < l.length := by omega
    have e := List.drop_eq_getElem_cons hlt
    refine Ev.step (fun k => by rw [naskhref08_Canon.l0]) (ev_pos (by omega) (ev_pos (by omega) ?_))
    rw [rd58_get hlt]
    by_cases h : (l[i]).f0 = c
    · refine ev_pos h ?_
      rw [e]
      unfold canonL
      rw [List.find?_cons, show ((l[i]).f0 == c) = true by simpa using h]
      exact ev_now _
    · refine ev_neg h ?_
      rw [w64 (by omega) (by omega), e]
      unfold canonL
      rw [List.find?_cons, show ((l[i]).f0 == c) = false by simpa using h]
      exact ih (i + 1) (by omega)
theorem canon_ev (c : Int) : Ev (fun k => naskhref08_Canon.f k c) (canon c) := canon_loop alike c (by decide) alike.length 0 (by omega)
theorem brk_loop (l : List S58) (c : Int) (hm : l.length ≤ 1000000) (n : Nat) : ∀ i : Nat, i + n = l.length → Ev (fun k => naskhref08_Bracket.l0 k c l i) (brkL (l.drop i) c) := by
  induction n with
  | zero =>
    intro i hi
    refine Ev.step (fun k => by rw [naskhref08_Bracket.l0]) (ev_neg (by omega) ?_)
    rw [List.drop_of_length_le (by omega)]
    exact ev_now _
  | succ n ih =>
    intro i hi
    have hlt : i < l.length := by omega
    have e := List.drop_eq_getElem_cons hlt
    refine Ev.step (fun k => by rw [naskhref08_Bracket.l0]) (ev_pos (by omega) (ev_pos (by omega) ?_))
    rw [rd58_get hlt]
    by_cases h : (l[i]).f0 = c
    · refine ev_pos h ?_
      rw [e]
      unfold brkL
      rw [List.find?_cons, show ((l[i]).f0 == c || (l[i]).f1 == c) = true by simp [h]]
      simp only
      rw [if_pos h]
      exact ev_bind (canon_ev _) (ev_now _)
    · refine ev_neg h ?_
      by_cases h2 : (l[i]).f1 = c
      · refine ev_pos h2 ?_
        rw [e]
        unfold brkL
        rw [List.find?_cons, show ((l[i]).f0 == c || (l[i]).f1 == c) = true by simp [h2]]
        simp only
        rw [if_neg h]
        exact ev_bind (canon_ev _) (ev_now _)
      · refine ev_neg h2 ?_
        rw [w64 (by omega) (by omega), e]
        unfold brkL
        rw [List.find?_cons, show ((l[i]).f0 == c || (l[i]).f1 == c) = false by simp [h, h2]]
        exact ih (i + 1) (by omega)
theorem brk_ev (c : Int) : Ev (fun k => naskhref08_Bracket.f k c) (brk c) := brk_loop tab c (by decide +kernel) tab.length 0 (by omega)
def matchB (a b : Int) : Bool := decide ((brk a).1 = 1) && (decide ((brk b).1 = 2) && ((brk a).2 == (brk b).2))
theorem match_ev (a b : Int) : Ev (fun k => naskhref08_Match.f k a b) (matchB a b) := by
  unfold matchB
  refine ev_bind (brk_ev a) (ev_bind (brk_ev b) ?_)
  by_cases h : (brk a).1 = 1
  · refine ev_pos h ?_
    rw [decide_eq_true h, Bool.true_and]
    by_cases h2 : (brk b).1 = 2
    · refine ev_pos h2 ?_
      rw [decide_eq_true h2, Bool.true_and]
      exact ev_now _
    · refine ev_neg h2 ?_
      rw [decide_eq_false h2]
      exact ev_now _
  · refine ev_neg h ?_
    rw [decide_eq_false h]
    exact ev_now _
/-! the program's lookups -/
theorem back_loop (l : List S58) (c : Int) (hm : l.length ≤ 1000000) (n : Nat) : ∀ i : Nat, i + n = l.length → Ev (fun k => pairs_list_back.l0 k c l (l.length : Int) i) (match (l.drop i).find? (fun p => p.f1 == c) with | some p => (p.f0, p.f1, true) | none => (0, 0, false)) := by
  induction n with
  | zero =>
    intro i hi
    refine Ev.step (fun k => by rw [pairs_list_back.l0]) (ev_neg (by omega) ?_)
    rw [List.drop_of_length_le (by omega)]
    exact ev_now _
  | succ n ih =>
    intro i hi
    have hlt : i < l.length := by omega
    have e := List.drop_eq_getElem_cons hlt
    refine Ev.step (fun k => by rw [pairs_list_back.l0]) (ev_pos (by omega) (ev_pos (by omega) (ev_pos (by omega) ?_)))
    rw [rd58_get hlt]
    by_cases h : (l[i]).f1 = c
    · refine ev_pos h ?_
      rw [e, List.find?_cons, show ((l[i]).f1 == c) = true by simpa using h]
      exact ev_now _
    · refine ev_neg h ?_
      rw [w64 (by omega) (by omega), e, List.find?_cons, show ((l[i]).f1 == c) = false by simpa using h]
      exact ih (i + 1) (by omega)
theorem back_ev (l : List S58) (c : Int) (hm : l.length ≤ 1000000) : Ev (fun k => pairs_list_back.f k l c) (match l.find? (fun p => p.f1 == c) with | some p => (p.f0, p.f1, true) | none => (0, 0, false)) := back_loop l c hm l.length 0 (by omega)
/-- the last one that something closes -/
def lw (ws : List S93) (b : Int) : Nat → Int
  | 0 => -1
  | n + 1 => if (rd_T93 ws n).f1 = b then n else lw ws b n
def lastW (ws : List S93) (b : Int) : Int := lw ws b ws.length
theorem lw_loop (ws : List S93) (b : Int) (hm : ws.length ≤ 1000000) (n : Nat) : n ≤ ws.length → Ev (fun k => brack_lastWith.l0 k ws b ((n : Int) - 1)) (lw ws b n) := by
  induction n with
  | zero =>
    intro hn
    rw [show ((0 : Nat) : Int) - 1 = -1 from rfl]
    refine Ev.step (fun k => by rw [brack_lastWith.l0]) ?_
    exact ev_neg (by omega) (ev_now _)
  | succ n ih =>
    intro hn
    have e : ((n + 1 : Nat) : Int) - 1 = (n : Int) := by omega
    rw [e]
    refine Ev.step (fun k => by rw [brack_lastWith.l0]) (ev_pos (by omega) (ev_pos (by omega) (ev_pos (by omega) ?_)))
    unfold lw
    by_cases h : (rd_T93 ws n).f1 = b
    · rw [if_pos h]
      exact ev_pos h (ev_now _)
    · rw [if_neg h]
      refine ev_neg h ?_
      rw [w64 (by omega) (by omega)]
      exact ih (by omega)
theorem lastW_ev (ws : List S93) (b : Int) (hm : ws.length ≤ 1000000) : Ev (fun k => brack_lastWith.f k ws b) (lastW ws b) := by
  have := lw_loop ws b hm ws.length (Nat.le_refl _)
  rw [← w64 (n := (ws.length : Int) - 1) (by omega) (by omega)] at this
  exact this
theorem lw_range (ws : List S93) (b : Int) (n : Nat) : lw ws b n = -1 ∨ ∃ k : Nat, k < n ∧ lw ws b n = k ∧ (rd_T93 ws k).f1 = b := by
  induction n with
  | zero => exact .inl rfl
  | succ n ih =>
    unfold lw
    split
    · rename_i h; exact .inr ⟨n, by omega, rfl, h⟩
    · rcases ih with h | ⟨k, h1, h2, h3⟩
      · exact .inl h
      · exact .inr ⟨k, by omega, h2, h3⟩
theorem lastW_range (ws : List S93) (b : Int) : lastW ws b = -1 ∨ ∃ k : Nat, k < ws.length ∧ lastW ws b = k := by
  rcases lw_range ws b ws.length with h | ⟨k, h1, h2, _⟩
  · exact .inl h
  · exact .inr ⟨k, h1, h2⟩
/-! the run -/
def runF (codes l : List Int) : Nat → Nat → List S58 → List S93 → List S58
  | 0, _, f, _ => f
  | n + 1, i, f, w =>
    if rd l (i : Int) = 13 then
      if (brk (rd codes (i : Int))).1 = 1 then
        if w.length = 63 then f else runF codes l n (i + 1) f (w ++ [⟨i, (brk (rd codes (i : Int))).2⟩])
      else if (brk (rd codes (i : Int))).1 = 2 then
        if 0 ≤ lastW w (brk (rd codes (i : Int))).2 then runF codes l n (i + 1) (f ++ [⟨(rd_T93 w (lastW w (brk (rd codes (i : Int))).2)).f0, i⟩]) (w.take (lastW w (brk (rd codes (i : Int))).2).toNat)
        else runF codes l n (i + 1) f w
      else runF codes l n (i + 1) f w
    else runF codes l n (i + 1) f w
def foundF (codes l : List Int) : List S58 := runF codes l codes.length 0 [] []
/-- what holds of what was found and of what waits -/
structure Inv (i : Nat) (f : List S58) (w : List S93) : Prop where
  wlt : ∀ x ∈ w, 0 ≤ x.f0 ∧ x.f0 < i
  winc : w.Pairwise (fun x y => x.f0 < y.f0)
  fin : ∀ p ∈ f, 0 ≤ p.f0 ∧ p.f0 < p.f1 ∧ p.f1 < i
  fopen : f.Pairwise (fun p q => p.f0 ≠ q.f0)
  fclose : f.Pairwise (fun p q => p.f1 < q.f1)
  away : ∀ p ∈ f, ∀ x ∈ w, x.f0 < p.f0 ∨ p.f1 < x.f0
  nest : ∀ p ∈ f, ∀ q ∈ f, ¬ (q.f0 < p.f0 ∧ p.f0 < q.f1 ∧ q.f1 < p.f1)
theorem Inv.start : Inv 0 [] [] := ⟨by simp, by simp, by simp, by simp, by simp, by simp, by simp⟩
theorem Inv.next {i : Nat} {f : List S58} {w : List S93} (h : Inv i f w) : Inv (i + 1) f w :=
  ⟨fun x hx => by have := h.wlt x hx; omega, h.winc, fun p hp => by have := h.fin p hp; omega, h.fopen, h.fclose, h.away, h.nest⟩
theorem Inv.push {i : Nat} {f : List S58} {w : List S93} (h : Inv i f w) (b : Int) : Inv (i + 1) f (w ++ [⟨i, b⟩]) := by
  refine ⟨fun x hx => ?_, ?_, fun p hp => by have := h.fin p hp; omega, h.fopen, h.fclose, fun p hp x hx => ?_, h.nest⟩
  · rcases List.mem_append.1 hx with hx | hx
    · have := h.wlt x hx; omega
    · rw [List.mem_singleton.1 hx]; simp only; omega
  · rw [List.pairwise_append]
    refine ⟨h.winc, by simp, fun x hx y hy => ?_⟩
    rw [List.mem_singleton.1 hy]
    exact (h.wlt x hx).2
  · rcases List.mem_append.1 hx with hx | hx
    · exact h.away p hp x hx
    · rw [List.mem_singleton.1 hx]
      have := h.fin p hp
      simp only
      omega
theorem Inv.pop {i : Nat} {f : List S58} {w : List S93} (h : Inv i f w) (k : Nat) (hk : k < w.length) : Inv (i + 1) (f ++ [⟨(w[k]).f0, i⟩]) (w.take k) := by
  have hkm : w[k] ∈ w := List.getElem_mem hk
  have hw := h.wlt _ hkm
  have htake : ∀ x ∈ w.take k, x ∈ w ∧ x.f0 < (w[k]).f0 := fun x hx => by
    refine ⟨List.mem_of_mem_take hx, ?_⟩
    obtain ⟨j, hj, rfl⟩ := List.mem_iff_getElem.1 hx
    rw [List.getElem_take]
    rw [List.length_take] at hj
    exact List.pairwise_iff_getElem.1 h.winc j k (by omega) hk (by omega)
  refine ⟨fun x hx => by have := h.wlt x (htake x hx).1; omega, h.winc.take, fun p hp => ?_, ?_, ?_, fun p hp x hx => ?_, fun p hp q hq => ?_⟩
  · rcases List.mem_append.1 hp with hp | hp
    · have := h.fin p hp; omega
    · rw [List.mem_singleton.1 hp]; simp only; omega
  · rw [List.pairwise_append]
    refine ⟨h.fopen, by simp, fun p hp q hq => ?_⟩
    rw [List.mem_singleton.1 hq]
    have h1 := h.away p hp _ hkm
    have h2 := h.fin p hp
    simp only
    omega
  · rw [List.pairwise_append]
    refine ⟨h.fclose, by simp, fun p hp q hq => ?_⟩
    rw [List.mem_singleton.1 hq]
    exact (h.fin p hp).2.2
  · rcases List.mem_append.1 hp with hp | hp
    · exact h.away p hp x (htake x hx).1
    · rw [List.mem_singleton.1 hp]
      exact .inl (htake x hx).2
  · rcases List.mem_append.1 hp with hp | hp
    · rcases List.mem_append.1 hq with hq | hq
      · exact h.nest p hp q hq
      · rw [List.mem_singleton.1 hq]
        have := h.fin p hp
        simp only
        omega
    · rcases List.mem_append.1 hq with hq | hq
      · rw [List.mem_singleton.1 hp]
        have h1 := h.away q hq _ hkm
        simp only
        omega
      · rw [List.mem_singleton.1 hp, List.mem_singleton.1 hq]
        simp only
        omega
theorem runF_inv (codes l : List Int) (n : Nat) : ∀ i f w, Inv i f w → ∃ w' : List S93, Inv (i + n) (runF codes l n i f w) w' := by
  induction n with
  | zero => intro i f w h; exact ⟨w, h⟩
  | succ n ih =>
    intro i f w h
    rw [show i + (n + 1) = (i + 1) + n by omega]
    unfold runF
    split
    · split
      · split
        · refine ⟨w, ?_⟩
          exact ⟨fun x hx => by have := h.wlt x hx; omega, h.winc, fun p hp => by have := h.fin p hp; omega, h.fopen, h.fclose, h.away, h.nest⟩
        · exact ih _ _ _ (h.push _)
      · split
        · split
          · rename_i hge
            rcases lastW_range w (brk (rd codes (i : Int))).2 with hk | ⟨k, hk, e⟩
            · omega
            · rw [e, Int.toNat_natCast, rd93_get hk]
              exact ih _ _ _ (h.pop k hk)
          · exact ih _ _ _ h.next
        · exact ih _ _ _ h.next
    · exact ih _ _ _ h.next
theorem found_inv (codes l : List Int) : ∃ w : List S93, Inv codes.length (foundF codes l) w := by
  have := runF_inv codes l codes.length 0 [] [] Inv.start
  rwa [Nat.zero_add] at this
/-! in order -/
def ins (p : S58) : List S58 → List S58
  | [] => [p]
  | q :: l => if q.f0 < p.f0 then q :: ins p l else p :: q :: l
def srt : List S58 → List S58 → List S58
  | acc, [] => acc
  | acc, p :: f => srt (ins p acc) f
theorem ins_perm (p : S58) (l : List S58) : (ins p l).Perm (p :: l) := by
  induction l with
  | nil => exact List.Perm.refl _
  | cons q l ih =>
    unfold ins
    split
    · exact (ih.cons q).trans (List.Perm.swap _ _ _)
    · exact List.Perm.refl _
theorem ins_sorted (p : S58) (l : List S58) (h : l.Pairwise (fun a b => a.f0 < b.f0)) (hn : ∀ q ∈ l, q.f0 ≠ p.f0) : (ins p l).Pairwise (fun a b => a.f0 < b.f0) := by
  induction l with
  | nil => simp [ins]
  | cons q l ih =>
    rw [List.pairwise_cons] at h
    unfold ins
    split
    · rename_i hlt
      rw [List.pairwise_cons]
      refine ⟨fun x hx => ?_, ih h.2 (fun x hx => hn x (List.mem_cons_of_mem _ hx))⟩
      rcases List.mem_cons.1 ((ins_perm p l).mem_iff.1 hx) with rfl | hx
      · exact hlt
      · exact h.1 x hx
    · rename_i hge
      have hne := hn q List.mem_cons_self
      rw [List.pairwise_cons]
      refine ⟨fun x hx => ?_, List.pairwise_cons.2 h⟩
      rcases List.mem_cons.1 hx with rfl | hx
      · omega
      · have := h.1 x hx; omega
theorem srt_append (acc f : List S58) (p : S58) : srt acc (f ++ [p]) = ins p (srt acc f) := by
  induction f generalizing acc with
  | nil => rfl
  | cons q f ih => exact ih _
theorem srt_perm (acc f : List S58) : (srt acc f).Perm (f ++ acc) := by
  induction f generalizing acc with
  | nil => exact List.Perm.refl _
  | cons q f ih =>
    exact (ih _).trans ((List.Perm.append_left f (ins_perm q acc)).trans List.perm_middle)
theorem srt_sorted (f : List S58) : ∀ acc : List S58, acc.Pairwise (fun a b => a.f0 < b.f0) → (∀ p ∈ f, ∀ q ∈ acc, q.f0 ≠ p.f0) → f.Pairwise (fun p q => p.f0 ≠ q.f0) → (srt acc f).Pairwise (fun a b => a.f0 < b.f0) := by
  induction f with
  | nil => intro acc h _ _; exact h
  | cons p f ih =>
    intro acc h hn hd
    rw [List.pairwise_cons] at hd
    refine ih _ (ins_sorted p acc h (hn p List.mem_cons_self)) (fun x hx q hq => ?_) hd.2
    rcases List.mem_cons.1 ((ins_perm p acc).mem_iff.1 hq) with rfl | hq
    · exact hd.1 x hx
    · exact hn x (List.mem_cons_of_mem _ hx) q hq
def findL (codes l : List Int) : List S58 := if codes.length = l.length then srt [] (foundF codes l) else []
theorem srt_found_sorted (codes l : List Int) : (srt [] (foundF codes l)).Pairwise (fun a b => a.f0 < b.f0) := by
  obtain ⟨w, h⟩ := found_inv codes l
  exact srt_sorted _ [] List.Pairwise.nil (fun _ _ q hq => by cases hq) h.fopen
/-- any order of what was found, by their first ones, is this one -/
theorem sorted_eq (codes l : List Int) (d : List S58) (hp : d.Perm (foundF codes l)) (hs : d.Pairwise (fun a b => ¬ b.f0 < a.f0)) : d = srt [] (foundF codes l) := by
  obtain ⟨w, h⟩ := found_inv codes l
  have hq : (srt [] (foundF codes l)).Perm (foundF codes l) := by have := srt_perm [] (foundF codes l); rwa [List.append_nil] at this
  have hd : ∀ a b, a ∈ foundF codes l → b ∈ foundF codes l → a.f0 = b.f0 → a = b := fun a b ha hb e => by
    obtain ⟨i, hi, rfl⟩ := List.mem_iff_getElem.1 ha
    obtain ⟨j, hj, rfl⟩ := List.mem_iff_getElem.1 hb
    rcases Nat.lt_trichotomy i j with hij | rfl | hij
    · exact absurd e (List.pairwise_iff_getElem.1 h.fopen i j hi hj hij)
    · rfl
    · exact absurd e.symm (List.pairwise_iff_getElem.1 h.fopen j i hj hi hij)
  refine List.Perm.eq_of_pairwise (le := fun a b => a.f0 ≤ b.f0) (fun a b ha hb h1 h2 => hd a b (hp.mem_iff.1 ha) (hq.mem_iff.1 hb) (by omega)) (hs.imp (fun h => by omega)) ((srt_found_sorted codes l).imp (fun h => by omega)) (hp.trans hq.symm)
/-- pairs stand in order, and lie apart or one within the other -/
theorem find_in (codes l : List Int) : ∀ p ∈ findL codes l, 0 ≤ p.f0 ∧ p.f0 < p.f1 ∧ p.f1 < codes.length := by
  unfold findL
  split
  · obtain ⟨w, h⟩ := found_inv codes l
    intro p hp
    exact h.fin p (by simpa using (srt_perm [] (foundF codes l)).mem_iff.1 hp)
  · intro p hp; cases hp
theorem find_sorted (codes l : List Int) : (findL codes l).Pairwise (fun a b => a.f0 < b.f0) := by
  unfold findL
  split
  · exact srt_found_sorted codes l
  · exact List.Pairwise.nil
theorem find_apart (codes l : List Int) : ∀ p ∈ findL codes l, ∀ q ∈ findL codes l, ¬ (q.f0 < p.f0 ∧ p.f0 < q.f1 ∧ q.f1 < p.f1) := by
  unfold findL
  split
  · obtain ⟨w, h⟩ := found_inv codes l
    intro p hp q hq
    exact h.nest p (by simpa using (srt_perm [] (foundF codes l)).mem_iff.1 hp) q (by simpa using (srt_perm [] (foundF codes l)).mem_iff.1 hq)
  · intro p hp; cases hp
theorem find_close (codes l : List Int) : (findL codes l).Pairwise (fun a b => a.f1 ≠ b.f1) := by
  unfold findL
  split
  · obtain ⟨w, h⟩ := found_inv codes l
    refine (srt_perm [] (foundF codes l)).symm.pairwise ?_ (fun h => h.symm)
    rw [List.append_nil]
    exact h.fclose.imp (fun h => by omega)
  · exact List.Pairwise.nil
theorem find_length (codes l : List Int) : (findL codes l).length ≤ codes.length := by
  unfold findL
  split
  · rw [(srt_perm [] (foundF codes l)).length_eq, List.append_nil]
    suffices h : ∀ n i f w, (runF codes l n i f w).length ≤ f.length + n by have := h codes.length 0 [] []; simpa [foundF] using this
    intro n
    induction n with
    | zero => intro i f w; exact Nat.le_refl _
    | succ n ih =>
      intro i f w
      unfold runF
      split
      · split
        · split
          · omega
          · have := ih (i + 1) f (w ++ [⟨i, (brk (rd codes (i : Int))).2⟩]); omega
        · split
          · split
            · refine Nat.le_trans (ih _ _ _) ?_
              simp; omega
            · have := ih (i + 1) f w; omega
          · have := ih (i + 1) f w; omega
      · have := ih (i + 1) f w; omega
  · exact Nat.zero_le _
theorem deep (n : Nat) (h : n < 80) : (findL (List.replicate n 40 ++ List.replicate n 41) (List.replicate (n + n) 13)).length = if 63 < n then 0 else n := by
  have : ∀ n < 80, (findL (List.replicate n 40 ++ List.replicate n 41) (List.replicate (n + n) 13)).length = if 63 < n then 0 else n := by decide +kernel
  exact this n h
end Go.Proofs.Ytfkgjoflekemaaa.UBrack
