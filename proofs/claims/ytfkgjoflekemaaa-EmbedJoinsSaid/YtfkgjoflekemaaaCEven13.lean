/- The document's Class, Classes and Loose: contracts. -/
import Derived.Test.YtfkgjoflekemaaaCEvenB
import Derived.Test.YtfkgjoflekemaaaCGetP
import Derived.Test.YtfkgjoflekemaaaCLooseP
namespace Go.Proofs.Ytfkgjoflekemaaa.CEven
open Go.RowKit Go.Shelf Go.Proofs.YtfkgjoflekemaaaW.PrintWords Go.Proofs.YtfkgjoflekemaaaW.PrintMore Go.Proofs.YtfkgjoflekemaaaW.PrintLast Go.Proofs.Ytfkgjoflekemaaa.U Go.Proofs.Ytfkgjoflekemaaa.CBase Go.Proofs.Ytfkgjoflekemaaa.CSlices Go.Proofs.Ytfkgjoflekemaaa.UEven Go.Proofs.Ytfkgjoflekemaaa.CProps Go.Proofs.Ytfkgjoflekemaaa.UTrie Go.Proofs.Ytfkgjoflekemaaa.PEmbedJoins Go.Proofs.Ytfkgjoflekemaaa.PLoose
set_option linter.unusedVariables false
set_option linter.unusedSimpArgs false
theorem rdT_get {l : List S127} {i : Nat} (h : i < l.length) : rd_T127 l (i : Int) = l[i] := by
  unfold rd_T127
  rw [Int.toNat_natCast, List.getD_eq_getElem?_getD, List.getElem?_eq_getElem h]
  rfl
theorem get_loop (l : List S127) (n c : Int) (hm : l.length ≤ 1000000) (d : Nat) : ∀ i : Nat, i + d = l.length → Ev (fun k => naskhref06_Get.l0 k l n c (i : Int)) (getR (l.drop i) n c) := by
  induction d with
  | zero =>
    intro i hi
    refine Ev.step (fun k => by rw [naskhref06_Get.l0]) (ev_neg (by omega) ?_)
    rw [List.drop_of_length_le (by omega)]
    exact ev_now _
  | succ d ih =>
    intro i hi
    have hlt : i < l.length := by omega
    refine Ev.step (fun k => by rw [naskhref06_Get.l0]) (ev_pos (by omega) (ev_pos (by omega) ?_))
    rw [rdT_get hlt, w64 (by omega) (by omega), List.drop_eq_getElem_cons hlt]
    have ih' := ih (i + 1) (by omega)
    by_cases h1 : c ≥ l[i].f0
    · refine ev_pos h1 ?_
      by_cases h2 : c ≤ l[i].f1
      · refine ev_pos h2 (ev_eq (ev_now _) ?_)
        unfold getR
        rw [List.find?_cons_of_pos (by rw [inR_iff]; omega)]
      · refine ev_neg h2 (ev_eq ih' ?_)
        unfold getR
        rw [List.find?_cons_of_neg (by rw [inR_iff]; omega)]
    · refine ev_neg h1 (ev_eq ih' ?_)
      unfold getR
      rw [List.find?_cons_of_neg (by rw [inR_iff]; omega)]
theorem refGet_c {w : World} {v : Value} {l : List S127} (h : SLk k127 w v l) (hm : l.length ≤ 1000000) (n c : Int) : Calls Try.prog 120 #[v, .int .i64 n, .int .i64 c] w fun e w' => e = .returned (.int .i64 (getR l n c)) ∧ Below w.heap.size w w' := by
  obtain ⟨A, cp, rfl, hc, h1⟩ := h
  obtain ⟨k, hk⟩ := (show Ev (fun k => naskhref06_Get.f k l n c) (getR l n c) from by
    have := get_loop l n c hm l.length 0 (by omega)
    rw [List.drop_zero] at this
    exact this).rounds
  exact (naskhref06_Get.calls k A cp l n c _ w h1 hc hk).mono fun e w' h => ⟨h.1, h.2.below⟩
set_option maxRecDepth 100000 in
set_option maxHeartbeats 1000000 in
theorem refClass_c {w : World} (c : Int) : Calls Try.prog 98 #[.int .i64 c] w fun e w' => e = .returned (.int .i64 (cl c)) ∧ Below w.heap.size w w' := by
  have hrl : rsB.length ≤ 1000000 := by rw [rsB_length]; decide
  by_cases h0 : c < 0
  · have hcl : cl c = 13 := by unfold cl; rw [if_neg (by omega)]
    have HCL := Aside0.mk hcl
    clear hcl
    go_enter Try.func98, Try.ntmps98
    go_wp2
    go_ret
    exact ⟨by rw [HCL.out]; rfl, Below.refl _ _⟩
  · by_cases h1 : c > 1114111
    · have hcl : cl c = 13 := by unfold cl; rw [if_neg (by omega)]
      have HCL := Aside0.mk hcl
      clear hcl
      go_enter Try.func98, Try.ntmps98
      go_wp2
      go_ret
      exact ⟨by rw [HCL.out]; rfl, Below.refl _ _⟩
    · have hcl : cl c = getR rsB 0 c := by unfold cl; rw [if_pos (by omega)]
      have HCL := Aside0.mk hcl
      have HRL := Aside0.mk hrl
      clear hcl hrl
      go_enter Try.func98, Try.ntmps98
      go_wp2_with (first | (go_at_call 95; refine (bidi_c _).mono ?_; rintro e w1 ⟨rfl, hC, hb1⟩; have HC := Aside0.mk (SLk.mk (c := rsB.length) hC (Nat.le_refl _)); have HB1 := Aside0.mk hb1; clear hC hb1) | (go_at_call 120; refine (refGet_c HC.out HRL.out _ _).mono ?_; rintro e w2 ⟨rfl, hb2⟩; have HB2 : Aside0 (Below w.heap.size w w2) := ⟨below_step HB1.out hb2⟩; clear hb2))
      go_ret
      exact ⟨by rw [HCL.out]; rfl, HB2.out⟩
set_option maxRecDepth 100000 in
set_option maxHeartbeats 1000000 in
theorem refClasses_c {w : World} {v : Value} {xs : List Int} (h : SL w v xs) (hm : xs.length ≤ 1000000) : Calls Try.prog 55 #[v] w fun e w' => ∃ u, e = .returned u ∧ Kd.R (Kd.int .i64) 3 w' w.heap.size (fun _ => True) u (xs.map cl) ∧ Below w.heap.size w w' := by
  have H := Aside0.mk h
  obtain ⟨A, c, rfl, _, _⟩ := h
  go_enter Try.func55, Try.ntmps55
  go_wp2_with fail
  go_loopw [3, 4] (fun v a wr => ∃ k : Nat, a = .int .i64 k ∧ k ≤ xs.length ∧ Aside0 (Kd.R (Kd.int .i64) 3 wr w.heap.size (fun _ => True) v ((xs.take k).map cl)) ∧ Aside0 (Below w.heap.size w wr)) (fun _ a _ => xs.length - (intOf a).toNat)
  case atStart => exact ⟨0, rfl, Nat.zero_le _, ⟨Kd.R_nil _ _ _ _ _⟩, ⟨Below.refl _ _⟩⟩
  case round =>
    obtain ⟨k, rfl, hk, HV, HB⟩ := hrel
    obtain ⟨Av, lv, cv, e3⟩ : ∃ A l c, u3 = .slice A l c := by obtain ⟨A, c, e⟩ := Kd.R_slice HV.out; exact ⟨_, _, _, e⟩
    subst e3
    by_cases hlt : k < xs.length
    · obtain ⟨ad, c1, ea, hct⟩ := SLk.at_int (SLk.below H.out HB.out) (k : Int) (by omega) (by omega)
      injection ea with e1 e2 e3
      subst e1
      rw [rd_get hlt] at hct
      simp only [Int.toNat_natCast] at hct
      have HT : Aside0 ((xs.take (k + 1)).map cl = (xs.take k).map cl ++ [cl xs[k]]) := ⟨by rw [List.take_succ_eq_append_getElem hlt, List.map_append]; rfl⟩
      have HL : Aside0 (((xs.take k).map cl).length ≤ 1000000) := ⟨by rw [List.length_map, List.length_take]; omega⟩
      obtain ⟨x, hx⟩ : ∃ x, x = xs[k] := ⟨_, rfl⟩
      rw [← hx] at hct HT
      have hkI : (k : Int) < (xs.length : Int) := by omega
      clear e2 e3 hx
      go_wp2_with (first | (go_at_call 98; refine (refClass_c _).mono ?_; rintro e w2 ⟨rfl, hb2⟩; have HV2 : Aside0 (Kd.R (Kd.int .i64) 3 w2 w.heap.size (fun _ => True) (.slice Av lv cv) ((xs.take k).map cl)) := ⟨Kd.R_below HV.out hb2⟩; have HB2 : Aside0 (Below w.heap.size w w2) := ⟨below_step HB.out hb2⟩; clear hb2) | (at_builtin; refine Kd.R_append (Kd.int .i64) (w0 := w) w.heap.size rfl (.tmp 11) (.tmp 17) 22 3 (.int .i64 0) 8 rfl Try.underlying22 CSlices.info3 rfl (by decide) (by omega) (.slice Av lv cv) ((xs.take k).map cl) (cl x) [.int .i64 (cl x)] (fun _ => True) (fun _ => False) rfl rfl rfl (fun _ hk => hk.elim) (fun _ _ => trivial) HV2.out HB2.out HB2.out.size (by have := HL.out; omega) ?_; intro v1 w3 hv hb hg hat; have HV3 := Aside0.mk hv; have HB3 := Aside0.mk hb; clear hv hb hg hat))
      exact ⟨⟨k + 1, by go_num, by omega, ⟨by rw [HT.out]; exact HV3.out⟩, HB3⟩, by simp [intOf]; omega⟩
    · go_wp2
      go_ret
      have h2 := HV.out
      rw [List.take_of_length_le (by omega)] at h2
      exact ⟨_, rfl, h2, HB.out⟩
/-! ### what is loose, by the document -/
theorem emb_f (c : Int) : naskhref47_Embeds.f c = some (embB c) := by
  unfold naskhref47_Embeds.f embB
  by_cases h1 : c = 14
  · subst h1; rfl
  · by_cases h2 : c = 15
    · subst h2; rfl
    · by_cases h3 : c = 16
      · subst h3; rfl
      · rw [if_neg h1, if_neg h2, if_neg h3, ← Bool.decide_and, Option.some.injEq, Bool.beq_eq_decide_eq, decide_eq_decide]
        omega
theorem opn_f (c : Int) : naskhref20_Opens.f c = some (isoB c) := by
  unfold naskhref20_Opens.f isoB
  by_cases h1 : c = 19
  · subst h1; rfl
  · by_cases h2 : c = 20
    · subst h2; rfl
    · rw [if_neg h1, if_neg h2, ← Bool.decide_and, Option.some.injEq, Bool.beq_eq_decide_eq, decide_eq_decide]
      omega
def OkS (cls s : List Int) : Prop := ∀ j ∈ s, (0 ≤ j ∧ j < (cls.length : Int)) ∧ (embB (rd cls j) || isoB (rd cls j)) = true
theorem emb_iso (c : Int) (h : embB c = true) : isoB c = false := by unfold embB at h; unfold isoB; simp at h ⊢; omega
theorem rd_rev (t' dropped : List Int) (y : Int) : rd (dropped ++ y :: t').reverse ((t'.length : Nat) : Int) = y := by
  rw [rd_nat, List.reverse_append, List.reverse_cons, List.append_assoc, List.getD_eq_getElem?_getD, List.getElem?_append_right (by simp)]
  simp
theorem pop_loop (cls : List Int) (g o : List Int) (i : Nat) (hi : i < 1000000) (hg : g.length ≤ 1000000) (ho : o.length ≤ 1000000) (R : List Int × List Int × List Int → Prop) (t : List Int) : ∀ dropped : List Int, OkS cls (dropped ++ t) → (dropped ++ t).length ≤ 1000000 → (∀ j ∈ dropped, isoB (rd cls j) = false) →
    (match popK ((dropped ++ t).map fun j => isoB (rd cls j)) with
      | none => ∃ r, R r ∧ Ev (fun k => naskhref47_walk.l0 k cls (dropped ++ t).reverse g (o ++ [(i : Int)]) ((i + 1 : Nat) : Int)) r
      | some u => ∀ (t' g' : List Int), t'.map (fun j => isoB (rd cls j)) = u → OkS cls t' → t'.length ≤ (dropped ++ t).length → g'.length + t'.length ≤ g.length + (dropped ++ t).length → ∃ r, R r ∧ Ev (fun k => naskhref47_walk.l0 k cls t'.reverse g' o ((i + 1 : Nat) : Int)) r) →
    ∃ r, R r ∧ Ev (fun k => naskhref47_walk.l1 k cls (dropped ++ t).reverse g o (i : Int) ((t.length : Int) - 1)) r := by
  induction t with
  | nil =>
    intro dropped hok hl hd h
    have hp : popK ((dropped ++ []).map fun j => isoB (rd cls j)) = none := by
      rw [List.append_nil]
      clear h hok hl
      induction dropped with
      | nil => rfl
      | cons x d ih =>
        rw [List.map_cons, hd x List.mem_cons_self]
        exact ih (fun j hj => hd j (List.mem_cons_of_mem _ hj))
    rw [hp] at h
    obtain ⟨r, hr, he⟩ := h
    refine ⟨r, hr, Ev.step (fun k => by rw [naskhref47_walk.l1]) (ev_neg (by simp) (ev_pos (by simp) (ev_pos (by omega) ?_)))⟩
    rw [w64 (by omega) (by omega), show (i : Int) + 1 = ((i + 1 : Nat) : Int) by omega]
    exact he
  | cons y t' ih =>
    intro dropped hok hl hd h
    have hlen : (dropped ++ y :: t').length = dropped.length + t'.length + 1 := by simp; omega
    have hy := hok y (by simp)
    have hx : ((y :: t').length : Int) - 1 = (t'.length : Int) := by simp
    rw [hx]
    have hrl : (dropped ++ y :: t').reverse.length = dropped.length + t'.length + 1 := by rw [List.length_reverse, hlen]
    by_cases he : embB (rd cls y) = true
    · have hiso := emb_iso _ he
      have ea : dropped ++ [y] ++ t' = dropped ++ y :: t' := by simp
      obtain ⟨r, hr, hev⟩ := ih (dropped ++ [y]) (by rw [ea]; exact hok) (by rw [ea]; exact hl) (fun j hj => by
        rcases List.mem_append.1 hj with hj | hj
        · exact hd j hj
        · simp at hj; subst hj; exact hiso) (by rw [ea]; exact h)
      rw [ea] at hev
      refine ⟨r, hr, Ev.step (fun k => by rw [naskhref47_walk.l1]) (ev_pos (by omega) (ev_pos (by omega) (ev_pos (by rw [hrl]; omega) ?_)))⟩
      rw [rd_rev, emb_f]
      refine ev_pos (by omega) (ev_pos (by omega) ?_)
      refine ev_bindc rfl ?_
      refine ev_pos he ?_
      rw [w64 (by omega) (by omega)]
      exact hev
    · have hiso : isoB (rd cls y) = true := by
        have := hy.2
        simp only [Bool.not_eq_true] at he
        rw [he] at this
        simpa using this
      have hef : embB (rd cls y) = false := by simpa using he
      have hp : popK ((dropped ++ y :: t').map fun j => isoB (rd cls j)) = some (t'.map fun j => isoB (rd cls j)) := by
        clear h hok hl hlen hrl ih
        induction dropped with
        | nil => rw [List.nil_append, List.map_cons, hiso]; rfl
        | cons x d ih2 =>
          rw [List.cons_append, List.map_cons, hd x List.mem_cons_self]
          exact ih2 (fun j hj => hd j (List.mem_cons_of_mem _ hj))
      rw [hp] at h
      obtain ⟨r, hr, hev⟩ := h t' (g ++ (dropped ++ y :: t').reverse.drop (t'.length + 1)) rfl (fun j hj => hok j (by simp [hj])) (by rw [hlen]; omega) (by rw [List.length_append, List.length_drop, hrl, hlen]; omega)
      refine ⟨r, hr, Ev.step (fun k => by rw [naskhref47_walk.l1]) (ev_pos (by omega) (ev_pos (by omega) (ev_pos (by rw [hrl]; omega) ?_)))⟩
      rw [rd_rev, emb_f]
      refine ev_pos (by omega) (ev_pos (by omega) ?_)
      refine ev_bindc rfl ?_
      refine ev_neg he (ev_neg (by omega) ?_)
      rw [w64 (n := (t'.length : Int) + 1) (by omega) (by omega)]
      refine ev_pos (by omega) (ev_pos (by rw [hrl]; omega) ?_)
      refine ev_bindc rfl ?_
      have e1 : ((t'.length : Int) + 1).toNat = t'.length + 1 := by omega
      rw [e1]
      refine ev_pos (by rw [List.length_drop, hrl]; omega) (ev_pos (by rw [hrl]; omega) ?_)
      rw [w64 (by omega) (by omega), show (i : Int) + 1 = ((i + 1 : Nat) : Int) by omega]
      have e2 : (dropped ++ y :: t').reverse.take ((t'.length : Int)).toNat = t'.reverse := by
        rw [Int.toNat_natCast, List.reverse_append, List.reverse_cons, List.append_assoc, List.take_append_of_le_length (by simp), List.take_of_length_le (by simp)]
      rw [e2]
      exact hev
theorem looseK_some {s u : List Bool} {c : Int} {i : Nat} {r : List Int} (h : stepK s c = some u) : looseK s i (c :: r) = looseK u (i + 1) r := by
  show (match stepK s c with | some t => looseK t (i + 1) r | none => (i : Int) :: looseK s (i + 1) r) = _
  rw [h]
theorem looseK_none {s : List Bool} {c : Int} {i : Nat} {r : List Int} (h : stepK s c = none) : looseK s i (c :: r) = (i : Int) :: looseK s (i + 1) r := by
  show (match stepK s c with | some t => looseK t (i + 1) r | none => (i : Int) :: looseK s (i + 1) r) = _
  rw [h]
theorem loose_loop (cls : List Int) (hm : cls.length ≤ 900000) (d : Nat) : ∀ (i : Nat) (s g o : List Int), i + d = cls.length → OkS cls s → g.length + s.length ≤ i → o.length ≤ i →
    ∃ r : List Int × List Int × List Int, r.2.2 = o ++ looseK (s.map fun j => isoB (rd cls j)) i (cls.drop i) ∧ Ev (fun k => naskhref47_walk.l0 k cls s.reverse g o (i : Int)) r := by
  induction d with
  | zero =>
    intro i s g o hi hok hl ho
    refine ⟨(s.reverse, g, o), by rw [List.drop_of_length_le (by omega)]; simp [looseK], Ev.step (fun k => by rw [naskhref47_walk.l0]) (ev_neg (by omega) (ev_now _))⟩
  | succ d ih =>
    intro i s g o hi hok hl ho
    have hlt : i < cls.length := by omega
    have hdr : cls.drop i = cls[i] :: cls.drop (i + 1) := List.drop_eq_getElem_cons hlt
    have hrd : rd cls (i : Int) = cls[i] := rd_get hlt
    obtain ⟨c, hc⟩ : ∃ c, c = cls[i] := ⟨_, rfl⟩
    rw [← hc] at hdr hrd
    have hN : (17592186044416 : Nat) = 17592186044416 := rfl
    have hnext : wrap64 ((i : Int) + 1) = ((i + 1 : Nat) : Int) := by rw [w64 (by omega) (by omega)]; omega
    -- the test whether it opens
    suffices hj : ∃ r : List Int × List Int × List Int, r.2.2 = o ++ looseK (s.map fun j => isoB (rd cls j)) i (cls.drop i) ∧ Ev (fun k => naskhref47_walk.j1 k cls s.reverse g o (i : Int) c (s.reverse.length : Int) (embB c || isoB c)) r by
      obtain ⟨r, h1, h2⟩ := hj
      refine ⟨r, h1, Ev.step (fun k => by rw [naskhref47_walk.l0]) (ev_pos (by omega) (ev_pos (by omega) ?_))⟩
      rw [hrd, emb_f]
      refine ev_bindc rfl ?_
      refine ev_ite (fun h => ?_) (fun h => ?_)
      · rw [h, Bool.true_or] at h2
        exact h2
      · rw [opn_f]
        refine ev_bindc rfl ?_
        have hf : embB c = false := by simpa using h
        rw [hf, Bool.false_or] at h2
        exact h2
    rw [hdr]
    by_cases hop : (embB c || isoB c) = true
    · have hst : stepK (s.map fun j => isoB (rd cls j)) c = some (((i : Int) :: s).map fun j => isoB (rd cls j)) := by
        unfold stepK
        rw [List.map_cons, hrd]
        by_cases he : embB c = true
        · rw [if_pos he, emb_iso c he]
        · have hif : isoB c = true := by
            simp only [Bool.not_eq_true] at he
            rw [he] at hop
            simpa using hop
          rw [if_neg he, if_pos hif, hif]
      obtain ⟨r, h1, h2⟩ := ih (i + 1) ((i : Int) :: s) g o (by omega) (fun j hj => by
        rcases List.mem_cons.1 hj with rfl | hj
        · exact ⟨⟨by omega, by omega⟩, by rw [hrd]; exact hop⟩
        · exact hok j hj) (by simp; omega) (by omega)
      refine ⟨r, by rw [h1, looseK_some hst], Ev.step (fun k => by rw [naskhref47_walk.j1]) (ev_pos hop (ev_pos (by rw [List.length_reverse]; omega) ?_))⟩
      rw [hnext, ← List.reverse_cons]
      exact h2
    · have hopf : (embB c || isoB c) = false := by simpa using hop
      have hef : embB c = false := by cases h : embB c <;> simp_all
      have hif : isoB c = false := by cases h : isoB c <;> simp_all
      rw [hopf]
      by_cases h18 : c = 18
      · subst h18
        -- pops an embedding or is loose
        suffices hj2 : ∃ b : Bool, (Ev (fun k => naskhref47_walk.j2 k cls s.reverse g o (i : Int) 18 (s.reverse.length : Int) b) = Ev (fun k => naskhref47_walk.j2 k cls s.reverse g o (i : Int) 18 (s.reverse.length : Int) b)) ∧ (∀ r, Ev (fun k => naskhref47_walk.j2 k cls s.reverse g o (i : Int) 18 (s.reverse.length : Int) b) r → Ev (fun k => naskhref47_walk.j1 k cls s.reverse g o (i : Int) 18 (s.reverse.length : Int) false) r) ∧ ∃ r : List Int × List Int × List Int, r.2.2 = o ++ looseK (s.map fun j => isoB (rd cls j)) i (18 :: cls.drop (i + 1)) ∧ Ev (fun k => naskhref47_walk.j2 k cls s.reverse g o (i : Int) 18 (s.reverse.length : Int) b) r by
          obtain ⟨b, _, h1, r, h2, h3⟩ := hj2
          exact ⟨r, h2, h1 r h3⟩
        have hfalse : ∀ (hs : stepK (s.map fun j => isoB (rd cls j)) 18 = none), ∃ r : List Int × List Int × List Int, r.2.2 = o ++ looseK (s.map fun j => isoB (rd cls j)) i (18 :: cls.drop (i + 1)) ∧ Ev (fun k => naskhref47_walk.j2 k cls s.reverse g o (i : Int) 18 (s.reverse.length : Int) false) r := by
          intro hs
          obtain ⟨r, h1, h2⟩ := ih (i + 1) s g (o ++ [(i : Int)]) (by omega) hok (by omega) (by simp; omega)
          refine ⟨r, by rw [h1, looseK_none hs, List.append_assoc]; rfl, Ev.step (fun k => by rw [naskhref47_walk.j2]) (ev_neg (by simp) (ev_pos rfl (ev_pos (by omega) ?_)))⟩
          rw [hnext]
          exact h2
        cases s with
        | nil =>
          refine ⟨false, rfl, fun r hr => Ev.step (fun k => by rw [naskhref47_walk.j1]) (ev_neg (by simp) (ev_pos rfl (ev_neg (by simp) hr))), hfalse rfl⟩
        | cons y t =>
          have hy := hok y List.mem_cons_self
          have hrl : (y :: t).reverse.length = t.length + 1 := by simp
          have hidx : wrap64 (((y :: t).reverse.length : Int) - 1) = ((t.length : Nat) : Int) := by rw [hrl, w64 (by simp at hl; omega) (by simp at hl; omega)]; omega
          have hrt : rd (y :: t).reverse ((t.length : Nat) : Int) = y := rd_rev t [] y
          have hj1 : ∀ r, Ev (fun k => naskhref47_walk.j2 k cls (y :: t).reverse g o (i : Int) 18 ((y :: t).reverse.length : Int) (embB (rd cls y))) r → Ev (fun k => naskhref47_walk.j1 k cls (y :: t).reverse g o (i : Int) 18 ((y :: t).reverse.length : Int) false) r := by
            intro r hr
            refine Ev.step (fun k => by rw [naskhref47_walk.j1]) (ev_neg (by simp) (ev_pos rfl (ev_pos (by rw [hrl]; omega) ?_)))
            rw [hidx, hrt, emb_f]
            refine ev_pos (by omega) (ev_pos (by rw [hrl]; omega) (ev_pos (by omega) (ev_pos (by omega) ?_)))
            exact ev_bindc rfl hr
          refine ⟨embB (rd cls y), rfl, hj1, ?_⟩
          cases he : embB (rd cls y) with
          | true =>
            have hst : stepK ((y :: t).map fun j => isoB (rd cls j)) 18 = some (t.map fun j => isoB (rd cls j)) := by
              rw [List.map_cons, emb_iso _ he]; rfl
            obtain ⟨r, h1, h2⟩ := ih (i + 1) t g o (by omega) (fun j hj => hok j (List.mem_cons_of_mem _ hj)) (by simp at hl; omega) (by omega)
            refine ⟨r, by rw [h1, looseK_some hst], Ev.step (fun k => by rw [naskhref47_walk.j2]) (ev_pos rfl ?_)⟩
            rw [hidx, hnext]
            refine ev_pos (by omega) (ev_pos (by rw [hrl]; omega) ?_)
            have e2 : (y :: t).reverse.take ((t.length : Nat) : Int).toNat = t.reverse := by
              rw [Int.toNat_natCast, List.reverse_cons, List.take_append_of_le_length (by simp), List.take_of_length_le (by simp)]
            rw [e2]
            exact h2
          | false =>
            have hiy : isoB (rd cls y) = true := by
              have := hy.2
              rw [he] at this
              simpa using this
            exact hfalse (by rw [List.map_cons, hiy]; rfl)
      · by_cases h22 : c = 22
        · subst h22
          have hst : stepK (s.map fun j => isoB (rd cls j)) 22 = popK (s.map fun j => isoB (rd cls j)) := rfl
          obtain ⟨r, hr, hev⟩ := pop_loop cls g o i (by omega) (by omega) (by omega) (fun r => r.2.2 = o ++ looseK (s.map fun j => isoB (rd cls j)) i (22 :: cls.drop (i + 1))) s [] hok (by simp; omega) (fun j hj => by simp at hj) (by
            rw [List.nil_append]
            cases hp : popK (s.map fun j => isoB (rd cls j)) with
            | none =>
              obtain ⟨r, h1, h2⟩ := ih (i + 1) s g (o ++ [(i : Int)]) (by omega) hok (by omega) (by simp; omega)
              exact ⟨r, by rw [h1, looseK_none (hst.trans hp), List.append_assoc]; rfl, h2⟩
            | some u =>
              intro t' g' hu hok' hl' hg'
              obtain ⟨r, h1, h2⟩ := ih (i + 1) t' g' o (by omega) hok' (by omega) (by omega)
              exact ⟨r, by rw [h1, looseK_some (hst.trans hp), hu], h2⟩)
          rw [List.nil_append] at hev
          refine ⟨r, hr, Ev.step (fun k => by rw [naskhref47_walk.j1]) (ev_neg (by simp) (ev_neg (by omega) (Ev.step (fun k => by rw [naskhref47_walk.j2]) (ev_neg (by simp) (ev_neg (by omega) (ev_pos rfl ?_))))))⟩
          rw [w64 (by omega) (by rw [List.length_reverse]; omega), List.length_reverse]
          exact hev
        · have hst : stepK (s.map fun j => isoB (rd cls j)) c = some (s.map fun j => isoB (rd cls j)) := by
            unfold stepK
            rw [hef, hif]
            simp [h18, h22]
          obtain ⟨r, h1, h2⟩ := ih (i + 1) s g o (by omega) hok (by omega) (by omega)
          refine ⟨r, by rw [h1, looseK_some hst], Ev.step (fun k => by rw [naskhref47_walk.j1]) (ev_neg (by simp) (ev_neg h18 (Ev.step (fun k => by rw [naskhref47_walk.j2]) (ev_neg (by simp) (ev_neg h18 (ev_neg h22 ?_))))))⟩
          rw [hnext]
          exact h2
theorem loose_c {w : World} {v : Value} {cls : List Int} (h : SL w v cls) (hm : cls.length ≤ 900000) : Calls Try.prog 54 #[v] w fun e w' => ∃ u, e = .returned u ∧ Kd.R (Kd.int .i64) 3 w' w.heap.size (fun _ => True) u (looseK [] 0 cls) ∧ Below w.heap.size w w' := by
  obtain ⟨A, c, rfl, hc, h1⟩ := h
  obtain ⟨⟨r1, r2, r3⟩, hr, hev⟩ := loose_loop cls hm cls.length 0 [] [] [] (by omega) (fun j hj => by simp at hj) (by simp) (by simp)
  have hr' : r3 = looseK [] 0 cls := hr
  subst hr'
  obtain ⟨k, hk⟩ := (show Ev (fun k => naskhref47_Loose.f k cls) (looseK [] 0 cls) from by
    unfold naskhref47_Loose.f
    exact ev_bind (a := (r1, r2, looseK [] 0 cls)) hev (ev_now _)).rounds
  exact (naskhref47_Loose.calls k A c cls _ w h1 hc hk).mono fun e w' h => h
end Go.Proofs.Ytfkgjoflekemaaa.CEven
