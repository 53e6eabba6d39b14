/- slices.BinarySearch in a rising list; what stays of a paragraph (evened's function value): walked. -/
import Derived.Test.YtfkgjoflekemaaaCEvenA
import Derived.Test.YtfkgjoflekemaaaCBsP
namespace Go.Proofs.Ytfkgjoflekemaaa.CEven
open Go.RowKit Go.Shelf Go.Proofs.YtfkgjoflekemaaaW.PrintWords Go.Proofs.YtfkgjoflekemaaaW.PrintMore Go.Proofs.YtfkgjoflekemaaaW.PrintLast Go.Proofs.Ytfkgjoflekemaaa.U Go.Proofs.Ytfkgjoflekemaaa.CBase Go.Proofs.Ytfkgjoflekemaaa.UEven Go.Proofs.Ytfkgjoflekemaaa.CFunc Go.Proofs.Ytfkgjoflekemaaa.PBinarySearch
set_option linter.unusedVariables false
set_option linter.unusedSimpArgs false
theorem less_eq (a b : Int) : cmp_Less_int.f a b = some (decide (a < b)) := by
  unfold cmp_Less_int.f cmp_isNaN_int.f
  simp
theorem bs_loop (xs : List Int) (x : Int) (hs : xs.Pairwise (· < ·)) (hm : xs.length ≤ 1000000) (d : Nat) : ∀ lo hi : Nat, lo ≤ hi → hi ≤ xs.length → hi - lo ≤ d → (∀ (j : Nat) (hj : j < xs.length), j < lo → xs[j] < x) → (∀ (j : Nat) (hj : j < xs.length), hi ≤ j → ¬ xs[j] < x) →
    ∃ r : Int, Ev (fun k => slices_BinarySearch_int_int.l0 k xs x (xs.length : Int) (lo : Int) (hi : Int)) (r, decide (x ∈ xs)) := by
  induction d with
  | zero =>
    intro lo hi h1 h2 h3 hb ha
    have e : lo = hi := by omega
    subst e
    refine ⟨lo, Ev.step (fun k => by rw [slices_BinarySearch_int_int.l0]) (ev_neg (by omega) ?_)⟩
    refine ev_ite (fun h => ?_) (fun h => ?_)
    · refine ev_pos (by omega) (ev_pos (by omega) ?_)
      have hl : lo < xs.length := by omega
      rw [rd_get hl]
      refine ev_ite (fun he => ?_) (fun he => ?_)
      · refine ev_eq (ev_now _) ?_
        rw [decide_eq_true (show x ∈ xs by rw [← he]; exact List.getElem_mem hl)]
      · unfold slices_isNaN_int.f
        simp only [bne_self_eq_false, Option.bind_some, Bool.false_eq_true, if_false]
        refine ev_eq (ev_now _) ?_
        rw [decide_eq_false (fun hm => ?_)]
        obtain ⟨j, hj, e⟩ := List.mem_iff_getElem.1 hm
        by_cases hjl : j < lo
        · have := hb j hj hjl; omega
        · by_cases hje : j = lo
          · subst hje; exact he e
          · have := List.pairwise_iff_getElem.1 hs lo j hl hj (by omega)
            have := ha lo hl (Nat.le_refl _)
            omega
    · refine ev_eq (ev_now _) ?_
      rw [decide_eq_false (fun hm => ?_)]
      obtain ⟨j, hj, e⟩ := List.mem_iff_getElem.1 hm
      have := hb j hj (by omega)
      omega
  | succ d ih =>
    intro lo hi h1 h2 h3 hb ha
    by_cases hlt : lo < hi
    · have hmid : wrap64 ((IntKind.u64.wrap (wrap64 ((lo : Int) + hi))) / 2) = (((lo + hi) / 2 : Nat) : Int) := by
        rw [w64 (n := (lo : Int) + hi) (by omega) (by omega), IntWalk.u64_in _ (by omega), w64 (by omega) (by omega)]
        omega
      have hml : (lo + hi) / 2 < xs.length := by omega
      have hrl : ∀ k, slices_BinarySearch_int_int.l0 (k + 1) xs x (xs.length : Int) (lo : Int) (hi : Int) = if xs[(lo + hi) / 2] < x then slices_BinarySearch_int_int.l0 k xs x (xs.length : Int) (((lo + hi) / 2 + 1 : Nat) : Int) (hi : Int) else slices_BinarySearch_int_int.l0 k xs x (xs.length : Int) (lo : Int) (((lo + hi) / 2 : Nat) : Int) := by
        intro k
        rw [slices_BinarySearch_int_int.l0, if_pos (by omega)]
        simp only [hmid]
        rw [if_pos (by omega), if_pos (by omega), rd_get hml, less_eq]
        simp only [Option.bind_some, decide_eq_true_eq]
        rw [w64 (by omega) (by omega)]
        rfl
      by_cases hc : xs[(lo + hi) / 2] < x
      · obtain ⟨r, hr⟩ := ih ((lo + hi) / 2 + 1) hi (by omega) h2 (by omega) (fun j hj hjl => by
          by_cases hje : j = (lo + hi) / 2
          · subst hje; exact hc
          · have := List.pairwise_iff_getElem.1 hs j ((lo + hi) / 2) hj hml (by omega)
            omega) ha
        exact ⟨r, Ev.step (fun k => by rw [hrl k, if_pos hc]) hr⟩
      · obtain ⟨r, hr⟩ := ih lo ((lo + hi) / 2) (by omega) (by omega) (by omega) hb (fun j hj hjl => by
          by_cases hje : j = (lo + hi) / 2
          · subst hje; exact hc
          · have := List.pairwise_iff_getElem.1 hs ((lo + hi) / 2) j hml hj (by omega)
            omega)
        exact ⟨r, Ev.step (fun k => by rw [hrl k, if_neg hc]) hr⟩
    · exact (ih lo hi h1 h2 (by omega) hb ha)
theorem bs_c {w : World} {v : Value} {xs : List Int} (h : SL w v xs) (hs : xs.Pairwise (· < ·)) (hm : xs.length ≤ 1000000) (x : Int) : Calls Try.prog 174 #[v, .int .i64 x] w fun e w' => ∃ r : Int, e = .returned (.tuple #[.int .i64 r, .bool (decide (x ∈ xs))]) ∧ Below w.heap.size w w' := by
  obtain ⟨A, c, rfl, hc, h1⟩ := h
  obtain ⟨r, hr⟩ := bs_loop xs x hs hm xs.length 0 xs.length (by omega) (by omega) (by omega) (fun j hj h => absurd h (Nat.not_lt_zero _)) (fun j hj h => by omega)
  obtain ⟨k, hk⟩ := (show Ev (fun k => slices_BinarySearch_int_int.f k xs x) (r, decide (x ∈ xs)) from hr).rounds
  exact (slices_BinarySearch_int_int.calls k A c xs x _ _ w h1 hc hk).mono fun e w' h => ⟨r, h.1, h.2.below⟩
theorem stepW_loose (cls : Int → Int) (st : UEven.W) (k : Int) (c : Int) : (stepW cls st k c).loose = st.loose ∨ (stepW cls st k c).loose = st.loose ++ [k] := by
  unfold stepW
  split
  · exact .inl rfl
  · split
    · split
      · split
        · exact .inl rfl
        · exact .inr rfl
      · exact .inr rfl
    · split
      · split
        · exact .inl rfl
        · exact .inr rfl
      · exact .inl rfl
theorem stAt_loose (cls : List Int) : ∀ k, k ≤ cls.length → (stAt cls k).loose.Pairwise (· < ·) ∧ ∀ j ∈ (stAt cls k).loose, j < (k : Int) := by
  intro k
  induction k with
  | zero => intro _; exact ⟨List.Pairwise.nil, fun j hj => by simp [stAt, walkW] at hj⟩
  | succ k ih =>
    intro h
    obtain ⟨h1, h2⟩ := ih (by omega)
    rw [stAt_succ cls k (by omega)]
    rcases stepW_loose (rd cls) (stAt cls k) k cls[k] with e | e
    · rw [e]; exact ⟨h1, fun j hj => by have := h2 j hj; omega⟩
    · rw [e]
      refine ⟨List.pairwise_append.2 ⟨h1, List.pairwise_singleton _ _, fun a ha b hb => ?_⟩, fun j hj => ?_⟩
      · simp at hb; subst hb; exact h2 a ha
      · rcases List.mem_append.1 hj with hj | hj
        · have := h2 j hj; omega
        · simp at hj; omega
theorem stays_snoc (loose codes : List Int) (n : Nat) : ∀ i, stays loose codes i (n + 1) = stays loose codes i n ++ (if ((i + n : Nat) : Int) ∈ loose then [] else [codes.getD (i + n) 0]) := by
  induction n with
  | zero => intro i; simp [stays]
  | succ n ih =>
    intro i
    have e : i + 1 + n = i + (n + 1) := by omega
    rw [stays, ih (i + 1), e]
    conv => rhs; rw [stays]
    split <;> simp
theorem stays_length (loose codes : List Int) (n : Nat) : ∀ i, (stays loose codes i n).length ≤ n := by
  induction n with
  | zero => intro i; simp [stays]
  | succ n ih =>
    intro i
    rw [stays]
    have := ih (i + 1)
    split
    · omega
    · simp; omega
set_option maxRecDepth 100000 in
set_option maxHeartbeats 1000000 in
theorem stays_c {w : World} {base g B5 B2 : Nat} {cv vc : Value} {st : UEven.W} {codes : List Int} (lo hi : Nat) (hlo : lo ≤ hi) (hhi : hi ≤ codes.length) (hm : codes.length ≤ 1000000) (hW : WT w base g cv st) (h5 : w.cell? ⟨B5, 0, none⟩ = some (.pointer (some ⟨g, 0, none⟩))) (h2 : w.cell? ⟨B2, 0, none⟩ = some vc) (hC : SL w vc codes) (hp : st.loose.Pairwise (· < ·)) (hl : st.loose.length ≤ 1000000) :
    Calls Try.prog 173 #[.int .i64 lo, .int .i64 hi, .pointer (some ⟨B5, 0, none⟩), .pointer (some ⟨B2, 0, none⟩)] w fun e w' => ∃ u, e = .returned u ∧ Kd.R (Kd.int .i64) 3 w' w.heap.size (fun _ => True) u (stays st.loose codes lo (hi - lo)) ∧ Below w.heap.size w w' := by
  have HW := Aside0.mk hW
  have H5 := Aside0.mk h5
  have H2 := Aside0.mk h2
  have HC := Aside0.mk hC
  have HP := Aside0.mk hp
  obtain ⟨A, c, rfl, _, _⟩ := hC
  clear hW h5 h2 hp
  go_enter Try.func173, Try.ntmps173
  go_wp2_with fail
  go_loopw [7, 8] (fun v a wr => ∃ k : Nat, a = .int .i64 ((lo + k : Nat) : Int) ∧ lo + k ≤ hi ∧ Aside0 (Kd.R (Kd.int .i64) 3 wr w.heap.size (fun _ => True) v (stays st.loose codes lo k)) ∧ Aside0 (Below w.heap.size w wr)) (fun _ a _ => hi - (intOf a).toNat)
  case atStart => exact ⟨0, rfl, by omega, ⟨Kd.R_nil _ _ _ _ _⟩, ⟨Below.refl _ _⟩⟩
  case round =>
    obtain ⟨k, rfl, hk, HV, HB⟩ := hrel
    obtain ⟨Av, cv', rfl⟩ := Kd.R_slice HV.out
    have HSN := Aside0.mk (stays_snoc st.loose codes k lo)
    have HSL := Aside0.mk (stays_length st.loose codes k lo)
    obtain ⟨n, hn⟩ : ∃ n, n = lo + k := ⟨_, rfl⟩
    rw [← hn] at hk HSN ⊢
    have HN := Aside0.mk hn
    obtain ⟨ss, hss⟩ : ∃ ss, ss = stays st.loose codes lo k := ⟨_, rfl⟩
    rw [← hss] at HV HSN HSL ⊢
    have HSS := Aside0.mk hss
    clear hss
    by_cases hlt : n < hi
    · have hltI : (n : Int) < hi := by omega
      obtain ⟨vs, vl, vo, hW⟩ := HW.out
      have hW2 := hW.below HB.out
      have HV2 := Aside0.mk hW2
      obtain ⟨A3, c3, rfl⟩ := Kd.R_slice hW.own.rc
      obtain ⟨d0, d1, d2, d3⟩ := hW2.cells
      have b5 : wr.cell? ⟨B5, 0, none⟩ = some (.pointer (some ⟨g, 0, none⟩)) := (HB.out.cell (World.block_lt_of_cell? _ _ H5.out)).trans H5.out
      have b2 : wr.cell? ⟨B2, 0, none⟩ = some (.slice A codes.length c) := (HB.out.cell (World.block_lt_of_cell? _ _ H2.out)).trans H2.out
      have HC1 : Aside0 (SL wr (.slice A codes.length c) codes) := ⟨SLk.below HC.out HB.out⟩
      clear hn hW hW2
      obtain ⟨b, hb⟩ : ∃ b, b = decide ((n : Int) ∈ st.loose) := ⟨_, rfl⟩
      have HBB := Aside0.mk hb
      cases b with
      | true =>
        have hst : stays st.loose codes lo (k + 1) = ss := by rw [HSN.out, if_pos (of_decide_eq_true hb.symm)]; simp
        have HST := Aside0.mk hst
        clear hb hst
        go_wp2_with (go_at_call 174; refine (bs_c (SLk.of_R HV2.out.own.rc) HP.out hl _).mono ?_; rintro e w2 ⟨r, rfl, hb2⟩; rw [← HBB.out]; have HB2 : Aside0 (Below w.heap.size w w2) := ⟨below_step HB.out hb2⟩; have HVB : Aside0 (Kd.R (Kd.int .i64) 3 w2 w.heap.size (fun _ => True) (.slice Av ss.length cv') ss) := ⟨Kd.R_below HV.out hb2⟩; clear hb2 d0 d1 d2 d3 b5 b2 HB HV)
        exact ⟨⟨k + 1, by rw [HN.out]; go_num, by have := HN.out; omega, ⟨by rw [HST.out]; exact HVB.out⟩, HB2⟩, by simp [intOf]; omega⟩
      | false =>
        have hst : stays st.loose codes lo (k + 1) = ss ++ [codes.getD n 0] := by rw [HSN.out, if_neg (of_decide_eq_false hb.symm)]
        have HST := Aside0.mk hst
        have hx : ∀ W, Below wr.heap.size wr W → ∃ ad, A = some ad ∧ W.cell? (ad.add n) = some (.int .i64 (codes.getD n 0)) := fun W hbw => by
          obtain ⟨ad, c1, ea, hct⟩ := SLk.at_int (SLk.below HC1.out hbw) (n : Int) (by omega) (by omega)
          injection ea with e1
          rw [rd_nat, Int.toNat_natCast] at hct
          exact ⟨ad, e1, hct⟩
        obtain ⟨ad, rfl, _⟩ := hx wr (Below.refl _ _)
        have HX := Aside0.mk hx
        obtain ⟨x, hxx⟩ : ∃ x, x = codes.getD n 0 := ⟨_, rfl⟩
        rw [← hxx] at HST HX
        clear hb hst hx hxx
        have hnl : (n : Int) < codes.length := by omega
        go_wp2_with (first | (go_at_call 174; refine (bs_c (SLk.of_R HV2.out.own.rc) HP.out hl _).mono ?_; rintro e w2 ⟨r, rfl, hb2⟩; rw [← HBB.out]; have HB2 : Aside0 (Below w.heap.size w w2) := ⟨below_step HB.out hb2⟩; have HVB : Aside0 (Kd.R (Kd.int .i64) 3 w2 w.heap.size (fun _ => True) (.slice Av ss.length cv') ss) := ⟨Kd.R_below HV.out hb2⟩; have b2x : w2.cell? ⟨B2, 0, none⟩ = some (.slice (some ad) codes.length c) := (hb2.cell (World.block_lt_of_cell? _ _ b2)).trans b2; obtain ⟨ad', ea, hct⟩ := HX.out w2 hb2; cases ea; clear hb2 d0 d1 d2 d3 b5 b2 HB HV) | (at_builtin; refine Kd.R_append (Kd.int .i64) (w0 := w) w.heap.size rfl (.tmp 28) (.tmp 33) 22 3 (.int .i64 0) 8 rfl Try.underlying22 CSlices.info3 rfl (by decide) (by omega) (.slice Av ss.length cv') ss x [.int .i64 x] (fun _ => True) (fun _ => False) rfl rfl rfl (fun _ hk => hk.elim) (fun _ _ => trivial) HVB.out HB2.out HB2.out.size (by have := HSL.out; have := HN.out; omega) ?_; intro v1 w3 hv hb hg hat; have HV3 := Aside0.mk hv; have HB3 := Aside0.mk hb; clear hv hb hg hat))
        exact ⟨⟨k + 1, by rw [HN.out]; go_num, by have := HN.out; omega, ⟨by rw [HST.out]; exact HV3.out⟩, HB3⟩, by simp [intOf]; omega⟩
    · go_wp2
      go_ret
      have e : hi - lo = k := by omega
      rw [e, ← HSS.out]
      exact ⟨_, rfl, HV.out, HB.out⟩
end Go.Proofs.Ytfkgjoflekemaaa.CEven
