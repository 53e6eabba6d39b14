/- Texts of this claim, cut to what it needs. -/
import Derived.Test.YtohhobcipfmkbaaKCFinA
import Derived.Test.YtohhobcipfmkbaaKCFinP
import Derived.Test.YtohhobcipfmkbaaKUFinEv
import Derived.Laws.CopyOwn
import Derived.BigQuiet
namespace Go.Proofs.Ytohhobcipfmkbaa.CFin
open Go.RowKit Go.Proofs.YtohhobcipfmkbaaW.PrintWords Go.Proofs.YtohhobcipfmkbaaW.PrintMore Go.Proofs.YtohhobcipfmkbaaW.PrintLast Go.Proofs.Ytohhobcipfmkbaa.U Go.Proofs.Ytohhobcipfmkbaa.PClusterFinest Go.Proofs.Ytohhobcipfmkbaa.UFinest Go.Proofs.Ytohhobcipfmkbaa.UFinEv
set_option linter.unusedVariables false
set_option linter.unusedSimpArgs false
theorem wrong_c (n m : Int) {w : World} {v : Value} {l : List S45} (h : SLk k45 w v l) (hl : l.length ≤ 1000000) : Calls Try.prog 64 #[.int .i64 n, .int .i64 m, v] w fun e w' => e = .returned (.int .i64 (wrongR n m l)) ∧ Below w.heap.size w w' := by
  obtain ⟨A, c, rfl, hc, hC⟩ := h
  obtain ⟨k, hk⟩ := ev_some (wrong_ev n m l hl)
  exact naskhref04_wrong.calls k n m A c l _ w hC hc hk
set_option maxRecDepth 100000 in
set_option maxHeartbeats 1000000 in
theorem refFinest_bad (n m : Int) {w : World} {v : Value} {l : List S45} (h : SLk k45 w v l) (hl : l.length ≤ 1000000) (hb : wrongR n m l ≠ 0 ∨ n = 0) :
    Calls Try.prog 33 #[.int .i64 n, .int .i64 m, v] w fun e w' => e = .returned (.tuple #[.slice none 0 0, .int .i64 (wrongR n m l)]) ∧ Below w.heap.size w w' := by
  have H := Aside0.mk h
  obtain ⟨A, c, rfl, _, _⟩ := h
  obtain ⟨r, hr⟩ : ∃ r, r = wrongR n m l := ⟨_, rfl⟩
  rw [← hr] at hb ⊢
  have HR := Aside0.mk hr
  clear hr
  go_enter Try.func33, Try.ntmps33
  by_cases h0 : r = 0
  · subst h0
    obtain rfl : n = 0 := by rcases hb with h | h; exact absurd rfl h; exact h
    clear hb
    go_wp2_with (go_at_call 64; refine (wrong_c 0 m H.out hl).mono ?_; rintro e w1 ⟨rfl, hb1⟩; rw [← HR.out]; have HB1 := Aside0.mk hb1; clear hb1)
    refine bodyPost_ret (results_tmp2 rfl _ _ _) rfl ?_
    exact ⟨rfl, HB1.out⟩
  · clear hb
    go_wp2_with (go_at_call 64; refine (wrong_c n m H.out hl).mono ?_; rintro e w1 ⟨rfl, hb1⟩; rw [← HR.out]; have HB1 := Aside0.mk hb1; clear hb1)
    refine bodyPost_ret (results_tmp2 rfl _ _ _) rfl ?_
    exact ⟨rfl, HB1.out⟩
end Go.Proofs.Ytohhobcipfmkbaa.CFin
namespace Go.Proofs.Ytohhobcipfmkbaa.CFin
open Go.RowKit Go.Proofs.YtohhobcipfmkbaaW.PrintWords Go.Proofs.YtohhobcipfmkbaaW.PrintMore Go.Proofs.YtohhobcipfmkbaaW.PrintLast Go.Proofs.Ytohhobcipfmkbaa.U Go.Proofs.Ytohhobcipfmkbaa.PClusterFinest Go.Proofs.Ytohhobcipfmkbaa.UFinest Go.Proofs.Ytohhobcipfmkbaa.UFinEv
set_option linter.unusedVariables false
set_option linter.unusedSimpArgs false
theorem linked_c (n m : Nat) {w : World} {v : Value} {l : List S45} (h : SLk k45 w v l) (hl : l.length ≤ 1000000) (hn : n ≤ 1000000) (h0 : 0 < n) (hx : ∀ x ∈ l, LinkOk n m x) :
    Calls Try.prog 65 #[.int .i64 n, v] w fun e w' => ∃ (g cap : Nat) (r : List Bool), e = .returned (.slice (some ⟨g, 0, none⟩) n cap) ∧ r.length = n ∧ RepB (linkedB (l.map lkOf)) r ∧ w.heap.size ≤ g ∧ LB w' w.heap.size g n cap r ∧ Below w.heap.size w w' := by
  obtain ⟨A, c, rfl, hc, hC⟩ := h
  obtain ⟨r, h1, h2, h3⟩ := linked_ev l hl hn hx
  obtain ⟨k, hk⟩ := ev_some h3
  refine (naskhref04_linked.calls k n A c l r w hC hc hk).mono ?_
  rintro e w' ⟨u, rfl, hu, hb⟩
  obtain ⟨g, cap, rfl, hg, _⟩ := Kd.R_form hu (by omega)
  rw [h1] at hu ⊢
  exact ⟨g, cap, r, rfl, h1, h2, hg, LB.of_R hu, hb⟩
theorem ahead_c (n : Nat) {w : World} {base g cap : Nat} {L : List Lk} {b : List Bool} (h : LB w base g n cap b) (hl : b.length = n) (hn : n ≤ 1000000) (hb : RepB (linkedB L) b) :
    Calls Try.prog 66 #[.slice (some ⟨g, 0, none⟩) n cap] w fun e w' => ∃ (A : Option Addr) (c : Nat), e = .returned (.slice A (aheadS L n).length c) ∧ Kd.C k45 w' A (aheadS L n).length (aheadS L n) ∧ Below w.heap.size w w' := by
  obtain ⟨_, hc, hC⟩ := Kd.R_reads' h
  have he := ahead_ev b hb (by omega)
  rw [hl] at he
  obtain ⟨k, hk⟩ := ev_some he
  subst hl
  refine (naskhref04_ahead.calls k _ cap b _ w hC hc hk).mono ?_
  rintro e w' ⟨u, rfl, hu, hb⟩
  obtain ⟨A, c, rfl, _, hC2⟩ := Kd.R_reads hu
  exact ⟨A, c, rfl, hC2, hb⟩
theorem turn_c {w0 w : World} {g1 g2 gh n m cap1 cap2 c : Nat} {A : Option Addr} {xs ys : List Int} {all : List S45} {L : Lab} (hB : Below w0.heap.size w0 w) (h1 : LI w w0.heap.size g1 n cap1 xs) (h2 : LI w w0.heap.size g2 m cap2 ys) (hne : g1 ≠ g2)
    (h3 : AL w w0.heap.size g1 g2 gh (.slice A all.length c) all) (hn : n ≤ 100000) (hm : m ≤ 100000) (hal : all.length ≤ 1000000) (hnn : ∀ x ∈ all, NonNeg x) (hin : ∀ x ∈ all, LkIn n m (lkOf x)) (hi : Rep L 0 xs) (ho : Rep L n ys) :
    Calls Try.prog 67 #[.slice (some ⟨g1, 0, none⟩) n cap1, .slice (some ⟨g2, 0, none⟩) m cap2, .slice A all.length c] w fun e w' => ∃ xs' ys', e = .returned (.bool (turnL n m (all.map lkOf) L).2) ∧ LI w' w0.heap.size g1 n cap1 xs' ∧ LI w' w0.heap.size g2 m cap2 ys' ∧ AL w' w0.heap.size g1 g2 gh (.slice A all.length c) all ∧ Rep (turnL n m (all.map lkOf) L).1 0 xs' ∧ Rep (turnL n m (all.map lkOf) L).1 n ys' ∧ Below w0.heap.size w0 w' := by
  obtain ⟨xs', ys', he, e1, e2, r1, r2⟩ := turn_ev all hn hm hal hnn hin xs ys h1.len.symm h2.len.symm hi ho
  obtain ⟨k, hk⟩ := ev_some he
  have hc := (Kd.R_reads' h3).2.1
  refine (naskhref04_turn.calls k (fun k => k = g1) _ xs (fun k => k = g2) _ ys A c all _ xs' ys' w0 w hB h1 (fun k e1 e2 => hne (e1.symm.trans e2)) h2 (fun k e1 e2 => hne (e2.symm.trans e1)) (fun W hW => ?_) hc hk).mono ?_
  · exact (Kd.R_reads' (Kd.R_kept h3 hW (fun q hq hs => hs.elim hq.1.1 hq.1.2))).2.2
  · rintro e w' ⟨rfl, a1, a2, a3, a4⟩
    exact ⟨xs', ys', rfl, LI.of_R a1, LI.of_R a2, Kd.R_kept h3 a4 (fun q hq hs => hs.elim hq.1.1 hq.1.2), r1, r2, a3⟩
theorem hull_c {w : World} {base g n cap lo : Nat} {xs : List Int} {L : Lab} (h : LI w base g n cap xs) (hr : Rep L lo xs) (hm : n ≤ 1000000) (v : Nat) :
    Calls Try.prog 68 #[.slice (some ⟨g, 0, none⟩) n cap, .int .i64 v] w fun e w' => e = .returned (.agg #[.int .i64 ((hullL L lo v n).1 : Nat), .int .i64 ((hullL L lo v n).2 : Nat)]) ∧ Below w.heap.size w w' := by
  obtain ⟨hl, hc, hC⟩ := Kd.R_reads' h
  obtain ⟨k, hk⟩ := ev_some (hull_ev hr (by omega) v)
  rw [← hl] at hk
  subst hl
  exact naskhref04_hull.calls k _ cap xs v _ _ w hC hc hk
set_option maxRecDepth 100000 in
set_option maxHeartbeats 1000000 in
theorem refFinest_c (n m : Nat) {w : World} {v : Value} {l : List S45} (h : SLk k45 w v l) (hl : l.length ≤ 1000) (hn : 0 < n) (hn6 : n ≤ 1000) (hm0 : 0 < m) (hm6 : m ≤ 1000) (hw : wrongR n m l = 0) (hlk : ∀ x ∈ l, LinkOk n m x) :
    Calls Try.prog 33 #[.int .i64 n, .int .i64 m, v] w fun e w' => ∃ (u : Value) (L : Lab), e = .returned (.tuple #[u, .int .i64 0]) ∧ FinOk n m (l.map lkOf) L ∧ Kd.R k45 45 w' w.heap.size (fun _ => True) u (cluS n m L n) ∧ Below w.heap.size w w' := by
  have H := Aside0.mk h
  obtain ⟨A, c, rfl, hcc, hC⟩ := h
  have HW := Aside0.mk hw
  have HLK := Aside0.mk hlk
  have HC0 := Aside0.mk hC
  have HCC := Aside0.mk hcc
  clear hw hlk hC hcc
  have hn0 : ¬ (n : Int) = 0 := by omega
  go_enter Try.func33, Try.ntmps33
  go_upto_region 4 with (go_at_call 64; refine (wrong_c n m H.out (by omega)).mono ?_; rintro e w1 ⟨rfl, hb1⟩; rw [HW.out]; have HB1 := Aside0.mk hb1; clear hb1)
  refine start_ (n := 6) (S := (fun W => True)) (ds := []) #[false, false, false, false, false, false] (by kernel_rfl) (by kernel_rfl) (by rfl) trivial (fun hS0 => ?_)
  refine pure_ (i := 0) (N := (some 29)) (v := ?_) (a' := ?_) #[true, false, false, false, false, false] rfl rfl (by kernel_rfl) (fun _ _ _ h => h) (Or.inl ⟨by rfl, ?_⟩) ?_ ?_
  rotate_left
  · intro w'
    go_simp
    with_reducible rfl
  rotate_left
  · simp only [Act.put, List.setIfInBounds_toArray, List.set_cons_zero, List.set_cons_succ]
    rfl
  refine pure_ (i := 2) (N := (some 31)) (v := ?_) (a' := ?_) #[true, false, true, false, false, false] rfl rfl (by kernel_rfl) (fun _ _ _ h => h) (Or.inl ⟨by rfl, ?_⟩) ?_ ?_
  rotate_left
  · intro w'
    go_simp
    with_reducible rfl
  rotate_left
  · simp only [Act.put, List.setIfInBounds_toArray, List.set_cons_zero, List.set_cons_succ]
    rfl
  clear hS0
  refine join_ (σ := Nat × Nat × Nat × Nat) 1 #[true, true, true, true, true, false] (fun s => [(30, .slice (some ⟨s.1, 0, none⟩) n s.2.1), (32, .slice (some ⟨s.2.2.1, 0, none⟩) m s.2.2.2), (9, .slice (some ⟨s.1, 0, none⟩) n s.2.1)]) (fun s w' => Below w.heap.size w w' ∧ LI w' w.heap.size s.1 n s.2.1 (List.replicate n 0) ∧ LI w' w.heap.size s.2.2.1 m s.2.2.2 (List.replicate m 0) ∧ s.1 ≠ s.2.2.1) ?_ (fun hcont => ?_)
  rotate_left
  · refine two_ (i := 1) (j := 3) (Ni := some 30) (Nj := some 32) #[true, true, true, false, false, false] #[true, false, true, true, false, false] rfl rfl rfl rfl (by kernel_rfl) (by decide) (by decide) (fun K hK => ?_) (fun K hK => ?_)
    · refine Kd.R_make_step (Kd.int .i64) (w0 := w) w.heap.size 3 (by rfl) (N := 30) rfl 31 _ _ rfl n rfl rfl Try.underlying31 (.int .i64 0) 8 info3 rfl (by decide) (by omega) 0 (ok := fun k => k = w1.heap.size) (okp := fun k => k = w1.heap.size) rfl (fun _ hk => hk) rfl (by omega) (by omega) (below_drew HB1.out) ((below_drew HB1.out)).size ?_
      intro v w2 hv hb hg hnew
      obtain ⟨gax, capax, ev, hgo⟩ := R_form hv (hnew.imp fun _ h => h.1)
      subst ev
      rw [List.length_replicate, Int.toNat_natCast] at hv ⊢
      have egx : gax = w1.heap.size := hv.1 _ rfl
      have HEx := Aside0.mk egx
      have HVax := Aside0.mk (LI.of_R hv)
      have HBax := Aside0.mk hb
      have HGx := Aside0.mk hg
      clear hv hb hg hnew hgo egx
      change K (Act.put _ (some 30) _) _
      refine hK.out _ _ trivial (fun hS0 => ?_)
      clear hK
      refine norm_ (a' := ?_) ?_ ?_
      rotate_left
      · simp only [Act.put, List.setIfInBounds_toArray, List.set_cons_zero, List.set_cons_succ]
        rfl
      clear hS0
      refine pure_ (i := 4) (N := (some 9)) (v := ?_) (a' := ?_) #[true, true, true, false, true, false] rfl rfl (by kernel_rfl) (fun _ _ _ h => h) (Or.inl ⟨by rfl, ?_⟩) ?_ ?_
      rotate_left
      · intro w'
        go_simp
        with_reducible rfl
      rotate_left
      · simp only [Act.put, List.setIfInBounds_toArray, List.set_cons_zero, List.set_cons_succ]
        rfl
      refine one_ (i := 3) (N := (some 32)) #[true, true, true, true, true, false] rfl rfl (by kernel_rfl) (by decide) (fun K hK => ?_)
      refine Kd.R_make_step (Kd.int .i64) (w0 := w) w.heap.size 3 (by rfl) (N := 32) rfl 31 _ _ rfl m rfl rfl Try.underlying31 (.int .i64 0) 8 info3 rfl (by decide) (by omega) 0 (ok := fun k => k = w2.heap.size) (okp := fun k => k = w2.heap.size) rfl (fun _ hk => hk) rfl (by omega) (by omega) HBax.out (HBax.out).size ?_
      intro v w3 hv hb hg hnew
      obtain ⟨gay, capay, ev, hgo⟩ := R_form hv (hnew.imp fun _ h => h.1)
      subst ev
      rw [List.length_replicate, Int.toNat_natCast] at hv ⊢
      have egy : gay = w2.heap.size := hv.1 _ rfl
      have HEy := Aside0.mk egy
      have HVay := Aside0.mk (LI.of_R hv)
      have HBay := Aside0.mk hb
      have HGy := Aside0.mk hg
      clear hv hb hg hnew hgo egy
      change K (Act.put _ (some 32) _) _
      refine hK.out _ _ trivial (fun hS0 => ?_)
      clear hK
      have hlx : w2.heap.size ≠ w1.heap.size := by have h := HVax.out.ltw; have e := HEx.out; omega
      have hx' : LI w3 w.heap.size gax n capax (List.replicate n 0) := Kd.R_grown HVax.out HGy.out (fun k _ e => by cases e)
      have hne : gax ≠ gay := by rw [HEx.out, HEy.out]; exact fun e => hlx e.symm
      exact hcont (gax, capax, gay, capay) w3 ⟨HBay.out, hx', HVay.out, hne⟩
    · refine Kd.R_make_step (Kd.int .i64) (w0 := w) w.heap.size 3 (by rfl) (N := 32) rfl 31 _ _ rfl m rfl rfl Try.underlying31 (.int .i64 0) 8 info3 rfl (by decide) (by omega) 0 (ok := fun k => k = w1.heap.size) (okp := fun k => k = w1.heap.size) rfl (fun _ hk => hk) rfl (by omega) (by omega) (below_drew HB1.out) ((below_drew HB1.out)).size ?_
      intro v w2 hv hb hg hnew
      obtain ⟨gax, capax, ev, hgo⟩ := R_form hv (hnew.imp fun _ h => h.1)
      subst ev
      rw [List.length_replicate, Int.toNat_natCast] at hv ⊢
      have egx : gax = w1.heap.size := hv.1 _ rfl
      have HEx := Aside0.mk egx
      have HVax := Aside0.mk (LI.of_R hv)
      have HBax := Aside0.mk hb
      have HGx := Aside0.mk hg
      clear hv hb hg hnew hgo egx
      change K (Act.put _ (some 32) _) _
      refine hK.out _ _ trivial (fun hS0 => ?_)
      clear hK
      refine norm_ (a' := ?_) ?_ ?_
      rotate_left
      · simp only [Act.put, List.setIfInBounds_toArray, List.set_cons_zero, List.set_cons_succ]
        rfl
      clear hS0
      refine one_ (i := 1) (N := (some 30)) #[true, true, true, true, false, false] rfl rfl (by kernel_rfl) (by decide) (fun K hK => ?_)
      refine Kd.R_make_step (Kd.int .i64) (w0 := w) w.heap.size 3 (by rfl) (N := 30) rfl 31 _ _ rfl n rfl rfl Try.underlying31 (.int .i64 0) 8 info3 rfl (by decide) (by omega) 0 (ok := fun k => k = w2.heap.size) (okp := fun k => k = w2.heap.size) rfl (fun _ hk => hk) rfl (by omega) (by omega) HBax.out (HBax.out).size ?_
      intro v w3 hv hb hg hnew
      obtain ⟨gay, capay, ev, hgo⟩ := R_form hv (hnew.imp fun _ h => h.1)
      subst ev
      rw [List.length_replicate, Int.toNat_natCast] at hv ⊢
      have egy : gay = w2.heap.size := hv.1 _ rfl
      have HEy := Aside0.mk egy
      have HVay := Aside0.mk (LI.of_R hv)
      have HBay := Aside0.mk hb
      have HGy := Aside0.mk hg
      clear hv hb hg hnew hgo egy
      change K (Act.put _ (some 30) _) _
      refine hK.out _ _ trivial (fun hS0 => ?_)
      clear hK
      refine norm_ (a' := ?_) ?_ ?_
      rotate_left
      · simp only [Act.put, List.setIfInBounds_toArray, List.set_cons_zero, List.set_cons_succ]
        rfl
      clear hS0
      refine pure_ (i := 4) (N := (some 9)) (v := ?_) (a' := ?_) #[true, true, true, true, true, false] rfl rfl (by kernel_rfl) (fun _ _ _ h => h) (Or.inl ⟨by rfl, ?_⟩) ?_ ?_
      rotate_left
      · intro w'
        go_simp
        with_reducible rfl
      rotate_left
      · simp only [Act.put, List.setIfInBounds_toArray, List.set_cons_zero, List.set_cons_succ]
        rfl
      have hlx : w2.heap.size ≠ w1.heap.size := by have h := HVax.out.ltw; have e := HEx.out; omega
      have hx' : LI w3 w.heap.size gax m capax (List.replicate m 0) := Kd.R_grown HVax.out HGy.out (fun k _ e => by cases e)
      have hne : gax ≠ gay := by rw [HEx.out, HEy.out]; exact fun e => hlx e.symm
      exact hcont (gay, capay, gax, capax) w3 ⟨HBay.out, HVay.out, hx', fun e => hne e.symm⟩
  rintro ⟨g1, cap1, g2, cap2⟩ w3 ⟨hb3, hv1, hv2, hne⟩
  dsimp only [putAll]
  have HB3 := Aside0.mk hb3
  have HV1 := Aside0.mk hv1
  have HV2 := Aside0.mk hv2
  have HNE := Aside0.mk hne
  clear hb3 hv1 hv2 hne HB1
  refine norm_ (a' := ?_) ?_ ?_
  rotate_left
  · simp only [Act.put, List.setIfInBounds_toArray, List.set_cons_zero, List.set_cons_succ]
    rfl
  refine pure_ (i := 5) (N := (some 10)) (v := ?_) (a' := ?_) #[true, true, true, true, true, true] rfl rfl (by kernel_rfl) (fun _ _ _ h => h) (Or.inl ⟨by rfl, ?_⟩) ?_ ?_
  rotate_left
  · intro w'
    go_simp
    with_reducible rfl
  rotate_left
  · simp only [Act.put, List.setIfInBounds_toArray, List.set_cons_zero, List.set_cons_succ]
    rfl
  refine done_ (by kernel_rfl) ?_
  go_wp2_with fail
  go_loopw [11] (fun v wr => ∃ (k : Nat) (xs : List Int), v = .int .i64 k ∧ k ≤ n ∧ Aside0 (xs.length = n) ∧ Aside0 (Upto 0 k xs) ∧ Aside0 (LI wr w.heap.size g1 n cap1 xs) ∧ Aside0 (LI wr w.heap.size g2 m cap2 (List.replicate m 0)) ∧ Aside0 (Below w.heap.size w wr)) (fun v _ => n - (intOf v).toNat)
  case atStart => exact ⟨0, List.replicate n 0, rfl, Nat.zero_le _, ⟨List.length_replicate ..⟩, ⟨fun i hi => absurd hi (Nat.not_lt_zero i)⟩, HV1, HV2, HB3⟩
  case round =>
    clear HV1 HV2 HB3
    obtain ⟨k, xs, rfl, hk, HXL, HUP, HV1, HV2, HB1⟩ := hrel
    by_cases hlt : k < n
    · obtain ⟨hy, hz⟩ := HV1.out.cell k hlt
      have HP := Aside0.mk (HV1.out.put k (k : Int))
      have HQ := Aside0.mk (HV2.out.other HNE.out.symm k (.int .i64 k))
      have HU : Aside0 (Upto 0 (k + 1) (xs.set k (k : Int))) := ⟨by have := HUP.out.set (by rw [HXL.out]; exact hlt); rwa [Nat.zero_add] at this⟩
      have HXL2 : Aside0 ((xs.set k (k : Int)).length = n) := ⟨by rw [List.length_set]; exact HXL.out⟩
      have HGE := Aside0.mk HV1.out.lt
      clear HV1 HV2 HUP
      have hkI : (k : Int) < (n : Int) := by omega
      go_wp2_with fail
      exact ⟨⟨k + 1, _, by go_num, by omega, HXL2, HU, HP, HQ, ⟨HB1.out.setCell (p := ⟨g1, k, none⟩) HGE.out _⟩⟩, by simp [intOf]; omega⟩
    · have ek : k = n := by omega
      subst ek
      go_wp2_with fail
      have HRI : Aside0 (Rep idL 0 xs) := ⟨by have h := HUP.out; rw [← HXL.out] at h; exact h.rep⟩
      clear HUP
      go_loopw [12] (fun v wr => ∃ (j : Nat) (ys : List Int), v = .int .i64 j ∧ j ≤ m ∧ Aside0 (ys.length = m) ∧ Aside0 (Upto k j ys) ∧ Aside0 (LI wr w.heap.size g1 k cap1 xs) ∧ Aside0 (LI wr w.heap.size g2 m cap2 ys) ∧ Aside0 (Below w.heap.size w wr)) (fun v _ => m - (intOf v).toNat)
      case atStart => exact ⟨0, List.replicate m 0, rfl, Nat.zero_le _, ⟨List.length_replicate ..⟩, ⟨fun i hi => absurd hi (Nat.not_lt_zero i)⟩, HV1, HV2, HB1⟩
      case round =>
        clear HV1 HV2 HB1
        obtain ⟨j, ys, rfl, hj, HYL, HUP, HV1, HV2, HB1⟩ := hrel
        by_cases hlt2 : j < m
        · obtain ⟨hy, hz⟩ := HV2.out.cell j hlt2
          have HP := Aside0.mk (HV2.out.put j ((k + j : Nat) : Int))
          have HQ := Aside0.mk (HV1.out.other HNE.out j (.int .i64 ((k + j : Nat) : Int)))
          have HU : Aside0 (Upto k (j + 1) (ys.set j ((k + j : Nat) : Int))) := ⟨HUP.out.set (by rw [HYL.out]; exact hlt2)⟩
          have HYL2 : Aside0 ((ys.set j ((k + j : Nat) : Int)).length = m) := ⟨by rw [List.length_set]; exact HYL.out⟩
          have HGE := Aside0.mk HV2.out.lt
          clear HV1 HV2 HUP
          have hkI : (j : Int) < (m : Int) := by omega
          obtain ⟨q, hq⟩ : ∃ q : Nat, q = k + j := ⟨_, rfl⟩
          rw [← hq] at HP HQ HU HYL2
          have e1 : IntKind.i64.wrap ((k : Int) + (j : Int)) = (q : Int) := by rw [IntWalk.i64_in _ (by omega)]; omega
          clear hq
          go_wp2_with fail
          exact ⟨⟨j + 1, _, by go_num, by omega, HYL2, HU, HQ, HP, ⟨HB1.out.setCell (p := ⟨g2, j, none⟩) HGE.out _⟩⟩, by simp [intOf]; omega⟩
        · have ej : j = m := by omega
          subst ej
          have HRO : Aside0 (Rep idL k ys) := ⟨by have h := HUP.out; rw [← HYL.out] at h; exact h.rep⟩
          clear HUP
          go_wp2_with (first | ((with_reducible refine gate_builtin (b := .append) (xs := #[.const (.slice none 0 0), .tmp 53]) rfl ?_); at_builtin; refine Kd.R_append_rows k45 (w0 := w) w.heap.size rfl (.const (.slice none 0 0)) (.tmp 53) 40 45 (.agg #[(.int .i64 0), (.int .i64 0), (.int .i64 0), (.int .i64 0)]) 32 rfl Try.underlying40 info45 rfl (by decide) (by omega) (.slice none 0 0) [] l A l.length c (fun k => k ≠ g1 ∧ k ≠ g2) (fun _ => False) rfl rfl (Kd.R_nil _ _ _ _ _) (Kd.C_below HC0.out HB1.out) (fun x cs h => by rw [k45_open h]; exact k45_mkM _ _ _ x) (fun _ h => h.elim) (fun q hq => ⟨fun e => by have := HV1.out.ltw; omega, fun e => by have := HV2.out.ltw; omega⟩) HB1.out HB1.out.size (by simp only [List.length_nil]; omega) ?_; intro v4 w4 hv hb hg hat; rw [List.nil_append] at hv; have HAL := Aside0.mk hv; have HB4 := Aside0.mk hb; have HV14 : Aside0 (LI w4 w.heap.size g1 k cap1 xs) := ⟨Kd.R_grown HV1.out hg (fun _ _ e => by cases e)⟩; have HV24 : Aside0 (LI w4 w.heap.size g2 j cap2 ys) := ⟨Kd.R_grown HV2.out hg (fun _ _ e => by cases e)⟩; clear hv hb hg hat HB1 HV1 HV2) | (go_at_call 65; refine (linked_c k j (SLk.below H.out HB4.out) (by omega) (by omega) hn HLK.out).mono ?_; rintro e w5 ⟨gh, caph, has, rfl, hhl, hhr, hgh, hu, hb5⟩; have HHL := Aside0.mk hhl; have HHR := Aside0.mk hhr; have HU := Aside0.mk hu; have HB5 : Aside0 (Below w.heap.size w w5) := ⟨below_step HB4.out hb5⟩; have HV15 := Aside0.mk (HV14.out.below hb5); have HV25 := Aside0.mk (HV24.out.below hb5); have HAL5 : Aside0 (AL w5 w.heap.size g1 g2 gh v4 l) := ⟨Kd.R_below (Kd.R_mono (Kd.R_bound HAL.out) (fun q hq => ⟨hq.1, by have := hq.2.2.1; omega⟩)) hb5⟩; have HU : Aside0 (LB w5 w.heap.size gh k caph has) := ⟨Kd.R_lower HU.out HB4.out.size⟩; clear hhl hhr hgh hu hb5 HB4 HV14 HV24 HAL))
          go_loopw [13, 15] (fun v13 v15 wr => ∃ (i : Nat) (al : List S45), v15 = .int .i64 i ∧ 1 ≤ i ∧ i ≤ k ∧ Aside0 (al.map lkOf = l.map lkOf ++ strayL (l.map lkOf) i) ∧ Aside0 (∀ x ∈ al, NonNeg x) ∧ Aside0 (al.length ≤ l.length + i) ∧ Aside0 (AL wr w.heap.size g1 g2 gh v13 al) ∧ Aside0 (LB wr w.heap.size gh k caph has) ∧ Aside0 (LI wr w.heap.size g1 k cap1 xs) ∧ Aside0 (LI wr w.heap.size g2 j cap2 ys) ∧ Aside0 (Below w.heap.size w wr)) (fun _ v _ => k - (intOf v).toNat)
          case atStart => exact ⟨1, l, rfl, Nat.le_refl _, hn, ⟨by rw [show strayL (l.map lkOf) 1 = [] by rw [strayL_add]; rfl, List.append_nil]⟩, ⟨fun x hx => (HLK.out x hx).nn⟩, ⟨by omega⟩, HAL5, HU, HV15, HV25, HB5⟩
          case round =>
            clear HAL5 HU HV15 HV25 HB5
            obtain ⟨i, al, rfl, hi1, hik, HMP, HNN, HLE, HAL, HU, HV1, HV2, HB5⟩ := hrel
            by_cases hlt3 : i < k
            · have hcl := HU.out.cell i hlt3
              rw [HHR.out i (by rw [HHL.out]; exact hlt3)] at hcl
              have hkI : (i : Int) < (k : Int) := by omega
              obtain ⟨b, hb⟩ : ∃ b, b = linkedB (l.map lkOf) i := ⟨_, rfl⟩
              rw [← hb] at hcl
              have HBB := Aside0.mk hb
              clear hb
              cases b with
              | true =>
                go_wp2_with fail
                exact ⟨⟨i + 1, al, by go_num, by omega, by omega, ⟨by rw [HMP.out, strayL_add, if_neg (by rw [← HBB.out]; simp), List.append_nil]⟩, HNN, ⟨by have := HLE.out; omega⟩, HAL, HU, HV1, HV2, HB5⟩, by simp [intOf]; omega⟩
              | false =>
                have e1 : IntKind.i64.wrap ((i : Int) - 1) = (i : Int) - 1 := by rw [IntWalk.i64_in _ (by omega)]
                have e2 : IntKind.i64.wrap ((i : Int) + 1) = (i : Int) + 1 := by rw [IntWalk.i64_in _ (by omega)]
                go_wp2_with (first | ((with_reducible refine gate_builtin (b := .append) (xs := #[.tmp 68, .tmp 75]) rfl ?_); at_builtin; refine Kd.R_append k45 (w0 := w) w.heap.size rfl (.tmp 68) (.tmp 75) 40 45 (.agg #[(.int .i64 0), (.int .i64 0), (.int .i64 0), (.int .i64 0)]) 32 rfl Try.underlying40 info45 rfl (by decide) (by omega) _ al (stray1 i) [.int .i64 ((i : Int) - 1), .int .i64 ((i : Int) + 1), .int .i64 0, .int .i64 0] (fun k => (k ≠ g1 ∧ k ≠ g2) ∧ k ≠ gh) (fun _ => False) rfl (by first | (go_simp; done) | (go_simp; rfl)) (k45_mkM _ _ _ (stray1 i)) (fun _ hk => hk.elim) (fun q hq => ⟨⟨fun e => by have := HV1.out.ltw; omega, fun e => by have := HV2.out.ltw; omega⟩, fun e => by have := HU.out.ltw; omega⟩) HAL.out HB5.out HB5.out.size (by have := HLE.out; omega) ?_; intro v6 w6 hv hb hg hat; have HAL6 := Aside0.mk hv; have HB6 := Aside0.mk hb; have HV16 : Aside0 (LI w6 w.heap.size g1 k cap1 xs) := ⟨Kd.R_grown HV1.out hg (fun q hq e => (HAL.out.1 q e.symm).1.1 hq)⟩; have HV26 : Aside0 (LI w6 w.heap.size g2 j cap2 ys) := ⟨Kd.R_grown HV2.out hg (fun q hq e => (HAL.out.1 q e.symm).1.2 hq)⟩; have HU6 : Aside0 (LB w6 w.heap.size gh k caph has) := ⟨Kd.R_grown HU.out hg (fun q hq e => (HAL.out.1 q e.symm).2 hq)⟩; clear hv hb hg hat HAL HB5 HV1 HV2 HU hcl))
                exact ⟨⟨i + 1, al ++ [stray1 i], by go_num, by omega, by omega, ⟨by rw [List.map_append, HMP.out, strayL_add, if_pos ⟨hi1, HBB.out.symm⟩, List.append_assoc, List.map_cons, List.map_nil, stray1_lk hi1]⟩, ⟨fun x hx => (List.mem_append.1 hx).elim (HNN.out x) (fun h => by rw [List.mem_singleton.1 h]; exact stray1_nn hi1)⟩, ⟨by rw [List.length_append]; have := HLE.out; simp only [List.length_cons, List.length_nil]; omega⟩, HAL6, HU6, HV16, HV26, HB6⟩, by simp [intOf]; omega⟩
            · have ei : i = k := by omega
              subst ei
              go_wp2_with (first | (go_at_call 66; refine (ahead_c i HU.out HHL.out (by omega) HHR.out).mono ?_; rintro e w7 ⟨Aa, ca, rfl, hca, hb7⟩; have HCA := Aside0.mk hca; have HGH := Aside0.mk (Nat.lt_of_lt_of_le HU.out.ltw hb7.size); have HAL7 := Aside0.mk (Kd.R_below HAL.out hb7); have HV17 := Aside0.mk (HV1.out.below hb7); have HV27 := Aside0.mk (HV2.out.below hb7); have HB7 : Aside0 (Below w.heap.size w w7) := ⟨below_step HB5.out hb7⟩; clear hca hb7 HAL HU HV1 HV2 HB5) | ((with_reducible refine gate_builtin (b := .append) (xs := #[.tmp 77, .tmp 79]) rfl ?_); at_builtin; refine Kd.R_append_rows k45 (w0 := w) w.heap.size rfl (.tmp 77) (.tmp 79) 40 45 (.agg #[(.int .i64 0), (.int .i64 0), (.int .i64 0), (.int .i64 0)]) 32 rfl Try.underlying40 info45 rfl (by decide) (by omega) _ al (aheadS (l.map lkOf) i) Aa (aheadS (l.map lkOf) i).length ca (fun k => (k ≠ g1 ∧ k ≠ g2) ∧ k ≠ gh) (fun _ => False) rfl rfl HAL7.out HCA.out (fun x cs h => by rw [k45_open h]; exact k45_mkM _ _ _ x) (fun _ h => h.elim) (fun q hq => ⟨⟨fun e => by have := HV17.out.ltw; omega, fun e => by have := HV27.out.ltw; omega⟩, fun e => by have := HGH.out; omega⟩) HB7.out HB7.out.size (by have := HLE.out; have := aheadS_len (l.map lkOf) i; omega) ?_; intro v8 w8 hv hb hg hat; have HAL8 := Aside0.mk hv; have HB8 := Aside0.mk hb; have HV18 : Aside0 (LI w8 w.heap.size g1 i cap1 xs) := ⟨Kd.R_grown HV17.out hg (fun q hq e => (HAL7.out.1 q e.symm).1.1 hq)⟩; have HV28 : Aside0 (LI w8 w.heap.size g2 j cap2 ys) := ⟨Kd.R_grown HV27.out hg (fun q hq e => (HAL7.out.1 q e.symm).1.2 hq)⟩; clear hv hb hg hat HAL7 HCA HV17 HV27 HB7))
              have HMP8 : Aside0 ((al ++ aheadS (l.map lkOf) i).map lkOf = allL i (l.map lkOf)) := ⟨by rw [List.map_append, HMP.out, aheadS_lk]; rfl⟩
              have HNN8 : Aside0 (∀ x ∈ al ++ aheadS (l.map lkOf) i, NonNeg x) := ⟨fun x hx => (List.mem_append.1 hx).elim (HNN.out x) (aheadS_nn _ _ x)⟩
              have HLE8 : Aside0 ((al ++ aheadS (l.map lkOf) i).length ≤ 10000) := ⟨by rw [List.length_append]; have := HLE.out; have := aheadS_len (l.map lkOf) i; omega⟩
              obtain ⟨A8, c8, e8⟩ := Kd.R_slice HAL8.out
              obtain ⟨all, hall⟩ : ∃ all, all = al ++ aheadS (l.map lkOf) i := ⟨_, rfl⟩
              rw [← hall] at HAL8 HMP8 HNN8 HLE8 e8
              subst e8
              clear hall HMP HNN HLE HHL HHR HGH
              have HIN : Aside0 (∀ x ∈ all, LkIn i j (lkOf x)) := ⟨fun x hx => all_in (l := l.map lkOf) (fun y hy => by obtain ⟨z, hz, rfl⟩ := List.mem_map.1 hy; exact linkOk_in (HLK.out z hz)) _ (by rw [← HMP8.out]; exact List.mem_map_of_mem hx)⟩
              go_loopg [84] (sumL idL (i + j) + 1) (fun kq _ wr => ∃ (L : Lab) (xs ys : List Int), Aside0 (∀ R, Closed i j (l.map lkOf) R → Sound R L) ∧ Aside0 (sumL L (i + j) < kq) ∧ Aside0 (Rep L 0 xs) ∧ Aside0 (Rep L i ys) ∧ Aside0 (LI wr w.heap.size g1 i cap1 xs) ∧ Aside0 (LI wr w.heap.size g2 j cap2 ys) ∧ Aside0 (AL wr w.heap.size g1 g2 gh (.slice A8 all.length c8) all) ∧ Aside0 (Below w.heap.size w wr))
              case atStart => exact ⟨idL, xs, ys, ⟨fun R hR x => hR.eqv.refl x⟩, ⟨Nat.lt_succ_self _⟩, HRI, HRO, HV18, HV28, HAL8, HB8⟩
              case round =>
                clear HRI HRO HV18 HV28 HAL8 HB8
                obtain ⟨L, xs, ys, HSD, HKQ, HRI, HRO, HV1, HV2, HAL, HB8⟩ := hrel
                cases gk with
                | zero => exact absurd HKQ.out (Nat.not_lt_zero _)
                | succ gk =>
                  have HTS := Aside0.mk (turnL_sum (fun x hx => by obtain ⟨z, hz, rfl⟩ := List.mem_map.1 hx; exact HIN.out z hz) L : sumL (turnL i j (all.map lkOf) L).1 (i + j) ≤ sumL L (i + j) ∧ _)
                  have HTL : Aside0 ((turnL i j (all.map lkOf) L).2 = false → FinOk i j (l.map lkOf) L) := ⟨fun hf => turn_last (fun y hy => by obtain ⟨z, hz, rfl⟩ := List.mem_map.1 hy; exact linkOk_in (HLK.out z hz)) (fun y hy => by obtain ⟨z, hz, rfl⟩ := List.mem_map.1 hy; exact linkOk_out (HLK.out z hz)) HSD.out (by rw [← HMP8.out]; exact hf)⟩
                  have HTD : Aside0 (∀ R, Closed i j (l.map lkOf) R → Sound R (turnL i j (all.map lkOf) L).1) := ⟨by rw [HMP8.out]; exact turn_step (fun y hy => by obtain ⟨z, hz, rfl⟩ := List.mem_map.1 hy; exact linkOk_in (HLK.out z hz)) HSD.out⟩
                  have HTF : Aside0 ((turnL i j (all.map lkOf) L).2 = false → (turnL i j (all.map lkOf) L).1 = L) := ⟨fun hf => (turnL_false hf).1⟩
                  obtain ⟨b, hb⟩ : ∃ b, b = (turnL i j (all.map lkOf) L).2 := ⟨_, rfl⟩
                  have HBB := Aside0.mk hb
                  clear hb
                  cases b with
                  | true =>
                    go_wp2_with (go_at_call 67; refine (turn_c HB8.out HV1.out HV2.out HNE.out HAL.out (by omega) (by omega) (Nat.le_trans HLE8.out (by decide)) HNN8.out HIN.out HRI.out HRO.out).mono ?_; rintro e w9 ⟨xs', ys', rfl, a1, a2, a3, a4, a5, a6⟩; rw [← HBB.out]; have HV19 := Aside0.mk a1; have HV29 := Aside0.mk a2; have HAL9 := Aside0.mk a3; have HRI9 := Aside0.mk a4; have HRO9 := Aside0.mk a5; have HB9 := Aside0.mk a6; clear a1 a2 a3 a4 a5 a6 HV1 HV2 HAL HB8)
                    go_roundg gk
                    case measure => omega
                    case rel => exact ⟨_, xs', ys', HTD, ⟨by have := HTS.out.2 HBB.out.symm; have := HKQ.out; omega⟩, HRI9, HRO9, HV19, HV29, HAL9, HB9⟩
                  | false =>
                    go_wp2_with (go_at_call 67; refine (turn_c HB8.out HV1.out HV2.out HNE.out HAL.out (by omega) (by omega) (Nat.le_trans HLE8.out (by decide)) HNN8.out HIN.out HRI.out HRO.out).mono ?_; rintro e w9 ⟨xs', ys', rfl, a1, a2, a3, a4, a5, a6⟩; rw [← HBB.out]; have HV19 := Aside0.mk a1; have HV29 := Aside0.mk a2; have HRI9 : Aside0 (Rep L 0 xs') := ⟨by rw [HTF.out HBB.out.symm] at a4; exact a4⟩; have HRO9 : Aside0 (Rep L i ys') := ⟨by rw [HTF.out HBB.out.symm] at a5; exact a5⟩; have HB9 := Aside0.mk a6; clear a1 a2 a3 a4 a5 a6 HV1 HV2 HAL HB8)
                    have HFO : Aside0 (FinOk i j (l.map lkOf) L) := ⟨HTL.out HBB.out.symm⟩
                    clear HTS HTL HTD HTF HBB HKQ HSD HRI HRO HIN HNN8 HLE8 HMP8
                    go_loopw [16, 17] (fun v16 v17 wr => ∃ q : Nat, v17 = .int .i64 q ∧ q ≤ i ∧ Aside0 (Kd.R k45 45 wr w.heap.size (fun p => p ≠ g1 ∧ p ≠ g2) v16 (cluS i j L q)) ∧ Aside0 (LI wr w.heap.size g1 i cap1 xs') ∧ Aside0 (LI wr w.heap.size g2 j cap2 ys') ∧ Aside0 (Below w.heap.size w wr)) (fun _ v _ => i - (intOf v).toNat)
                    case atStart => exact ⟨0, rfl, Nat.zero_le _, ⟨Kd.R_nil _ _ _ _ _⟩, HV19, HV29, HB9⟩
                    case round =>
                      clear HV19 HV29 HB9
                      obtain ⟨q, rfl, hq, HR, HV1, HV2, HB9⟩ := hrel
                      by_cases hlt4 : q < i
                      · go_wp2_with fail
                        go_cut [103] (fun v103 wc => v103 = .bool (decide (q = 0 ∨ L q ≠ L (q - 1))) ∧ Aside0 (Kd.R k45 45 wc w.heap.size (fun p => p ≠ g1 ∧ p ≠ g2) u16 (cluS i j L q)) ∧ Aside0 (LI wc w.heap.size g1 i cap1 xs') ∧ Aside0 (LI wc w.heap.size g2 j cap2 ys') ∧ Aside0 (Below w.heap.size w wc))
                        case first =>
                          rcases q with _ | q
                          · have e0 : decide ((0 : Nat) = 0 ∨ L 0 ≠ L (0 - 1)) = true := decide_eq_true (Or.inl rfl)
                            go_quiet (fail)
                            go_wp2
                            go_meet
                            case rel => exact ⟨by rw [e0], ⟨Kd.R_drewN HR.out _⟩, ⟨Kd.R_drewN HV1.out _⟩, ⟨Kd.R_drewN HV2.out _⟩, ⟨pw_below_drewN HB9.out _⟩⟩
                          · have hc1 := (HV1.out.cell (q + 1) hlt4).1
                            have hc2 := (HV1.out.cell q (by omega)).1
                            rw [HRI9.out (q + 1) (by rw [← HV1.out.len]; exact hlt4), Nat.zero_add] at hc1
                            rw [HRI9.out q (by rw [← HV1.out.len]; omega), Nat.zero_add] at hc2
                            have e0 : decide (q + 1 = 0 ∨ L (q + 1) ≠ L (q + 1 - 1)) = !decide ((L (q + 1) : Int) = (L q : Int)) := by
                              rw [Nat.add_sub_cancel]
                              by_cases h : L (q + 1) = L q
                              · rw [h]; simp
                              · rw [decide_eq_true (Or.inr h), decide_eq_false (by omega)]; rfl
                            have e1 : IntKind.i64.wrap (((q + 1 : Nat) : Int) - 1) = (q : Int) := by rw [IntWalk.i64_in _ (by omega)]; omega
                            obtain ⟨p, hp⟩ : ∃ p, p = q + 1 := ⟨_, rfl⟩
                            have HP := Aside0.mk hp
                            have HE0 := Aside0.mk e0
                            have e2 : decide ((p : Int) = 0) = false := decide_eq_false (by omega)
                            have e5 : decide (p = 0) = false := decide_eq_false (by omega)
                            have e6 : ((p : Int) == 0) = false := by rw [beq_eq_false_iff_ne]; omega
                            rw [← hp] at hc1 e1 hlt4 ⊢
                            clear hp e0
                            have e3 : (p : Int) < (i : Int) := by omega
                            have e4 : (q : Int) < (i : Int) := by omega
                            go_quiet (fail)
                            go_wp2
                            have hp := HP.out
                            subst hp
                            go_meet
                            case rel => exact ⟨by rw [HE0.out]; rfl, ⟨Kd.R_drewN HR.out _⟩, ⟨Kd.R_drewN HV1.out _⟩, ⟨Kd.R_drewN HV2.out _⟩, ⟨pw_below_drewN HB9.out _⟩⟩
                        case rest =>
                          obtain ⟨rfl, HR, HV1, HV2, HB9⟩ := hcut
                          by_cases hcnd : q = 0 ∨ L q ≠ L (q - 1)
                          · have HYES := Aside0.mk (cluS_yes (n := i) (m := j) hcnd)
                            have HLN := Aside0.mk (cluS_len i j L q)
                            rw [decide_eq_true hcnd]
                            clear hcnd
                            have hkI : (q : Int) < (i : Int) := by omega
                            go_wp2_with fail
                            have hc1 := (HV1.out.cell q hlt4).1
                            rw [HRI9.out q (by rw [← HV1.out.len]; exact hlt4), Nat.zero_add] at hc1
                            refine start_ (n := 17) (S := (fun W => W.cell? ⟨g1, q, none⟩ = some (.int .i64 (L q : Nat)) ∧ True)) (ds := [15]) #[false, false, false, false, false, false, false, false, false, false, false, false, false, false, false, false, false] (by kernel_rfl) (by kernel_rfl) (by rfl) (⟨hc1, trivial⟩) (fun hS0 => ?_)
                            refine pure_ (i := 0) (N := (some 104)) (v := ?_) (a' := ?_) #[true, false, false, false, false, false, false, false, false, false, false, false, false, false, false, false, false] rfl rfl (by kernel_rfl) (fun _ _ _ h => h) (Or.inl ⟨by rfl, ?_⟩) ?_ ?_
                            rotate_left
                            · intro w'
                              go_simp
                              with_reducible rfl
                            rotate_left
                            · simp only [Act.put, List.setIfInBounds_toArray, List.set_cons_zero, List.set_cons_succ]
                              rfl
                            refine pure_ (i := 1) (N := (some 105)) (v := ?_) (a' := ?_) #[true, true, false, false, false, false, false, false, false, false, false, false, false, false, false, false, false] rfl rfl (by kernel_rfl) (fun _ _ _ h => h) (Or.inl ⟨by rfl, ?_⟩) ?_ ?_
                            rotate_left
                            · intro w'
                              go_simp
                              with_reducible rfl
                            rotate_left
                            · simp only [Act.put, List.setIfInBounds_toArray, List.set_cons_zero, List.set_cons_succ]
                              rfl
                            refine pure_ (i := 2) (N := (some 106)) (v := ?_) (a' := ?_) #[true, true, true, false, false, false, false, false, false, false, false, false, false, false, false, false, false] rfl rfl (by kernel_rfl) (fun _ _ _ h => h) (Or.inl ⟨by rfl, ?_⟩) ?_ ?_
                            rotate_left
                            · intro w'
                              go_simp
                              with_reducible rfl
                            rotate_left
                            · simp only [Act.put, List.setIfInBounds_toArray, List.set_cons_zero, List.set_cons_succ]
                              rfl
                            refine pure_ (i := 3) (N := (some 107)) (v := ?_) (a' := ?_) #[true, true, true, true, false, false, false, false, false, false, false, false, false, false, false, false, false] rfl rfl (by kernel_rfl) (fun _ _ _ h => h) (Or.inl ⟨by rfl, ?_⟩) ?_ ?_
                            rotate_left
                            · intro w'
                              go_simp
                              with_reducible rfl
                            rotate_left
                            · simp only [Act.put, List.setIfInBounds_toArray, List.set_cons_zero, List.set_cons_succ]
                              rfl
                            refine pure_ (i := 4) (N := (some 108)) (v := ?_) (a' := ?_) #[true, true, true, true, true, false, false, false, false, false, false, false, false, false, false, false, false] rfl rfl (by kernel_rfl) (fun _ _ _ h => h) (Or.inl ⟨by rfl, ?_⟩) ?_ ?_
                            rotate_left
                            · intro w'
                              go_simp
                              with_reducible rfl
                            rotate_left
                            · simp only [Act.put, List.setIfInBounds_toArray, List.set_cons_zero, List.set_cons_succ]
                              rfl
                            refine take_ (i := 5) (N := (some 109)) (v := ?_) (a' := ?_) #[true, true, true, true, true, true, false, false, false, false, false, false, false, false, false, false, false] rfl rfl (by kernel_rfl) (fun _ _ _ h => h) (Or.inl ⟨by rfl, ?_⟩) hS0 ?_ ?_
                            rotate_left
                            · intro w' s0
                              obtain ⟨hx0, hx1⟩ := s0
                              go_simp
                              with_reducible rfl
                            rotate_left
                            · simp only [Act.put, List.setIfInBounds_toArray, List.set_cons_zero, List.set_cons_succ]
                              rfl
                            refine pure_ (i := 7) (N := (some 111)) (v := ?_) (a' := ?_) #[true, true, true, true, true, true, false, true, false, false, false, false, false, false, false, false, false] rfl rfl (by kernel_rfl) (fun _ _ _ h => h) (Or.inl ⟨by rfl, ?_⟩) ?_ ?_
                            rotate_left
                            · intro w'
                              go_simp
                              with_reducible rfl
                            rotate_left
                            · simp only [Act.put, List.setIfInBounds_toArray, List.set_cons_zero, List.set_cons_succ]
                              rfl
                            refine pure_ (i := 8) (N := (some 112)) (v := ?_) (a' := ?_) #[true, true, true, true, true, true, false, true, true, false, false, false, false, false, false, false, false] rfl rfl (by kernel_rfl) (fun _ _ _ h => h) (Or.inl ⟨by rfl, ?_⟩) ?_ ?_
                            rotate_left
                            · intro w'
                              go_simp
                              with_reducible rfl
                            rotate_left
                            · simp only [Act.put, List.setIfInBounds_toArray, List.set_cons_zero, List.set_cons_succ]
                              rfl
                            refine pure_ (i := 9) (N := (some 113)) (v := ?_) (a' := ?_) #[true, true, true, true, true, true, false, true, true, true, false, false, false, false, false, false, false] rfl rfl (by kernel_rfl) (fun _ _ _ h => h) (Or.inl ⟨by rfl, ?_⟩) ?_ ?_
                            rotate_left
                            · intro w'
                              go_simp
                              with_reducible rfl
                            rotate_left
                            · simp only [Act.put, List.setIfInBounds_toArray, List.set_cons_zero, List.set_cons_succ]
                              rfl
                            refine pure_ (i := 10) (N := (some 114)) (v := ?_) (a' := ?_) #[true, true, true, true, true, true, false, true, true, true, true, false, false, false, false, false, false] rfl rfl (by kernel_rfl) (fun _ _ _ h => h) (Or.inl ⟨by rfl, ?_⟩) ?_ ?_
                            rotate_left
                            · intro w'
                              go_simp
                              with_reducible rfl
                            rotate_left
                            · simp only [Act.put, List.setIfInBounds_toArray, List.set_cons_zero, List.set_cons_succ]
                              rfl
                            refine take_ (i := 11) (N := (some 115)) (v := ?_) (a' := ?_) #[true, true, true, true, true, true, false, true, true, true, true, true, false, false, false, false, false] rfl rfl (by kernel_rfl) (fun _ _ _ h => h) (Or.inl ⟨by rfl, ?_⟩) hS0 ?_ ?_
                            rotate_left
                            · intro w' s0
                              obtain ⟨hx0, hx1⟩ := s0
                              go_simp
                              with_reducible rfl
                            rotate_left
                            · simp only [Act.put, List.setIfInBounds_toArray, List.set_cons_zero, List.set_cons_succ]
                              rfl
                            clear hS0
                            refine one_ (i := 6) (N := (some 110)) #[true, true, true, true, true, true, true, true, true, true, true, true, false, false, false, false, false] rfl rfl (by kernel_rfl) (by decide) (fun K hK => ?_)
                            refine goes_ Try.func68 (by kernel_rfl) rfl #[.slice (some ⟨g1, 0, none⟩) i cap1, .int .i64 (L q : Nat)] (by rfl) rfl rfl (by (try simp only [List.map_toArray, List.map_cons, List.map_nil]); rfl) ?_
                            refine (hull_c (LI.below HV1.out (below_drew (Below.refl _ _))) HRI9.out (by omega) (L q)).mono ?_
                            rintro e wa ⟨rfl, hba⟩
                            refine ⟨_, rfl, ?_⟩
                            have hba' := below_step (below_drew (Below.refl _ _)) hba
                            have HVa := Aside0.mk (HV1.out.below hba')
                            have HVb := Aside0.mk (HV2.out.below hba')
                            have HRa := Aside0.mk (Kd.R_below HR.out hba')
                            have HBa : Aside0 (Below w.heap.size w wa) := ⟨below_step HB9.out hba'⟩
                            have hca := (HVa.out.cell q hlt4).1
                            rw [HRI9.out q (by rw [← HV1.out.len]; exact hlt4), Nat.zero_add] at hca
                            clear hba hba' HV1 HV2 HR HB9 hc1
                            change K (Act.put _ (some 110) _) _
                            refine hK.out _ _ ⟨hca, trivial⟩ (fun hS0 => ?_)
                            clear hK
                            refine norm_ (a' := ?_) ?_ ?_
                            rotate_left
                            · simp only [Act.put, List.setIfInBounds_toArray, List.set_cons_zero, List.set_cons_succ]
                              rfl
                            clear hS0
                            refine one_ (i := 12) (N := (some 116)) #[true, true, true, true, true, true, true, true, true, true, true, true, true, false, false, false, false] rfl rfl (by kernel_rfl) (by decide) (fun K hK => ?_)
                            refine goes_ Try.func68 (by kernel_rfl) rfl #[.slice (some ⟨g2, 0, none⟩) j cap2, .int .i64 (L q : Nat)] (by rfl) rfl rfl (by (try simp only [List.map_toArray, List.map_cons, List.map_nil]); rfl) ?_
                            refine (hull_c HVb.out HRO9.out (by omega) (L q)).mono ?_
                            rintro e wb ⟨rfl, hbb⟩
                            refine ⟨_, rfl, ?_⟩
                            have HVa2 := Aside0.mk (HVa.out.below hbb)
                            have HVb2 := Aside0.mk (HVb.out.below hbb)
                            have HRa2 := Aside0.mk (Kd.R_below HRa.out hbb)
                            have HBa2 : Aside0 (Below w.heap.size w wb) := ⟨below_step HBa.out hbb⟩
                            have hcb := (HVa2.out.cell q hlt4).1
                            rw [HRI9.out q (by rw [← HVa2.out.len]; exact hlt4), Nat.zero_add] at hcb
                            clear hbb HVa HVb HRa HBa hca
                            change K (Act.put _ (some 116) _) _
                            refine hK.out _ _ ⟨hcb, trivial⟩ (fun hS0 => ?_)
                            clear hK
                            refine norm_ (a' := ?_) ?_ ?_
                            rotate_left
                            · simp only [Act.put, List.setIfInBounds_toArray, List.set_cons_zero, List.set_cons_succ]
                              rfl
                            refine pure_ (i := 13) (N := (some 117)) (v := ?_) (a' := ?_) #[true, true, true, true, true, true, true, true, true, true, true, true, true, true, false, false, false] rfl rfl (by kernel_rfl) (fun _ _ _ h => h) (Or.inl ⟨by rfl, ?_⟩) ?_ ?_
                            rotate_left
                            · intro w'
                              go_simp
                              with_reducible rfl
                            rotate_left
                            · simp only [Act.put, List.setIfInBounds_toArray, List.set_cons_zero, List.set_cons_succ]
                              rfl
                            clear hS0
                            refine one_ (i := 14) (N := (some 118)) #[true, true, true, true, true, true, true, true, true, true, true, true, true, true, true, false, false] rfl rfl (by kernel_rfl) (by decide) (fun K hK => ?_)
                            refine value_ (w1 := wb.alloc (.cells #[.int .i64 ((hullL L 0 (L q) i).1 : Nat), .int .i64 ((hullL L 0 (L q) i).2 : Nat), .int .i64 ((hullL L i (L q) j).1 : Nat), .int .i64 ((hullL L i (L q) j).2 : Nat)] 45)) (v := .slice (some ⟨wb.heap.size, 0, none⟩) 1 1) (by rfl) rfl (by go_simp) ?_
                            have hal : Below wb.heap.size wb (wb.alloc (.cells #[.int .i64 ((hullL L 0 (L q) i).1 : Nat), .int .i64 ((hullL L 0 (L q) i).2 : Nat), .int .i64 ((hullL L i (L q) j).1 : Nat), .int .i64 ((hullL L i (L q) j).2 : Nat)] 45)) := below_alloc (Below.refl _ _) _
                            have hcc : (wb.alloc (.cells #[.int .i64 ((hullL L 0 (L q) i).1 : Nat), .int .i64 ((hullL L 0 (L q) i).2 : Nat), .int .i64 ((hullL L i (L q) j).1 : Nat), .int .i64 ((hullL L i (L q) j).2 : Nat)] 45)).cell? ⟨g1, q, none⟩ = some (.int .i64 (L q : Nat)) := cell_al hcb _
                            change K (Act.put _ (some 118) _) _
                            refine hK.out _ _ ⟨hcc, trivial⟩ (fun hS0 => ?_)
                            clear hK
                            refine norm_ (a' := ?_) ?_ ?_
                            rotate_left
                            · simp only [Act.put, List.setIfInBounds_toArray, List.set_cons_zero, List.set_cons_succ]
                              rfl
                            clear hS0
                            refine last_ (i := 15) (N := (some 119)) #[true, true, true, true, true, true, true, true, true, true, true, true, true, true, true, true, false] rfl rfl (by kernel_rfl) (by decide) (fun K hK => ?_)
                            refine Kd.R_append_step k45 (w0 := w) w.heap.size (by rfl) (.tmp 104) (.tmp 118) 40 45 (.agg #[(.int .i64 0), (.int .i64 0), (.int .i64 0), (.int .i64 0)]) 32 rfl Try.underlying40 info45 rfl (by decide) (by omega) _ (cluS i j L q) (toS (hullL L 0 (L q) i, hullL L i (L q) j)) [.int .i64 ((hullL L 0 (L q) i).1 : Nat), .int .i64 ((hullL L 0 (L q) i).2 : Nat), .int .i64 ((hullL L i (L q) j).1 : Nat), .int .i64 ((hullL L i (L q) j).2 : Nat)] (fun p => p ≠ g1 ∧ p ≠ g2) (fun _ => False) rfl rfl (k45_mkM _ _ _ (toS (hullL L 0 (L q) i, hullL L i (L q) j))) (fun _ hk => hk.elim) (fun p hp => ⟨fun e => by have := HVa2.out.ltw; omega, fun e => by have := HVb2.out.ltw; omega⟩) HRa2.out HBa2.out HBa2.out.size (by have := HLN.out; omega) ?_
                            intro v1 w2 hv hb hg hat
                            rw [← HYES.out] at hv
                            have HR2 := Aside0.mk hv
                            have HB2 := Aside0.mk hb
                            have HV12 : Aside0 (LI w2 w.heap.size g1 i cap1 xs') := ⟨Kd.R_grown HVa2.out hg (fun p hp e => (HRa2.out.1 p e.symm).1 hp)⟩
                            have HV22 : Aside0 (LI w2 w.heap.size g2 j cap2 ys') := ⟨Kd.R_grown HVb2.out hg (fun p hp e => (HRa2.out.1 p e.symm).2 hp)⟩
                            clear hv hb hg hat HRa2 HBa2 HVa2 HVb2 hcb hcc hal
                            change K (Act.put _ (some 119) _) _
                            refine hK.out _ _ ?_
                            clear hK
                            refine pure_ (i := 16) (N := (some 16)) (v := ?_) (a' := ?_) #[true, true, true, true, true, true, true, true, true, true, true, true, true, true, true, true, true] rfl rfl (by kernel_rfl) (fun _ _ _ h => h) (Or.inl ⟨by rfl, ?_⟩) ?_ ?_
                            rotate_left
                            · intro w'
                              go_simp
                              with_reducible rfl
                            rotate_left
                            · simp only [Act.put, List.setIfInBounds_toArray, List.set_cons_zero, List.set_cons_succ]
                              rfl
                            refine done_ (by kernel_rfl) ?_
                            go_wp2_with fail
                            exact ⟨⟨q + 1, by go_num, by omega, HR2, HV12, HV22, HB2⟩, by simp [intOf]; omega⟩
                          · have HNO := Aside0.mk (cluS_no (n := i) (m := j) hcnd)
                            rw [decide_eq_false hcnd]
                            clear hcnd
                            go_wp2_with fail
                            exact ⟨⟨q + 1, by go_num, by omega, ⟨by rw [HNO.out]; exact HR.out⟩, HV1, HV2, HB9⟩, by simp [intOf]; omega⟩
                      · have eq : q = i := by omega
                        subst eq
                        go_wp2_with fail
                        refine bodyPost_ret (results_tmp2 rfl _ _ _) rfl ?_
                        exact ⟨_, L, rfl, HFO.out, Kd.R_mono HR.out (fun _ _ => trivial), HB9.out⟩
end Go.Proofs.Ytohhobcipfmkbaa.CFin
