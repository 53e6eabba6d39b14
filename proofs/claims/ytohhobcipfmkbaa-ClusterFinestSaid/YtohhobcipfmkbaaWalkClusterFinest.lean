/- ClusterFinest answers true: the law's own function, walked over the contracts of cluster.Finest and of the document's answer. -/
import Derived.Test.YtohhobcipfmkbaaCAwk
namespace Go.Proofs.Ytohhobcipfmkbaa.CFin
open Go.RowKit Go.Maps Go.Proofs.YtohhobcipfmkbaaW.PrintWords Go.Proofs.YtohhobcipfmkbaaW.PrintMore Go.Proofs.YtohhobcipfmkbaaW.PrintLast Go.Proofs.Ytohhobcipfmkbaa.U Go.Proofs.Ytohhobcipfmkbaa.PClusterFinest Go.Proofs.Ytohhobcipfmkbaa.UFinest Go.Proofs.Ytohhobcipfmkbaa.UFinEv
set_option linter.unusedVariables false
set_option linter.unusedSimpArgs false
def fewB : List S45 → Nat → Bool
  | [], _ => true
  | x :: r, i => if 30 ≤ i ∨ x.f0.f1 > 60 ∨ x.f1.f1 > 60 then false else fewB r (i + 1)
theorem few_loop (l : List S45) (hl : l.length ≤ 9223372036854775807) (d : Nat) : ∀ i : Nat, i + d = l.length → Ev (fun k => naskhlaw04_few.l0 k l (l.length : Int) (i : Int)) (fewB (l.drop i) i) := by
  induction d with
  | zero =>
    intro i hd
    rw [List.drop_of_length_le (by omega), fewB]
    exact Ev.step (fun k => by rw [naskhlaw04_few.l0]) (ev_neg (by omega) (ev_now _))
  | succ d ih =>
    intro i hd
    have hlt : i < l.length := by omega
    rw [List.drop_eq_getElem_cons hlt, fewB]
    refine Ev.step (fun k => by rw [naskhlaw04_few.l0]) (ev_pos (by omega) (ev_pos (by omega) (ev_pos (by omega) ?_)))
    rw [rd45 hlt]
    by_cases h1 : (i : Int) ≥ 30
    · rw [if_pos (.inl (by omega))]; exact ev_pos h1 (ev_now _)
    · refine ev_neg h1 ?_
      by_cases h2 : l[i].f0.f1 > 60
      · rw [if_pos (.inr (.inl h2))]; exact ev_pos h2 (ev_now _)
      · refine ev_neg h2 ?_
        by_cases h3 : l[i].f1.f1 > 60
        · rw [if_pos (.inr (.inr h3))]; exact ev_pos h3 (ev_now _)
        · rw [if_neg (by omega)]
          refine ev_neg h3 ?_
          rw [w64 (by omega) (by omega), show (i : Int) + 1 = ((i + 1 : Nat) : Int) by omega]
          exact ih (i + 1) (by omega)
theorem few_len : ∀ (l : List S45) (i : Nat), fewB l i = true → i ≤ 30 → i + l.length ≤ 30
  | [], i, _, h => by simpa using h
  | x :: r, i, h, hi => by
    unfold fewB at h
    split at h
    · cases h
    · rename_i hc
      have := few_len r (i + 1) h (by omega)
      simp; omega
theorem few_c {w : World} {v : Value} {l : List S45} (h : SLk k45 w v l) : Calls Try.prog 31 #[v] w fun e w' => e = .returned (.bool (fewB l 0)) ∧ Below w.heap.size w w' := by
  obtain ⟨A, c, rfl, hc, hC⟩ := h
  obtain ⟨k, hk⟩ := ev_some (few_loop l hC.2.1 l.length 0 (by omega))
  exact naskhlaw04_few.calls k A c l _ w hC hc hk
theorem nil_slk (w : World) : SLk k45 w (.slice none 0 0) [] := ⟨none, 0, rfl, Nat.le_refl _, rfl, by simp, fun h => absurd h (Nat.lt_irrefl 0)⟩
end Go.Proofs.Ytohhobcipfmkbaa.CFin
namespace Go.Proofs.Ytohhobcipfmkbaa
open Go.RowKit Go.Maps Go.Proofs.YtohhobcipfmkbaaW.PrintWords Go.Proofs.YtohhobcipfmkbaaW.PrintMore Go.Proofs.YtohhobcipfmkbaaW.PrintLast Go.Proofs.Ytohhobcipfmkbaa.U Go.Proofs.Ytohhobcipfmkbaa.PClusterFinest Go.Proofs.Ytohhobcipfmkbaa.UFinest Go.Proofs.Ytohhobcipfmkbaa.UFinEv Go.Proofs.Ytohhobcipfmkbaa.CFin
set_option linter.unusedVariables false
set_option linter.unusedSimpArgs false
set_option maxRecDepth 100000 in
set_option maxHeartbeats 4000000 in
theorem clusterFinestWalk (n m : Int) (l : List S45) (w : World) (_ : (Lit.int .i64 n).wf = true) (_ : (Lit.int .i64 m).wf = true) (A : Option Addr) (c : Nat) (hr : Kd.C k45 w A l.length l) (hc : l.length ≤ c) :
    Calls Try.prog 6 #[.int .i64 n, .int .i64 m, .slice A l.length c] w fun e w' => e = .returned (.bool true) ∧ Below w.heap.size w w' := by
  have H := Aside0.mk (SLk.mk hr hc)
  clear hr hc
  obtain ⟨b, hb⟩ : ∃ b, fewB l 0 = b := ⟨_, rfl⟩
  have HB := Aside0.mk hb
  clear hb
  go_enter Try.func6, Try.ntmps6
  cases b with
  | false =>
    go_wp2_with (first | (go_at_call 31; refine (few_c H.out).mono ?_; rintro e w1 ⟨rfl, hb1⟩; rw [HB.out]; have HB1 := Aside0.mk hb1; clear hb1) | (go_at_call 28; refine awake_c.mono ?_; rintro e w2 ⟨rfl, hb2⟩; have HB2 := Aside0.mk hb2; clear hb2))
    go_ret
    exact ⟨rfl, below_step HB1.out HB2.out⟩
  | true =>
    have hlen := few_len l 0 HB.out (by omega)
    have HLEN : Aside0 (l.length ≤ 30) := ⟨by omega⟩
    clear hlen
    by_cases n1 : n > 60
    · by_cases n2 : n ≤ 16777216
      · go_wp2_with (first | (go_at_call 31; refine (few_c H.out).mono ?_; rintro e w1 ⟨rfl, hb1⟩; rw [HB.out]; have HB1 := Aside0.mk hb1; have H1 := Aside0.mk (SLk.below H.out hb1); clear hb1) | (go_at_call 28; refine awake_c.mono ?_; rintro e w2 ⟨rfl, hb2⟩; have HB2 := Aside0.mk hb2; clear hb2))
        go_ret
        exact ⟨rfl, below_step HB1.out HB2.out⟩
      · by_cases m1 : m > 60
        · by_cases m2 : m ≤ 16777216
          · go_wp2_with (first | (go_at_call 31; refine (few_c H.out).mono ?_; rintro e w1 ⟨rfl, hb1⟩; rw [HB.out]; have HB1 := Aside0.mk hb1; have H1 := Aside0.mk (SLk.below H.out hb1); clear hb1) | (go_at_call 28; refine awake_c.mono ?_; rintro e w2 ⟨rfl, hb2⟩; have HB2 := Aside0.mk hb2; clear hb2))
            go_ret
            exact ⟨rfl, below_step HB1.out HB2.out⟩
          · have HG : Aside0 ((n ≤ 60 ∨ n > 16777216) ∧ (m ≤ 60 ∨ m > 16777216)) := ⟨.inr (by omega), .inr (by omega)⟩
            by_cases hbad : wrongR n m l ≠ 0 ∨ n = 0
            · have HBAD := Aside0.mk hbad
              clear hbad
              go_wp2_with (first | (go_at_call 31; refine (few_c H.out).mono ?_; rintro e w1 ⟨rfl, hb1⟩; rw [HB.out]; have HB1 := Aside0.mk hb1; have H1 := Aside0.mk (SLk.below H.out hb1); clear hb1) | (go_at_call 32; refine (finest_bad n m H1.out (by have := HLEN.out; omega) HBAD.out).mono ?_; rintro e w3 ⟨rfl, hb3⟩; have HB3 : Aside0 (Below w.heap.size w w3) := ⟨below_step HB1.out hb3⟩; have H3 := Aside0.mk (SLk.below H1.out hb3); clear hb3) | (go_at_call 33; refine (refFinest_bad n m H3.out (by have := HLEN.out; omega) HBAD.out).mono ?_; rintro e w4 ⟨rfl, hb4⟩; have HB4 : Aside0 (Below w.heap.size w w4) := ⟨below_step HB3.out hb4⟩; clear hb4) | (go_at_call 23; refine (eq45_c (xs := []) (nil_slk _) (nil_slk _) (by decide)).mono ?_; rintro e w5 ⟨rfl, hd5⟩; have HB5 : Aside0 (Below w.heap.size w w5) := ⟨below_step HB4.out (drawn0_below hd5)⟩; clear hd5) | (go_at_call 28; refine awake_c.mono ?_; rintro e w2 ⟨rfl, hb2⟩; have HB2 := Aside0.mk hb2; clear hb2))
              go_ret
              exact ⟨rfl, below_step HB5.out HB2.out⟩
            · have hw : wrongR n m l = 0 ∧ n ≠ 0 := by
                constructor
                · exact Decidable.byContradiction fun e => hbad (.inl e)
                · exact fun e => hbad (.inr e)
              obtain ⟨hw, hn0⟩ := hw
              have hrange : 0 ≤ n ∧ 0 ≤ m ∧ n ≤ 60 ∧ m ≤ 60 ∧ (n > 0 → m ≠ 0) := by
                have hg := HG.out
                unfold wrongR at hw
                split at hw
                · cases hw
                · rename_i hx
                  split at hw
                  · unfold wrongIn at hw
                    split at hw
                    · cases hw
                    · rename_i hy
                      refine ⟨by omega, by omega, by omega, by omega, fun h h2 => hy ⟨h2, h⟩⟩
                  · cases hw
              obtain ⟨r1, r2, r3, r4, r5⟩ := hrange
              exfalso
              omega
        · have HG : Aside0 ((n ≤ 60 ∨ n > 16777216) ∧ (m ≤ 60 ∨ m > 16777216)) := ⟨.inr (by omega), .inl (by omega)⟩
          by_cases hbad : wrongR n m l ≠ 0 ∨ n = 0
          · have HBAD := Aside0.mk hbad
            clear hbad
            go_wp2_with (first | (go_at_call 31; refine (few_c H.out).mono ?_; rintro e w1 ⟨rfl, hb1⟩; rw [HB.out]; have HB1 := Aside0.mk hb1; have H1 := Aside0.mk (SLk.below H.out hb1); clear hb1) | (go_at_call 32; refine (finest_bad n m H1.out (by have := HLEN.out; omega) HBAD.out).mono ?_; rintro e w3 ⟨rfl, hb3⟩; have HB3 : Aside0 (Below w.heap.size w w3) := ⟨below_step HB1.out hb3⟩; have H3 := Aside0.mk (SLk.below H1.out hb3); clear hb3) | (go_at_call 33; refine (refFinest_bad n m H3.out (by have := HLEN.out; omega) HBAD.out).mono ?_; rintro e w4 ⟨rfl, hb4⟩; have HB4 : Aside0 (Below w.heap.size w w4) := ⟨below_step HB3.out hb4⟩; clear hb4) | (go_at_call 23; refine (eq45_c (xs := []) (nil_slk _) (nil_slk _) (by decide)).mono ?_; rintro e w5 ⟨rfl, hd5⟩; have HB5 : Aside0 (Below w.heap.size w w5) := ⟨below_step HB4.out (drawn0_below hd5)⟩; clear hd5) | (go_at_call 28; refine awake_c.mono ?_; rintro e w2 ⟨rfl, hb2⟩; have HB2 := Aside0.mk hb2; clear hb2))
            go_ret
            exact ⟨rfl, below_step HB5.out HB2.out⟩
          · have hw : wrongR n m l = 0 ∧ n ≠ 0 := by
              constructor
              · exact Decidable.byContradiction fun e => hbad (.inl e)
              · exact fun e => hbad (.inr e)
            obtain ⟨hw, hn0⟩ := hw
            have hrange : 0 ≤ n ∧ 0 ≤ m ∧ n ≤ 60 ∧ m ≤ 60 ∧ (n > 0 → m ≠ 0) := by
              have hg := HG.out
              unfold wrongR at hw
              split at hw
              · cases hw
              · rename_i hx
                split at hw
                · unfold wrongIn at hw
                  split at hw
                  · cases hw
                  · rename_i hy
                    refine ⟨by omega, by omega, by omega, by omega, fun h h2 => hy ⟨h2, h⟩⟩
                · cases hw
            obtain ⟨r1, r2, r3, r4, r5⟩ := hrange
            exfalso
            omega
    · by_cases m1 : m > 60
      · by_cases m2 : m ≤ 16777216
        · go_wp2_with (first | (go_at_call 31; refine (few_c H.out).mono ?_; rintro e w1 ⟨rfl, hb1⟩; rw [HB.out]; have HB1 := Aside0.mk hb1; have H1 := Aside0.mk (SLk.below H.out hb1); clear hb1) | (go_at_call 28; refine awake_c.mono ?_; rintro e w2 ⟨rfl, hb2⟩; have HB2 := Aside0.mk hb2; clear hb2))
          go_ret
          exact ⟨rfl, below_step HB1.out HB2.out⟩
        · have HG : Aside0 ((n ≤ 60 ∨ n > 16777216) ∧ (m ≤ 60 ∨ m > 16777216)) := ⟨.inl (by omega), .inr (by omega)⟩
          by_cases hbad : wrongR n m l ≠ 0 ∨ n = 0
          · have HBAD := Aside0.mk hbad
            clear hbad
            go_wp2_with (first | (go_at_call 31; refine (few_c H.out).mono ?_; rintro e w1 ⟨rfl, hb1⟩; rw [HB.out]; have HB1 := Aside0.mk hb1; have H1 := Aside0.mk (SLk.below H.out hb1); clear hb1) | (go_at_call 32; refine (finest_bad n m H1.out (by have := HLEN.out; omega) HBAD.out).mono ?_; rintro e w3 ⟨rfl, hb3⟩; have HB3 : Aside0 (Below w.heap.size w w3) := ⟨below_step HB1.out hb3⟩; have H3 := Aside0.mk (SLk.below H1.out hb3); clear hb3) | (go_at_call 33; refine (refFinest_bad n m H3.out (by have := HLEN.out; omega) HBAD.out).mono ?_; rintro e w4 ⟨rfl, hb4⟩; have HB4 : Aside0 (Below w.heap.size w w4) := ⟨below_step HB3.out hb4⟩; clear hb4) | (go_at_call 23; refine (eq45_c (xs := []) (nil_slk _) (nil_slk _) (by decide)).mono ?_; rintro e w5 ⟨rfl, hd5⟩; have HB5 : Aside0 (Below w.heap.size w w5) := ⟨below_step HB4.out (drawn0_below hd5)⟩; clear hd5) | (go_at_call 28; refine awake_c.mono ?_; rintro e w2 ⟨rfl, hb2⟩; have HB2 := Aside0.mk hb2; clear hb2))
            go_ret
            exact ⟨rfl, below_step HB5.out HB2.out⟩
          · have hw : wrongR n m l = 0 ∧ n ≠ 0 := by
              constructor
              · exact Decidable.byContradiction fun e => hbad (.inl e)
              · exact fun e => hbad (.inr e)
            obtain ⟨hw, hn0⟩ := hw
            have hrange : 0 ≤ n ∧ 0 ≤ m ∧ n ≤ 60 ∧ m ≤ 60 ∧ (n > 0 → m ≠ 0) := by
              have hg := HG.out
              unfold wrongR at hw
              split at hw
              · cases hw
              · rename_i hx
                split at hw
                · unfold wrongIn at hw
                  split at hw
                  · cases hw
                  · rename_i hy
                    refine ⟨by omega, by omega, by omega, by omega, fun h h2 => hy ⟨h2, h⟩⟩
                · cases hw
            obtain ⟨r1, r2, r3, r4, r5⟩ := hrange
            exfalso
            omega
      · have HG : Aside0 ((n ≤ 60 ∨ n > 16777216) ∧ (m ≤ 60 ∨ m > 16777216)) := ⟨.inl (by omega), .inl (by omega)⟩
        by_cases hbad : wrongR n m l ≠ 0 ∨ n = 0
        · have HBAD := Aside0.mk hbad
          clear hbad
          go_wp2_with (first | (go_at_call 31; refine (few_c H.out).mono ?_; rintro e w1 ⟨rfl, hb1⟩; rw [HB.out]; have HB1 := Aside0.mk hb1; have H1 := Aside0.mk (SLk.below H.out hb1); clear hb1) | (go_at_call 32; refine (finest_bad n m H1.out (by have := HLEN.out; omega) HBAD.out).mono ?_; rintro e w3 ⟨rfl, hb3⟩; have HB3 : Aside0 (Below w.heap.size w w3) := ⟨below_step HB1.out hb3⟩; have H3 := Aside0.mk (SLk.below H1.out hb3); clear hb3) | (go_at_call 33; refine (refFinest_bad n m H3.out (by have := HLEN.out; omega) HBAD.out).mono ?_; rintro e w4 ⟨rfl, hb4⟩; have HB4 : Aside0 (Below w.heap.size w w4) := ⟨below_step HB3.out hb4⟩; clear hb4) | (go_at_call 23; refine (eq45_c (xs := []) (nil_slk _) (nil_slk _) (by decide)).mono ?_; rintro e w5 ⟨rfl, hd5⟩; have HB5 : Aside0 (Below w.heap.size w w5) := ⟨below_step HB4.out (drawn0_below hd5)⟩; clear hd5) | (go_at_call 28; refine awake_c.mono ?_; rintro e w2 ⟨rfl, hb2⟩; have HB2 := Aside0.mk hb2; clear hb2))
          go_ret
          exact ⟨rfl, below_step HB5.out HB2.out⟩
        · have hw : wrongR n m l = 0 ∧ n ≠ 0 := by
            constructor
            · exact Decidable.byContradiction fun e => hbad (.inl e)
            · exact fun e => hbad (.inr e)
          obtain ⟨hw, hn0⟩ := hw
          have hrange : 0 ≤ n ∧ 0 ≤ m ∧ n ≤ 60 ∧ m ≤ 60 ∧ (n > 0 → m ≠ 0) := by
            have hg := HG.out
            unfold wrongR at hw
            split at hw
            · cases hw
            · rename_i hx
              split at hw
              · unfold wrongIn at hw
                split at hw
                · cases hw
                · rename_i hy
                  refine ⟨by omega, by omega, by omega, by omega, fun h h2 => hy ⟨h2, h⟩⟩
              · cases hw
          obtain ⟨r1, r2, r3, r4, r5⟩ := hrange
          obtain ⟨N, rfl⟩ : ∃ N : Nat, n = (N : Int) := ⟨n.toNat, by omega⟩
          obtain ⟨M, rfl⟩ : ∃ M : Nat, m = (M : Int) := ⟨m.toNat, by omega⟩
          have hN : 0 < N := by omega
          have hM : 0 < M := by have := r5 (by omega); omega
          have HN := Aside0.mk hN
          have HM := Aside0.mk hM
          have HW := Aside0.mk hw
          have HLK := Aside0.mk (wrong_ok hN hM hw).1
          have HNM : Aside0 (N ≤ 60 ∧ M ≤ 60) := ⟨by omega, by omega⟩
          clear hbad hw hn0 r1 r2 r5 hN hM
          go_wp2_with (first | (go_at_call 31; refine (few_c H.out).mono ?_; rintro e w1 ⟨rfl, hb1⟩; rw [HB.out]; have HB1 := Aside0.mk hb1; have H1 := Aside0.mk (SLk.below H.out hb1); clear hb1) | (go_at_call 32; refine (finest_c N M H1.out (by have := HLEN.out; omega) HN.out HM.out (by have := HNM.out; omega) HW.out).mono ?_; rintro e w3 ⟨u, L, rfl, hf, hR, hb3⟩; have HF := Aside0.mk hf; have HU := Aside0.mk (SLk.of_R hR); have HB3 : Aside0 (Below w.heap.size w w3) := ⟨below_step HB1.out hb3⟩; have H3 := Aside0.mk (SLk.below H1.out hb3); clear hf hR hb3) | (go_at_call 33; refine (refFinest_c N M H3.out (by have := HLEN.out; omega) HN.out (by have := HNM.out; omega) HM.out (by have := HNM.out; omega) HW.out HLK.out).mono ?_; rintro e w4 ⟨u2, L2, rfl, hf, hR, hb4⟩; have HU2 : Aside0 (SLk k45 w4 u2 (cluS N M L N)) := ⟨by have e : cluS N M L N = cluS N M L2 N := (by unfold cluS; rw [cluTo_same (FinOk.same HF.out hf)]); rw [e]; exact SLk.of_R hR⟩; have HU1 := Aside0.mk (SLk.below HU.out hb4); have HB4 : Aside0 (Below w.heap.size w w4) := ⟨below_step HB3.out hb4⟩; clear hf hR hb4) | (go_at_call 23; refine (eq45_c HU1.out HU2.out (by have := cluS_len N M L N; have := HNM.out; omega)).mono ?_; rintro e w5 ⟨rfl, hd5⟩; have HB5 : Aside0 (Below w.heap.size w w5) := ⟨below_step HB4.out (drawn0_below hd5)⟩; clear hd5) | (go_at_call 28; refine awake_c.mono ?_; rintro e w2 ⟨rfl, hb2⟩; have HB2 := Aside0.mk hb2; clear hb2))
          go_ret
          exact ⟨rfl, below_step HB5.out HB2.out⟩
end Go.Proofs.Ytohhobcipfmkbaa
