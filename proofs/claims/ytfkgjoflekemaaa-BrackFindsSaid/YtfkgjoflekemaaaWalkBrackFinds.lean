/- BrackFinds answers true: the law's own function, walked over the contracts of brack.Find and of the document's answer. -/
import Derived.Test.YtfkgjoflekemaaaCBrack5
namespace Go.Proofs.Ytfkgjoflekemaaa
open Go.RowKit Go.Proofs.YtfkgjoflekemaaaW.PrintWords Go.Proofs.YtfkgjoflekemaaaW.PrintMore Go.Proofs.YtfkgjoflekemaaaW.PrintLast Go.Proofs.Ytfkgjoflekemaaa.U Go.Proofs.Ytfkgjoflekemaaa.CBase Go.Proofs.Ytfkgjoflekemaaa.CSlices Go.Proofs.Ytfkgjoflekemaaa.UBrack Go.Proofs.Ytfkgjoflekemaaa.PBrackFinds
set_option linter.unusedVariables false
set_option linter.unusedSimpArgs false
theorem eq58_loop (xs : List S58) (hm : xs.length ≤ 1000000) (n : Nat) : ∀ i : Nat, i + n = xs.length → Ev (fun k => api_Pair_57.l0 k xs xs (xs.length : Int) i) true := by
  induction n with
  | zero =>
    intro i hi
    refine Ev.step (fun k => by rw [api_Pair_57.l0]) (ev_neg (by omega) (ev_now _))
  | succ n ih =>
    intro i hi
    refine Ev.step (fun k => by rw [api_Pair_57.l0]) (ev_pos (by omega) (ev_pos (by omega) (ev_pos (by omega) (ev_pos (by omega) (ev_neg (by simp) ?_)))))
    rw [w64 (by omega) (by omega)]
    exact ih (i + 1) (by omega)
theorem eq58_ev (xs : List S58) (hm : xs.length ≤ 1000000) : Ev (fun k => api_Pair_57.f k xs xs) true := ev_pos rfl (eq58_loop xs hm xs.length 0 (by omega))
theorem eq58_c {u v : Value} {xs : List S58} {w : World} (h1 : SLk k58 w u xs) (h2 : SLk k58 w v xs) (hm : xs.length ≤ 1000000) : Calls Try.prog 57 #[u, v] w fun e w' => e = .returned (.bool true) ∧ Below w.heap.size w w' := by
  obtain ⟨A, c, rfl, hc, hC⟩ := h1
  obtain ⟨B, d, rfl, hd, hD⟩ := h2
  obtain ⟨k, hk⟩ := (eq58_ev xs hm).rounds
  exact (api_Pair_57.calls k A c xs B d xs true w hC hc hD hd hk).mono fun e w' h => ⟨h.1, h.2.below⟩
set_option maxRecDepth 100000 in
set_option maxHeartbeats 4000000 in
theorem brackFindsWalk (codes l : List Int) (w : World) (A0 : Option Addr) (c0 : Nat) (hr0 : Kd.C (Kd.int .i64) w A0 codes.length codes) (hc0 : codes.length ≤ c0) (hm0 : codes.length ≤ maxLen) (_ : codes.length * 8 ≤ 140737488351232) (_ : ∀ x ∈ codes, (Lit.int .i64 x).wf = true) (A1 : Option Addr) (c1 : Nat) (hr1 : Kd.C (Kd.int .i64) w A1 l.length l) (hc1 : l.length ≤ c1) (hm1 : l.length ≤ maxLen) (_ : l.length * 8 ≤ 140737488351232) (_ : ∀ x ∈ l, (Lit.int .i64 x).wf = true) :
    Calls Try.prog 16 #[.slice A0 codes.length c0, .slice A1 l.length c1] w fun e w' => e = .returned (.bool true) ∧ Below w.heap.size w w' := by
  have H := Aside0.mk (SLk.mk hr0 hc0)
  have H1 := Aside0.mk (SLk.mk hr1 hc1)
  clear hr0 hc0 hr1 hc1

  by_cases g : 300 < codes.length
  · have a1 : decide (300 < (codes.length : Int)) = true := decide_eq_true (by omega)
    have a2 : decide (300 < codes.length) = true := decide_eq_true g
    clear g
    go_enter Try.func16, Try.ntmps16
    go_wp2_with fail
    refine (CBrack.awake_c _).mono ?_
    rintro e w1 ⟨rfl, hb⟩
    go_wp2
    go_ret
    exact ⟨rfl, hb⟩
  have b1 : decide (300 < (codes.length : Int)) = false := decide_eq_false (by omega)
  have b2 : decide (300 < codes.length) = false := decide_eq_false g

  by_cases g' : 300 < l.length
  · have a1 : decide (300 < (l.length : Int)) = true := decide_eq_true (by omega)
    have a2 : decide (300 < l.length) = true := decide_eq_true g'
    clear g'
    go_enter Try.func16, Try.ntmps16
    go_wp2_with fail
    refine (CBrack.awake_c _).mono ?_
    rintro e w1 ⟨rfl, hb⟩
    go_wp2
    go_ret
    exact ⟨rfl, hb⟩
  have d1 : decide (300 < (l.length : Int)) = false := decide_eq_false (by omega)
  have d2 : decide (300 < l.length) = false := decide_eq_false g'
  have HM : Aside0 (codes.length ≤ 300 ∧ l.length ≤ 300) := ⟨by omega, by omega⟩
  clear g g'
  go_enter Try.func16, Try.ntmps16
  go_wp2_with fail
  refine (CBrack.find58_c H.out H1.out (by have := HM.out; omega) (by have := HM.out; omega)).mono ?_
  rintro e w1 ⟨u, rfl, hu, hb⟩
  have HU := Aside0.mk hu
  have HB := Aside0.mk hb
  clear hu hb
  go_wp2_with fail
  refine (CBrack.rfind_c (SLk.below H.out HB.out) (SLk.below H1.out HB.out) (by have := HM.out; omega) (by have := HM.out; omega)).mono ?_
  rintro e w2 ⟨v, rfl, hv, hb⟩
  have HU2 := Aside0.mk (SLk.below HU.out hb)
  have HV := Aside0.mk hv
  have HB2 := Aside0.mk (below_step HB.out hb)
  clear hv hb
  go_wp2_with fail
  refine (eq58_c HU2.out HV.out (by have := find_length codes l; have := HM.out; omega)).mono ?_
  rintro e w3 ⟨rfl, hb⟩
  have HB3 := Aside0.mk (below_step HB2.out hb)
  clear hb
  go_wp2_with fail
  refine (CBrack.awake_c _).mono ?_
  rintro e w4 ⟨rfl, hb⟩
  have HB4 := Aside0.mk (below_step HB3.out hb)
  clear hb
  go_wp2
  go_ret
  exact ⟨rfl, HB4.out⟩
end Go.Proofs.Ytfkgjoflekemaaa
