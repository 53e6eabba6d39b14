/- Texts of this claim, cut to what it needs. -/
import Derived.Test.YtohhobcipfmkbaaKCTurnC
import Derived.Test.YtohhobcipfmkbaaKCIdent
namespace Go.Proofs.Ytohhobcipfmkbaa
open Go.RowKit Go.Maps Go.Proofs.YtohhobcipfmkbaaW.PrintWords Go.Proofs.YtohhobcipfmkbaaW.PrintMore Go.Proofs.YtohhobcipfmkbaaW.PrintLast Go.Proofs.Ytohhobcipfmkbaa.U Go.Proofs.Ytohhobcipfmkbaa.PClusterFinest Go.Proofs.Ytohhobcipfmkbaa.CFin Go.Proofs.Ytohhobcipfmkbaa.UFinEv Go.Proofs.Ytohhobcipfmkbaa.UTurn Go.Proofs.Ytohhobcipfmkbaa.CTurn Go.Proofs.Ytohhobcipfmkbaa.UWhole
set_option linter.unusedVariables false
set_option linter.unusedSimpArgs false
set_option maxRecDepth 100000 in
set_option maxHeartbeats 4000000 in
theorem clusterTurnsWalk (l : List S45) (n : Int) (w : World) (A : Option Addr) (c : Nat) (hr : Kd.C k45 w A l.length l) (hc : l.length ≤ c) (_ : (Lit.int .i64 n).wf = true) :
    Calls Try.prog 8 #[.slice A l.length c, .int .i64 n] w fun e w' => e = .returned (.bool true) ∧ Below w.heap.size w w' := by
  have H := Aside0.mk (SLk.mk hr hc)
  clear hr hc
  have T0 : Aside0 True := ⟨trivial⟩
  go_enter Try.func8, Try.ntmps8
  by_cases h60 : l.length > 60
  · have hI : (60 : Int) < (l.length : Int) := by omega
    go_wp2_with (go_at_call 28; refine awake_c.mono ?_; rintro e w9 ⟨rfl, hb9⟩; have HB9 := Aside0.mk hb9; clear hb9)
    go_ret
    exact ⟨rfl, HB9.out⟩
  · have hI : ¬ (60 : Int) < (l.length : Int) := by omega
    have HLEN : Aside0 (l.length ≤ 60) := ⟨by omega⟩
    by_cases hn : n > 200
    · go_wp2_with (go_at_call 28; refine awake_c.mono ?_; rintro e w9 ⟨rfl, hb9⟩; have HB9 := Aside0.mk hb9; clear hb9)
      go_ret
      exact ⟨rfl, HB9.out⟩
    · have HN : Aside0 (n ≤ 200) := ⟨by omega⟩
      go_wp2_with (first | (go_at_call 34; refine (turn_c H.out (by have := HLEN.out; omega)).mono ?_; rintro e w1 ⟨u1, rfl, hs, hb1⟩; have HU1 := Aside0.mk hs; have HB1 := Aside0.mk hb1; have H1 := Aside0.mk (SLk.below H.out hb1); clear hs hb1) | (go_at_call 35; refine (refTurn_c H1.out (by have := HLEN.out; omega)).mono ?_; rintro e w2 ⟨u2, rfl, hR, hb2⟩; have HV2 := Aside0.mk (SLk.of_R hR); have HU2 := Aside0.mk (SLk.below HU1.out hb2); have HB2 : Aside0 (Below w.heap.size w w2) := ⟨below_step HB1.out hb2⟩; clear hR hb2) | (go_at_call 23; have tk := T0.out; clear T0 tk; refine (eq45_c HU2.out HV2.out (by unfold turnT; rw [sortT_len, List.length_map]; have := HLEN.out; omega)).mono ?_; rintro e w3 ⟨rfl, hd3⟩; have HB3 : Aside0 (Below w.heap.size w w3) := ⟨below_step HB2.out (drawn0_below hd3)⟩; clear hd3) | (go_at_call 36; refine (ident_c n HN.out).mono ?_; rintro e w4 ⟨u4, rfl, hs, hb4⟩; have HU4 := Aside0.mk hs; have HB4 : Aside0 (Below w.heap.size w w4) := ⟨below_step HB3.out hb4⟩; clear hs hb4) | (go_at_call 37; refine (refIdent_c n HN.out).mono ?_; rintro e w5 ⟨u5, rfl, hs, hb5⟩; have HV5 := Aside0.mk hs; have HU5 := Aside0.mk (SLk.below HU4.out hb5); have HB5 : Aside0 (Below w.heap.size w w5) := ⟨below_step HB4.out hb5⟩; clear hs hb5) | (go_at_call 23; refine (eq45_c HU5.out HV5.out (by rw [idS_len]; have := HN.out; omega)).mono ?_; rintro e w6 ⟨rfl, hd6⟩; have HB6 : Aside0 (Below w.heap.size w w6) := ⟨below_step HB5.out (drawn0_below hd6)⟩; clear hd6) | (go_at_call 28; refine awake_c.mono ?_; rintro e w9 ⟨rfl, hb9⟩; have HB9 := Aside0.mk hb9; clear hb9))
      go_ret
      exact ⟨rfl, below_step HB6.out HB9.out⟩
end Go.Proofs.Ytohhobcipfmkbaa
