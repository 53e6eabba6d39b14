/- WeakGone answers true: the law's own function, walked over the contract of weak.All. -/
import Derived.Test.YtfkgjoflekemaaaUWeak
namespace Go.Proofs.Ytfkgjoflekemaaa
open Go.RowKit Go.Proofs.YtfkgjoflekemaaaW.PrintWords Go.Proofs.Ytfkgjoflekemaaa.U Go.Proofs.Ytfkgjoflekemaaa.CBase Go.Proofs.Ytfkgjoflekemaaa.CSlices Go.Proofs.Ytfkgjoflekemaaa.CWeak
set_option linter.unusedVariables false
set_option linter.unusedSimpArgs false
set_option maxRecDepth 100000 in
set_option maxHeartbeats 2000000 in
theorem weakGoneWalk (l : List Int) (right : Bool) (w : World) (A0 : Option Addr) (c0 : Nat) (hr0 : Kd.C (Kd.int .i64) w A0 l.length l) (hc0 : l.length ≤ c0) (hm0 : l.length ≤ maxLen) (_ : l.length * 8 ≤ 140737488351232) (_ : ∀ x ∈ l, (Lit.int .i64 x).wf = true) :
    Calls Try.prog 9 #[.slice A0 l.length c0, .bool right] w fun e w' => e = .returned (.bool true) ∧ Below w.heap.size w w' := by
  have H := Aside0.mk (SLk.mk hr0 hc0)
  clear hr0 hc0
  by_cases g : 300 < l.length
  · have g1 : decide (300 < (l.length : Int)) = true := decide_eq_true (by omega)
    have g2 : decide (300 < l.length) = true := decide_eq_true g
    clear g
    go_enter Try.func9, Try.ntmps9
    go_wp2_with fail
    refine (CWeak.awake_c _).mono ?_
    rintro e w1 ⟨rfl, hb⟩
    go_wp2
    go_ret
    exact ⟨rfl, hb⟩
  · have g1 : decide (300 < (l.length : Int)) = false := decide_eq_false (by omega)
    have g2 : decide (300 < l.length) = false := decide_eq_false g
    have HM := Aside0.mk (show l.length ≤ 1000000 by omega)
    clear g
    cases right
    · go_enter Try.func9, Try.ntmps9
      go_wp2_with fail
      refine (CWeak.all_c 0 H.out HM.out).mono ?_
      rintro e w1 ⟨u, rfl, hu, hb⟩
      have HG := Aside0.mk (gone 0 (by decide) l)
      have hal : (allW 0 l).length = l.length := t7_length 0 l
      generalize allW 0 l = a at hu HG hal
      have HB := Aside0.mk hb
      have HU := Aside0.mk hu
      obtain ⟨A, c, rfl, _, _⟩ := hu
      clear hb
      have hne : ((a.length : Int) != (l.length : Int)) = false := by rw [hal]; simp
      go_wp2_with fail
      go_loopw [24] (fun v wx => ∃ k : Nat, v = .int .i64 k ∧ k ≤ a.length ∧ wx = w1) (fun v _ => a.length - (intOf v).toNat)
      case atStart => exact ⟨0, rfl, Nat.zero_le _, rfl⟩
      case round =>
        obtain ⟨k, rfl, hk, rfl⟩ := hrel
        by_cases hlt : k < a.length
        · obtain ⟨ad, c1, ea, hct⟩ := SLk.at_int HU.out (k : Int) (by omega) (by omega)
          injection ea with e1 e2 e3
          subst e1
          simp only [Int.toNat_natCast] at hct
          clear e2 e3
          have hx := HG.out (rd a (k : Int)) (rd_mem hlt)
          generalize rd a (k : Int) = x at hx hct
          have q1 : (x == 2) = false := by simp; exact hx.1
          have q2 : (x == 8) = false := by simp; exact hx.2.1
          have q3 : (x == 4) = false := by simp; exact hx.2.2.1
          have q4 : (x == 5) = false := by simp; exact hx.2.2.2.1
          have q5 : (x == 7) = false := by simp; exact hx.2.2.2.2
          have hkI : (k : Int) < (a.length : Int) := by omega
          clear hx
          go_wp2_with fail
          exact ⟨⟨k + 1, by go_num, by omega, trivial⟩, by simp [intOf]; omega⟩
        · have hkI : decide ((k : Int) < (a.length : Int)) = false := decide_eq_false (by omega)
          go_wp2_with fail
          refine (CWeak.awake_c _).mono ?_
          rintro e w2 ⟨rfl, hb⟩
          have HB2 := Aside0.mk (below_step HB.out hb)
          clear hb
          go_wp2
          go_ret
          exact ⟨rfl, HB2.out⟩
    · go_enter Try.func9, Try.ntmps9
      go_wp2_with fail
      refine (CWeak.all_c 1 H.out HM.out).mono ?_
      rintro e w1 ⟨u, rfl, hu, hb⟩
      have HG := Aside0.mk (gone 1 (by decide) l)
      have hal : (allW 1 l).length = l.length := t7_length 1 l
      generalize allW 1 l = a at hu HG hal
      have HB := Aside0.mk hb
      have HU := Aside0.mk hu
      obtain ⟨A, c, rfl, _, _⟩ := hu
      clear hb
      have hne : ((a.length : Int) != (l.length : Int)) = false := by rw [hal]; simp
      go_wp2_with fail
      go_loopw [24] (fun v wx => ∃ k : Nat, v = .int .i64 k ∧ k ≤ a.length ∧ wx = w1) (fun v _ => a.length - (intOf v).toNat)
      case atStart => exact ⟨0, rfl, Nat.zero_le _, rfl⟩
      case round =>
        obtain ⟨k, rfl, hk, rfl⟩ := hrel
        by_cases hlt : k < a.length
        · obtain ⟨ad, c1, ea, hct⟩ := SLk.at_int HU.out (k : Int) (by omega) (by omega)
          injection ea with e1 e2 e3
          subst e1
          simp only [Int.toNat_natCast] at hct
          clear e2 e3
          have hx := HG.out (rd a (k : Int)) (rd_mem hlt)
          generalize rd a (k : Int) = x at hx hct
          have q1 : (x == 2) = false := by simp; exact hx.1
          have q2 : (x == 8) = false := by simp; exact hx.2.1
          have q3 : (x == 4) = false := by simp; exact hx.2.2.1
          have q4 : (x == 5) = false := by simp; exact hx.2.2.2.1
          have q5 : (x == 7) = false := by simp; exact hx.2.2.2.2
          have hkI : (k : Int) < (a.length : Int) := by omega
          clear hx
          go_wp2_with fail
          exact ⟨⟨k + 1, by go_num, by omega, trivial⟩, by simp [intOf]; omega⟩
        · have hkI : decide ((k : Int) < (a.length : Int)) = false := decide_eq_false (by omega)
          go_wp2_with fail
          refine (CWeak.awake_c _).mono ?_
          rintro e w2 ⟨rfl, hb⟩
          have HB2 := Aside0.mk (below_step HB.out hb)
          clear hb
          go_wp2
          go_ret
          exact ⟨rfl, HB2.out⟩
end Go.Proofs.Ytfkgjoflekemaaa
