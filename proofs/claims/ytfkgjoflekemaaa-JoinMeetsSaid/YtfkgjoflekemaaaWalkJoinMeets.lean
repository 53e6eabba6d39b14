/- JoinMeets answers true: the law's own function, walked over the contracts of join. -/
import Derived.Test.YtfkgjoflekemaaaCJoin3
import Derived.Test.YtfkgjoflekemaaaUJoinMeets
namespace Go.Proofs.Ytfkgjoflekemaaa
open Go.RowKit Go.Proofs.YtfkgjoflekemaaaW.PrintWords Go.Proofs.Ytfkgjoflekemaaa.U Go.Proofs.Ytfkgjoflekemaaa.CJoin2 Go.Proofs.Ytfkgjoflekemaaa.CJoin3 Go.Proofs.Ytfkgjoflekemaaa.CBase Go.Proofs.Ytfkgjoflekemaaa.UJoin
set_option linter.unusedVariables false
set_option linter.unusedSimpArgs false
set_option maxRecDepth 100000 in
set_option maxHeartbeats 2000000 in
theorem joinMeetsWalk (l0 : List Int) (w : World) (A0 : Option Addr) (c0 : Nat) (hr0 : Kd.C (Kd.int .i64) w A0 l0.length l0) (hc0 : l0.length ≤ c0) (hm0 : l0.length ≤ maxLen) (_ : l0.length * 8 ≤ 140737488351232) (_ : ∀ x ∈ l0, (Lit.int .i64 x).wf = true) :
    Calls Try.prog 7 #[.slice A0 l0.length c0] w fun e w' => e = .returned (.bool true) ∧ Below w.heap.size w w' := by
  unfold maxLen at hm0
  have H := Aside0.mk (SLk.mk hr0 hc0)
  have HC := Aside0.mk hr0
  clear hr0 hc0
  by_cases g : 300 < l0.length
  · have g1 : decide (300 < (l0.length : Int)) = true := decide_eq_true (by omega)
    have g2 : decide (300 < l0.length) = true := decide_eq_true g
    clear g
    go_enter Try.func7, Try.ntmps7
    go_wp2_with fail
    refine (awake_c _).mono ?_
    rintro e w1 ⟨rfl, hb⟩
    go_wp2
    go_ret
    exact ⟨rfl, hb⟩
  · have g1 : decide (300 < (l0.length : Int)) = false := decide_eq_false (by omega)
    have g2 : decide (300 < l0.length) = false := decide_eq_false g
    have hm : l0.length ≤ 300 := by omega
    clear g
    go_enter Try.func7, Try.ntmps7
    go_wp2_with fail
    refine (forms_c _ l0 _ H.out (by omega)).mono ?_
    rintro e w1 ⟨u, rfl, hu, hb⟩
    have hfl := formsOf_length l0
    have hfg : ∀ x : Int, 0 ≤ x → x < l0.length → rd (formsOf l0) x = fm l0 x.toNat := fun x h0 h1 => formsOf_get l0 x.toNat (by omega)
    generalize formsOf l0 = f at hu hfl hfg
    have HFL := Aside0.mk hfl
    have HFG := Aside0.mk hfg
    clear hfg
    obtain ⟨B, d, rfl, hd, hu2⟩ := hu
    have HU := Aside0.mk hu2
    have HB := Aside0.mk hb
    clear hu2 hb hd
    have hne : ((f.length : Int) != (l0.length : Int)) = false := by simp [hfl]
    clear hfl
    go_wp2_with fail
    go_loopw [19] (fun v wr => ∃ x : Int, v = .int .i64 x ∧ 0 ≤ x ∧ x ≤ f.length ∧ Aside0 (Below w.heap.size w wr) ∧ Aside0 (Below w1.heap.size w1 wr)) (fun v _ => f.length - (intOf v).toNat)
    case atStart => exact ⟨0, rfl, by omega, by omega, HB, ⟨Below.refl _ _⟩⟩
    case round =>
      clear HB
      obtain ⟨x, rfl, h0, hx, HB, HB1⟩ := hrel
      by_cases hlt : x < f.length
      · have hx2 : x < (l0.length : Int) := by have := HFL.out; omega
        obtain ⟨ad, ea, hcf⟩ := Kd.at_int (Kd.C_below HU.out HB1.out) x h0 hlt
        cases ea
        have HE := Aside0.mk (HFG.out x h0 hx2)
        by_cases hg : rd f x = 3 ∨ rd f x = 4
        · obtain ⟨k, hk, hkl, hk2⟩ := meets l0 x.toNat (by omega) (by rw [← HE.out]; exact hg)
          rw [show ((x.toNat : Nat) : Int) = x by omega] at hk
          have HK := Aside0.mk hk
          clear hk
          have hkf : (k : Int) < (f.length : Int) := by have := HFL.out; omega
          have hkl' : (k : Int) < (l0.length : Int) := by omega
          have hk0 : (0 : Int) ≤ (k : Int) := by omega
          have hfk : rd f (k : Int) = fm l0 k := by have := HFG.out (k : Int) hk0 hkl'; rwa [Int.toNat_natCast] at this
          rw [← hfk] at hk2
          have hA : ((rd f x != 3) = false) ∨ ((rd f x != 3) = true ∧ (rd f x != 4) = false) := by
            rcases hg with h | h
            · left; simp [h]
            · right; simp [h]
          have hB : ((rd l0 k != 5) = false) ∨ ((rd l0 k != 5) = true ∧ (rd f k != 2) = false) ∨ ((rd l0 k != 5) = true ∧ (rd f k != 2) = true ∧ (rd f k != 4) = false) := by
            by_cases h5 : rd l0 k = 5
            · left; simp [h5]
            · right
              rcases hk2 with h | h | h
              · exact absurd h h5
              · left; simp [h5, h]
              · right; simp [h5, h]
          clear hk2 hfk hg HE
          obtain ⟨ad3, ea3, hck⟩ := Kd.at_int (Kd.C_below HC.out HB.out) (k : Int) hk0 hkl'
          cases ea3
          obtain ⟨ad4, ea4, hfk⟩ := Kd.at_int (Kd.C_below HU.out HB1.out) (k : Int) hk0 hkf
          cases ea4
          simp only [Int.toNat_natCast] at hck hfk
          rcases hA with hA | ⟨hA, hA2⟩
          all_goals
            go_wp2_with fail
            refine (behind_c (SLk.below H.out HB.out) (by omega) x).mono ?_
            rw [HK.out]
            rintro e w2 ⟨rfl, hb⟩
            have hck2 := pw_cell_below hb hck
            have hfk2 := pw_cell_below hb hfk
            have HB2 := Aside0.mk (below_step HB.out hb)
            have HB12 := Aside0.mk (below_step HB1.out hb)
            clear hb hcf hck hfk
            rcases hB with hB | ⟨hB, hB2⟩ | ⟨hB, hB2, hB3⟩
            all_goals
              go_wp2_with fail
              exact ⟨⟨x + 1, rfl, by omega, by omega, HB2, HB12⟩, by simp [intOf]; omega⟩
        · have hA : (rd f x != 3) = true := by simp only [not_or] at hg; simp [hg.1]
          have hA2 : (rd f x != 4) = true := by simp only [not_or] at hg; simp [hg.2]
          clear hg HE
          go_wp2_with fail
          exact ⟨⟨x + 1, rfl, by omega, by omega, HB, HB1⟩, by simp [intOf]; omega⟩
      · go_wp2_with fail
        refine (awake_c _).mono ?_
        rintro e w4 ⟨rfl, hb⟩
        have HB4 := Aside0.mk (below_step HB.out hb)
        clear hb HB
        go_wp2
        go_ret
        exact ⟨rfl, HB4.out⟩
end Go.Proofs.Ytfkgjoflekemaaa
