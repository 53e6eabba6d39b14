/- MarkEach answers true: the law's own function, walked over the contracts of mark and of the document's answers. -/
import Derived.Test.YtfkgjoflekemaaaCMark2
import Derived.Test.YtfkgjoflekemaaaCJoins
import Derived.Test.YtfkgjoflekemaaaCCut
namespace Go.Proofs.Ytfkgjoflekemaaa
open Go.RowKit Go.Proofs.YtfkgjoflekemaaaW.PrintWords Go.Proofs.Ytfkgjoflekemaaa.U Go.Proofs.Ytfkgjoflekemaaa.UJoin Go.Proofs.Ytfkgjoflekemaaa.UMark Go.Proofs.Ytfkgjoflekemaaa.CMark Go.Proofs.Ytfkgjoflekemaaa.CMark2 Go.Proofs.Ytfkgjoflekemaaa.CBase Go.Proofs.Ytfkgjoflekemaaa.CSlices Go.Proofs.Ytfkgjoflekemaaa.CJoins Go.Proofs.Ytfkgjoflekemaaa.CJoin3 Go.Proofs.Ytfkgjoflekemaaa.CCut
set_option linter.unusedVariables false
set_option linter.unusedSimpArgs false
theorem allAt_le (text types : List Int) (mode : Int) (use : Bool) (i : Nat) : (allAt text types mode use i).length ≤ 1 := by
  unfold allAt oneL
  repeat' split
  all_goals simp
theorem allL_get (text types : List Int) (mode : Int) (pl : Bool) (h : text.length = types.length) (i : Nat) (hi : i < text.length) : (allL text types mode pl).getD i [] = allAt text types mode (pl && pilesB mode) i := by
  unfold allL
  rw [if_pos h, List.getD_eq_getElem?_getD, List.getElem?_map, List.getElem?_range hi]
  rfl
theorem allL_length (text types : List Int) (mode : Int) (pl : Bool) (h : text.length = types.length) : (allL text types mode pl).length = text.length := by
  unfold allL
  rw [if_pos h]
  simp
set_option maxRecDepth 100000 in
set_option maxHeartbeats 2000000 in
theorem markEachWalk (text : List Int) (mode : Int) (pl : Bool) (w : World) (A0 : Option Addr) (c0 : Nat) (hr0 : Kd.C (Kd.int .i64) w A0 text.length text) (hc0 : text.length ≤ c0) (hm0 : text.length ≤ maxLen) (_ : text.length * 8 ≤ 140737488351232) (_ : ∀ x ∈ text, (Lit.int .i64 x).wf = true) (_ : (Lit.int .i64 mode).wf = true) :
    Calls Try.prog 12 #[.slice A0 text.length c0, .int .i64 mode, .bool pl] w fun e w' => e = .returned (.bool true) ∧ Below w.heap.size w w' := by
  unfold maxLen at hm0
  have H := Aside0.mk (SLk.mk hr0 hc0)
  have HC := Aside0.mk hr0
  have HCC := Aside0.mk hc0
  clear hr0 hc0
  by_cases g : 200 < text.length
  · have g1 : decide (200 < (text.length : Int)) = true := decide_eq_true (by omega)
    have g2 : decide (200 < text.length) = true := decide_eq_true g
    clear g
    go_enter Try.func12, Try.ntmps12
    go_wp2_with fail
    refine (awake_c _).mono ?_
    rintro e w1 ⟨rfl, hb⟩
    go_wp2
    go_ret
    exact ⟨rfl, hb⟩
  · have g1 : decide (200 < (text.length : Int)) = false := decide_eq_false (by omega)
    have g2 : decide (200 < text.length) = false := decide_eq_false g
    have hm : text.length ≤ 200 := by omega
    clear g
    go_enter Try.func12, Try.ntmps12
    go_wp2_with fail
    refine (joins_c H.out (by omega)).mono ?_
    rintro e w1 ⟨ty, rfl, hty, hb⟩
    have htl : text.length = (text.map jn).length := by simp
    generalize text.map jn = types at hty htl
    have HTL := Aside0.mk htl
    have HTY := Aside0.mk hty
    have HB := Aside0.mk hb
    obtain ⟨T, ct, rfl, _, _⟩ := hty
    have htm : types.length ≤ 1000000 := by omega
    clear hb htl
    go_wp2_with fail
    refine (all_c (SLk.below H.out HB.out) HTY.out mode pl (by omega) htm).mono ?_
    rintro e w2 ⟨u, rfl, hu, hb⟩
    have hll := allL_length text types mode pl HTL.out
    have hlg := allL_get text types mode pl HTL.out
    have hus := hu.reads 3
    generalize allL text types mode pl = l at hus hll hlg
    have HLL := Aside0.mk hll
    have HLG := Aside0.mk hlg
    have HU := Aside0.mk hus
    have HB2 := Aside0.mk (below_step HB.out hb)
    have HTY2 := Aside0.mk (SLk.below HTY.out hb)
    obtain ⟨L, cl, rfl, _, _⟩ := hus
    have hne : ((l.length : Int) != (text.length : Int)) = false := by simp [hll]
    have hle : l.length ≤ 200 := by omega
    clear hb hll hlg hu HB HTY
    go_wp2_with fail
    go_loopw [29] (fun v wr => ∃ k : Nat, v = .int .i64 k ∧ k ≤ l.length ∧ Aside0 (Below w.heap.size w wr) ∧ Aside0 (SLs wr (.slice L l.length cl) l) ∧ Aside0 (SL wr (.slice T types.length ct) types)) (fun v _ => l.length - (intOf v).toNat)
    case atStart => exact ⟨0, rfl, Nat.zero_le _, HB2, HU, HTY2⟩
    case round =>
      clear HB2 HU HTY2
      obtain ⟨k, rfl, hk, HB, HU, HTY⟩ := hrel
      by_cases hlt : k < l.length
      · obtain ⟨ad, c1, ev, X, cx, hcx, hsx⟩ := SLs.at_ HU.out k hlt
        injection ev with e1 e2 e3
        subst e1
        have hkt : k < text.length := by have := HLL.out; omega
        have hx := HLG.out k hkt
        have hx1 := allAt_le text types mode (pl && pilesB mode) k
        rw [← hx] at hx1
        generalize l.getD k [] = x at hcx hsx hx hx1
        have HX := Aside0.mk hx
        have HSX := Aside0.mk hsx
        have hx2 : decide (1 < (x.length : Int)) = false := decide_eq_false (by omega)
        have hx3 : decide (1 < x.length) = false := decide_eq_false (by omega)
        obtain ⟨ad2, ea2, hct⟩ := Kd.at_int (Kd.C_below HC.out HB.out) (k : Int) (by omega) (by omega)
        cases ea2
        simp only [Int.toNat_natCast] at hct
        have hktI : (k : Int) < (text.length : Int) := by omega
        have hkI : 0 ≤ (k : Int) := by omega
        clear hx hsx hkt e2 e3
        by_cases hp : pl = true
        · subst hp
          by_cases h0 : mode = 0
          · subst h0
            clear hx1
            go_wp2_with fail
            exact ⟨⟨k + 1, by go_num, by omega, HB, HU, HTY⟩, by simp [intOf]; omega⟩
          · have h0' : (mode == 0) = false := by simpa using h0
            by_cases h4 : mode = 4
            · subst h4
              clear hx1 h0
              go_wp2_with fail
              exact ⟨⟨k + 1, by go_num, by omega, HB, HU, HTY⟩, by simp [intOf]; omega⟩
            · have h4' : (mode == 4) = false := by simpa using h4
              clear hx1 h0 h4
              go_wp2_with fail
              exact ⟨⟨k + 1, by go_num, by omega, HB, HU, HTY⟩, by simp [intOf]; omega⟩
        · have hp' : pl = false := Bool.eq_false_iff.mpr hp
          subst hp'
          clear hp
          by_cases h0 : mode = 0
          · subst h0
            obtain ⟨V, hcut, hV⟩ := cut_c (SLk.below H.out HB.out) (k : Int) ((k : Int) + 1) hkI (by omega) (by omega)
            have hy : (text.drop ((k : Int)).toNat).take (((k : Int) + 1).toNat - ((k : Int)).toNat) = [rd text k] := by
              have hkt : k < text.length := by omega
              rw [Int.toNat_natCast, show ((k : Int) + 1).toNat - k = 1 by omega, List.drop_eq_getElem_cons hkt, rd_get hkt]
              rfl
            rw [hy] at hV
            have hxe : x = [rd text k] := by
              rw [HX.out]
              unfold allAt oneL
              simp
            have HV := Aside0.mk hV
            have HXE := Aside0.mk hxe
            have HLX := Aside0.mk hx1
            clear hV hy hxe hx1
            go_wp2_with fail
            refine (equal_c HSX.out HV.out (by have := HLX.out; omega)).mono ?_
            rw [decide_eq_true HXE.out]
            rintro e w3 ⟨rfl, hb⟩
            have HB3 := Aside0.mk (below_step HB.out hb)
            have HU3 := Aside0.mk (SLk.below HU.out hb)
            have HTY3 := Aside0.mk (SLk.below HTY.out hb)
            clear hb HB HU HTY hcut hct
            go_wp2_with fail
            exact ⟨⟨k + 1, by go_num, by omega, HB3, HU3, HTY3⟩, by simp [intOf]; omega⟩
          · have h0' : (mode == 0) = false := by simpa using h0
            by_cases h4 : mode = 4
            · subst h4
              have hxe : tash (rd text k) = true → x.length = if overI types k = true then 1 else 0 := by
                intro ht
                rw [HX.out]
                unfold allAt oneL
                rw [ht]
                cases overI types k <;> simp
              have HXE := Aside0.mk hxe
              have HT := Aside0.mk (fun wx : World => tash_c (rd text k) wx)
              generalize tash (rd text k) = t at HXE HT
              clear hxe hx1
              go_wp2_with fail
              refine (HT.out _).mono ?_
              rintro e w3 ⟨rfl, hb⟩
              have HB3 := Aside0.mk (below_step HB.out hb)
              have HU3 := Aside0.mk (SLk.below HU.out hb)
              have HTY3 := Aside0.mk (SLk.below HTY.out hb)
              clear hb HB HU HTY hct
              cases t
              · clear HXE
                go_wp2_with fail
                exact ⟨⟨k + 1, by go_num, by omega, HB3, HU3, HTY3⟩, by simp [intOf]; omega⟩
              · have hxl := HXE.out rfl
                clear HXE
                have HO := Aside0.mk (fun wx (hs : SL wx (.slice T types.length ct) types) => rover_c hs htm (k : Int))
                generalize overI types (k : Int) = o at hxl HO
                have HXL := Aside0.mk hxl
                clear hxl
                have q1 : ∀ b, o = b → ((x.length : Int) == 1) = b ∧ (x.length == 1) = b := by
                  rintro b rfl
                  have := HXL.out
                  cases o <;> simp at this <;> simp [this]
                obtain ⟨q2, q3⟩ := q1 o rfl
                clear q1
                go_wp2_with fail
                refine (HO.out _ HTY3.out).mono ?_
                rintro e w4 ⟨rfl, hb⟩
                have HB4 := Aside0.mk (below_step HB3.out hb)
                have HU4 := Aside0.mk (SLk.below HU3.out hb)
                have HTY4 := Aside0.mk (SLk.below HTY3.out hb)
                clear hb HB3 HU3 HTY3
                cases o
                all_goals
                  go_wp2_with fail
                  exact ⟨⟨k + 1, by go_num, by omega, HB4, HU4, HTY4⟩, by simp [intOf]; omega⟩
            · have h4' : (mode == 4) = false := by simpa using h4
              clear hx1 h0 h4
              go_wp2_with fail
              exact ⟨⟨k + 1, by go_num, by omega, HB, HU, HTY⟩, by simp [intOf]; omega⟩
      · go_wp2_with fail
        refine (awake_c _).mono ?_
        rintro e w4 ⟨rfl, hb⟩
        have HB4 := Aside0.mk (below_step HB.out hb)
        clear hb HB
        go_wp2
        go_ret
        exact ⟨rfl, HB4.out⟩
end Go.Proofs.Ytfkgjoflekemaaa
