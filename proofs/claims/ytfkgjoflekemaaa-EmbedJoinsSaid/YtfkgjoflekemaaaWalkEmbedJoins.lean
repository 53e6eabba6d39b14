/- EmbedJoins answers true: the law's own function, walked over the contracts of embed.Isolate and Join, and of the document's Classes and Loose. -/
import Derived.Test.YtfkgjoflekemaaaCEven13
import Derived.Test.YtfkgjoflekemaaaWGuard
namespace Go.Proofs.Ytfkgjoflekemaaa
open Go.RowKit Go.Shelf Go.Proofs.YtfkgjoflekemaaaW.PrintWords Go.Proofs.YtfkgjoflekemaaaW.PrintMore Go.Proofs.YtfkgjoflekemaaaW.PrintLast Go.Proofs.Ytfkgjoflekemaaa.U Go.Proofs.Ytfkgjoflekemaaa.CBase Go.Proofs.Ytfkgjoflekemaaa.CSlices Go.Proofs.Ytfkgjoflekemaaa.UEven Go.Proofs.Ytfkgjoflekemaaa.CProps Go.Proofs.Ytfkgjoflekemaaa.CEven
set_option linter.unusedVariables false
set_option linter.unusedSimpArgs false
theorem cl_pdi : cl 0x2069 = 22 := by kernel_rfl
theorem cl_pdf : cl 0x202C = 18 := by kernel_rfl
theorem cl_lri : cl 0x2066 = 19 := by kernel_rfl
theorem cl_rli : cl 0x2067 = 20 := by kernel_rfl
theorem cl_fsi : cl 0x2068 = 21 := by kernel_rfl
theorem cl_a : cl 0x61 = 0 := by kernel_rfl
theorem cl_lf : cl 0xA = 10 := by kernel_rfl
theorem isol_a : isol cl 0 [97] = [0x2066, 97, 0x2069] := by
  unfold isol even keepC finC
  rw [cl_a]
  rfl
theorem opens_d (d : Int) (hd : d = 0 ∨ d = 1 ∨ d = 2) : isoB (cl (0x2066 + d)) = true := by
  rcases hd with rfl | rfl | rfl
  · rw [show (0x2066 + 0 : Int) = 0x2066 from rfl, cl_lri]; rfl
  · rw [show (0x2066 + 1 : Int) = 0x2067 from rfl, cl_rli]; rfl
  · rw [show (0x2066 + 2 : Int) = 0x2068 from rfl, cl_fsi]; rfl
theorem parts_a : partsL [97] = false := by
  unfold partsL
  rw [List.any_cons, cl_a]
  rfl
theorem parts_lf : partsL [10] = true := by
  unfold partsL
  rw [List.any_cons, cl_lf]
  rfl
set_option maxRecDepth 100000 in
set_option maxHeartbeats 2000000 in
theorem awake48_c (w : World) : Calls Try.prog 51 #[] w fun e w' => e = .returned (.bool true) ∧ Below w.heap.size w w' := by
  go_enter Try.func51, Try.ntmps51
  go_wp2_with fail
  refine (new_c w).mono ?_
  rintro e w1 ⟨g, rfl, hp1, hb1⟩
  have HP1 := Aside0.mk hp1
  have HB1 := Aside0.mk hb1
  clear hp1 hb1
  go_wp2_with fail
  have hal1 : Below w1.heap.size w1 (w1.alloc (.cells #[.int .i64 97] 3)) := below_alloc (Below.refl _ _) _
  refine (isolate_c (HP1.out.below hal1) (SL_lit w1 3 [97] (by simp)) (by simp) 0 (.inl rfl) parts_a).mono ?_
  rintro e w2 ⟨u, rfl, hu, hb2⟩
  obtain ⟨Au, lu, cu, eu⟩ : ∃ A l c, u = .slice A l c := by obtain ⟨A, c, e⟩ := Kd.R_slice hu; exact ⟨_, _, _, e⟩
  subst eu
  rw [isol_a] at hu
  have HU := Aside0.mk (SLk.of_R hu)
  have HB2 : Aside0 (Below w.heap.size w w2) := ⟨below_step (below_step HB1.out hal1) hb2⟩
  clear hu hb2 hal1 HB1 HP1
  go_wp2_with fail
  refine (new_c w2).mono ?_
  rintro e w3 ⟨g3, rfl, hp3, hb3⟩
  have HP3 := Aside0.mk hp3
  have HU3 : Aside0 (SL w3 (.slice Au lu cu) [0x2066, 97, 0x2069]) := ⟨SLk.below HU.out hb3⟩
  have HB3 : Aside0 (Below w.heap.size w w3) := ⟨below_step HB2.out hb3⟩
  clear hp3 hb3 HU HB2
  go_wp2_with fail
  have hal3 : Below w3.heap.size w3 (w3.alloc (.cells #[.int .i64 10] 3)) := below_alloc (Below.refl _ _) _
  refine (isolate_no (HP3.out.below hal3) (SL_lit w3 3 [10] (by simp)) (by simp) 0 (.inl rfl) parts_lf).mono ?_
  rintro e w4 ⟨rfl, hb4⟩
  have HU4 : Aside0 (SL w4 (.slice Au lu cu) [0x2066, 97, 0x2069]) := ⟨SLk.below (SLk.below HU3.out hal3) hb4⟩
  have HB4 : Aside0 (Below w.heap.size w w4) := ⟨below_step (below_step HB3.out hal3) hb4⟩
  clear hb4 hal3 HU3 HB3 HP3
  go_wp2_with fail
  have hal4 : Below w4.heap.size w4 (w4.alloc (.cells #[.int .i64 8294, .int .i64 97, .int .i64 8297] 3)) := below_alloc (Below.refl _ _) _
  refine (equal_c (SLk.below HU4.out hal4) (SL_lit w4 3 [0x2066, 97, 0x2069] (by simp)) (by simp)).mono ?_
  rintro e w5 ⟨rfl, hb5⟩
  have HB5 : Aside0 (Below w.heap.size w w5) := ⟨below_step (below_step HB4.out hal4) hb5⟩
  clear hb5 hal4
  go_wp2
  go_ret
  exact ⟨by simp, HB5.out⟩
theorem SLs_one {w : World} {v : Value} {x : List Int} (h : SL w v x) : SLs (w.alloc (.cells #[v] 22)) (.slice (some ⟨w.heap.size, 0, none⟩) 1 1) [x] :=
  SLs_lit w 22 [v] [x] (by simp) (fun i y hy => by
    rcases i with _ | i
    · simp at hy; subst hy; exact ⟨_, rfl, h⟩
    · simp at hy)
theorem SLs_two {w : World} {v u : Value} {x z : List Int} (h : SL w v x) (h2 : SL w u z) : SLs (w.alloc (.cells #[v, u] 22)) (.slice (some ⟨w.heap.size, 0, none⟩) 2 2) [x, z] :=
  SLs_lit w 22 [v, u] [x, z] (by simp) (fun i y hy => by
    rcases i with _ | _ | i
    · simp at hy; subst hy; exact ⟨_, rfl, h⟩
    · simp at hy; subst hy; exact ⟨_, rfl, h2⟩
    · simp at hy)
theorem joinS_c {w : World} {g : Nat} {v : Value} {xss : List (List Int)} (hp : PropsAt w g) (h : SLs w v xss) (hn : xss.length ≤ 1000) (hm : ∀ x ∈ xss, x.length ≤ 100000) (d : Int) (hd : d = 0 ∨ d = 1 ∨ d = 2) :
    Calls Try.prog 53 #[.pointer (some ⟨g, 0, none⟩), .int .i64 d, v] w fun e w' => ∃ A l c ex, e = .returned (.tuple #[.slice A l c, .int .i64 ex]) ∧ ((xss.any partsL = true ∧ ex = 14 ∧ l = 0) ∨ (xss.any partsL = false ∧ ex = 0 ∧ Kd.R (Kd.int .i64) 3 w' w.heap.size (fun _ => True) (.slice A l c) (joinL d xss))) ∧ Below w.heap.size w w' := by
  refine (join_c hp h hn hm d hd).mono ?_
  rintro e w' ⟨⟨h1, rfl⟩ | ⟨h1, u, rfl, hu⟩, hb⟩
  · exact ⟨none, 0, 0, 14, rfl, .inl ⟨h1, rfl, rfl⟩, hb⟩
  · obtain ⟨A, c, rfl⟩ := Kd.R_slice hu
    exact ⟨A, _, c, 0, rfl, .inr ⟨h1, rfl, hu⟩, hb⟩
set_option maxRecDepth 100000 in
set_option maxHeartbeats 4000000 in
theorem embedJoinsWalk (a b : List Int) (dir : Int) (w : World)
    (A0 : Option Addr) (c0 : Nat) (hr0 : Kd.C (Kd.int .i64) w A0 a.length a) (hc0 : a.length ≤ c0) (hm0 : a.length ≤ maxLen) (_ : a.length * 8 ≤ 140737488351232) (_ : ∀ x ∈ a, (Lit.int .i64 x).wf = true)
    (A1 : Option Addr) (c1 : Nat) (hr1 : Kd.C (Kd.int .i64) w A1 b.length b) (hc1 : b.length ≤ c1) (hm1 : b.length ≤ maxLen) (_ : b.length * 8 ≤ 140737488351232) (_ : ∀ x ∈ b, (Lit.int .i64 x).wf = true) (hdir : (Lit.int .u8 dir).wf = true) :
    Calls Try.prog 15 #[.slice A0 a.length c0, .slice A1 b.length c1, .int .u8 dir] w fun e w' => e = .returned (.bool true) ∧ Below w.heap.size w w' := by
  unfold maxLen at hm0 hm1
  have HA := Aside0.mk (SLk.mk hr0 hc0)
  have HB := Aside0.mk (SLk.mk hr1 hc1)
  clear hr0 hc0 hr1 hc1
  have hd0 : 0 ≤ dir ∧ dir ≤ 255 := by
    unfold Lit.wf at hdir
    rw [Bool.and_eq_true, decide_eq_true_iff, decide_eq_true_iff] at hdir
    exact ⟨hdir.1, hdir.2⟩
  by_cases ga : 60 < a.length
  · have g1 : decide (60 < (a.length : Int)) = true := decide_eq_true (by omega)
    have g2 : decide (60 < a.length) = true := decide_eq_true ga
    clear ga
    go_enter Try.func15, Try.ntmps15
    go_wp2_with fail
    refine (awake48_c _).mono ?_
    rintro e w1 ⟨rfl, hb⟩
    go_wp2
    go_ret
    exact ⟨rfl, hb⟩
  · by_cases gb : 60 < b.length
    · have g1 : decide (60 < (a.length : Int)) = false := decide_eq_false (by omega)
      have g2 : decide (60 < a.length) = false := decide_eq_false ga
      have g3 : decide (60 < (b.length : Int)) = true := decide_eq_true (by omega)
      have g4 : decide (60 < b.length) = true := decide_eq_true gb
      clear ga gb
      go_enter Try.func15, Try.ntmps15
      go_wp2_with fail
      refine (awake48_c _).mono ?_
      rintro e w1 ⟨rfl, hb⟩
      go_wp2
      go_ret
      exact ⟨rfl, hb⟩
    · have g1 : decide (60 < (a.length : Int)) = false := decide_eq_false (by omega)
      have g2 : decide (60 < a.length) = false := decide_eq_false ga
      have g3 : decide (60 < (b.length : Int)) = false := decide_eq_false (by omega)
      have g4 : decide (60 < b.length) = false := decide_eq_false gb
      have HAL : Aside0 (a.length ≤ 60) := ⟨by omega⟩
      have HBL : Aside0 (b.length ≤ 60) := ⟨by omega⟩
      obtain ⟨d, hd, hdd⟩ : ∃ d : Int, dir.tmod 3 = d ∧ (d = 0 ∨ d = 1 ∨ d = 2) := ⟨_, rfl, by rw [Int.tmod_eq_emod_of_nonneg hd0.1]; omega⟩
      have k1 : IntKind.u8.wrap d = d := by rcases hdd with rfl | rfl | rfl <;> rfl
      have k2 : IntKind.i64.wrap d = d := by rcases hdd with rfl | rfl | rfl <;> rfl
      have k3 : wrap64 d = d := by exact w64 (by omega) (by omega)
      have HD := Aside0.mk hdd
      have HMA : Aside0 (∀ x ∈ [a], x.length ≤ 100000) := ⟨fun x hx => by have := HAL.out; simp at hx; subst hx; omega⟩
      have HMB : Aside0 (∀ x ∈ [b], x.length ≤ 100000) := ⟨fun x hx => by have := HBL.out; simp at hx; subst hx; omega⟩
      have HMC : Aside0 (∀ x ∈ [a, b], x.length ≤ 100000) := ⟨fun x hx => by have := HAL.out; have := HBL.out; simp at hx; rcases hx with rfl | rfl <;> omega⟩
      clear ga gb hdir hdd
      go_enter Try.func15, Try.ntmps15
      go_wp2_with fail
      refine (new_c w).mono ?_
      rintro e w1 ⟨g, rfl, hp1, hb1⟩
      have HP1 := Aside0.mk hp1
      have HB1 := Aside0.mk hb1
      clear hp1 hb1
      go_wp2_with fail
      have hal1 : Below w1.heap.size w1 (w1.alloc (.cells #[.slice A0 a.length c0] 22)) := below_alloc (Below.refl _ _) _
      refine (joinS_c (HP1.out.below hal1) (SLs_one (SLk.below HA.out HB1.out)) (by simp) HMA.out d HD.out).mono ?_
      rintro e w2 ⟨Ax, lx, cx, ex, rfl, hx, hb2⟩
      have ea : [a].any partsL = partsL a := by simp
      rw [ea] at hx
      have HX2 : Aside0 ((partsL a = true ∧ ex = 14 ∧ lx = 0) ∨ (partsL a = false ∧ ex = 0 ∧ Kd.R (Kd.int .i64) 3 w2 w.heap.size (fun _ => True) (.slice Ax lx cx) (joinL d [a]))) := ⟨hx.imp id (fun h => ⟨h.1, h.2.1, Kd.R_lower h.2.2 (Nat.le_trans HB1.out.size hal1.size)⟩)⟩
      have HP2 : Aside0 (PropsAt w2 g) := ⟨(HP1.out.below hal1).below hb2⟩
      have HB2 : Aside0 (Below w.heap.size w w2) := ⟨below_step (below_step HB1.out hal1) hb2⟩
      clear hx hb2 hal1 HB1 HP1 ea
      go_wp2_with fail
      have hal2 : Below w2.heap.size w2 (w2.alloc (.cells #[.slice A1 b.length c1] 22)) := below_alloc (Below.refl _ _) _
      refine (joinS_c (HP2.out.below hal2) (SLs_one (SLk.below HB.out HB2.out)) (by simp) HMB.out d HD.out).mono ?_
      rintro e w3 ⟨Ay, ly, cy, ey, rfl, hy, hb3⟩
      have eb : [b].any partsL = partsL b := by simp
      rw [eb] at hy
      have hb23 : Below w2.heap.size w2 w3 := hal2.trans (below_to hb3 hal2.size)
      have HY3 : Aside0 ((partsL b = true ∧ ey = 14 ∧ ly = 0) ∨ (partsL b = false ∧ ey = 0 ∧ SL w3 (.slice Ay ly cy) (joinL d [b]))) := ⟨hy.imp id (fun h => ⟨h.1, h.2.1, SLk.of_R h.2.2⟩)⟩
      have HX3 : Aside0 ((partsL a = true ∧ ex = 14 ∧ lx = 0) ∨ (partsL a = false ∧ ex = 0 ∧ Kd.R (Kd.int .i64) 3 w3 w.heap.size (fun _ => True) (.slice Ax lx cx) (joinL d [a]))) := ⟨HX2.out.imp id (fun h => ⟨h.1, h.2.1, Kd.R_below h.2.2 hb23⟩)⟩
      have HP3 : Aside0 (PropsAt w3 g) := ⟨HP2.out.below hb23⟩
      have HB3 : Aside0 (Below w.heap.size w w3) := ⟨below_step HB2.out hb23⟩
      clear hy hb3 hb23 hal2 HB2 HP2 eb HX2
      go_wp2_with fail
      have hal3 : Below w3.heap.size w3 (w3.alloc (.cells #[.slice A0 a.length c0, .slice A1 b.length c1] 22)) := below_alloc (Below.refl _ _) _
      refine (joinS_c (HP3.out.below hal3) (SLs_two (SLk.below HA.out HB3.out) (SLk.below HB.out HB3.out)) (by simp) HMC.out d HD.out).mono ?_
      rintro e w4 ⟨Az, lz, cz, ez, rfl, hz, hb4⟩
      have ec : [a, b].any partsL = (partsL a || partsL b) := by simp
      rw [ec] at hz
      have hb34 : Below w3.heap.size w3 w4 := hal3.trans (below_to hb4 hal3.size)
      have HZ4 : Aside0 (((partsL a || partsL b) = true ∧ ez = 14 ∧ lz = 0) ∨ ((partsL a || partsL b) = false ∧ ez = 0 ∧ Kd.R (Kd.int .i64) 3 w4 w3.heap.size (fun _ => True) (.slice Az lz cz) (joinL d [a, b]))) := ⟨hz.imp id (fun h => ⟨h.1, h.2.1, Kd.R_lower h.2.2 hal3.size⟩)⟩
      have HY4 : Aside0 ((partsL b = true ∧ ey = 14 ∧ ly = 0) ∨ (partsL b = false ∧ ey = 0 ∧ SL w4 (.slice Ay ly cy) (joinL d [b]))) := ⟨HY3.out.imp id (fun h => ⟨h.1, h.2.1, SLk.below h.2.2 hb34⟩)⟩
      have HX4 : Aside0 ((partsL a = true ∧ ex = 14 ∧ lx = 0) ∨ (partsL a = false ∧ ex = 0 ∧ Kd.R (Kd.int .i64) 3 w4 w.heap.size (fun _ => True) (.slice Ax lx cx) (joinL d [a]) ∧ ∀ k, (Value.slice Ax lx cx).ownBlock = some k → k < w3.heap.size)) := ⟨HX3.out.imp id (fun h => ⟨h.1, h.2.1, Kd.R_below h.2.2 hb34, Kd.R_lt h.2.2⟩)⟩
      have HB4 : Aside0 (Below w.heap.size w w4) := ⟨below_step HB3.out hb34⟩
      clear hz hb4 hb34 hal3 HB3 HP3 ec HX3 HY3
      rcases HX4.out with ⟨hpa, rfl, rfl⟩ | ⟨hpa, rfl, hx, hxo⟩
      · rcases HZ4.out with ⟨_, rfl, rfl⟩ | ⟨hn, _, _⟩
        · clear HX4 HZ4 hpa
          go_wp2_with fail
          refine (awake48_c _).mono ?_
          rintro e w5 ⟨rfl, hb5⟩
          have HB5 : Aside0 (Below w.heap.size w w5) := ⟨below_step HB4.out hb5⟩
          clear hb5
          go_wp2
          go_ret
          exact ⟨rfl, HB5.out⟩
        · rw [hpa] at hn; cases hn
      · rcases HY4.out with ⟨hpb, rfl, rfl⟩ | ⟨hpb, rfl, hy⟩
        · rcases HZ4.out with ⟨_, rfl, rfl⟩ | ⟨hn, _, _⟩
          · clear HX4 HY4 HZ4 hpa hpb hx
            go_wp2_with fail
            refine (awake48_c _).mono ?_
            rintro e w5 ⟨rfl, hb5⟩
            have HB5 : Aside0 (Below w.heap.size w w5) := ⟨below_step HB4.out hb5⟩
            clear hb5
            go_wp2
            go_ret
            exact ⟨rfl, HB5.out⟩
          · rw [hpb] at hn; simp at hn
        · rcases HZ4.out with ⟨hn, _, _⟩ | ⟨_, rfl, hz⟩
          · rw [hpa, hpb] at hn; cases hn
          · have HX := Aside0.mk hx
            have HXO := Aside0.mk hxo
            have HZ := Aside0.mk hz
            obtain ⟨Ay', cy', eyy, _, hCy⟩ := hy
            injection eyy with q1 q2 q3
            subst q1 q2
            have HCY := Aside0.mk hCy
            have HXL : Aside0 ((joinL d [a]).length ≤ 200002) := ⟨by have := joinL_len d [a] HMA.out; simp only [List.length_cons, List.length_nil] at this; omega⟩
            have HYL : Aside0 ((joinL d [b]).length ≤ 200002) := ⟨by have := joinL_len d [b] HMB.out; simp only [List.length_cons, List.length_nil] at this; omega⟩
            have HZL : Aside0 ((joinL d [a, b]).length ≤ 400004) := ⟨by have := joinL_len d [a, b] HMC.out; simp only [List.length_cons, List.length_nil] at this; omega⟩
            have HSUM : Aside0 (joinL d [a] ++ joinL d [b] = joinL d [a, b]) := ⟨by simp [joinL]⟩
            have HLOOSE : Aside0 (looseK [] 0 ((joinL d [a, b]).map cl) = []) := ⟨by
              have := loose_two cl cl_pdi cl_pdf d (opens_d d HD.out) a b
              rw [show joinL d [a, b] = isol cl d a ++ isol cl d b by simp [joinL]]
              exact this⟩
            clear HX4 HY4 HZ4 hpa hpb hx hxo hz hCy q3
            go_wp2_with (first | ((with_reducible refine gate_dst (N := 75) rfl ?_); refine gate_guard (by rfl) ?_; dsimp only; refine Kd.R_append_rows (Kd.int .i64) (w0 := w) w.heap.size rfl (.tmp 73) (.tmp 74) 22 3 (.int .i64 0) 8 rfl Try.underlying22 CSlices.info3 rfl (by decide) (by omega) (.slice Ax lx cx) (joinL d [a]) (joinL d [b]) _ _ _ (fun _ => True) (fun _ => False) rfl rfl HX.out HCY.out (fun _ _ h => h) (fun _ h => h.elim) (fun _ _ => trivial) HB4.out HB4.out.size (by have := HXL.out; have := HYL.out; omega) ?_; intro v1 w5 hv1 hb1 hg1 hn1; obtain ⟨A5, l5, c5, e5⟩ : ∃ A l c, v1 = .slice A l c := (by obtain ⟨A, c, e⟩ := Kd.R_slice hv1; exact ⟨_, _, _, e⟩); subst e5; have HV5 := Aside0.mk hv1; have HB5 := Aside0.mk hb1; have HZ5 : Aside0 (SL w5 (.slice Az lz cz) (joinL d [a, b])) := ⟨SLk.of_R (Kd.R_grown (Kd.R_bound HZ.out) hg1 (fun k hk e => by have := HXO.out k e.symm; have := hk.2.1; omega))⟩; clear hv1 hb1 hg1 hn1))
            rw [HSUM.out] at HV5
            refine (equal_c HZ5.out (SLk.of_R HV5.out) (by have := HZL.out; omega)).mono ?_
            rintro e w6 ⟨rfl, hb6⟩
            have HZ6 : Aside0 (SL w6 (.slice Az lz cz) (joinL d [a, b])) := ⟨SLk.below HZ5.out hb6⟩
            have HB6 : Aside0 (Below w.heap.size w w6) := ⟨below_step HB5.out hb6⟩
            rw [decide_eq_true (rfl : joinL d [a, b] = joinL d [a, b])]
            clear hb6 HZ5 HB5 HV5
            go_wp2_with fail
            refine (refClasses_c HZ6.out (by have := HZL.out; omega)).mono ?_
            rintro e w7 ⟨u7, rfl, hu7, hb7⟩
            obtain ⟨A7, l7, c7, e7⟩ : ∃ A l c, u7 = .slice A l c := by obtain ⟨A, c, e⟩ := Kd.R_slice hu7; exact ⟨_, _, _, e⟩
            subst e7
            have HU7 := Aside0.mk (SLk.of_R hu7)
            have HB7 : Aside0 (Below w.heap.size w w7) := ⟨below_step HB6.out hb7⟩
            clear hu7 hb7 HZ6 HB6
            go_wp2_with fail
            refine (loose_c HU7.out (by rw [List.length_map]; have := HZL.out; omega)).mono ?_
            rintro e w8 ⟨u8, rfl, hu8, hb8⟩
            rw [HLOOSE.out] at hu8
            obtain ⟨A8, c8, rfl⟩ := Kd.R_slice hu8
            rw [show ([] : List Int).length = 0 from rfl]
            have HB8 : Aside0 (Below w.heap.size w w8) := ⟨below_step HB7.out hb8⟩
            clear hu8 hb8 HU7 HB7
            go_wp2_with fail
            refine (awake48_c _).mono ?_
            rintro e w9 ⟨rfl, hb9⟩
            have HB9 : Aside0 (Below w.heap.size w w9) := ⟨below_step HB8.out hb9⟩
            clear hb9
            go_wp2
            go_ret
            exact ⟨rfl, HB9.out⟩
end Go.Proofs.Ytfkgjoflekemaaa
