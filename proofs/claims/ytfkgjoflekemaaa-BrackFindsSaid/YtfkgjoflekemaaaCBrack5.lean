/- naskhref25.Find: walked; it tells what the program's way tells. -/
import Derived.Test.YtfkgjoflekemaaaCBrack4
namespace Go.Proofs.Ytfkgjoflekemaaa.CBrack
open Go.RowKit Go.Proofs.YtfkgjoflekemaaaW.PrintWords Go.Proofs.YtfkgjoflekemaaaW.PrintMore Go.Proofs.YtfkgjoflekemaaaW.PrintLast Go.Proofs.Ytfkgjoflekemaaa.U Go.Proofs.Ytfkgjoflekemaaa.CBase Go.Proofs.Ytfkgjoflekemaaa.CSlices Go.Proofs.Ytfkgjoflekemaaa.UBrack Go.Proofs.Ytfkgjoflekemaaa.PBrackFinds
set_option linter.unusedVariables false
set_option linter.unusedSimpArgs false
theorem brkL_range (l : List S58) (c : Int) : (brkL l c).1 = 0 ∨ (brkL l c).1 = 1 ∨ (brkL l c).1 = 2 := by
  unfold brkL
  split
  · split
    · exact .inr (.inl rfl)
    · exact .inr (.inr rfl)
  · exact .inl rfl
theorem brk_range (c : Int) : (brk c).1 = 0 ∨ (brk c).1 = 1 ∨ (brk c).1 = 2 := brkL_range tab c
theorem rd_map (ws : List S93) (j : Nat) (h : j < ws.length) : rd (ws.map (·.f0)) (j : Int) = (rd_T93 ws j).f0 := by
  rw [rd_get (by simpa using h), rd93_get h, List.getElem_map]
theorem rd93_mem {ws : List S93} {j : Nat} (h : j < ws.length) : rd_T93 ws (j : Int) ∈ ws := by
  rw [rd93_get h]
  exact List.getElem_mem h
theorem e3 : ∀ q, q ∈ 3 :: (Kd.int .i64).E → q ≠ 58 := fun q hq => by
  rcases List.mem_cons.1 hq with rfl | hq
  · decide
  · cases hq
theorem e583 : ∀ q, q ∈ 58 :: k58.E → q ≠ 3 := fun q hq => by
  rcases List.mem_cons.1 hq with rfl | hq
  · decide
  · cases hq
theorem hi3y : ∃ i, Try.prog.info? 3 = some i := by
  have h := CSlices.info3
  cases hi : Try.prog.info? 3 with
  | none => rw [hi] at h; cases h
  | some i => exact ⟨i, rfl⟩
theorem lw_succ (ws : List S93) (b : Int) (n : Nat) : lw ws b (n + 1) = if (rd_T93 ws n).f1 = b then (n : Int) else lw ws b n := rfl
theorem srt_len (f : List S58) : (srt [] f).length = f.length := by
  have := (srt_perm [] f).length_eq
  simpa using this
set_option maxRecDepth 100000 in
set_option maxHeartbeats 4000000 in
theorem rfind_c {w : World} {vc vl : Value} {codes l : List Int} (hc : SL w vc codes) (hl : SL w vl l) (hm : codes.length ≤ 1000000) (hml : l.length ≤ 1000000) :
    Calls Try.prog 59 #[vc, vl] w fun e w' => ∃ u, e = .returned u ∧ SLk k58 w' u (findL codes l) ∧ Below w.heap.size w w' := by
  have HC := Aside0.mk hc
  have HL := Aside0.mk hl
  have HM := Aside0.mk hm
  obtain ⟨Ac, cc, rfl, _, _⟩ := hc
  obtain ⟨Al, cl, rfl, _, _⟩ := hl
  obtain ⟨i3, hi3⟩ := hi3y
  by_cases hlen : codes.length = l.length
  · have HF : Aside0 (findL codes l = srt [] (foundF codes l)) := ⟨if_pos hlen⟩
    have hne : ((codes.length : Int) != (l.length : Int)) = false := by simp; omega
    have HLEN := Aside0.mk hlen
    clear hlen
    go_enter Try.func59, Try.ntmps59
    go_wp2
    go_loopw [5, 6, 7] (fun v5 v6 v wr => ∃ (k : Nat) (f : List S58) (ws : List S93), v = .int .i64 k ∧ k ≤ codes.length ∧ f.length ≤ k ∧ ws.length ≤ k ∧ Aside0 (ws.length ≤ 63) ∧ Aside0 (∀ x ∈ ws, brk (rd codes x.f0) = (1, x.f1) ∧ 0 ≤ x.f0 ∧ x.f0 < codes.length) ∧ Aside0 (UBrack.runF codes l (codes.length - k) k f ws = foundF codes l) ∧ Aside0 (Kd.R (Kd.int .i64) 3 wr w.heap.size (fun _ => True) v5 (ws.map (·.f0))) ∧ Aside0 (Kd.R k58 58 wr w.heap.size (fun _ => True) v6 (srt [] f)) ∧ Aside0 (Below w.heap.size w wr)) (fun _ _ v _ => codes.length - (intOf v).toNat)
    case atStart => exact ⟨0, [], [], rfl, Nat.zero_le _, Nat.zero_le _, Nat.zero_le _, ⟨Nat.zero_le _⟩, ⟨fun x hx => by cases hx⟩, ⟨rfl⟩, ⟨Kd.R_nil _ _ _ _ _⟩, ⟨Kd.R_nil _ _ _ _ _⟩, ⟨Below.refl _ _⟩⟩
    case round =>
      obtain ⟨k, f, ws, rfl, hk, hfk, hwk, H63, HWI, HR, HS5, HO6, HB⟩ := hrel
      by_cases hlt : k < codes.length
      · obtain ⟨ad, c1, ea, hct⟩ := SLk.at_int (SLk.below HC.out HB.out) (k : Int) (by omega) (by omega)
        injection ea with e1 e2 e3
        subst e1
        simp only [Int.toNat_natCast] at hct
        clear e2 e3
        have hkI : (k : Int) < (codes.length : Int) := by omega
        have hkL : (k : Int) < (l.length : Int) := by have := HLEN.out; omega
        have hru := HR.out
        rw [show codes.length - k = (codes.length - (k + 1)) + 1 by omega, UBrack.runF] at hru
        have HRU := Aside0.mk hru
        clear HR hru
        obtain ⟨nb, hnb⟩ := (brk_ev (rd codes (k : Int))).rounds
        go_wp2_with fail
        refine (naskhref08_Bracket.calls nb (rd codes (k : Int)) (brk (rd codes (k : Int))).1 (brk (rd codes (k : Int))).2 _ hnb).mono ?_
        rintro e w1 ⟨rfl, hb⟩
        have HS51 := Aside0.mk (Kd.R_below HS5.out hb)
        have HO61 := Aside0.mk (Kd.R_below HO6.out hb)
        have HB1 := Aside0.mk (below_step HB.out hb)
        have hct1 := (hb.cell (World.block_lt_of_cell? _ _ hct)).trans hct
        obtain ⟨ad2, c2, ea, hlt2⟩ := SLk.at_int (SLk.below HL.out HB1.out) (k : Int) (by omega) (by have := HLEN.out; omega)
        injection ea with e1 e2 e3
        subst e1
        simp only [Int.toNat_natCast] at hlt2
        clear e2 e3 hb HS5 HO6 HB hct
        have hbr := brk_range (rd codes (k : Int))
        have HBE : Aside0 (∃ b, b = brk (rd codes (k : Int))) := ⟨_, rfl⟩
        obtain ⟨b, hbe⟩ := HBE.out
        have HBK := Aside0.mk hbe
        have hru := HRU.out
        rw [← hbe] at hru hbr ⊢
        clear hbe hnb HRU HBE
        by_cases h13 : rd l (k : Int) = 13
        · have q13 : (rd l (k : Int) != 13) = false := by simpa using h13
          rw [if_pos h13] at hru
          clear h13
          by_cases k0 : b.1 = 0
          · have hb0 : (b.1 == 0) = true := by simpa using k0
            rw [if_neg (by omega), if_neg (by omega)] at hru
            have HR := Aside0.mk hru
            clear hru hbr k0
            go_wp2_with fail
            exact ⟨⟨k + 1, f, ws, by go_num, by omega, by omega, by omega, H63, HWI, ⟨HR.out⟩, HS51, HO61, HB1⟩, by simp [intOf]; omega⟩
          have hb0 : (b.1 == 0) = false := by simpa using k0
          by_cases k1 : b.1 = 1
          · have hb1 : (b.1 == 1) = true := by simpa using k1
            rw [if_pos k1] at hru
            have HB1E : Aside0 (brk (rd codes (k : Int)) = (1, b.2)) := ⟨by rw [← HBK.out, ← k1]⟩
            clear k1 k0 hbr
            obtain ⟨W, cw, rfl⟩ := Kd.R_slice HS51.out
            rw [List.length_map] at *
            by_cases h63 : ws.length = 63
            · have q63 : (63 : Int) ≤ (ws.length : Int) := by omega
              rw [if_pos h63] at hru
              have HR := Aside0.mk hru
              clear hru h63
              go_wp2_with fail
              go_ret
              exact ⟨_, rfl, by rw [HF.out, ← HR.out]; exact SLk.of_R HO61.out, HB1.out⟩
            · have q63 : ¬ ((63 : Int) ≤ (ws.length : Int)) := by have := H63.out; omega
              rw [if_neg h63] at hru
              have HR := Aside0.mk hru
              have H63n : Aside0 ((ws ++ [(⟨k, b.2⟩ : S93)]).length ≤ 63) := ⟨by have := H63.out; simp; omega⟩
              clear hru h63
              go_wp2_with (first | ((with_reducible refine gate_builtin (b := .append) (xs := #[.tmp 44, .tmp 46]) rfl ?_); at_builtin; refine Kd.R_append (Kd.int .i64) (w0 := w) w.heap.size rfl (.tmp 44) (.tmp 46) 22 3 (.int .i64 0) 8 rfl Try.underlying22 CSlices.info3 rfl (by decide) (by omega) (.slice W ws.length cw) (ws.map (·.f0)) (k : Int) [.int .i64 k] (fun _ => True) (fun _ => False) rfl rfl rfl (fun _ hk => hk.elim) (fun _ _ => trivial) HS51.out HB1.out HB1.out.size (by rw [List.length_map]; omega) ?_; intro v5 w2 hv hb hg hat; have HS52 := Aside0.mk hv; have HO62 := Aside0.mk (Kd.R_over HO61.out HS51.out e583 hg); have HB2 := Aside0.mk hb; clear hv hb hg hat HS51 HO61 HB1))
              refine ⟨⟨k + 1, f, ws ++ [⟨k, b.2⟩], by go_num, by omega, by omega, by simp; omega, H63n, ⟨fun x hx => ?_⟩, ⟨HR.out⟩, ⟨by rw [List.map_append]; exact HS52.out⟩, HO62, HB2⟩, by simp [intOf]; omega⟩
              rcases List.mem_append.1 hx with hx | hx
              · exact HWI.out x hx
              · rw [List.mem_singleton.1 hx]
                exact ⟨HB1E.out, by show (0 : Int) ≤ k; omega, by show (k : Int) < _; omega⟩
          have hb1 : (b.1 == 1) = false := by simpa using k1
          have k2 : b.1 = 2 := by omega
          rw [if_neg k1, if_pos k2] at hru
          have HRU := Aside0.mk hru
          have HB2E : Aside0 (brk (rd codes (k : Int)) = (2, b.2)) := ⟨by rw [← HBK.out, ← k2]⟩
          clear hru k0 k1 k2 hbr
          obtain ⟨W, cw, rfl⟩ := Kd.R_slice HS51.out
          rw [List.length_map] at *
          go_wp2_with fail
          obtain ⟨U6, hU6⟩ : ∃ U, U = u6 := ⟨_, rfl⟩
          subst hU6
          go_loopw [5, 6, 10] (fun v5 v6 v wx => ∃ j : Nat, v5 = .slice W ws.length cw ∧ v6 = U6 ∧ v = .int .i64 ((j : Int) - 1) ∧ j ≤ ws.length ∧ Aside0 (lw ws b.2 j = lastW ws b.2) ∧ Aside0 (Below w1.heap.size w1 wx)) (fun _ _ v _ => (intOf v + 1).toNat)
          case atStart => exact ⟨ws.length, rfl, rfl, by go_num, Nat.le_refl _, ⟨rfl⟩, ⟨Below.refl _ _⟩⟩
          case round =>
            obtain ⟨j, rfl, rfl, rfl, hj, HLW, HBx⟩ := hrel
            have HBy : Aside0 (Below w.heap.size w wr) := ⟨below_step HB1.out HBx.out⟩
            cases j with
            | zero =>
              have hlw : lastW ws b.2 = -1 := HLW.out.symm
              have hru := HRU.out
              rw [hlw, if_neg (by decide)] at hru
              have HR := Aside0.mk hru
              clear hru hlw
              go_wp2_with fail
              exact ⟨⟨k + 1, f, ws, by go_num, by omega, by omega, by omega, H63, HWI, ⟨HR.out⟩, ⟨Kd.R_below HS51.out HBx.out⟩, ⟨Kd.R_below HO61.out HBx.out⟩, HBy⟩, by simp [intOf]; omega⟩
            | succ j =>
              rw [show (((j + 1 : Nat) : Int) - 1) = (j : Int) by omega] at *
              have hj0 : (0 : Int) ≤ (j : Int) := by omega
              have hj1 : (j : Int) < (ws.length : Int) := by omega
              have hjw : j < ws.length := by omega
              have HS5x : Aside0 (Kd.R (Kd.int .i64) 3 wr w.heap.size (fun _ => True) (.slice W ws.length cw) (ws.map (·.f0))) := ⟨Kd.R_below HS51.out HBx.out⟩
              have HO6x : Aside0 (Kd.R k58 58 wr w.heap.size (fun _ => True) u6 (srt [] f)) := ⟨Kd.R_below HO61.out HBx.out⟩
              obtain ⟨ads, eas, hsc⟩ := Kd.at_int (Kd.R_reads' HS5x.out).2.2 (j : Int) hj0 (by rw [List.length_map]; exact hj1)
              subst eas
              rw [Int.toNat_natCast, rd_map ws j hjw] at hsc
              have hwi := HWI.out _ (rd93_mem hjw)
              have hlw := HLW.out
              rw [lw_succ] at hlw
              have HME : Aside0 (∃ x y : Int, x = (rd_T93 ws j).f0 ∧ y = (rd_T93 ws j).f1) := ⟨_, _, rfl, rfl⟩
              obtain ⟨x, y, hx, hy⟩ := HME.out
              rw [← hx] at hsc hwi
              rw [← hy] at hwi hlw
              have HX := Aside0.mk hx
              have HLY := Aside0.mk hlw
              obtain ⟨hw1, hx0, hx1⟩ := hwi
              obtain ⟨adx, cx, ea, hcx⟩ := SLk.at_int (SLk.below HC.out HBy.out) x hx0 hx1
              injection ea with e1 e2 e3
              cases e1
              have hck := (HBx.out.cell (World.block_lt_of_cell? _ _ hct1)).trans hct1
              obtain ⟨nm, hnm⟩ := (match_ev (rd codes x) (rd codes (k : Int))).rounds
              have hmb : matchB (rd codes x) (rd codes (k : Int)) = (y == b.2) := by
                unfold matchB
                rw [hw1, HB2E.out]
                simp
              rw [hmb] at hnm
              clear hlw hx hy hw1 hmb e2 e3 HME
              go_wp2
              refine start_ (n := 12) (S := fun W => Below wr.heap.size wr W) (ds := []) #[false, false, false, false, false, false, false, false, false, false, false, false] (by kernel_rfl) (by kernel_rfl) (by rfl) (below_drew (Below.refl _ _)) (fun hS0 => ?_)
              refine pure_ (i := 0) (N := (some 55)) (v := ?_) (a' := ?_) #[true, false, false, false, false, false, false, false, false, false, false, false] rfl rfl (by kernel_rfl) (fun _ _ _ h => h) (Or.inl ⟨by rfl, ?_⟩) ?_ ?_
              rotate_left
              · intro w'
                go_simp
                with_reducible rfl
              rotate_left
              · simp only [Act.put, List.setIfInBounds_toArray, List.set_cons_zero, List.set_cons_succ]
                rfl
              refine pure_ (i := 1) (N := (some 56)) (v := ?_) (a' := ?_) #[true, true, false, false, false, false, false, false, false, false, false, false] rfl rfl (by kernel_rfl) (fun _ _ _ h => h) (Or.inl ⟨by rfl, ?_⟩) ?_ ?_
              rotate_left
              · intro w'
                go_simp
                with_reducible rfl
              rotate_left
              · simp only [Act.put, List.setIfInBounds_toArray, List.set_cons_zero, List.set_cons_succ]
                rfl
              refine pure_ (i := 2) (N := (some 57)) (v := ?_) (a' := ?_) #[true, true, true, false, false, false, false, false, false, false, false, false] rfl rfl (by kernel_rfl) (fun _ _ _ h => h) (Or.inl ⟨by rfl, ?_⟩) ?_ ?_
              rotate_left
              · intro w'
                go_simp
                with_reducible rfl
              rotate_left
              · simp only [Act.put, List.setIfInBounds_toArray, List.set_cons_zero, List.set_cons_succ]
                rfl
              refine pure_ (i := 3) (N := (some 58)) (v := ?_) (a' := ?_) #[true, true, true, true, false, false, false, false, false, false, false, false] rfl rfl (by kernel_rfl) (fun _ _ _ h => h) (Or.inl ⟨by rfl, ?_⟩) ?_ ?_
              rotate_left
              · intro w'
                go_simp
                with_reducible rfl
              rotate_left
              · simp only [Act.put, List.setIfInBounds_toArray, List.set_cons_zero, List.set_cons_succ]
                rfl
              refine take_ (i := 4) (N := (some 59)) (v := ?_) (a' := ?_) #[true, true, true, true, true, false, false, false, false, false, false, false] rfl rfl (by kernel_rfl) (fun _ _ _ h => h) (Or.inl ⟨by rfl, ?_⟩) hS0 ?_ ?_
              rotate_left
              · intro w' s0
                have hx := (s0.cell (World.block_lt_of_cell? _ _ hsc)).trans hsc
                go_simp
                with_reducible rfl
              rotate_left
              · simp only [Act.put, List.setIfInBounds_toArray, List.set_cons_zero, List.set_cons_succ]
                rfl
              refine pure_ (i := 5) (N := (some 60)) (v := ?_) (a' := ?_) #[true, true, true, true, true, true, false, false, false, false, false, false] rfl rfl (by kernel_rfl) (fun _ _ _ h => h) (Or.inl ⟨by rfl, ?_⟩) ?_ ?_
              rotate_left
              · intro w'
                go_simp
                with_reducible rfl
              rotate_left
              · simp only [Act.put, List.setIfInBounds_toArray, List.set_cons_zero, List.set_cons_succ]
                rfl
              refine take_ (i := 6) (N := (some 61)) (v := ?_) (a' := ?_) #[true, true, true, true, true, true, true, false, false, false, false, false] rfl rfl (by kernel_rfl) (fun _ _ _ h => h) (Or.inl ⟨by rfl, ?_⟩) hS0 ?_ ?_
              rotate_left
              · intro w' s0
                have hx := (s0.cell (World.block_lt_of_cell? _ _ hcx)).trans hcx
                go_simp
                with_reducible rfl
              rotate_left
              · simp only [Act.put, List.setIfInBounds_toArray, List.set_cons_zero, List.set_cons_succ]
                rfl
              refine pure_ (i := 7) (N := (some 62)) (v := ?_) (a' := ?_) #[true, true, true, true, true, true, true, true, false, false, false, false] rfl rfl (by kernel_rfl) (fun _ _ _ h => h) (Or.inl ⟨by rfl, ?_⟩) ?_ ?_
              rotate_left
              · intro w'
                go_simp
                with_reducible rfl
              rotate_left
              · simp only [Act.put, List.setIfInBounds_toArray, List.set_cons_zero, List.set_cons_succ]
                rfl
              refine pure_ (i := 8) (N := (some 63)) (v := ?_) (a' := ?_) #[true, true, true, true, true, true, true, true, true, false, false, false] rfl rfl (by kernel_rfl) (fun _ _ _ h => h) (Or.inl ⟨by rfl, ?_⟩) ?_ ?_
              rotate_left
              · intro w'
                go_simp
                with_reducible rfl
              rotate_left
              · simp only [Act.put, List.setIfInBounds_toArray, List.set_cons_zero, List.set_cons_succ]
                rfl
              refine pure_ (i := 9) (N := (some 64)) (v := ?_) (a' := ?_) #[true, true, true, true, true, true, true, true, true, true, false, false] rfl rfl (by kernel_rfl) (fun _ _ _ h => h) (Or.inl ⟨by rfl, ?_⟩) ?_ ?_
              rotate_left
              · intro w'
                go_simp
                with_reducible rfl
              rotate_left
              · simp only [Act.put, List.setIfInBounds_toArray, List.set_cons_zero, List.set_cons_succ]
                rfl
              refine take_ (i := 10) (N := (some 65)) (v := ?_) (a' := ?_) #[true, true, true, true, true, true, true, true, true, true, true, false] rfl rfl (by kernel_rfl) (fun _ _ _ h => h) (Or.inl ⟨by rfl, ?_⟩) hS0 ?_ ?_
              rotate_left
              · intro w' s0
                have hx := (s0.cell (World.block_lt_of_cell? _ _ hck)).trans hck
                go_simp
                with_reducible rfl
              rotate_left
              · simp only [Act.put, List.setIfInBounds_toArray, List.set_cons_zero, List.set_cons_succ]
                rfl
              clear hS0
              refine one_ (i := 11) (N := (some 66)) #[true, true, true, true, true, true, true, true, true, true, true, true] rfl rfl (by kernel_rfl) (by decide) (fun K hK => ?_)
              refine goes_ Try.func106 (by kernel_rfl) rfl #[.int .i64 (rd codes x), .int .i64 (rd codes (k : Int))] (by rfl) rfl rfl (by (try simp only [List.map_toArray, List.map_cons, List.map_nil]); rfl) ?_
              refine (naskhref08_Match.calls nm _ _ _ _ hnm).mono ?_
              rintro e w2 ⟨rfl, hb⟩
              refine ⟨_, rfl, ?_⟩
              have HBk := Aside0.mk hb
              have HB2 := Aside0.mk (below_step (below_drew HBy.out) hb)
              have HBz := Aside0.mk (below_step (below_drew (Below.refl wr.heap.size wr)) hb)
              clear hb
              refine hK.out _ _ HBz.out (fun hS0 => ?_)
              clear hK
              refine norm_ (a' := ?_) ?_ ?_
              rotate_left
              · simp only [Act.put, List.setIfInBounds_toArray, List.set_cons_zero, List.set_cons_succ]
                rfl
              refine done_ (by kernel_rfl) ?_
              clear hS0
              have hsc2 := (HBz.out.cell (World.block_lt_of_cell? _ _ hsc)).trans hsc
              have HS52 := Aside0.mk (Kd.R_below HS5x.out HBz.out)
              have HO62 := Aside0.mk (Kd.R_below HO6x.out HBz.out)
              have HBt := Aside0.mk (below_step HBx.out HBz.out)
              clear hsc hcx hck
              by_cases hyb : y = b.2
              · have hm : (y == b.2) = true := by simpa using hyb
                have hlj : lastW ws b.2 = (j : Int) := by
                  have := HLY.out
                  rw [if_pos hyb] at this
                  exact this.symm
                have hru := HRU.out
                rw [hlj, if_pos hj0, Int.toNat_natCast, ← HX.out] at hru
                have HR := Aside0.mk hru
                have hcut := cut_to (P := Try.prog) 22 3 .i64 Try.underlying22 hi3 (some ads) ws.length cw (j : Int) hj0 (by omega) (Kd.R_reads' HS52.out).2.1
                rw [Int.toNat_natCast] at hcut
                clear hru hlj hyb
                rw [hm]
                go_wp2_with fail
                refine (insert_c ⟨x, k⟩ (SLk.of_R HO62.out) (by rw [srt_len]; omega)).mono ?_
                rintro e w3 ⟨u, rfl, hu, hb⟩
                rw [← srt_append] at hu
                have HS53 := Aside0.mk (Kd.R_take (m := j) (Kd.R_below HS52.out hb) (by rw [List.length_map]; omega))
                have HO63 := Aside0.mk (Kd.R_lower hu HB2.out.size)
                have HB3 := Aside0.mk (below_step HB2.out hb)
                clear hu hb
                go_wp2_with fail
                exact ⟨⟨k + 1, f ++ [⟨x, k⟩], ws.take j, by go_num, by omega, by simp; omega, by simp; omega, ⟨by have := H63.out; simp; omega⟩, ⟨fun z hz => HWI.out z (List.mem_of_mem_take hz)⟩, ⟨HR.out⟩, ⟨by rw [List.map_take]; exact HS53.out⟩, HO63, HB3⟩, by simp [intOf]; omega⟩
              · have hm : (y == b.2) = false := by simpa using hyb
                have hlj : Aside0 (lw ws b.2 j = lastW ws b.2) := ⟨by
                  have := HLY.out
                  rw [if_neg hyb] at this
                  exact this⟩
                clear hyb
                rw [hm]
                go_wp2_with fail
                exact ⟨⟨j, rfl, rfl, by go_num, by omega, hlj, HBt⟩, by simp [intOf] <;> omega⟩
        · have q13 : (rd l (k : Int) != 13) = true := by simpa using h13
          rw [if_neg h13] at hru
          have HR := Aside0.mk hru
          clear hru h13 hbr
          go_wp2_with fail
          exact ⟨⟨k + 1, f, ws, by go_num, by omega, by omega, by omega, H63, HWI, ⟨HR.out⟩, HS51, HO61, HB1⟩, by simp [intOf]; omega⟩
      · have hru := HR.out
        rw [show codes.length - k = 0 by omega, UBrack.runF] at hru
        clear HR
        have HR := Aside0.mk hru
        clear hru
        have hkI : ¬ ((k : Int) < (codes.length : Int)) := by omega
        go_wp2_with fail
        go_ret
        exact ⟨_, rfl, by rw [HF.out, ← HR.out]; exact SLk.of_R HO6.out, HB.out⟩
  · have HF : Aside0 (findL codes l = []) := ⟨if_neg hlen⟩
    have hne : ((codes.length : Int) != (l.length : Int)) = true := by simp; omega
    go_enter Try.func59, Try.ntmps59
    go_wp2
    go_ret
    exact ⟨_, rfl, by rw [HF.out]; exact SLk.nil _, Below.refl _ _⟩
end Go.Proofs.Ytfkgjoflekemaaa.CBrack
