/- BrackDeep answers true: the law's own function, walked over the contract of brack.Find. -/
import Derived.Test.YtfkgjoflekemaaaCBrack3
namespace Go.Proofs.Ytfkgjoflekemaaa
open Go.RowKit Go.Proofs.YtfkgjoflekemaaaW.PrintWords Go.Proofs.YtfkgjoflekemaaaW.PrintMore Go.Proofs.YtfkgjoflekemaaaW.PrintLast Go.Proofs.Ytfkgjoflekemaaa.U Go.Proofs.Ytfkgjoflekemaaa.CBase Go.Proofs.Ytfkgjoflekemaaa.CSlices Go.Proofs.Ytfkgjoflekemaaa.UBrack Go.Proofs.Ytfkgjoflekemaaa.PBrackFinds
set_option linter.unusedVariables false
set_option linter.unusedSimpArgs false
set_option maxRecDepth 100000 in
set_option maxHeartbeats 4000000 in
theorem brackDeepWalk (n : Int) (w : World) (ha : (Lit.int .u8 n).wf = true) :
    Calls Try.prog 18 #[.int .u8 n] w fun e w' => e = .returned (.bool true) ∧ Below w.heap.size w w' := by
  have hn : 0 ≤ n ∧ n ≤ 255 := by
    unfold Lit.wf at ha
    rw [Bool.and_eq_true, decide_eq_true_iff, decide_eq_true_iff] at ha
    exact ⟨ha.1, ha.2⟩
  have HN := Aside0.mk hn
  clear hn ha
  obtain ⟨m, hm, hml⟩ : ∃ m : Nat, wrap64 (n.tmod 80) = m ∧ m < 80 := by
    have hn := HN.out
    have e : ((n.toNat % 80 : Nat) : Int) = n.tmod 80 := by
      rw [Int.tmod_eq_emod_of_nonneg hn.1]
      omega
    rw [← e]
    exact ⟨n.toNat % 80, w64 (by omega) (by omega), by omega⟩
  have HK := Aside0.mk hm
  clear hm
  go_enter Try.func18, Try.ntmps18
  go_wp2
  rw [HK.out]
  go_loopw [4, 5, 11] (fun v4 v5 v wr => ∃ k : Nat, v = .int .i64 k ∧ k ≤ m ∧ Aside0 (Kd.R (Kd.int .i64) 3 wr w.heap.size (fun k_ => True ∧ some k_ ≠ (v5 : Value).ownBlock) v4 (List.replicate k 40)) ∧ Aside0 (Kd.R (Kd.int .i64) 3 wr w.heap.size (fun k_ => True ∧ some k_ ≠ (v4 : Value).ownBlock) v5 (List.replicate k 13)) ∧ Aside0 (Below w.heap.size w wr)) (fun _ _ v _ => m - (intOf v).toNat)
  case atStart => exact ⟨0, rfl, Nat.zero_le _, ⟨Kd.R_apart_nil (Kd.R_nil _ _ _ _ _)⟩, ⟨Kd.R_apart_nil (Kd.R_nil _ _ _ _ _)⟩, ⟨Below.refl _ _⟩⟩
  case round =>
    obtain ⟨k, rfl, hk, H4, H5, HB⟩ := hrel
    by_cases hlt : k < m
    · have hkI : (k : Int) < (m : Int) := by omega
      go_wp2_with (first | ((with_reducible refine gate_dst (N := 15) rfl ?_); at_builtin; refine Kd.R_append (Kd.int .i64) (w0 := w) w.heap.size rfl (.tmp 13) (.tmp 14) 22 3 (.int .i64 0) 8 rfl Try.underlying22 CSlices.info3 rfl (by decide) (by omega) u4 (List.replicate k 40) 40 [.int .i64 40] (fun k_ => True ∧ some k_ ≠ (u5 : Value).ownBlock) (fun _ => False) rfl rfl rfl (fun _ hk => hk.elim) (fun k_ hk => ⟨trivial, Kd.fresh' (Kd.R_lt H5.out) k_ hk⟩) H4.out HB.out HB.out.size (by simp; omega) ?_; intro v4 w1 hv hb hg hat; have HV4 := Aside0.mk hv; have H51 := Aside0.mk (Kd.R_after H5.out hg hat); have HB1 := Aside0.mk hb; clear hv hb hg hat H4 H5 HB) | ((with_reducible refine gate_dst (N := 18) rfl ?_); at_builtin; refine Kd.R_append (Kd.int .i64) (w0 := w) w.heap.size rfl (.tmp 16) (.tmp 17) 22 3 (.int .i64 0) 8 rfl Try.underlying22 CSlices.info3 rfl (by decide) (by omega) u5 (List.replicate k 13) 13 [.int .i64 13] (fun k_ => True ∧ some k_ ≠ (v4 : Value).ownBlock) (fun _ => False) rfl rfl rfl (fun _ hk => hk.elim) (fun k_ hk => ⟨trivial, Kd.fresh' (Kd.R_lt HV4.out) k_ hk⟩) H51.out HB1.out HB1.out.size (by simp; omega) ?_; intro v5 w2 hv hb hg hat; have HV5 := Aside0.mk hv; have HV42 := Aside0.mk (Kd.R_after HV4.out hg hat); have HB2 := Aside0.mk hb; clear hv hb hg hat HV4 H51 HB1))
      exact ⟨⟨k + 1, by go_num, by omega, ⟨by rw [show List.replicate (k + 1) (40 : Int) = List.replicate k 40 ++ [40] from List.replicate_succ']; exact HV42.out⟩, ⟨by rw [show List.replicate (k + 1) (13 : Int) = List.replicate k 13 ++ [13] from List.replicate_succ']; exact HV5.out⟩, HB2⟩, by simp [intOf]; omega⟩
    · have hkI : ¬ ((k : Int) < (m : Int)) := by omega
      obtain rfl : k = m := by omega
      obtain ⟨m', hm'⟩ : ∃ m', m' = k := ⟨_, rfl⟩
      subst hm'
      go_wp2
      go_loopw [4, 5, 21] (fun v4 v5 v wr => ∃ k : Nat, v = .int .i64 k ∧ k ≤ m' ∧ Aside0 (Kd.R (Kd.int .i64) 3 wr w.heap.size (fun k_ => True ∧ some k_ ≠ (v5 : Value).ownBlock) v4 (List.replicate m' 40 ++ List.replicate k 41)) ∧ Aside0 (Kd.R (Kd.int .i64) 3 wr w.heap.size (fun k_ => True ∧ some k_ ≠ (v4 : Value).ownBlock) v5 (List.replicate (m' + k) 13)) ∧ Aside0 (Below w.heap.size w wr)) (fun _ _ v _ => m' - (intOf v).toNat)
      case atStart => exact ⟨0, rfl, Nat.zero_le _, ⟨by simpa using H4.out⟩, ⟨by simpa using H5.out⟩, HB⟩
      case round =>
        obtain ⟨k, rfl, hk, H4, H5, HB⟩ := hrel
        by_cases hlt : k < m'
        · have hkI : (k : Int) < (m' : Int) := by omega
          go_wp2_with (first | ((with_reducible refine gate_dst (N := 25) rfl ?_); at_builtin; refine Kd.R_append (Kd.int .i64) (w0 := w) w.heap.size rfl (.tmp 23) (.tmp 24) 22 3 (.int .i64 0) 8 rfl Try.underlying22 CSlices.info3 rfl (by decide) (by omega) u4 (List.replicate m' 40 ++ List.replicate k 41) 41 [.int .i64 41] (fun k_ => True ∧ some k_ ≠ (u5 : Value).ownBlock) (fun _ => False) rfl rfl rfl (fun _ hk => hk.elim) (fun k_ hk => ⟨trivial, Kd.fresh' (Kd.R_lt H5.out) k_ hk⟩) H4.out HB.out HB.out.size (by simp; omega) ?_; intro v4 w1 hv hb hg hat; have HV4 := Aside0.mk hv; have H51 := Aside0.mk (Kd.R_after H5.out hg hat); have HB1 := Aside0.mk hb; clear hv hb hg hat H4 H5 HB) | ((with_reducible refine gate_dst (N := 28) rfl ?_); at_builtin; refine Kd.R_append (Kd.int .i64) (w0 := w) w.heap.size rfl (.tmp 26) (.tmp 27) 22 3 (.int .i64 0) 8 rfl Try.underlying22 CSlices.info3 rfl (by decide) (by omega) u5 (List.replicate (m' + k) 13) 13 [.int .i64 13] (fun k_ => True ∧ some k_ ≠ (v4 : Value).ownBlock) (fun _ => False) rfl rfl rfl (fun _ hk => hk.elim) (fun k_ hk => ⟨trivial, Kd.fresh' (Kd.R_lt HV4.out) k_ hk⟩) H51.out HB1.out HB1.out.size (by simp; omega) ?_; intro v5 w2 hv hb hg hat; have HV5 := Aside0.mk hv; have HV42 := Aside0.mk (Kd.R_after HV4.out hg hat); have HB2 := Aside0.mk hb; clear hv hb hg hat HV4 H51 HB1))
          exact ⟨⟨k + 1, by go_num, by omega, ⟨by rw [show List.replicate m' (40 : Int) ++ List.replicate (k + 1) 41 = (List.replicate m' 40 ++ List.replicate k 41) ++ [41] by rw [List.replicate_succ', List.append_assoc]]; exact HV42.out⟩, ⟨by rw [show List.replicate (m' + (k + 1)) (13 : Int) = List.replicate (m' + k) 13 ++ [13] from List.replicate_succ']; exact HV5.out⟩, HB2⟩, by simp [intOf]; omega⟩
        · have hkI : ¬ ((k : Int) < (m' : Int)) := by omega
          obtain rfl : k = m' := by omega
          by_cases h63 : 63 < k
          · have g1 : decide (63 < (k : Int)) = true := decide_eq_true (by omega)
            have g2 : decide (63 < k) = true := decide_eq_true h63
            have HF : Aside0 ((findL (List.replicate k 40 ++ List.replicate k 41) (List.replicate (k + k) 13)).length = 0) := ⟨by rw [deep k hml, if_pos h63]⟩
            clear h63
            go_wp2_with fail
            refine (CBrack.find58_c (SLk.of_R H4.out) (SLk.of_R H5.out) (by simp; omega) (by simp; omega)).mono ?_
            rintro e w1 ⟨u, rfl, hu, hb⟩
            have HB1 := Aside0.mk (below_step HB.out hb)
            have hf := HF.out
            generalize findL (List.replicate k 40 ++ List.replicate k 41) (List.replicate (k + k) 13) = f at hu hf
            obtain ⟨A, c, rfl, _, _⟩ := hu
            rw [hf]
            clear hb hf
            go_wp2_with fail
            refine (CBrack.awake_c _).mono ?_
            rintro e w2 ⟨rfl, hb⟩
            have HB2 := Aside0.mk (below_step HB1.out hb)
            clear hb
            go_wp2
            go_ret
            exact ⟨rfl, HB2.out⟩
          · have g1 : decide (63 < (k : Int)) = false := decide_eq_false (by omega)
            have g2 : decide (63 < k) = false := decide_eq_false h63
            have HF : Aside0 ((findL (List.replicate k 40 ++ List.replicate k 41) (List.replicate (k + k) 13)).length = k) := ⟨by rw [deep k hml, if_neg h63]⟩
            clear h63
            go_wp2_with fail
            refine (CBrack.find58_c (SLk.of_R H4.out) (SLk.of_R H5.out) (by simp; omega) (by simp; omega)).mono ?_
            rintro e w1 ⟨u, rfl, hu, hb⟩
            have HB1 := Aside0.mk (below_step HB.out hb)
            have hf := HF.out
            generalize findL (List.replicate k 40 ++ List.replicate k 41) (List.replicate (k + k) 13) = f at hu hf
            obtain ⟨A, c, rfl, _, _⟩ := hu
            rw [hf]
            clear hb hf
            go_wp2_with fail
            refine (CBrack.awake_c _).mono ?_
            rintro e w2 ⟨rfl, hb⟩
            have HB2 := Aside0.mk (below_step HB1.out hb)
            clear hb
            go_wp2
            go_ret
            exact ⟨rfl, HB2.out⟩

end Go.Proofs.Ytfkgjoflekemaaa
