/- alone: walked. -/
import Derived.Test.YtohhobcipfmkbaaCFin3
namespace Go.Proofs.Ytohhobcipfmkbaa.CFin
open Go.RowKit Go.Proofs.YtohhobcipfmkbaaW.PrintWords Go.Proofs.YtohhobcipfmkbaaW.PrintMore Go.Proofs.YtohhobcipfmkbaaW.PrintLast Go.Proofs.Ytohhobcipfmkbaa.U Go.Proofs.Ytohhobcipfmkbaa.PClusterFinest Go.Proofs.Ytohhobcipfmkbaa.UFinest Go.Proofs.Ytohhobcipfmkbaa.UFinEv
set_option linter.unusedVariables false
set_option linter.unusedSimpArgs false
set_option maxRecDepth 100000 in
set_option maxHeartbeats 1000000 in
theorem alone_c {w : World} (n : Nat) (hn : n ≤ 1000000) :
    Calls Try.prog 59 #[.int .i64 n] w fun e w' => ∃ (g cap : Nat) (p : List Int), e = .returned (.slice (some ⟨g, 0, none⟩) n cap) ∧ LI w' w.heap.size g n cap p ∧ PF n idL p ∧ Below w.heap.size w w' := by
  go_enter Try.func59, Try.ntmps59
  go_wp2_with (first | ((with_reducible refine gate_dst (N := 6) rfl ?_); refine Kd.R_make (Kd.int .i64) (w0 := w) w.heap.size 3 rfl (N := 6) rfl 84 _ _ rfl n rfl rfl Try.underlying84 (.int .i64 0) 8 info3 rfl (by decide) (by omega) 0 (ok := fun _ => True) (okp := fun _ => True) rfl (fun _ hk => hk) trivial (by omega) (by omega) (Below.refl _ _) (Nat.le_refl _) ?_; intro v w1 hv hb hg hnew; obtain ⟨g, cap, ev, hgo⟩ := R_form hv (hnew.imp fun _ h => h.1); subst ev; rw [List.length_replicate, Int.toNat_natCast] at hv ⊢; have HV := Aside0.mk (LI.of_R hv); have HB := Aside0.mk hb; clear hv hb hg hnew hgo))
  go_loopw [9] (fun v wr => ∃ (k : Nat) (xs : List Int), v = .int .i64 k ∧ k ≤ n ∧ Aside0 (xs.length = n) ∧ Aside0 (Upto 0 k xs) ∧ Aside0 (LI wr w.heap.size g n cap xs) ∧ Aside0 (Below w.heap.size w wr)) (fun v _ => n - (intOf v).toNat)
  case atStart => exact ⟨0, List.replicate n 0, rfl, Nat.zero_le _, ⟨List.length_replicate ..⟩, ⟨fun i hi => absurd hi (Nat.not_lt_zero i)⟩, HV, HB⟩
  case round =>
    clear HV HB
    obtain ⟨k, xs, rfl, hk, HXL, HUP, HV, HB⟩ := hrel
    by_cases hlt : k < n
    · obtain ⟨hy, hz⟩ := HV.out.cell k hlt
      have HP := Aside0.mk (HV.out.put k (k : Int))
      have HU : Aside0 (Upto 0 (k + 1) (xs.set k (k : Int))) := ⟨by have := HUP.out.set (by rw [HXL.out]; exact hlt); rwa [Nat.zero_add] at this⟩
      have HXL2 : Aside0 ((xs.set k (k : Int)).length = n) := ⟨by rw [List.length_set]; exact HXL.out⟩
      have HGE := Aside0.mk HV.out.lt
      clear HV HUP
      have hkI : (k : Int) < (n : Int) := by omega
      go_wp2_with fail
      exact ⟨⟨k + 1, _, by go_num, by omega, HXL2, HU, HP, ⟨HB.out.setCell (p := ⟨g, k, none⟩) HGE.out _⟩⟩, by simp [intOf]; omega⟩
    · have ek : k = n := by omega
      subst ek
      go_wp2_with fail
      go_ret
      exact ⟨g, cap, xs, rfl, HV.out, PF.id (fun i hi => by have := HUP.out i hi; rwa [Nat.zero_add] at this), HB.out⟩
end Go.Proofs.Ytohhobcipfmkbaa.CFin
