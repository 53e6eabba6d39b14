/- All steps of the weak types, one behind the other. -/
import Derived.Test.YtfkgjoflekemaaaCWeak3
namespace Go.Proofs.Ytfkgjoflekemaaa.CWeak
open Go.RowKit Go.Proofs.YtfkgjoflekemaaaW.PrintWords Go.Proofs.YtfkgjoflekemaaaW.PrintMore Go.Proofs.YtfkgjoflekemaaaW.PrintLast Go.Proofs.Ytfkgjoflekemaaa.U Go.Proofs.Ytfkgjoflekemaaa.CBase Go.Proofs.Ytfkgjoflekemaaa.CInsert
set_option linter.unusedVariables false
set_option linter.unusedSimpArgs false
set_option maxHeartbeats 1000000 in
theorem with_c (f : Nat) (b : Nat) (w : World) : Calls Try.prog 71 #[.func (.func f) #[] #[], .pointer (some ⟨b, 0, none⟩)] w fun e w' => e = .returned (.func (.func 72) #[] #[.pointer (some ⟨w.heap.size, 0, none⟩), .pointer (some ⟨b, 0, none⟩)]) ∧ w' = w.alloc (.cells #[.func (.func f) #[] #[]] 35) := by
  go_enter Try.func71, Try.ntmps71
  go_wp2_with fail
  go_ret
  exact ⟨rfl, rfl⟩
/-- a step, with what it starts from -/
abbrev Step (f : Nat) (F : Int → List Int → List Int) : Prop := ∀ (s : Int) (v : Value) (l : List Int) (w : World), SL w v l → l.length ≤ 1000000 → Calls Try.prog f #[v, .int .i64 s] w fun e w' => ∃ u, e = .returned u ∧ SL w' u (F s l) ∧ Below w.heap.size w w'
set_option maxHeartbeats 1000000 in
theorem f72_c (f : Nat) (eg : ∀ args w, (callFunc f args).run Try.prog w = .ok (.enter f args) w) (F : Int → List Int → List Int) (hF : Step f F) {v : Value} {l : List Int} {w : World} (h : SL w v l) (hm : l.length ≤ 1000000) (s : Int) (b b2 : Nat)
    (h1 : w.cell? ⟨b2, 0, none⟩ = some (.func (.func f) #[] #[])) (h2 : w.cell? ⟨b, 0, none⟩ = some (.int .i64 s)) :
    Calls Try.prog 72 #[v, .pointer (some ⟨b2, 0, none⟩), .pointer (some ⟨b, 0, none⟩)] w fun e w' => ∃ u, e = .returned u ∧ SL w' u (F s l) ∧ Below w.heap.size w w' := by
  have H := Aside0.mk h
  have HF := Aside0.mk hF
  clear hF
  obtain ⟨A, c, rfl, _, _⟩ := h
  go_enter Try.func72, Try.ntmps72
  go_wp2_with fail
  refine (HF.out s _ l _ H.out hm).mono ?_
  rintro e w1 ⟨u, rfl, hu, hb⟩
  have HU := Aside0.mk hu
  have HB := Aside0.mk hb
  clear hu hb
  go_wp2
  go_ret
  exact ⟨_, rfl, HU.out, HB.out⟩
set_option maxHeartbeats 1000000 in
theorem through_c {w : World} {v : Value} {n c0 : Nat} (ad : Addr) (gf : Nat → Nat) (cb : Nat → Array Value) (L : Nat → List Int) (h : SL w v (L 0)) (hn : n ≤ 1000) (eg : ∀ k args w, (callFunc (gf k) args).run Try.prog w = .ok (.enter (gf k) args) w)
    (hcell : ∀ k, k < n → w.cell? (ad.add k) = some (.func (.func (gf k)) #[] (cb k)))
    (hstep : ∀ k, k < n → ∀ (v : Value) (wx : World), Below w.heap.size w wx → SL wx v (L k) → Calls Try.prog (gf k) (#[v] ++ cb k) wx fun e w' => ∃ u, e = .returned u ∧ SL w' u (L (k + 1)) ∧ Below wx.heap.size wx w') :
    Calls Try.prog 73 #[v, .slice (some ad) n c0] w fun e w' => ∃ u, e = .returned u ∧ SL w' u (L n) ∧ Below w.heap.size w w' := by
  have H := Aside0.mk h
  have HC := Aside0.mk hcell
  have HS := Aside0.mk hstep
  clear h hcell hstep
  go_enter Try.func73, Try.ntmps73
  go_wp2_with fail
  go_loopw [0, 9] (fun v0 v9 wr => ∃ k : Nat, v9 = .int .i64 k ∧ k ≤ n ∧ Aside0 (SL wr v0 (L k)) ∧ Aside0 (Below w.heap.size w wr)) (fun _ v9 _ => n - (intOf v9).toNat)
  case atStart => exact ⟨0, rfl, Nat.zero_le _, H, ⟨Below.refl _ _⟩⟩
  case round =>
    rename_i v0 v9 wr
    obtain ⟨k, rfl, hk, HL, HB⟩ := hrel
    by_cases hlt : k < n
    · have hc := HC.out k hlt
      have hc' := (HB.out.cell (World.block_lt_of_cell? w _ hc)).trans hc
      have h1 : (k : Int) < (n : Int) := by omega
      clear hc
      go_wp2_with fail
      refine (HS.out k hlt _ _ HB.out HL.out).mono ?_
      rintro e w2 ⟨u, rfl, hu, hb⟩
      have HU := Aside0.mk hu
      have HB2 := Aside0.mk (below_step HB.out hb)
      clear hu hb HL HB hc'
      go_wp2_with fail
      exact ⟨⟨k + 1, by go_num, by omega, HU, HB2⟩, by simp [intOf]; omega⟩
    · go_wp2_with fail
      go_ret
      obtain rfl : k = n := by omega
      exact ⟨_, rfl, HL.out, HB.out⟩
end Go.Proofs.Ytfkgjoflekemaaa.CWeak
