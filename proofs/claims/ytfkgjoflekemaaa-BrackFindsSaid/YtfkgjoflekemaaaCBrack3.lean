/- brack.N0 at the one call of awake, and awake itself: walked. -/
import Derived.Test.YtfkgjoflekemaaaCBrack2
import Derived.Test.YtfkgjoflekemaaaCBrackP2
namespace Go.Proofs.Ytfkgjoflekemaaa.CBrack
open Go.RowKit Go.Proofs.YtfkgjoflekemaaaW.PrintWords Go.Proofs.YtfkgjoflekemaaaW.PrintMore Go.Proofs.Ytfkgjoflekemaaa.U Go.Proofs.Ytfkgjoflekemaaa.PBrackFinds Go.Proofs.Ytfkgjoflekemaaa.UBrack Go.Proofs.Ytfkgjoflekemaaa.CBase Go.Proofs.Ytfkgjoflekemaaa.CInsert Go.Proofs.Ytfkgjoflekemaaa.CSlices
set_option linter.unusedVariables false
set_option linter.unusedSimpArgs false
theorem inside_f : brack_Inside.f 20 [13, 0, 13] 0 2 0 = some (true, false) := by kernel_rfl
theorem own_f : brack_own.f 0 = some 0 := by kernel_rfl
set_option maxHeartbeats 2000000 in
theorem becomes_c {w : World} {A : Option Addr} {c : Nat} (h : SL w (.slice A 3 c) [13, 0, 13]) : Calls Try.prog 132 #[.slice A 3 c, .agg #[.int .i64 0, .int .i64 2], .int .i64 0, .int .i64 0] w fun e w' => e = .returned (.int .i64 0) ∧ Below w.heap.size w w' := by
  have H := Aside0.mk h
  clear h
  have D := Aside0.mk (blk_new w (.cells #[.int .i64 0, .int .i64 2] 58))
  have d0 : (w.alloc (.cells #[.int .i64 0, .int .i64 2] 58)).cell? ⟨w.heap.size, 0, none⟩ = some (.int .i64 0) := (blk_cell D.out 0).trans rfl
  have d1 : (w.alloc (.cells #[.int .i64 0, .int .i64 2] 58)).cell? ⟨w.heap.size, 1, none⟩ = some (.int .i64 2) := (blk_cell D.out 1).trans rfl
  go_enter Try.func132, Try.ntmps132
  go_wp2_with fail
  obtain ⟨A', c', e, hc, hC⟩ := SLk.below H.out (below_alloc (Below.refl _ _) (.cells #[.int .i64 0, .int .i64 2] 58))
  injection e with e1 e2 e3
  subst e1 e3
  refine (brack_Inside.calls 20 _ _ [13, 0, 13] 0 2 0 true false _ hC hc inside_f).mono ?_
  rintro e w1 ⟨rfl, hb⟩
  have HB := Aside0.mk (below_step (below_alloc (Below.refl w.heap.size w) _) hb)
  clear hb hC d0 d1
  go_wp2_with fail
  refine (brack_own.calls 0 0 _ own_f).mono ?_
  rintro e w2 ⟨rfl, hb⟩
  have HB2 := Aside0.mk (below_step HB.out hb.below)
  clear hb
  go_wp2_with fail
  go_ret
  exact ⟨rfl, HB2.out⟩
theorem find_lit : findL [40, 97, 41] [13, 0, 13] = [⟨0, 2⟩] := by kernel_rfl
def outs : Nat → List Int
  | 0 => [13, 0, 13] | 1 => [0, 0, 13] | _ => [0, 0, 0]
set_option maxRecDepth 100000 in
set_option maxHeartbeats 4000000 in
theorem n0_c {w : World} {A B : Option Addr} {c d : Nat} (h : SL w (.slice A 3 c) [40, 97, 41]) (hl : SL w (.slice B 3 d) [13, 0, 13]) : Calls Try.prog 99 #[.slice A 3 c, .slice B 3 d, .slice B 3 d, .int .i64 0, .int .i64 0] w fun e w' => ∃ u, e = .returned u ∧ SL w' u [0, 0, 0] ∧ Below w.heap.size w w' := by
  have H := Aside0.mk h
  have HL := Aside0.mk hl
  clear h hl
  go_enter Try.func99, Try.ntmps99
  go_wp2_with fail
  refine (clone_c HL.out (by decide)).mono ?_
  rintro e w1 ⟨u, rfl, hu, hb⟩
  obtain ⟨g, cap, rfl, hg, hgs, _⟩ := Kd.R_form hu (by decide)
  have HR := Aside0.mk hu
  have HB := Aside0.mk hb
  have HG := Aside0.mk hg
  have HGS := Aside0.mk hgs
  clear hu hb hg hgs
  simp only [List.length_cons, List.length_nil, Nat.zero_add, Nat.reduceAdd] at HR ⊢
  go_wp2_with fail
  refine (find58_c (SLk.below H.out HB.out) (SLk.below HL.out HB.out) (by decide) (by decide)).mono ?_
  rintro e w2 ⟨u, rfl, hu, hb⟩
  rw [find_lit] at hu
  obtain ⟨P, cp, rfl, _, hP⟩ := hu
  obtain ⟨ap, rfl, g1, g2⟩ := at_T58 hP (0 : Int) (by decide) (by decide)
  have HR2 := Aside0.mk (Kd.R_below HR.out hb)
  have HB2 := Aside0.mk (below_step HB.out hb)
  have HS2 := Aside0.mk (Nat.le_trans HB.out.size hb.size)
  have HGS2 := Aside0.mk (Nat.lt_of_lt_of_le HGS.out hb.size)
  clear hb hP HR HB
  simp only [List.length_cons, List.length_nil, Nat.zero_add, Nat.reduceAdd]
  have ea : ap.add ((0 : Int).toNat * 2) = ap := by simp [Addr.add]
  rw [ea] at g1 g2
  have g1' : w2.cell? ap = some (.int .i64 0) := g1
  have g2' : w2.cell? ⟨ap.block, ap.off + 1, none⟩ = some (.int .i64 2) := g2
  clear g1 g2 ea
  go_wp2_with fail
  go_loopw [37] (fun v wr => (v = .int .i64 0 ∧ Aside0 (wr = w2)) ∨ (v = .int .i64 1 ∧ Aside0 (Kd.R (Kd.int .i64) 3 wr w.heap.size (fun _ => True) (.slice (some ⟨g, 0, none⟩) 3 cap) [0, 0, 0]) ∧ Aside0 (Below w.heap.size w wr))) (fun v _ => 1 - (intOf v).toNat)
  case atStart => exact .inl ⟨rfl, ⟨rfl⟩⟩
  case round =>
    rcases hrel with ⟨rfl, hw⟩ | ⟨rfl, HR3, HB3⟩
    · have hw := hw.out
      subst hw
      have D2 := Aside0.mk (blk_new wr (.cells #[.int .i64 0, .int .i64 0] 58))
      have b0 : (wr.alloc (.cells #[.int .i64 0, .int .i64 0] 58)).cell? ⟨wr.heap.size, 0, none⟩ = some (.int .i64 0) := (blk_cell D2.out 0).trans rfl
      have f0 : (wr.alloc (.cells #[.int .i64 0, .int .i64 0] 58)).frozen? ⟨wr.heap.size, 0, none⟩ = false := blk_frozen D2.out 0
      have s1 : ∀ u, ((wr.alloc (.cells #[.int .i64 0, .int .i64 0] 58)).setCell ⟨wr.heap.size, 0, none⟩ u).cell? ⟨wr.heap.size, 1, none⟩ = some (.int .i64 0) := fun u => (blk_cell (blk_set D2.out 0 u) 1).trans rfl
      have s2 : ∀ u, ((wr.alloc (.cells #[.int .i64 0, .int .i64 0] 58)).setCell ⟨wr.heap.size, 0, none⟩ u).frozen? ⟨wr.heap.size, 1, none⟩ = false := fun u => blk_frozen (blk_set D2.out 0 u) 1
      have r0 : ∀ u v, (((wr.alloc (.cells #[.int .i64 0, .int .i64 0] 58)).setCell ⟨wr.heap.size, 0, none⟩ u).setCell ⟨wr.heap.size, 1, none⟩ v).cell? ⟨wr.heap.size, 0, none⟩ = some u := fun u v => (blk_cell (blk_set (blk_set D2.out 0 u) 1 v) 0).trans rfl
      have r1 : ∀ u v, (((wr.alloc (.cells #[.int .i64 0, .int .i64 0] 58)).setCell ⟨wr.heap.size, 0, none⟩ u).setCell ⟨wr.heap.size, 1, none⟩ v).cell? ⟨wr.heap.size, 1, none⟩ = some v := fun u v => (blk_cell (blk_set (blk_set D2.out 0 u) 1 v) 1).trans rfl
      go_wp2_with fail
      clear b0 f0 s1 s2 r0 r1 g1' g2'
      refine (becomes_c (SLk.of_R (Kd.R_below HR2.out (below_alloc (Below.refl _ _) _)))).mono ?_
      rintro e w3 ⟨rfl, hb⟩
      have D := blk_new wr (.cells #[.int .i64 0, .int .i64 2] 58)
      have hk : Below wr.heap.size wr w3 := below_step (below_alloc (Below.refl _ _) _) hb
      have D3 := (hb.block _ (blk_lt D)).trans D
      have c0 : w3.cell? ⟨wr.heap.size, 0, none⟩ = some (.int .i64 0) := (blk_cell D3 0).trans rfl
      have c1 : w3.cell? ⟨wr.heap.size, 1, none⟩ = some (.int .i64 2) := (blk_cell D3 1).trans rfl
      have HR3 := Aside0.mk (Kd.R_below HR2.out hk)
      have HB3 := Aside0.mk (below_step HB2.out hk)
      have HS3 := Aside0.mk (Nat.lt_of_lt_of_le HGS2.out hk.size)
      clear hb D hk D3 HR2 HB2 D2
      go_wp2_with fail
      have L := blk_new w3 (.cells #[.int .i64 0, .int .i64 2] 3)
      have HR4 := Aside0.mk (Kd.R_alloc HR3.out (.cells #[.int .i64 0, .int .i64 2] 3))
      have HB4 := Aside0.mk (below_alloc HB3.out (.cells #[.int .i64 0, .int .i64 2] 3))
      have HLL := Aside0.mk L
      clear L HR3 HB3
      obtain ⟨W0, hW0⟩ : ∃ W0, W0 = wr := ⟨_, rfl⟩
      subst hW0
      go_loopw [54] (fun v wx => ∃ j : Nat, v = .int .i64 j ∧ j ≤ 2 ∧ Aside0 (Kd.R (Kd.int .i64) 3 wx w.heap.size (fun _ => True) (.slice (some ⟨g, 0, none⟩) 3 cap) (outs j)) ∧ Aside0 (Below w.heap.size w wx) ∧ Aside0 (wx.heap[w3.heap.size]? = some (.cells #[.int .i64 0, .int .i64 2] 3 (0, 0)))) (fun v _ => 2 - (intOf v).toNat)
      case atStart => exact ⟨0, rfl, by omega, HR4, HB4, HLL⟩
      case round =>
        obtain ⟨j, rfl, hj, HRj, HBj, Lj⟩ := hrel
        obtain rfl | rfl | rfl : j = 0 ∨ j = 1 ∨ j = 2 := by omega
        · have LB := Lj.out
          have l0 : wr.cell? ⟨w3.heap.size, 0, none⟩ = some (.int .i64 0) := (blk_cell LB 0).trans rfl
          obtain ⟨y, z⟩ := Kd.R_celln (0 : Int) HRj.out (0 : Int) (by decide) (by decide)
          have hp := (Kd.R_putg HRj.out (0 : Int) 0).1
          have HP : Aside0 (Kd.R (Kd.int .i64) 3 (wr.setCell ⟨g, 0, none⟩ (.int .i64 0)) w.heap.size (fun _ => True) (.slice (some ⟨g, 0, none⟩) 3 cap) (outs 1)) := ⟨hp⟩
          have y' : wr.cell? ⟨g, 0, none⟩ = some (.int .i64 13) := y
          have z' : wr.frozen? ⟨g, 0, none⟩ = false := z
          have HBn := Aside0.mk (below_cells HBj.out HG.out 0 [.int .i64 0])
          have HLn := Aside0.mk ((Below.heap_setCell wr ⟨g, 0, none⟩ (.int .i64 0) w3.heap.size (by have := HS3.out; show w3.heap.size ≠ g; omega)).trans LB)
          clear LB y z hp
          go_wp2_with fail
          obtain ⟨W1, hW1⟩ : ∃ W1, W1 = wr := ⟨_, rfl⟩
          subst hW1
          go_loopw [17] (fun v wx => v = .int .i64 1 ∧ Aside0 (W1.setCell ⟨g, 0, none⟩ (.int .i64 0) = wx)) (fun v _ => 0)
          case atStart => exact ⟨rfl, ⟨rfl⟩⟩
          case round =>
            obtain ⟨rfl, hw⟩ := hrel
            have hw := hw.out
            subst hw
            have hs : SL W1 (.slice B 3 d) [13, 0, 13] := SLk.below HL.out HBj.out
            obtain ⟨bb, off, eb, hcs⟩ := SL.cells (xs := [13, 0, 13]) hs (by decide)
            subst eb
            have hct' : W1.cell? ⟨bb, off + 1, none⟩ = some (.int .i64 0) := hcs 1 (by decide)
            clear hcs hs
            go_wp2_with fail
            exact ⟨⟨1, by go_num, by omega, HP, HBn, HLn⟩, by simp [intOf]⟩
        · have LB := Lj.out
          have l0 : wr.cell? ⟨w3.heap.size, 1, none⟩ = some (.int .i64 2) := (blk_cell LB 1).trans rfl
          obtain ⟨y, z⟩ := Kd.R_celln (0 : Int) HRj.out (2 : Int) (by decide) (by decide)
          have hp := (Kd.R_putg HRj.out (2 : Int) 0).1
          have HP : Aside0 (Kd.R (Kd.int .i64) 3 (wr.setCell ⟨g, 2, none⟩ (.int .i64 0)) w.heap.size (fun _ => True) (.slice (some ⟨g, 0, none⟩) 3 cap) (outs 2)) := ⟨hp⟩
          have y' : wr.cell? ⟨g, 2, none⟩ = some (.int .i64 13) := y
          have z' : wr.frozen? ⟨g, 2, none⟩ = false := z
          have HBn := Aside0.mk (below_cells HBj.out HG.out 2 [.int .i64 0])
          have HLn := Aside0.mk ((Below.heap_setCell wr ⟨g, 2, none⟩ (.int .i64 0) w3.heap.size (by have := HS3.out; show w3.heap.size ≠ g; omega)).trans LB)
          clear LB y z hp
          go_wp2_with fail
          obtain ⟨W1, hW1⟩ : ∃ W1, W1 = wr := ⟨_, rfl⟩
          subst hW1
          go_loopw [17] (fun v wx => v = .int .i64 3 ∧ Aside0 (W1.setCell ⟨g, 2, none⟩ (.int .i64 0) = wx)) (fun v _ => 0)
          case atStart => exact ⟨rfl, ⟨rfl⟩⟩
          case round =>
            obtain ⟨rfl, hw⟩ := hrel
            have hw := hw.out
            subst hw
            go_wp2_with fail
            exact ⟨⟨2, by go_num, by omega, HP, HBn, HLn⟩, by simp [intOf]⟩
        · go_wp2_with fail
          exact ⟨.inr ⟨by go_num, HRj, HBj⟩, by simp [intOf]⟩
    · go_wp2_with fail
      go_ret
      exact ⟨_, rfl, SLk.of_R HR3.out, HB3.out⟩
set_option maxHeartbeats 2000000 in
theorem awake_c (w : World) : Calls Try.prog 56 #[] w fun e w' => e = .returned (.bool true) ∧ Below w.heap.size w w' := by
  go_enter Try.func56, Try.ntmps56
  go_wp2_with fail
  have HL := Aside0.mk (SL_lit w 3 [13, 0, 13] (by decide))
  have HL1 := Aside0.mk (SLk.alloc HL.out (.cells #[.int .i64 40, .int .i64 97, .int .i64 41] 3))
  have hC := SL_lit (w.alloc (.cells #[.int .i64 13, .int .i64 0, .int .i64 13] 3)) 3 [40, 97, 41] (by decide)
  rw [World.size_alloc] at hC
  have HC := Aside0.mk hC
  clear hC
  have HB := Aside0.mk (below_alloc (below_alloc (Below.refl w.heap.size w) (.cells #[.int .i64 13, .int .i64 0, .int .i64 13] 3)) (.cells #[.int .i64 40, .int .i64 97, .int .i64 41] 3))
  refine (n0_c HC.out HL1.out).mono ?_
  rintro e w1 ⟨u, rfl, hu, hb⟩
  have HU := Aside0.mk hu
  have HLL := Aside0.mk (SLk.below HL1.out hb)
  have HB1 := Aside0.mk (below_step HB.out hb)
  clear hu hb
  go_wp2_with fail
  refine (equal_c (SLk.alloc HU.out _) (SL_lit w1 3 [0, 0, 0] (by decide)) (by decide)).mono ?_
  rw [decide_eq_true rfl]
  rintro e w2 ⟨rfl, hb⟩
  have HLL2 := Aside0.mk (SLk.below (SLk.alloc HLL.out _) hb)
  have HB2 := Aside0.mk (below_step (below_alloc HB1.out _) hb)
  clear hb
  go_wp2_with fail
  refine (find58_c (SL_lit w2 3 [40, 97, 41] (by decide)) (SLk.alloc HLL2.out _) (by decide) (by decide)).mono ?_
  rintro e w3 ⟨u3, rfl, hu, hb⟩
  rw [find_lit] at hu
  have HB3 := Aside0.mk (below_step (below_alloc HB2.out _) hb)
  obtain ⟨P, cp, rfl, _, _⟩ := hu
  clear hb
  go_wp2
  go_ret
  exact ⟨rfl, HB3.out⟩
end Go.Proofs.Ytfkgjoflekemaaa.CBrack
