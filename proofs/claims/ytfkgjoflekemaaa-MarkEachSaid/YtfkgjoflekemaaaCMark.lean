/- mark.All: what it answers, as a plain function; and the contracts of mark's other functions over slices that read as lists. -/
import Derived.Test.YtfkgjoflekemaaaPureMark
import Derived.Test.YtfkgjoflekemaaaCJoin3
import Derived.Test.YtfkgjoflekemaaaUKit2
import Derived.IntWalk
namespace Go.Proofs.Ytfkgjoflekemaaa.CMark
open Go.RowKit Go.Proofs.Ytfkgjoflekemaaa.PMarkOne Go.Proofs.YtfkgjoflekemaaaW.PrintWords Go.Proofs.YtfkgjoflekemaaaW.PrintMore Go.Proofs.Ytfkgjoflekemaaa.U Go.Proofs.Ytfkgjoflekemaaa.UJoin Go.Proofs.Ytfkgjoflekemaaa.UMark Go.Proofs.Ytfkgjoflekemaaa.PureMark Go.Proofs.Ytfkgjoflekemaaa.CJoin3 Go.Proofs.Ytfkgjoflekemaaa.CBase
set_option linter.unusedVariables false
set_option linter.unusedSimpArgs false
theorem info22 : (Try.prog.info? 22).map (fun i => (i.zero, i.size, i.bytes)) = some (some (.slice none 0 0), 1, 24) := by kernel_rfl
theorem one_c (c mode : Int) (over : Bool) (w : World) : Calls Try.prog 37 #[.int .i64 c, .int .i64 mode, .bool over] w fun e w' => ∃ u, e = .returned u ∧ SL w' u (oneL c mode over) ∧ Below w.heap.size w w' := by
  obtain ⟨k, hk⟩ := (one_ev c mode over).rounds
  exact (mark_One.calls k c mode over _ w hk).mono fun e w' ⟨u, he, hr, hb⟩ => ⟨u, he, SLk.of_R hr, hb⟩
theorem piles_c {v : Value} {xs : List Int} {w : World} (h : SL w v xs) (hm : xs.length ≤ 1000000) : Calls Try.prog 46 #[v] w fun e w' => ∃ u, e = .returned u ∧ SL w' u (pilesL xs) ∧ Below w.heap.size w w' := by
  obtain ⟨A, c, rfl, hc, h⟩ := h
  obtain ⟨k, hk⟩ := (piles_ev xs hm).rounds
  exact (mark_Piles.calls k A c xs _ w h hc hk).mono fun e w' ⟨u, he, hr, hb⟩ => ⟨u, he, SLk.of_R hr, hb⟩
theorem pile_c (a : Int) (w : World) : Calls Try.prog 86 #[.int .i64 a] w fun e w' => e = .returned (.tuple #[.int .i64 (pile a).1, .bool (pile a).2]) ∧ Below w.heap.size w w' :=
  forms_Pile.calls 10 a _ _ w (pile_eq a)
theorem pilesB_c (mode : Int) (w : World) : Calls Try.prog 85 #[.int .i64 mode] w fun e w' => e = .returned (.bool (pilesB mode)) ∧ Below w.heap.size w w' := by
  obtain ⟨k, hk⟩ := (pilesB_ev mode).rounds
  exact mark_piles.calls k mode _ w hk
def baseTo (text types : List Int) (mode : Int) (k : Nat) : List (List Int) := ((List.range k).map fun i : Nat => oneL (rd text i) mode (overI types i)) ++ List.replicate (text.length - k) []
theorem baseTo_zero (text types : List Int) (mode : Int) : baseTo text types mode 0 = List.replicate text.length [] := by simp [baseTo]
theorem baseTo_all (text types : List Int) (mode : Int) : baseTo text types mode text.length = base text types mode := by simp [baseTo, base]
theorem baseTo_length (text types : List Int) (mode : Int) (k : Nat) (hk : k ≤ text.length) : (baseTo text types mode k).length = text.length := by simp [baseTo]; omega
theorem baseTo_succ (text types : List Int) (mode : Int) (k : Nat) (hk : k < text.length) : (baseTo text types mode k).set k (oneL (rd text k) mode (overI types k)) = baseTo text types mode (k + 1) := by
  unfold baseTo
  rw [List.range_succ, List.map_append, List.set_append_right _ _ (by simp), show text.length - k = (text.length - (k + 1)) + 1 by omega, List.replicate_succ]
  simp
theorem setPiles_snoc (text : List Int) (i : Nat) (l : List Nat) : ∀ out, setPiles text (l ++ [i]) out = ((setPiles text l out).set i [(pile (rd text ((i + 1 : Nat) : Int))).1]).set (i + 1) [] := by
  induction l with
  | nil => intro out; rfl
  | cons j r ih => intro out; rw [List.cons_append, setPiles, ih, setPiles]
theorem take_snoc' (l : List Nat) (k i : Nat) (h : l[k]? = some i) : l.take (k + 1) = l.take k ++ [i] := by
  rw [List.take_add_one, h]
  rfl
set_option maxRecDepth 100000 in
set_option maxHeartbeats 2000000 in
theorem all_c {v0 v1 : Value} {text types : List Int} {w : World} (h0 : SL w v0 text) (h1 : SL w v1 types) (mode : Int) (pl : Bool) (hm : text.length ≤ 1000000) (hm1 : types.length ≤ 1000000) :
    Calls Try.prog 43 #[v0, v1, .int .i64 mode, .bool pl] w fun e w' => ∃ u, e = .returned u ∧ RS 22 w' w.heap.size u (allL text types mode pl) ∧ Below w.heap.size w w' := by
  have H0 := Aside0.mk h0
  have H1 := Aside0.mk h1
  obtain ⟨A, ca, rfl, _, hC0⟩ := h0
  obtain ⟨B, cb, rfl, _, hC1⟩ := h1
  have HC0 := Aside0.mk hC0
  clear hC0 hC1
  by_cases hl : text.length = types.length
  · have hne : ((text.length : Int) != (types.length : Int)) = false := by simp [hl]
    have HL := Aside0.mk hl
    clear hl
    go_enter Try.func43, Try.ntmps43
    go_wp2_with (first | (refine Kd.R_make KH (w0 := w) w.heap.size 22 rfl (N := 23) rfl 41 _ _ rfl text.length rfl rfl Try.underlying41 (.slice none 0 0) 24 info22 rfl (by decide) (by omega) (none, 0, 0) (ok := fun _ => True) (okp := fun _ => True) rfl (fun _ hk => hk) trivial (by omega) (by omega) (Below.refl _ _) (Nat.le_refl _) ?_; intro v w1 hv hb hg hnew; obtain ⟨go, cap, ev, hgo⟩ := R_form hv (hnew.imp fun _ h => h.1); subst ev; have hr := RS.nils hv; simp only [List.length_replicate, Int.toNat_natCast] at hr; have HR := Aside0.mk hr; have HB := Aside0.mk hb; clear hv hb hg hnew hgo hr; simp only [List.length_replicate, Int.toNat_natCast]))
    go_loopw [26] (fun v wr => ∃ k : Nat, v = .int .i64 k ∧ k ≤ text.length ∧ Aside0 (RS 22 wr w.heap.size (.slice (some ⟨go, 0, none⟩) text.length cap) (baseTo text types mode k)) ∧ Aside0 (Below w.heap.size w wr)) (fun v _ => text.length - (intOf v).toNat)
    case atStart => exact ⟨0, rfl, Nat.zero_le _, ⟨by rw [baseTo_zero]; exact HR.out⟩, HB⟩
    case round =>
      clear HR HB
      obtain ⟨k, rfl, hk, HR, HB⟩ := hrel
      by_cases hlt : k < text.length
      · have hltI : (k : Int) < (text.length : Int) := by omega
        have hkI : 0 ≤ (k : Int) := by omega
        obtain ⟨ad, ea, hx⟩ := Kd.at_int (Kd.C_below HC0.out HB.out) (k : Int) hkI hltI
        cases ea
        simp only [Int.toNat_natCast] at hx
        go_wp2_with fail
        refine (over_c (SLk.below H1.out HB.out) hm1 (k : Int)).mono ?_
        rintro e w2 ⟨rfl, hb⟩
        have HB2 := Aside0.mk (below_step HB.out hb)
        have HR2 := Aside0.mk (RS.below HR.out hb)
        clear hb HB HR hx
        go_wp2_with fail
        refine (one_c _ _ _ _).mono ?_
        rintro e w3 ⟨u, rfl, hu, hb⟩
        have HB3 := Aside0.mk (below_step HB2.out hb)
        have HR3 := Aside0.mk (RS.below HR2.out hb)
        have HU := Aside0.mk hu
        have hg := (RS.put HR3.out (by rw [baseTo_length _ _ _ _ hk]) k (by rw [baseTo_length _ _ _ _ hk]; exact hlt) hu)
        rw [baseTo_succ _ _ _ _ hlt] at hg
        have hgo : w.heap.size ≤ go := by
          obtain ⟨g, c', e', hg', _⟩ := RS.form HR3.out (by rw [baseTo_length _ _ _ _ hk]; omega)
          injection e' with e1
          injection e1 with e1
          injection e1 with e1
          omega
        have HB4 := Aside0.mk (HB3.out.setCell hgo u (p := ⟨go, k, none⟩))
        obtain ⟨⟨hd, hcell⟩, hfz⟩ := RS.cell HR3.out k hlt
        have HG := Aside0.mk hg.1
        obtain ⟨A', c', rfl, _, _⟩ := hu
        clear hb HB2 HR2 hg hgo
        go_wp2
        exact ⟨⟨k + 1, by go_num, by omega, HG, HB4⟩, by simp [intOf]; omega⟩
      · have ek : k = text.length := by omega
        have hbt : baseTo text types mode k = base text types mode := by rw [ek, baseTo_all]
        have HR' : Aside0 (RS 22 wr w.heap.size (.slice (some ⟨go, 0, none⟩) text.length cap) (base text types mode)) := by
          rw [← hbt]
          exact HR
        clear hbt
        clear ek HR
        have HR := HR'
        clear HR'
        cases pl
        · go_wp2
          go_ret
          refine ⟨_, rfl, ?_, HB.out⟩
          unfold allL
          rw [if_pos HL.out, Bool.false_and, ← all_plain]
          exact HR.out
        · go_wp2_with fail
          refine (pilesB_c mode _).mono ?_
          rintro e w2 ⟨rfl, hb⟩
          have HB2 := Aside0.mk (below_step HB.out hb)
          have HR2 := Aside0.mk (RS.below HR.out hb)
          have HP : Aside0 (allL text types mode true = (List.range text.length).map (allAt text types mode (pilesB mode))) := ⟨by unfold allL; rw [if_pos HL.out, Bool.true_and]⟩
          clear hb HB HR
          generalize pilesB mode = b at HP
          cases b
          · go_wp2
            go_ret
            refine ⟨_, rfl, ?_, HB2.out⟩
            rw [HP.out, ← all_plain]
            exact HR2.out
          · go_wp2_with fail
            refine (piles_c (SLk.below H0.out HB2.out) hm).mono ?_
            rintro e w3 ⟨u, rfl, hu, hb⟩
            have HB3 := Aside0.mk (below_step HB2.out hb)
            have HR3 := Aside0.mk (RS.below HR2.out hb)
            have hpl : (pilesL text).length = (pilesN text).length := by simp [pilesL]
            have hpb : (pilesL text).length ≤ 1000000 := by
              rw [hpl]
              unfold pilesN
              have := List.length_filter_le (pileAt text) (List.range text.length)
              rw [List.length_range] at this
              omega
            have hpg : ∀ j : Nat, j < (pilesN text).length → ∃ i : Nat, (pilesN text)[j]? = some i ∧ rd (pilesL text) (j : Int) = i ∧ i + 1 < text.length := by
              intro j hj
              refine ⟨(pilesN text)[j], List.getElem?_eq_getElem hj, ?_, ?_⟩
              · rw [rd_nat]; unfold pilesL; rw [List.getD_eq_getElem?_getD, List.getElem?_map, List.getElem?_eq_getElem hj]; rfl
              · have := (mem_piles text _).1 (List.getElem_mem hj)
                unfold pileAt at this
                simp only [Bool.and_eq_true, decide_eq_true_eq] at this
                omega
            generalize pilesL text = ps at hu hpl hpg hpb
            have HPG := Aside0.mk hpg
            have HPL := Aside0.mk hpl
            obtain ⟨D, cd, rfl, hcd, hD⟩ := hu
            have HDS := Aside0.mk (SLk.mk hD hcd)
            have hlen : (base text types mode).length = text.length := by simp [base]
            have HLEN := Aside0.mk hlen
            have HALL := Aside0.mk (all_piles text types mode)
            generalize pilesN text = pn at HPG HPL HALL
            generalize base text types mode = bs at HR3 HLEN HALL
            clear hb HB2 HR2 hpg hpl hD hlen hcd
            go_wp2_with fail
            go_loopw [52] (fun v wr => ∃ k : Nat, v = .int .i64 k ∧ k ≤ ps.length ∧ Aside0 (RS 22 wr w.heap.size (.slice (some ⟨go, 0, none⟩) text.length cap) (setPiles text (pn.take k) bs)) ∧ Aside0 (Below w.heap.size w wr) ∧ Aside0 (SL wr (.slice D ps.length cd) ps)) (fun v _ => ps.length - (intOf v).toNat)
            case atStart => exact ⟨0, rfl, Nat.zero_le _, HR3, HB3, HDS⟩
            case round =>
              rename_i wr0
              clear HDS
              obtain ⟨k, rfl, hk, HR, HB, HB'⟩ := hrel
              by_cases hlt : k < ps.length
              · obtain ⟨i, hi, hri, hit⟩ := HPG.out k (by have := HPL.out; omega)
                have hltI : (k : Int) < (ps.length : Int) := by omega
                have hkI : 0 ≤ (k : Int) := by omega
                obtain ⟨ad, cd', ea, hx⟩ := SLk.at_int HB'.out (k : Int) hkI hltI
                injection ea with e1 e2 e3
                subst e1
                clear e2 e3
                rw [hri] at hx
                simp only [Int.toNat_natCast] at hx
                obtain ⟨ad2, ea2, hx2⟩ := Kd.at_int (Kd.C_below HC0.out HB.out) ((i : Int) + 1) (by omega) (by omega)
                cases ea2
                have hit2 : (i : Int) + 1 < (text.length : Int) := by omega
                have HI := Aside0.mk hi
                rw [show ((i : Int) + 1).toNat = i + 1 by omega, Addr.add_succ'] at hx2
                clear hi hri
                go_wp2_with fail
                refine (pile_c _ _).mono ?_
                rintro e w4 ⟨rfl, hb⟩
                have HB4 := Aside0.mk (below_step HB.out hb)
                have HB4' := Aside0.mk (SLk.below HB'.out hb)
                have HR4 := Aside0.mk (RS.below HR.out hb)
                have hlb : (setPiles text (pn.take k) bs).length = text.length := by rw [setPiles_length, HLEN.out]
                obtain ⟨⟨hdA, hcA⟩, hfA⟩ := RS.cell HR4.out i (by omega)
                obtain ⟨⟨hdB, hcB⟩, hfB⟩ := RS.cell HR4.out (i + 1) (by omega)
                have hgo : w.heap.size ≤ go ∧ go < w4.heap.size := by
                  refine ⟨?_, World.block_lt_of_cell? w4 _ hcA⟩
                  obtain ⟨g, c', e', hg', _⟩ := RS.form HR4.out (by rw [hlb]; omega)
                  injection e' with e1
                  injection e1 with e1
                  injection e1 with e1
                  omega
                have hlit := SL_lit w4 3 [(pile (rd text ((i : Int) + 1))).1] (by simp)
                have hra := RS.below HR4.out (below_alloc (Below.refl _ _) (.cells #[.int .i64 (pile (rd text ((i : Int) + 1))).1] 3))
                obtain ⟨⟨hdC, hcC⟩, _⟩ := RS.cell hra i (by omega)
                have hds := SL.set_slice (SLk.below HB4'.out (below_alloc (Below.refl _ _) (.cells #[.int .i64 (pile (rd text ((i : Int) + 1))).1] 3))) hcC (.slice (some ⟨w4.heap.size, 0, none⟩) 1 1)
                have hp1 := (RS.put (RS.below HR4.out (below_alloc (Below.refl _ _) (.cells #[.int .i64 (pile (rd text ((i : Int) + 1))).1] 3))) hlb.symm i (by rw [hlb]; omega) hlit).1
                have hp2 := (RS.put hp1 (by rw [List.length_set, hlb]) (i + 1) (by rw [List.length_set, hlb]; omega) (SLk.nil _)).1
                obtain ⟨⟨hdE, hcE⟩, _⟩ := RS.cell hp1 (i + 1) (by omega)
                have HDSn := Aside0.mk (SL.set_slice hds hcE (.slice none 0 0))
                have hs : ((setPiles text (pn.take k) bs).set i [(pile (rd text ((i : Int) + 1))).1]).set (i + 1) [] = setPiles text (pn.take (k + 1)) bs := by
                  rw [take_snoc' _ _ _ HI.out, setPiles_snoc]
                  rfl
                rw [hs] at hp2
                have HP2 := Aside0.mk hp2
                have hgo2 := hgo.2
                have HBn := Aside0.mk ((below_alloc HB4.out (.cells #[.int .i64 (pile (rd text ((i : Int) + 1))).1] 3)).setCell hgo.1 (p := ⟨go, i, none⟩) (.slice (some ⟨w4.heap.size, 0, none⟩) 1 1))
                have HBm := Aside0.mk (HBn.out.setCell hgo.1 (p := ⟨go, i + 1, none⟩) (.slice none 0 0))
                have q1 := World.setCell_alloc_past (w := w4) (.cells #[.int .i64 (pile (rd text ((i : Int) + 1))).1] 3) go i (.slice (some ⟨w4.heap.size, 0, none⟩) 1 1) hgo2
                have q2 := World.setCell_alloc_past (w := w4.setCell ⟨go, i, none⟩ (.slice (some ⟨w4.heap.size, 0, none⟩) 1 1)) (.cells #[.int .i64 (pile (rd text ((i : Int) + 1))).1] 3) go (i + 1) (.slice none 0 0) (by simpa using hgo2)
                have HP2 := Aside0.mk (by have h := HP2.out; simp only [List.map_cons, List.map_nil, List.length_cons, List.length_nil] at h; rw [q1, q2] at h; exact h)
                have HBm := Aside0.mk (by have h := HBm.out; rw [q1, q2] at h; exact h)
                have HDSn := Aside0.mk (by have h := HDSn.out; rw [q1, q2] at h; exact h)
                clear q1 q2
                clear hb HB HB' HR hx hx2 hp1 hp2 hlit hs hlb hgo HBn hcC hcE hds hra
                go_wp2_with fail
                exact ⟨⟨k + 1, by go_num, by omega, HP2, HBm, HDSn⟩, by simp [intOf]; omega⟩
              · have ek : pn.take k = pn := List.take_of_length_le (by have := HPL.out; omega)
                have HR' := HR.out
                rw [ek, HALL.out] at HR'
                have HR := Aside0.mk HR'
                clear ek HR'
                go_wp2
                go_ret
                exact ⟨_, rfl, by rw [HP.out]; exact HR.out, HB.out⟩
  · have hne : ((text.length : Int) != (types.length : Int)) = true := by simp; omega
    have HA : Aside0 (allL text types mode pl = []) := ⟨by unfold allL; rw [if_neg hl]⟩
    clear hl
    go_enter Try.func43, Try.ntmps43
    go_wp2
    go_ret
    exact ⟨_, rfl, by rw [HA.out]; exact RS.nil _ _ _, Below.refl _ _⟩
end Go.Proofs.Ytfkgjoflekemaaa.CMark
