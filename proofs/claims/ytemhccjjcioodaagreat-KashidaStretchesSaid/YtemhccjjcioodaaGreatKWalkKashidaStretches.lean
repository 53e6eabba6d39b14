/- Cut. -/
import Derived.Test.YtemhccjjcioodaaGreatKUCells
import Derived.Test.YtemhccjjcioodaaGreatKKStretch
import Derived.Test.YtemhccjjcioodaaGreatKPEmbedJoinsx0
import Derived.Test.YtemhccjjcioodaaGreatKCRefCel3
import Derived.Test.YtemhccjjcioodaaGreatKUFinest
import Derived.Test.YtemhccjjcioodaaGreatKAl
set_option linter.unusedSimpArgs false
set_option linter.unusedVariables false
set_option maxRecDepth 100000
set_option maxHeartbeats 16000000
namespace Go.Proofs.YtemhccjjcioodaaGreat
open Go.RowKit YtemhccjjcioodaaGreatW.PrintLast YtemhccjjcioodaaGreatW.PrintMore YtemhccjjcioodaaGreatW.PrintWords
section
namespace KRefStr
open U PClusterFinest KPlace UKash KBehind UStretch KStretch
open Cel (CellsAt Eff CellsAt.below CellsAt.mono linksOf)
open UGroups (groups)
open UFinEv (lkOf)
open UFinest (FinOk)
open CFin (cluS)
theorem one_cut {w : World} {A : Option Addr} {c : Nat} {xs : List Int} (h : SL w (.slice A xs.length c) xs) {j : Nat} (hj : j < xs.length) : SL w (.slice (A.map fun a => a.add j) 1 (c - j)) [xs[j]] := by
 obtain ⟨A', c', e, hc, hC⟩ := h
 injection e with e1 e2 e3
 clear e2
 subst e1 e3
 have h1 := Kd.C_take (m := 1) (Kd.C_drop (m := j) hC (by omega) hc) (by rw [List.length_drop]; omega)
 have hl : (xs.drop j).take 1 = [xs[j]] := by
  rw [List.drop_eq_getElem_cons hj]
  rfl
 rw [hl, if_neg (by omega)] at h1
 refine ⟨_, c - j, rfl, ?_, ?_⟩
 ·simp; omega
 ·have e1 : (Kd.int .i64).sz = 1 := rfl
  rw [e1, Nat.mul_one] at h1
  exact h1
theorem refStretch_c {w : World} {A : Option Addr} {c : Nat} {xs : List Int} (hx : SL w (.slice A xs.length c) xs) (hm : xs.length ≤ 60) (n : Nat) (hn : 0 < n) (hn6 : n ≤ 60) :
 Calls Tryz.prog 16 #[.slice A xs.length c, .int .i64 n] w fun e w' => Below w.heap.size w w' ∧
  ((placesN xs (xs.map CJoins.jn) xs.length = [] ∧ e = .returned (.tuple #[.slice none 0 0, .slice none 0 0, .int .i64 9])) ∨
   (0 < (placesN xs (xs.map CJoins.jn) xs.length).length ∧ ∃ u v F, e = .returned (.tuple #[u, v, .int .i64 0]) ∧ SL w' u (strL xs n).flatten ∧ FinOk (strL xs n).length (strL xs n).flatten.length ((linksOf (strL xs n) (groups (strL xs n).length [])).1.map lkOf) F ∧ SLk k45 w' v (cluS (strL xs n).length (strL xs n).flatten.length F (strL xs n).length))) := by
 have HX := aMk hx
 have HM := aMk hm
 have HN := aMk hn
 have HN6 := aMk hn6
 have HC9 : Aside0 (xs.length ≤ c) := ⟨by obtain ⟨A', c', e1, hc1, -⟩ := hx; injection e1 with _ _ e3; subst e3; exact hc1⟩
 obtain ⟨ts, hts⟩ : ∃ ts, ts = xs.map CJoins.jn := ⟨_, rfl⟩
 rw [← hts]
 have HTL : Aside0 (ts.length = xs.length) := ⟨by rw [hts, qlm]⟩
 have HTS := aMk hts
 obtain ⟨ps, hps⟩ : ∃ ps, ps = placesN xs ts xs.length := ⟨_, rfl⟩
 rw [← hps]
 have HPS := aMk hps
 have h0 : ¬ (n : Int) < 0 := by omega
 have h1 : ¬ (n : Int) > 16777216 := by omega
 have h2 : ¬ (n : Int) = 0 := by omega
 have h3 : ¬ (xs.length : Int) > 16777216 - (n : Int) := by omega
 clear hx hm hn hn6 hts hps
 go_enter Tryz.func16, Tryz.ntmps16
 by_cases hp0 : ps.length = 0
 ·have e0 : ps = [] := List.eq_nil_of_length_eq_zero hp0
  have hp0I : (ps.length : Int) = 0 := by omega
  clear hp0
  go_wp2_with (first | (go_at_call 23; refine (CJoins.joinsR_c HX.out (by have := HM.out; omega)).mono ?_; rintro e w1 ⟨u, rfl, hr, hb⟩; rw [← HTS.out] at hr; obtain ⟨B, d, ed⟩ := Kd.R_slice hr; subst ed; rw [HTL.out]; have HT := aMk (SLk.of_R hr); have HB1 := aMk hb; clear hr hb) | (go_at_call 20; have hcon := KRefPl.refPlaces_c (SLk.below HX.out HB1.out) (by have := HM.out; omega); rw [← HTS.out, ← HPS.out] at hcon; refine hcon.mono ?_; rintro e w4 ⟨u10, rfl, hr, hb⟩; clear hcon; obtain ⟨Ap, cp, ep⟩ := Kd.R_slice hr; rw [qlm] at ep; subst ep; have HP4 := aMk (SLk.of_R hr); have HB14 := aMk hb; have HB4 : Aside0 (Below w.heap.size w w4) := ⟨qbP HB1.out hb⟩; clear hr hb))
  refine bodyPost_ret (results_tmp3 rfl _ _ _) rfl ?_
  exact ⟨HB4.out, .inl ⟨e0, rfl⟩⟩
 ·have HP0 : Aside0 (0 < ps.length) := ⟨by omega⟩
  have hp0I : ¬ (ps.length : Int) = 0 := by omega
  clear hp0
  go_wp2_with (first | (go_at_call 23; refine (CJoins.joinsR_c HX.out (by have := HM.out; omega)).mono ?_; rintro e w1 ⟨u, rfl, hr, hb⟩; rw [← HTS.out] at hr; obtain ⟨B, d, ed⟩ := Kd.R_slice hr; subst ed; rw [HTL.out]; have HT := aMk (SLk.of_R hr); have HB1 := aMk hb; clear hr hb) | (go_at_call 20; have hcon := KRefPl.refPlaces_c (SLk.below HX.out HB1.out) (by have := HM.out; omega); rw [← HTS.out, ← HPS.out] at hcon; refine hcon.mono ?_; rintro e w4 ⟨u10, rfl, hr, hb⟩; clear hcon; obtain ⟨Ap, cp, ep⟩ := Kd.R_slice hr; rw [qlm] at ep; subst ep; have HP4 := aMk (SLk.of_R hr); have HB14 := aMk hb; have HB4 : Aside0 (Below w.heap.size w w4) := ⟨qbP HB1.out hb⟩; clear hr hb) | (go_at_call 63; refine (Cel.refNew_c xs.length (by have := HM.out; omega)).mono ?_; rintro e w6 ⟨b, rfl, hc, hb⟩; have HC6 := aMk hc; have HB6 := aMk hb; clear hc hb))
  go_loopw [11] (fun v wq => ∃ j : Nat, v = .int .i64 j ∧ j ≤ xs.length ∧ Aside0 (CellsAt 102 wq (fun q => w4.heap.size ≤ q) b (Lto xs (List.replicate xs.length 0) j) []) ∧ Aside0 (Below w4.heap.size w4 wq)) (fun v _ => xs.length - (intOf v).toNat)
  case atStart => exact ⟨0, rfl, Nat.zero_le _, ⟨by rw [Lto_zero]; exact HC6.out⟩, HB6⟩
  case round =>
   clear HC6 HB6
   obtain ⟨j, rfl, hj, HC, HBQ⟩ := hrel
   by_cases hlj : j < xs.length
   ·have hjI : (j : Int) < (xs.length : Int) := by omega
    have hj0 : 0 ≤ (j : Int) := by omega
    have hj9 : (j : Int) ≤ 60 := by have := HM.out; omega
    have hjc : (j : Int) + 1 ≤ (c : Int) := by have := HC9.out; omega
    have HJ := aMk hlj
    have HLL : Aside0 (j < (Lto xs (List.replicate xs.length 0) j).length) := ⟨by rw [Lto_len xs _ hj]; exact hlj⟩
    have HCUT := aMk (one_cut (SLk.below HX.out (qbP HB4.out HBQ.out)) hlj)
    have HST : Aside0 ((Lto xs (List.replicate xs.length 0) j).set j [xs[j]] = Lto xs (List.replicate xs.length 0) (j + 1)) := ⟨by
     have h := Lto_set xs (List.replicate xs.length 0) hlj
     rwa [show (List.replicate xs.length 0).getD j 0 = 0 by simp [qgD, List.getElem?_replicate, hlj]] at h⟩
    generalize xs[j] = x at HCUT HST
    clear hlj hj
    go_wp2_with (go_at_call 64; refine (Cel.refSet_c HC.out j HLL.out HCUT.out (by simp)).mono ?_; rintro e w9 ⟨rfl, hc, he⟩; have HC9 : Aside0 (CellsAt 102 w9 (fun q => w4.heap.size ≤ q) b (Lto xs (List.replicate xs.length 0) (j + 1)) []) := ⟨by rw [← HST.out]; exact hc.mono (fun q hq => hq.elim (fun h => h) (fun h => qlT HBQ.out.size h))⟩; have HB9 : Aside0 (Below w4.heap.size w4 w9) := ⟨HBQ.out.trans (he.below HBQ.out.size (fun k hk => hk))⟩; clear hc he)
    exact ⟨⟨j + 1, by go_num, by have := HJ.out; omega, HC9, HB9⟩, by have := HJ.out; simp [intOf]; omega⟩
   ·obtain rfl : j = xs.length := by omega
    have HC0 : Aside0 (CellsAt 102 wr (fun q => w4.heap.size ≤ q) b (rowsOf xs (docTo ts xs.length ps 0)) []) := ⟨by rw [docTo, ← Lto_end]; exact HC.out⟩
    clear hlj hj HC
    go_wp2
    go_loopw [12] (fun v wq => ∃ k : Nat, v = .int .i64 k ∧ k ≤ n ∧ Aside0 (CellsAt 102 wq (fun q => w4.heap.size ≤ q) b (rowsOf xs (docTo ts xs.length ps k)) []) ∧ Aside0 (Below w4.heap.size w4 wq)) (fun v _ => n - (intOf v).toNat)
    case atStart => exact ⟨0, rfl, Nat.zero_le _, HC0, HBQ⟩
    case round =>
     clear HC0 HBQ
     obtain ⟨k, rfl, hk, HC, HBQ⟩ := hrel
     by_cases hlk : k < n
     ·have hkI : (k : Int) < (n : Int) := by omega
      have hk0 : 0 ≤ (k : Int) := by omega
      have hk9 : (k : Int) ≤ 60 := by have := HN6.out; omega
      have HK := aMk hlk
      obtain ⟨q, hq⟩ : ∃ q, q = k % ps.length := ⟨_, rfl⟩
      have hql : q < ps.length := by rw [hq]; exact Nat.mod_lt _ HP0.out
      have hr : (k : Int) % (ps.length : Int) = (q : Int) := by rw [hq]; simp
      obtain ⟨adp, cp', ep, c0⟩ := SLk.at_int (SLk.below HP4.out HBQ.out) (q : Int) (by omega) (by rw [qlm]; omega)
      injection ep with ep e2 e3
      clear e2 e3
      subst ep
      rw [qtN, rd_get (by rw [qlm]; exact hql), List.getElem_map] at c0
      have hmem : ps[q] ∈ placesN xs ts xs.length := by rw [← HPS.out]; exact List.getElem_mem _
      have HPL : Aside0 (ps[q] < xs.length) := ⟨(mem_placesN.1 hmem).1⟩
      clear hmem
      obtain ⟨E, hE⟩ : ∃ E, E = mEnd ts xs.length ps[q] := ⟨_, rfl⟩
      have HEL9 : Aside0 (E < xs.length) := ⟨by rw [hE]; have h1 := mEnd_lt ts xs.length ps[q] (by rw [HTL.out]; exact HPL.out); rw [HTL.out] at h1; exact h1⟩
      obtain ⟨M, hM⟩ : ∃ M, M = docTo ts xs.length ps k := ⟨_, rfl⟩
      have HML : Aside0 (M.length = xs.length) := ⟨by rw [hM]; exact docTo_len _ _ _ _⟩
      have HMS : Aside0 (M.getD E 0 ≤ 60) := ⟨by
       have h1 := getD_le_sum M E
       have h2 := docTo_sum ts xs.length ps HTL.out HP0.out (fun q hq => (mem_placesN.1 (by rw [← HPS.out]; exact hq)).1) k
       rw [hM] at h1 ⊢
       omega⟩
      have HEL : Aside0 (E < (rowsOf xs M).length) := ⟨by rw [rowsOf_len]; exact HEL9.out⟩
      obtain ⟨row, hrow⟩ : ∃ row, row = (rowsOf xs M)[E]'HEL.out := ⟨_, rfl⟩
      have HRW := aMk hrow.symm
      have HRL : Aside0 (row.length ≤ 61) := ⟨by rw [hrow]; simp only [rowsOf, List.getElem_map, List.getElem_range, List.length_cons, qlr]; have := HMS.out; omega⟩
      have HNX : Aside0 ((rowsOf xs M).set E (row ++ [1600]) = rowsOf xs (docTo ts xs.length ps (k + 1))) := ⟨by
       have h := rowsOf_add xs M E HML.out HEL9.out
       rw [qgD, qgG HEL.out] at h
       rw [docTo, ← hM, ← hq, show ps.getD q 0 = ps[q] by rw [qgD, qgG hql]; rfl, ← hE, hrow]
       exact h⟩
      rw [← hM] at HC
      have HST : Aside0 (mEnd ts xs.length ps[q] = E) := ⟨hE.symm⟩
      generalize ps[q] = p at c0 HPL HST
      have hqI : (q : Int) < (ps.length : Int) := by omega
      have hq0 : 0 ≤ (q : Int) := by omega
      clear hM hE hq hrow hlk hk hql
      obtain ⟨wo, ewo⟩ : ∃ wo, wo = wr := ⟨_, rfl⟩
      subst ewo
      go_wp2
      clear c0
      go_loopw [13] (fun v wq => ∃ a d : Nat, v = .int .i64 a ∧ a < xs.length ∧ xs.length ≤ a + d + 1 ∧ Aside0 (mEnd ts d a = E) ∧ Aside0 (Below wo.heap.size wo wq)) (fun v _ => xs.length - (intOf v).toNat)
      case atStart => exact ⟨p, xs.length, rfl, HPL.out, by omega, HST, ⟨qBr _ _⟩⟩
      case round =>
       clear HST HPL
       obtain ⟨a, d, rfl, ha, had, HE, HBI⟩ := hrel
       have ha9 : (a : Int) ≤ 60 := by have := HM.out; omega
       by_cases ha1 : a + 1 < xs.length
       ·have ha1I : (a : Int) + 1 < (xs.length : Int) := by omega
        have ha10 : 0 ≤ (a : Int) + 1 := by omega
        obtain ⟨adt, ct', et, c1⟩ := SLk.at_int (SLk.below HT.out (qbP (qbP HB14.out HBQ.out) HBI.out)) ((a : Int) + 1) ha10 (by rw [HTL.out]; exact ha1I)
        rw [HTL.out] at et
        injection et with et e2 e3
        clear e2 e3
        subst et
        rw [show ((a : Int) + 1).toNat = a + 1 by omega, show adt.add (a + 1) = ⟨adt.block, adt.off + (a + 1), none⟩ by simp [Addr.add]] at c1
        obtain ⟨d, rfl⟩ : ∃ d', d = d' + 1 := ⟨d - 1, by omega⟩
        have he := HE.out
        unfold mEnd at he
        rw [show ((a + 1 : Nat) : Int) = (a : Int) + 1 by omega] at he
        obtain ⟨y, hy⟩ : ∃ y, y = rd ts ((a : Int) + 1) := ⟨_, rfl⟩
        rw [← hy] at he c1
        by_cases hy1 : y = 1
        ·rw [if_pos ⟨by rw [HTL.out]; exact ha1, hy1⟩] at he
         have HE2 := aMk he
         have HA := aMk (show a < xs.length ∧ a + 1 < xs.length ∧ xs.length ≤ a + 1 + d + 1 from ⟨ha, ha1, by omega⟩)
         clear he hy ha ha1 had
         go_wp2
         exact ⟨⟨a + 1, d, by go_num, HA.out.2.1, HA.out.2.2, HE2, HBI⟩, by have := HA.out.1; simp [intOf]; omega⟩
        ·rw [if_neg (fun h => hy1 h.2)] at he
         subst he
         clear hy ha ha1 had
         have HCQ := aMk (HC.out.below HBI.out)
         obtain ⟨wq, ewq⟩ : ∃ wq, wq = wr := ⟨_, rfl⟩
         subst ewq
         have HBQ9 : Aside0 (Below w4.heap.size w4 wq) := ⟨qbP HBQ.out HBI.out⟩
         clear HC HBQ HBI
         have HBQ := HBQ9
         clear HBQ9
         go_wp2_with (first | (go_at_call 34; refine (Cel.refAt_c HCQ.out a HEL.out).mono ?_; rintro e w6 ⟨u, rfl, hr, hb⟩; rw [HRW.out] at hr; obtain ⟨Ar, cr, er, hcr, hCr⟩ := hr; subst er; have HCr := aMk hCr; have HB6 := aMk hb; clear hb hcr hCr) | ((with_reducible refine gate_builtin (b := .append) (xs := #[.const (.slice none 0 0), .tmp 92]) rfl ?_); at_builtin; refine Kd.R_append_rows (Kd.int .i64) (w0 := wq) wq.heap.size rfl (.const (.slice none 0 0)) (.tmp 92) 22 3 (.int .i64 0) 8 rfl Tryz.underlying22 KPlaces.info3 rfl (by decide) (by omega) (.slice none 0 0) [] row Ar row.length cr (fun _ => True) (fun _ => False) (by first | rfl | (go_simp; done) | (go_simp; rfl)) (by first | rfl | (go_simp; done) | (go_simp; rfl)) (Kd.R_nil _ _ _ _ _) HCr.out (fun x cs h => h) (fun _ h => h.elim) (fun _ _ => trivial) HB6.out HB6.out.size (by have := HRL.out; simp only [List.length_nil]; omega) ?_; intro v8 w8 hv hb hg hat; rw [List.nil_append] at hv; have HV8 := aMk hv; have HB8 := aMk hb; clear hv hb hg hat) | ((with_reducible refine gate_builtin (b := .append) (xs := #[.tmp 93, .tmp 94]) rfl ?_); at_builtin; refine Kd.R_append (Kd.int .i64) (w0 := wq) wq.heap.size rfl (.tmp 93) (.tmp 94) 22 3 (.int .i64 0) 8 rfl Tryz.underlying22 KPlaces.info3 rfl (by decide) (by omega) v8 row (1600 : Int) [.int .i64 1600] (fun _ => True) (fun _ => False) rfl rfl ?aP (fun _ hk => hk.elim) ?aF ?aO ?aB ?aS ?aL ?_; (case aP => exact rfl); (case aB => exact HB8.out); (case aF => exact (fun _ _ => trivial)); (case aO => exact HV8.out); (case aS => exact HB8.out.size); (case aL => have := HRL.out; omega); intro v9 w9 ho hb hg hat; have HV9 := aMk (SLk.of_R ho); have HB9 := aMk hb; clear ho hb hg hat) | (go_at_call 64; refine (Cel.refSet_c (HCQ.out.below HB9.out) a HEL.out HV9.out (by have := HRL.out; rw [List.length_append]; simp only [List.length_singleton]; omega)).mono ?_; rintro e w10 ⟨rfl, hc, he⟩; have HC10 : Aside0 (CellsAt 102 w10 (fun q => w4.heap.size ≤ q) b (rowsOf xs (docTo ts xs.length ps (k + 1))) []) := ⟨by rw [← HNX.out]; exact hc.mono (fun q hq => hq.elim (fun h => h) (fun h => qlT HBQ.out.size (qlT HB9.out.size h)))⟩; have HB10 : Aside0 (Below w4.heap.size w4 w10) := ⟨(qbP HBQ.out HB9.out).trans (he.below (qlT HBQ.out.size HB9.out.size) (fun k hk => hk))⟩; clear hc he))
         exact ⟨⟨k + 1, by go_num, by have := HK.out; omega, HC10, HB10⟩, by have := HK.out; simp [intOf]; omega⟩
       ·have ha1I : ¬ (a : Int) + 1 < (xs.length : Int) := by omega
        have he := HE.out
        have e2 : mEnd ts d a = a := by
         cases d with
         | zero => rfl
         | succ d => unfold mEnd; rw [if_neg (fun h => ha1 (by have := HTL.out; omega))]
        rw [e2] at he
        subst he
        clear e2 ha ha1 had
        have HCQ := aMk (HC.out.below HBI.out)
        obtain ⟨wq, ewq⟩ : ∃ wq, wq = wr := ⟨_, rfl⟩
        subst ewq
        have HBQ9 : Aside0 (Below w4.heap.size w4 wq) := ⟨qbP HBQ.out HBI.out⟩
        clear HC HBQ HBI
        have HBQ := HBQ9
        clear HBQ9
        go_wp2_with (first | (go_at_call 34; refine (Cel.refAt_c HCQ.out a HEL.out).mono ?_; rintro e w6 ⟨u, rfl, hr, hb⟩; rw [HRW.out] at hr; obtain ⟨Ar, cr, er, hcr, hCr⟩ := hr; subst er; have HCr := aMk hCr; have HB6 := aMk hb; clear hb hcr hCr) | ((with_reducible refine gate_builtin (b := .append) (xs := #[.const (.slice none 0 0), .tmp 92]) rfl ?_); at_builtin; refine Kd.R_append_rows (Kd.int .i64) (w0 := wq) wq.heap.size rfl (.const (.slice none 0 0)) (.tmp 92) 22 3 (.int .i64 0) 8 rfl Tryz.underlying22 KPlaces.info3 rfl (by decide) (by omega) (.slice none 0 0) [] row Ar row.length cr (fun _ => True) (fun _ => False) (by first | rfl | (go_simp; done) | (go_simp; rfl)) (by first | rfl | (go_simp; done) | (go_simp; rfl)) (Kd.R_nil _ _ _ _ _) HCr.out (fun x cs h => h) (fun _ h => h.elim) (fun _ _ => trivial) HB6.out HB6.out.size (by have := HRL.out; simp only [List.length_nil]; omega) ?_; intro v8 w8 hv hb hg hat; rw [List.nil_append] at hv; have HV8 := aMk hv; have HB8 := aMk hb; clear hv hb hg hat) | ((with_reducible refine gate_builtin (b := .append) (xs := #[.tmp 93, .tmp 94]) rfl ?_); at_builtin; refine Kd.R_append (Kd.int .i64) (w0 := wq) wq.heap.size rfl (.tmp 93) (.tmp 94) 22 3 (.int .i64 0) 8 rfl Tryz.underlying22 KPlaces.info3 rfl (by decide) (by omega) v8 row (1600 : Int) [.int .i64 1600] (fun _ => True) (fun _ => False) rfl rfl ?aP (fun _ hk => hk.elim) ?aF ?aO ?aB ?aS ?aL ?_; (case aP => exact rfl); (case aB => exact HB8.out); (case aF => exact (fun _ _ => trivial)); (case aO => exact HV8.out); (case aS => exact HB8.out.size); (case aL => have := HRL.out; omega); intro v9 w9 ho hb hg hat; have HV9 := aMk (SLk.of_R ho); have HB9 := aMk hb; clear ho hb hg hat) | (go_at_call 64; refine (Cel.refSet_c (HCQ.out.below HB9.out) a HEL.out HV9.out (by have := HRL.out; rw [List.length_append]; simp only [List.length_singleton]; omega)).mono ?_; rintro e w10 ⟨rfl, hc, he⟩; have HC10 : Aside0 (CellsAt 102 w10 (fun q => w4.heap.size ≤ q) b (rowsOf xs (docTo ts xs.length ps (k + 1))) []) := ⟨by rw [← HNX.out]; exact hc.mono (fun q hq => hq.elim (fun h => h) (fun h => qlT HBQ.out.size (qlT HB9.out.size h)))⟩; have HB10 : Aside0 (Below w4.heap.size w4 w10) := ⟨(qbP HBQ.out HB9.out).trans (he.below (qlT HBQ.out.size HB9.out.size) (fun k hk => hk))⟩; clear hc he))
        exact ⟨⟨k + 1, by go_num, by have := HK.out; omega, HC10, HB10⟩, by have := HK.out; simp [intOf]; omega⟩
     ·obtain rfl : k = n := by omega
      have HCE : Aside0 (CellsAt 102 wr (fun q => w4.heap.size ≤ q) b (rowsOf xs (manyTo ts xs.length k ps ps.length)) []) := ⟨by rw [← docTo_is ts xs.length ps HP0.out]; exact HC.out⟩
      have HBwq : Aside0 (Below w.heap.size w wr) := ⟨qbP HB4.out HBQ.out⟩
      have HSTR : Aside0 (strL xs k = rowsOf xs (manyTo ts xs.length k ps ps.length)) := ⟨by unfold strL; rw [HTS.out, HPS.out, HTS.out]⟩
      have HML : Aside0 ((manyTo ts xs.length k ps ps.length).length = xs.length ∧ (manyTo ts xs.length k ps ps.length).sum = k) := ⟨manyTo_len _ _ _ _ _, by rw [manyTo_sum ts xs.length k ps HTL.out (fun q hq => (mem_placesN.1 (by rw [← HPS.out]; exact hq)).1) ps.length (qlR _)]; exact shares_all k ps.length HP0.out⟩
      generalize manyTo ts xs.length k ps ps.length = M at HCE HSTR HML
      have HL : Aside0 ((rowsOf xs M).length ≤ 60 ∧ (rowsOf xs M).flatten.length = xs.length + k) := ⟨by rw [rowsOf_len]; exact HM.out, by rw [rowsOf_flat xs M HML.out.1, HML.out.2]⟩
      clear hlk hk HC
      go_wp2_with (first | (go_at_call 65; refine (Cel.refClu_one HCE.out (by have := HL.out.1; omega) (Nat.zero_le _) (by have h1 := HL.out.2; have h2 := HM.out; have h3 := HN6.out; omega)).mono ?_; rintro e w10 ⟨v10, r10, rfl, hb, hc⟩; obtain ⟨-, -, rfl, FF, hf, hs⟩ := hc.resolve_left (fun h => absurd h.1 (by have h1 := HL.out.2; have h2 := HN.out; omega)); have HF10 := aMk hf; have HS10 := aMk hs; have HB10 : Aside0 (Below w.heap.size w w10) := ⟨qbP HBwq.out hb⟩; have HC10 := aMk (HCE.out.below hb); clear hb hc hf hs) | (go_at_call 31; refine (Cel.refText_c HC10.out (by have := HL.out.1; omega) (by have h1 := HL.out.2; have h2 := HM.out; have h3 := HN6.out; omega)).mono ?_; rintro e w11 ⟨u11, rfl, hr, hb⟩; have HR11 := aMk hr; have HB101 := aMk hb; have HB11 : Aside0 (Below w.heap.size w w11) := ⟨qbP HB10.out hb⟩; clear hr hb))
      refine bodyPost_ret (results_tmp3 rfl _ _ _) rfl ?_
      refine ⟨HB11.out, .inr ⟨HP0.out, _, _, FF, rfl, ?_⟩⟩
      rw [HSTR.out]
      exact ⟨SLk.of_R HR11.out, HF10.out, SLk.below HS10.out HB101.out⟩
end KRefStr
end
section
namespace PClusterFinest

attribute [local go_sem] max2_int min2_int max_two min_two max_three min_three max_four min_four
def naskhref04_Identity.l0 : Nat → Int → List (S45) → Int → Option ((List (S45)))
 | 0, _, _, _ => none
 | k + 1, x0, x3, x4 => if x4 < x0 then (if x3.length < 4398046511104 then (naskhref04_Identity.l0 k x0 (x3 ++ [(⟨(⟨x4, wrap64 (x4 + 1)⟩ : S33), (⟨x4, wrap64 (x4 + 1)⟩ : S33)⟩ : S45)]) (wrap64 (x4 + 1))) else (none)) else (some x3)
def naskhref04_Identity.f (k : Nat) (a0 : Int) : Option ((List (S45))) := naskhref04_Identity.l0 k a0 ([] : List (S45)) 0
theorem naskhref04_Identity.calls (k : Nat) (a0 : Int) (r : List (S45)) (w : World) (h : naskhref04_Identity.f k a0 = some r) :
 Calls Tryz.prog 62 #[.int .i64 a0] w fun e w' => ∃ v0_ : Value, e = .returned (v0_) ∧ Kd.R k45 36 w' w.heap.size (fun _ => True) v0_ r ∧ Below w.heap.size w w' := by
 have hu34 := Tryz.underlying34
 have hu36 := Tryz.underlying36
 have HB := aMk (qBr w.heap.size w)
 have H : (naskhref04_Identity.l0 k a0 ([] : List (S45)) 0) = some r := h
 clear h
 have H' := aMk H
 clear H
 go_enter Tryz.func62, Tryz.ntmps62
 go_wp2
 go_loopg [3, 4] k (fun kq v3 v4 w' => ∃ (x3_1 : List (S45)) (x4_1 : Int), v4 = .int .i64 x4_1 ∧ Aside0 (naskhref04_Identity.l0 kq a0 x3_1 x4_1 = some r) ∧ Aside0 (kq ≤ k) ∧ Aside0 (Kd.R k45 36 w' w.heap.size (fun _ => True) v3 x3_1) ∧ Aside0 (Below w.heap.size w w'))
 case atStart => exact ⟨(([] : List (S45))), (0), (by first | rfl | (simp; done) | (simp [*]; done)), H', ⟨qlR _⟩, ⟨by first | exact Kd.R_nil _ _ _ _ _ | exact Kd.N_nil _ _ _ _ _ | exact Kd.V_nil _ _ _ _ _ | exact Kd.Q_nil _ _ _ _ _ | exact Kd.S_nil _ _ _ _ _⟩, ⟨by repeat (first | (with_reducible first | exact HB.out | apply qbA | apply qbN | apply qb1) | exact HB.out)⟩⟩
 case round =>
  clear H'
  obtain ⟨x3_1, x4_1, rfl, HA, HK1, HO_3, HB⟩ := hrel
  cases gk with
  | zero => exact absurd HA.out (by simp [naskhref04_Identity.l0])
  | succ k1 =>
   have H := HA.out
   clear HA
   simp only [naskhref04_Identity.l0] at H
   by_cases c2 : x4_1 < a0
   ·rw [if_pos c2] at H
    have c2b0 := qdT c2
    clear c2
    by_cases c3 : x3_1.length < 4398046511104
    ·rw [if_pos c3] at H
     have LMc3 := aMk c3; clear c3
     obtain ⟨y289, hy289⟩ : ∃ y_ : List (S45), y_ = (x3_1 ++ [(⟨(⟨x4_1, wrap64 (x4_1 + 1)⟩ : S33), (⟨x4_1, wrap64 (x4_1 + 1)⟩ : S33)⟩ : S45)]) := ⟨_, rfl⟩
     replace H : (naskhref04_Identity.l0 k1 a0 y289 (wrap64 (x4_1 + 1))) = some r := by first | (rw [hy289]; with_reducible exact H) | (have H2_ := (qoS _ _).symm.trans H; rw [hy289]; with_reducible exact H2_) | (have H2_ := (qoS _ _).symm.trans H; with_reducible exact H2_) | with_reducible exact H | (rw [hy289]; exact H) | exact H
     have Ny289 := aMk hy289; clear hy289
     have H' := aMk H
     clear H
     go_wp2_with (first | ((with_reducible refine gate_dst (N := 5) rfl ?_); refine box_event ?hg (N := 5) ?hd (cs := #[.int .i64 0, .int .i64 0]) (t := 34) ?hr ?_; (case hd => rfl); (case hg => rfl); (case hr => go_simp; done); intro gb288 hg w4 hbox hb; have n0_ := aMk (qrB (by (with_reducible repeat (first | apply qrA | apply qrN | apply qrD)); exact HO_3.out) hb); have n1_ := aMk (qbP (by repeat (first | (with_reducible first | exact HB.out | apply qbA | apply qbN | apply qb1) | exact HB.out)) hb); have n2_ := aMk (hbox); have n3_ := aMk ((by rw [hg]; exact (qbZ (by repeat (first | (with_reducible first | exact HB.out | apply qbA | apply qbN | apply qb1) | exact HB.out))) : w.heap.size ≤ gb288)); have n4_ := aMk ((by rw [hg]; exact (qbZ (by repeat (first | (with_reducible first | exact HB.out | apply qbA | apply qbN | apply qb1) | exact HB.out))) : w.heap.size ≤ gb288)); clear HO_3; clear HB; have HO_3 := n0_; have HB := n1_; have BK288 := n2_; have GW288 := n3_; have GE288 := n4_; clear n0_ n1_ n2_ n3_ n4_; clear hb hbox hg; have hcz5_0 : w4.cell? ⟨gb288, 0, none⟩ = some (.int .i64 0) := (blk_cell BK288.out 0).trans rfl; have hcz5_1 : w4.cell? ⟨gb288, 1, none⟩ = some (.int .i64 0) := (blk_cell BK288.out 1).trans rfl; have hfz5_0 := qbF BK288.out 0; have hfz5_1 := qbF BK288.out 1) | ((with_reducible refine gate_builtin (b := .append) (xs := #[.tmp 15, .tmp 19]) rfl ?_); at_builtin; refine Kd.R_append k45 (w0 := w) w.heap.size rfl (.tmp 15) (.tmp 19) 26 36 (.agg #[(.int .i64 0), (.int .i64 0), (.int .i64 0), (.int .i64 0)]) 32 rfl Tryz.underlying26 info45 rfl (by decide) (by omega) u3 x3_1 (⟨(⟨x4_1, wrap64 (x4_1 + 1)⟩ : S33), (⟨x4_1, wrap64 (x4_1 + 1)⟩ : S33)⟩ : S45) [.int .i64 x4_1, .int .i64 (wrap64 (x4_1 + 1)), .int .i64 x4_1, .int .i64 (wrap64 (x4_1 + 1))] (fun _ => True) (fun _ => False) rfl (by first | (go_simp; done) | (go_simp; rfl)) ?aP (fun _ hk => hk.elim) ?aF ?aO ?aB ?aS ?aL ?_; (case aP => exact k45_mkM _ _ _ (⟨(⟨x4_1, wrap64 (x4_1 + 1)⟩ : S33), (⟨x4_1, wrap64 (x4_1 + 1)⟩ : S33)⟩ : S45)); (case aB => exact (by repeat (first | (with_reducible first | exact HB.out | apply qbA | apply qbN | apply qb1 | refine qbS ?_ GE288.out) | exact HB.out))); (case aF => exact (fun _ _ => trivial)); (case aO => exact (by (with_reducible repeat (first | apply qrA | apply qrN | apply qrD)); exact qrM (Kd.R_far (p := ⟨gb288, 1, none⟩) (Kd.R_far (p := ⟨gb288, 0, none⟩) (Kd.R_types HO_3.out BK288.out (by decide)) (fun _ hk => hk.2) (.int .i64 x4_1)) (fun _ hk => hk.2) (.int .i64 (wrap64 (x4_1 + 1)))) (fun _ hk => trivial))); (case aS => exact (qbZ (by repeat (first | (with_reducible first | exact HB.out | apply qbA | apply qbN | apply qb1 | refine qbS ?_ GE288.out) | exact HB.out)))); (case aL => have := LMc3.out; omega); intro v290 w6 ho hb hg hat; rw [← Ny289.out] at ho; have n0_ := aMk (blk_grown (g := gb288) (o := .cells #[.int .i64 x4_1, .int .i64 (wrap64 (x4_1 + 1))] 34 (0, 0)) (by (with_reducible repeat (first | refine blk_drewN ?_ _ | refine blk_drew ?_ | refine blk_alloc ?_ _)); refine blk_put (cs := #[.int .i64 x4_1, .int .i64 0]) ?_ 1 _ rfl; (with_reducible repeat (first | refine blk_drewN ?_ _ | refine blk_drew ?_ | refine blk_alloc ?_ _)); refine blk_put (cs := #[.int .i64 0, .int .i64 0]) ?_ 0 _ rfl; (with_reducible repeat (first | refine blk_drewN ?_ _ | refine blk_drew ?_ | refine blk_alloc ?_ _)); exact BK288.out) hg (Kd.R_ne HO_3.out BK288.out (by decide))); have n1_ := aMk (hb); have n2_ := aMk (ho); clear BK288; clear HB; clear HO_3; have BK288 := n0_; have HB := n1_; have HO291 := n2_; clear n0_ n1_ n2_; clear ho hb hg hat))
     go_roundg k1
     case measure => have := HK1.out; omega
     case rel => exact ⟨(y289), (wrap64 (x4_1 + 1)), (by first | rfl | (simp; done) | (simp [*]; done)), H', ⟨by have := HK1.out; omega⟩, ⟨by (with_reducible repeat (first | apply qrA | apply qrN | apply qrD)); exact HO291.out⟩, ⟨by repeat (first | (with_reducible first | exact HB.out | apply qbA | apply qbN | apply qb1 | refine qbS ?_ GE288.out) | exact HB.out)⟩⟩
    ·rw [if_neg c3] at H
     exact absurd H (by simp)
   ·rw [if_neg c2] at H
    have c2b0 := qdF c2
    clear c2
    obtain rfl := qoI H
    go_wp2
    go_ret
    exact ⟨_, by first | rfl | (simp [errW_none, errW_some] <;> rfl) | (simp [*, errW_none, errW_some] <;> rfl), by (with_reducible repeat (first | apply qrA | apply qrN | apply qrD)); exact HO_3.out, by repeat (first | (with_reducible first | exact HB.out | apply qbA | apply qbN | apply qb1) | exact HB.out)⟩
end PClusterFinest
end
section
namespace CFin
open U PClusterFinest UFinest UFinEv UWhole
theorem idS_snoc (i : Nat) : idS (i + 1) = idS i ++ [⟨⟨(i : Int), (i : Int) + 1⟩, ⟨(i : Int), (i : Int) + 1⟩⟩] := by
 unfold idS
 rw [List.range_succ, List.map_append]
 rfl
theorem ident_loop (N : Nat) (hN : N ≤ 1000000) (d : Nat) : ∀ i : Nat, i + d = N → Ev (fun k => cluster_Identity.l0 k (idS i) (N : Int) (i : Int)) (idS N) := by
 induction d with
 | zero =>
  intro i hd
  obtain rfl : i = N := by omega
  exact Ev.step (fun k => by rw [cluster_Identity.l0]) (ev_neg (by omega) (ev_now _))
 | succ d ih =>
  intro i hd
  refine Ev.step (fun k => by rw [cluster_Identity.l0]) (ev_pos (by omega) (ev_pos (by rw [idS_len]; omega) ?_))
  rw [w64 (by omega) (by omega), ← idS_snoc, show (i : Int) + 1 = ((i + 1 : Nat) : Int) by omega]
  exact ih (i + 1) (by omega)
theorem refIdent_loop (n : Int) (N : Nat) (hn : n = N ∨ n ≤ 0 ∧ N = 0) (hN : N ≤ 1000000) (d : Nat) : ∀ i : Nat, i + d = N → Ev (fun k => naskhref04_Identity.l0 k n (idS i) (i : Int)) (idS N) := by
 induction d with
 | zero =>
  intro i hd
  obtain rfl : i = N := by omega
  exact Ev.step (fun k => by rw [naskhref04_Identity.l0]) (ev_neg (by omega) (ev_now _))
 | succ d ih =>
  intro i hd
  refine Ev.step (fun k => by rw [naskhref04_Identity.l0]) (ev_pos (by omega) (ev_pos (by rw [idS_len]; omega) ?_))
  rw [w64 (by omega) (by omega), ← idS_snoc, show (i : Int) + 1 = ((i + 1 : Nat) : Int) by omega]
  exact ih (i + 1) (by omega)
theorem ident_c (n : Int) (hn : n ≤ 200) {w : World} : Calls Tryz.prog 55 #[.int .i64 n] w fun e w' => ∃ u, e = .returned u ∧ SLk k45 w' u (idS n.toNat) ∧ Below w.heap.size w w' := by
 have he : Ev (fun k => cluster_Identity.f k n) (idS n.toNat) := by
  have h := ident_loop n.toNat (by omega) n.toNat 0 (by omega)
  have e : mx n 0 = (n.toNat : Int) := by unfold mx; split <;> omega
  unfold cluster_Identity.f
  rw [e]
  exact h
 obtain ⟨k, hk⟩ := ev_some he
 refine (cluster_Identity.calls k n _ w hk).mono ?_
 rintro e w' ⟨v, rfl, hv, hb⟩
 exact ⟨v, rfl, SLk.of_R hv, hb⟩
theorem refIdent_c (n : Int) (hn : n ≤ 200) {w : World} : Calls Tryz.prog 62 #[.int .i64 n] w fun e w' => ∃ u, e = .returned u ∧ SLk k45 w' u (idS n.toNat) ∧ Below w.heap.size w w' := by
 have he : Ev (fun k => naskhref04_Identity.f k n) (idS n.toNat) := refIdent_loop n n.toNat (by omega) (by omega) n.toNat 0 (by omega)
 obtain ⟨k, hk⟩ := ev_some he
 refine (naskhref04_Identity.calls k n _ w hk).mono ?_
 rintro e w' ⟨v, rfl, hv, hb⟩
 exact ⟨v, rfl, SLk.of_R hv, hb⟩
end CFin
end
section
namespace KStr0
open U PClusterFinest
open UWhole (idS)
set_option maxRecDepth 100000
set_option maxHeartbeats 8000000
theorem str_neg (p v : Value) (n : Int) (h0 : n < 0) {w : World} : Calls Tryz.prog 15 #[p, v, .int .i64 n] w fun e w' => e = .returned (.tuple #[.slice none 0 0, .slice none 0 0, .int .i64 1]) ∧ Below w.heap.size w w' := by
 go_enter Tryz.func15, Tryz.ntmps15
 go_wp2
 refine bodyPost_ret (results_tmp3 rfl _ _ _) rfl ?_
 exact ⟨rfl, qBr _ _⟩
theorem refStr_neg (v : Value) (n : Int) (h0 : n < 0) {w : World} : Calls Tryz.prog 16 #[v, .int .i64 n] w fun e w' => e = .returned (.tuple #[.slice none 0 0, .slice none 0 0, .int .i64 1]) ∧ Below w.heap.size w w' := by
 go_enter Tryz.func16, Tryz.ntmps16
 go_wp2
 refine bodyPost_ret (results_tmp3 rfl _ _ _) rfl ?_
 exact ⟨rfl, qBr _ _⟩
theorem str_long (p : Value) (A : Option Addr) (m c : Nat) (n : Int) (h : n > 16777216) {w : World} : Calls Tryz.prog 15 #[p, .slice A m c, .int .i64 n] w fun e w' => e = .returned (.tuple #[.slice none 0 0, .slice none 0 0, .int .i64 6]) ∧ Below w.heap.size w w' := by
 have h0 : ¬ n < 0 := by omega
 go_enter Tryz.func15, Tryz.ntmps15
 go_wp2
 refine bodyPost_ret (results_tmp3 rfl _ _ _) rfl ?_
 exact ⟨rfl, qBr _ _⟩
theorem refStr_long (A : Option Addr) (m c : Nat) (n : Int) (h : n > 16777216) {w : World} : Calls Tryz.prog 16 #[.slice A m c, .int .i64 n] w fun e w' => e = .returned (.tuple #[.slice none 0 0, .slice none 0 0, .int .i64 6]) ∧ Below w.heap.size w w' := by
 have h0 : ¬ n < 0 := by omega
 go_enter Tryz.func16, Tryz.ntmps16
 go_wp2
 refine bodyPost_ret (results_tmp3 rfl _ _ _) rfl ?_
 exact ⟨rfl, qBr _ _⟩
theorem str_zero (p : Value) {A : Option Addr} {c : Nat} {xs : List Int} {w : World} (hx : SL w (.slice A xs.length c) xs) (hm : xs.length ≤ 60) : Calls Tryz.prog 15 #[p, .slice A xs.length c, .int .i64 0] w fun e w' => ∃ u v, e = .returned (.tuple #[u, v, .int .i64 0]) ∧ SL w' u xs ∧ SLk k45 w' v (idS xs.length) ∧ Below w.heap.size w w' := by
 have HX := aMk hx
 have HM := aMk hm
 have h0 : ¬ (0 : Int) < 0 := by omega
 have h1 : ¬ (0 : Int) > 16777216 := by omega
 have h3 : ¬ (xs.length : Int) > 16777216 - 0 := by omega
 have h4 : ¬ (xs.length : Int) > 16777216 := by omega
 clear hx hm
 go_enter Tryz.func15, Tryz.ntmps15
 go_wp2_with (first | (go_at_call 45; refine (Cel.clone_c HX.out (by have := HM.out; omega)).mono ?_; rintro e w1 ⟨u, rfl, hr, hb⟩; have HU := aMk (SLk.of_R hr); have HB1 := aMk hb; clear hr hb) | (go_at_call 55; refine (CFin.ident_c (xs.length : Int) (by have := HM.out; omega)).mono ?_; rintro e w2 ⟨v, rfl, hr, hb⟩; have HV := aMk hr; have HB12 := aMk hb; clear hr hb))
 refine bodyPost_ret (results_tmp3 rfl _ _ _) rfl ?_
 exact ⟨_, _, rfl, SLk.below HU.out HB12.out, HV.out, qbP HB1.out HB12.out⟩
theorem refStr_zero {A : Option Addr} {c : Nat} {xs : List Int} {w : World} (hx : SL w (.slice A xs.length c) xs) (hm : xs.length ≤ 60) : Calls Tryz.prog 16 #[.slice A xs.length c, .int .i64 0] w fun e w' => ∃ u v, e = .returned (.tuple #[u, v, .int .i64 0]) ∧ SL w' u xs ∧ SLk k45 w' v (idS xs.length) ∧ Below w.heap.size w w' := by
 obtain ⟨A', c', e, hc, hC⟩ := hx
 injection e with e1 e2 e3
 clear e2
 subst e1
 subst e3
 have HX := aMk hC
 have HM := aMk hm
 have h0 : ¬ (0 : Int) < 0 := by omega
 have h1 : ¬ (0 : Int) > 16777216 := by omega
 have h3 : ¬ (xs.length : Int) > 16777216 - 0 := by omega
 have h4 : ¬ (xs.length : Int) > 16777216 := by omega
 clear hm hC hc
 go_enter Tryz.func16, Tryz.ntmps16
 go_wp2_with (first | ((with_reducible refine gate_builtin (b := .append) (xs := #[.const (.slice none 0 0), .tmp 29]) rfl ?_); at_builtin; refine Kd.R_append_rows (Kd.int .i64) (w0 := w) w.heap.size rfl (.const (.slice none 0 0)) (.tmp 29) 22 3 (.int .i64 0) 8 rfl Tryz.underlying22 KPlaces.info3 rfl (by decide) (by omega) (.slice none 0 0) [] xs A xs.length c (fun _ => True) (fun _ => False) (by first | rfl | (go_simp; done) | (go_simp; rfl)) (by first | rfl | (go_simp; done) | (go_simp; rfl)) (Kd.R_nil _ _ _ _ _) HX.out (fun x cs h => h) (fun _ h => h.elim) (fun _ _ => trivial) (qBr _ _) (qlR _) (by have := HM.out; simp only [List.length_nil]; omega) ?_; intro v8 w8 hv hb hg hat; rw [List.nil_append] at hv; have HU := aMk (SLk.of_R hv); have HB1 := aMk hb; clear hv hb hg hat) | (go_at_call 62; refine (CFin.refIdent_c (xs.length : Int) (by have := HM.out; omega)).mono ?_; rintro e w2 ⟨v, rfl, hr, hb⟩; have HV := aMk hr; have HB12 := aMk hb; clear hr hb))
 refine bodyPost_ret (results_tmp3 rfl _ _ _) rfl ?_
 exact ⟨_, _, rfl, SLk.below HU.out HB12.out, HV.out, qbP HB1.out HB12.out⟩
end KStr0
end
section
namespace KAwk
open U PClusterFinest UFinest KStretch
open UGroups (groups)
open UFinEv (lkOf)
open Cel (linksOf)
open CFin (cluS)
theorem j1 : CJoins.jn 1576 = 3 := by kernel_rfl
theorem j2 : CJoins.jn 1575 = 2 := by kernel_rfl
theorem aw_str : strL [1576, 1575] 2 = [[1576, 1600, 1600], [1575]] := by
 unfold strL
 rw [List.map_cons, List.map_cons, List.map_nil, j1, j2]
 kernel_rfl
abbrev akL : List S45 := [⟨⟨0, 1⟩, ⟨0, 3⟩⟩, ⟨⟨1, 2⟩, ⟨3, 4⟩⟩]
theorem aw_links : linksOf [[1576, 1600, 1600], [1575]] (groups 2 []) = (akL, 4) := by kernel_rfl
def akC (x : Nat) : Nat := if x = 1 ∨ x = 5 then 1 else 0
theorem ak_closed : Closed 2 4 (akL.map lkOf) (fun x y => akC x = akC y) := by
 have hm : ∀ x, x ∈ akL.map lkOf ↔ x = ⟨0, 1, 0, 3⟩ ∨ x = ⟨1, 2, 3, 4⟩ := fun x => by simp [lkOf]
 refine ⟨⟨fun _ => rfl, fun _ _ h => h.symm, fun _ _ _ h h' => h.trans h'⟩, fun x hx i h1 h2 => ?_, fun x hx i h1 h2 => ?_, fun x hx => ?_, fun i h0 h1 h2 => ?_, fun i h1 h2 => ?_, fun i j k h1 h2 h3 h4 => ?_, fun i j k h0 h1 h2 h3 h4 => ?_⟩
 ·have e : x.a = i := by rcases (hm x).1 hx with rfl | rfl <;> (dsimp only at h1 h2 ⊢; omega)
  rw [e]
 ·rcases (hm x).1 hx with rfl | rfl
  ·dsimp only at h1 h2 ⊢
   unfold akC
   rw [if_neg (by omega), if_neg (by omega)]
  ·dsimp only at h1 h2 ⊢
   obtain rfl : i = 3 := by omega
   rfl
 ·rcases (hm x).1 hx with rfl | rfl <;> rfl
 ·obtain rfl : i = 1 := by omega
  exact absurd h2 (by decide)
 ·exact absurd h1 (by rw [show firstF (akL.map lkOf) 2 = 0 by decide]; exact Nat.not_lt_zero _)
 ·have e : i = j ∨ j = k := by omega
  rcases e with rfl | rfl
  ·rfl
  ·exact h4
 ·unfold akC at h4 ⊢
  by_cases a1 : i = 1 ∨ i = 5 <;> by_cases a2 : j = 1 ∨ j = 5 <;> by_cases a3 : k = 1 ∨ k = 5 <;> simp only [a1, a2, a3, if_true, if_false] at h4 ⊢ <;> omega
theorem ak_len {L : Lab} (h : FinOk 2 4 (akL.map lkOf) L) : (cluS 2 4 L 2).length = 2 := by
 have hs := h.sound _ ak_closed
 have ne : L 0 ≠ L 1 := fun e => by
  have h0 := hs 0
  have h1 := hs 1
  rw [← e] at h1
  have : akC 0 = akC 1 := h0.trans h1.symm
  exact absurd this (by decide)
 have ne' : ¬ L 1 = L 0 := fun e => ne e.symm
 unfold cluS cluTo
 simp [List.range_succ, List.filterMap, ne']
theorem aw_places : UKash.placesN [1576, 1575] ([1576, 1575].map CJoins.jn) [1576, 1575].length = [0] := by
 rw [List.map_cons, List.map_cons, List.map_nil, j1, j2]
 kernel_rfl
end KAwk
end
section
namespace KAwk
open U PClusterFinest UFinest KStretch
open UGroups (groups)
open UFinEv (lkOf)
open Cel (linksOf)
open CFin (cluS)
theorem awake_c {w : World} : Calls Tryz.prog 13 #[] w fun e w' => e = .returned (.bool true) ∧ Below w.heap.size w w' := by
 go_enter Tryz.func13, Tryz.ntmps13
 go_upto_region 2 with (first | (go_at_call 14; refine (CProps.new_c _).mono ?_; rintro e w1 ⟨g, rfl, hp, hb⟩; have HP := aMk hp; have HB1 := aMk hb; clear hp hb) | (go_at_call 15; have hcon := stretch_c (HP.out.below (qbA (qBr _ _) _)) (A := some ⟨w1.heap.size, 0, none⟩) (c := 2) (CBase.SL_lit w1 3 [1576, 1575] (by decide)) (by decide) 2 (by decide) (by decide); refine hcon.mono ?_; clear hcon; rintro e w2 ⟨hb, hc⟩; obtain ⟨-, u, v, F, rfl, hs, hf, hl⟩ := hc.resolve_left (fun h => absurd (h.1.symm.trans aw_places) (by decide)); rw [aw_str] at hs hf hl; obtain ⟨Ac, cc, ev, -, -⟩ := hl; have hf2 : FinOk 2 4 (akL.map lkOf) F := (by have h := hf; rwa [show (linksOf [[1576, 1600, 1600], [1575]] (groups ([[1576, 1600, 1600], [1575]] : List (List Int)).length [])).1 = akL by exact congrArg Prod.fst aw_links] at h); have hlen := ak_len hf2; have hlen2 : (cluS ([[1576, 1600, 1600], [1575]] : List (List Int)).length ([[1576, 1600, 1600], [1575]] : List (List Int)).flatten.length F ([[1576, 1600, 1600], [1575]] : List (List Int)).length).length = 2 := hlen; rw [hlen2] at ev; subst ev; have HS := aMk hs; have HB2 : Aside0 (Below w.heap.size w w2) := ⟨qbP HB1.out (qbP (qbA (qBr _ _) _) hb)⟩; clear hb hc hs hf hf2 hlen hlen2))
 go_wp2_with (first | (go_at_call 17; refine (CBase.equal_c (xs := [1576, 1600, 1600, 1575]) (HS.out.below (qbA (qBr _ _) _)) (CBase.SL_lit w2 3 [1576, 1600, 1600, 1575] (by decide)) (by decide)).mono ?_; rintro e w3 ⟨rfl, hb⟩; have HB3 : Aside0 (Below w.heap.size w w3) := ⟨qbP HB2.out (qbP (qbA (qBr _ _) _) hb)⟩; clear hb) | (go_at_call 21; refine (KRank.rank_c 1587 _).mono ?_; rintro e w4 ⟨rfl, hb⟩; have HB4 : Aside0 (Below w.heap.size w w4) := ⟨qbP HB3.out hb⟩; clear hb))
 have e2 : (KRank.rankO 1587 == 2) = true := by decide
 rw [e2]
 go_ret
 exact ⟨rfl, HB4.out⟩
end KAwk
end
section
namespace KStrB
open U PClusterFinest UKash KStretch UStretch
open CProps (PropsAt)
open Cel (linksOf)
open UGroups (groups)
open UFinEv (lkOf)
open UFinest (FinOk)
open CFin (cluS cluS_len)
open UWhole (idS idS_len)
structure Both (xs : List Int) (n r : Int) (ys : List Int) (P : List S45 → Prop) : Prop where
 uniq : ∀ l l', P l → P l' → l = l'
 few : ∀ l, P l → l.length ≤ 1000000
 short : ys.length ≤ 1000
 own : ∀ (w : World) (g : Nat) (A : Option Addr) (c : Nat), PropsAt w g → SL w (.slice A xs.length c) xs → Calls Tryz.prog 15 #[.pointer (some ⟨g, 0, none⟩), .slice A xs.length c, .int .i64 n] w fun e w' => ∃ u v l, e = .returned (.tuple #[u, v, .int .i64 r]) ∧ SL w' u ys ∧ SLk k45 w' v l ∧ P l ∧ Below w.heap.size w w'
 ref : ∀ (w : World) (A : Option Addr) (c : Nat), SL w (.slice A xs.length c) xs → Calls Tryz.prog 16 #[.slice A xs.length c, .int .i64 n] w fun e w' => ∃ u v l, e = .returned (.tuple #[u, v, .int .i64 r]) ∧ SL w' u ys ∧ SLk k45 w' v l ∧ P l ∧ Below w.heap.size w w'
theorem nils {xs : List Int} {n r : Int} (h1 : ∀ (w : World) (g : Nat) (A : Option Addr) (c : Nat), PropsAt w g → SL w (.slice A xs.length c) xs → Calls Tryz.prog 15 #[.pointer (some ⟨g, 0, none⟩), .slice A xs.length c, .int .i64 n] w fun e w' => e = .returned (.tuple #[.slice none 0 0, .slice none 0 0, .int .i64 r]) ∧ Below w.heap.size w w')
 (h2 : ∀ (w : World) (A : Option Addr) (c : Nat), SL w (.slice A xs.length c) xs → Calls Tryz.prog 16 #[.slice A xs.length c, .int .i64 n] w fun e w' => e = .returned (.tuple #[.slice none 0 0, .slice none 0 0, .int .i64 r]) ∧ Below w.heap.size w w') : Both xs n r [] (· = []) :=
 ⟨fun l l' h h' => h.trans h'.symm, fun l h => by subst h; decide, by decide,
  fun w g A c hp hx => (h1 w g A c hp hx).mono fun e w' h => ⟨_, _, [], h.1, SLk.nil _, SLk.nil _, rfl, h.2⟩,
  fun w A c hx => (h2 w A c hx).mono fun e w' h => ⟨_, _, [], h.1, SLk.nil _, SLk.nil _, rfl, h.2⟩⟩
theorem both (xs : List Int) (hm : xs.length ≤ 40) (n : Int) (hn : n ≤ 60 ∨ n > 16777216) : ∃ r ys P, Both xs n r ys P := by
 rcases Int.lt_trichotomy n 0 with h | h | h
 ·exact ⟨1, _, _, nils (fun w g A c _ _ => KStr0.str_neg _ _ n h) (fun w A c _ => KStr0.refStr_neg _ n h)⟩
 ·subst h
  refine ⟨0, xs, (· = idS xs.length), ⟨fun l l' h h' => h.trans h'.symm, fun l h => by subst h; rw [idS_len]; omega, by omega, fun w g A c _ hx => ?_, fun w A c hx => ?_⟩⟩
  ·refine (KStr0.str_zero _ hx (by omega)).mono ?_
   rintro e w' ⟨u, v, rfl, h1, h2, h3⟩
   exact ⟨u, v, _, rfl, h1, h2, rfl, h3⟩
  ·refine (KStr0.refStr_zero hx (by omega)).mono ?_
   rintro e w' ⟨u, v, rfl, h1, h2, h3⟩
   exact ⟨u, v, _, rfl, h1, h2, rfl, h3⟩
 ·by_cases h2 : n > 16777216
  ·exact ⟨6, _, _, nils (fun w g A c _ _ => KStr0.str_long _ A _ c n h2) (fun w A c _ => KStr0.refStr_long A _ c n h2)⟩
  ·obtain ⟨k, rfl⟩ : ∃ k : Nat, n = k := ⟨n.toNat, by omega⟩
   by_cases h0 : placesN xs (xs.map CJoins.jn) xs.length = []
   ·refine ⟨9, _, _, nils (fun w g A c hp hx => ?_) (fun w A c hx => ?_)⟩
    ·refine (stretch_c hp hx (by omega) k (by omega) (by omega)).mono ?_
     rintro e w' ⟨hb, h | h⟩
     ·exact ⟨h.2, hb⟩
     ·exact absurd h.1 (by rw [h0]; decide)
    ·refine (KRefStr.refStretch_c hx (by omega) k (by omega) (by omega)).mono ?_
     rintro e w' ⟨hb, h | h⟩
     ·exact ⟨h.2, hb⟩
     ·exact absurd h.1 (by rw [h0]; decide)
   ·have hp : 0 < (placesN xs (xs.map CJoins.jn) xs.length).length := List.length_pos_iff.2 h0
    have hl : (strL xs k).length = xs.length ∧ (strL xs k).flatten.length = xs.length + k := by
     unfold strL
     refine ⟨rowsOf_len _ _, ?_⟩
     rw [rowsOf_flat _ _ (manyTo_len _ _ _ _ _), manyTo_sum _ _ _ _ (by rw [qlm]) (fun q hq => (mem_placesN.1 hq).1) _ (qlR _), shares_all _ _ hp]
    refine ⟨0, (strL xs k).flatten, fun l => ∃ F, FinOk (strL xs k).length (strL xs k).flatten.length ((linksOf (strL xs k) (groups (strL xs k).length [])).1.map lkOf) F ∧ l = cluS (strL xs k).length (strL xs k).flatten.length F (strL xs k).length, ⟨?_, ?_, by omega, fun w g A c hp hx => ?_, fun w A c hx => ?_⟩⟩
    ·rintro l l' ⟨F, hF, rfl⟩ ⟨F', hF', rfl⟩
     unfold cluS
     rw [UFinest.cluTo_same (FinOk.same hF hF')]
    ·rintro l ⟨F, hF, rfl⟩
     have := cluS_len (strL xs k).length (strL xs k).flatten.length F (strL xs k).length
     omega
    ·refine (stretch_c hp hx (by omega) k (by omega) (by omega)).mono ?_
     rintro e w' ⟨hb, h | ⟨-, u, v, F, rfl, h1, h2, h3⟩⟩
     ·exact absurd h.1 h0
     ·exact ⟨u, v, _, rfl, h1, h3, ⟨F, h2, rfl⟩, hb⟩
    ·refine (KRefStr.refStretch_c hx (by omega) k (by omega) (by omega)).mono ?_
     rintro e w' ⟨hb, h | ⟨-, u, v, F, rfl, h1, h2, h3⟩⟩
     ·exact absurd h.1 h0
     ·exact ⟨u, v, _, rfl, h1, h3, ⟨F, h2, rfl⟩, hb⟩
end KStrB
end
section
namespace PClusterFinest

attribute [local go_sem] max2_int min2_int max_two min_two max_three min_three max_four min_four
attribute [local go_sem high] eqA45
def api_Cluster.l0 : Nat → List (S45) → List (S45) → Int → Int → Option (Bool)
 | 0, _, _, _, _ => none
 | k + 1, x0, x1, x12, x13 => if x13 < x12 then (if 0 ≤ x13 then (if x13 < (x0.length : Int) then (if x13 < (x1.length : Int) then (if ((!(((rd_T45 x0 x13).f0.f0) == ((rd_T45 x1 x13).f0.f0)) || (!(((rd_T45 x0 x13).f0.f1) == ((rd_T45 x1 x13).f0.f1)))) || ((!(((rd_T45 x0 x13).f1.f0) == ((rd_T45 x1 x13).f1.f0)) || (!(((rd_T45 x0 x13).f1.f1) == ((rd_T45 x1 x13).f1.f1)))))) = true then (some false) else (api_Cluster.l0 k x0 x1 x12 (wrap64 (x13 + 1)))) else (none)) else (none)) else (none)) else (some true)
def api_Cluster.f (k : Nat) (l0 : List (S45)) (l1 : List (S45)) : Option (Bool) := if (l0.length : Int) = (l1.length : Int) then (api_Cluster.l0 k l0 l1 (l0.length : Int) 0) else (some false)
theorem api_Cluster.calls (k : Nat) (A0 : Option Addr) (c0 : Nat) (l0 : List (S45)) (A1 : Option Addr) (c1 : Nat) (l1 : List (S45)) (r : Bool) (w : World) (hr0 : Kd.C k45 w A0 l0.length l0) (hc0 : l0.length ≤ c0) (hr1 : Kd.C k45 w A1 l1.length l1) (hc1 : l1.length ≤ c1) (h : api_Cluster.f k l0 l1 = some r) :
 Calls Tryz.prog 18 #[.slice A0 l0.length c0, .slice A1 l1.length c1] w fun e w' => e = .returned (.bool r) ∧ Drawn0 w w' := by
 have hu36 := Tryz.underlying36
 have HR0 := aMk hr0
 have HC0 := aMk hc0
 clear hr0 hc0
 have HR1 := aMk hr1
 have HC1 := aMk hc1
 clear hr1 hc1
 have H : (if (l0.length : Int) = (l1.length : Int) then (api_Cluster.l0 k l0 l1 (l0.length : Int) 0) else (some false)) = some r := h
 clear h
 by_cases c3 : (l0.length : Int) = (l1.length : Int)
 ·rw [if_pos c3] at H
  have c3b0 : ((l0.length : Int) == (l1.length : Int)) = true := beq_iff_eq.mpr c3
  have c3b1 : ((l0.length : Int) != (l1.length : Int)) = false := bne_eq_false_iff_eq.mpr c3
  have c3b2 : (l0.length == l1.length) = true := by first | simpa using c3 | (simp at c3 ⊢; omega)
  clear c3
  have H' := aMk H
  clear H
  go_enter Tryz.func18, Tryz.ntmps18
  go_wp2
  repeat (go_quiet (fail); try go_wp2)
  go_loopg [13] k (fun kq v13 w' => ∃ (x13_1 : Int), v13 = .int .i64 x13_1 ∧ Aside0 (api_Cluster.l0 kq l0 l1 (l0.length : Int) x13_1 = some r) ∧ Aside0 (kq ≤ k) ∧ Drawn0 w w')
  case atStart => exact ⟨(0), (by first | rfl | (simp; done) | (simp [*]; done)), H', ⟨qlR _⟩, by repeat (first | exact qDr _ | apply qDs)⟩
  case round =>
   clear H'
   obtain ⟨x13_1, rfl, HA, HK1, ⟨m1, rfl⟩⟩ := hrel
   cases gk with
   | zero => exact absurd HA.out (by simp [api_Cluster.l0])
   | succ k1 =>
    have H := HA.out
    clear HA
    simp only [api_Cluster.l0] at H
    by_cases c4 : x13_1 < (l0.length : Int)
    ·rw [if_pos c4] at H
     have c4b0 := qdT c4
     clear c4
     by_cases c5 : 0 ≤ x13_1
     ·rw [if_pos c5] at H
      have c5b0 := qdT c5
      clear c5
      by_cases c6 : x13_1 < (l0.length : Int)
      ·rw [if_pos c6] at H
       have c6b0 := qdT c6
       clear c6
       by_cases c7 : x13_1 < (l1.length : Int)
       ·rw [if_pos c7] at H
        have c7b0 := qdT c7
        clear c7
        by_cases c8 : ((!(((rd_T45 l0 x13_1).f0.f0) == ((rd_T45 l1 x13_1).f0.f0)) || (!(((rd_T45 l0 x13_1).f0.f1) == ((rd_T45 l1 x13_1).f0.f1)))) || ((!(((rd_T45 l0 x13_1).f1.f0) == ((rd_T45 l1 x13_1).f1.f0)) || (!(((rd_T45 l0 x13_1).f1.f1) == ((rd_T45 l1 x13_1).f1.f1)))))) = true
        ·rw [if_pos c8] at H
         have c8b0 : ((!(((rd_T45 l0 x13_1).f0.f0) == ((rd_T45 l1 x13_1).f0.f0)) || (!(((rd_T45 l0 x13_1).f0.f1) == ((rd_T45 l1 x13_1).f0.f1)))) || ((!(((rd_T45 l0 x13_1).f1.f0) == ((rd_T45 l1 x13_1).f1.f0)) || (!(((rd_T45 l0 x13_1).f1.f1) == ((rd_T45 l1 x13_1).f1.f1)))))) = true := c8
         clear c8
         obtain rfl := qoI H
         have p108 : 0 ≤ (x13_1 : Int) := qoD (by assumption)
         have q108 : x13_1 < (l0.length : Int) := qoD (by assumption)
         obtain ⟨ad108, e108, hx108_0, hx108_1, hx108_2, hx108_3⟩ := at_T45 HR0.out x13_1 p108 q108
         cases e108
         replace p108 := eq_true p108
         replace q108 := eq_true q108
         have p109 : 0 ≤ (x13_1 : Int) := qoD (by assumption)
         have q109 : x13_1 < (l1.length : Int) := qoD (by assumption)
         obtain ⟨ad109, e109, hx109_0, hx109_1, hx109_2, hx109_3⟩ := at_T45 HR1.out x13_1 p109 q109
         cases e109
         replace p109 := eq_true p109
         replace q109 := eq_true q109
         go_wp2
         repeat (go_quiet (fail); try go_wp2)
         go_ret
         exact ⟨by first | rfl | (simp; done) | (simp [*]; done), by repeat (first | exact qDr _ | apply qDs)⟩
        ·rw [if_neg c8] at H
         have c8b0 : ((!(((rd_T45 l0 x13_1).f0.f0) == ((rd_T45 l1 x13_1).f0.f0)) || (!(((rd_T45 l0 x13_1).f0.f1) == ((rd_T45 l1 x13_1).f0.f1)))) || ((!(((rd_T45 l0 x13_1).f1.f0) == ((rd_T45 l1 x13_1).f1.f0)) || (!(((rd_T45 l0 x13_1).f1.f1) == ((rd_T45 l1 x13_1).f1.f1)))))) = false := by simpa using c8
         clear c8
         have H' := aMk H
         clear H
         have p108 : 0 ≤ (x13_1 : Int) := qoD (by assumption)
         have q108 : x13_1 < (l0.length : Int) := qoD (by assumption)
         obtain ⟨ad108, e108, hx108_0, hx108_1, hx108_2, hx108_3⟩ := at_T45 HR0.out x13_1 p108 q108
         cases e108
         replace p108 := eq_true p108
         replace q108 := eq_true q108
         have p109 : 0 ≤ (x13_1 : Int) := qoD (by assumption)
         have q109 : x13_1 < (l1.length : Int) := qoD (by assumption)
         obtain ⟨ad109, e109, hx109_0, hx109_1, hx109_2, hx109_3⟩ := at_T45 HR1.out x13_1 p109 q109
         cases e109
         replace p109 := eq_true p109
         replace q109 := eq_true q109
         go_wp2
         repeat (go_quiet (fail); try go_wp2)
         go_roundg k1
         case measure => have := HK1.out; omega
         case rel => exact ⟨(wrap64 (x13_1 + 1)), (by first | rfl | (simp; done) | (simp [*]; done)), H', ⟨by have := HK1.out; omega⟩, by repeat (first | exact qDr _ | apply qDs)⟩
       ·rw [if_neg c7] at H
        exact absurd H (by simp)
      ·rw [if_neg c6] at H
       exact absurd H (by simp)
     ·rw [if_neg c5] at H
      exact absurd H (by simp)
    ·rw [if_neg c4] at H
     have c4b0 := qdF c4
     clear c4
     obtain rfl := qoI H
     go_wp2
     repeat (go_quiet (fail); try go_wp2)
     go_ret
     exact ⟨by first | rfl | (simp; done) | (simp [*]; done), by repeat (first | exact qDr _ | apply qDs)⟩
 ·rw [if_neg c3] at H
  have c3b0 : ((l0.length : Int) == (l1.length : Int)) = false := beq_eq_false_iff_ne.mpr c3
  have c3b1 : ((l0.length : Int) != (l1.length : Int)) = true := bne_iff_ne.mpr c3
  have c3b2 : (l0.length == l1.length) = false := by first | simpa using c3 | (simp at c3 ⊢; omega)
  obtain rfl := qoI H
  go_enter Tryz.func18, Tryz.ntmps18
  go_wp2
  repeat (go_quiet (fail); try go_wp2)
  go_ret
  exact ⟨by first | rfl | (simp; done) | (simp [*]; done), by repeat (first | exact qDr _ | apply qDs)⟩
end PClusterFinest
namespace CFin
open U PClusterFinest UFinest UFinEv
theorem eq45_loop (xs : List S45) (hm : xs.length ≤ 1000000) (n : Nat) : ∀ i : Nat, i + n = xs.length → Ev (fun k => api_Cluster.l0 k xs xs (xs.length : Int) i) true := by
 induction n with
 | zero =>
  intro i hi
  refine Ev.step (fun k => by rw [api_Cluster.l0]) (ev_neg (by omega) (ev_now _))
 | succ n ih =>
  intro i hi
  refine Ev.step (fun k => by rw [api_Cluster.l0]) (ev_pos (by omega) (ev_pos (by omega) (ev_pos (by omega) (ev_pos (by omega) (ev_neg (by simp) ?_)))))
  rw [w64 (by omega) (by omega)]
  exact ih (i + 1) (by omega)
theorem eq45_c {u v : Value} {xs : List S45} {w : World} (h1 : SLk k45 w u xs) (h2 : SLk k45 w v xs) (hm : xs.length ≤ 1000000) : Calls Tryz.prog 18 #[u, v] w fun e w' => e = .returned (.bool true) ∧ Drawn0 w w' := by
 obtain ⟨A, c, rfl, hc, hC⟩ := h1
 obtain ⟨B, d, rfl, hd, hD⟩ := h2
 have he : Ev (fun k => api_Cluster.f k xs xs) true := ev_pos rfl (eq45_loop xs hm xs.length 0 (by omega))
 obtain ⟨k, hk⟩ := ev_some he
 exact api_Cluster.calls k A c xs B d xs true w hC hc hD hd hk
end CFin
end
section
open YtemhccjjcioodaaGreatW.PrintWords YtemhccjjcioodaaGreatW.PrintMore YtemhccjjcioodaaGreatW.PrintLast U PClusterFinest UKash
open CProps (PropsAt)
theorem kashidaStretchesWalk (l0 : List Int) (n code : Int) (w : World) (A0 : Option Addr) (c0 : Nat) (hr0 : Kd.C (Kd.int .i64) w A0 l0.length l0) (hc0 : l0.length ≤ c0) (hm0 : l0.length ≤ maxLen) (_ : l0.length * 8 ≤ 140737488351232) (_ : ∀ x ∈ l0, (Lit.int .i64 x).wf = true) (_ : (Lit.int .i64 n).wf = true) (_ : (Lit.int .i64 code).wf = true) :
 Calls Tryz.prog 3 #[.slice A0 l0.length c0, .int .i64 n, .int .i64 code] w fun e w' => e = .returned (.bool true) ∧ Below w.heap.size w w' := by
 have H := aMk (SLk.mk hr0 hc0)
 clear hr0 hc0 hm0
 by_cases g : 40 < l0.length
 ·have g1 : (l0.length : Int) > 40 := by omega
  clear g
  go_enter Tryz.func3, Tryz.ntmps3
  go_wp2_with fail
  refine KAwk.awake_c.mono ?_
  rintro e w1 ⟨rfl, hb⟩
  go_wp2
  go_ret
  exact ⟨rfl, hb⟩
 ·have g1 : ¬ (l0.length : Int) > 40 := by omega
  have HM : Aside0 (l0.length ≤ 40) := ⟨by omega⟩
  clear g
  by_cases g2 : n > 60 ∧ n ≤ 16777216
  ·obtain ⟨g2, g3⟩ := g2
   go_enter Tryz.func3, Tryz.ntmps3
   go_wp2_with fail
   refine KAwk.awake_c.mono ?_
   rintro e w1 ⟨rfl, hb⟩
   go_wp2
   go_ret
   exact ⟨rfl, hb⟩
  ·obtain ⟨r, ys, P, hB⟩ := KStrB.both l0 HM.out n (by omega)
   have HBo := aMk hB; clear hB
   obtain ⟨ps, hps⟩ : ∃ ps, ps = placesN l0 (l0.map CJoins.jn) l0.length := ⟨_, rfl⟩
   have HPS := aMk hps; clear hps
   rcases (show (n > 60 ∧ ¬ n ≤ 16777216) ∨ ¬ n > 60 by omega) with ⟨g3, g4⟩ | g3
   all_goals
    clear g2
    go_enter Tryz.func3, Tryz.ntmps3
    go_wp2_with (first | (go_at_call 14; refine (CProps.new_c _).mono ?_; rintro e w1 ⟨gp, rfl, hp, hb⟩; have HP1 := aMk hp; have HB1 := aMk hb; clear hp hb) | (go_at_call 15; refine (HBo.out.own _ gp A0 c0 HP1.out (SLk.below H.out HB1.out)).mono ?_; rintro e w2 ⟨u2, v2, l2, rfl, h1, h2, h3, hb⟩; have HU2 := aMk h1; have HV2 := aMk h2; have HL2 := aMk h3; have HB2 := aMk (qbP HB1.out hb); have HP2 := aMk (HP1.out.below hb); clear h1 h2 h3 hb) | (go_at_call 16; refine (HBo.out.ref _ A0 c0 (SLk.below H.out HB2.out)).mono ?_; rintro e w3 ⟨u3, v3, l3, rfl, h1, h2, h3, hb⟩; have HU3 := aMk h1; obtain rfl := HBo.out.uniq _ _ h3 HL2.out; have HV3 := aMk h2; have HU23 := aMk (SLk.below HU2.out hb); have HV23 := aMk (SLk.below HV2.out hb); have HB3 := aMk (qbP HB2.out hb); have HP3 := aMk (HP2.out.below hb); clear h1 h2 h3 hb) | (go_at_call 17; refine (CBase.equal_c HU23.out HU3.out (by have := HBo.out.short; omega)).mono ?_; rintro e w4 ⟨rfl, hb⟩; rw [qdT rfl]; have HV4 := aMk (SLk.below HV3.out hb); have HV24 := aMk (SLk.below HV23.out hb); have HB4 := aMk (qbP HB3.out hb); have HP4 := aMk (HP3.out.below hb); clear hb HU23) | (go_at_call 18; refine (CFin.eq45_c HV24.out HV4.out (HBo.out.few _ HL2.out)).mono ?_; rintro e w5 ⟨rfl, hd⟩; have hb := CFin.drawn0_below hd; have HB5 := aMk (qbP HB4.out hb); have HP5 := aMk (HP4.out.below hb); clear hb hd) | (go_at_call 19; refine (KPlaces.places_c HP5.out (SLk.below H.out HB5.out) (by have := HM.out; omega)).mono ?_; rintro e w6 ⟨u6, rfl, hr, hb⟩; rw [← HPS.out] at hr; have HU6 := aMk (SLk.of_R hr); have HB6 := aMk (qbP HB5.out hb); clear hr hb) | (go_at_call 20; refine (KRefPl.refPlaces_c (SLk.below H.out HB6.out) (by have := HM.out; omega)).mono ?_; rintro e w7 ⟨u7, rfl, hr, hb⟩; rw [← HPS.out] at hr; have HU7 := aMk (SLk.of_R hr); have HU67 := aMk (SLk.below HU6.out hb); have HB7 := aMk (qbP HB6.out hb); clear hr hb) | (go_at_call 17; refine (CBase.equal_c HU67.out HU7.out (by have h1 := KStretch.placesN_le HPS.out; have := HM.out; rw [qlm]; omega)).mono ?_; rintro e w8 ⟨rfl, hb⟩; rw [qdT rfl]; have HB8 := aMk (qbP HB7.out hb); clear hb HU67) | (go_at_call 21; refine (KRank.rank_c code _).mono ?_; rintro e w9 ⟨rfl, hb⟩; have HB8b := aMk (qbP HB8.out hb); clear hb) | (go_at_call 22; refine (KRank.rrank_c code _).mono ?_; rintro e w10 ⟨rfl, hb⟩; have HB8c := aMk (qbP HB8b.out hb); clear hb) | (go_at_call 13; refine KAwk.awake_c.mono ?_; rintro e w11 ⟨rfl, hb⟩; have HB9 := aMk (qbP HB8c.out hb); clear hb))
    go_ret
    exact ⟨rfl, HB9.out⟩
end
end Go.Proofs.YtemhccjjcioodaaGreat
