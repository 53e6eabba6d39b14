/- Texts of this claim, cut to what it needs. -/
import Derived.Deep.LoopGhost
import Derived.Deep.DeepCutAuto
import Derived.Test.YtohhobcipfmkbaaKCSpanA
set_option linter.unusedSimpArgs false
set_option linter.unusedVariables false
namespace Go.Proofs.Ytohhobcipfmkbaa.SpanS
open Go.Shelf Go.RowKit Go.Lib Go.Sort
open Go.Proofs.Ytohhobcipfmkbaa.UStable
variable {P : Program} {α : Type} [Inhabited α]
set_option maxHeartbeats 8000000 in
set_option maxRecDepth 1000000 in
theorem sym_C {k : Nat} (L : SP P k) (enc : α → List Value) (cf : α → α → Int) (g : Nat) (cb : Array Value) (blk off cap sz : Nat) (d0 : Array α) (w0 : World) (R : RowK enc k w0 blk off d0) (hs0 : d0.size = sz) (eg : ∀ args w, (callFunc g args).run P w = .ok (.enter g args) w) (hcmp : CmpLays P g cb enc k cf blk off sz w0) (hsz : sz < 1000000) (f a m b : Nat) (d : Array α) (w : World) (hds : d.size = sz) (S : SWK enc k w0 blk off d w) (ham : a < m) (hmb : m < b) (hb : b ≤ sz) (hf : b - a ≤ f + 1) (c1 : ¬ m - a = 1) (c2 : ¬ b - m = 1) (ih : ∀ (a m b : Nat) (d : Array α) (w : World), d.size = sz → SWK enc k w0 blk off d w → a < m → m < b → b ≤ sz → b - a ≤ f → Calls P 92 #[.slice (some ⟨blk, off, none⟩) sz cap, .int .i64 a, .int .i64 m, .int .i64 b, .func (.func g) #[] cb] w fun e w' => e = .returned (.tuple #[]) ∧ SWK enc k w0 blk off (symMerge (ltOf cf) f a m b d) w') :
 Calls P 92 #[.slice (some ⟨blk, off, none⟩) sz cap, .int .i64 a, .int .i64 m, .int .i64 b, .func (.func g) #[] cb] w fun e w' => e = .returned (.tuple #[]) ∧ SWK enc k w0 blk off (symMerge (ltOf cf) (f + 1) a m b d) w' := by
 have mixed := L.mixed; have t3 := L.t3; have a3 := L.a3; have z3 := L.z3; have t4 := L.t4; have a4 := L.a4; have z4 := L.z4; have t124 := L.t124; have a124 := L.a124; have z124 := L.z124; have tsl := L.tsl; have asl := L.asl; have zsl := L.zsl; have tfn := L.tfn; have afn := L.afn; have zfn := L.zfn; have aE := L.aE; have zE := L.zE
 have S0 : Aside (SWK enc k w0 blk off d w) := S
 have HLL : Aside (SP P k) := L
 have HC : Aside (CmpLays P g cb enc k cf blk off sz w0) := hcmp
 have FG := L.f92
 have IH : Aside (∀ (a m b : Nat) (d : Array α) (w : World), d.size = sz → SWK enc k w0 blk off d w → a < m → m < b → b ≤ sz → b - a ≤ f → Calls P 92 #[.slice (some ⟨blk, off, none⟩) sz cap, .int .i64 a, .int .i64 m, .int .i64 b, .func (.func g) #[] cb] w fun e w' => e = .returned (.tuple #[]) ∧ SWK enc k w0 blk off (symMerge (ltOf cf) f a m b d) w') := ih
 have eRT : ∀ args w, (callFunc 97 args).run P w = .ok (.enter 97 args) w := enters_of L.f97 (by kernel_rfl) rfl
 have eSY : ∀ args w, (callFunc 92 args).run P w = .ok (.enter 92 args) w := enters_of L.f92 (by kernel_rfl) rfl
 clear S L hcmp ih
 have w1 : IntKind.i64.wrap ((m : Int) - (a : Int)) = (m : Int) - (a : Int) := by rw [IntKind.wrap_i64]; omega
 have w2 : IntKind.i64.wrap ((b : Int) - (m : Int)) = (b : Int) - (m : Int) := by rw [IntKind.wrap_i64]; omega
 have c1z : ¬ (m : Int) - (a : Int) = 1 := by omega
 have c1b : ((m : Int) - (a : Int) == 1) = false := by simp; omega
 have c2z : ¬ (b : Int) - (m : Int) = 1 := by omega
 have c2b : ((b : Int) - (m : Int) == 1) = false := by simp; omega
 obtain ⟨mid, hmid⟩ : ∃ mid, mid = (a + b) / 2 := ⟨_, rfl⟩
 have em : ((a : Int) + (b : Int)) / 2 = (mid : Int) := by omega
 obtain ⟨n, hn⟩ : ∃ n, n = mid + m := ⟨_, rfl⟩
 have en : (mid : Int) + (m : Int) = (n : Int) := by omega
 obtain ⟨p, hp⟩ : ∃ p, p = n - 1 := ⟨_, rfl⟩
 have ep : (n : Int) - 1 = (p : Int) := by omega
 obtain ⟨st, hst⟩ : ∃ st, st = startAt (ltOf cf) a m b d := ⟨_, rfl⟩
 obtain ⟨s0, hs0'⟩ : ∃ s0, s0 = if mid < m then n - b else a := ⟨_, rfl⟩
 obtain ⟨r0, hr0⟩ : ∃ r0, r0 = if mid < m then mid else m := ⟨_, rfl⟩
 have HSTA : Aside (bs (fun c => !ltOf cf d[p - c]! d[c]!) s0 r0 = st) := (show _ = _ by
  rw [hst, hs0', hr0, hp, hn, hmid]
  unfold startAt
  by_cases e : (a + b) / 2 < m
  ·rw [if_pos e, if_pos e, if_pos e]
  ·rw [if_neg e, if_neg e, if_neg e])
 have HTT : Aside (symMerge (ltOf cf) (f + 1) a m b d = (
  let d1 := if st < m ∧ m < n - st then rotate st m (n - st) d else d
  let d2 := if a < st ∧ st < mid then symMerge (ltOf cf) f a st mid d1 else d1
  if mid < n - st ∧ n - st < b then symMerge (ltOf cf) f mid (n - st) b d2 else d2)) := (show _ = _ by
  rw [symMerge, if_neg c1, if_neg c2, hn, hst, hmid])
 have hbnd : s0 ≤ r0 ∧ a ≤ s0 ∧ r0 ≤ mid ∧ r0 ≤ m ∧ m ≤ n - r0 ∧ n - s0 ≤ b ∧ mid < b ∧ a < mid ∧ 1 ≤ n := by
  by_cases e : mid < m
  ·rw [if_pos e] at hs0' hr0; omega
  ·rw [if_neg e] at hs0' hr0; omega
 obtain ⟨k1, k2, k3, k4, k5, k6, k7, k8, k9⟩ := hbnd
 have HMN : Aside (mid = (a + b) / 2 ∧ n = mid + m ∧ p = n - 1) := ⟨hmid, hn, hp⟩
 have hpn : p + 1 = n := by omega
 have hn2 : n < 2000000 := by omega
 clear hmid hn hp hst
 go_enter FG, Try.ntmps92
 go_upto_if 140 with (fail)
 go_cut [20, 21] (fun v20 v21 wc => v20 = .int .i64 (s0 : Nat) ∧ v21 = .int .i64 (r0 : Nat) ∧ wc = w)
 case first =>
  by_cases e : mid < m
  ·rw [if_pos e] at hs0' hr0
   have ez : (mid : Int) < (m : Int) := by omega
   have es : (n : Int) - (b : Int) = (s0 : Int) := by omega
   have HA : Aside (r0 = mid) := hr0
   clear hs0' hr0
   go_wp2
   go_meet
   case rel => exact ⟨rfl, by rw [HA.out], rfl⟩
  ·rw [if_neg e] at hs0' hr0
   have ez : ¬ (mid : Int) < (m : Int) := by omega
   have HA : Aside (s0 = a ∧ r0 = m) := ⟨hs0', hr0⟩
   clear hs0' hr0
   go_wp2
   go_meet
   case rel => exact ⟨by rw [HA.out.1], by rw [HA.out.2], rfl⟩
 case rest =>
  obtain ⟨rfl, rfl, rfl⟩ := hcut
  clear hs0' hr0
  go_wp2_with fail
  go_loopg [20, 21] (r0 - s0) (fun kx v10 v11 wr => ∃ (i j : Nat), v10 = .int .i64 i ∧ v11 = .int .i64 j ∧ s0 ≤ i ∧ i ≤ j ∧ j ≤ r0 ∧ j - i ≤ kx ∧ Aside (SWK enc k w0 blk off d wr) ∧ Aside (bs (fun c => !ltOf cf d[p - c]! d[c]!) i j = st))
  case atStart => exact ⟨s0, r0, rfl, rfl, Nat.le_refl _, k1, Nat.le_refl _, Nat.le_refl _, S0, HSTA.out⟩
  case round =>
   clear S0
   obtain ⟨i, j, rfl, rfl, hi, hij, hj, hkx, S1, heq⟩ := hrel
   by_cases hlt : i < j
   ·have hltz : (i : Int) < (j : Int) := by omega
    obtain ⟨h, hh⟩ : ∃ h, h = (i + j) / 2 := ⟨_, rfl⟩
    have eh : ((i : Int) + (j : Int)) / 2 = (h : Int) := by omega
    have hst := heq.out
    rw [bs_step _ _ _ hlt, ← hh] at hst
    have hh1 : i ≤ h ∧ h < j := by omega
    obtain ⟨hh1, hh2⟩ := hh1
    obtain ⟨q, hq⟩ : ∃ q, q = p - h := ⟨_, rfl⟩
    rw [← hq] at hst
    have hqp : q + h = p := by omega
    have xx1 : (h : Int) ≤ (p : Int) := by omega
    have xx2 : ¬ (p : Int) < (h : Int) := by omega
    have xx3 : p - h = q := by omega
    have xx4 : (p : Int) - (h : Int) < (sz : Int) := by omega
    have xx5 : (p : Int) < (sz : Int) + (h : Int) := by omega
    have xx6 : p - h < sz := by omega
    have xx7 : ¬ (p : Int) - (h : Int) < 0 := by omega
    have hhs : h < sz := by omega
    have hqs : q < sz := by omega
    clear hh hq
    go_wp2_with fail
    try rw [eh]
    cases hL : ltOf cf d[q]! d[h]! with
    | false =>
     rw [if_pos (by rw [hL]; rfl)] at hst
     have HST : Aside _ := hst
     clear hst
     have ea35 : (((p : Int) - (h : Int))).toNat = q := by omega
     have pa35 : (0 : Int) ≤ ((p : Int) - (h : Int)) := by omega
     have ba35 : ((p : Int) - (h : Int)) < (sz : Int) := by omega
     have ra35 : IntKind.i64.wrap ((p : Int) - (h : Int)) = ((p : Int) - (h : Int)) := by rw [IntKind.wrap_i64]; omega
     have ec35 : ((h : Int)).toNat = h := by omega
     have pc35 : (0 : Int) ≤ (h : Int) := by omega
     have bc35 : (h : Int) < (sz : Int) := by omega
     have rc35 : IntKind.i64.wrap (h : Int) = (h : Int) := by rw [IntKind.wrap_i64]; omega
     obtain ⟨x35, hx35⟩ : ∃ x, x = d[q]! := ⟨_, rfl⟩
     obtain ⟨y35, hy35⟩ : ∃ x, x = d[h]! := ⟨_, rfl⟩
     have l35a := S1.out.ld R (by omega) P q (by omega)
     have l35b := S1.out.ld R (by omega) P h (by omega)
     rw [← hx35] at l35a
     rw [← hy35] at l35b
     have hc35 := S1.out.cmp HC.out (by omega) x35 y35
     have hv35 : ¬ cf x35 y35 < 0 := by rw [hx35, hy35]; exact of_decide_eq_false hL
     have hd35 : decide (cf x35 y35 < 0) = false := decide_eq_false hv35
     clear hx35 hy35
     go_wp2_with fail
     go_quiet_grown (first | (go_at_fn g; refine Calls.grown_of (hc35 _ _)))
     have S2 : Aside (SWK enc k w0 blk off d (grow (wr.drewN nq) osq)) := S1.out.grown nq osq
     clear l35a l35b hc35 S1
     generalize grow (wr.drewN nq) osq = w2 at S2 ⊢
     clear nq osq
     go_wp2
     go_roundg (j - (h + 1))
     case measure => omega
     case rel => exact ⟨h + 1, j, by first | rfl | go_num, rfl, by omega, by omega, hj, Nat.le_refl _, S2, HST⟩
    | true =>
     rw [if_neg (by rw [hL]; simp)] at hst
     have HST : Aside _ := hst
     clear hst
     have ea35 : (((p : Int) - (h : Int))).toNat = q := by omega
     have pa35 : (0 : Int) ≤ ((p : Int) - (h : Int)) := by omega
     have ba35 : ((p : Int) - (h : Int)) < (sz : Int) := by omega
     have ra35 : IntKind.i64.wrap ((p : Int) - (h : Int)) = ((p : Int) - (h : Int)) := by rw [IntKind.wrap_i64]; omega
     have ec35 : ((h : Int)).toNat = h := by omega
     have pc35 : (0 : Int) ≤ (h : Int) := by omega
     have bc35 : (h : Int) < (sz : Int) := by omega
     have rc35 : IntKind.i64.wrap (h : Int) = (h : Int) := by rw [IntKind.wrap_i64]; omega
     obtain ⟨x35, hx35⟩ : ∃ x, x = d[q]! := ⟨_, rfl⟩
     obtain ⟨y35, hy35⟩ : ∃ x, x = d[h]! := ⟨_, rfl⟩
     have l35a := S1.out.ld R (by omega) P q (by omega)
     have l35b := S1.out.ld R (by omega) P h (by omega)
     rw [← hx35] at l35a
     rw [← hy35] at l35b
     have hc35 := S1.out.cmp HC.out (by omega) x35 y35
     have hv35 : cf x35 y35 < 0 := by rw [hx35, hy35]; exact of_decide_eq_true hL
     have hd35 : decide (cf x35 y35 < 0) = true := decide_eq_true hv35
     clear hx35 hy35
     go_wp2_with fail
     go_quiet_grown (first | (go_at_fn g; refine Calls.grown_of (hc35 _ _)))
     have S2 : Aside (SWK enc k w0 blk off d (grow (wr.drewN nq) osq)) := S1.out.grown nq osq
     clear l35a l35b hc35 S1
     generalize grow (wr.drewN nq) osq = w2 at S2 ⊢
     clear nq osq
     go_wp2
     go_roundg (h - i)
     case measure => omega
     case rel => exact ⟨i, h, rfl, rfl, hi, hh1, by omega, Nat.le_refl _, S2, HST⟩
   ·have hij2 : i = j := by omega
    subst hij2
    have hst := heq.out
    rw [bs_stop _ _ _ hlt] at hst
    subst hst
    obtain ⟨en', hen⟩ : ∃ en', en' = n - i := ⟨_, rfl⟩
    have een : (n : Int) - (i : Int) = (en' : Int) := by omega
    have HTT2 : Aside (symMerge (ltOf cf) (f + 1) a m b d = (
     let d1 := if i < m ∧ m < en' then rotate i m en' d else d
     let d2 := if a < i ∧ i < mid then symMerge (ltOf cf) f a i mid d1 else d1
     if mid < en' ∧ en' < b then symMerge (ltOf cf) f mid en' b d2 else d2)) := (show _ = _ by rw [HTT.out, hen])
    have hbnd : a ≤ i ∧ i ≤ mid ∧ i ≤ m ∧ m ≤ en' ∧ mid ≤ en' ∧ en' ≤ b := by have := HMN.out.2.1; omega
    obtain ⟨l1, l2, l3, l4, l5, l6⟩ := hbnd
    have HHF : Aside (b - a ≤ f + 1 ∧ ¬ m - a = 1 ∧ ¬ b - m = 1 ∧ mid = (a + b) / 2) := ⟨hf, c1, c2, HMN.out.1⟩
    clear hen heq HTT k1 k2 k3 k4 k5 k6 hpn c1 c2 c1z c2z c1b c2b em en ep hi hj hkx
    go_upto_region 38 with (fail)
    iterate 5 ((repeat (first | go_values | go_skip | go_guarded | ((fail_if_success go_at_K); go_step) | go_upon)); go_step)
    go_step
    go_cut [18] (fun v18 wc => v18 = .int .i64 (mid : Nat) ∧ ∃ d1 : Array α, d1.size = sz ∧ Aside (SWK enc k w0 blk off d1 wc) ∧ Aside (d1 = if i < m ∧ m < en' then rotate i m en' d else d))
    case first =>
     by_cases e1 : i < m
     ·have e1z : (i : Int) < (m : Int) := by omega
      by_cases e2 : m < en'
      ·have e2z : (m : Int) < (en' : Int) := by omega
       have hrot := rotate_c HLL.out enc g cb blk off cap d0 d w0 _ R (hs0.trans hds.symm) S1.out (by omega) i m en' e1 e2 (by omega)
       rw [hds] at hrot
       have HROT : Aside (Calls P 97 _ _ _) := hrot
       have hrs : (rotate i m en' d).size = sz := (rotate_is i m en' d e1 e2 (by omega)).perm.1.trans hds
       have HE : Aside (i < m ∧ m < en') := ⟨e1, e2⟩
       clear hrot e1 e2
       go_wp2_with (go_at_fn 97; refine HROT.out.mono ?_; rintro e w9 ⟨rfl, hS⟩; have S9 : Aside (SWK enc k w0 blk off (rotate i m en' d) w9) := hS; clear hS)
       go_meet
       case rel => exact ⟨rfl, _, hrs, S9, (show _ = _ by rw [if_pos HE.out])⟩
      ·have e2z : ¬ (m : Int) < (en' : Int) := by omega
       have HE : Aside (¬ (i < m ∧ m < en')) := fun h => e2 h.2
       clear e1 e2
       go_wp2
       go_meet
       case rel => exact ⟨rfl, d, hds, S1, (show _ = _ by rw [if_neg HE.out])⟩
     ·have e1z : ¬ (i : Int) < (m : Int) := by omega
      have HE : Aside (¬ (i < m ∧ m < en')) := fun h => e1 h.1
      clear e1
      go_wp2
      go_meet
      case rel => exact ⟨rfl, d, hds, S1, (show _ = _ by rw [if_neg HE.out])⟩
    case rest =>
     clear S1
     obtain ⟨rfl, d1, hd1, S1, HD1⟩ := hcut
     go_step
     go_step
     go_cut [18] (fun v18 wc => v18 = .int .i64 (mid : Nat) ∧ ∃ d2 : Array α, d2.size = sz ∧ Aside (SWK enc k w0 blk off d2 wc) ∧ Aside (d2 = if a < i ∧ i < mid then symMerge (ltOf cf) f a i mid d1 else d1))
     case first =>
      by_cases e1 : a < i
      ·have e1z : (a : Int) < (i : Int) := by omega
       by_cases e2 : i < mid
       ·have e2z : (i : Int) < (mid : Int) := by omega
        have HRC : Aside (Calls P 92 _ _ _) := IH.out a i mid d1 _ hd1 S1.out e1 e2 (by omega) (by have := HHF.out; omega)
        have hrs : Aside ((symMerge (ltOf cf) f a i mid d1).size = sz) := (symMerge_size _ _ _ _ _ _).trans hd1
        have HE : Aside (a < i ∧ i < mid) := ⟨e1, e2⟩
        clear e1 e2
        go_wp2_with (go_at_fn 92; refine HRC.out.mono ?_; rintro e w9 ⟨rfl, hS⟩; have S9 : Aside (SWK enc k w0 blk off (symMerge (ltOf cf) f a i mid d1) w9) := hS; clear hS)
        go_meet
        case rel => exact ⟨rfl, _, hrs.out, S9, (show _ = _ by rw [if_pos HE.out])⟩
       ·have e2z : ¬ (i : Int) < (mid : Int) := by omega
        have HE : Aside (¬ (a < i ∧ i < mid)) := fun h => e2 h.2
        clear e1 e2
        go_wp2
        go_meet
        case rel => exact ⟨rfl, d1, hd1, S1, (show _ = _ by rw [if_neg HE.out])⟩
      ·have e1z : ¬ (a : Int) < (i : Int) := by omega
       have HE : Aside (¬ (a < i ∧ i < mid)) := fun h => e1 h.1
       clear e1
       go_wp2
       go_meet
       case rel => exact ⟨rfl, d1, hd1, S1, (show _ = _ by rw [if_neg HE.out])⟩
     case rest =>
      clear S1
      obtain ⟨rfl, d2, hd2, S1, HD2⟩ := hcut
      have hgoal : ∀ d3, d3 = (if mid < en' ∧ en' < b then symMerge (ltOf cf) f mid en' b d2 else d2) → symMerge (ltOf cf) (f + 1) a m b d = d3 := fun d3 h => by
       rw [HTT2.out, h]
       dsimp only
       rw [← HD1.out, ← HD2.out]
      have HGO : Aside _ := hgoal
      clear hgoal
      by_cases e1 : mid < en'
      ·have e1z : (mid : Int) < (en' : Int) := by omega
       by_cases e2 : en' < b
       ·have e2z : (en' : Int) < (b : Int) := by omega
        have HRC : Aside (Calls P 92 _ _ _) := IH.out mid en' b d2 _ hd2 S1.out e1 e2 hb (by have := HHF.out; omega)
        go_wp2_with (go_at_fn 92; refine HRC.out.mono ?_; rintro e w9 ⟨rfl, hS⟩; have S9 : Aside (SWK enc k w0 blk off (symMerge (ltOf cf) f mid en' b d2) w9) := hS; clear hS)
        go_end0
        exact ⟨rfl, by rw [HGO.out _ (by rw [if_pos ⟨e1, e2⟩])]; exact S9.out⟩
       ·have e2z : ¬ (en' : Int) < (b : Int) := by omega
        go_wp2
        go_end0
        exact ⟨rfl, by rw [HGO.out _ (by rw [if_neg (fun h => e2 h.2)])]; exact S1.out⟩
      ·have e1z : ¬ (mid : Int) < (en' : Int) := by omega
       go_wp2
       go_end0
       exact ⟨rfl, by rw [HGO.out _ (by rw [if_neg (fun h => e1 h.1)])]; exact S1.out⟩
theorem sym_c {k : Nat} (L : SP P k) (enc : α → List Value) (cf : α → α → Int) (g : Nat) (cb : Array Value) (blk off cap sz : Nat) (d0 : Array α) (w0 : World) (R : RowK enc k w0 blk off d0) (hs0 : d0.size = sz) (eg : ∀ args w, (callFunc g args).run P w = .ok (.enter g args) w) (hcmp : CmpLays P g cb enc k cf blk off sz w0) (hsz : sz < 1000000) (f : Nat) : ∀ (a m b : Nat) (d : Array α) (w : World), d.size = sz → SWK enc k w0 blk off d w → a < m → m < b → b ≤ sz → b - a ≤ f → Calls P 92 #[.slice (some ⟨blk, off, none⟩) sz cap, .int .i64 a, .int .i64 m, .int .i64 b, .func (.func g) #[] cb] w fun e w' => e = .returned (.tuple #[]) ∧ SWK enc k w0 blk off (symMerge (ltOf cf) f a m b d) w' := by
 induction f with
 | zero => intro a m b d w h1 h2 h3 h4 h5 h6; omega
 | succ f ih =>
  intro a m b d w hds S ham hmb hb hf
  by_cases c1 : m - a = 1
  ·exact sym_A L enc cf g cb blk off cap sz d0 w0 R hs0 eg hcmp hsz f a m b d w hds S ham hmb hb c1
  ·by_cases c2 : b - m = 1
   ·exact sym_B L enc cf g cb blk off cap sz d0 w0 R hs0 eg hcmp hsz f a m b d w hds S ham hmb hb c1 c2
   ·exact sym_C L enc cf g cb blk off cap sz d0 w0 R hs0 eg hcmp hsz f a m b d w hds S ham hmb hb hf c1 c2 ih
end Go.Proofs.Ytohhobcipfmkbaa.SpanS
