/- Texts of this claim, cut to what it needs. -/
import Derived.Shelf.SlSortCmp.WholeK
import Derived.Shelf.SlSortCmp.NoneTotal
import Derived.Shelf.SlSortCmp.KitK
import Derived.Sort.WalkB2
import Derived.Sort.WalkB12
import Derived.Deep.LoopGhost
import Derived.Deep.DeepCutAuto
import Derived.Ground.SlsfProg
import Derived.Test.YtohhobcipfmkbaaProg
import Derived.Test.YtohhobcipfmkbaaKUStable
set_option linter.unusedSimpArgs false
set_option linter.unusedVariables false
namespace Go.Proofs.Ytohhobcipfmkbaa.SpanS
open Go.Shelf Go.RowKit Go.Lib Go.Sort
open Go.Proofs.Ytohhobcipfmkbaa.UStable
variable {P : Program} {α : Type} [Inhabited α]
structure SP (P : Program) (k : Nat) : Prop where
 mixed : P.follows .mixedOrders = true
 f101 : P.funcs[101]? = some Try.f101
 f97 : P.funcs[97]? = some Try.f97
 f92 : P.funcs[92]? = some Try.f92
 t0 : P.underlying 0 = some (TypeDesc.tuple #[])
 a0 : ∀ w, (isAgg 0).run P w = .ok false w
 z0 : ∀ w, (Go.sizeOf 0).run P w = .ok 1 w
 v0 : ∀ w, (zeroValue 0).run P w = .ok (Value.tuple #[]) w
 t3 : P.underlying 3 = some (TypeDesc.int IntKind.i64)
 a3 : ∀ w, (isAgg 3).run P w = .ok false w
 z3 : ∀ w, (Go.sizeOf 3).run P w = .ok 1 w
 t4 : P.underlying 4 = some TypeDesc.bool
 a4 : ∀ w, (isAgg 4).run P w = .ok false w
 z4 : ∀ w, (Go.sizeOf 4).run P w = .ok 1 w
 t124 : P.underlying 124 = some (TypeDesc.int IntKind.u64)
 a124 : ∀ w, (isAgg 124).run P w = .ok false w
 z124 : ∀ w, (Go.sizeOf 124).run P w = .ok 1 w
 tsl : P.underlying 49 = some (TypeDesc.slice 33)
 asl : ∀ w, (isAgg 49).run P w = .ok false w
 zsl : ∀ w, (Go.sizeOf 49).run P w = .ok 1 w
 tfn : P.underlying 79 = some (TypeDesc.func #[33, 33] #[3] false)
 afn : ∀ w, (isAgg 79).run P w = .ok false w
 zfn : ∀ w, (Go.sizeOf 79).run P w = .ok 1 w
 aE : ∀ w, (isAgg 33).run P w = .ok true w
 zE : ∀ w, (Go.sizeOf 33).run P w = .ok k w
set_option maxHeartbeats 4000000 in
set_option maxRecDepth 1000000 in
theorem swapRange_c {k : Nat} (L : SP P k) (enc : α → List Value) (g : Nat) (cb : Array Value) (blk off cap : Nat) (d0 d : Array α) (w0 w : World) (R : RowK enc k w0 blk off d0) (hs : d0.size = d.size) (S : SWK enc k w0 blk off d w) (hsz : d.size < 1000000) (a b n : Nat) (hab : a + n ≤ b) (hb : b + n ≤ d.size) :
 Calls P 101 #[.slice (some ⟨blk, off, none⟩) d.size cap, .int .i64 a, .int .i64 b, .int .i64 n, .func (.func g) #[] cb] w fun e w' => e = .returned (.tuple #[]) ∧ SWK enc k w0 blk off (swapRange a b n d) w' := by
 have mixed := L.mixed; have t3 := L.t3; have a3 := L.a3; have z3 := L.z3; have t4 := L.t4; have a4 := L.a4; have z4 := L.z4; have t124 := L.t124; have a124 := L.a124; have z124 := L.z124; have tsl := L.tsl; have asl := L.asl; have zsl := L.zsl; have tfn := L.tfn; have afn := L.afn; have zfn := L.zfn; have aE := L.aE; have zE := L.zE
 have S0 : Aside (SWK enc k w0 blk off d w) := S
 have FG := L.f101
 clear S
 go_enter FG, Try.ntmps101
 go_wp2
 go_loopg [10] n (fun kx v wr => ∃ (i : Nat) (dk : Array α), v = .int .i64 i ∧ i ≤ n ∧ n - i ≤ kx ∧ dk.size = d.size ∧ Aside (SWK enc k w0 blk off dk wr) ∧ Aside (dk = swapRange a b i d))
 case atStart => exact ⟨0, d, rfl, Nat.zero_le _, Nat.le_refl _, rfl, S0, (rfl : d = _)⟩
 case round =>
  clear S0
  obtain ⟨i, dk, rfl, hi, hkx, hds, S1, heq⟩ := hrel
  by_cases hlt : i < n
  ·have hltz : (i : Int) < (n : Int) := by omega
   have w1 : IntKind.i64.wrap ((a : Int) + (i : Int)) = ((a + i : Nat) : Int) := by rw [IntKind.wrap_i64]; omega
   have w2 : IntKind.i64.wrap ((b : Int) + (i : Int)) = ((b + i : Nat) : Int) := by rw [IntKind.wrap_i64]; omega
   obtain ⟨p, hp⟩ : ∃ p, p = a + i := ⟨_, rfl⟩
   obtain ⟨q, hq⟩ : ∃ q, q = b + i := ⟨_, rfl⟩
   rw [← hp] at w1
   rw [← hq] at w2
   have HPQ : Aside (p = a + i ∧ q = b + i) := ⟨hp, hq⟩
   have hpq : p < d.size ∧ q < d.size := by omega
   obtain ⟨hpd, hqd⟩ := hpq
   clear hp hq
   go_wp2_with fail
   have ea44 : ((p : Int) : Int).toNat = p := by omega
   have pa44 : (0 : Int) ≤ (p : Int) := by omega
   have ba44 : (p : Int) < (d.size : Int) := by omega
   have ec44 : ((q : Int) : Int).toNat = q := by omega
   have pc44 : (0 : Int) ≤ (q : Int) := by omega
   have bc44 : (q : Int) < (d.size : Int) := by omega
   have S2 : Aside (SWK enc k w0 blk off (swp dk p q) ((wr.drew.setCells blk (off + p * k) (enc dk[q]!)).setCells blk (off + q * k) (enc dk[p]!))) := S1.out.swapped R p q (by omega) (by omega)
   have l44a := S1.out.ld1 R (by omega) P p (by omega)
   have l44b := S1.out.ld1 R (by omega) P q (by omega)
   have s44a := S1.out.st1 R (by omega) P p (by omega) dk[q]!
   have s44b := S1.out.st2 R (by omega) P p q (by omega) (by omega) dk[q]! dk[p]!
   have n44a : (enc dk[p]!).length = k := R.hk _
   have n44b : (enc dk[q]!).length = k := R.hk _
   generalize enc dk[p]! = cI44 at S2 l44a s44b n44a
   generalize enc dk[q]! = cJ44 at S2 l44b s44a s44b n44b
   clear S1
   go_wp2_with fail
   go_big_region_o
   clear l44a l44b s44a s44b
   generalize (wr.drew.setCells blk (off + p * k) cJ44).setCells blk (off + q * k) cI44 = w2 at S2 ⊢
   go_wp2
   go_roundg (n - (i + 1))
   case measure => omega
   case rel => exact ⟨i + 1, swp dk p q, by go_num, by omega, Nat.le_refl _, by rw [size_swp]; exact hds, S2, (show _ = _ by rw [swapRange, ← heq.out, HPQ.out.1, HPQ.out.2])⟩
  ·have ei : i = n := by omega
   subst ei
   go_wp2
   go_end0
   exact ⟨rfl, by rw [← heq.out]; exact S1.out⟩
theorem rotLoop_fuel (m : Nat) (f : Nat) : ∀ (g i j : Nat) (d : Array α), 0 < i → 0 < j → i + j ≤ f → i + j ≤ g → rotLoop m f i j d = rotLoop m g i j d := by
 induction f with
 | zero => intro g i j d h1 h2 h3; omega
 | succ f ih =>
  intro g i j d h1 h2 h3 h4
  obtain ⟨g, rfl⟩ : ∃ g', g = g' + 1 := ⟨g - 1, by omega⟩
  unfold rotLoop
  by_cases e : i = j
  ·rw [if_pos e, if_pos e]
  ·rw [if_neg e, if_neg e]
   by_cases e2 : j < i
   ·rw [if_pos e2, if_pos e2]; exact ih g _ _ _ (by omega) h2 (by omega) (by omega)
   ·rw [if_neg e2, if_neg e2]; exact ih g _ _ _ h1 (by omega) (by omega) (by omega)
theorem rot_step (m i j : Nat) (d : Array α) (h1 : 0 < i) (h2 : 0 < j) : rotLoop m (i + j) i j d = if i = j then swapRange (m - i) m i d else if j < i then rotLoop m (i - j + j) (i - j) j (swapRange (m - i) m j d) else rotLoop m (i + (j - i)) i (j - i) (swapRange (m - i) (m + j - i) i d) := by
 obtain ⟨f, hf⟩ : ∃ f, i + j = f + 1 := ⟨i + j - 1, by omega⟩
 rw [hf, rotLoop]
 by_cases e : i = j
 ·rw [if_pos e, if_pos e]
 ·rw [if_neg e, if_neg e]
  by_cases e2 : j < i
  ·rw [if_pos e2, if_pos e2]; exact rotLoop_fuel m _ _ _ _ _ (by omega) h2 (by omega) (by omega)
  ·rw [if_neg e2, if_neg e2]; exact rotLoop_fuel m _ _ _ _ _ h1 (by omega) (by omega) (by omega)
set_option maxHeartbeats 4000000 in
set_option maxRecDepth 1000000 in
theorem rotate_c {k : Nat} (L : SP P k) (enc : α → List Value) (g : Nat) (cb : Array Value) (blk off cap : Nat) (d0 d : Array α) (w0 w : World) (R : RowK enc k w0 blk off d0) (hs : d0.size = d.size) (S : SWK enc k w0 blk off d w) (hsz : d.size < 1000000) (a m b : Nat) (ham : a < m) (hmb : m < b) (hb : b ≤ d.size) :
 Calls P 97 #[.slice (some ⟨blk, off, none⟩) d.size cap, .int .i64 a, .int .i64 m, .int .i64 b, .func (.func g) #[] cb] w fun e w' => e = .returned (.tuple #[]) ∧ SWK enc k w0 blk off (rotate a m b d) w' := by
 have mixed := L.mixed; have t3 := L.t3; have a3 := L.a3; have z3 := L.z3; have t4 := L.t4; have a4 := L.a4; have z4 := L.z4; have t124 := L.t124; have a124 := L.a124; have z124 := L.z124; have tsl := L.tsl; have asl := L.asl; have zsl := L.zsl; have tfn := L.tfn; have afn := L.afn; have zfn := L.zfn; have aE := L.aE; have zE := L.zE
 have S0 : Aside (SWK enc k w0 blk off d w) := S
 have HLL : Aside (SP P k) := L
 have FG := L.f97
 have eSW : ∀ args w, (callFunc 101 args).run P w = .ok (.enter 101 args) w := enters_of L.f101 (by kernel_rfl) rfl
 have w1 : IntKind.i64.wrap ((m : Int) - (a : Int)) = ((m - a : Nat) : Int) := by rw [IntKind.wrap_i64]; omega
 have w2 : IntKind.i64.wrap ((b : Int) - (m : Int)) = ((b - m : Nat) : Int) := by rw [IntKind.wrap_i64]; omega
 obtain ⟨p, hp⟩ : ∃ p, p = m - a := ⟨_, rfl⟩
 obtain ⟨q, hq⟩ : ∃ q, q = b - m := ⟨_, rfl⟩
 rw [← hp] at w1
 rw [← hq] at w2
 have HT : Aside (rotate a m b d = rotLoop m (p + q) p q d) := (show _ = _ by rw [hp, hq]; rfl)
 have h0 : 0 < p ∧ 0 < q ∧ p ≤ m ∧ m + q ≤ d.size := by omega
 obtain ⟨p0, q0, pm, qm⟩ := h0
 clear S hp hq L
 go_enter FG, Try.ntmps97
 go_wp2
 go_loopg [10, 11] (p + q) (fun kx v10 v11 wr => ∃ (i j : Nat) (dk : Array α), v10 = .int .i64 i ∧ v11 = .int .i64 j ∧ 0 < i ∧ 0 < j ∧ i ≤ m ∧ m + j ≤ d.size ∧ i + j ≤ kx ∧ dk.size = d.size ∧ Aside (SWK enc k w0 blk off dk wr) ∧ Aside (rotLoop m (i + j) i j dk = rotLoop m (p + q) p q d))
 case atStart => exact ⟨p, q, d, rfl, rfl, p0, q0, pm, qm, Nat.le_refl _, rfl, S0, (rfl : rotLoop m (p + q) p q d = _)⟩
 case round =>
  clear S0 p0 q0 pm qm w1 w2
  obtain ⟨i, j, dk, rfl, rfl, i0, j0, im, jm, hkx, hds, S1, heq⟩ := hrel
  have hst := heq.out
  rw [rot_step m i j dk i0 j0] at hst
  have w1 : IntKind.i64.wrap ((m : Int) - (i : Int)) = ((m - i : Nat) : Int) := by rw [IntKind.wrap_i64]; omega
  obtain ⟨mi, hmi⟩ : ∃ mi, mi = m - i := ⟨_, rfl⟩
  rw [← hmi] at w1 hst
  have HMI : Aside (mi = m - i) := hmi
  have hmb2 : mi + i = m := by omega
  clear hmi
  by_cases e : i = j
  ·subst e
   rw [if_pos rfl] at hst
   have HST : Aside _ := hst
   have hsw := fun W hW => swapRange_c HLL.out enc g cb blk off cap d0 dk w0 W R (hs.trans hds.symm) hW (by rw [hds]; exact hsz) mi m i (by omega) (by rw [hds]; exact jm)
   rw [hds] at hsw
   have HSW : Aside _ := hsw
   clear hst hsw
   go_wp2_with (go_at_fn 101; refine (HSW.out _ S1.out).mono ?_; rintro e w9 ⟨rfl, hS⟩)
   go_end0
   exact ⟨rfl, by rw [HT.out, ← HST.out]; exact hS⟩
  ·have en : ((i : Int) != (j : Int)) = true := by simp; omega
   rw [if_neg e] at hst
   by_cases e2 : j < i
   ·have e2z : (j : Int) < (i : Int) := by omega
    rw [if_pos e2] at hst
    have HST : Aside _ := hst
    have hsw := fun W hW => swapRange_c HLL.out enc g cb blk off cap d0 dk w0 W R (hs.trans hds.symm) hW (by rw [hds]; exact hsz) mi m j (by omega) (by rw [hds]; exact jm)
    rw [hds] at hsw
    have HSW : Aside _ := hsw
    have w3 : IntKind.i64.wrap ((i : Int) - (j : Int)) = ((i - j : Nat) : Int) := by rw [IntKind.wrap_i64]; omega
    clear hst hsw
    go_wp2_with (go_at_fn 101; refine (HSW.out _ S1.out).mono ?_; rintro e w9 ⟨rfl, hS⟩; have S9 : Aside (SWK enc k w0 blk off (swapRange mi m j dk) w9) := hS; clear hS)
    go_roundg (i - j + j)
    case measure => omega
    case rel => exact ⟨i - j, j, swapRange mi m j dk, by first | rfl | go_num, rfl, by omega, j0, by omega, jm, Nat.le_refl _, by rw [swapRange_size]; exact hds, S9, HST⟩
   ·have e2z : ¬ (j : Int) < (i : Int) := by omega
    rw [if_neg e2] at hst
    have HST : Aside _ := hst
    have w4 : IntKind.i64.wrap ((m : Int) + (j : Int)) = ((m + j : Nat) : Int) := by rw [IntKind.wrap_i64]; omega
    have w5 : IntKind.i64.wrap (((m + j : Nat) : Int) - (i : Int)) = ((m + j - i : Nat) : Int) := by rw [IntKind.wrap_i64]; omega
    obtain ⟨mj, hmj⟩ : ∃ mj, mj = m + j := ⟨_, rfl⟩
    obtain ⟨mji, hmji⟩ : ∃ mji, mji = m + j - i := ⟨_, rfl⟩
    rw [← hmji] at w5 hst HST
    rw [← hmj] at w4 w5
    have hsw := fun W hW => swapRange_c HLL.out enc g cb blk off cap d0 dk w0 W R (hs.trans hds.symm) hW (by rw [hds]; exact hsz) mi mji i (by omega) (by rw [hds]; omega)
    rw [hds] at hsw
    have HSW : Aside _ := hsw
    have w3 : IntKind.i64.wrap ((j : Int) - (i : Int)) = ((j - i : Nat) : Int) := by rw [IntKind.wrap_i64]; omega
    clear hst hsw hmj hmji
    go_wp2_with (go_at_fn 101; refine (HSW.out _ S1.out).mono ?_; rintro e w9 ⟨rfl, hS⟩; have S9 : Aside (SWK enc k w0 blk off (swapRange mi mji i dk) w9) := hS; clear hS)
    go_roundg (i + (j - i))
    case measure => omega
    case rel => exact ⟨i, j - i, swapRange mi mji i dk, rfl, by first | rfl | go_num, i0, by omega, im, by omega, Nat.le_refl _, by rw [swapRange_size]; exact hds, S9, HST⟩
theorem rotLoop_size (m : Nat) (f : Nat) : ∀ (i j : Nat) (d : Array α), (rotLoop m f i j d).size = d.size := by
 induction f with
 | zero => intro i j d; rfl
 | succ f ih =>
  intro i j d
  unfold rotLoop
  split
  ·exact swapRange_size _ _ _ _
  ·split
   ·rw [ih, swapRange_size]
   ·rw [ih, swapRange_size]
theorem symMerge_size (lt : α → α → Bool) (f : Nat) : ∀ (a m b : Nat) (d : Array α), (symMerge lt f a m b d).size = d.size := by
 induction f with
 | zero => intro a m b d; rfl
 | succ f ih =>
  intro a m b d
  unfold symMerge
  split
  ·exact bubUp_size _ _ _
  ·split
   ·exact bubDown_size _ _ _
   ·dsimp only
    have h1 : (if startAt lt a m b d < m ∧ m < (a + b) / 2 + m - startAt lt a m b d then rotate (startAt lt a m b d) m ((a + b) / 2 + m - startAt lt a m b d) d else d).size = d.size := by
     split
     ·exact rotLoop_size _ _ _ _ _
     ·rfl
    generalize (if startAt lt a m b d < m ∧ m < (a + b) / 2 + m - startAt lt a m b d then rotate (startAt lt a m b d) m ((a + b) / 2 + m - startAt lt a m b d) d else d) = d1 at h1
    have h2 : (if a < startAt lt a m b d ∧ startAt lt a m b d < (a + b) / 2 then symMerge lt f a (startAt lt a m b d) ((a + b) / 2) d1 else d1).size = d.size := by
     split
     ·rw [ih, h1]
     ·exact h1
    generalize (if a < startAt lt a m b d ∧ startAt lt a m b d < (a + b) / 2 then symMerge lt f a (startAt lt a m b d) ((a + b) / 2) d1 else d1) = d2 at h2
    split
    ·rw [ih, h2]
    ·exact h2
end Go.Proofs.Ytohhobcipfmkbaa.SpanS
namespace Go.Proofs.Ytohhobcipfmkbaa.SpanS
open Go.Shelf Go.RowKit Go.Lib Go.Sort
open Go.Proofs.Ytohhobcipfmkbaa.UStable
variable {P : Program} {α : Type} [Inhabited α]
set_option maxHeartbeats 8000000 in
set_option maxRecDepth 1000000 in
theorem sym_A {k : Nat} (L : SP P k) (enc : α → List Value) (cf : α → α → Int) (g : Nat) (cb : Array Value) (blk off cap sz : Nat) (d0 : Array α) (w0 : World) (R : RowK enc k w0 blk off d0) (hs0 : d0.size = sz) (eg : ∀ args w, (callFunc g args).run P w = .ok (.enter g args) w) (hcmp : CmpLays P g cb enc k cf blk off sz w0) (hsz : sz < 1000000) (f a m b : Nat) (d : Array α) (w : World) (hds : d.size = sz) (S : SWK enc k w0 blk off d w) (ham : a < m) (hmb : m < b) (hb : b ≤ sz) (c1 : m - a = 1) :
 Calls P 92 #[.slice (some ⟨blk, off, none⟩) sz cap, .int .i64 a, .int .i64 m, .int .i64 b, .func (.func g) #[] cb] w fun e w' => e = .returned (.tuple #[]) ∧ SWK enc k w0 blk off (symMerge (ltOf cf) (f + 1) a m b d) w' := by
 have mixed := L.mixed; have t3 := L.t3; have a3 := L.a3; have z3 := L.z3; have t4 := L.t4; have a4 := L.a4; have z4 := L.z4; have t124 := L.t124; have a124 := L.a124; have z124 := L.z124; have tsl := L.tsl; have asl := L.asl; have zsl := L.zsl; have tfn := L.tfn; have afn := L.afn; have zfn := L.zfn; have aE := L.aE; have zE := L.zE
 have S0 : Aside (SWK enc k w0 blk off d w) := S
 have HLL : Aside (SP P k) := L
 have HC : Aside (CmpLays P g cb enc k cf blk off sz w0) := hcmp
 have FG := L.f92
 clear S L hcmp
 have w1 : IntKind.i64.wrap ((m : Int) - (a : Int)) = (m : Int) - (a : Int) := by rw [IntKind.wrap_i64]; omega
 have w2 : IntKind.i64.wrap ((b : Int) - (m : Int)) = (b : Int) - (m : Int) := by rw [IntKind.wrap_i64]; omega
 have c1z : (m : Int) - (a : Int) = 1 := by omega
 obtain ⟨i0, hi0⟩ : ∃ i0, i0 = bs (fun h => ltOf cf d[h]! d[a]!) m b := ⟨_, rfl⟩
 have HI0 : Aside (i0 = bs (fun h => ltOf cf d[h]! d[a]!) m b) := hi0
 have HT : Aside (symMerge (ltOf cf) (f + 1) a m b d = bubUp a (i0 - 1 - a) d) := (show _ = _ by rw [symMerge, if_pos c1, hi0])
 clear hi0
 go_enter FG, Try.ntmps92
 go_wp2_with fail
 go_loopg [10, 11] (b - m) (fun kx v10 v11 wr => ∃ (i j : Nat), v10 = .int .i64 i ∧ v11 = .int .i64 j ∧ m ≤ i ∧ i ≤ j ∧ j ≤ b ∧ j - i ≤ kx ∧ Aside (SWK enc k w0 blk off d wr) ∧ Aside (bs (fun h => ltOf cf d[h]! d[a]!) i j = i0))
 case atStart => exact ⟨m, b, rfl, rfl, Nat.le_refl _, by omega, Nat.le_refl _, Nat.le_refl _, S0, HI0.out.symm⟩
 case round =>
  clear S0
  obtain ⟨i, j, rfl, rfl, hi, hij, hj, hkx, S1, heq⟩ := hrel
  by_cases hlt : i < j
  ·have hltz : (i : Int) < (j : Int) := by omega
   obtain ⟨h, hh⟩ : ∃ h, h = (i + j) / 2 := ⟨_, rfl⟩
   have eh : ((i : Int) + (j : Int)) / 2 = (h : Int) := by omega
   have hst := heq.out
   rw [bs_step _ _ _ hlt, ← hh] at hst
   have hh1 : i ≤ h ∧ h < j := by omega
   obtain ⟨hh1, hh2⟩ := hh1
   have hhs : h < sz := by omega
   have has : a < sz := by omega
   clear hh
   go_wp2_with fail
   try rw [eh]
   cases hL : ltOf cf d[h]! d[a]! with
   | true =>
    rw [if_pos hL] at hst
    have HST : Aside _ := hst
    clear hst
    have ea5 : ((h : Int)).toNat = h := by omega
    have pa5 : (0 : Int) ≤ (h : Int) := by omega
    have ba5 : (h : Int) < (sz : Int) := by omega
    have ra5 : IntKind.i64.wrap (h : Int) = (h : Int) := by rw [IntKind.wrap_i64]; omega
    have ec5 : ((a : Int)).toNat = a := by omega
    have pc5 : (0 : Int) ≤ (a : Int) := by omega
    have bc5 : (a : Int) < (sz : Int) := by omega
    have rc5 : IntKind.i64.wrap (a : Int) = (a : Int) := by rw [IntKind.wrap_i64]; omega
    obtain ⟨x5, hx5⟩ : ∃ x, x = d[h]! := ⟨_, rfl⟩
    obtain ⟨y5, hy5⟩ : ∃ x, x = d[a]! := ⟨_, rfl⟩
    have l5a := S1.out.ld R (by omega) P h (by omega)
    have l5b := S1.out.ld R (by omega) P a (by omega)
    rw [← hx5] at l5a
    rw [← hy5] at l5b
    have hc5 := S1.out.cmp HC.out (by omega) x5 y5
    have hv5 : cf x5 y5 < 0 := by rw [hx5, hy5]; exact of_decide_eq_true hL
    have hd5 : decide (cf x5 y5 < 0) = true := decide_eq_true hv5
    clear hx5 hy5
    go_wp2_with fail
    go_quiet_grown (first | (go_at_fn g; refine Calls.grown_of (hc5 _ _)))
    have S2 : Aside (SWK enc k w0 blk off d (grow (wr.drewN nq) osq)) := S1.out.grown nq osq
    clear l5a l5b hc5 S1
    generalize grow (wr.drewN nq) osq = w2 at S2 ⊢
    clear nq osq
    go_wp2
    go_roundg (j - (h + 1))
    case measure => omega
    case rel => exact ⟨h + 1, j, by first | rfl | go_num, rfl, by omega, by omega, hj, Nat.le_refl _, S2, HST⟩
   | false =>
    rw [if_neg (by rw [hL]; simp)] at hst
    have HST : Aside _ := hst
    clear hst
    have ea5 : ((h : Int)).toNat = h := by omega
    have pa5 : (0 : Int) ≤ (h : Int) := by omega
    have ba5 : (h : Int) < (sz : Int) := by omega
    have ra5 : IntKind.i64.wrap (h : Int) = (h : Int) := by rw [IntKind.wrap_i64]; omega
    have ec5 : ((a : Int)).toNat = a := by omega
    have pc5 : (0 : Int) ≤ (a : Int) := by omega
    have bc5 : (a : Int) < (sz : Int) := by omega
    have rc5 : IntKind.i64.wrap (a : Int) = (a : Int) := by rw [IntKind.wrap_i64]; omega
    obtain ⟨x5, hx5⟩ : ∃ x, x = d[h]! := ⟨_, rfl⟩
    obtain ⟨y5, hy5⟩ : ∃ x, x = d[a]! := ⟨_, rfl⟩
    have l5a := S1.out.ld R (by omega) P h (by omega)
    have l5b := S1.out.ld R (by omega) P a (by omega)
    rw [← hx5] at l5a
    rw [← hy5] at l5b
    have hc5 := S1.out.cmp HC.out (by omega) x5 y5
    have hv5 : ¬ cf x5 y5 < 0 := by rw [hx5, hy5]; exact of_decide_eq_false hL
    have hd5 : decide (cf x5 y5 < 0) = false := decide_eq_false hv5
    clear hx5 hy5
    go_wp2_with fail
    go_quiet_grown (first | (go_at_fn g; refine Calls.grown_of (hc5 _ _)))
    have S2 : Aside (SWK enc k w0 blk off d (grow (wr.drewN nq) osq)) := S1.out.grown nq osq
    clear l5a l5b hc5 S1
    generalize grow (wr.drewN nq) osq = w2 at S2 ⊢
    clear nq osq
    go_wp2
    go_roundg (h - i)
    case measure => omega
    case rel => exact ⟨i, h, rfl, rfl, hi, hh1, by omega, Nat.le_refl _, S2, HST⟩
  ·have hij2 : i = j := by omega
   subst hij2
   have hst := heq.out
   rw [bs_stop _ _ _ hlt] at hst
   subst hst
   have i1 : 1 ≤ i := by omega
   have w4 : IntKind.i64.wrap ((i : Int) - 1) = ((i - 1 : Nat) : Int) := by rw [IntKind.wrap_i64]; omega
   obtain ⟨im, him⟩ : ∃ im, im = i - 1 := ⟨_, rfl⟩
   rw [← him] at w4
   have hiz : (i : Int) - 1 = (im : Int) := by omega
   have HIM : Aside (im = i - 1) := him
   have hims : im < sz ∧ a ≤ im := by omega
   obtain ⟨hims, haim⟩ := hims
   clear him heq
   go_wp2_with fail
   go_loopg [13] (im - a) (fun kx v13 wr => ∃ (t : Nat) (dk : Array α), v13 = .int .i64 ((a + t : Nat) : Int) ∧ a + t ≤ im ∧ im - (a + t) ≤ kx ∧ dk.size = sz ∧ Aside (SWK enc k w0 blk off dk wr) ∧ Aside (dk = bubUp a t d))
   case atStart => exact ⟨0, d, rfl, haim, Nat.le_refl _, hds, S1, (rfl : d = _)⟩
   case round =>
    clear S1
    obtain ⟨t, dk, rfl, ht, hkx, hdk, S1, hdt⟩ := hrel
    obtain ⟨p, hp⟩ : ∃ p, p = a + t := ⟨_, rfl⟩
    rw [← hp] at ht hkx ⊢
    have HPP : Aside (p = a + t) := hp
    clear hp
    by_cases hlt2 : p < im
    ·have hltz : (p : Int) < (im : Int) := by omega
     have hlty : (p : Int) < (i : Int) - 1 := by omega
     obtain ⟨q, hq⟩ : ∃ q, q = p + 1 := ⟨_, rfl⟩
     have w5 : IntKind.i64.wrap ((p : Int) + 1) = (q : Int) := by rw [IntKind.wrap_i64]; omega
     have hqz : (p : Int) + 1 = (q : Int) := by omega
     have HQQ : Aside (q = p + 1) := hq
     have hqs : q < sz := by omega
     have hpsz : p < sz := by omega
     clear hq
     have ea11 : ((p : Int) : Int).toNat = p := by omega
     have pa11 : (0 : Int) ≤ (p : Int) := by omega
     have ba11 : (p : Int) < (sz : Int) := by omega
     have ec11 : ((q : Int) : Int).toNat = q := by omega
     have pc11 : (0 : Int) ≤ (q : Int) := by omega
     have bc11 : (q : Int) < (sz : Int) := by omega
     have S2 : Aside (SWK enc k w0 blk off (swp dk p q) ((wr.drew.setCells blk (off + p * k) (enc dk[q]!)).setCells blk (off + q * k) (enc dk[p]!))) := S1.out.swapped R p q (by omega) (by omega)
     have l11a := S1.out.ld1 R (by omega) P p (by omega)
     have l11b := S1.out.ld1 R (by omega) P q (by omega)
     have s11a := S1.out.st1 R (by omega) P p (by omega) dk[q]!
     have s11b := S1.out.st2 R (by omega) P p q (by omega) (by omega) dk[q]! dk[p]!
     have n11a : (enc dk[p]!).length = k := R.hk _
     have n11b : (enc dk[q]!).length = k := R.hk _
     generalize enc dk[p]! = cI11 at S2 l11a s11b n11a
     generalize enc dk[q]! = cJ11 at S2 l11b s11a s11b n11b
     clear S1
     go_wp2_with fail
     go_big_region_o
     clear l11a l11b s11a s11b
     generalize (wr.drew.setCells blk (off + p * k) cJ11).setCells blk (off + q * k) cI11 = w2 at S2 ⊢
     go_wp2
     go_roundg (im - (p + 1))
     case measure => omega
     case rel => exact ⟨t + 1, swp dk p q, by have := HPP.out; have := HQQ.out; first | (go_num; done) | (congr 1; omega), by have := HPP.out; omega, by have := HPP.out; omega, by rw [size_swp]; exact hdk, S2, (show _ = _ by rw [bubUp, ← hdt.out, ← HPP.out, HQQ.out])⟩
    ·have hltz : ¬ (p : Int) < (im : Int) := by omega
     have hlty : ¬ (p : Int) < (i : Int) - 1 := by omega
     go_wp2
     (try simp only [Exit.inBlock, Exit.then]); refine bodyPost_ret (results_none rfl _ _ _) rfl ?_
     exact ⟨rfl, by rw [HT.out, show i - 1 - a = t by have := HIM.out; have := HPP.out; omega, ← hdt.out]; exact S1.out⟩
set_option maxHeartbeats 8000000 in
set_option maxRecDepth 1000000 in
theorem sym_B {k : Nat} (L : SP P k) (enc : α → List Value) (cf : α → α → Int) (g : Nat) (cb : Array Value) (blk off cap sz : Nat) (d0 : Array α) (w0 : World) (R : RowK enc k w0 blk off d0) (hs0 : d0.size = sz) (eg : ∀ args w, (callFunc g args).run P w = .ok (.enter g args) w) (hcmp : CmpLays P g cb enc k cf blk off sz w0) (hsz : sz < 1000000) (f a m b : Nat) (d : Array α) (w : World) (hds : d.size = sz) (S : SWK enc k w0 blk off d w) (ham : a < m) (hmb : m < b) (hb : b ≤ sz) (c1 : ¬ m - a = 1) (c2 : b - m = 1) :
 Calls P 92 #[.slice (some ⟨blk, off, none⟩) sz cap, .int .i64 a, .int .i64 m, .int .i64 b, .func (.func g) #[] cb] w fun e w' => e = .returned (.tuple #[]) ∧ SWK enc k w0 blk off (symMerge (ltOf cf) (f + 1) a m b d) w' := by
 have mixed := L.mixed; have t3 := L.t3; have a3 := L.a3; have z3 := L.z3; have t4 := L.t4; have a4 := L.a4; have z4 := L.z4; have t124 := L.t124; have a124 := L.a124; have z124 := L.z124; have tsl := L.tsl; have asl := L.asl; have zsl := L.zsl; have tfn := L.tfn; have afn := L.afn; have zfn := L.zfn; have aE := L.aE; have zE := L.zE
 have S0 : Aside (SWK enc k w0 blk off d w) := S
 have HLL : Aside (SP P k) := L
 have HC : Aside (CmpLays P g cb enc k cf blk off sz w0) := hcmp
 have FG := L.f92
 clear S L hcmp
 have w1 : IntKind.i64.wrap ((m : Int) - (a : Int)) = (m : Int) - (a : Int) := by rw [IntKind.wrap_i64]; omega
 have w2 : IntKind.i64.wrap ((b : Int) - (m : Int)) = (b : Int) - (m : Int) := by rw [IntKind.wrap_i64]; omega
 have c1z : ¬ (m : Int) - (a : Int) = 1 := by omega
 have c1b : ((m : Int) - (a : Int) == 1) = false := by simp; omega
 have c2z : (b : Int) - (m : Int) = 1 := by omega
 obtain ⟨i0, hi0⟩ : ∃ i0, i0 = bs (fun h => !ltOf cf d[m]! d[h]!) a m := ⟨_, rfl⟩
 have HI0 : Aside (i0 = bs (fun h => !ltOf cf d[m]! d[h]!) a m) := hi0
 have HT : Aside (symMerge (ltOf cf) (f + 1) a m b d = bubDown m (m - i0) d) := (show _ = _ by rw [symMerge, if_neg c1, if_pos c2, hi0])
 clear hi0
 go_enter FG, Try.ntmps92
 go_wp2_with fail
 go_loopg [14, 15] (m - a) (fun kx v10 v11 wr => ∃ (i j : Nat), v10 = .int .i64 i ∧ v11 = .int .i64 j ∧ a ≤ i ∧ i ≤ j ∧ j ≤ m ∧ j - i ≤ kx ∧ Aside (SWK enc k w0 blk off d wr) ∧ Aside (bs (fun h => !ltOf cf d[m]! d[h]!) i j = i0))
 case atStart => exact ⟨a, m, rfl, rfl, Nat.le_refl _, by omega, Nat.le_refl _, Nat.le_refl _, S0, HI0.out.symm⟩
 case round =>
  clear S0
  obtain ⟨i, j, rfl, rfl, hi, hij, hj, hkx, S1, heq⟩ := hrel
  by_cases hlt : i < j
  ·have hltz : (i : Int) < (j : Int) := by omega
   obtain ⟨h, hh⟩ : ∃ h, h = (i + j) / 2 := ⟨_, rfl⟩
   have eh : ((i : Int) + (j : Int)) / 2 = (h : Int) := by omega
   have hst := heq.out
   rw [bs_step _ _ _ hlt, ← hh] at hst
   have hh1 : i ≤ h ∧ h < j := by omega
   obtain ⟨hh1, hh2⟩ := hh1
   have hhs : h < sz := by omega
   have hms : m < sz := by omega
   clear hh
   go_wp2_with fail
   try rw [eh]
   cases hL : ltOf cf d[m]! d[h]! with
   | false =>
    rw [if_pos (by rw [hL]; rfl)] at hst
    have HST : Aside _ := hst
    clear hst
    have ea17 : ((m : Int)).toNat = m := by omega
    have pa17 : (0 : Int) ≤ (m : Int) := by omega
    have ba17 : (m : Int) < (sz : Int) := by omega
    have ra17 : IntKind.i64.wrap (m : Int) = (m : Int) := by rw [IntKind.wrap_i64]; omega
    have ec17 : ((h : Int)).toNat = h := by omega
    have pc17 : (0 : Int) ≤ (h : Int) := by omega
    have bc17 : (h : Int) < (sz : Int) := by omega
    have rc17 : IntKind.i64.wrap (h : Int) = (h : Int) := by rw [IntKind.wrap_i64]; omega
    obtain ⟨x17, hx17⟩ : ∃ x, x = d[m]! := ⟨_, rfl⟩
    obtain ⟨y17, hy17⟩ : ∃ x, x = d[h]! := ⟨_, rfl⟩
    have l17a := S1.out.ld R (by omega) P m (by omega)
    have l17b := S1.out.ld R (by omega) P h (by omega)
    rw [← hx17] at l17a
    rw [← hy17] at l17b
    have hc17 := S1.out.cmp HC.out (by omega) x17 y17
    have hv17 : ¬ cf x17 y17 < 0 := by rw [hx17, hy17]; exact of_decide_eq_false hL
    have hd17 : decide (cf x17 y17 < 0) = false := decide_eq_false hv17
    clear hx17 hy17
    go_wp2_with fail
    go_quiet_grown (first | (go_at_fn g; refine Calls.grown_of (hc17 _ _)))
    have S2 : Aside (SWK enc k w0 blk off d (grow (wr.drewN nq) osq)) := S1.out.grown nq osq
    clear l17a l17b hc17 S1
    generalize grow (wr.drewN nq) osq = w2 at S2 ⊢
    clear nq osq
    go_wp2
    go_roundg (j - (h + 1))
    case measure => omega
    case rel => exact ⟨h + 1, j, by first | rfl | go_num, rfl, by omega, by omega, hj, Nat.le_refl _, S2, HST⟩
   | true =>
    rw [if_neg (by rw [hL]; simp)] at hst
    have HST : Aside _ := hst
    clear hst
    have ea17 : ((m : Int)).toNat = m := by omega
    have pa17 : (0 : Int) ≤ (m : Int) := by omega
    have ba17 : (m : Int) < (sz : Int) := by omega
    have ra17 : IntKind.i64.wrap (m : Int) = (m : Int) := by rw [IntKind.wrap_i64]; omega
    have ec17 : ((h : Int)).toNat = h := by omega
    have pc17 : (0 : Int) ≤ (h : Int) := by omega
    have bc17 : (h : Int) < (sz : Int) := by omega
    have rc17 : IntKind.i64.wrap (h : Int) = (h : Int) := by rw [IntKind.wrap_i64]; omega
    obtain ⟨x17, hx17⟩ : ∃ x, x = d[m]! := ⟨_, rfl⟩
    obtain ⟨y17, hy17⟩ : ∃ x, x = d[h]! := ⟨_, rfl⟩
    have l17a := S1.out.ld R (by omega) P m (by omega)
    have l17b := S1.out.ld R (by omega) P h (by omega)
    rw [← hx17] at l17a
    rw [← hy17] at l17b
    have hc17 := S1.out.cmp HC.out (by omega) x17 y17
    have hv17 : cf x17 y17 < 0 := by rw [hx17, hy17]; exact of_decide_eq_true hL
    have hd17 : decide (cf x17 y17 < 0) = true := decide_eq_true hv17
    clear hx17 hy17
    go_wp2_with fail
    go_quiet_grown (first | (go_at_fn g; refine Calls.grown_of (hc17 _ _)))
    have S2 : Aside (SWK enc k w0 blk off d (grow (wr.drewN nq) osq)) := S1.out.grown nq osq
    clear l17a l17b hc17 S1
    generalize grow (wr.drewN nq) osq = w2 at S2 ⊢
    clear nq osq
    go_wp2
    go_roundg (h - i)
    case measure => omega
    case rel => exact ⟨i, h, rfl, rfl, hi, hh1, by omega, Nat.le_refl _, S2, HST⟩
  ·have hij2 : i = j := by omega
   subst hij2
   have hst := heq.out
   rw [bs_stop _ _ _ hlt] at hst
   subst hst
   clear heq
   go_wp2_with fail
   go_loopg [17] (m - i) (fun kx v13 wr => ∃ (t p : Nat) (dk : Array α), v13 = .int .i64 (p : Int) ∧ p + t = m ∧ i ≤ p ∧ p - i ≤ kx ∧ dk.size = sz ∧ Aside (SWK enc k w0 blk off dk wr) ∧ Aside (dk = bubDown m t d))
   case atStart => exact ⟨0, m, d, rfl, rfl, hj, Nat.le_refl _, hds, S1, (rfl : d = _)⟩
   case round =>
    clear S1
    obtain ⟨t, p, dk, rfl, hpt, hip, hkx, hdk, S1, hdt⟩ := hrel
    have HPT : Aside (p + t = m) := hpt
    have hpm : p ≤ m := by omega
    clear hpt
    by_cases hlt2 : i < p
    ·have hltz : (i : Int) < (p : Int) := by omega
     obtain ⟨q, hq⟩ : ∃ q, q = p - 1 := ⟨_, rfl⟩
     have hp1 : 1 ≤ p := by omega
     have w5 : IntKind.i64.wrap ((p : Int) - 1) = (q : Int) := by rw [IntKind.wrap_i64]; omega
     have hqz : (p : Int) - 1 = (q : Int) := by omega
     have HQQ : Aside (q = p - 1) := hq
     have hqs : q < sz ∧ i ≤ q ∧ q < p := by omega
     have hpsz : p < sz := by omega
     obtain ⟨hqs, hiq, hqp⟩ := hqs
     clear hq
     have ea23 : ((p : Int) : Int).toNat = p := by omega
     have pa23 : (0 : Int) ≤ (p : Int) := by omega
     have ba23 : (p : Int) < (sz : Int) := by omega
     have ec23 : ((q : Int) : Int).toNat = q := by omega
     have pc23 : (0 : Int) ≤ (q : Int) := by omega
     have bc23 : (q : Int) < (sz : Int) := by omega
     have S2 : Aside (SWK enc k w0 blk off (swp dk p q) ((wr.drew.setCells blk (off + p * k) (enc dk[q]!)).setCells blk (off + q * k) (enc dk[p]!))) := S1.out.swapped R p q (by omega) (by omega)
     have l23a := S1.out.ld1 R (by omega) P p (by omega)
     have l23b := S1.out.ld1 R (by omega) P q (by omega)
     have s23a := S1.out.st1 R (by omega) P p (by omega) dk[q]!
     have s23b := S1.out.st2 R (by omega) P p q (by omega) (by omega) dk[q]! dk[p]!
     have n23a : (enc dk[p]!).length = k := R.hk _
     have n23b : (enc dk[q]!).length = k := R.hk _
     generalize enc dk[p]! = cI23 at S2 l23a s23b n23a
     generalize enc dk[q]! = cJ23 at S2 l23b s23a s23b n23b
     clear S1
     go_wp2_with fail
     go_big_region_o
     clear l23a l23b s23a s23b
     generalize (wr.drew.setCells blk (off + p * k) cJ23).setCells blk (off + q * k) cI23 = w2 at S2 ⊢
     go_wp2
     go_roundg (q - i)
     case measure => omega
     case rel => exact ⟨t + 1, q, swp dk p q, rfl, by have := HPT.out; have := HQQ.out; omega, hiq, Nat.le_refl _, by rw [size_swp]; exact hdk, S2, (show _ = _ by rw [bubDown, ← hdt.out, show m - t = p by have := HPT.out; omega, HQQ.out])⟩
    ·have hltz : ¬ (i : Int) < (p : Int) := by omega
     go_wp2
     (try simp only [Exit.inBlock, Exit.then]); refine bodyPost_ret (results_none rfl _ _ _) rfl ?_
     exact ⟨rfl, by rw [HT.out, show m - i = t by have := HPT.out; omega, ← hdt.out]; exact S1.out⟩
end Go.Proofs.Ytohhobcipfmkbaa.SpanS
