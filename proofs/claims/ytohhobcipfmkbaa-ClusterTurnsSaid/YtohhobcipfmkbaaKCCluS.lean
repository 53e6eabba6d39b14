/- Texts of this claim, cut to what it needs. -/
import Derived.Shelf.SlSortCmp.WholeK
import Derived.Shelf.SlSortCmp.NoneTotal
import Derived.Shelf.SlSortCmp.KitK
import Derived.Sort.WalkB2
import Derived.Sort.WalkB12
import Derived.Deep.LoopGhost
import Derived.Deep.DeepCutAuto
import Derived.Ground.SlsfProg
import Derived.Test.YtohhobcipfmkbaaProg
import Derived.Test.YtohhobcipfmkbaaKUStable
namespace Go.Proofs.Ytohhobcipfmkbaa.CluS
open Go.Shelf Go.RowKit Go.Lib Go.Sort
set_option linter.unusedVariables false
set_option linter.unusedSimpArgs false
open Go.Proofs.Ytohhobcipfmkbaa.UStable
variable {P : Program} {α : Type} [Inhabited α]
structure SP (P : Program) (k : Nat) : Prop where
  mixed : P.follows .mixedOrders = true
  f111 : P.funcs[111]? = some Try.f111
  f100 : P.funcs[100]? = some Try.f100
  f96 : P.funcs[96]? = some Try.f96
  t0 : P.underlying 0 = some (TypeDesc.tuple #[])
  a0 : ∀ w, (isAgg 0).run P w = .ok false w
  z0 : ∀ w, (Go.sizeOf 0).run P w = .ok 1 w
  v0 : ∀ w, (zeroValue 0).run P w = .ok (Value.tuple #[]) w
  t3 : P.underlying 3 = some (TypeDesc.int IntKind.i64)
  a3 : ∀ w, (isAgg 3).run P w = .ok false w
  z3 : ∀ w, (Go.sizeOf 3).run P w = .ok 1 w
  t4 : P.underlying 4 = some TypeDesc.bool
  a4 : ∀ w, (isAgg 4).run P w = .ok false w
  z4 : ∀ w, (Go.sizeOf 4).run P w = .ok 1 w
  t124 : P.underlying 124 = some (TypeDesc.int IntKind.u64)
  a124 : ∀ w, (isAgg 124).run P w = .ok false w
  z124 : ∀ w, (Go.sizeOf 124).run P w = .ok 1 w
  tsl : P.underlying 40 = some (TypeDesc.slice 45)
  asl : ∀ w, (isAgg 40).run P w = .ok false w
  zsl : ∀ w, (Go.sizeOf 40).run P w = .ok 1 w
  tfn : P.underlying 97 = some (TypeDesc.func #[45, 45] #[3] false)
  afn : ∀ w, (isAgg 97).run P w = .ok false w
  zfn : ∀ w, (Go.sizeOf 97).run P w = .ok 1 w
  aE : ∀ w, (isAgg 45).run P w = .ok true w
  zE : ∀ w, (Go.sizeOf 45).run P w = .ok k w
set_option maxHeartbeats 4000000 in
set_option maxRecDepth 1000000 in
theorem swapRange_c {k : Nat} (L : SP P k) (enc : α → List Value) (g : Nat) (cb : Array Value) (blk off cap : Nat) (d0 d : Array α) (w0 w : World) (R : RowK enc k w0 blk off d0) (hs : d0.size = d.size) (S : SWK enc k w0 blk off d w) (hsz : d.size < 1000000) (a b n : Nat) (hab : a + n ≤ b) (hb : b + n ≤ d.size) :
    Calls P 111 #[.slice (some ⟨blk, off, none⟩) d.size cap, .int .i64 a, .int .i64 b, .int .i64 n, .func (.func g) #[] cb] w fun e w' => e = .returned (.tuple #[]) ∧ SWK enc k w0 blk off (swapRange a b n d) w' := by
  have mixed := L.mixed; have t3 := L.t3; have a3 := L.a3; have z3 := L.z3; have t4 := L.t4; have a4 := L.a4; have z4 := L.z4; have t124 := L.t124; have a124 := L.a124; have z124 := L.z124; have tsl := L.tsl; have asl := L.asl; have zsl := L.zsl; have tfn := L.tfn; have afn := L.afn; have zfn := L.zfn; have aE := L.aE; have zE := L.zE
  have S0 : Aside (SWK enc k w0 blk off d w) := S
  have FG := L.f111
  clear S
  go_enter FG, Try.ntmps111
  go_wp2
  go_loopg [10] n (fun kx v wr => ∃ (i : Nat) (dk : Array α), v = .int .i64 i ∧ i ≤ n ∧ n - i ≤ kx ∧ dk.size = d.size ∧ Aside (SWK enc k w0 blk off dk wr) ∧ Aside (dk = swapRange a b i d))
  case atStart => exact ⟨0, d, rfl, Nat.zero_le _, Nat.le_refl _, rfl, S0, (rfl : d = _)⟩
  case round =>
    clear S0
    obtain ⟨i, dk, rfl, hi, hkx, hds, S1, heq⟩ := hrel
    by_cases hlt : i < n
    · have hltz : (i : Int) < (n : Int) := by omega
      have w1 : IntKind.i64.wrap ((a : Int) + (i : Int)) = ((a + i : Nat) : Int) := by rw [IntKind.wrap_i64]; omega
      have w2 : IntKind.i64.wrap ((b : Int) + (i : Int)) = ((b + i : Nat) : Int) := by rw [IntKind.wrap_i64]; omega
      obtain ⟨p, hp⟩ : ∃ p, p = a + i := ⟨_, rfl⟩
      obtain ⟨q, hq⟩ : ∃ q, q = b + i := ⟨_, rfl⟩
      rw [← hp] at w1
      rw [← hq] at w2
      have HPQ : Aside (p = a + i ∧ q = b + i) := ⟨hp, hq⟩
      have hpq : p < d.size ∧ q < d.size := by omega
      obtain ⟨hpd, hqd⟩ := hpq
      clear hp hq
      go_wp2_with fail
      have ea44 : ((p : Int) : Int).toNat = p := by omega
      have pa44 : (0 : Int) ≤ (p : Int) := by omega
      have ba44 : (p : Int) < (d.size : Int) := by omega
      have ec44 : ((q : Int) : Int).toNat = q := by omega
      have pc44 : (0 : Int) ≤ (q : Int) := by omega
      have bc44 : (q : Int) < (d.size : Int) := by omega
      have S2 : Aside (SWK enc k w0 blk off (swp dk p q) ((wr.drew.setCells blk (off + p * k) (enc dk[q]!)).setCells blk (off + q * k) (enc dk[p]!))) := S1.out.swapped R p q (by omega) (by omega)
      have l44a := S1.out.ld1 R (by omega) P p (by omega)
      have l44b := S1.out.ld1 R (by omega) P q (by omega)
      have s44a := S1.out.st1 R (by omega) P p (by omega) dk[q]!
      have s44b := S1.out.st2 R (by omega) P p q (by omega) (by omega) dk[q]! dk[p]!
      have n44a : (enc dk[p]!).length = k := R.hk _
      have n44b : (enc dk[q]!).length = k := R.hk _
      generalize enc dk[p]! = cI44 at S2 l44a s44b n44a
      generalize enc dk[q]! = cJ44 at S2 l44b s44a s44b n44b
      clear S1
      go_wp2_with fail
      go_big_region_o
      clear l44a l44b s44a s44b
      generalize (wr.drew.setCells blk (off + p * k) cJ44).setCells blk (off + q * k) cI44 = w2 at S2 ⊢
      go_wp2
      go_roundg (n - (i + 1))
      case measure => omega
      case rel => exact ⟨i + 1, swp dk p q, by go_num, by omega, Nat.le_refl _, by rw [size_swp]; exact hds, S2, (show _ = _ by rw [swapRange, ← heq.out, HPQ.out.1, HPQ.out.2])⟩
    · have ei : i = n := by omega
      subst ei
      go_wp2
      go_end0
      exact ⟨rfl, by rw [← heq.out]; exact S1.out⟩
theorem rotLoop_fuel (m : Nat) (f : Nat) : ∀ (g i j : Nat) (d : Array α), 0 < i → 0 < j → i + j ≤ f → i + j ≤ g → rotLoop m f i j d = rotLoop m g i j d := by
  induction f with
  | zero => intro g i j d h1 h2 h3; omega
  | succ f ih =>
    intro g i j d h1 h2 h3 h4
    obtain ⟨g, rfl⟩ : ∃ g', g = g' + 1 := ⟨g - 1, by omega⟩
    unfold rotLoop
    by_cases e : i = j
    · rw [if_pos e, if_pos e]
    · rw [if_neg e, if_neg e]
      by_cases e2 : j < i
      · rw [if_pos e2, if_pos e2]; exact ih g _ _ _ (by omega) h2 (by omega) (by omega)
      · rw [if_neg e2, if_neg e2]; exact ih g _ _ _ h1 (by omega) (by omega) (by omega)
theorem rot_step (m i j : Nat) (d : Array α) (h1 : 0 < i) (h2 : 0 < j) : rotLoop m (i + j) i j d = if i = j then swapRange (m - i) m i d else if j < i then rotLoop m (i - j + j) (i - j) j (swapRange (m - i) m j d) else rotLoop m (i + (j - i)) i (j - i) (swapRange (m - i) (m + j - i) i d) := by
  obtain ⟨f, hf⟩ : ∃ f, i + j = f + 1 := ⟨i + j - 1, by omega⟩
  rw [hf, rotLoop]
  by_cases e : i = j
  · rw [if_pos e, if_pos e]
  · rw [if_neg e, if_neg e]
    by_cases e2 : j < i
    · rw [if_pos e2, if_pos e2]; exact rotLoop_fuel m _ _ _ _ _ (by omega) h2 (by omega) (by omega)
    · rw [if_neg e2, if_neg e2]; exact rotLoop_fuel m _ _ _ _ _ h1 (by omega) (by omega) (by omega)
set_option maxHeartbeats 4000000 in
set_option maxRecDepth 1000000 in
theorem rotate_c {k : Nat} (L : SP P k) (enc : α → List Value) (g : Nat) (cb : Array Value) (blk off cap : Nat) (d0 d : Array α) (w0 w : World) (R : RowK enc k w0 blk off d0) (hs : d0.size = d.size) (S : SWK enc k w0 blk off d w) (hsz : d.size < 1000000) (a m b : Nat) (ham : a < m) (hmb : m < b) (hb : b ≤ d.size) :
    Calls P 100 #[.slice (some ⟨blk, off, none⟩) d.size cap, .int .i64 a, .int .i64 m, .int .i64 b, .func (.func g) #[] cb] w fun e w' => e = .returned (.tuple #[]) ∧ SWK enc k w0 blk off (rotate a m b d) w' := by
  have mixed := L.mixed; have t3 := L.t3; have a3 := L.a3; have z3 := L.z3; have t4 := L.t4; have a4 := L.a4; have z4 := L.z4; have t124 := L.t124; have a124 := L.a124; have z124 := L.z124; have tsl := L.tsl; have asl := L.asl; have zsl := L.zsl; have tfn := L.tfn; have afn := L.afn; have zfn := L.zfn; have aE := L.aE; have zE := L.zE
  have S0 : Aside (SWK enc k w0 blk off d w) := S
  have HLL : Aside (SP P k) := L
  have FG := L.f100
  have eSW : ∀ args w, (callFunc 111 args).run P w = .ok (.enter 111 args) w := enters_of L.f111 (by kernel_rfl) rfl
  have w1 : IntKind.i64.wrap ((m : Int) - (a : Int)) = ((m - a : Nat) : Int) := by rw [IntKind.wrap_i64]; omega
  have w2 : IntKind.i64.wrap ((b : Int) - (m : Int)) = ((b - m : Nat) : Int) := by rw [IntKind.wrap_i64]; omega
  obtain ⟨p, hp⟩ : ∃ p, p = m - a := ⟨_, rfl⟩
  obtain ⟨q, hq⟩ : ∃ q, q = b - m := ⟨_, rfl⟩
  rw [← hp] at w1
  rw [← hq] at w2
  have HT : Aside (rotate a m b d = rotLoop m (p + q) p q d) := (show _ = _ by rw [hp, hq]; rfl)
  have h0 : 0 < p ∧ 0 < q ∧ p ≤ m ∧ m + q ≤ d.size := by omega
  obtain ⟨p0, q0, pm, qm⟩ := h0
  clear S hp hq L
  go_enter FG, Try.ntmps100
  go_wp2
  go_loopg [10, 11] (p + q) (fun kx v10 v11 wr => ∃ (i j : Nat) (dk : Array α), v10 = .int .i64 i ∧ v11 = .int .i64 j ∧ 0 < i ∧ 0 < j ∧ i ≤ m ∧ m + j ≤ d.size ∧ i + j ≤ kx ∧ dk.size = d.size ∧ Aside (SWK enc k w0 blk off dk wr) ∧ Aside (rotLoop m (i + j) i j dk = rotLoop m (p + q) p q d))
  case atStart => exact ⟨p, q, d, rfl, rfl, p0, q0, pm, qm, Nat.le_refl _, rfl, S0, (rfl : rotLoop m (p + q) p q d = _)⟩
  case round =>
    clear S0 p0 q0 pm qm w1 w2
    obtain ⟨i, j, dk, rfl, rfl, i0, j0, im, jm, hkx, hds, S1, heq⟩ := hrel
    have hst := heq.out
    rw [rot_step m i j dk i0 j0] at hst
    have w1 : IntKind.i64.wrap ((m : Int) - (i : Int)) = ((m - i : Nat) : Int) := by rw [IntKind.wrap_i64]; omega
    obtain ⟨mi, hmi⟩ : ∃ mi, mi = m - i := ⟨_, rfl⟩
    rw [← hmi] at w1 hst
    have HMI : Aside (mi = m - i) := hmi
    have hmb2 : mi + i = m := by omega
    clear hmi
    by_cases e : i = j
    · subst e
      rw [if_pos rfl] at hst
      have HST : Aside _ := hst
      have hsw := fun W hW => swapRange_c HLL.out enc g cb blk off cap d0 dk w0 W R (hs.trans hds.symm) hW (by rw [hds]; exact hsz) mi m i (by omega) (by rw [hds]; exact jm)
      rw [hds] at hsw
      have HSW : Aside _ := hsw
      clear hst hsw
      go_wp2_with (go_at_fn 111; refine (HSW.out _ S1.out).mono ?_; rintro e w9 ⟨rfl, hS⟩)
      go_end0
      exact ⟨rfl, by rw [HT.out, ← HST.out]; exact hS⟩
    · have en : ((i : Int) != (j : Int)) = true := by simp; omega
      rw [if_neg e] at hst
      by_cases e2 : j < i
      · have e2z : (j : Int) < (i : Int) := by omega
        rw [if_pos e2] at hst
        have HST : Aside _ := hst
        have hsw := fun W hW => swapRange_c HLL.out enc g cb blk off cap d0 dk w0 W R (hs.trans hds.symm) hW (by rw [hds]; exact hsz) mi m j (by omega) (by rw [hds]; exact jm)
        rw [hds] at hsw
        have HSW : Aside _ := hsw
        have w3 : IntKind.i64.wrap ((i : Int) - (j : Int)) = ((i - j : Nat) : Int) := by rw [IntKind.wrap_i64]; omega
        clear hst hsw
        go_wp2_with (go_at_fn 111; refine (HSW.out _ S1.out).mono ?_; rintro e w9 ⟨rfl, hS⟩; have S9 : Aside (SWK enc k w0 blk off (swapRange mi m j dk) w9) := hS; clear hS)
        go_roundg (i - j + j)
        case measure => omega
        case rel => exact ⟨i - j, j, swapRange mi m j dk, by first | rfl | go_num, rfl, by omega, j0, by omega, jm, Nat.le_refl _, by rw [swapRange_size]; exact hds, S9, HST⟩
      · have e2z : ¬ (j : Int) < (i : Int) := by omega
        rw [if_neg e2] at hst
        have HST : Aside _ := hst
        have w4 : IntKind.i64.wrap ((m : Int) + (j : Int)) = ((m + j : Nat) : Int) := by rw [IntKind.wrap_i64]; omega
        have w5 : IntKind.i64.wrap (((m + j : Nat) : Int) - (i : Int)) = ((m + j - i : Nat) : Int) := by rw [IntKind.wrap_i64]; omega
        obtain ⟨mj, hmj⟩ : ∃ mj, mj = m + j := ⟨_, rfl⟩
        obtain ⟨mji, hmji⟩ : ∃ mji, mji = m + j - i := ⟨_, rfl⟩
        rw [← hmji] at w5 hst HST
        rw [← hmj] at w4 w5
        have hsw := fun W hW => swapRange_c HLL.out enc g cb blk off cap d0 dk w0 W R (hs.trans hds.symm) hW (by rw [hds]; exact hsz) mi mji i (by omega) (by rw [hds]; omega)
        rw [hds] at hsw
        have HSW : Aside _ := hsw
        have w3 : IntKind.i64.wrap ((j : Int) - (i : Int)) = ((j - i : Nat) : Int) := by rw [IntKind.wrap_i64]; omega
        clear hst hsw hmj hmji
        go_wp2_with (go_at_fn 111; refine (HSW.out _ S1.out).mono ?_; rintro e w9 ⟨rfl, hS⟩; have S9 : Aside (SWK enc k w0 blk off (swapRange mi mji i dk) w9) := hS; clear hS)
        go_roundg (i + (j - i))
        case measure => omega
        case rel => exact ⟨i, j - i, swapRange mi mji i dk, rfl, by first | rfl | go_num, i0, by omega, im, by omega, Nat.le_refl _, by rw [swapRange_size]; exact hds, S9, HST⟩
theorem rotLoop_size (m : Nat) (f : Nat) : ∀ (i j : Nat) (d : Array α), (rotLoop m f i j d).size = d.size := by
  induction f with
  | zero => intro i j d; rfl
  | succ f ih =>
    intro i j d
    unfold rotLoop
    split
    · exact swapRange_size _ _ _ _
    · split
      · rw [ih, swapRange_size]
      · rw [ih, swapRange_size]
theorem symMerge_size (lt : α → α → Bool) (f : Nat) : ∀ (a m b : Nat) (d : Array α), (symMerge lt f a m b d).size = d.size := by
  induction f with
  | zero => intro a m b d; rfl
  | succ f ih =>
    intro a m b d
    unfold symMerge
    split
    · exact bubUp_size _ _ _
    · split
      · exact bubDown_size _ _ _
      · dsimp only
        have h1 : (if startAt lt a m b d < m ∧ m < (a + b) / 2 + m - startAt lt a m b d then rotate (startAt lt a m b d) m ((a + b) / 2 + m - startAt lt a m b d) d else d).size = d.size := by
          split
          · exact rotLoop_size _ _ _ _ _
          · rfl
        generalize (if startAt lt a m b d < m ∧ m < (a + b) / 2 + m - startAt lt a m b d then rotate (startAt lt a m b d) m ((a + b) / 2 + m - startAt lt a m b d) d else d) = d1 at h1
        have h2 : (if a < startAt lt a m b d ∧ startAt lt a m b d < (a + b) / 2 then symMerge lt f a (startAt lt a m b d) ((a + b) / 2) d1 else d1).size = d.size := by
          split
          · rw [ih, h1]
          · exact h1
        generalize (if a < startAt lt a m b d ∧ startAt lt a m b d < (a + b) / 2 then symMerge lt f a (startAt lt a m b d) ((a + b) / 2) d1 else d1) = d2 at h2
        split
        · rw [ih, h2]
        · exact h2
end Go.Proofs.Ytohhobcipfmkbaa.CluS
