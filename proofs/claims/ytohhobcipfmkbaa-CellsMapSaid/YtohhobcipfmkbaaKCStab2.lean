/- Texts of this claim, cut to what it needs. -/
import Derived.Deep.LoopGhost
import Derived.Deep.DeepCutAuto
import Derived.Test.YtohhobcipfmkbaaKCSpanC
import Derived.Test.YtohhobcipfmkbaaKCCells3
import Derived.Test.YtohhobcipfmkbaaKCRowDo
set_option linter.unusedSimpArgs false
set_option linter.unusedVariables false
namespace Go.Proofs.Ytohhobcipfmkbaa.SpanS
open Go.Shelf Go.RowKit Go.Lib Go.Sort
open Go.Proofs.Ytohhobcipfmkbaa.UStable Go.Proofs.Ytohhobcipfmkbaa.U Go.Proofs.YtohhobcipfmkbaaW.PrintWords
variable {α : Type} [Inhabited α]
set_option maxHeartbeats 1000000 in
set_option maxRecDepth 1000000 in
theorem stab_c {k : Nat} (enc : α → List Value) (cf : α → α → Int) (g : Nat) (cb : Array Value) (blk off cap n : Nat) (w0 : World) (hn : n < 1000000)
 (hI : ∀ (a b : Nat) (d : Array α) (w : World), d.size = n → SWK enc k w0 blk off d w → a ≤ b → b ≤ n → Calls Try.prog 91 #[.slice (some ⟨blk, off, none⟩) n cap, .int .i64 a, .int .i64 b, .func (.func g) #[] cb] w fun e w' => e = .returned (.tuple #[]) ∧ SWK enc k w0 blk off (insertionSort (ltOf cf) d a b) w')
 (hIs : ∀ (a b : Nat) (d : Array α), d.size = n → a ≤ b → b ≤ n → (insertionSort (ltOf cf) d a b).size = n)
 (hM : ∀ (a m b : Nat) (d : Array α) (w : World), d.size = n → SWK enc k w0 blk off d w → a < m → m < b → b ≤ n → Calls Try.prog 92 #[.slice (some ⟨blk, off, none⟩) n cap, .int .i64 a, .int .i64 m, .int .i64 b, .func (.func g) #[] cb] w fun e w' => e = .returned (.tuple #[]) ∧ SWK enc k w0 blk off (symMerge (ltOf cf) n a m b d) w')
 (d : Array α) (w : World) (hds : d.size = n) (S : SWK enc k w0 blk off d w) :
 Calls Try.prog 79 #[.slice (some ⟨blk, off, none⟩) n cap, .int .i64 n, .func (.func g) #[] cb] w fun e w' => e = .returned (.tuple #[]) ∧ SWK enc k w0 blk off (stable (ltOf cf) n d) w' := by
 have S0 : Aside (SWK enc k w0 blk off d w) := S
 have HI := Aside0.mk hI
 have HIS := Aside0.mk hIs
 have HM := Aside0.mk hM
 obtain ⟨res, hres⟩ : ∃ res, res = stable (ltOf cf) n d := ⟨_, rfl⟩
 obtain ⟨r1, hr1⟩ : ∃ r1, r1 = insBlocks (ltOf cf) n (n + 1) 0 d := ⟨_, rfl⟩
 have HR : Aside (mergeRows (ltOf cf) n (n + 1) 20 r1 = res) := (show _ = _ by rw [hres, hr1]; rfl)
 have HR1 : Aside (insBlocks (ltOf cf) n (n + 1) 0 d = r1) := hr1.symm
 rw [← hres]
 clear S hI hIs hM hres hr1
 go_enter Try.func79, Try.ntmps79
 go_wp2
 go_loopg [7, 8] n (fun kx v7 v8 wr => ∃ (a b f : Nat) (dk : Array α), v7 = .int .i64 a ∧ v8 = .int .i64 b ∧ b = a + 20 ∧ a ≤ n ∧ n - a ≤ kx ∧ n - a < f ∧ dk.size = n ∧ Aside (SWK enc k w0 blk off dk wr) ∧ Aside (insBlocks (ltOf cf) n f a dk = r1))
 case atStart => exact ⟨0, 20, n + 1, d, rfl, rfl, rfl, Nat.zero_le _, Nat.le_refl _, by omega, hds, S0, HR1⟩
 case round =>
  clear S0 HR1 hds
  obtain ⟨a, b, f, dk, rfl, rfl, hb, ha, hkx, hf, hdk, S1, heq⟩ := hrel
  obtain ⟨f', rfl⟩ : ∃ f', f = f' + 1 := ⟨f - 1, by omega⟩
  have hab : a < b := by omega
  by_cases hlt : b ≤ n
  ·have hltz : (b : Int) ≤ (n : Int) := by omega
   have hz2 : ¬ (n : Int) < (b : Int) := by omega
   have HE : Aside (insBlocks (ltOf cf) n f' b (insertionSort (ltOf cf) dk a b) = r1) := (show _ = _ by
    have := heq.out
    rw [insBlocks, if_pos (by omega), ← hb] at this
    exact this)
   have HCA := Aside0.mk (HI.out a b dk wr hdk S1.out (by omega) hlt)
   have hsz := HIS.out a b dk hdk (by omega) hlt
   have hnb : n - b < f' := by omega
   clear heq S1 hb
   go_wp2_with (go_at_call 91; refine HCA.out.mono ?_; rintro e w9 ⟨rfl, hS⟩; have S9 : Aside (SWK enc k w0 blk off (insertionSort (ltOf cf) dk a b) w9) := hS; clear hS)
   go_roundg (n - b)
   case measure => omega
   case rel => exact ⟨b, b + 20, f', _, rfl, by first | rfl | go_num, rfl, hlt, Nat.le_refl _, hnb, hsz, S9, HE⟩
  ·have hltz : ¬ (b : Int) ≤ (n : Int) := by omega
   have hz2 : (n : Int) < (b : Int) := by omega
   have HE : Aside (insertionSort (ltOf cf) dk a n = r1) := (show _ = _ by
    have := heq.out
    rw [insBlocks, if_neg (by omega)] at this
    exact this)
   have HCA := Aside0.mk (HI.out a n dk wr hdk S1.out ha (Nat.le_refl _))
   have hsz := HIS.out a n dk hdk ha (Nat.le_refl _)
   rw [HE.out] at hsz HCA
   clear heq S1 HE hb
   go_wp2_with (go_at_call 91; refine HCA.out.mono ?_; rintro e w9 ⟨rfl, hS⟩; have S9 : Aside (SWK enc k w0 blk off r1 w9) := hS; clear hS)
   clear HCA hdk hltz hz2 hlt hf hkx ha
   go_loopg [6] n (fun kx v6 wr => ∃ (s f : Nat) (dk : Array α), v6 = .int .i64 s ∧ 0 < s ∧ s < 2000000 ∧ n - s ≤ kx ∧ n - s < f ∧ dk.size = n ∧ Aside (SWK enc k w0 blk off dk wr) ∧ Aside (mergeRows (ltOf cf) n f s dk = res))
   case atStart => exact ⟨20, n + 1, r1, rfl, by omega, by omega, by omega, by omega, hsz, S9, HR⟩
   case round =>
    clear S9 HR hsz
    obtain ⟨s, f, dk, rfl, hs0, hs1, hkx, hf, hdk, S1, heq⟩ := hrel
    obtain ⟨f', rfl⟩ : ∃ f', f = f' + 1 := ⟨f - 1, by omega⟩
    by_cases hlt : s < n
    ·have hltz : (s : Int) < (n : Int) := by omega
     obtain ⟨r2, hr2⟩ : ∃ r2, r2 = mergeRow (ltOf cf) s n (n + 1) 0 dk := ⟨_, rfl⟩
     have HE : Aside (mergeRows (ltOf cf) n f' (2 * s) r2 = res) := (show _ = _ by
      have := heq.out
      rw [mergeRows, if_pos hlt, ← hr2] at this
      exact this)
     have HR2 : Aside (mergeRow (ltOf cf) s n (n + 1) 0 dk = r2) := hr2.symm
     clear heq hr2
     go_wp2
     go_loopg [7, 8] n (fun ky v7 v8 wr => ∃ (a b g' : Nat) (dj : Array α), v7 = .int .i64 a ∧ v8 = .int .i64 b ∧ b = a + 2 * s ∧ a ≤ n ∧ n - a ≤ ky ∧ n - a < g' ∧ dj.size = n ∧ Aside (SWK enc k w0 blk off dj wr) ∧ Aside (mergeRow (ltOf cf) s n g' a dj = r2))
     case atStart => exact ⟨0, 2 * s, n + 1, dk, rfl, by first | rfl | go_num, by omega, Nat.zero_le _, Nat.le_refl _, by omega, hdk, S1, HR2⟩
     case round =>
      clear S1 HR2 hdk
      obtain ⟨a, b, g', dj, rfl, rfl, hb, ha, hky, hg, hdj, S1, heq⟩ := hrel
      obtain ⟨g', rfl⟩ : ∃ g2, g' = g2 + 1 := ⟨g' - 1, by omega⟩
      have hab : a < b := by omega
      obtain ⟨m, hm⟩ : ∃ m, m = a + s := ⟨_, rfl⟩
      have em : (a : Int) + (s : Int) = (m : Int) := by omega
      by_cases hlt2 : b ≤ n
      ·have hltz2 : (b : Int) ≤ (n : Int) := by omega
       have hz2 : ¬ (n : Int) < (b : Int) := by omega
       have HE2 : Aside (mergeRow (ltOf cf) s n g' b (symMerge (ltOf cf) n a m b dj) = r2) := (show _ = _ by
        have := heq.out
        rw [mergeRow, if_pos (by omega), ← hb, ← hm] at this
        exact this)
       have HCA := Aside0.mk (HM.out a m b dj wr hdj S1.out (by omega) (by omega) hlt2)
       have hsz : (symMerge (ltOf cf) n a m b dj).size = n := (symMerge_size _ _ _ _ _ _).trans hdj
       have hnb : n - b < g' := by omega
       clear heq S1 hb hm
       go_wp2_with (go_at_call 92; refine HCA.out.mono ?_; rintro e w9 ⟨rfl, hS⟩; have S9 : Aside (SWK enc k w0 blk off (symMerge (ltOf cf) n a m b dj) w9) := hS; clear hS)
       go_roundg (n - b)
       case measure => omega
       case rel => exact ⟨b, b + 2 * s, g', _, rfl, by first | rfl | go_num, rfl, hlt2, Nat.le_refl _, hnb, hsz, S9, HE2⟩
      ·have hltz2 : ¬ (b : Int) ≤ (n : Int) := by omega
       have hz2 : (n : Int) < (b : Int) := by omega
       by_cases hmn : m < n
       ·have hmz : (m : Int) < (n : Int) := by omega
        have HE2 : Aside (symMerge (ltOf cf) n a m n dj = r2) := (show _ = _ by
         have := heq.out
         rw [mergeRow, if_neg (by omega), ← hm, if_pos hmn] at this
         exact this)
        have HCA := Aside0.mk (HM.out a m n dj wr hdj S1.out (by omega) hmn (Nat.le_refl _))
        have hsz : (symMerge (ltOf cf) n a m n dj).size = n := (symMerge_size _ _ _ _ _ _).trans hdj
        rw [HE2.out] at hsz HCA
        clear heq S1 hb hm HE2
        go_wp2_with (go_at_call 92; refine HCA.out.mono ?_; rintro e w9 ⟨rfl, hS⟩; have S9 : Aside (SWK enc k w0 blk off r2 w9) := hS; clear hS)
        go_roundg (n - 2 * s)
        case measure => omega
        case rel => exact ⟨2 * s, f', r2, by first | rfl | go_num, by omega, by omega, Nat.le_refl _, by omega, hsz, S9, HE⟩
       ·have hmz : ¬ (m : Int) < (n : Int) := by omega
        have hdr : dj = r2 := by
         have := heq.out
         rw [mergeRow, if_neg (by omega), ← hm, if_neg hmn] at this
         exact this
        subst hdr
        clear heq hb hm
        go_wp2
        go_roundg (n - 2 * s)
        case measure => omega
        case rel => exact ⟨2 * s, f', dj, by first | rfl | go_num, by omega, by omega, Nat.le_refl _, by omega, hdj, S1, HE⟩
    ·have hltz : ¬ (s : Int) < (n : Int) := by omega
     have hdr : dk = res := by
      have := heq.out
      rw [mergeRows, if_neg hlt] at this
      exact this
     subst hdr
     clear heq
     go_wp2
     go_end0
     exact ⟨rfl, S1.out⟩
end Go.Proofs.Ytohhobcipfmkbaa.SpanS
namespace Go.Proofs.Ytohhobcipfmkbaa.CSort
open Go.RowKit Go.Proofs.YtohhobcipfmkbaaW.PrintWords Go.Proofs.YtohhobcipfmkbaaW.PrintMore Go.Proofs.YtohhobcipfmkbaaW.PrintLast Go.Proofs.Ytohhobcipfmkbaa.U Go.Proofs.Ytohhobcipfmkbaa.PClusterFinest
open Go.Shelf
theorem sp33 : SpanS.SP Try.prog 2 where
 mixed := by kernel_rfl
 f101 := Try.func101
 f97 := Try.func97
 f92 := Try.func92
 t0 := Try.underlying0
 a0 := Try.isAgg0
 z0 := Try.sizeOf0
 v0 := Try.zeroValue0
 t3 := Try.underlying3
 a3 := Try.isAgg3
 z3 := Try.sizeOf3
 t4 := Try.underlying4
 a4 := Try.isAgg4
 z4 := Try.sizeOf4
 t124 := Try.underlying124
 a124 := Try.isAgg124
 z124 := Try.sizeOf124
 tsl := Try.underlying49
 asl := Try.isAgg49
 zsl := Try.sizeOf49
 tfn := Try.underlying79
 afn := Try.isAgg79
 zfn := Try.sizeOf79
 aE := Try.isAgg33
 zE := Try.sizeOf33
set_option maxRecDepth 100000 in
set_option maxHeartbeats 2000000 in
theorem stable_some {w : World} {base : Nat} {ok : Nat → Prop} {v : Value} {f : List S33} (h : Kd.R k33 33 w base ok v f) (h0 : 0 < f.length) (hm : f.length < 1000000) :
 Calls Try.prog 53 #[v, .func (.func 54) #[] #[]] w fun e w' => e = .returned (.tuple #[]) ∧ ∃ d : List S33, d.Perm f ∧ d.Pairwise (fun a b => ¬ b.f0 < a.f0) ∧ SLk k33 w' v d ∧ w.grownBy w' v.ownBlock := by
 obtain ⟨g, cap, rfl, hg, hgs, _⟩ := Kd.R_form h h0
 have hH := holds33 h
 obtain ⟨_, hcap, _⟩ := Kd.R_reads' h
 obtain ⟨n, hn⟩ : ∃ n, n = f.length := ⟨_, rfl⟩
 have hsa : f.toArray.size = n := by simp [hn]
 have hR : RowK enc33 2 w g 0 f.toArray := ⟨fun _ => rfl, fun x v hv => by simp [enc33] at hv; rcases hv with rfl | rfl <;> rfl, hH, hgs⟩
 have eg : ∀ args w, (callFunc 54 args).run Try.prog w = .ok (.enter 54 args) w := enters_of Try.func54 (by kernel_rfl) rfl
 have hcmp : CmpLays Try.prog 54 #[] enc33 2 cf33 g 0 n w := fun m os dk _ x y => byLo_c x y _
 have hcon := SpanS.stab_c enc33 cf33 54 #[] g 0 cap n w (by omega)
  (fun a b d w1 hd S hab hb => by
   have := AnyQ.insertionSortCmpFunc_w lins 2 Try.isAgg33 Try.sizeOf33 enc33 cf33 54 #[] g 0 cap a b f.toArray d w w1 eg (by rw [hsa]; exact hcmp) hR (hsa.trans hd.symm) S swo33 hab (by omega) (by omega)
   change Calls Try.prog 91 _ _ _ at this
   rw [hd] at this
   exact this)
  (fun a b d hd hab hb => ((Go.Sort.insertionSort_holds swo33 d a b hab (by omega)).1.1).trans hd)
  (fun a m b d w1 hd S h1 h2 h3 => SpanS.sym_c sp33 enc33 cf33 54 #[] g 0 cap n f.toArray w hR hsa eg hcmp (by omega) n a m b d w1 hd S h1 h2 h3 (by omega))
  f.toArray w hsa (SWK.start hH)
 have hs := UStable.stable_ok swo33 (ltOf cf33) n f.toArray (by omega) (fun _ _ _ _ => rfl)
 rw [← hn]
 obtain ⟨r, hr⟩ : ∃ r, r = UStable.stable (ltOf cf33) n f.toArray := ⟨_, rfl⟩
 rw [← hr] at hcon hs
 have HCON : Aside0 (Calls Try.prog 79 #[.slice (some ⟨g, 0, none⟩) n cap, .int .i64 n, .func (.func 54) #[] #[]] w _) := ⟨hcon⟩
 have HS := Aside0.mk hs
 have HH := Aside0.mk hH
 have HN := Aside0.mk hn
 have HA := Aside0.mk hsa
 clear hcon hs hH hcmp hR eg hn hsa hr
 go_enter Try.func53, Try.ntmps53
 go_wp2_with (go_at_call 79; refine HCON.out.mono ?_; rintro e w2 ⟨rfl, hS⟩; have HS9 := Aside0.mk hS; clear hS)
 go_end0
 have hsz : r.size = n := by rw [HS.out.1.1]; exact HA.out
 obtain ⟨q, os, hw2⟩ := HS9.out
 have hn' := HN.out
 subst hw2
 have hp := HS.out.1
 rw [HN.out] at hp
 refine ⟨rfl, _, perm_of hp, ?_, ?_, grown_sorted⟩
 ·rw [List.pairwise_iff_getElem]
  intro i j hi hj hij
  have := HS.out.2 i j (Nat.zero_le _) hij (by rw [← hsz]; simpa using hj)
  rw [lt33, getElem!_pos _ i (by simpa using hi), getElem!_pos _ j (by simpa using hj)] at this
  simpa using this
 ·have := reads33 (cap := cap) (holdsK_sortWorldK enc33 2 w g 0 q f.toArray r os hgs HH.out (by rw [hsz, HA.out])) (by omega) (by omega)
  rw [show r.toList.length = n by simpa using hsz] at this
  exact this
set_option maxRecDepth 100000 in
set_option maxHeartbeats 2000000 in
theorem stable_none {w : World} {base : Nat} {ok : Nat → Prop} {v : Value} {f : List S33} (h : Kd.R k33 33 w base ok v f) (h0 : f.length = 0) :
 Calls Try.prog 53 #[v, .func (.func 54) #[] #[]] w fun e w' => e = .returned (.tuple #[]) ∧ ∃ d : List S33, d.Perm f ∧ d.Pairwise (fun a b => ¬ b.f0 < a.f0) ∧ SLk k33 w' v d ∧ w.grownBy w' v.ownBlock := by
 obtain ⟨A, c, rfl, hl, hr⟩ := Kd.R_reads h
 have hsl : SLk k33 w (.slice A f.length c) f := SLk.of_R h
 have hf : f = [] := List.eq_nil_of_length_eq_zero h0
 subst hf
 have HS := Aside0.mk hsl
 have hcon := fun W => AnyF.insertionSortCmpFunc_none lins A c (.func (.func 54) #[] #[]) W
 change ∀ W, Calls Try.prog 91 _ _ _ at hcon
 have HCON := Aside0.mk hcon
 clear hcon hsl h hr hl h0
 go_enter Try.func53, Try.ntmps53
 go_wp2_with (go_at_call 79; go_enter Try.func79, Try.ntmps79)
 refine wp_loop_rounds 1 ?_
 rw [rounds_succ]
 go_wp2_with (go_at_call 91; refine (HCON.out _).mono ?_; rintro e w2 ⟨rfl, rfl⟩)
 refine wp_loop_rounds 1 ?_
 rw [rounds_succ]
 go_wp2_with fail
 go_end0
 go_wp2_with fail
 go_end0
 first | exact ⟨HS.out, World.grownBy.refl _ _⟩ | exact ⟨rfl, HS.out, World.grownBy.refl _ _⟩
theorem stable_all {w : World} {base : Nat} {ok : Nat → Prop} {v : Value} {f : List S33} (h : Kd.R k33 33 w base ok v f) (hm : f.length < 1000000) :
 Calls Try.prog 53 #[v, .func (.func 54) #[] #[]] w fun e w' => e = .returned (.tuple #[]) ∧ ∃ d : List S33, d.Perm f ∧ d.Pairwise (fun a b => ¬ b.f0 < a.f0) ∧ SLk k33 w' v d ∧ w.grownBy w' v.ownBlock := by
 rcases Nat.eq_zero_or_pos f.length with h0 | h0
 ·exact stable_none h h0
 ·exact stable_some h h0 hm
theorem check_c {w : World} {v : Value} {l : List S45} (n m : Int) (h : SLk k45 w v l) (hl : l.length < 1000000) :
 Calls Try.prog 29 #[v, .int .i64 n, .int .i64 m] w fun e w' => ∃ d : List S33, d.Perm (l.map (·.f1)) ∧ d.Pairwise (fun a b => ¬ b.f0 < a.f0) ∧ e = .returned (.bool (checkB n m l d)) ∧ Below w.heap.size w w' :=
 check_by n m h (by omega) (fun _ _ _ _ hu => stable_all hu (by rw [List.length_map]; exact hl))
end Go.Proofs.Ytohhobcipfmkbaa.CSort
