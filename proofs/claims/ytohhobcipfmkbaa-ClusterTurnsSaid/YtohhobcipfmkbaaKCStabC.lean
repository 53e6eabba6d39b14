/- Texts of this claim, cut to what it needs. -/
import Derived.Deep.LoopGhost
import Derived.Deep.DeepCutAuto
import Derived.Test.YtohhobcipfmkbaaKCCluC
import Derived.Test.YtohhobcipfmkbaaKUBase
namespace Go.Proofs.Ytohhobcipfmkbaa.CluS
open Go.Shelf Go.RowKit Go.Lib Go.Sort
set_option linter.unusedVariables false
set_option linter.unusedSimpArgs false
open Go.Proofs.Ytohhobcipfmkbaa.UStable Go.Proofs.Ytohhobcipfmkbaa.U Go.Proofs.YtohhobcipfmkbaaW.PrintWords
variable {α : Type} [Inhabited α]
set_option maxHeartbeats 4000000 in
set_option maxRecDepth 1000000 in
theorem stab_c {k : Nat} (enc : α → List Value) (cf : α → α → Int) (g : Nat) (cb : Array Value) (blk off cap n : Nat) (w0 : World) (hn : n < 1000000)
    (hI : ∀ (a b : Nat) (d : Array α) (w : World), d.size = n → SWK enc k w0 blk off d w → a ≤ b → b ≤ n → Calls Try.prog 95 #[.slice (some ⟨blk, off, none⟩) n cap, .int .i64 a, .int .i64 b, .func (.func g) #[] cb] w fun e w' => e = .returned (.tuple #[]) ∧ SWK enc k w0 blk off (insertionSort (ltOf cf) d a b) w')
    (hIs : ∀ (a b : Nat) (d : Array α), d.size = n → a ≤ b → b ≤ n → (insertionSort (ltOf cf) d a b).size = n)
    (hM : ∀ (a m b : Nat) (d : Array α) (w : World), d.size = n → SWK enc k w0 blk off d w → a < m → m < b → b ≤ n → Calls Try.prog 96 #[.slice (some ⟨blk, off, none⟩) n cap, .int .i64 a, .int .i64 m, .int .i64 b, .func (.func g) #[] cb] w fun e w' => e = .returned (.tuple #[]) ∧ SWK enc k w0 blk off (symMerge (ltOf cf) n a m b d) w')
    (d : Array α) (w : World) (hds : d.size = n) (S : SWK enc k w0 blk off d w) :
    Calls Try.prog 90 #[.slice (some ⟨blk, off, none⟩) n cap, .int .i64 n, .func (.func g) #[] cb] w fun e w' => e = .returned (.tuple #[]) ∧ SWK enc k w0 blk off (stable (ltOf cf) n d) w' := by
  have S0 : Aside (SWK enc k w0 blk off d w) := S
  have HI := Aside0.mk hI
  have HIS := Aside0.mk hIs
  have HM := Aside0.mk hM
  obtain ⟨res, hres⟩ : ∃ res, res = stable (ltOf cf) n d := ⟨_, rfl⟩
  obtain ⟨r1, hr1⟩ : ∃ r1, r1 = insBlocks (ltOf cf) n (n + 1) 0 d := ⟨_, rfl⟩
  have HR : Aside (mergeRows (ltOf cf) n (n + 1) 20 r1 = res) := (show _ = _ by rw [hres, hr1]; rfl)
  have HR1 : Aside (insBlocks (ltOf cf) n (n + 1) 0 d = r1) := hr1.symm
  rw [← hres]
  clear S hI hIs hM hres hr1
  go_enter Try.func90, Try.ntmps90
  go_wp2
  go_loopg [7, 8] n (fun kx v7 v8 wr => ∃ (a b f : Nat) (dk : Array α), v7 = .int .i64 a ∧ v8 = .int .i64 b ∧ b = a + 20 ∧ a ≤ n ∧ n - a ≤ kx ∧ n - a < f ∧ dk.size = n ∧ Aside (SWK enc k w0 blk off dk wr) ∧ Aside (insBlocks (ltOf cf) n f a dk = r1))
  case atStart => exact ⟨0, 20, n + 1, d, rfl, rfl, rfl, Nat.zero_le _, Nat.le_refl _, by omega, hds, S0, HR1⟩
  case round =>
    clear S0 HR1 hds
    obtain ⟨a, b, f, dk, rfl, rfl, hb, ha, hkx, hf, hdk, S1, heq⟩ := hrel
    obtain ⟨f', rfl⟩ : ∃ f', f = f' + 1 := ⟨f - 1, by omega⟩
    have hab : a < b := by omega
    by_cases hlt : b ≤ n
    · have hltz : (b : Int) ≤ (n : Int) := by omega
      have hz2 : ¬ (n : Int) < (b : Int) := by omega
      have HE : Aside (insBlocks (ltOf cf) n f' b (insertionSort (ltOf cf) dk a b) = r1) := (show _ = _ by
        have := heq.out
        rw [insBlocks, if_pos (by omega), ← hb] at this
        exact this)
      have HCA := Aside0.mk (HI.out a b dk wr hdk S1.out (by omega) hlt)
      have hsz := HIS.out a b dk hdk (by omega) hlt
      have hnb : n - b < f' := by omega
      clear heq S1 hb
      go_wp2_with (go_at_call 95; refine HCA.out.mono ?_; rintro e w9 ⟨rfl, hS⟩; have S9 : Aside (SWK enc k w0 blk off (insertionSort (ltOf cf) dk a b) w9) := hS; clear hS)
      go_roundg (n - b)
      case measure => omega
      case rel => exact ⟨b, b + 20, f', _, rfl, by first | rfl | go_num, rfl, hlt, Nat.le_refl _, hnb, hsz, S9, HE⟩
    · have hltz : ¬ (b : Int) ≤ (n : Int) := by omega
      have hz2 : (n : Int) < (b : Int) := by omega
      have HE : Aside (insertionSort (ltOf cf) dk a n = r1) := (show _ = _ by
        have := heq.out
        rw [insBlocks, if_neg (by omega)] at this
        exact this)
      have HCA := Aside0.mk (HI.out a n dk wr hdk S1.out ha (Nat.le_refl _))
      have hsz := HIS.out a n dk hdk ha (Nat.le_refl _)
      rw [HE.out] at hsz HCA
      clear heq S1 HE hb
      go_wp2_with (go_at_call 95; refine HCA.out.mono ?_; rintro e w9 ⟨rfl, hS⟩; have S9 : Aside (SWK enc k w0 blk off r1 w9) := hS; clear hS)
      clear HCA hdk hltz hz2 hlt hf hkx ha
      go_loopg [6] n (fun kx v6 wr => ∃ (s f : Nat) (dk : Array α), v6 = .int .i64 s ∧ 0 < s ∧ s < 2000000 ∧ n - s ≤ kx ∧ n - s < f ∧ dk.size = n ∧ Aside (SWK enc k w0 blk off dk wr) ∧ Aside (mergeRows (ltOf cf) n f s dk = res))
      case atStart => exact ⟨20, n + 1, r1, rfl, by omega, by omega, by omega, by omega, hsz, S9, HR⟩
      case round =>
        clear S9 HR hsz
        obtain ⟨s, f, dk, rfl, hs0, hs1, hkx, hf, hdk, S1, heq⟩ := hrel
        obtain ⟨f', rfl⟩ : ∃ f', f = f' + 1 := ⟨f - 1, by omega⟩
        by_cases hlt : s < n
        · have hltz : (s : Int) < (n : Int) := by omega
          obtain ⟨r2, hr2⟩ : ∃ r2, r2 = mergeRow (ltOf cf) s n (n + 1) 0 dk := ⟨_, rfl⟩
          have HE : Aside (mergeRows (ltOf cf) n f' (2 * s) r2 = res) := (show _ = _ by
            have := heq.out
            rw [mergeRows, if_pos hlt, ← hr2] at this
            exact this)
          have HR2 : Aside (mergeRow (ltOf cf) s n (n + 1) 0 dk = r2) := hr2.symm
          clear heq hr2
          go_wp2
          go_loopg [7, 8] n (fun ky v7 v8 wr => ∃ (a b g' : Nat) (dj : Array α), v7 = .int .i64 a ∧ v8 = .int .i64 b ∧ b = a + 2 * s ∧ a ≤ n ∧ n - a ≤ ky ∧ n - a < g' ∧ dj.size = n ∧ Aside (SWK enc k w0 blk off dj wr) ∧ Aside (mergeRow (ltOf cf) s n g' a dj = r2))
          case atStart => exact ⟨0, 2 * s, n + 1, dk, rfl, by first | rfl | go_num, by omega, Nat.zero_le _, Nat.le_refl _, by omega, hdk, S1, HR2⟩
          case round =>
            clear S1 HR2 hdk
            obtain ⟨a, b, g', dj, rfl, rfl, hb, ha, hky, hg, hdj, S1, heq⟩ := hrel
            obtain ⟨g', rfl⟩ : ∃ g2, g' = g2 + 1 := ⟨g' - 1, by omega⟩
            have hab : a < b := by omega
            obtain ⟨m, hm⟩ : ∃ m, m = a + s := ⟨_, rfl⟩
            have em : (a : Int) + (s : Int) = (m : Int) := by omega
            by_cases hlt2 : b ≤ n
            · have hltz2 : (b : Int) ≤ (n : Int) := by omega
              have hz2 : ¬ (n : Int) < (b : Int) := by omega
              have HE2 : Aside (mergeRow (ltOf cf) s n g' b (symMerge (ltOf cf) n a m b dj) = r2) := (show _ = _ by
                have := heq.out
                rw [mergeRow, if_pos (by omega), ← hb, ← hm] at this
                exact this)
              have HCA := Aside0.mk (HM.out a m b dj wr hdj S1.out (by omega) (by omega) hlt2)
              have hsz : (symMerge (ltOf cf) n a m b dj).size = n := (symMerge_size _ _ _ _ _ _).trans hdj
              have hnb : n - b < g' := by omega
              clear heq S1 hb hm
              go_wp2_with (go_at_call 96; refine HCA.out.mono ?_; rintro e w9 ⟨rfl, hS⟩; have S9 : Aside (SWK enc k w0 blk off (symMerge (ltOf cf) n a m b dj) w9) := hS; clear hS)
              go_roundg (n - b)
              case measure => omega
              case rel => exact ⟨b, b + 2 * s, g', _, rfl, by first | rfl | go_num, rfl, hlt2, Nat.le_refl _, hnb, hsz, S9, HE2⟩
            · have hltz2 : ¬ (b : Int) ≤ (n : Int) := by omega
              have hz2 : (n : Int) < (b : Int) := by omega
              by_cases hmn : m < n
              · have hmz : (m : Int) < (n : Int) := by omega
                have HE2 : Aside (symMerge (ltOf cf) n a m n dj = r2) := (show _ = _ by
                  have := heq.out
                  rw [mergeRow, if_neg (by omega), ← hm, if_pos hmn] at this
                  exact this)
                have HCA := Aside0.mk (HM.out a m n dj wr hdj S1.out (by omega) hmn (Nat.le_refl _))
                have hsz : (symMerge (ltOf cf) n a m n dj).size = n := (symMerge_size _ _ _ _ _ _).trans hdj
                rw [HE2.out] at hsz HCA
                clear heq S1 hb hm HE2
                go_wp2_with (go_at_call 96; refine HCA.out.mono ?_; rintro e w9 ⟨rfl, hS⟩; have S9 : Aside (SWK enc k w0 blk off r2 w9) := hS; clear hS)
                go_roundg (n - 2 * s)
                case measure => omega
                case rel => exact ⟨2 * s, f', r2, by first | rfl | go_num, by omega, by omega, Nat.le_refl _, by omega, hsz, S9, HE⟩
              · have hmz : ¬ (m : Int) < (n : Int) := by omega
                have hdr : dj = r2 := by
                  have := heq.out
                  rw [mergeRow, if_neg (by omega), ← hm, if_neg hmn] at this
                  exact this
                subst hdr
                clear heq hb hm
                go_wp2
                go_roundg (n - 2 * s)
                case measure => omega
                case rel => exact ⟨2 * s, f', dj, by first | rfl | go_num, by omega, by omega, Nat.le_refl _, by omega, hdj, S1, HE⟩
        · have hltz : ¬ (s : Int) < (n : Int) := by omega
          have hdr : dk = res := by
            have := heq.out
            rw [mergeRows, if_neg hlt] at this
            exact this
          subst hdr
          clear heq
          go_wp2
          go_end0
          exact ⟨rfl, S1.out⟩
end Go.Proofs.Ytohhobcipfmkbaa.CluS
