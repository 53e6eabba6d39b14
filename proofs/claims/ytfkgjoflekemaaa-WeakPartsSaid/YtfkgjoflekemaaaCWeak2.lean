/- The fourth and the fifth step of the weak types; all of them, one behind the other. -/
import Derived.Test.YtfkgjoflekemaaaCWeak
import Derived.IntWalk
namespace Go.Proofs.Ytfkgjoflekemaaa.CWeak
open Go.RowKit Go.Proofs.YtfkgjoflekemaaaW.PrintWords Go.Proofs.YtfkgjoflekemaaaW.PrintMore Go.Proofs.YtfkgjoflekemaaaW.PrintLast Go.Proofs.Ytfkgjoflekemaaa.U Go.Proofs.Ytfkgjoflekemaaa.CBase Go.Proofs.Ytfkgjoflekemaaa.CInsert
set_option linter.unusedVariables false
set_option linter.unusedSimpArgs false
def v4 (l : List Int) : Nat → Int
  | 0 => rd l 0
  | i + 1 => if i + 2 < l.length then betw (rd l ((i + 1 : Nat) : Int)) (v4 l i) (rd l ((i + 2 : Nat) : Int)) else rd l ((i + 1 : Nat) : Int)
def w4To (l : List Int) (k : Nat) : List Int := (List.range l.length).map fun i => if i < k then v4 l i else rd l (i : Int)
def w4L (l : List Int) : List Int := (List.range l.length).map (v4 l)
theorem v4_end (l : List Int) (i : Nat) (h : l.length ≤ i + 1) : v4 l i = rd l (i : Int) := by
  cases i with
  | zero => rfl
  | succ i => rw [v4, if_neg (by omega)]
theorem w4To_one (l : List Int) : w4To l 1 = l := by
  unfold w4To
  apply List.ext_getElem
  · simp
  · intro i h1 h2
    simp only [List.getElem_map, List.getElem_range]
    by_cases h : i < 1
    · rw [if_pos h]
      obtain rfl : i = 0 := by omega
      rw [v4, ← rd_get h2]; rfl
    · rw [if_neg h, rd_get h2]
theorem w4To_length (l : List Int) (k : Nat) : (w4To l k).length = l.length := by simp [w4To]
theorem w4To_end (l : List Int) (k : Nat) (h : l.length ≤ k + 1) : w4To l k = w4L l := by
  unfold w4To w4L
  apply List.map_congr_left
  intro i hi
  have := List.mem_range.1 hi
  by_cases h2 : i < k
  · rw [if_pos h2]
  · rw [if_neg h2, v4_end l i (by omega)]
theorem w4To_get (l : List Int) (k i : Nat) (hi : i < l.length) : rd (w4To l k) (i : Int) = if i < k then v4 l i else rd l (i : Int) := by
  rw [rd_get (by rw [w4To_length]; exact hi)]
  simp [w4To]
theorem w4To_succ (l : List Int) (k : Nat) (hk : k + 2 < l.length) : (w4To l (k + 1)).set (k + 1) (betw (rd l ((k + 1 : Nat) : Int)) (v4 l k) (rd l ((k + 2 : Nat) : Int))) = w4To l (k + 2) := by
  apply List.ext_getElem
  · simp [w4To]
  · intro i h1 h2
    rw [List.getElem_set]
    by_cases e : k + 1 = i
    · subst e
      simp [w4To, v4, hk]
    · rw [if_neg e]
      simp only [w4To, List.getElem_map, List.getElem_range]
      by_cases h : i < k + 1
      · rw [if_pos h, if_pos (by omega)]
      · rw [if_neg h, if_neg (by omega)]
set_option maxRecDepth 100000 in
set_option maxHeartbeats 2000000 in
theorem w4_c {v : Value} {l : List Int} {w : World} (h : SL w v l) (hm : l.length ≤ 1000000) : Calls Try.prog 77 #[v] w fun e w' => ∃ u, e = .returned u ∧ SL w' u (w4L l) ∧ Below w.heap.size w w' := by
  have H := Aside0.mk h
  obtain ⟨A, c, rfl, _, _⟩ := h
  go_enter Try.func77, Try.ntmps77
  go_wp2_with fail
  refine (clone_c H.out hm).mono ?_
  rintro e w1 ⟨u, rfl, hu, hb⟩
  have HB := Aside0.mk hb
  clear hb
  by_cases h0 : 0 < l.length
  · obtain ⟨g, cap, ev, hg, hcap⟩ := CSlices.R_form' hu h0
    subst ev
    have hR : Aside0 (Kd.R (Kd.int .i64) 3 w1 w.heap.size (fun _ => True) (.slice (some ⟨g, 0, none⟩) l.length cap) (w4To l 1)) := ⟨by rw [w4To_one]; exact hu⟩
    have HG := Aside0.mk hg
    clear hu hg hcap
    go_wp2_with fail
    go_loopw [4] (fun v wr => ∃ k : Nat, v = .int .i64 ((k : Int) + 1) ∧ k < l.length ∧ Aside0 (Kd.R (Kd.int .i64) 3 wr w.heap.size (fun _ => True) (.slice (some ⟨g, 0, none⟩) l.length cap) (w4To l (k + 1))) ∧ Aside0 (Below w.heap.size w wr)) (fun v _ => l.length - (intOf v).toNat)
    case atStart => exact ⟨0, rfl, h0, hR, HB⟩
    case round =>
      clear hR HB
      obtain ⟨k, rfl, hk, hR, HB⟩ := hrel
      by_cases hlt : k + 2 < l.length
      · obtain ⟨y1, z1⟩ := Kd.R_celln (0 : Int) hR.out ((k : Int) + 1) (by omega) (by omega)
        obtain ⟨y0, _⟩ := Kd.R_celln (0 : Int) hR.out (k : Int) (by omega) (by omega)
        obtain ⟨y2, _⟩ := Kd.R_celln (0 : Int) hR.out ((k : Int) + 2) (by omega) (by omega)
        have r1 : rdOf (0 : Int) (w4To l (k + 1)) ((k : Int) + 1) = rd l ((k + 1 : Nat) : Int) := by
          have := w4To_get l (k + 1) (k + 1) (by omega)
          rw [if_neg (by omega)] at this
          exact this
        have r0 : rdOf (0 : Int) (w4To l (k + 1)) (k : Int) = v4 l k := by
          have := w4To_get l (k + 1) k (by omega)
          rw [if_pos (by omega)] at this
          exact this
        have r2 : rdOf (0 : Int) (w4To l (k + 1)) ((k : Int) + 2) = rd l ((k + 2 : Nat) : Int) := by
          have := w4To_get l (k + 1) (k + 2) (by omega)
          rw [if_neg (by omega)] at this
          exact this
        rw [r1] at y1
        rw [r0] at y0
        rw [r2] at y2
        rw [show ((k : Int) + 1).toNat = k + 1 by omega] at y1 z1
        rw [show ((k : Int) + 2).toNat = k + 2 by omega] at y2
        rw [Int.toNat_natCast] at y0
        clear r0 r1 r2
        have hs := w4To_succ l k hlt
        generalize rd l ((k + 1 : Nat) : Int) = p1 at y1 hs
        generalize rd l ((k + 2 : Nat) : Int) = p2 at y2 hs
        generalize v4 l k = p0 at y0 hs
        have HS := Aside0.mk hs
        clear hs
        have h3 : (k : Int) + 1 + 1 < (l.length : Int) := by omega
        have h3a : (k : Int) + 1 < (l.length : Int) := by omega
        have h3b : (k : Int) < (l.length : Int) := by omega
        have h3c : 0 ≤ (k : Int) + 1 := by omega
        have h3d : 0 ≤ (k : Int) + 1 + 1 := by omega
        have h4a : IntKind.i64.wrap (k : Int) = (k : Int) := IntWalk.i64_in _ (by omega)
        have h4b : IntKind.i64.wrap ((k : Int) + 1 + 1) = (k : Int) + 1 + 1 := IntWalk.i64_in _ (by omega)
        have h3e : ((k : Int) + 1).toNat = k + 1 := by omega
        have h3f : ((k : Int) + 1 + 1).toNat = k + 2 := by omega
        go_wp2_with fail
        have HBd := Aside0.mk (below_drew HB.out)
        have HSd := Aside0.mk (below_drew (Below.refl wr.heap.size wr))
        have HRd := Aside0.mk (Kd.R_drewN hR.out 1)
        refine start_ (n := 19) (S := fun W => Below wr.heap.size wr W) (ds := [18]) #[false, false, false, false, false, false, false, false, false, false, false, false, false, false, false, false, false, false, false] (by kernel_rfl) (by kernel_rfl) (by rfl) (below_drew (Below.refl _ _)) (fun hS0 => ?_)
        refine pure_ (i := 0) (N := (some 14)) (v := ?_) (a' := ?_) #[true, false, false, false, false, false, false, false, false, false, false, false, false, false, false, false, false, false, false] rfl rfl (by kernel_rfl) (fun _ _ _ h => h) (Or.inl ⟨by rfl, ?_⟩) ?_ ?_
        rotate_left
        · intro w'
          go_simp
          with_reducible rfl
        rotate_left
        · simp only [Act.put, List.setIfInBounds_toArray, List.set_cons_zero, List.set_cons_succ]
          rfl
        refine pure_ (i := 1) (N := (some 15)) (v := ?_) (a' := ?_) #[true, true, false, false, false, false, false, false, false, false, false, false, false, false, false, false, false, false, false] rfl rfl (by kernel_rfl) (fun _ _ _ h => h) (Or.inl ⟨by rfl, ?_⟩) ?_ ?_
        rotate_left
        · intro w'
          go_simp
          with_reducible rfl
        rotate_left
        · simp only [Act.put, List.setIfInBounds_toArray, List.set_cons_zero, List.set_cons_succ]
          rfl
        refine pure_ (i := 2) (N := (some 16)) (v := ?_) (a' := ?_) #[true, true, true, false, false, false, false, false, false, false, false, false, false, false, false, false, false, false, false] rfl rfl (by kernel_rfl) (fun _ _ _ h => h) (Or.inl ⟨by rfl, ?_⟩) ?_ ?_
        rotate_left
        · intro w'
          go_simp
          with_reducible rfl
        rotate_left
        · simp only [Act.put, List.setIfInBounds_toArray, List.set_cons_zero, List.set_cons_succ]
          rfl
        refine pure_ (i := 3) (N := (some 17)) (v := ?_) (a' := ?_) #[true, true, true, true, false, false, false, false, false, false, false, false, false, false, false, false, false, false, false] rfl rfl (by kernel_rfl) (fun _ _ _ h => h) (Or.inl ⟨by rfl, ?_⟩) ?_ ?_
        rotate_left
        · intro w'
          go_simp
          with_reducible rfl
        rotate_left
        · simp only [Act.put, List.setIfInBounds_toArray, List.set_cons_zero, List.set_cons_succ]
          rfl
        refine pure_ (i := 4) (N := (some 18)) (v := ?_) (a' := ?_) #[true, true, true, true, true, false, false, false, false, false, false, false, false, false, false, false, false, false, false] rfl rfl (by kernel_rfl) (fun _ _ _ h => h) (Or.inl ⟨by rfl, ?_⟩) ?_ ?_
        rotate_left
        · intro w'
          go_simp
          with_reducible rfl
        rotate_left
        · simp only [Act.put, List.setIfInBounds_toArray, List.set_cons_zero, List.set_cons_succ]
          rfl
        refine take_ (i := 5) (N := (some 19)) (v := ?_) (a' := ?_) #[true, true, true, true, true, true, false, false, false, false, false, false, false, false, false, false, false, false, false] rfl rfl (by kernel_rfl) (fun _ _ _ h => h) (Or.inl ⟨by rfl, ?_⟩) hS0 ?_ ?_
        rotate_left
        · intro w' s0
          have hx := (s0.cell (World.block_lt_of_cell? wr _ y1)).trans y1
          go_simp
          with_reducible rfl
        rotate_left
        · simp only [Act.put, List.setIfInBounds_toArray, List.set_cons_zero, List.set_cons_succ]
          rfl
        refine pure_ (i := 6) (N := (some 20)) (v := ?_) (a' := ?_) #[true, true, true, true, true, true, true, false, false, false, false, false, false, false, false, false, false, false, false] rfl rfl (by kernel_rfl) (fun _ _ _ h => h) (Or.inl ⟨by rfl, ?_⟩) ?_ ?_
        rotate_left
        · intro w'
          go_simp
          with_reducible rfl
        rotate_left
        · simp only [Act.put, List.setIfInBounds_toArray, List.set_cons_zero, List.set_cons_succ]
          rfl
        refine pure_ (i := 7) (N := (some 21)) (v := ?_) (a' := ?_) #[true, true, true, true, true, true, true, true, false, false, false, false, false, false, false, false, false, false, false] rfl rfl (by kernel_rfl) (fun _ _ _ h => h) (Or.inl ⟨by rfl, ?_⟩) ?_ ?_
        rotate_left
        · intro w'
          go_simp
          with_reducible rfl
        rotate_left
        · simp only [Act.put, List.setIfInBounds_toArray, List.set_cons_zero, List.set_cons_succ]
          rfl
        refine pure_ (i := 8) (N := (some 22)) (v := ?_) (a' := ?_) #[true, true, true, true, true, true, true, true, true, false, false, false, false, false, false, false, false, false, false] rfl rfl (by kernel_rfl) (fun _ _ _ h => h) (Or.inl ⟨by rfl, ?_⟩) ?_ ?_
        rotate_left
        · intro w'
          go_simp
          with_reducible rfl
        rotate_left
        · simp only [Act.put, List.setIfInBounds_toArray, List.set_cons_zero, List.set_cons_succ]
          rfl
        refine pure_ (i := 9) (N := (some 23)) (v := ?_) (a' := ?_) #[true, true, true, true, true, true, true, true, true, true, false, false, false, false, false, false, false, false, false] rfl rfl (by kernel_rfl) (fun _ _ _ h => h) (Or.inl ⟨by rfl, ?_⟩) ?_ ?_
        rotate_left
        · intro w'
          go_simp
          with_reducible rfl
        rotate_left
        · simp only [Act.put, List.setIfInBounds_toArray, List.set_cons_zero, List.set_cons_succ]
          rfl
        refine take_ (i := 10) (N := (some 24)) (v := ?_) (a' := ?_) #[true, true, true, true, true, true, true, true, true, true, true, false, false, false, false, false, false, false, false] rfl rfl (by kernel_rfl) (fun _ _ _ h => h) (Or.inl ⟨by rfl, ?_⟩) hS0 ?_ ?_
        rotate_left
        · intro w' s0
          have hx := (s0.cell (World.block_lt_of_cell? wr _ y0)).trans y0
          go_simp
          with_reducible rfl
        rotate_left
        · simp only [Act.put, List.setIfInBounds_toArray, List.set_cons_zero, List.set_cons_succ]
          rfl
        refine pure_ (i := 11) (N := (some 25)) (v := ?_) (a' := ?_) #[true, true, true, true, true, true, true, true, true, true, true, true, false, false, false, false, false, false, false] rfl rfl (by kernel_rfl) (fun _ _ _ h => h) (Or.inl ⟨by rfl, ?_⟩) ?_ ?_
        rotate_left
        · intro w'
          go_simp
          with_reducible rfl
        rotate_left
        · simp only [Act.put, List.setIfInBounds_toArray, List.set_cons_zero, List.set_cons_succ]
          rfl
        refine pure_ (i := 12) (N := (some 26)) (v := ?_) (a' := ?_) #[true, true, true, true, true, true, true, true, true, true, true, true, true, false, false, false, false, false, false] rfl rfl (by kernel_rfl) (fun _ _ _ h => h) (Or.inl ⟨by rfl, ?_⟩) ?_ ?_
        rotate_left
        · intro w'
          go_simp
          with_reducible rfl
        rotate_left
        · simp only [Act.put, List.setIfInBounds_toArray, List.set_cons_zero, List.set_cons_succ]
          rfl
        refine pure_ (i := 13) (N := (some 27)) (v := ?_) (a' := ?_) #[true, true, true, true, true, true, true, true, true, true, true, true, true, true, false, false, false, false, false] rfl rfl (by kernel_rfl) (fun _ _ _ h => h) (Or.inl ⟨by rfl, ?_⟩) ?_ ?_
        rotate_left
        · intro w'
          go_simp
          with_reducible rfl
        rotate_left
        · simp only [Act.put, List.setIfInBounds_toArray, List.set_cons_zero, List.set_cons_succ]
          rfl
        refine pure_ (i := 14) (N := (some 28)) (v := ?_) (a' := ?_) #[true, true, true, true, true, true, true, true, true, true, true, true, true, true, true, false, false, false, false] rfl rfl (by kernel_rfl) (fun _ _ _ h => h) (Or.inl ⟨by rfl, ?_⟩) ?_ ?_
        rotate_left
        · intro w'
          go_simp
          with_reducible rfl
        rotate_left
        · simp only [Act.put, List.setIfInBounds_toArray, List.set_cons_zero, List.set_cons_succ]
          rfl
        refine take_ (i := 15) (N := (some 29)) (v := ?_) (a' := ?_) #[true, true, true, true, true, true, true, true, true, true, true, true, true, true, true, true, false, false, false] rfl rfl (by kernel_rfl) (fun _ _ _ h => h) (Or.inl ⟨by rfl, ?_⟩) hS0 ?_ ?_
        rotate_left
        · intro w' s0
          have hx := (s0.cell (World.block_lt_of_cell? wr _ y2)).trans y2
          go_simp
          with_reducible rfl
        rotate_left
        · simp only [Act.put, List.setIfInBounds_toArray, List.set_cons_zero, List.set_cons_succ]
          rfl
        clear hS0
        refine one_ (i := 16) (N := (some 30)) #[true, true, true, true, true, true, true, true, true, true, true, true, true, true, true, true, true, false, false] rfl rfl (by kernel_rfl) (by decide) (fun K hK => ?_)
        refine goes_ Try.func115 (by kernel_rfl) rfl #[.int .i64 p1, .int .i64 p0, .int .i64 p2] (by rfl) rfl rfl (by (try simp only [List.map_toArray, List.map_cons, List.map_nil]); rfl) ?_
        refine (between_c _ _ _ _).mono ?_
        rintro e w4 ⟨rfl, hb⟩
        refine ⟨_, rfl, ?_⟩
        have HS4 := Aside0.mk (below_step HSd.out hb)
        have HB4 := Aside0.mk (below_step HBd.out hb)
        have HR4 := Aside0.mk (Kd.R_below HRd.out hb)
        clear hb
        refine hK.out _ _ HS4.out (fun hS0 => ?_)
        clear hK
        refine norm_ (a' := ?_) ?_ ?_
        rotate_left
        · simp only [Act.put, List.setIfInBounds_toArray, List.set_cons_zero, List.set_cons_succ]
          rfl
        refine pure_ (i := 17) (N := (some 31)) (v := ?_) (a' := ?_) #[true, true, true, true, true, true, true, true, true, true, true, true, true, true, true, true, true, true, false] rfl rfl (by kernel_rfl) (fun _ _ _ h => h) (Or.inl ⟨by rfl, ?_⟩) ?_ ?_
        rotate_left
        · intro w'
          go_simp
          with_reducible rfl
        rotate_left
        · simp only [Act.put, List.setIfInBounds_toArray, List.set_cons_zero, List.set_cons_succ]
          rfl
        refine last_ (i := 18) (N := none) #[true, true, true, true, true, true, true, true, true, true, true, true, true, true, true, true, true, true, true] rfl rfl (by kernel_rfl) (by decide) (fun K hK => ?_)
        obtain ⟨y4, z4⟩ := Kd.R_celln (0 : Int) HR4.out ((k : Int) + 1) (by omega) (by omega)
        rw [h3e] at y4 z4
        refine skip_ (w1 := w4.setCell ⟨g, k + 1, none⟩ (.int .i64 (betw p1 p0 p2))) (by rfl) rfl ?_ ?_
        · go_simp
        refine hK.out _ _ ?_
        clear hK
        refine done_ (by kernel_rfl) ?_
        clear hS0
        go_wp2_with fail
        have hp := (Kd.R_putg HR4.out ((k : Int) + 1) (betw p1 p0 p2)).1
        rw [h3e, HS.out] at hp
        exact ⟨⟨k + 1, by go_num, by omega, ⟨hp⟩, ⟨below_cells HB4.out HG.out (k + 1) [_]⟩⟩, by simp [intOf]; omega⟩
      · have hn : ¬ ((k : Int) + 1 + 1 < (l.length : Int)) := by omega
        go_wp2_with fail
        go_ret
        rw [w4To_end l (k + 1) (by omega)] at hR
        exact ⟨_, rfl, SLk.of_R hR.out, HB.out⟩
  · have e : l = [] := List.eq_nil_of_length_eq_zero (by omega)
    subst e
    have HU := Aside0.mk (SLk.of_R hu)
    obtain ⟨U, cu, eu⟩ := Kd.R_slice hu
    subst eu
    clear hu
    go_wp2_with fail
    go_loopw [4] (fun v wr => v = .int .i64 1 ∧ wr = w1) (fun v _ => 0)
    case atStart => exact ⟨rfl, rfl⟩
    case round =>
      obtain ⟨rfl, rfl⟩ := hrel
      go_wp2_with fail
      go_ret
      exact ⟨_, rfl, HU.out, HB.out⟩
end Go.Proofs.Ytfkgjoflekemaaa.CWeak
