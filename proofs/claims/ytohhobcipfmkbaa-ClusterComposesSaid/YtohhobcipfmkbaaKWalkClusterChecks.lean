/- Texts of this claim, cut to what it needs. -/
import Derived.Test.YtohhobcipfmkbaaKCStab2
import Derived.RegionTactic
import Derived.IntWalk
import Derived.Test.YtohhobcipfmkbaaKPClusterFinestx0
import Derived.Test.YtohhobcipfmkbaaKPClusterFinestx1
import Derived.Test.YtohhobcipfmkbaaKCFinQ
import Derived.Test.YtohhobcipfmkbaaKCAwk
namespace Go.Proofs.Ytohhobcipfmkbaa.CSort
open Go.RowKit Go.Proofs.YtohhobcipfmkbaaW.PrintWords Go.Proofs.YtohhobcipfmkbaaW.PrintMore Go.Proofs.YtohhobcipfmkbaaW.PrintLast Go.Proofs.Ytohhobcipfmkbaa.U Go.Proofs.Ytohhobcipfmkbaa.PClusterFinest Go.Proofs.Ytohhobcipfmkbaa.CFin
set_option linter.unusedVariables false
set_option linter.unusedSimpArgs false
theorem hi33y : ∃ i, Try.prog.info? 33 = some i ∧ i.size = 2 := by
  have h := info33
  cases hi : Try.prog.info? 33 with
  | none => rw [hi] at h; cases h
  | some i =>
    rw [hi] at h
    simp only [Option.map_some, Option.some.injEq, Prod.mk.injEq] at h
    exact ⟨i, rfl, h.2.1⟩
def cnt (p : S33) : List S33 → Nat
  | [] => 0
  | q :: l => if q.f0 ≤ p.f0 then cnt p l + 1 else 0
def insS (p : S33) (l : List S33) : List S33 := l.take (cnt p l) ++ [p] ++ l.drop (cnt p l)
def sortL (l : List S33) : List S33 := l.foldl (fun o p => insS p o) []
theorem cnt_le (p : S33) (l : List S33) : cnt p l ≤ l.length := by
  induction l with
  | nil => exact Nat.le_refl _
  | cons q l ih => unfold cnt; split <;> simp <;> omega
theorem rd33_nat (l : List S33) (k : Nat) : rd_T33 l (k : Int) = l.getD k z33 := rfl
theorem cnt_lt (p : S33) (l : List S33) : ∀ k : Nat, k < cnt p l → (rd_T33 l k).f0 ≤ p.f0 := by
  induction l with
  | nil => intro k h; exact absurd h (Nat.not_lt_zero _)
  | cons q l ih =>
    intro k h
    unfold cnt at h
    split at h
    · rename_i hq
      cases k with
      | zero => exact hq
      | succ k =>
        have := ih k (by omega)
        rw [rd33_nat] at this ⊢
        simpa using this
    · exact absurd h (Nat.not_lt_zero _)
theorem cnt_at (p : S33) (l : List S33) (h : cnt p l < l.length) : ¬ (rd_T33 l (cnt p l : Nat)).f0 ≤ p.f0 := by
  induction l with
  | nil => exact absurd h (Nat.not_lt_zero _)
  | cons q l ih =>
    unfold cnt at h ⊢
    split
    · rename_i hq
      rw [if_pos hq] at h
      have := ih (by simpa using h)
      rw [rd33_nat] at this ⊢
      simpa using this
    · rename_i hq
      exact hq
theorem insS_perm (p : S33) (l : List S33) : (insS p l).Perm (p :: l) := by
  unfold insS
  rw [List.append_assoc]
  refine List.perm_middle.trans ?_
  show (p :: (List.take _ l ++ List.drop _ l)).Perm _
  rw [List.take_append_drop]
theorem sortL_snoc (l : List S33) (p : S33) : sortL (l ++ [p]) = insS p (sortL l) := by unfold sortL; rw [List.foldl_append]; rfl
theorem foldS_perm (l : List S33) : ∀ acc : List S33, (l.foldl (fun o p => insS p o) acc).Perm (l ++ acc) := by
  induction l with
  | nil => intro acc; exact List.Perm.refl _
  | cons p l ih =>
    intro acc
    refine (ih (insS p acc)).trans ?_
    refine (List.Perm.append_left l (insS_perm p acc)).trans ?_
    exact List.perm_middle
theorem sortL_perm (l : List S33) : (sortL l).Perm l := by
  have := foldS_perm l []
  rwa [List.append_nil] at this
theorem sortL_len (l : List S33) : (sortL l).length = l.length := (sortL_perm l).length_eq
theorem insS_sorted (p : S33) (l : List S33) (h : l.Pairwise (fun a b => ¬ b.f0 < a.f0)) : (insS p l).Pairwise (fun a b => ¬ b.f0 < a.f0) := by
  unfold insS
  induction l with
  | nil => simp [cnt]
  | cons q l ih =>
    rw [List.pairwise_cons] at h
    unfold cnt
    split
    · rename_i hq
      simp only [List.take_succ_cons, List.drop_succ_cons, List.cons_append, List.pairwise_cons]
      refine ⟨fun b hb => ?_, ih h.2⟩
      have : b ∈ p :: l := (insS_perm p l).mem_iff.1 hb
      rcases List.mem_cons.1 this with rfl | hb
      · omega
      · exact h.1 b hb
    · rename_i hq
      simp only [List.take_zero, List.drop_zero, List.nil_append, List.singleton_append, List.pairwise_cons]
      refine ⟨fun b hb => ?_, h⟩
      rcases List.mem_cons.1 hb with rfl | hb
      · omega
      · have := h.1 b hb
        omega
theorem foldS_sorted (l : List S33) : ∀ acc : List S33, acc.Pairwise (fun a b => ¬ b.f0 < a.f0) → (l.foldl (fun o p => insS p o) acc).Pairwise (fun a b => ¬ b.f0 < a.f0) := by
  induction l with
  | nil => intro acc h; exact h
  | cons p l ih => intro acc h; exact ih _ (insS_sorted p acc h)
theorem sortL_sorted (l : List S33) : (sortL l).Pairwise (fun a b => ¬ b.f0 < a.f0) := foldS_sorted l [] List.Pairwise.nil
theorem below_grown2 {B : Nat} {a w w' : World} {row : Option Nat} (h : Below B a w) (hB : B ≤ a.heap.size) (hg : w.grownBy w' row) (hr : ∀ k, row = some k → B ≤ k) : Below B a w' :=
  ⟨hg.os.trans h.os, hg.tape.trans h.tape, hg.output.trans h.output, Nat.le_trans h.size hg.size, fun k hk => (hg.block k (by have := h.size; omega) (fun e => by have := hr k e.symm; omega)).trans (h.block k hk)⟩
theorem own_hat {N M : Nat} {u v : Value} (h : ∀ k, u.ownBlock = some k → N ≤ k) (hat : v.ownBlock = u.ownBlock ∨ ∃ b, v.ownBlock = some b ∧ M ≤ b) (hNM : N ≤ M) : ∀ k, v.ownBlock = some k → N ≤ k := fun k hk => by
  rcases hat with e | ⟨b, e, hb⟩
  · exact h k (by rw [← e]; exact hk)
  · rw [e] at hk
    injection hk with hk
    omega
set_option maxRecDepth 100000 in
set_option maxHeartbeats 4000000 in
theorem sorted_c {w : World} {v : Value} {f : List S33} (h : SLk k33 w v f) (hm : f.length ≤ 1000000) :
    Calls Try.prog 57 #[v] w fun e w' => ∃ u, e = .returned u ∧ Kd.R k33 33 w' w.heap.size (fun _ => True) u (sortL f) ∧ Below w.heap.size w w' := by
  have HM := Aside0.mk hm
  obtain ⟨A, cf, rfl, hcf, hF⟩ := h
  have HFC := Aside0.mk hcf
  have HFF := Aside0.mk hF
  obtain ⟨i33, hi33, hs33⟩ := hi33y
  have HI33 := Aside0.mk hi33
  have HS33 := Aside0.mk hs33
  clear hm hcf hF hi33 hs33
  go_enter Try.func57, Try.ntmps57
  go_wp2
  go_loopw [3, 4] (fun v3 v4 wr => ∃ i : Nat, v4 = .int .i64 i ∧ i ≤ f.length ∧ Aside0 (Kd.R k33 33 wr w.heap.size (fun _ => True) v3 (sortL (f.take i))) ∧ Aside0 (Below w.heap.size w wr)) (fun _ v _ => f.length - (intOf v).toNat)
  case atStart => exact ⟨0, rfl, Nat.zero_le _, ⟨Kd.R_nil _ _ _ _ _⟩, ⟨Below.refl _ _⟩⟩
  case round =>
    obtain ⟨i, rfl, hi, HR, HB⟩ := hrel
    obtain ⟨A3, c3, ev, hc3, hC3⟩ := SLk.of_R HR.out
    subst ev
    by_cases hlt : i < f.length
    · have hiI : (i : Int) < (f.length : Int) := by omega
      have hnx : f.take (i + 1) = f.take i ++ [f[i]] := by rw [List.take_succ_eq_append_getElem hlt]
      obtain ⟨p, hp⟩ : ∃ p, p = f[i] := ⟨_, rfl⟩
      obtain ⟨o, ho⟩ : ∃ o, o = sortL (f.take i) := ⟨_, rfl⟩
      have hol : o.length = i := by rw [ho, sortL_len, List.length_take]; omega
      have HNX : Aside0 (sortL (f.take (i + 1)) = o.take (cnt p o) ++ [p] ++ o.drop (cnt p o)) := ⟨by rw [hnx, ← hp, sortL_snoc, ← ho]; rfl⟩
      have HRo : Aside0 (Kd.R k33 33 wr w.heap.size (fun _ => True) (.slice A3 o.length c3) o) := ⟨by rw [ho]; exact HR.out⟩
      have HC3 : Aside0 (o.length ≤ c3) := ⟨by rw [ho]; exact hc3⟩
      have HK3 : Aside0 (Kd.C k33 wr A3 o.length o) := ⟨by rw [ho]; exact hC3⟩
      clear hc3 hC3
      rw [← ho]
      have hrp : rd_T33 f (i : Int) = p := by rw [hp]; exact rd33 hlt
      have HCL := Aside0.mk (cnt_le p o)
      have HCT := Aside0.mk (cnt_lt p o)
      have HCA := Aside0.mk (cnt_at p o)
      generalize cnt p o = t at HCL HCT HCA HNX
      have HOL := Aside0.mk hol
      clear hnx hp ho HR hol
      obtain ⟨p0, p1⟩ := p
      obtain ⟨ad, ea, -, -⟩ := at_T33 HFF.out (i : Int) (by omega) hiI
      subst ea
      simp only at HCT HCA
      obtain ⟨wo, ewo⟩ : ∃ wo : World, wo = wr := ⟨_, rfl⟩
      subst ewo
      have hi0 : 0 ≤ (i : Int) := by omega
      have eti : (i : Int).toNat = i := Int.toNat_natCast _
      go_wp2
      go_loopw [5] (fun v w2 => ∃ k : Nat, v = .int .i64 k ∧ k ≤ t ∧ Aside0 (Below wo.heap.size wo w2)) (fun v _ => t - (intOf v).toNat)
      case atStart => exact ⟨0, rfl, Nat.zero_le _, ⟨Below.refl _ _⟩⟩
      case round =>
        obtain ⟨k, rfl, hk, HBW⟩ := hrel
        have HBw : Aside0 (Below w.heap.size w wr) := ⟨below_step HB.out HBW.out⟩
        have hk0 : 0 ≤ (k : Int) := by omega
        have etk : (k : Int).toNat = k := Int.toNat_natCast _
        obtain ⟨ad', ea, h1, h2⟩ := at_T33 (Kd.C_below HFF.out HBw.out) (i : Int) (by omega) hiI
        obtain rfl := Option.some.inj ea
        clear ea
        rw [hrp, Int.toNat_natCast] at h1 h2
        simp only at h1 h2
        by_cases hlt2 : k < o.length
        · have hkI : (k : Int) < (o.length : Int) := by omega
          obtain ⟨ad3, ea, g1, g2⟩ := at_T33 (Kd.C_below HK3.out HBW.out) (k : Int) (by omega) hkI
          subst ea
          rw [Int.toNat_natCast] at g1 g2
          by_cases hkt : k < t
          · have hz := HCT.out k hkt
            generalize (rd_T33 o k).f0 = z0 at g1 hz
            have q : decide (z0 ≤ p0) = true := decide_eq_true hz
            go_wp2
            go_region
            go_wp2
            try rw [w64 (n := (k : Int) + 1) (by omega) (by have := HCL.out; have := HM.out; have := HOL.out; omega)]
            exact ⟨⟨k + 1, by go_num, by omega, ⟨below_drew HBW.out⟩⟩, by simp [intOf]; omega⟩
          · obtain rfl : k = t := by omega
            have hz := HCA.out hlt2
            generalize (rd_T33 o k).f0 = z0 at g1 hz
            have q : decide (z0 ≤ p0) = false := decide_eq_false (by omega)
            go_wp2
            go_region
            go_wp2
            clear hz q g1 g2
            obtain ⟨W1, hW1⟩ : ∃ W1, W1 = wr.drew := ⟨_, rfl⟩
            rw [← hW1]
            have hBd : Below wo.heap.size wo W1 := by rw [hW1]; exact below_drew HBW.out
            have hc0 : W1.cell? (ad.add (i * 2)) = some (.int .i64 p0) := by rw [hW1]; exact h1
            have hc1 : W1.cell? ⟨(ad.add (i * 2)).block, (ad.add (i * 2)).off + 1, none⟩ = some (.int .i64 p1) := by rw [hW1]; exact h2
            clear hW1 h1 h2
            have hWw : Below w.heap.size w W1 := below_step HB.out hBd
            have hkl : k ≤ o.length := HCL.out
            have hcutT := cut_to (P := Try.prog) 49 33 .i64 Try.underlying49 HI33.out (some ad3) o.length c3 (k : Int) (by omega) (by omega) HC3.out
            have hcutF := cut_from (P := Try.prog) 49 33 .i64 Try.underlying49 HI33.out 2 HS33.out (some ad3) o.length c3 (k : Int) (by omega) (by omega)
            rw [Int.toNat_natCast] at hcutT hcutF
            have HTK : Aside0 (Kd.C k33 W1 (some ad3) k (o.take k)) := ⟨by
              have := Kd.C_take (m := k) (Kd.C_below HK3.out hBd) hkl
              rwa [List.length_take, Nat.min_eq_left hkl] at this⟩
            have HDR0 : Kd.C k33 W1 (if c3 = k then (some ad3) else Option.map (fun x => x.add (k * 2)) (some ad3)) (o.length - k) (o.drop k) := by
              have := Kd.C_drop (m := k) (c := c3) (Kd.C_below HK3.out hBd) hkl HC3.out
              rwa [List.length_drop] at this
            generalize (if c3 = k then (some ad3) else Option.map (fun x => x.add (k * 2)) (some ad3)) = A2 at hcutF HDR0
            have HDR := Aside0.mk HDR0
            have HKL := Aside0.mk hkl
            have HBx : Aside0 (Below w.heap.size w W1.drew) := ⟨below_drew hWw⟩
            have HSx : Aside0 (Below W1.heap.size W1 W1.drew) := ⟨below_drew (Below.refl _ _)⟩
            clear HDR0 hWw hBd
            refine start_ (n := 15) (S := (fun W => Below W1.heap.size W1 W)) (ds := []) #[false, false, false, false, false, false, false, false, false, false, false, false, false, false, false] (by kernel_rfl) (by kernel_rfl) (by rfl) HSx.out (fun hS0 => ?_)
            refine pure_ (i := 0) (N := (some 31)) (v := ?_) (a' := ?_) #[true, false, false, false, false, false, false, false, false, false, false, false, false, false, false] rfl rfl (by kernel_rfl) (fun _ _ _ h => h) (Or.inl ⟨by rfl, ?_⟩) ?_ ?_
            rotate_left
            · intro w'
              go_simp
              with_reducible rfl
            rotate_left
            · simp only [Act.put, List.setIfInBounds_toArray, List.set_cons_zero, List.set_cons_succ]
              rfl
            refine pure_ (i := 1) (N := (some 32)) (v := ?_) (a' := ?_) #[true, true, false, false, false, false, false, false, false, false, false, false, false, false, false] rfl rfl (by kernel_rfl) (fun _ _ _ h => h) (Or.inl ⟨by rfl, ?_⟩) ?_ ?_
            rotate_left
            · intro w'
              go_simp
              with_reducible rfl
            rotate_left
            · simp only [Act.put, List.setIfInBounds_toArray, List.set_cons_zero, List.set_cons_succ]
              rfl
            refine pure_ (i := 2) (N := (some 33)) (v := ?_) (a' := ?_) #[true, true, true, false, false, false, false, false, false, false, false, false, false, false, false] rfl rfl (by kernel_rfl) (fun _ _ _ h => h) (Or.inl ⟨by rfl, ?_⟩) ?_ ?_
            rotate_left
            · intro w'
              go_simp
              with_reducible rfl
            rotate_left
            · simp only [Act.put, List.setIfInBounds_toArray, List.set_cons_zero, List.set_cons_succ]
              rfl
            refine pure_ (i := 4) (N := (some 35)) (v := ?_) (a' := ?_) #[true, true, true, false, true, false, false, false, false, false, false, false, false, false, false] rfl rfl (by kernel_rfl) (fun _ _ _ h => h) (Or.inl ⟨by rfl, ?_⟩) ?_ ?_
            rotate_left
            · intro w'
              go_simp
              with_reducible rfl
            rotate_left
            · simp only [Act.put, List.setIfInBounds_toArray, List.set_cons_zero, List.set_cons_succ]
              rfl
            refine pure_ (i := 5) (N := (some 36)) (v := ?_) (a' := ?_) #[true, true, true, false, true, true, false, false, false, false, false, false, false, false, false] rfl rfl (by kernel_rfl) (fun _ _ _ h => h) (Or.inl ⟨by rfl, ?_⟩) ?_ ?_
            rotate_left
            · intro w'
              go_simp
              with_reducible rfl
            rotate_left
            · simp only [Act.put, List.setIfInBounds_toArray, List.set_cons_zero, List.set_cons_succ]
              rfl
            refine pure_ (i := 6) (N := (some 37)) (v := ?_) (a' := ?_) #[true, true, true, false, true, true, true, false, false, false, false, false, false, false, false] rfl rfl (by kernel_rfl) (fun _ _ _ h => h) (Or.inl ⟨by rfl, ?_⟩) ?_ ?_
            rotate_left
            · intro w'
              go_simp
              with_reducible rfl
            rotate_left
            · simp only [Act.put, List.setIfInBounds_toArray, List.set_cons_zero, List.set_cons_succ]
              rfl
            refine take_ (i := 7) (N := (some 38)) (v := ?_) (a' := ?_) #[true, true, true, false, true, true, true, true, false, false, false, false, false, false, false] rfl rfl (by kernel_rfl) (fun _ _ _ h => h) (Or.inl ⟨by rfl, ?_⟩) hS0 ?_ ?_
            rotate_left
            · intro w' s0
              have hx0 := (s0.cell (World.block_lt_of_cell? _ _ hc0)).trans hc0
              have hx1 := (s0.cell (World.block_lt_of_cell? _ _ hc1)).trans hc1
              go_simp
              with_reducible rfl
            rotate_left
            · simp only [Act.put, List.setIfInBounds_toArray, List.set_cons_zero, List.set_cons_succ]
              rfl
            refine pure_ (i := 10) (N := (some 41)) (v := ?_) (a' := ?_) #[true, true, true, false, true, true, true, true, false, false, true, false, false, false, false] rfl rfl (by kernel_rfl) (fun _ _ _ h => h) (Or.inl ⟨by rfl, ?_⟩) ?_ ?_
            rotate_left
            · intro w'
              go_simp
              with_reducible rfl
            rotate_left
            · simp only [Act.put, List.setIfInBounds_toArray, List.set_cons_zero, List.set_cons_succ]
              rfl
            refine pure_ (i := 11) (N := (some 42)) (v := ?_) (a' := ?_) #[true, true, true, false, true, true, true, true, false, false, true, true, false, false, false] rfl rfl (by kernel_rfl) (fun _ _ _ h => h) (Or.inl ⟨by rfl, ?_⟩) ?_ ?_
            rotate_left
            · intro w'
              go_simp
              with_reducible rfl
            rotate_left
            · simp only [Act.put, List.setIfInBounds_toArray, List.set_cons_zero, List.set_cons_succ]
              rfl
            refine pure_ (i := 12) (N := (some 43)) (v := ?_) (a' := ?_) #[true, true, true, false, true, true, true, true, false, false, true, true, true, false, false] rfl rfl (by kernel_rfl) (fun _ _ _ h => h) (Or.inl ⟨by rfl, ?_⟩) ?_ ?_
            rotate_left
            · intro w'
              go_simp
              with_reducible rfl
            rotate_left
            · simp only [Act.put, List.setIfInBounds_toArray, List.set_cons_zero, List.set_cons_succ]
              rfl
            clear hS0
            refine two_ (i := 3) (j := 8) (Ni := some 34) (Nj := some 39) #[true, true, true, true, true, true, true, true, false, false, true, true, true, false, false] #[true, true, true, false, true, true, true, true, true, false, true, true, true, false, false] rfl rfl rfl rfl (by kernel_rfl) (by decide) (by decide) (fun K hK => ?_) (fun K hK => ?_)
            · refine Kd.R_append_rows_step k33 (w0 := w) w.heap.size (by rfl) (.const (.slice none 0 0)) (.tmp 33) 49 33 (.agg #[.int .i64 0, .int .i64 0]) 16 rfl Try.underlying49 info33 rfl (by decide) (by omega) (.slice none 0 0) [] (o.take k) (some ad3) k c3 (fun _ => True) (fun _ => False) rfl rfl (Kd.R_nil _ _ _ _ _) (Kd.C_below HTK.out HSx.out) (fun _ _ h => h) (fun _ h => h.elim) (fun _ _ => trivial) HBx.out HBx.out.size (by have := HM.out; have := HOL.out; simp only [List.length_append, List.length_take, List.length_cons, List.length_nil]; omega) ?_
              intro v1 w1 hv hb hg hat
              have HV1 := Aside0.mk hv
              have HB1 := Aside0.mk hb
              have HA1 : Aside0 (∀ k, v1.ownBlock = some k → W1.heap.size ≤ k) := ⟨own_hat (fun k hk => by simp [Value.ownBlock] at hk) hat HSx.out.size⟩
              have HS1 := Aside0.mk (below_grown2 HSx.out (Nat.le_refl _) hg (fun k hk => by simp [Value.ownBlock] at hk))
              have HG1 := Aside0.mk hg
              clear hv hb hg hat
              change K (Act.put _ (some 34) _) _
              refine hK.out _ _ HS1.out (fun hS0 => ?_)
              clear hK
              refine norm_ (a' := ?_) ?_ ?_
              rotate_left
              · simp only [Act.put, List.setIfInBounds_toArray, List.set_cons_zero, List.set_cons_succ]
                rfl
              clear hS0
              refine one_ (i := 8) (N := (some 39)) #[true, true, true, true, true, true, true, true, true, false, true, true, true, false, false] rfl rfl (by kernel_rfl) (by decide) (fun K hK => ?_)
              refine value_ (w1 := w1.alloc (cells33 ⟨p0, p1⟩)) (v := .slice (some ⟨w1.heap.size, 0, none⟩) 1 1) (by rfl) rfl (by go_simp) ?_
              have HVc := Aside0.mk (Kd.R_alloc HV1.out (cells33 ⟨p0, p1⟩))
              have HBc := Aside0.mk (below_alloc HB1.out (cells33 ⟨p0, p1⟩))
              have HSc := Aside0.mk (below_alloc HS1.out (cells33 ⟨p0, p1⟩))
              have HLc : Aside0 (Kd.C k33 (w1.alloc (cells33 ⟨p0, p1⟩)) (some ⟨w1.heap.size, 0, none⟩) 1 [⟨p0, p1⟩]) := ⟨one33 (MapKept.heap_alloc w1 _).1⟩
              change K (Act.put _ (some 39) _) _
              refine hK.out _ _ HSc.out (fun hS0 => ?_)
              clear hK
              refine norm_ (a' := ?_) ?_ ?_
              rotate_left
              · simp only [Act.put, List.setIfInBounds_toArray, List.set_cons_zero, List.set_cons_succ]
                rfl
              clear hS0
              refine one_ (i := 9) (N := (some 40)) #[true, true, true, true, true, true, true, true, true, true, true, true, true, false, false] rfl rfl (by kernel_rfl) (by decide) (fun K hK => ?_)
              refine Kd.R_append_rows_step k33 (w0 := w) w.heap.size (by rfl) (.tmp 34) (.tmp 39) 49 33 (.agg #[.int .i64 0, .int .i64 0]) 16 rfl Try.underlying49 info33 rfl (by decide) (by omega) v1 (o.take k) [⟨p0, p1⟩] (some ⟨w1.heap.size, 0, none⟩) 1 1 (fun _ => True) (fun _ => False) rfl rfl HVc.out HLc.out (fun _ _ h => h) (fun _ h => h.elim) (fun _ _ => trivial) HBc.out HBc.out.size (by have := HM.out; have := HOL.out; simp only [List.length_append, List.length_take, List.length_cons, List.length_nil]; omega) ?_
              intro v3 w3 hv hb hg hat
              have HV3 := Aside0.mk hv
              have HB3 := Aside0.mk hb
              have HA3 : Aside0 (∀ k, v3.ownBlock = some k → W1.heap.size ≤ k) := ⟨own_hat HA1.out hat HSc.out.size⟩
              have HS3 := Aside0.mk (below_grown2 HSc.out (Nat.le_refl _) hg HA1.out)
              have HG3 := Aside0.mk hg
              clear hv hb hg hat
              change K (Act.put _ (some 40) _) _
              refine hK.out _ _ HS3.out (fun hS0 => ?_)
              clear hK
              refine norm_ (a' := ?_) ?_ ?_
              rotate_left
              · simp only [Act.put, List.setIfInBounds_toArray, List.set_cons_zero, List.set_cons_succ]
                rfl
              clear hS0
              refine one_ (i := 13) (N := (some 44)) #[true, true, true, true, true, true, true, true, true, true, true, true, true, true, false] rfl rfl (by kernel_rfl) (by decide) (fun K hK => ?_)
              refine Kd.R_append_rows_step k33 (w0 := w) w.heap.size (by rfl) (.tmp 40) (.tmp 43) 49 33 (.agg #[.int .i64 0, .int .i64 0]) 16 rfl Try.underlying49 info33 rfl (by decide) (by omega) v3 (o.take k ++ [⟨p0, p1⟩]) (o.drop k) A2 (o.length - k) (c3 - k) (fun _ => True) (fun _ => False) rfl rfl HV3.out (Kd.C_below HDR.out HS3.out) (fun _ _ h => h) (fun _ h => h.elim) (fun _ _ => trivial) HB3.out HB3.out.size (by have := HM.out; have := HOL.out; simp only [List.length_append, List.length_take, List.length_cons, List.length_nil]; omega) ?_
              intro v4 w4 hv hb hg hat
              have HV4 := Aside0.mk hv
              have HB4 := Aside0.mk hb
              have HA4 : Aside0 (∀ k, v4.ownBlock = some k → W1.heap.size ≤ k) := ⟨own_hat HA3.out hat HS3.out.size⟩
              have HS4 := Aside0.mk (below_grown2 HS3.out (Nat.le_refl _) hg HA3.out)
              have HG4 := Aside0.mk hg
              clear hv hb hg hat
              change K (Act.put _ (some 44) _) _
              refine hK.out _ _ HS4.out (fun hS0 => ?_)
              clear hK
              refine norm_ (a' := ?_) ?_ ?_
              rotate_left
              · simp only [Act.put, List.setIfInBounds_toArray, List.set_cons_zero, List.set_cons_succ]
                rfl
              refine pure_ (i := 14) (N := (some 3)) (v := ?_) (a' := ?_) #[true, true, true, true, true, true, true, true, true, true, true, true, true, true, true] rfl rfl (by kernel_rfl) (fun _ _ _ h => h) (Or.inl ⟨by rfl, ?_⟩) ?_ ?_
              rotate_left
              · intro w'
                go_simp
                with_reducible rfl
              rotate_left
              · simp only [Act.put, List.setIfInBounds_toArray, List.set_cons_zero, List.set_cons_succ]
                rfl
              refine done_ (by kernel_rfl) ?_
              clear hS0
              go_wp2
              try rw [w64 (n := (i : Int) + 1) (by omega) (by have := HM.out; omega)]
              exact ⟨⟨i + 1, by go_num, by omega, ⟨by rw [HNX.out]; exact HV4.out⟩, HB4⟩, by simp [intOf]; omega⟩
            · refine value_ (w1 := W1.drew.alloc (cells33 ⟨p0, p1⟩)) (v := .slice (some ⟨W1.drew.heap.size, 0, none⟩) 1 1) (by rfl) rfl (by go_simp) ?_
              have HBa := Aside0.mk (below_alloc HBx.out (cells33 ⟨p0, p1⟩))
              have HSa := Aside0.mk (below_alloc HSx.out (cells33 ⟨p0, p1⟩))
              have HLa : Aside0 (Kd.C k33 (W1.drew.alloc (cells33 ⟨p0, p1⟩)) (some ⟨W1.drew.heap.size, 0, none⟩) 1 [⟨p0, p1⟩]) := ⟨one33 (MapKept.heap_alloc W1.drew _).1⟩
              change K (Act.put _ (some 39) _) _
              refine hK.out _ _ HSa.out (fun hS0 => ?_)
              clear hK
              refine norm_ (a' := ?_) ?_ ?_
              rotate_left
              · simp only [Act.put, List.setIfInBounds_toArray, List.set_cons_zero, List.set_cons_succ]
                rfl
              clear hS0
              refine one_ (i := 3) (N := (some 34)) #[true, true, true, true, true, true, true, true, true, false, true, true, true, false, false] rfl rfl (by kernel_rfl) (by decide) (fun K hK => ?_)
              refine Kd.R_append_rows_step k33 (w0 := w) w.heap.size (by rfl) (.const (.slice none 0 0)) (.tmp 33) 49 33 (.agg #[.int .i64 0, .int .i64 0]) 16 rfl Try.underlying49 info33 rfl (by decide) (by omega) (.slice none 0 0) [] (o.take k) (some ad3) k c3 (fun _ => True) (fun _ => False) rfl rfl (Kd.R_nil _ _ _ _ _) (Kd.C_below HTK.out HSa.out) (fun _ _ h => h) (fun _ h => h.elim) (fun _ _ => trivial) HBa.out HBa.out.size (by have := HM.out; have := HOL.out; simp only [List.length_append, List.length_take, List.length_cons, List.length_nil]; omega) ?_
              intro v1 w1 hv hb hg hat
              have HV1 := Aside0.mk hv
              have HB1 := Aside0.mk hb
              have HA1 : Aside0 (∀ k, v1.ownBlock = some k → W1.heap.size ≤ k) := ⟨own_hat (fun k hk => by simp [Value.ownBlock] at hk) hat HSa.out.size⟩
              have HS1 := Aside0.mk (below_grown2 HSa.out (Nat.le_refl _) hg (fun k hk => by simp [Value.ownBlock] at hk))
              have HG1 := Aside0.mk hg
              clear hv hb hg hat
              have HLc := Aside0.mk (Kd.C_below HLa.out (below_grown2 (Below.refl _ _) (Nat.le_refl _) HG1.out (fun k hk => by simp [Value.ownBlock] at hk)))
              have HVc := HV1
              have HBc := HB1
              have HSc := HS1
              change K (Act.put _ (some 34) _) _
              refine hK.out _ _ HS1.out (fun hS0 => ?_)
              clear hK
              refine norm_ (a' := ?_) ?_ ?_
              rotate_left
              · simp only [Act.put, List.setIfInBounds_toArray, List.set_cons_zero, List.set_cons_succ]
                rfl
              clear hS0
              refine one_ (i := 9) (N := (some 40)) #[true, true, true, true, true, true, true, true, true, true, true, true, true, false, false] rfl rfl (by kernel_rfl) (by decide) (fun K hK => ?_)
              refine Kd.R_append_rows_step k33 (w0 := w) w.heap.size (by rfl) (.tmp 34) (.tmp 39) 49 33 (.agg #[.int .i64 0, .int .i64 0]) 16 rfl Try.underlying49 info33 rfl (by decide) (by omega) v1 (o.take k) [⟨p0, p1⟩] (some ⟨W1.drew.heap.size, 0, none⟩) 1 1 (fun _ => True) (fun _ => False) rfl rfl HVc.out HLc.out (fun _ _ h => h) (fun _ h => h.elim) (fun _ _ => trivial) HBc.out HBc.out.size (by have := HM.out; have := HOL.out; simp only [List.length_append, List.length_take, List.length_cons, List.length_nil]; omega) ?_
              intro v3 w3 hv hb hg hat
              have HV3 := Aside0.mk hv
              have HB3 := Aside0.mk hb
              have HA3 : Aside0 (∀ k, v3.ownBlock = some k → W1.heap.size ≤ k) := ⟨own_hat HA1.out hat HSc.out.size⟩
              have HS3 := Aside0.mk (below_grown2 HSc.out (Nat.le_refl _) hg HA1.out)
              have HG3 := Aside0.mk hg
              clear hv hb hg hat
              change K (Act.put _ (some 40) _) _
              refine hK.out _ _ HS3.out (fun hS0 => ?_)
              clear hK
              refine norm_ (a' := ?_) ?_ ?_
              rotate_left
              · simp only [Act.put, List.setIfInBounds_toArray, List.set_cons_zero, List.set_cons_succ]
                rfl
              clear hS0
              refine one_ (i := 13) (N := (some 44)) #[true, true, true, true, true, true, true, true, true, true, true, true, true, true, false] rfl rfl (by kernel_rfl) (by decide) (fun K hK => ?_)
              refine Kd.R_append_rows_step k33 (w0 := w) w.heap.size (by rfl) (.tmp 40) (.tmp 43) 49 33 (.agg #[.int .i64 0, .int .i64 0]) 16 rfl Try.underlying49 info33 rfl (by decide) (by omega) v3 (o.take k ++ [⟨p0, p1⟩]) (o.drop k) A2 (o.length - k) (c3 - k) (fun _ => True) (fun _ => False) rfl rfl HV3.out (Kd.C_below HDR.out HS3.out) (fun _ _ h => h) (fun _ h => h.elim) (fun _ _ => trivial) HB3.out HB3.out.size (by have := HM.out; have := HOL.out; simp only [List.length_append, List.length_take, List.length_cons, List.length_nil]; omega) ?_
              intro v4 w4 hv hb hg hat
              have HV4 := Aside0.mk hv
              have HB4 := Aside0.mk hb
              have HA4 : Aside0 (∀ k, v4.ownBlock = some k → W1.heap.size ≤ k) := ⟨own_hat HA3.out hat HS3.out.size⟩
              have HS4 := Aside0.mk (below_grown2 HS3.out (Nat.le_refl _) hg HA3.out)
              have HG4 := Aside0.mk hg
              clear hv hb hg hat
              change K (Act.put _ (some 44) _) _
              refine hK.out _ _ HS4.out (fun hS0 => ?_)
              clear hK
              refine norm_ (a' := ?_) ?_ ?_
              rotate_left
              · simp only [Act.put, List.setIfInBounds_toArray, List.set_cons_zero, List.set_cons_succ]
                rfl
              refine pure_ (i := 14) (N := (some 3)) (v := ?_) (a' := ?_) #[true, true, true, true, true, true, true, true, true, true, true, true, true, true, true] rfl rfl (by kernel_rfl) (fun _ _ _ h => h) (Or.inl ⟨by rfl, ?_⟩) ?_ ?_
              rotate_left
              · intro w'
                go_simp
                with_reducible rfl
              rotate_left
              · simp only [Act.put, List.setIfInBounds_toArray, List.set_cons_zero, List.set_cons_succ]
                rfl
              refine done_ (by kernel_rfl) ?_
              clear hS0
              go_wp2
              try rw [w64 (n := (i : Int) + 1) (by omega) (by have := HM.out; omega)]
              exact ⟨⟨i + 1, by go_num, by omega, ⟨by rw [HNX.out]; exact HV4.out⟩, HB4⟩, by simp [intOf]; omega⟩
        · have hko : k = t := by have := HCL.out; omega
          subst hko
          have hkI : ¬ (k : Int) < (o.length : Int) := by omega
          go_wp2
          go_region
          go_wp2
          obtain ⟨W1, hW1⟩ : ∃ W1, W1 = wr.drew := ⟨_, rfl⟩
          rw [← hW1]
          have hBd : Below wo.heap.size wo W1 := by rw [hW1]; exact below_drew HBW.out
          have hc0 : W1.cell? (ad.add (i * 2)) = some (.int .i64 p0) := by rw [hW1]; exact h1
          have hc1 : W1.cell? ⟨(ad.add (i * 2)).block, (ad.add (i * 2)).off + 1, none⟩ = some (.int .i64 p1) := by rw [hW1]; exact h2
          clear hW1 h1 h2
          have hWw : Below w.heap.size w W1 := below_step HB.out hBd
          have hkl : k ≤ o.length := HCL.out
          have hcutT := cut_to (P := Try.prog) 49 33 .i64 Try.underlying49 HI33.out A3 o.length c3 (k : Int) (by omega) (by omega) HC3.out
          have hcutF := cut_from (P := Try.prog) 49 33 .i64 Try.underlying49 HI33.out 2 HS33.out A3 o.length c3 (k : Int) (by omega) (by omega)
          rw [Int.toNat_natCast] at hcutT hcutF
          have HTK : Aside0 (Kd.C k33 W1 A3 k (o.take k)) := ⟨by
            have := Kd.C_take (m := k) (Kd.C_below HK3.out hBd) hkl
            rwa [List.length_take, Nat.min_eq_left hkl] at this⟩
          have HDR0 : Kd.C k33 W1 (if c3 = k then A3 else Option.map (fun x => x.add (k * 2)) A3) (o.length - k) (o.drop k) := by
            have := Kd.C_drop (m := k) (c := c3) (Kd.C_below HK3.out hBd) hkl HC3.out
            rwa [List.length_drop] at this
          generalize (if c3 = k then A3 else Option.map (fun x => x.add (k * 2)) A3) = A2 at hcutF HDR0
          have HDR := Aside0.mk HDR0
          have HKL := Aside0.mk hkl
          have HBx : Aside0 (Below w.heap.size w W1.drew) := ⟨below_drew hWw⟩
          have HSx : Aside0 (Below W1.heap.size W1 W1.drew) := ⟨below_drew (Below.refl _ _)⟩
          clear HDR0 hWw hBd
          refine start_ (n := 15) (S := (fun W => Below W1.heap.size W1 W)) (ds := []) #[false, false, false, false, false, false, false, false, false, false, false, false, false, false, false] (by kernel_rfl) (by kernel_rfl) (by rfl) HSx.out (fun hS0 => ?_)
          refine pure_ (i := 0) (N := (some 31)) (v := ?_) (a' := ?_) #[true, false, false, false, false, false, false, false, false, false, false, false, false, false, false] rfl rfl (by kernel_rfl) (fun _ _ _ h => h) (Or.inl ⟨by rfl, ?_⟩) ?_ ?_
          rotate_left
          · intro w'
            go_simp
            with_reducible rfl
          rotate_left
          · simp only [Act.put, List.setIfInBounds_toArray, List.set_cons_zero, List.set_cons_succ]
            rfl
          refine pure_ (i := 1) (N := (some 32)) (v := ?_) (a' := ?_) #[true, true, false, false, false, false, false, false, false, false, false, false, false, false, false] rfl rfl (by kernel_rfl) (fun _ _ _ h => h) (Or.inl ⟨by rfl, ?_⟩) ?_ ?_
          rotate_left
          · intro w'
            go_simp
            with_reducible rfl
          rotate_left
          · simp only [Act.put, List.setIfInBounds_toArray, List.set_cons_zero, List.set_cons_succ]
            rfl
          refine pure_ (i := 2) (N := (some 33)) (v := ?_) (a' := ?_) #[true, true, true, false, false, false, false, false, false, false, false, false, false, false, false] rfl rfl (by kernel_rfl) (fun _ _ _ h => h) (Or.inl ⟨by rfl, ?_⟩) ?_ ?_
          rotate_left
          · intro w'
            go_simp
            with_reducible rfl
          rotate_left
          · simp only [Act.put, List.setIfInBounds_toArray, List.set_cons_zero, List.set_cons_succ]
            rfl
          refine pure_ (i := 4) (N := (some 35)) (v := ?_) (a' := ?_) #[true, true, true, false, true, false, false, false, false, false, false, false, false, false, false] rfl rfl (by kernel_rfl) (fun _ _ _ h => h) (Or.inl ⟨by rfl, ?_⟩) ?_ ?_
          rotate_left
          · intro w'
            go_simp
            with_reducible rfl
          rotate_left
          · simp only [Act.put, List.setIfInBounds_toArray, List.set_cons_zero, List.set_cons_succ]
            rfl
          refine pure_ (i := 5) (N := (some 36)) (v := ?_) (a' := ?_) #[true, true, true, false, true, true, false, false, false, false, false, false, false, false, false] rfl rfl (by kernel_rfl) (fun _ _ _ h => h) (Or.inl ⟨by rfl, ?_⟩) ?_ ?_
          rotate_left
          · intro w'
            go_simp
            with_reducible rfl
          rotate_left
          · simp only [Act.put, List.setIfInBounds_toArray, List.set_cons_zero, List.set_cons_succ]
            rfl
          refine pure_ (i := 6) (N := (some 37)) (v := ?_) (a' := ?_) #[true, true, true, false, true, true, true, false, false, false, false, false, false, false, false] rfl rfl (by kernel_rfl) (fun _ _ _ h => h) (Or.inl ⟨by rfl, ?_⟩) ?_ ?_
          rotate_left
          · intro w'
            go_simp
            with_reducible rfl
          rotate_left
          · simp only [Act.put, List.setIfInBounds_toArray, List.set_cons_zero, List.set_cons_succ]
            rfl
          refine take_ (i := 7) (N := (some 38)) (v := ?_) (a' := ?_) #[true, true, true, false, true, true, true, true, false, false, false, false, false, false, false] rfl rfl (by kernel_rfl) (fun _ _ _ h => h) (Or.inl ⟨by rfl, ?_⟩) hS0 ?_ ?_
          rotate_left
          · intro w' s0
            have hx0 := (s0.cell (World.block_lt_of_cell? _ _ hc0)).trans hc0
            have hx1 := (s0.cell (World.block_lt_of_cell? _ _ hc1)).trans hc1
            go_simp
            with_reducible rfl
          rotate_left
          · simp only [Act.put, List.setIfInBounds_toArray, List.set_cons_zero, List.set_cons_succ]
            rfl
          refine pure_ (i := 10) (N := (some 41)) (v := ?_) (a' := ?_) #[true, true, true, false, true, true, true, true, false, false, true, false, false, false, false] rfl rfl (by kernel_rfl) (fun _ _ _ h => h) (Or.inl ⟨by rfl, ?_⟩) ?_ ?_
          rotate_left
          · intro w'
            go_simp
            with_reducible rfl
          rotate_left
          · simp only [Act.put, List.setIfInBounds_toArray, List.set_cons_zero, List.set_cons_succ]
            rfl
          refine pure_ (i := 11) (N := (some 42)) (v := ?_) (a' := ?_) #[true, true, true, false, true, true, true, true, false, false, true, true, false, false, false] rfl rfl (by kernel_rfl) (fun _ _ _ h => h) (Or.inl ⟨by rfl, ?_⟩) ?_ ?_
          rotate_left
          · intro w'
            go_simp
            with_reducible rfl
          rotate_left
          · simp only [Act.put, List.setIfInBounds_toArray, List.set_cons_zero, List.set_cons_succ]
            rfl
          refine pure_ (i := 12) (N := (some 43)) (v := ?_) (a' := ?_) #[true, true, true, false, true, true, true, true, false, false, true, true, true, false, false] rfl rfl (by kernel_rfl) (fun _ _ _ h => h) (Or.inl ⟨by rfl, ?_⟩) ?_ ?_
          rotate_left
          · intro w'
            go_simp
            with_reducible rfl
          rotate_left
          · simp only [Act.put, List.setIfInBounds_toArray, List.set_cons_zero, List.set_cons_succ]
            rfl
          clear hS0
          refine two_ (i := 3) (j := 8) (Ni := some 34) (Nj := some 39) #[true, true, true, true, true, true, true, true, false, false, true, true, true, false, false] #[true, true, true, false, true, true, true, true, true, false, true, true, true, false, false] rfl rfl rfl rfl (by kernel_rfl) (by decide) (by decide) (fun K hK => ?_) (fun K hK => ?_)
          · refine Kd.R_append_rows_step k33 (w0 := w) w.heap.size (by rfl) (.const (.slice none 0 0)) (.tmp 33) 49 33 (.agg #[.int .i64 0, .int .i64 0]) 16 rfl Try.underlying49 info33 rfl (by decide) (by omega) (.slice none 0 0) [] (o.take k) A3 k c3 (fun _ => True) (fun _ => False) rfl rfl (Kd.R_nil _ _ _ _ _) (Kd.C_below HTK.out HSx.out) (fun _ _ h => h) (fun _ h => h.elim) (fun _ _ => trivial) HBx.out HBx.out.size (by have := HM.out; have := HOL.out; simp only [List.length_append, List.length_take, List.length_cons, List.length_nil]; omega) ?_
            intro v1 w1 hv hb hg hat
            have HV1 := Aside0.mk hv
            have HB1 := Aside0.mk hb
            have HA1 : Aside0 (∀ k, v1.ownBlock = some k → W1.heap.size ≤ k) := ⟨own_hat (fun k hk => by simp [Value.ownBlock] at hk) hat HSx.out.size⟩
            have HS1 := Aside0.mk (below_grown2 HSx.out (Nat.le_refl _) hg (fun k hk => by simp [Value.ownBlock] at hk))
            have HG1 := Aside0.mk hg
            clear hv hb hg hat
            change K (Act.put _ (some 34) _) _
            refine hK.out _ _ HS1.out (fun hS0 => ?_)
            clear hK
            refine norm_ (a' := ?_) ?_ ?_
            rotate_left
            · simp only [Act.put, List.setIfInBounds_toArray, List.set_cons_zero, List.set_cons_succ]
              rfl
            clear hS0
            refine one_ (i := 8) (N := (some 39)) #[true, true, true, true, true, true, true, true, true, false, true, true, true, false, false] rfl rfl (by kernel_rfl) (by decide) (fun K hK => ?_)
            refine value_ (w1 := w1.alloc (cells33 ⟨p0, p1⟩)) (v := .slice (some ⟨w1.heap.size, 0, none⟩) 1 1) (by rfl) rfl (by go_simp) ?_
            have HVc := Aside0.mk (Kd.R_alloc HV1.out (cells33 ⟨p0, p1⟩))
            have HBc := Aside0.mk (below_alloc HB1.out (cells33 ⟨p0, p1⟩))
            have HSc := Aside0.mk (below_alloc HS1.out (cells33 ⟨p0, p1⟩))
            have HLc : Aside0 (Kd.C k33 (w1.alloc (cells33 ⟨p0, p1⟩)) (some ⟨w1.heap.size, 0, none⟩) 1 [⟨p0, p1⟩]) := ⟨one33 (MapKept.heap_alloc w1 _).1⟩
            change K (Act.put _ (some 39) _) _
            refine hK.out _ _ HSc.out (fun hS0 => ?_)
            clear hK
            refine norm_ (a' := ?_) ?_ ?_
            rotate_left
            · simp only [Act.put, List.setIfInBounds_toArray, List.set_cons_zero, List.set_cons_succ]
              rfl
            clear hS0
            refine one_ (i := 9) (N := (some 40)) #[true, true, true, true, true, true, true, true, true, true, true, true, true, false, false] rfl rfl (by kernel_rfl) (by decide) (fun K hK => ?_)
            refine Kd.R_append_rows_step k33 (w0 := w) w.heap.size (by rfl) (.tmp 34) (.tmp 39) 49 33 (.agg #[.int .i64 0, .int .i64 0]) 16 rfl Try.underlying49 info33 rfl (by decide) (by omega) v1 (o.take k) [⟨p0, p1⟩] (some ⟨w1.heap.size, 0, none⟩) 1 1 (fun _ => True) (fun _ => False) rfl rfl HVc.out HLc.out (fun _ _ h => h) (fun _ h => h.elim) (fun _ _ => trivial) HBc.out HBc.out.size (by have := HM.out; have := HOL.out; simp only [List.length_append, List.length_take, List.length_cons, List.length_nil]; omega) ?_
            intro v3 w3 hv hb hg hat
            have HV3 := Aside0.mk hv
            have HB3 := Aside0.mk hb
            have HA3 : Aside0 (∀ k, v3.ownBlock = some k → W1.heap.size ≤ k) := ⟨own_hat HA1.out hat HSc.out.size⟩
            have HS3 := Aside0.mk (below_grown2 HSc.out (Nat.le_refl _) hg HA1.out)
            have HG3 := Aside0.mk hg
            clear hv hb hg hat
            change K (Act.put _ (some 40) _) _
            refine hK.out _ _ HS3.out (fun hS0 => ?_)
            clear hK
            refine norm_ (a' := ?_) ?_ ?_
            rotate_left
            · simp only [Act.put, List.setIfInBounds_toArray, List.set_cons_zero, List.set_cons_succ]
              rfl
            clear hS0
            refine one_ (i := 13) (N := (some 44)) #[true, true, true, true, true, true, true, true, true, true, true, true, true, true, false] rfl rfl (by kernel_rfl) (by decide) (fun K hK => ?_)
            refine Kd.R_append_rows_step k33 (w0 := w) w.heap.size (by rfl) (.tmp 40) (.tmp 43) 49 33 (.agg #[.int .i64 0, .int .i64 0]) 16 rfl Try.underlying49 info33 rfl (by decide) (by omega) v3 (o.take k ++ [⟨p0, p1⟩]) (o.drop k) A2 (o.length - k) (c3 - k) (fun _ => True) (fun _ => False) rfl rfl HV3.out (Kd.C_below HDR.out HS3.out) (fun _ _ h => h) (fun _ h => h.elim) (fun _ _ => trivial) HB3.out HB3.out.size (by have := HM.out; have := HOL.out; simp only [List.length_append, List.length_take, List.length_cons, List.length_nil]; omega) ?_
            intro v4 w4 hv hb hg hat
            have HV4 := Aside0.mk hv
            have HB4 := Aside0.mk hb
            have HA4 : Aside0 (∀ k, v4.ownBlock = some k → W1.heap.size ≤ k) := ⟨own_hat HA3.out hat HS3.out.size⟩
            have HS4 := Aside0.mk (below_grown2 HS3.out (Nat.le_refl _) hg HA3.out)
            have HG4 := Aside0.mk hg
            clear hv hb hg hat
            change K (Act.put _ (some 44) _) _
            refine hK.out _ _ HS4.out (fun hS0 => ?_)
            clear hK
            refine norm_ (a' := ?_) ?_ ?_
            rotate_left
            · simp only [Act.put, List.setIfInBounds_toArray, List.set_cons_zero, List.set_cons_succ]
              rfl
            refine pure_ (i := 14) (N := (some 3)) (v := ?_) (a' := ?_) #[true, true, true, true, true, true, true, true, true, true, true, true, true, true, true] rfl rfl (by kernel_rfl) (fun _ _ _ h => h) (Or.inl ⟨by rfl, ?_⟩) ?_ ?_
            rotate_left
            · intro w'
              go_simp
              with_reducible rfl
            rotate_left
            · simp only [Act.put, List.setIfInBounds_toArray, List.set_cons_zero, List.set_cons_succ]
              rfl
            refine done_ (by kernel_rfl) ?_
            clear hS0
            go_wp2
            try rw [w64 (n := (i : Int) + 1) (by omega) (by have := HM.out; omega)]
            exact ⟨⟨i + 1, by go_num, by omega, ⟨by rw [HNX.out]; exact HV4.out⟩, HB4⟩, by simp [intOf]; omega⟩
          · refine value_ (w1 := W1.drew.alloc (cells33 ⟨p0, p1⟩)) (v := .slice (some ⟨W1.drew.heap.size, 0, none⟩) 1 1) (by rfl) rfl (by go_simp) ?_
            have HBa := Aside0.mk (below_alloc HBx.out (cells33 ⟨p0, p1⟩))
            have HSa := Aside0.mk (below_alloc HSx.out (cells33 ⟨p0, p1⟩))
            have HLa : Aside0 (Kd.C k33 (W1.drew.alloc (cells33 ⟨p0, p1⟩)) (some ⟨W1.drew.heap.size, 0, none⟩) 1 [⟨p0, p1⟩]) := ⟨one33 (MapKept.heap_alloc W1.drew _).1⟩
            change K (Act.put _ (some 39) _) _
            refine hK.out _ _ HSa.out (fun hS0 => ?_)
            clear hK
            refine norm_ (a' := ?_) ?_ ?_
            rotate_left
            · simp only [Act.put, List.setIfInBounds_toArray, List.set_cons_zero, List.set_cons_succ]
              rfl
            clear hS0
            refine one_ (i := 3) (N := (some 34)) #[true, true, true, true, true, true, true, true, true, false, true, true, true, false, false] rfl rfl (by kernel_rfl) (by decide) (fun K hK => ?_)
            refine Kd.R_append_rows_step k33 (w0 := w) w.heap.size (by rfl) (.const (.slice none 0 0)) (.tmp 33) 49 33 (.agg #[.int .i64 0, .int .i64 0]) 16 rfl Try.underlying49 info33 rfl (by decide) (by omega) (.slice none 0 0) [] (o.take k) A3 k c3 (fun _ => True) (fun _ => False) rfl rfl (Kd.R_nil _ _ _ _ _) (Kd.C_below HTK.out HSa.out) (fun _ _ h => h) (fun _ h => h.elim) (fun _ _ => trivial) HBa.out HBa.out.size (by have := HM.out; have := HOL.out; simp only [List.length_append, List.length_take, List.length_cons, List.length_nil]; omega) ?_
            intro v1 w1 hv hb hg hat
            have HV1 := Aside0.mk hv
            have HB1 := Aside0.mk hb
            have HA1 : Aside0 (∀ k, v1.ownBlock = some k → W1.heap.size ≤ k) := ⟨own_hat (fun k hk => by simp [Value.ownBlock] at hk) hat HSa.out.size⟩
            have HS1 := Aside0.mk (below_grown2 HSa.out (Nat.le_refl _) hg (fun k hk => by simp [Value.ownBlock] at hk))
            have HG1 := Aside0.mk hg
            clear hv hb hg hat
            have HLc := Aside0.mk (Kd.C_below HLa.out (below_grown2 (Below.refl _ _) (Nat.le_refl _) HG1.out (fun k hk => by simp [Value.ownBlock] at hk)))
            have HVc := HV1
            have HBc := HB1
            have HSc := HS1
            change K (Act.put _ (some 34) _) _
            refine hK.out _ _ HS1.out (fun hS0 => ?_)
            clear hK
            refine norm_ (a' := ?_) ?_ ?_
            rotate_left
            · simp only [Act.put, List.setIfInBounds_toArray, List.set_cons_zero, List.set_cons_succ]
              rfl
            clear hS0
            refine one_ (i := 9) (N := (some 40)) #[true, true, true, true, true, true, true, true, true, true, true, true, true, false, false] rfl rfl (by kernel_rfl) (by decide) (fun K hK => ?_)
            refine Kd.R_append_rows_step k33 (w0 := w) w.heap.size (by rfl) (.tmp 34) (.tmp 39) 49 33 (.agg #[.int .i64 0, .int .i64 0]) 16 rfl Try.underlying49 info33 rfl (by decide) (by omega) v1 (o.take k) [⟨p0, p1⟩] (some ⟨W1.drew.heap.size, 0, none⟩) 1 1 (fun _ => True) (fun _ => False) rfl rfl HVc.out HLc.out (fun _ _ h => h) (fun _ h => h.elim) (fun _ _ => trivial) HBc.out HBc.out.size (by have := HM.out; have := HOL.out; simp only [List.length_append, List.length_take, List.length_cons, List.length_nil]; omega) ?_
            intro v3 w3 hv hb hg hat
            have HV3 := Aside0.mk hv
            have HB3 := Aside0.mk hb
            have HA3 : Aside0 (∀ k, v3.ownBlock = some k → W1.heap.size ≤ k) := ⟨own_hat HA1.out hat HSc.out.size⟩
            have HS3 := Aside0.mk (below_grown2 HSc.out (Nat.le_refl _) hg HA1.out)
            have HG3 := Aside0.mk hg
            clear hv hb hg hat
            change K (Act.put _ (some 40) _) _
            refine hK.out _ _ HS3.out (fun hS0 => ?_)
            clear hK
            refine norm_ (a' := ?_) ?_ ?_
            rotate_left
            · simp only [Act.put, List.setIfInBounds_toArray, List.set_cons_zero, List.set_cons_succ]
              rfl
            clear hS0
            refine one_ (i := 13) (N := (some 44)) #[true, true, true, true, true, true, true, true, true, true, true, true, true, true, false] rfl rfl (by kernel_rfl) (by decide) (fun K hK => ?_)
            refine Kd.R_append_rows_step k33 (w0 := w) w.heap.size (by rfl) (.tmp 40) (.tmp 43) 49 33 (.agg #[.int .i64 0, .int .i64 0]) 16 rfl Try.underlying49 info33 rfl (by decide) (by omega) v3 (o.take k ++ [⟨p0, p1⟩]) (o.drop k) A2 (o.length - k) (c3 - k) (fun _ => True) (fun _ => False) rfl rfl HV3.out (Kd.C_below HDR.out HS3.out) (fun _ _ h => h) (fun _ h => h.elim) (fun _ _ => trivial) HB3.out HB3.out.size (by have := HM.out; have := HOL.out; simp only [List.length_append, List.length_take, List.length_cons, List.length_nil]; omega) ?_
            intro v4 w4 hv hb hg hat
            have HV4 := Aside0.mk hv
            have HB4 := Aside0.mk hb
            have HA4 : Aside0 (∀ k, v4.ownBlock = some k → W1.heap.size ≤ k) := ⟨own_hat HA3.out hat HS3.out.size⟩
            have HS4 := Aside0.mk (below_grown2 HS3.out (Nat.le_refl _) hg HA3.out)
            have HG4 := Aside0.mk hg
            clear hv hb hg hat
            change K (Act.put _ (some 44) _) _
            refine hK.out _ _ HS4.out (fun hS0 => ?_)
            clear hK
            refine norm_ (a' := ?_) ?_ ?_
            rotate_left
            · simp only [Act.put, List.setIfInBounds_toArray, List.set_cons_zero, List.set_cons_succ]
              rfl
            refine pure_ (i := 14) (N := (some 3)) (v := ?_) (a' := ?_) #[true, true, true, true, true, true, true, true, true, true, true, true, true, true, true] rfl rfl (by kernel_rfl) (fun _ _ _ h => h) (Or.inl ⟨by rfl, ?_⟩) ?_ ?_
            rotate_left
            · intro w'
              go_simp
              with_reducible rfl
            rotate_left
            · simp only [Act.put, List.setIfInBounds_toArray, List.set_cons_zero, List.set_cons_succ]
              rfl
            refine done_ (by kernel_rfl) ?_
            clear hS0
            go_wp2
            try rw [w64 (n := (i : Int) + 1) (by omega) (by have := HM.out; omega)]
            exact ⟨⟨i + 1, by go_num, by omega, ⟨by rw [HNX.out]; exact HV4.out⟩, HB4⟩, by simp [intOf]; omega⟩
    · have ei : i = f.length := by omega
      subst ei
      clear hc3 hC3
      have h9 : Kd.R k33 33 wr w.heap.size (fun _ => True) (.slice A3 (sortL f).length c3) (sortL f) := by simpa only [List.take_length] using HR.out
      rw [List.take_length]
      go_wp2
      go_ret
      exact ⟨.slice A3 (sortL f).length c3, by first | rfl | (simp only [List.take_length]; rfl), h9, HB.out⟩
end Go.Proofs.Ytohhobcipfmkbaa.CSort

namespace Go.Proofs.Ytohhobcipfmkbaa.PClusterFinest
open Go.RowKit Go.Proofs.YtohhobcipfmkbaaW.PrintWords Go.Proofs.YtohhobcipfmkbaaW.PrintLast Go.Proofs.YtohhobcipfmkbaaW.PrintMore
attribute [local go_sem] max2_int min2_int max_two min_two max_three min_three max_four min_four   -- for this text's walks alone
set_option linter.unusedVariables false
set_option linter.unusedSimpArgs false

attribute [local go_sem high] eqA45
def naskhref03_Parts.l0 : Nat → List (S33) → Int → Int → Int → Option (Bool)
  | 0, _, _, _, _ => none
  | k + 1, x0, x1, x5, x6 => if x6 < (x0.length : Int) then (if 0 ≤ x6 then ((naskhref03_Right.f ((rd_T33 x0 x6).f0) ((rd_T33 x0 x6).f1)).bind fun t147 => (if t147 = true then (if ((rd_T33 x0 x6).f0) = x5 then (naskhref03_Parts.l0 k x0 x1 ((rd_T33 x0 x6).f1) (wrap64 (x6 + 1))) else (some false)) else (some false))) else (none)) else (some (x5 == x1))
def naskhref03_Parts.f (k : Nat) (l0 : List (S33)) (a1 : Int) : Option (Bool) := naskhref03_Parts.l0 k l0 a1 0 0
set_option maxHeartbeats 8000000 in
set_option maxRecDepth 100000 in
theorem naskhref03_Parts.calls (k : Nat) (A0 : Option Addr) (c0 : Nat) (l0 : List (S33)) (a1 : Int) (r : Bool) (w : World) (hr0 : Kd.C k33 w A0 l0.length l0) (hc0 : l0.length ≤ c0) (h : naskhref03_Parts.f k l0 a1 = some r) :
    Calls Try.prog 56 #[.slice A0 l0.length c0, .int .i64 a1] w fun e w' => e = .returned (.bool r) ∧ Below w.heap.size w w' := by
  have hu33 := Try.underlying33
  have HR0 := Aside0.mk hr0
  have HC0 := Aside0.mk hc0
  clear hr0 hc0
  have HB := Aside0.mk (Below.refl w.heap.size w)
  have H : (naskhref03_Parts.l0 k l0 a1 0 0) = some r := h
  clear h
  have H' := Aside0.mk H
  clear H
  go_enter Try.func56, Try.ntmps56
  go_wp2
  go_loopg [5, 6] k (fun kq v5 v6 w' => ∃ (x5_1 : Int) (x6_1 : Int), v5 = .int .i64 x5_1 ∧ v6 = .int .i64 x6_1 ∧ Aside0 (naskhref03_Parts.l0 kq l0 a1 x5_1 x6_1 = some r) ∧ Aside0 (kq ≤ k) ∧ Aside0 (Below w.heap.size w w'))
  case atStart => exact ⟨(0), (0), (by first | rfl | (simp; done) | (simp [*]; done)), (by first | rfl | (simp; done) | (simp [*]; done)), H', ⟨Nat.le_refl _⟩, ⟨by repeat (first | (with_reducible first | exact HB.out | apply below_alloc | apply pw_below_drewN | apply below_drew1) | exact HB.out)⟩⟩
  case round =>
    clear H'
    try clear p2
    obtain ⟨x5_1, x6_1, rfl, rfl, HA, HK1, HB⟩ := hrel
    cases gk with
    | zero => exact absurd HA.out (by simp [naskhref03_Parts.l0])
    | succ k1 =>
      have H := HA.out
      clear HA
      simp only [naskhref03_Parts.l0] at H
      by_cases c3 : x6_1 < (l0.length : Int)
      · rw [if_pos c3] at H
        have c3b0 : decide (x6_1 < (l0.length : Int)) = true := decide_eq_true c3
        clear c3
        by_cases c4 : 0 ≤ x6_1
        · rw [if_pos c4] at H
          have c4b0 : decide (0 ≤ x6_1) = true := decide_eq_true c4
          clear c4
          replace H := Option.bind_eq_some_iff.mp H
          obtain ⟨t147, A50, H⟩ := H
          replace H : (if t147 = true then (if ((rd_T33 l0 x6_1).f0) = x5_1 then (naskhref03_Parts.l0 k1 l0 a1 ((rd_T33 l0 x6_1).f1) (wrap64 (x6_1 + 1))) else (some false)) else (some false)) = some r := H
          have A5 := Aside0.mk A50
          clear A50
          by_cases c6 : t147 = true
          · subst c6
            have H1 : (if ((rd_T33 l0 x6_1).f0) = x5_1 then (naskhref03_Parts.l0 k1 l0 a1 ((rd_T33 l0 x6_1).f1) (wrap64 (x6_1 + 1))) else (some false)) = some r := by rw [if_pos rfl] at H; exact H
            clear H
            have H := H1
            clear H1
            by_cases c7 : ((rd_T33 l0 x6_1).f0) = x5_1
            · rw [if_pos c7] at H
              have c7b0 : (((rd_T33 l0 x6_1).f0) == x5_1) = true := beq_iff_eq.mpr c7
              have c7b1 : (((rd_T33 l0 x6_1).f0) != x5_1) = false := bne_eq_false_iff_eq.mpr c7
              clear c7
              have H' := Aside0.mk H
              clear H
              have p146 : 0 ≤ (x6_1 : Int) := of_decide_eq_true (by first | (with_reducible assumption) | assumption)
              have q146 : x6_1 < (l0.length : Int) := of_decide_eq_true (by first | (with_reducible assumption) | assumption)
              obtain ⟨ad146, e146, hx146_0, hx146_1⟩ := at_T33 HR0.out x6_1 p146 q146
              cases e146
              replace hx146_0 := (HB.out.cell (World.block_lt_of_cell? w _ hx146_0)).trans hx146_0
              replace hx146_1 := (HB.out.cell (World.block_lt_of_cell? w _ hx146_1)).trans hx146_1
              replace p146 := eq_true p146
              replace q146 := eq_true q146
              go_wp2_with (first | ((with_reducible refine gate_callee (f := 76) rfl ?_); refine goesL_ (some 17) rfl rfl Try.func76 (by kernel_rfl) rfl #[.agg #[.int .i64 ((rd_T33 l0 x6_1).f0), .int .i64 ((rd_T33 l0 x6_1).f1)]] rfl (by (try simp only [List.map_toArray, List.map_cons, List.map_nil]); first | done | rfl | (simp only [List.length_drop, List.length_take]; rfl)) ?_; (with_reducible refine (naskhref03_Right.calls ((rd_T33 l0 x6_1).f0) ((rd_T33 l0 x6_1).f1) true _ A5.out).mono ?_); rintro e w8 ⟨rfl, hb⟩; refine ⟨_, rfl, ?_⟩; have n0_ := Aside0.mk (below_step (by repeat (first | (with_reducible first | exact HB.out | apply below_alloc | apply pw_below_drewN | apply below_drew1) | exact HB.out)) hb); clear HB; have HB := n0_; clear n0_; (try clear hb); (try clear hb2); (try clear hk); (try clear hi); have p148 : 0 ≤ (x6_1 : Int) := of_decide_eq_true (by first | (with_reducible assumption) | assumption); have q148 : x6_1 < (l0.length : Int) := of_decide_eq_true (by first | (with_reducible assumption) | assumption); obtain ⟨ad148, e148, hx148_0, hx148_1⟩ := at_T33 HR0.out x6_1 p148 q148; obtain rfl : ad146 = ad148 := (by injection e148); replace hx148_0 := (HB.out.cell (World.block_lt_of_cell? w _ hx148_0)).trans hx148_0; replace hx148_1 := (HB.out.cell (World.block_lt_of_cell? w _ hx148_1)).trans hx148_1; replace p148 := eq_true p148; replace q148 := eq_true q148; have p149 : 0 ≤ (x6_1 : Int) := of_decide_eq_true (by first | (with_reducible assumption) | assumption); have q149 : x6_1 < (l0.length : Int) := of_decide_eq_true (by first | (with_reducible assumption) | assumption); obtain ⟨ad149, e149, hx149_0, hx149_1⟩ := at_T33 HR0.out x6_1 p149 q149; obtain rfl : ad146 = ad149 := (by injection e149); replace hx149_0 := (HB.out.cell (World.block_lt_of_cell? w _ hx149_0)).trans hx149_0; replace hx149_1 := (HB.out.cell (World.block_lt_of_cell? w _ hx149_1)).trans hx149_1; replace p149 := eq_true p149; replace q149 := eq_true q149))
              go_roundg k1
              case measure => have := HK1.out; omega
              case rel => exact ⟨((rd_T33 l0 x6_1).f1), (wrap64 (x6_1 + 1)), (by first | rfl | (simp; done) | (simp [*]; done)), (by first | rfl | (simp; done) | (simp [*]; done)), H', ⟨by have := HK1.out; omega⟩, ⟨by repeat (first | (with_reducible first | exact HB.out | apply below_alloc | apply pw_below_drewN | apply below_drew1) | exact HB.out)⟩⟩
            · rw [if_neg c7] at H
              have c7b0 : (((rd_T33 l0 x6_1).f0) == x5_1) = false := beq_eq_false_iff_ne.mpr c7
              have c7b1 : (((rd_T33 l0 x6_1).f0) != x5_1) = true := bne_iff_ne.mpr c7
              obtain rfl := Option.some.inj H
              have p146 : 0 ≤ (x6_1 : Int) := of_decide_eq_true (by first | (with_reducible assumption) | assumption)
              have q146 : x6_1 < (l0.length : Int) := of_decide_eq_true (by first | (with_reducible assumption) | assumption)
              obtain ⟨ad146, e146, hx146_0, hx146_1⟩ := at_T33 HR0.out x6_1 p146 q146
              cases e146
              replace hx146_0 := (HB.out.cell (World.block_lt_of_cell? w _ hx146_0)).trans hx146_0
              replace hx146_1 := (HB.out.cell (World.block_lt_of_cell? w _ hx146_1)).trans hx146_1
              replace p146 := eq_true p146
              replace q146 := eq_true q146
              go_wp2_with (first | ((with_reducible refine gate_callee (f := 76) rfl ?_); refine goesL_ (some 17) rfl rfl Try.func76 (by kernel_rfl) rfl #[.agg #[.int .i64 ((rd_T33 l0 x6_1).f0), .int .i64 ((rd_T33 l0 x6_1).f1)]] rfl (by (try simp only [List.map_toArray, List.map_cons, List.map_nil]); first | done | rfl | (simp only [List.length_drop, List.length_take]; rfl)) ?_; (with_reducible refine (naskhref03_Right.calls ((rd_T33 l0 x6_1).f0) ((rd_T33 l0 x6_1).f1) true _ A5.out).mono ?_); rintro e w9 ⟨rfl, hb⟩; refine ⟨_, rfl, ?_⟩; have n0_ := Aside0.mk (below_step (by repeat (first | (with_reducible first | exact HB.out | apply below_alloc | apply pw_below_drewN | apply below_drew1) | exact HB.out)) hb); clear HB; have HB := n0_; clear n0_; (try clear hb); (try clear hb2); (try clear hk); (try clear hi); have p148 : 0 ≤ (x6_1 : Int) := of_decide_eq_true (by first | (with_reducible assumption) | assumption); have q148 : x6_1 < (l0.length : Int) := of_decide_eq_true (by first | (with_reducible assumption) | assumption); obtain ⟨ad148, e148, hx148_0, hx148_1⟩ := at_T33 HR0.out x6_1 p148 q148; obtain rfl : ad146 = ad148 := (by injection e148); replace hx148_0 := (HB.out.cell (World.block_lt_of_cell? w _ hx148_0)).trans hx148_0; replace hx148_1 := (HB.out.cell (World.block_lt_of_cell? w _ hx148_1)).trans hx148_1; replace p148 := eq_true p148; replace q148 := eq_true q148))
              go_ret
              exact ⟨by first | rfl | (simp [errW_none, errW_some] <;> rfl) | (simp [*, errW_none, errW_some] <;> rfl), by repeat (first | (with_reducible first | exact HB.out | apply below_alloc | apply pw_below_drewN | apply below_drew1) | exact HB.out)⟩
          · replace c6 := Bool.eq_false_iff.mpr c6
            subst c6
            have H1 : (some false) = some r := by rw [if_neg (show ¬ (false = true) by decide)] at H; exact H
            clear H
            have H := H1
            clear H1
            obtain rfl := Option.some.inj H
            have p146 : 0 ≤ (x6_1 : Int) := of_decide_eq_true (by first | (with_reducible assumption) | assumption)
            have q146 : x6_1 < (l0.length : Int) := of_decide_eq_true (by first | (with_reducible assumption) | assumption)
            obtain ⟨ad146, e146, hx146_0, hx146_1⟩ := at_T33 HR0.out x6_1 p146 q146
            cases e146
            replace hx146_0 := (HB.out.cell (World.block_lt_of_cell? w _ hx146_0)).trans hx146_0
            replace hx146_1 := (HB.out.cell (World.block_lt_of_cell? w _ hx146_1)).trans hx146_1
            replace p146 := eq_true p146
            replace q146 := eq_true q146
            go_wp2_with (first | ((with_reducible refine gate_callee (f := 76) rfl ?_); refine goesL_ (some 17) rfl rfl Try.func76 (by kernel_rfl) rfl #[.agg #[.int .i64 ((rd_T33 l0 x6_1).f0), .int .i64 ((rd_T33 l0 x6_1).f1)]] rfl (by (try simp only [List.map_toArray, List.map_cons, List.map_nil]); first | done | rfl | (simp only [List.length_drop, List.length_take]; rfl)) ?_; (with_reducible refine (naskhref03_Right.calls ((rd_T33 l0 x6_1).f0) ((rd_T33 l0 x6_1).f1) false _ A5.out).mono ?_); rintro e w10 ⟨rfl, hb⟩; refine ⟨_, rfl, ?_⟩; have n0_ := Aside0.mk (below_step (by repeat (first | (with_reducible first | exact HB.out | apply below_alloc | apply pw_below_drewN | apply below_drew1) | exact HB.out)) hb); clear HB; have HB := n0_; clear n0_; (try clear hb); (try clear hb2); (try clear hk); (try clear hi)))
            go_ret
            exact ⟨by first | rfl | (simp [errW_none, errW_some] <;> rfl) | (simp [*, errW_none, errW_some] <;> rfl), by repeat (first | (with_reducible first | exact HB.out | apply below_alloc | apply pw_below_drewN | apply below_drew1) | exact HB.out)⟩
        · rw [if_neg c4] at H
          exact absurd H (by simp)
      · rw [if_neg c3] at H
        have c3b0 : decide (x6_1 < (l0.length : Int)) = false := decide_eq_false c3
        clear c3
        obtain rfl := Option.some.inj H
        go_wp2
        go_ret
        exact ⟨by first | rfl | (simp [errW_none, errW_some] <;> rfl) | (simp [*, errW_none, errW_some] <;> rfl), by repeat (first | (with_reducible first | exact HB.out | apply below_alloc | apply pw_below_drewN | apply below_drew1) | exact HB.out)⟩




end Go.Proofs.Ytohhobcipfmkbaa.PClusterFinest

namespace Go.Proofs.Ytohhobcipfmkbaa.CSort
open Go.RowKit Go.Proofs.YtohhobcipfmkbaaW.PrintWords Go.Proofs.YtohhobcipfmkbaaW.PrintMore Go.Proofs.YtohhobcipfmkbaaW.PrintLast Go.Proofs.Ytohhobcipfmkbaa.U Go.Proofs.Ytohhobcipfmkbaa.PClusterFinest Go.Proofs.Ytohhobcipfmkbaa.CFin
set_option linter.unusedVariables false
set_option linter.unusedSimpArgs false
theorem refParts_loop (n : Int) (l : List S33) (hl : l.length ≤ 1000000) (d : Nat) : ∀ (i : Nat) (e : Int), i + d = l.length → Ev (fun k => naskhref03_Parts.l0 k l n e (i : Int)) (partsTo n (l.drop i) e) := by
  induction d with
  | zero =>
    intro i e hd
    rw [List.drop_of_length_le (by omega), partsTo]
    refine Ev.step (fun k => by rw [naskhref03_Parts.l0]) (ev_neg (by omega) (ev_eq (ev_now _) ?_))
    rw [Bool.eq_iff_iff]; simp
  | succ d ih =>
    intro i e hd
    have hlt : i < l.length := by omega
    rw [List.drop_eq_getElem_cons hlt, partsTo]
    refine Ev.step (fun k => by rw [naskhref03_Parts.l0]) (ev_pos (by omega) (ev_pos (by omega) ?_))
    rw [CFin.rd33 hlt]
    unfold naskhref03_Right.f
    by_cases h2 : 0 ≤ l[i].f0
    · rw [if_pos (show l[i].f0 ≥ 0 from h2)]
      refine ev_bindc rfl ?_
      by_cases h3 : l[i].f0 < l[i].f1
      · refine ev_pos (decide_eq_true h3) ?_
        by_cases h1 : l[i].f0 = e
        · rw [if_pos ⟨h1, h2, h3⟩]
          refine ev_pos h1 ?_
          rw [w64 (by omega) (by omega), show (i : Int) + 1 = ((i + 1 : Nat) : Int) by omega]
          exact ih (i + 1) _ (by omega)
        · rw [if_neg (fun h => h1 h.1)]
          exact ev_neg h1 (ev_now _)
      · rw [if_neg (fun h => h3 h.2.2)]
        exact ev_neg (by simpa using h3) (ev_now _)
    · rw [if_neg (show ¬ l[i].f0 ≥ 0 from h2), if_neg (fun h => h2 h.2.1)]
      exact ev_bindc rfl (ev_neg (by simp) (ev_now _))
theorem refParts_c (n : Int) {w : World} {v : Value} {l : List S33} (h : SLk k33 w v l) (hl : l.length ≤ 1000000) : Calls Try.prog 56 #[v, .int .i64 n] w fun e w' => e = .returned (.bool (partsTo n l 0)) ∧ Below w.heap.size w w' := by
  obtain ⟨A, c, rfl, hc, hC⟩ := h
  obtain ⟨k, hk⟩ := CFin.ev_some (refParts_loop n l hl l.length 0 0 (by omega))
  exact naskhref03_Parts.calls k A c l n _ w hC hc hk
end Go.Proofs.Ytohhobcipfmkbaa.CSort

namespace Go.Proofs.Ytohhobcipfmkbaa.CSort
open Go.RowKit Go.Proofs.YtohhobcipfmkbaaW.PrintWords Go.Proofs.YtohhobcipfmkbaaW.PrintMore Go.Proofs.YtohhobcipfmkbaaW.PrintLast Go.Proofs.Ytohhobcipfmkbaa.U Go.Proofs.Ytohhobcipfmkbaa.PClusterFinest Go.Proofs.Ytohhobcipfmkbaa.CFin Go.Proofs.Ytohhobcipfmkbaa.UFinEv
set_option linter.unusedVariables false
set_option linter.unusedSimpArgs false
set_option maxRecDepth 100000 in
set_option maxHeartbeats 4000000 in
theorem refCheck_c {w : World} {v : Value} {l : List S45} (n m : Int) (h : SLk k45 w v l) (hl : l.length ≤ 100000) :
    Calls Try.prog 30 #[v, .int .i64 n, .int .i64 m] w fun e w' => e = .returned (.bool (checkB n m l (sortL (l.map (·.f1))))) ∧ Below w.heap.size w w' := by
  have HL := Aside0.mk hl
  obtain ⟨A, cl, rfl, hcl, hC⟩ := h
  have HC := Aside0.mk hC
  clear hl hcl hC
  go_enter Try.func30, Try.ntmps30
  go_wp2
  go_loopw [7, 8, 9] (fun v4 v5 v wr => ∃ k : Nat, v = .int .i64 (k : Int) ∧ k ≤ l.length ∧ Aside0 (Kd.R k33 33 wr w.heap.size (fun k => some k = v4.ownBlock) v4 ((l.take k).map (·.f0))) ∧ Aside0 (Kd.R k33 33 wr w.heap.size (fun k => some k = v5.ownBlock) v5 ((l.take k).map (·.f1))) ∧ Aside0 (∀ k, v4.ownBlock = some k → v5.ownBlock ≠ some k) ∧ Aside0 (Below w.heap.size w wr)) (fun _ _ v _ => l.length - (intOf v).toNat)
  case atStart => exact ⟨0, rfl, Nat.zero_le _, ⟨Kd.R_nil _ _ _ _ _⟩, ⟨Kd.R_nil _ _ _ _ _⟩, ⟨fun k hk => by simp [Value.ownBlock] at hk⟩, ⟨Below.refl _ _⟩⟩
  case round =>
    obtain ⟨k, rfl, hk, HR1, HR2, HNE, HB⟩ := hrel
    by_cases hlt : k < l.length
    · obtain ⟨ad, ead, c0, c1, c2, c3⟩ := at_T45 HC.out (k : Int) (by omega) (by omega)
      rw [rd45 hlt, Int.toNat_natCast] at c0 c1 c2 c3
      obtain ⟨x, hx⟩ : ∃ x, x = l[k] := ⟨_, rfl⟩
      rw [← hx] at c0 c1 c2 c3
      have HXE := Aside0.mk hx
      have hkI : (k : Int) < (l.length : Int) := by omega
      have hk0 : 0 ≤ (k : Int) := by omega
      have etk : (k : Int).toNat = k := Int.toNat_natCast _
      subst ead
      clear hx
      go_wp2
      have HPR : Aside0 (PR wr wr.drew w.heap.size (fun _ => False) x.f0 x.f1 u7 ((l.take k).map (·.f0)) u8 ((l.take k).map (·.f1)) none none) := ⟨(PR.start HR1.out HR2.out HNE.out (fun k hk => hk.elim) (fun k hk => hk.elim) (fun k hk => hk.elim)).drew⟩
      have hlen : (l.take k).length = k := by rw [List.length_take]; omega
      have HLE := Aside0.mk hlen
      have HBD : Aside0 (Below w.heap.size w wr.drew) := ⟨below_drew HB.out⟩
      clear hlen HR1 HR2 HNE
      refine start_ (n := 18) (S := (fun W => Below w.heap.size w W)) (ds := [15]) #[false, false, false, false, false, false, false, false, false, false, false, false, false, false, false, false, false, false] (by kernel_rfl) (by kernel_rfl) (by rfl) HBD.out (fun hS0 => ?_)
      refine pure_ (i := 0) (N := (some 16)) (v := ?_) (a' := ?_) #[true, false, false, false, false, false, false, false, false, false, false, false, false, false, false, false, false, false] rfl rfl (by kernel_rfl) (fun _ _ _ h => h) (Or.inl ⟨by rfl, ?_⟩) ?_ ?_
      rotate_left
      · intro w'
        go_simp
        with_reducible rfl
      rotate_left
      · simp only [Act.put, List.setIfInBounds_toArray, List.set_cons_zero, List.set_cons_succ]
        rfl
      refine pure_ (i := 1) (N := (some 17)) (v := ?_) (a' := ?_) #[true, true, false, false, false, false, false, false, false, false, false, false, false, false, false, false, false, false] rfl rfl (by kernel_rfl) (fun _ _ _ h => h) (Or.inl ⟨by rfl, ?_⟩) ?_ ?_
      rotate_left
      · intro w'
        go_simp
        with_reducible rfl
      rotate_left
      · simp only [Act.put, List.setIfInBounds_toArray, List.set_cons_zero, List.set_cons_succ]
        rfl
      refine pure_ (i := 2) (N := (some 18)) (v := ?_) (a' := ?_) #[true, true, true, false, false, false, false, false, false, false, false, false, false, false, false, false, false, false] rfl rfl (by kernel_rfl) (fun _ _ _ h => h) (Or.inl ⟨by rfl, ?_⟩) ?_ ?_
      rotate_left
      · intro w'
        go_simp
        with_reducible rfl
      rotate_left
      · simp only [Act.put, List.setIfInBounds_toArray, List.set_cons_zero, List.set_cons_succ]
        rfl
      refine pure_ (i := 3) (N := (some 19)) (v := ?_) (a' := ?_) #[true, true, true, true, false, false, false, false, false, false, false, false, false, false, false, false, false, false] rfl rfl (by kernel_rfl) (fun _ _ _ h => h) (Or.inl ⟨by rfl, ?_⟩) ?_ ?_
      rotate_left
      · intro w'
        go_simp
        with_reducible rfl
      rotate_left
      · simp only [Act.put, List.setIfInBounds_toArray, List.set_cons_zero, List.set_cons_succ]
        rfl
      refine pure_ (i := 4) (N := (some 20)) (v := ?_) (a' := ?_) #[true, true, true, true, true, false, false, false, false, false, false, false, false, false, false, false, false, false] rfl rfl (by kernel_rfl) (fun _ _ _ h => h) (Or.inl ⟨by rfl, ?_⟩) ?_ ?_
      rotate_left
      · intro w'
        go_simp
        with_reducible rfl
      rotate_left
      · simp only [Act.put, List.setIfInBounds_toArray, List.set_cons_zero, List.set_cons_succ]
        rfl
      refine take_ (i := 5) (N := (some 21)) (v := ?_) (a' := ?_) #[true, true, true, true, true, true, false, false, false, false, false, false, false, false, false, false, false, false] rfl rfl (by kernel_rfl) (fun _ _ _ h => h) (Or.inl ⟨by rfl, ?_⟩) hS0 ?_ ?_
      rotate_left
      · intro w' s0
        have q0 := (s0.cell (World.block_lt_of_cell? _ _ c0)).trans c0
        have q1 := (s0.cell (World.block_lt_of_cell? _ _ c1)).trans c1
        go_simp
        with_reducible rfl
      rotate_left
      · simp only [Act.put, List.setIfInBounds_toArray, List.set_cons_zero, List.set_cons_succ]
        rfl
      refine pure_ (i := 8) (N := (some 24)) (v := ?_) (a' := ?_) #[true, true, true, true, true, true, false, false, true, false, false, false, false, false, false, false, false, false] rfl rfl (by kernel_rfl) (fun _ _ _ h => h) (Or.inl ⟨by rfl, ?_⟩) ?_ ?_
      rotate_left
      · intro w'
        go_simp
        with_reducible rfl
      rotate_left
      · simp only [Act.put, List.setIfInBounds_toArray, List.set_cons_zero, List.set_cons_succ]
        rfl
      refine pure_ (i := 9) (N := (some 25)) (v := ?_) (a' := ?_) #[true, true, true, true, true, true, false, false, true, true, false, false, false, false, false, false, false, false] rfl rfl (by kernel_rfl) (fun _ _ _ h => h) (Or.inl ⟨by rfl, ?_⟩) ?_ ?_
      rotate_left
      · intro w'
        go_simp
        with_reducible rfl
      rotate_left
      · simp only [Act.put, List.setIfInBounds_toArray, List.set_cons_zero, List.set_cons_succ]
        rfl
      refine pure_ (i := 10) (N := (some 26)) (v := ?_) (a' := ?_) #[true, true, true, true, true, true, false, false, true, true, true, false, false, false, false, false, false, false] rfl rfl (by kernel_rfl) (fun _ _ _ h => h) (Or.inl ⟨by rfl, ?_⟩) ?_ ?_
      rotate_left
      · intro w'
        go_simp
        with_reducible rfl
      rotate_left
      · simp only [Act.put, List.setIfInBounds_toArray, List.set_cons_zero, List.set_cons_succ]
        rfl
      refine pure_ (i := 11) (N := (some 27)) (v := ?_) (a' := ?_) #[true, true, true, true, true, true, false, false, true, true, true, true, false, false, false, false, false, false] rfl rfl (by kernel_rfl) (fun _ _ _ h => h) (Or.inl ⟨by rfl, ?_⟩) ?_ ?_
      rotate_left
      · intro w'
        go_simp
        with_reducible rfl
      rotate_left
      · simp only [Act.put, List.setIfInBounds_toArray, List.set_cons_zero, List.set_cons_succ]
        rfl
      refine pure_ (i := 12) (N := (some 28)) (v := ?_) (a' := ?_) #[true, true, true, true, true, true, false, false, true, true, true, true, true, false, false, false, false, false] rfl rfl (by kernel_rfl) (fun _ _ _ h => h) (Or.inl ⟨by rfl, ?_⟩) ?_ ?_
      rotate_left
      · intro w'
        go_simp
        with_reducible rfl
      rotate_left
      · simp only [Act.put, List.setIfInBounds_toArray, List.set_cons_zero, List.set_cons_succ]
        rfl
      refine take_ (i := 13) (N := (some 29)) (v := ?_) (a' := ?_) #[true, true, true, true, true, true, false, false, true, true, true, true, true, true, false, false, false, false] rfl rfl (by kernel_rfl) (fun _ _ _ h => h) (Or.inl ⟨by rfl, ?_⟩) hS0 ?_ ?_
      rotate_left
      · intro w' s0
        have q0 := (s0.cell (World.block_lt_of_cell? _ _ c2)).trans c2
        have q1 := (s0.cell (World.block_lt_of_cell? _ _ c3)).trans c3
        go_simp
        with_reducible rfl
      rotate_left
      · simp only [Act.put, List.setIfInBounds_toArray, List.set_cons_zero, List.set_cons_succ]
        rfl
      clear hS0
      refine join_ (σ := Value × Nat × Nat) 3 #[true, true, true, true, true, true, true, true, true, true, true, true, true, true, true, false, false, false] (fun s => [(22, .slice (some ⟨s.2.1, 0, none⟩) 1 1), (23, s.1), (30, .slice (some ⟨s.2.2, 0, none⟩) 1 1)]) (fun s w' => Below w.heap.size w w' ∧ PR wr w' w.heap.size (fun _ => False) x.f0 x.f1 s.1 ((l.take k).map (·.f0) ++ [x.f0]) u8 ((l.take k).map (·.f1)) none (some s.2.2)) ?_ (fun hcont => ?_)
      rotate_left
      · refine two_ (i := 6) (j := 14) (Ni := some 22) (Nj := some 30) #[true, true, true, true, true, true, true, false, true, true, true, true, true, true, false, false, false, false] #[true, true, true, true, true, true, false, false, true, true, true, true, true, true, true, false, false, false] rfl rfl rfl rfl (by kernel_rfl) (by decide) (by decide) (fun K hK => ?_) (fun K hK => ?_)
        · obtain ⟨wA, ewA⟩ : ∃ W, W = wr.drew.alloc (cells33 x.f0) := ⟨_, rfl⟩
          have hp1 := HPR.out.build
          rw [← ewA] at hp1
          have hbwA : Below w.heap.size w wA := by rw [ewA]; exact below_alloc HBD.out _
          refine value_ (w1 := wA) (v := .slice (some ⟨wr.drew.heap.size, 0, none⟩) 1 1) (by rfl) rfl (by rw [ewA]; go_simp) ?_
          change K (Act.put _ (some 22) _) _
          refine hK.out _ _ hbwA (fun hS0 => ?_)
          clear hK
          refine norm_ (a' := ?_) ?_ ?_
          rotate_left
          · simp only [Act.put, List.setIfInBounds_toArray, List.set_cons_zero, List.set_cons_succ]
            rfl
          clear hS0
          refine two_ (i := 7) (j := 14) (Ni := some 23) (Nj := some 30) #[true, true, true, true, true, true, true, true, true, true, true, true, true, true, false, false, false, false] #[true, true, true, true, true, true, true, false, true, true, true, true, true, true, true, false, false, false] rfl rfl rfl rfl (by kernel_rfl) (by decide) (by decide) (fun K hK => ?_) (fun K hK => ?_)
          · refine Kd.R_append_rows_step k33 (w0 := w) w.heap.size (by rfl) (.tmp 16) (.tmp 22) 49 33 (.agg #[(.int .i64 0), (.int .i64 0)]) 16 rfl Try.underlying49 info33 rfl (by decide) (by omega) _ ((l.take k).map (·.f0)) [x.f0] (some ⟨wr.drew.heap.size, 0, none⟩) 1 1 (fun _ => True) (fun _ => False) rfl rfl (Kd.R_mono hp1.r1 (fun _ _ => trivial)) (one33 (hp1.b1 _ rfl).1) (fun y cs h => by rw [k33_open h]; exact k33_mkM _ _ _ y) (fun _ h => h.elim) (fun _ _ => trivial) hbwA (hbwA).size (by rw [List.length_map, HLE.out]; have := HL.out; omega) ?_
            intro v1 wB hv hbwB hg hat
            have hp2 := hp1.append hv hg hat
            clear hv hg hat
            change K (Act.put _ (some 23) _) _
            refine hK.out _ _ hbwB (fun hS0 => ?_)
            clear hK
            refine norm_ (a' := ?_) ?_ ?_
            rotate_left
            · simp only [Act.put, List.setIfInBounds_toArray, List.set_cons_zero, List.set_cons_succ]
              rfl
            clear hS0
            refine one_ (i := 14) (N := (some 30)) #[true, true, true, true, true, true, true, true, true, true, true, true, true, true, true, false, false, false] rfl rfl (by kernel_rfl) (by decide) (fun K hK => ?_)
            obtain ⟨wC, ewC⟩ : ∃ W, W = wB.alloc (cells33 x.f1) := ⟨_, rfl⟩
            have hp3 := hp2.symm.build.symm
            rw [← ewC] at hp3
            have hbwC : Below w.heap.size w wC := by rw [ewC]; exact below_alloc hbwB _
            refine value_ (w1 := wC) (v := .slice (some ⟨wB.heap.size, 0, none⟩) 1 1) (by rfl) rfl (by rw [ewC]; go_simp) ?_
            change K (Act.put _ (some 30) _) _
            refine hK.out _ _ hbwC (fun hS0 => ?_)
            clear hK
            exact hcont (v1, _, _) wC ⟨hbwC, hp3⟩
          · obtain ⟨wB, ewB⟩ : ∃ W, W = wA.alloc (cells33 x.f1) := ⟨_, rfl⟩
            have hp2 := hp1.symm.build.symm
            rw [← ewB] at hp2
            have hbwB : Below w.heap.size w wB := by rw [ewB]; exact below_alloc hbwA _
            refine value_ (w1 := wB) (v := .slice (some ⟨wA.heap.size, 0, none⟩) 1 1) (by rfl) rfl (by rw [ewB]; go_simp) ?_
            change K (Act.put _ (some 30) _) _
            refine hK.out _ _ hbwB (fun hS0 => ?_)
            clear hK
            refine norm_ (a' := ?_) ?_ ?_
            rotate_left
            · simp only [Act.put, List.setIfInBounds_toArray, List.set_cons_zero, List.set_cons_succ]
              rfl
            clear hS0
            refine one_ (i := 7) (N := (some 23)) #[true, true, true, true, true, true, true, true, true, true, true, true, true, true, true, false, false, false] rfl rfl (by kernel_rfl) (by decide) (fun K hK => ?_)
            refine Kd.R_append_rows_step k33 (w0 := w) w.heap.size (by rfl) (.tmp 16) (.tmp 22) 49 33 (.agg #[(.int .i64 0), (.int .i64 0)]) 16 rfl Try.underlying49 info33 rfl (by decide) (by omega) _ ((l.take k).map (·.f0)) [x.f0] (some ⟨wr.drew.heap.size, 0, none⟩) 1 1 (fun _ => True) (fun _ => False) rfl rfl (Kd.R_mono hp2.r1 (fun _ _ => trivial)) (one33 (hp2.b1 _ rfl).1) (fun y cs h => by rw [k33_open h]; exact k33_mkM _ _ _ y) (fun _ h => h.elim) (fun _ _ => trivial) hbwB (hbwB).size (by rw [List.length_map, HLE.out]; have := HL.out; omega) ?_
            intro v1 wC hv hbwC hg hat
            have hp3 := hp2.append hv hg hat
            clear hv hg hat
            change K (Act.put _ (some 23) _) _
            refine hK.out _ _ hbwC (fun hS0 => ?_)
            clear hK
            exact hcont (v1, _, _) wC ⟨hbwC, hp3⟩
        · obtain ⟨wA, ewA⟩ : ∃ W, W = wr.drew.alloc (cells33 x.f1) := ⟨_, rfl⟩
          have hp1 := HPR.out.symm.build.symm
          rw [← ewA] at hp1
          have hbwA : Below w.heap.size w wA := by rw [ewA]; exact below_alloc HBD.out _
          refine value_ (w1 := wA) (v := .slice (some ⟨wr.drew.heap.size, 0, none⟩) 1 1) (by rfl) rfl (by rw [ewA]; go_simp) ?_
          change K (Act.put _ (some 30) _) _
          refine hK.out _ _ hbwA (fun hS0 => ?_)
          clear hK
          refine norm_ (a' := ?_) ?_ ?_
          rotate_left
          · simp only [Act.put, List.setIfInBounds_toArray, List.set_cons_zero, List.set_cons_succ]
            rfl
          clear hS0
          refine one_ (i := 6) (N := (some 22)) #[true, true, true, true, true, true, true, false, true, true, true, true, true, true, true, false, false, false] rfl rfl (by kernel_rfl) (by decide) (fun K hK => ?_)
          obtain ⟨wB, ewB⟩ : ∃ W, W = wA.alloc (cells33 x.f0) := ⟨_, rfl⟩
          have hp2 := hp1.build
          rw [← ewB] at hp2
          have hbwB : Below w.heap.size w wB := by rw [ewB]; exact below_alloc hbwA _
          refine value_ (w1 := wB) (v := .slice (some ⟨wA.heap.size, 0, none⟩) 1 1) (by rfl) rfl (by rw [ewB]; go_simp) ?_
          change K (Act.put _ (some 22) _) _
          refine hK.out _ _ hbwB (fun hS0 => ?_)
          clear hK
          refine norm_ (a' := ?_) ?_ ?_
          rotate_left
          · simp only [Act.put, List.setIfInBounds_toArray, List.set_cons_zero, List.set_cons_succ]
            rfl
          clear hS0
          refine one_ (i := 7) (N := (some 23)) #[true, true, true, true, true, true, true, true, true, true, true, true, true, true, true, false, false, false] rfl rfl (by kernel_rfl) (by decide) (fun K hK => ?_)
          refine Kd.R_append_rows_step k33 (w0 := w) w.heap.size (by rfl) (.tmp 16) (.tmp 22) 49 33 (.agg #[(.int .i64 0), (.int .i64 0)]) 16 rfl Try.underlying49 info33 rfl (by decide) (by omega) _ ((l.take k).map (·.f0)) [x.f0] (some ⟨wA.heap.size, 0, none⟩) 1 1 (fun _ => True) (fun _ => False) rfl rfl (Kd.R_mono hp2.r1 (fun _ _ => trivial)) (one33 (hp2.b1 _ rfl).1) (fun y cs h => by rw [k33_open h]; exact k33_mkM _ _ _ y) (fun _ h => h.elim) (fun _ _ => trivial) hbwB (hbwB).size (by rw [List.length_map, HLE.out]; have := HL.out; omega) ?_
          intro v1 wC hv hbwC hg hat
          have hp3 := hp2.append hv hg hat
          clear hv hg hat
          change K (Act.put _ (some 23) _) _
          refine hK.out _ _ hbwC (fun hS0 => ?_)
          clear hK
          exact hcont (v1, _, _) wC ⟨hbwC, hp3⟩
      rintro ⟨v1, b1, b2⟩ w8 ⟨hb8, hp8⟩
      dsimp only [putAll]
      dsimp only at hp8
      have HB8 := Aside0.mk hb8
      have HP8 := Aside0.mk hp8.symm
      clear hb8 hp8
      refine norm_ (a' := ?_) ?_ ?_
      rotate_left
      · simp only [Act.put, List.setIfInBounds_toArray, List.set_cons_zero, List.set_cons_succ]
        rfl
      refine last_ (i := 15) (N := (some 31)) #[true, true, true, true, true, true, true, true, true, true, true, true, true, true, true, true, false, false] rfl rfl (by kernel_rfl) (by decide) (fun K hK => ?_)
      refine Kd.R_append_rows_step k33 (w0 := w) w.heap.size (by rfl) (.tmp 24) (.tmp 30) 49 33 (.agg #[(.int .i64 0), (.int .i64 0)]) 16 rfl Try.underlying49 info33 rfl (by decide) (by omega) _ ((l.take k).map (·.f1)) [x.f1] (some ⟨b2, 0, none⟩) 1 1 (fun _ => True) (fun _ => False) rfl rfl (Kd.R_mono HP8.out.r1 (fun _ _ => trivial)) (one33 (HP8.out.b1 _ rfl).1) (fun y cs h => by rw [k33_open h]; exact k33_mkM _ _ _ y) (fun _ h => h.elim) (fun _ _ => trivial) HB8.out (HB8.out).size (by rw [List.length_map, HLE.out]; have := HL.out; omega) ?_
      intro v2 w9 hv hbw9 hg hat
      have hp9 := HP8.out.append hv hg hat
      clear hv hg hat
      have HP9 := Aside0.mk hp9.symm
      have HB9 := Aside0.mk hbw9
      clear hp9 hbw9
      change K (Act.put _ (some 31) _) _
      refine hK.out _ _ ?_
      clear hK
      refine norm_ (a' := ?_) ?_ ?_
      rotate_left
      · simp only [Act.put, List.setIfInBounds_toArray, List.set_cons_zero, List.set_cons_succ]
        rfl
      refine pure_ (i := 16) (N := (some 7)) (v := ?_) (a' := ?_) #[true, true, true, true, true, true, true, true, true, true, true, true, true, true, true, true, true, false] rfl rfl (by kernel_rfl) (fun _ _ _ h => h) (Or.inl ⟨by rfl, ?_⟩) ?_ ?_
      rotate_left
      · intro w'
        go_simp
        with_reducible rfl
      rotate_left
      · simp only [Act.put, List.setIfInBounds_toArray, List.set_cons_zero, List.set_cons_succ]
        rfl
      refine pure_ (i := 17) (N := (some 8)) (v := ?_) (a' := ?_) #[true, true, true, true, true, true, true, true, true, true, true, true, true, true, true, true, true, true] rfl rfl (by kernel_rfl) (fun _ _ _ h => h) (Or.inl ⟨by rfl, ?_⟩) ?_ ?_
      rotate_left
      · intro w'
        go_simp
        with_reducible rfl
      rotate_left
      · simp only [Act.put, List.setIfInBounds_toArray, List.set_cons_zero, List.set_cons_succ]
        rfl
      refine done_ (by kernel_rfl) ?_
      go_wp2_with fail
      have e1 : (l.take (k + 1)).map (·.f0) = (l.take k).map (·.f0) ++ [x.f0] := by rw [List.take_succ_eq_append_getElem hlt, List.map_append, ← HXE.out]; rfl
      have e2 : (l.take (k + 1)).map (·.f1) = (l.take k).map (·.f1) ++ [x.f1] := by rw [List.take_succ_eq_append_getElem hlt, List.map_append, ← HXE.out]; rfl
      try rw [w64 (n := (k : Int) + 1) (by omega) (by have := HL.out; omega)]
      exact ⟨⟨k + 1, by go_num, by omega, ⟨by rw [e1]; exact HP9.out.r1⟩, ⟨by rw [e2]; exact HP9.out.r2⟩, ⟨HP9.out.ne⟩, HB9⟩, by simp [intOf]; omega⟩
    · have ek : k = l.length := by omega
      subst ek
      rw [List.take_length] at HR1 HR2
      have HS1 : Aside0 (SLk k33 wr u7 (l.map (·.f0))) := ⟨SLk.of_R HR1.out⟩
      have HS2 : Aside0 (SLk k33 wr u8 (l.map (·.f1))) := ⟨SLk.of_R HR2.out⟩
      have hm1 : (l.map (·.f0)).length ≤ 1000000 := by rw [List.length_map]; have := HL.out; omega
      have hm2 : (l.map (·.f1)).length ≤ 1000000 := by rw [List.length_map]; have := HL.out; omega
      have hm3 : (sortL (l.map (·.f1))).length ≤ 1000000 := by rw [sortL_len]; exact hm2
      have HM1 := Aside0.mk hm1
      have HM2 := Aside0.mk hm2
      have HM3 := Aside0.mk hm3
      obtain ⟨b1, hb1⟩ : ∃ b1, partsTo n (l.map (·.f0)) 0 = b1 := ⟨_, rfl⟩
      obtain ⟨b2, hb2⟩ : ∃ b2, partsTo m (sortL (l.map (·.f1))) 0 = b2 := ⟨_, rfl⟩
      have HCB : Aside0 (checkB n m l (sortL (l.map (·.f1))) = (b1 && b2)) := ⟨by unfold checkB; rw [hb1, hb2]⟩
      have HB1 := Aside0.mk hb1
      have HB2' := Aside0.mk hb2
      have T1 : Aside0 True := ⟨trivial⟩
      clear hm1 hm2 hm3 hb1 hb2 HR1 HR2
      cases b1 with
      | false =>
        go_wp2_with (first | (go_at_call 56; have tk := T1.out; clear T1 tk; refine (refParts_c n HS1.out HM1.out).mono ?_; rintro e w3 ⟨rfl, hb3⟩; rw [HB1.out]; have HB3 : Aside0 (Below w.heap.size w w3) := ⟨below_step HB.out hb3⟩; have HS3 := Aside0.mk (SLk.below HS2.out hb3); clear hb3 HS2 HS1))
        go_ret
        exact ⟨by rw [HCB.out]; rfl, HB3.out⟩
      | true =>
        go_wp2_with (first | (go_at_call 56; have tk := T1.out; clear T1 tk; refine (refParts_c n HS1.out HM1.out).mono ?_; rintro e w3 ⟨rfl, hb3⟩; rw [HB1.out]; have HB3 : Aside0 (Below w.heap.size w w3) := ⟨below_step HB.out hb3⟩; have HS3 := Aside0.mk (SLk.below HS2.out hb3); clear hb3 HS2 HS1) | (go_at_call 57; refine (sorted_c HS3.out HM2.out).mono ?_; rintro e w4 ⟨u4, rfl, hR4, hb4⟩; have HB4 : Aside0 (Below w.heap.size w w4) := ⟨below_step HB3.out hb4⟩; have HS4 := Aside0.mk (SLk.of_R hR4); clear hR4 hb4 HS3 HB3) | (go_at_call 56; refine (refParts_c m HS4.out HM3.out).mono ?_; rintro e w5 ⟨rfl, hb5⟩; rw [HB2'.out]; have HB5 : Aside0 (Below w.heap.size w w5) := ⟨below_step HB4.out hb5⟩; clear hb5 HS4 HB4))
        go_ret
        exact ⟨by rw [HCB.out]; rfl, HB5.out⟩
end Go.Proofs.Ytohhobcipfmkbaa.CSort


namespace Go.Proofs.Ytohhobcipfmkbaa.CFin
open Go.RowKit Go.Maps Go.Proofs.YtohhobcipfmkbaaW.PrintWords Go.Proofs.YtohhobcipfmkbaaW.PrintMore Go.Proofs.YtohhobcipfmkbaaW.PrintLast Go.Proofs.Ytohhobcipfmkbaa.U Go.Proofs.Ytohhobcipfmkbaa.PClusterFinest Go.Proofs.Ytohhobcipfmkbaa.UFinest Go.Proofs.Ytohhobcipfmkbaa.UFinEv Go.Proofs.Ytohhobcipfmkbaa.CSort
set_option linter.unusedVariables false
set_option linter.unusedSimpArgs false
theorem check_same (n m : Int) (l : List S45) (d : List S33) (hp : d.Perm (l.map (·.f1))) (hs : d.Pairwise (fun a b => ¬ b.f0 < a.f0)) : checkB n m l d = checkB n m l (sortL (l.map (·.f1))) := by
  unfold checkB
  rw [parts_perm m d (sortL (l.map (·.f1))) (hp.trans (sortL_perm _).symm) hs (sortL_sorted _) 0]
end Go.Proofs.Ytohhobcipfmkbaa.CFin
