/- Cells.Join, Cells.Clusters: walked. -/
import Derived.Test.YtohhobcipfmkbaaCCells3
import Derived.Test.YtohhobcipfmkbaaCGrp
namespace Go.Proofs.Ytohhobcipfmkbaa.Cel
open Go.RowKit Go.Proofs.YtohhobcipfmkbaaW.PrintWords Go.Proofs.YtohhobcipfmkbaaW.PrintMore Go.Proofs.YtohhobcipfmkbaaW.PrintLast Go.Proofs.Ytohhobcipfmkbaa.U Go.Proofs.Ytohhobcipfmkbaa.PClusterFinest Go.Proofs.Ytohhobcipfmkbaa.UGroups Go.Proofs.Ytohhobcipfmkbaa.UFinEv
open Go.Proofs.Ytohhobcipfmkbaa.CFin (rd33 info33 cells33 one33)
set_option linter.unusedVariables false
set_option linter.unusedSimpArgs false
/-- the row's cells from lo on, below hi -/
def rowOf (L : List (List Int)) (lo hi : Nat) : List (List Int) := (L.drop lo).take (hi - lo)
def linkStep (L : List (List Int)) (q : List S45 × Nat) (g : S33) : List S45 × Nat :=
  let e := q.2 + (rowOf L g.f0.toNat g.f1.toNat).flatten.length
  (if q.2 < e then q.1 ++ [⟨g, ⟨(q.2 : Int), (e : Int)⟩⟩] else q.1, e)
/-- the links of groups of cells, and how many codes they have -/
def linksOf (L : List (List Int)) (gs : List S33) : List S45 × Nat := gs.foldl (linkStep L) ([], 0)
theorem linksOf_take (L : List (List Int)) {gs : List S33} {k : Nat} (h : k < gs.length) : linksOf L (gs.take (k + 1)) = linkStep L (linksOf L (gs.take k)) gs[k] := by
  unfold linksOf
  rw [List.take_succ_eq_append_getElem h, List.foldl_append]
  rfl
theorem rowOf_le (L : List (List Int)) (lo hi : Nat) : (rowOf L lo hi).flatten.length ≤ L.flatten.length := by
  unfold rowOf
  have h1 : ∀ (l : List (List Int)) (k : Nat), (l.drop k).flatten.length ≤ l.flatten.length := fun l k => by
    conv => rhs; rw [← List.take_append_drop k l, List.flatten_append, List.length_append]
    omega
  exact Nat.le_trans (flat_le _ _) (h1 _ _)
theorem linksOf_le (L : List (List Int)) (gs : List S33) (k : Nat) (hk : k ≤ gs.length) : (linksOf L (gs.take k)).2 ≤ k * L.flatten.length ∧ (linksOf L (gs.take k)).1.length ≤ k := by
  induction k with
  | zero => exact ⟨Nat.zero_le _, Nat.le_refl _⟩
  | succ k ih =>
    obtain ⟨h1, h2⟩ := ih (by omega)
    rw [linksOf_take L (by omega)]
    unfold linkStep
    have := rowOf_le L (gs[k]'(by omega)).f0.toNat (gs[k]'(by omega)).f1.toNat
    refine ⟨by rw [Nat.add_mul, Nat.one_mul]; dsimp only; omega, ?_⟩
    dsimp only
    split
    · rw [List.length_append]; simp; exact h2
    · omega
theorem grp_mem (N : Nat) (J : List S33) (t : Nat) (ht : t ≤ N) : ∀ s ∈ (grpTo N J t).1, 0 ≤ s.f0 ∧ s.f0 < s.f1 ∧ s.f1 ≤ (N : Int) := by
  induction t with
  | zero => intro s hs; cases hs
  | succ t ih =>
    intro s hs
    rw [show grpTo N J (t + 1) = UGroups.stepG N J (t + 1) (grpTo N J t) from rfl] at hs
    unfold UGroups.stepG at hs
    split at hs
    · rcases List.mem_append.1 hs with hs | hs
      · exact ih (by omega) s hs
      · rw [List.mem_singleton] at hs
        subst hs
        have := grp_lo N J t (by omega)
        dsimp only
        omega
    · exact ih (by omega) s hs
/-- spans' blocks are no clusters' block -/
theorem apart33 {w : World} {base base2 : Nat} {ok : Nat → Prop} {v : Value} {xs : List S45} (h : Kd.R k45 45 w base ok v xs) {p : Nat} {P : Prop} (hp : P ∧ base2 ≤ p ∧ p < w.heap.size ∧ ∃ q, q ∈ 33 :: (k33).E ∧ ∃ cells, w.heap[p]? = some (.cells cells q (0, 0))) : some p ≠ v.ownBlock := by
  obtain ⟨_, _, _, q, hq, cells, hc⟩ := hp
  have hE : (k33).E = [] := rfl
  rw [hE, List.mem_singleton] at hq
  subst hq
  exact Kd.R_ne h hc (by decide)
set_option maxRecDepth 100000 in
set_option maxHeartbeats 4000000 in
theorem clusters_nil {w : World} : Calls Try.prog 21 #[.pointer none] w fun e w' => e = .returned (.tuple #[.slice none 0 0, .int .i64 0]) ∧ Below w.heap.size w w' := by
  go_enter Try.func21, Try.ntmps21
  go_wp2
  refine bodyPost_ret (results_tmp2 rfl _ _ _) rfl ?_
  exact ⟨rfl, Below.refl _ _⟩
set_option maxRecDepth 100000 in
set_option maxHeartbeats 8000000 in
theorem clusters_c {w : World} {D : Nat → Prop} {b : Nat} {L : List (List Int)} {J : List S33} (h : CellsAt 51 w D b L J) (hN : L.length ≤ 1000000) (hJ : J.length ≤ 1000000) (hF : L.flatten.length ≤ 10000000) (R : Value → Int → World → Prop)
    (hfin : ∀ w1 u, SLk k45 w1 u (linksOf L (groups L.length J)).1 → Below w.heap.size w w1 → Calls Try.prog 32 #[.int .i64 L.length, .int .i64 (linksOf L (groups L.length J)).2, u] w1 fun e w' => ∃ u r, e = .returned (.tuple #[u, .int .i64 r]) ∧ R u r w' ∧ Below w1.heap.size w1 w') :
    Calls Try.prog 21 #[ptr b] w fun e w' => ∃ u r, e = .returned (.tuple #[u, .int .i64 r]) ∧ R u r w' ∧ Below w.heap.size w w' := by
  obtain ⟨Dr, Dt, A, c, vt, hp⟩ := h.open_
  obtain ⟨At, ct, evt⟩ := Kd.R_slice hp.h3
  subst evt
  obtain ⟨i31, hi31, hs31⟩ : ∃ i, Try.prog.info? 31 = some i ∧ i.size = 1 := by
    have h := info31
    cases hi : Try.prog.info? 31 with
    | none => rw [hi] at h; cases h
    | some i =>
      rw [hi] at h
      simp only [Option.map_some, Option.some.injEq, Prod.mk.injEq] at h
      exact ⟨i, rfl, h.2.1⟩
  have HI31 := Aside0.mk hi31
  have HS31 := Aside0.mk hs31
  have c0 := (blk_cell hp.h1 0).trans rfl
  have c1 := (blk_cell hp.h1 1).trans rfl
  have HP := Aside0.mk hp
  have HRD := Aside0.mk (hp.h2.reads 3)
  have HSJ := Aside0.mk (SLk.of_R hp.h3)
  have HN := Aside0.mk hN
  have HJ := Aside0.mk hJ
  have HF := Aside0.mk hF
  have HFIN := Aside0.mk hfin
  obtain ⟨gs, hgs⟩ : ∃ gs, gs = groups L.length J := ⟨_, rfl⟩
  have HGS := Aside0.mk hgs
  have HGM : Aside0 (∀ s ∈ gs, 0 ≤ s.f0 ∧ s.f0 < s.f1 ∧ s.f1 ≤ (L.length : Int)) := ⟨by rw [hgs]; exact grp_mem L.length J L.length (Nat.le_refl _)⟩
  have HGL : Aside0 (gs.length ≤ L.length) := ⟨by rw [hgs]; exact grp_len L.length J L.length⟩
  rw [← hgs] at HFIN
  clear h hp hN hJ hF hfin hi31 hs31 hgs
  go_enter Try.func21, Try.ntmps21
  go_upto_region 5 with (fail)
  have HBD : Aside0 (Below w.heap.size w w.drew) := ⟨below_drew (Below.refl _ _)⟩
  refine start_ (n := 12) (S := (fun W => Below w.heap.size w W)) (ds := []) #[false, false, false, false, false, false, false, false, false, false, false, false] (by kernel_rfl) (by kernel_rfl) (by rfl) HBD.out (fun hS0 => ?_)
  refine pure_ (i := 0) (N := (some 13)) (v := ?_) (a' := ?_) #[true, false, false, false, false, false, false, false, false, false, false, false] rfl rfl (by kernel_rfl) (fun _ _ _ h => h) (Or.inl ⟨by rfl, ?_⟩) ?_ ?_
  rotate_left
  · intro w'
    go_simp
    with_reducible rfl
  rotate_left
  · simp only [Act.put, List.setIfInBounds_toArray, List.set_cons_zero, List.set_cons_succ]
    rfl
  refine pure_ (i := 1) (N := (some 14)) (v := ?_) (a' := ?_) #[true, true, false, false, false, false, false, false, false, false, false, false] rfl rfl (by kernel_rfl) (fun _ _ _ h => h) (Or.inl ⟨by rfl, ?_⟩) ?_ ?_
  rotate_left
  · intro w'
    go_simp
    with_reducible rfl
  rotate_left
  · simp only [Act.put, List.setIfInBounds_toArray, List.set_cons_zero, List.set_cons_succ]
    rfl
  refine pure_ (i := 2) (N := (some 15)) (v := ?_) (a' := ?_) #[true, true, true, false, false, false, false, false, false, false, false, false] rfl rfl (by kernel_rfl) (fun _ _ _ h => h) (Or.inl ⟨by rfl, ?_⟩) ?_ ?_
  rotate_left
  · intro w'
    go_simp
    with_reducible rfl
  rotate_left
  · simp only [Act.put, List.setIfInBounds_toArray, List.set_cons_zero, List.set_cons_succ]
    rfl
  refine take_ (i := 3) (N := (some 16)) (v := ?_) (a' := ?_) #[true, true, true, true, false, false, false, false, false, false, false, false] rfl rfl (by kernel_rfl) (fun _ _ _ h => h) (Or.inl ⟨by rfl, ?_⟩) hS0 ?_ ?_
  rotate_left
  · intro w' s0
    have hx0 := (s0.cell (World.block_lt_of_cell? _ _ c0)).trans c0
    go_simp
    with_reducible rfl
  rotate_left
  · simp only [Act.put, List.setIfInBounds_toArray, List.set_cons_zero, List.set_cons_succ]
    rfl
  refine pure_ (i := 4) (N := (some 17)) (v := ?_) (a' := ?_) #[true, true, true, true, true, false, false, false, false, false, false, false] rfl rfl (by kernel_rfl) (fun _ _ _ h => h) (Or.inl ⟨by rfl, ?_⟩) ?_ ?_
  rotate_left
  · intro w'
    go_simp
    with_reducible rfl
  rotate_left
  · simp only [Act.put, List.setIfInBounds_toArray, List.set_cons_zero, List.set_cons_succ]
    rfl
  refine pure_ (i := 5) (N := (some 18)) (v := ?_) (a' := ?_) #[true, true, true, true, true, true, false, false, false, false, false, false] rfl rfl (by kernel_rfl) (fun _ _ _ h => h) (Or.inl ⟨by rfl, ?_⟩) ?_ ?_
  rotate_left
  · intro w'
    go_simp
    with_reducible rfl
  rotate_left
  · simp only [Act.put, List.setIfInBounds_toArray, List.set_cons_zero, List.set_cons_succ]
    rfl
  refine pure_ (i := 6) (N := (some 19)) (v := ?_) (a' := ?_) #[true, true, true, true, true, true, true, false, false, false, false, false] rfl rfl (by kernel_rfl) (fun _ _ _ h => h) (Or.inl ⟨by rfl, ?_⟩) ?_ ?_
  rotate_left
  · intro w'
    go_simp
    with_reducible rfl
  rotate_left
  · simp only [Act.put, List.setIfInBounds_toArray, List.set_cons_zero, List.set_cons_succ]
    rfl
  refine pure_ (i := 7) (N := (some 20)) (v := ?_) (a' := ?_) #[true, true, true, true, true, true, true, true, false, false, false, false] rfl rfl (by kernel_rfl) (fun _ _ _ h => h) (Or.inl ⟨by rfl, ?_⟩) ?_ ?_
  rotate_left
  · intro w'
    go_simp
    with_reducible rfl
  rotate_left
  · simp only [Act.put, List.setIfInBounds_toArray, List.set_cons_zero, List.set_cons_succ]
    rfl
  refine take_ (i := 8) (N := (some 21)) (v := ?_) (a' := ?_) #[true, true, true, true, true, true, true, true, true, false, false, false] rfl rfl (by kernel_rfl) (fun _ _ _ h => h) (Or.inl ⟨by rfl, ?_⟩) hS0 ?_ ?_
  rotate_left
  · intro w' s0
    have hx0 := (s0.cell (World.block_lt_of_cell? _ _ c1)).trans c1
    go_simp
    with_reducible rfl
  rotate_left
  · simp only [Act.put, List.setIfInBounds_toArray, List.set_cons_zero, List.set_cons_succ]
    rfl
  refine pure_ (i := 11) (N := (some 24)) (v := ?_) (a' := ?_) #[true, true, true, true, true, true, true, true, true, false, false, true] rfl rfl (by kernel_rfl) (fun _ _ _ h => h) (Or.inl ⟨by rfl, ?_⟩) ?_ ?_
  rotate_left
  · intro w'
    go_simp
    with_reducible rfl
  rotate_left
  · simp only [Act.put, List.setIfInBounds_toArray, List.set_cons_zero, List.set_cons_succ]
    rfl
  clear hS0
  refine one_ (i := 9) (N := (some 22)) #[true, true, true, true, true, true, true, true, true, true, false, true] rfl rfl (by kernel_rfl) (by decide) (fun K hK => ?_)
  refine goes_ Try.func49 (by kernel_rfl) rfl #[.int .i64 L.length, .slice At J.length ct] (by rfl) rfl rfl (by go_simp; done) ?_
  refine (groups_c L.length HN.out (SLk.below HSJ.out HBD.out) HJ.out).mono ?_
  rintro e w2 ⟨u, rfl, hR, hb2⟩
  rw [← HGS.out] at hR
  obtain ⟨A2, c2, eu⟩ := Kd.R_slice hR
  subst eu
  refine ⟨_, rfl, ?_⟩
  have HG2 := Aside0.mk (Kd.R_lower hR (Nat.zero_le _))
  have HB2 : Aside0 (Below w.heap.size w w2) := ⟨below_step HBD.out hb2⟩
  clear hR hb2
  change K (Act.put _ (some 22) _) _
  refine hK.out _ _ HB2.out (fun hS0 => ?_)
  clear hK
  refine norm_ (a' := ?_) ?_ ?_
  rotate_left
  · simp only [Act.put, List.setIfInBounds_toArray, List.set_cons_zero, List.set_cons_succ]
    rfl
  refine pure_ (i := 10) (N := (some 23)) (v := ?_) (a' := ?_) #[true, true, true, true, true, true, true, true, true, true, true, true] rfl rfl (by kernel_rfl) (fun _ _ _ h => h) (Or.inl ⟨by rfl, ?_⟩) ?_ ?_
  rotate_left
  · intro w'
    go_simp
    with_reducible rfl
  rotate_left
  · simp only [Act.put, List.setIfInBounds_toArray, List.set_cons_zero, List.set_cons_succ]
    rfl
  refine done_ (by kernel_rfl) ?_
  clear hS0 HBD
  go_wp2
  go_loopw [4, 5, 24] (fun v4 v5 v wr => ∃ k : Nat, v = .int .i64 (k : Int) ∧ k ≤ gs.length ∧ v5 = .int .i64 ((linksOf L (gs.take k)).2 : Nat) ∧ Aside0 (Kd.R k45 45 wr w.heap.size (fun _ => True) v4 (linksOf L (gs.take k)).1) ∧ Aside0 (Kd.R k33 33 wr 0 (fun _ => True) (.slice A2 gs.length c2) gs) ∧ Aside0 (Below w.heap.size w wr)) (fun _ _ v _ => gs.length - (intOf v).toNat)
  case atStart => exact ⟨0, rfl, Nat.zero_le _, rfl, ⟨Kd.R_nil _ _ _ _ _⟩, HG2, HB2⟩
  case round =>
    clear HG2 HB2
    obtain ⟨wo, ewo⟩ : ∃ wo, wo = wr := ⟨_, rfl⟩
    subst ewo
    obtain ⟨k, rfl, hk, rfl, HR, HG, HB⟩ := hrel
    by_cases hlt : k < gs.length
    · obtain ⟨x, hx⟩ : ∃ x, x = gs[k] := ⟨_, rfl⟩
      have hxm := HGM.out x (by rw [hx]; exact List.getElem_mem hlt)
      obtain ⟨lo, hlo⟩ : ∃ lo : Nat, x.f0 = (lo : Int) := ⟨x.f0.toNat, by omega⟩
      obtain ⟨hi, hhi⟩ : ∃ hi : Nat, x.f1 = (hi : Int) := ⟨x.f1.toNat, by omega⟩
      obtain ⟨ad, ead, y0, y1⟩ := at_T33 (Kd.R_reads' HG.out).2.2 (k : Int) (by omega) (by omega)
      rw [rd33 hlt, Int.toNat_natCast, ← hx, hlo] at y0
      rw [rd33 hlt, Int.toNat_natCast, ← hx, hhi] at y1
      have hxe : x = ⟨(lo : Int), (hi : Int)⟩ := by rw [← hlo, ← hhi]
      obtain ⟨q, hq⟩ : ∃ q, q = linksOf L (gs.take k) := ⟨_, rfl⟩
      have HNX : Aside0 (linksOf L (gs.take (k + 1)) = linkStep L q ⟨(lo : Int), (hi : Int)⟩) := ⟨by rw [linksOf_take L hlt, ← hx, hxe, ← hq]⟩
      have hle := linksOf_le L gs k (by omega)
      rw [← hq] at hle HR ⊢
      have hF := HF.out
      have hNN := HN.out
      have hGL := HGL.out
      have hmul : k * L.flatten.length ≤ 1000000 * 10000000 := Nat.mul_le_mul (by omega) hF
      have HQ2 : Aside0 (q.2 ≤ 10000000000000) := ⟨by omega⟩
      have HQ1 : Aside0 (q.1.length ≤ 1000000) := ⟨by omega⟩
      obtain ⟨e0, he0⟩ : ∃ e0, e0 = q.2 := ⟨_, rfl⟩
      have HE0 := Aside0.mk he0
      rw [← he0] at HQ2 ⊢
      obtain ⟨AL, cL, eL⟩ := Kd.R_slice HR.out
      subst eL
      have hloI : (lo : Int) < (hi : Int) := by omega
      have hhiI : (hi : Int) ≤ (L.length : Int) := by omega
      have HLH : Aside0 (lo < hi ∧ hi ≤ L.length) := ⟨by omega, by omega⟩
      have hkI : (k : Int) < (gs.length : Int) := by omega
      have hk8 : (k : Int) ≤ 1000000 := by omega
      subst ead
      clear hx hxm hlo hhi hxe hq hle hF hNN hGL hmul he0
      go_upto_region 8 with (first | ((with_reducible refine gate_dst (N := 7) rfl ?_); refine box_event ?hg (N := 7) ?hd (cs := #[.int .i64 0, .int .i64 0]) (t := 33) ?hr ?_; (case hd => rfl); (case hg => rfl); (case hr => first | (go_simp; done) | (go_simp; rfl)); intro gb hg w6 hbox hb; have HXgb := Aside0.mk hbox; have HGEgb : Aside0 (w.heap.size ≤ gb) := ⟨by rw [hg]; exact HB.out.size⟩; have HBBgb : Aside0 (Below w.heap.size w w6) := ⟨below_step HB.out hb⟩; have zgb_0 : w6.cell? ⟨gb, 0, none⟩ = some (.int .i64 0) := (blk_cell hbox 0).trans rfl; have fgb_0 := blk_frozen hbox 0; have zgb_1 : w6.cell? ⟨gb, 1, none⟩ = some (.int .i64 0) := (blk_cell hbox 1).trans rfl; have fgb_1 := blk_frozen hbox 1; have HR6 : Aside0 (Kd.R k45 45 w6 w.heap.size (fun p => p ≠ gb) (.slice AL q.1.length cL) q.1) := ⟨Kd.R_mono (Kd.R_below (Kd.R_bound HR.out) hb) (fun p hp => by omega)⟩; have HG6 : Aside0 (Kd.R k33 33 w6 0 (fun p => p ≠ gb) (.slice (some ad) gs.length c2) gs) := ⟨Kd.R_mono (Kd.R_below (Kd.R_bound HG.out) hb) (fun p hp => by omega)⟩; clear hg hbox hb HB HR HG))
      have HYgb := Aside0.mk (blk_put (blk_put HXgb.out 0 (.int .i64 lo) rfl) 1 (.int .i64 hi) rfl)
      have HGgb := Aside0.mk (World.grownBy.trans (grown_set w6 gb 0 (.int .i64 lo)) (grown_set _ gb 1 (.int .i64 hi)))
      generalize (w6.setCell ⟨gb, 0, none⟩ (.int .i64 lo)).setCell ⟨gb, 1, none⟩ (.int .i64 hi) = w7 at HYgb HGgb ⊢
      have HBCgb : Aside0 (Below w.heap.size w w7) := ⟨HBBgb.out.grown HGgb.out HBBgb.out.size (fun j hj => by obtain rfl := Option.some.inj hj; exact HGEgb.out)⟩
      have qgb_0 := (blk_cell HYgb.out 0).trans rfl
      have qgb_1 := (blk_cell HYgb.out 1).trans rfl
      clear zgb_0 fgb_0 zgb_1 fgb_1 HXgb HBBgb
      have HR7 : Aside0 (Kd.R k45 45 w7 w.heap.size (fun p => p ≠ gb) (.slice AL q.1.length cL) q.1) := ⟨Kd.R_grown HR6.out HGgb.out (fun p hp e => hp (Option.some.inj e))⟩
      have HG7 : Aside0 (Kd.R k33 33 w7 0 (fun p => p ≠ gb) (.slice (some ad) gs.length c2) gs) := ⟨Kd.R_grown HG6.out HGgb.out (fun p hp e => hp (Option.some.inj e))⟩
      clear HR6 y0 y1 HGgb HG6 qgb_0 qgb_1
      go_upto_region 9 with (first | ((with_reducible refine gate_dst (N := 8) rfl ?_); refine box_event ?hg (N := 8) ?hd (cs := #[.int .i64 0, .int .i64 0]) (t := 33) ?hr ?_; (case hd => rfl); (case hg => rfl); (case hr => first | (go_simp; done) | (go_simp; rfl)); intro gc hg w8 hbox hb; have HXgc := Aside0.mk hbox; have HGEgc : Aside0 (w.heap.size ≤ gc) := ⟨by rw [hg]; exact HBCgb.out.size⟩; have HBBgc : Aside0 (Below w.heap.size w w8) := ⟨below_step HBCgb.out hb⟩; have zgc_0 : w8.cell? ⟨gc, 0, none⟩ = some (.int .i64 0) := (blk_cell hbox 0).trans rfl; have fgc_0 := blk_frozen hbox 0; have zgc_1 : w8.cell? ⟨gc, 1, none⟩ = some (.int .i64 0) := (blk_cell hbox 1).trans rfl; have fgc_1 := blk_frozen hbox 1; have HR8 : Aside0 (Kd.R k45 45 w8 w.heap.size (fun p => p ≠ gb ∧ p ≠ gc) (.slice AL q.1.length cL) q.1) := ⟨Kd.R_mono (Kd.R_below (Kd.R_bound HR7.out) hb) (fun p hp => ⟨hp.1, by omega⟩)⟩; have HX8 : Aside0 (w8.heap[gb]? = some (.cells #[.int .i64 lo, .int .i64 hi] 33 (0, 0))) := ⟨(hb.block _ (blk_lt HYgb.out)).trans HYgb.out⟩; have HNE : Aside0 (gb ≠ gc) := ⟨by have := blk_lt HYgb.out; omega⟩; have HG8 : Aside0 (Kd.R k33 33 w8 0 (fun p => p ≠ gb ∧ p ≠ gc) (.slice (some ad) gs.length c2) gs) := ⟨Kd.R_mono (Kd.R_below (Kd.R_bound HG7.out) hb) (fun p hp => ⟨hp.1, by omega⟩)⟩; have HGO2 : Aside0 (w.heap.size ≤ gc) := ⟨by rw [hg]; exact HBCgb.out.size⟩; clear hg hbox hb HBCgb HR7 HG7))
      have HYgc := Aside0.mk (blk_put (blk_put HXgc.out 0 (.int .i64 e0) rfl) 1 (.int .i64 0) rfl)
      have HGgc := Aside0.mk (World.grownBy.trans (grown_set w8 gc 0 (.int .i64 e0)) (grown_set _ gc 1 (.int .i64 0)))
      generalize (w8.setCell ⟨gc, 0, none⟩ (.int .i64 e0)).setCell ⟨gc, 1, none⟩ (.int .i64 0) = w9 at HYgc HGgc ⊢
      have HBCgc : Aside0 (Below w.heap.size w w9) := ⟨HBBgc.out.grown HGgc.out HBBgc.out.size (fun j hj => by obtain rfl := Option.some.inj hj; exact HGEgc.out)⟩
      have qgc_0 := (blk_cell HYgc.out 0).trans rfl
      have qgc_1 := (blk_cell HYgc.out 1).trans rfl
      clear zgc_0 fgc_0 zgc_1 fgc_1 HXgc HBBgc
      have HR9 : Aside0 (Kd.R k45 45 w9 w.heap.size (fun p => p ≠ gb ∧ p ≠ gc) (.slice AL q.1.length cL) q.1) := ⟨Kd.R_grown HR8.out HGgc.out (fun p hp e => hp.2 (Option.some.inj e))⟩
      have HX9 : Aside0 (w9.heap[gb]? = some (.cells #[.int .i64 lo, .int .i64 hi] 33 (0, 0))) := ⟨(HGgc.out.block gb (blk_lt HX8.out) (fun e => HNE.out (Option.some.inj e))).trans HX8.out⟩
      have HG9 : Aside0 (Kd.R k33 33 w9 0 (fun p => p ≠ gb ∧ p ≠ gc) (.slice (some ad) gs.length c2) gs) := ⟨Kd.R_grown HG8.out HGgc.out (fun p hp e => hp.2 (Option.some.inj e))⟩
      have p0 := (blk_cell HX9.out 0).trans rfl
      have p1 := (blk_cell HX9.out 1).trans rfl
      have r0 := (HBCgc.out.cell (World.block_lt_of_cell? _ _ c0)).trans c0
      have hca : L.length ≤ c := by
        obtain ⟨A', c', e', h1, h2⟩ := HRD.out
        injection e' with e1 e2 e3
        omega
      have hcut := cut_mid (P := Try.prog) 48 31 .i64 .i64 Try.underlying48 HI31.out 1 HS31.out A L.length c (lo : Int) (hi : Int) (by omega) (by omega) (by omega) hca
      rw [Int.toNat_natCast, Int.toNat_natCast, Nat.mul_one] at hcut
      have HSUB0 : Kd.C (Kd.slice 3 (Kd.int .i64)) w (if c = lo then A else A.map (·.add lo)) (hi - lo) (rowOf L lo hi) := by
        have hd := Kd.C_drop (m := lo) (c := c) (k := Kd.slice 3 (Kd.int .i64)) (by obtain ⟨A', c', e', h1, h2⟩ := HRD.out; injection e' with e1 e2 e3; subst e1; exact h2) (by have := HLH.out; omega) hca
        rw [show (Kd.slice 3 (Kd.int .i64)).sz = 1 from rfl, Nat.mul_one] at hd
        have ht := Kd.C_take (m := hi - lo) hd (by rw [List.length_drop]; have := HLH.out; omega)
        unfold rowOf
        rwa [show ((L.drop lo).take (hi - lo)).length = hi - lo by rw [List.length_take, List.length_drop]; have := HLH.out; omega] at ht
      have hrl : (rowOf L lo hi).length = hi - lo := by have := HSUB0.1; omega
      generalize (if c = lo then A else A.map (·.add lo)) = A3 at hcut HSUB0
      have HSUB := Aside0.mk HSUB0
      have HRL := Aside0.mk hrl
      have HFS : Aside0 ((rowOf L lo hi).flatten.length ≤ 10000000) := ⟨Nat.le_trans (rowOf_le L lo hi) HF.out⟩
      obtain ⟨rs, hrs⟩ : ∃ rs, rs = rowOf L lo hi := ⟨_, rfl⟩
      have HRS := Aside0.mk hrs
      rw [← hrs] at HSUB HRL HFS
      clear hca HSUB0 hrl hrs HR8 HX8 HG8 HGgc qgc_0 qgc_1
      go_quiet (fail)
      go_wp2
      obtain ⟨wq, hwq⟩ : ∃ W, W = w9.drewN nq := ⟨_, rfl⟩
      have HBq : Aside0 (Below w9.heap.size w9 wq) := ⟨by rw [hwq]; exact pw_below_drewN (Below.refl _ _) _⟩
      rw [← hwq]
      have HRq : Aside0 (Kd.R k45 45 wq w.heap.size (fun p => p ≠ gb ∧ p ≠ gc) (.slice AL q.1.length cL) q.1) := ⟨Kd.R_below HR9.out HBq.out⟩
      have HBwq : Aside0 (Below w.heap.size w wq) := ⟨below_step HBCgc.out HBq.out⟩
      have HGq : Aside0 (Kd.R k33 33 wq 0 (fun p => p ≠ gb ∧ p ≠ gc) (.slice (some ad) gs.length c2) gs) := ⟨Kd.R_below HG9.out HBq.out⟩
      have HXq : Aside0 (wq.heap[gb]? = some (.cells #[.int .i64 lo, .int .i64 hi] 33 (0, 0))) := ⟨(HBq.out.block _ (blk_lt HX9.out)).trans HX9.out⟩
      have HYq : Aside0 (wq.heap[gc]? = some (.cells #[.int .i64 e0, .int .i64 0] 33 (0, 0))) := ⟨(HBq.out.block _ (blk_lt HYgc.out)).trans HYgc.out⟩
      clear hwq HR9 HBCgc HG9 HX9 HYgc p0 p1 r0 hcut HBq
      have hsub : ((hi - lo : Nat) : Int) = (rs.length : Int) := by rw [HRL.out]
      rw [← HRL.out]
      clear hsub
      go_loopw [5, 40] (fun v5 v wr => ∃ j : Nat, v = .int .i64 (j : Int) ∧ j ≤ rs.length ∧ v5 = .int .i64 ((e0 + (rs.take j).flatten.length : Nat) : Int) ∧ wr = wq) (fun _ v _ => rs.length - (intOf v).toNat)
      case atStart => exact ⟨0, rfl, Nat.zero_le _, by simp, rfl⟩
      case round =>
        obtain ⟨j, rfl, hj, rfl, ewr⟩ := hrel
        subst ewr
        by_cases hlj : j < rs.length
        · obtain ⟨y, hy⟩ : ∃ y, y = rs[j] := ⟨_, rfl⟩
          obtain ⟨ae, cs, eae, _, hK, hcell⟩ := Kd.C_get (Kd.C_below HSUB.out HBwq.out) [] (j : Int) (by omega) (by have := HRL.out; omega)
          rw [Int.toNat_natCast, show rs.getD j [] = y by rw [hy, List.getD_eq_getElem?_getD, List.getElem?_eq_getElem hlj]; rfl] at hK
          obtain ⟨A', c', rfl, hc', hC'⟩ := hK
          have z0 := hcell 0 _ rfl
          rw [Int.toNat_natCast, show (Kd.slice 3 (Kd.int .i64)).sz = 1 from rfl, Nat.add_zero, Nat.mul_one] at z0
          have HNJ : Aside0 ((rs.take (j + 1)).flatten.length = (rs.take j).flatten.length + y.length) := ⟨by rw [flat_take hlj, List.length_append, hy]⟩
          have HLE : Aside0 ((rs.take (j + 1)).flatten.length ≤ 10000000) := ⟨Nat.le_trans (flat_le rs (j + 1)) HFS.out⟩
          obtain ⟨s, hs⟩ : ∃ s, s = (rs.take j).flatten.length := ⟨_, rfl⟩
          rw [← hs] at HNJ ⊢
          have hsl : s + y.length ≤ 10000000 := by rw [← HNJ.out]; exact HLE.out
          have hq2 := HQ2.out
          have ew : IntKind.i64.wrap ((e0 : Int) + (s : Int) + (y.length : Int)) = (e0 : Int) + (s : Int) + (y.length : Int) := IntWalk.i64_in _ (by omega)
          have hes : ((e0 + s : Nat) : Int) = (e0 : Int) + (s : Int) := by omega
          rw [hes]
          clear hes
          have hjI : (j : Int) < (rs.length : Int) := by omega
          have hj8 : (j : Int) ≤ 1000000 := by have := HRL.out; have := HLH.out; have := HN.out; omega
          subst eae
          clear hy hcell hC' hc' hs hsl hq2
          go_wp2
          exact ⟨⟨j + 1, by go_num, by omega, by rw [HNJ.out, show ((e0 + (s + y.length) : Nat) : Int) = (e0 : Int) + (s : Int) + (y.length : Int) by omega], by first | trivial | rfl⟩, by simp [intOf]; omega⟩
        · obtain rfl : j = rs.length := by omega
          rw [List.take_length]
          obtain ⟨e1, he1⟩ : ∃ e1, e1 = e0 + rs.flatten.length := ⟨_, rfl⟩
          rw [← he1]
          have HE1 := Aside0.mk he1
          have y0 := (blk_cell HYq.out 0).trans rfl
          have y1 := (blk_cell HYq.out 1).trans rfl
          have f1 := blk_frozen HYq.out 1
          have HSTEP : Aside0 (linksOf L (gs.take (k + 1)) = (if e0 < e1 then q.1 ++ [⟨⟨(lo : Int), (hi : Int)⟩, ⟨(e0 : Int), (e1 : Int)⟩⟩] else q.1, e1)) := ⟨by
            rw [HNX.out]
            unfold linkStep
            dsimp only
            rw [Int.toNat_natCast, Int.toNat_natCast, ← HRS.out, ← HE0.out, ← he1]⟩
          clear hlj he1
          go_upto_region 15 with (fail)
          obtain ⟨wz, hwz⟩ : ∃ W, W = wr.setCell ⟨gc, 1, none⟩ (.int .i64 e1) := ⟨_, rfl⟩
          have hgz := grown_set wr gc 1 (.int .i64 e1)
          rw [← hwz] at hgz ⊢
          have HYz : Aside0 (wz.heap[gc]? = some (.cells #[.int .i64 e0, .int .i64 e1] 33 (0, 0))) := ⟨by rw [hwz]; exact blk_put HYq.out 1 (.int .i64 e1) rfl⟩
          have HXz : Aside0 (wz.heap[gb]? = some (.cells #[.int .i64 lo, .int .i64 hi] 33 (0, 0))) := ⟨(hgz.block gb (blk_lt HXq.out) (fun e => HNE.out (Option.some.inj e))).trans HXq.out⟩
          have HRz : Aside0 (Kd.R k45 45 wz w.heap.size (fun p => p ≠ gb ∧ p ≠ gc) (.slice AL q.1.length cL) q.1) := ⟨Kd.R_grown HRq.out hgz (fun p hp e => hp.2 (Option.some.inj e))⟩
          have HBz : Aside0 (Below w.heap.size w wz) := ⟨HBwq.out.grown hgz HBwq.out.size (fun j hj => by obtain rfl := Option.some.inj hj; exact HGO2.out)⟩
          have HGz : Aside0 (Kd.R k33 33 wz 0 (fun p => p ≠ gb ∧ p ≠ gc) (.slice (some ad) gs.length c2) gs) := ⟨Kd.R_grown HGq.out hgz (fun p hp e => hp.2 (Option.some.inj e))⟩
          clear hwz hgz y0 y1 f1 HYq HXq HRq HBwq HGq
          have s0 := (blk_cell HYz.out 0).trans rfl
          have s1 := (blk_cell HYz.out 1).trans rfl
          obtain ⟨rb, hrb⟩ : ∃ rb, rb = decide (0 ≤ (e0 : Int) ∧ (e0 : Int) < (e1 : Int)) := ⟨_, rfl⟩
          have HRB := Aside0.mk hrb
          clear hrb
          cases rb with
          | false =>
            have HNL : Aside0 (¬ e0 < e1) := ⟨by have := of_decide_eq_false HRB.out.symm; omega⟩
            go_wp2_with (go_at_call 50; refine (span_Right.calls (e0 : Int) (e1 : Int) _ _ (right_is3 e0 e1)).mono ?_; rintro e w10 ⟨rfl, hb10⟩; rw [← HRB.out]; have HR10 := Aside0.mk (Kd.R_below HRz.out hb10); have HB10 : Aside0 (Below w.heap.size w w10) := ⟨below_step HBz.out hb10⟩; have HG10 := Aside0.mk (Kd.R_below HGz.out hb10); clear hb10)
            exact ⟨⟨k + 1, by go_num, by omega, by rw [HSTEP.out], ⟨by rw [HSTEP.out, if_neg HNL.out]; exact Kd.R_mono HR10.out (fun _ _ => trivial)⟩, ⟨Kd.R_mono HG10.out (fun _ _ => trivial)⟩, HB10⟩, by simp [intOf]; omega⟩
          | true =>
            have HNL : Aside0 (e0 < e1) := ⟨by have := of_decide_eq_true HRB.out.symm; omega⟩
            go_upto_region 16 with (go_at_call 50; refine (span_Right.calls (e0 : Int) (e1 : Int) _ _ (right_is3 e0 e1)).mono ?_; rintro e w10 ⟨rfl, hb10⟩; rw [← HRB.out]; have HR10 := Aside0.mk (Kd.R_below HRz.out hb10); have HB10 : Aside0 (Below w.heap.size w w10) := ⟨below_step HBz.out hb10⟩; have HG10 := Aside0.mk (Kd.R_below HGz.out hb10); have HX10 : Aside0 (w10.heap[gb]? = some (.cells #[.int .i64 lo, .int .i64 hi] 33 (0, 0))) := ⟨(hb10.block _ (blk_lt HXz.out)).trans HXz.out⟩; have HY10 : Aside0 (w10.heap[gc]? = some (.cells #[.int .i64 e0, .int .i64 e1] 33 (0, 0))) := ⟨(hb10.block _ (blk_lt HYz.out)).trans HYz.out⟩; have t0 := (blk_cell HX10.out 0).trans rfl; have t1 := (blk_cell HX10.out 1).trans rfl; have t2 := (blk_cell HY10.out 0).trans rfl; have t3 := (blk_cell HY10.out 1).trans rfl; clear hb10)
            clear s0 s1
            go_wp2_with ((with_reducible refine gate_builtin (b := .append) (xs := #[.tmp 53, .tmp 57]) rfl ?_); at_builtin; refine Kd.R_append k45 (w0 := w) w.heap.size rfl (.tmp 53) (.tmp 57) 40 45 (.agg #[(.int .i64 0), (.int .i64 0), (.int .i64 0), (.int .i64 0)]) 32 rfl Try.underlying40 info45 rfl (by decide) (by omega) _ q.1 (⟨⟨(lo : Int), (hi : Int)⟩, ⟨(e0 : Int), (e1 : Int)⟩⟩ : S45) [.int .i64 lo, .int .i64 hi, .int .i64 e0, .int .i64 e1] (fun _ => True) (fun _ => False) rfl (by first | (go_simp; done) | (go_simp; rfl)) (k45_mkM _ _ _ (⟨⟨(lo : Int), (hi : Int)⟩, ⟨(e0 : Int), (e1 : Int)⟩⟩ : S45)) (fun _ h => h.elim) (fun _ _ => trivial) (Kd.R_mono HR10.out (fun _ _ => trivial)) HB10.out HB10.out.size (by have := HQ1.out; omega) ?_; intro v11 w11 hv hb hg hat; have HR11 := Aside0.mk hv; have HB11 := Aside0.mk hb; have HG11 : Aside0 (Kd.R k33 33 w11 0 (fun _ => True) (.slice (some ad) gs.length c2) gs) := ⟨Kd.R_mono (Kd.R_grown (Kd.R_bound HG10.out) hg (fun p hp => apart33 HR10.out hp)) (fun _ _ => trivial)⟩; clear hv hb hg hat)
            exact ⟨⟨k + 1, by go_num, by omega, by rw [HSTEP.out], ⟨by rw [HSTEP.out, if_pos HNL.out]; exact HR11.out⟩, HG11, HB11⟩, by simp [intOf]; omega⟩
    · obtain rfl : k = gs.length := by omega
      rw [List.take_length] at HR ⊢
      clear hlt
      have r0 := (HB.out.cell (World.block_lt_of_cell? _ _ c0)).trans c0
      have HS := Aside0.mk (SLk.of_R HR.out)
      go_wp2_with (go_at_call 32; refine (HFIN.out _ _ HS.out HB.out).mono ?_; rintro e w12 ⟨u, r, rfl, hR, hb12⟩; have HRR := Aside0.mk hR; have HB12 : Aside0 (Below w.heap.size w w12) := ⟨below_step HB.out hb12⟩; clear hR hb12)
      refine bodyPost_ret (results_tmp2 rfl _ _ _) rfl ?_
      exact ⟨_, _, rfl, HRR.out, HB12.out⟩
end Go.Proofs.Ytohhobcipfmkbaa.Cel
