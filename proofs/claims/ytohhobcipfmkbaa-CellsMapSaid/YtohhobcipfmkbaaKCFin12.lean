/- Texts of this claim, cut to what it needs. -/
import Derived.Test.YtohhobcipfmkbaaKCCells3
import Derived.Test.YtohhobcipfmkbaaKCGrp
import Derived.Test.YtohhobcipfmkbaaKCFinQ
import Derived.Test.YtohhobcipfmkbaaKCFin13
set_option linter.unusedSimpArgs false
set_option linter.unusedVariables false
section
namespace Go.Proofs.Ytohhobcipfmkbaa.Cel
open Go.RowKit Go.Proofs.YtohhobcipfmkbaaW.PrintWords Go.Proofs.YtohhobcipfmkbaaW.PrintMore Go.Proofs.YtohhobcipfmkbaaW.PrintLast Go.Proofs.Ytohhobcipfmkbaa.U Go.Proofs.Ytohhobcipfmkbaa.PClusterFinest Go.Proofs.Ytohhobcipfmkbaa.UGroups Go.Proofs.Ytohhobcipfmkbaa.UFinEv
open Go.Proofs.Ytohhobcipfmkbaa.CFin (rd33 info33 cells33 one33)
def rowOf (L : List (List Int)) (lo hi : Nat) : List (List Int) := (L.drop lo).take (hi - lo)
def linkStep (L : List (List Int)) (q : List S45 × Nat) (g : S33) : List S45 × Nat :=
 let e := q.2 + (rowOf L g.f0.toNat g.f1.toNat).flatten.length
 (if q.2 < e then q.1 ++ [⟨g, ⟨(q.2 : Int), (e : Int)⟩⟩] else q.1, e)
def linksOf (L : List (List Int)) (gs : List S33) : List S45 × Nat := gs.foldl (linkStep L) ([], 0)
theorem linksOf_take (L : List (List Int)) {gs : List S33} {k : Nat} (h : k < gs.length) : linksOf L (gs.take (k + 1)) = linkStep L (linksOf L (gs.take k)) gs[k] := by
 unfold linksOf
 rw [List.take_succ_eq_append_getElem h, List.foldl_append]
 rfl
theorem rowOf_le (L : List (List Int)) (lo hi : Nat) : (rowOf L lo hi).flatten.length ≤ L.flatten.length := by
 unfold rowOf
 have h1 : ∀ (l : List (List Int)) (k : Nat), (l.drop k).flatten.length ≤ l.flatten.length := fun l k => by
  conv => rhs; rw [← List.take_append_drop k l, List.flatten_append, List.length_append]
  omega
 exact Nat.le_trans (flat_le _ _) (h1 _ _)
theorem linksOf_le (L : List (List Int)) (gs : List S33) (k : Nat) (hk : k ≤ gs.length) : (linksOf L (gs.take k)).2 ≤ k * L.flatten.length ∧ (linksOf L (gs.take k)).1.length ≤ k := by
 induction k with
 | zero => exact ⟨Nat.zero_le _, Nat.le_refl _⟩
 | succ k ih =>
  obtain ⟨h1, h2⟩ := ih (by omega)
  rw [linksOf_take L (by omega)]
  unfold linkStep
  have := rowOf_le L (gs[k]'(by omega)).f0.toNat (gs[k]'(by omega)).f1.toNat
  refine ⟨by rw [Nat.add_mul, Nat.one_mul]; dsimp only; omega, ?_⟩
  dsimp only
  split
  ·rw [List.length_append]; simp; exact h2
  ·omega
theorem grp_mem (N : Nat) (J : List S33) (t : Nat) (ht : t ≤ N) : ∀ s ∈ (grpTo N J t).1, 0 ≤ s.f0 ∧ s.f0 < s.f1 ∧ s.f1 ≤ (N : Int) := by
 induction t with
 | zero => intro s hs; cases hs
 | succ t ih =>
  intro s hs
  rw [show grpTo N J (t + 1) = UGroups.stepG N J (t + 1) (grpTo N J t) from rfl] at hs
  unfold UGroups.stepG at hs
  split at hs
  ·rcases List.mem_append.1 hs with hs | hs
   ·exact ih (by omega) s hs
   ·rw [List.mem_singleton] at hs
    subst hs
    have := grp_lo N J t (by omega)
    dsimp only
    omega
  ·exact ih (by omega) s hs
theorem apart33 {w : World} {base base2 : Nat} {ok : Nat → Prop} {v : Value} {xs : List S45} (h : Kd.R k45 45 w base ok v xs) {p : Nat} {P : Prop} (hp : P ∧ base2 ≤ p ∧ p < w.heap.size ∧ ∃ q, q ∈ 33 :: (k33).E ∧ ∃ cells, w.heap[p]? = some (.cells cells q (0, 0))) : some p ≠ v.ownBlock := by
 obtain ⟨_, _, _, q, hq, cells, hc⟩ := hp
 have hE : (k33).E = [] := rfl
 rw [hE, List.mem_singleton] at hq
 subst hq
 exact Kd.R_ne h hc (by decide)
set_option maxRecDepth 100000 in
set_option maxHeartbeats 8000000 in
theorem clusters_c {w : World} {D : Nat → Prop} {b : Nat} {L : List (List Int)} {J : List S33} (h : CellsAt 51 w D b L J) (hN : L.length ≤ 1000000) (hJ : J.length ≤ 1000000) (hF : L.flatten.length ≤ 10000000) (R : Value → Int → World → Prop)
 (hfin : ∀ w1 u, SLk k45 w1 u (linksOf L (groups L.length J)).1 → Below w.heap.size w w1 → Calls Try.prog 32 #[.int .i64 L.length, .int .i64 (linksOf L (groups L.length J)).2, u] w1 fun e w' => ∃ u r, e = .returned (.tuple #[u, .int .i64 r]) ∧ R u r w' ∧ Below w1.heap.size w1 w') :
 Calls Try.prog 21 #[ptr b] w fun e w' => ∃ u r, e = .returned (.tuple #[u, .int .i64 r]) ∧ R u r w' ∧ Below w.heap.size w w' := by
 obtain ⟨Dr, Dt, A, c, vt, hp⟩ := h.open_
 obtain ⟨At, ct, evt⟩ := Kd.R_slice hp.h3
 subst evt
 obtain ⟨i31, hi31, hs31⟩ : ∃ i, Try.prog.info? 31 = some i ∧ i.size = 1 := by
  have h := info31
  cases hi : Try.prog.info? 31 with
  | none => rw [hi] at h; cases h
  | some i =>
   rw [hi] at h
   simp only [Option.map_some, Option.some.injEq, Prod.mk.injEq] at h
   exact ⟨i, rfl, h.2.1⟩
 have HI31 := Aside0.mk hi31
 have HS31 := Aside0.mk hs31
 have c0 := (blk_cell hp.h1 0).trans rfl
 have c1 := (blk_cell hp.h1 1).trans rfl
 have HP := Aside0.mk hp
 have HRD := Aside0.mk (hp.h2.reads 3)
 have HSJ := Aside0.mk (SLk.of_R hp.h3)
 have HN := Aside0.mk hN
 have HJ := Aside0.mk hJ
 have HF := Aside0.mk hF
 have HFIN := Aside0.mk hfin
 obtain ⟨gs, hgs⟩ : ∃ gs, gs = groups L.length J := ⟨_, rfl⟩
 have HGS := Aside0.mk hgs
 have HGM : Aside0 (∀ s ∈ gs, 0 ≤ s.f0 ∧ s.f0 < s.f1 ∧ s.f1 ≤ (L.length : Int)) := ⟨by rw [hgs]; exact grp_mem L.length J L.length (Nat.le_refl _)⟩
 have HGL : Aside0 (gs.length ≤ L.length) := ⟨by rw [hgs]; exact grp_len L.length J L.length⟩
 rw [← hgs] at HFIN
 clear h hp hN hJ hF hfin hi31 hs31 hgs
 go_enter Try.func21, Try.ntmps21
 go_upto_region 5 with (fail)
 have HBD : Aside0 (Below w.heap.size w w.drew) := ⟨below_drew (Below.refl _ _)⟩
 refine start_ (n := 12) (S := (fun W => Below w.heap.size w W)) (ds := []) #[false, false, false, false, false, false, false, false, false, false, false, false] (by kernel_rfl) (by kernel_rfl) (by rfl) HBD.out (fun hS0 => ?_)
 refine pure_ (i := 0) (N := (some 13)) (v := ?_) (a' := ?_) #[true, false, false, false, false, false, false, false, false, false, false, false] rfl rfl (by kernel_rfl) (fun _ _ _ h => h) (Or.inl ⟨by rfl, ?_⟩) ?_ ?_
 rotate_left
 ·intro w'
  go_simp
  with_reducible rfl
 rotate_left
 ·simp only [Act.put, List.setIfInBounds_toArray, List.set_cons_zero, List.set_cons_succ]
  rfl
 refine pure_ (i := 1) (N := (some 14)) (v := ?_) (a' := ?_) #[true, true, false, false, false, false, false, false, false, false, false, false] rfl rfl (by kernel_rfl) (fun _ _ _ h => h) (Or.inl ⟨by rfl, ?_⟩) ?_ ?_
 rotate_left
 ·intro w'
  go_simp
  with_reducible rfl
 rotate_left
 ·simp only [Act.put, List.setIfInBounds_toArray, List.set_cons_zero, List.set_cons_succ]
  rfl
 refine pure_ (i := 2) (N := (some 15)) (v := ?_) (a' := ?_) #[true, true, true, false, false, false, false, false, false, false, false, false] rfl rfl (by kernel_rfl) (fun _ _ _ h => h) (Or.inl ⟨by rfl, ?_⟩) ?_ ?_
 rotate_left
 ·intro w'
  go_simp
  with_reducible rfl
 rotate_left
 ·simp only [Act.put, List.setIfInBounds_toArray, List.set_cons_zero, List.set_cons_succ]
  rfl
 refine take_ (i := 3) (N := (some 16)) (v := ?_) (a' := ?_) #[true, true, true, true, false, false, false, false, false, false, false, false] rfl rfl (by kernel_rfl) (fun _ _ _ h => h) (Or.inl ⟨by rfl, ?_⟩) hS0 ?_ ?_
 rotate_left
 ·intro w' s0
  have hx0 := (s0.cell (World.block_lt_of_cell? _ _ c0)).trans c0
  go_simp
  with_reducible rfl
 rotate_left
 ·simp only [Act.put, List.setIfInBounds_toArray, List.set_cons_zero, List.set_cons_succ]
  rfl
 refine pure_ (i := 4) (N := (some 17)) (v := ?_) (a' := ?_) #[true, true, true, true, true, false, false, false, false, false, false, false] rfl rfl (by kernel_rfl) (fun _ _ _ h => h) (Or.inl ⟨by rfl, ?_⟩) ?_ ?_
 rotate_left
 ·intro w'
  go_simp
  with_reducible rfl
 rotate_left
 ·simp only [Act.put, List.setIfInBounds_toArray, List.set_cons_zero, List.set_cons_succ]
  rfl
 refine pure_ (i := 5) (N := (some 18)) (v := ?_) (a' := ?_) #[true, true, true, true, true, true, false, false, false, false, false, false] rfl rfl (by kernel_rfl) (fun _ _ _ h => h) (Or.inl ⟨by rfl, ?_⟩) ?_ ?_
 rotate_left
 ·intro w'
  go_simp
  with_reducible rfl
 rotate_left
 ·simp only [Act.put, List.setIfInBounds_toArray, List.set_cons_zero, List.set_cons_succ]
  rfl
 refine pure_ (i := 6) (N := (some 19)) (v := ?_) (a' := ?_) #[true, true, true, true, true, true, true, false, false, false, false, false] rfl rfl (by kernel_rfl) (fun _ _ _ h => h) (Or.inl ⟨by rfl, ?_⟩) ?_ ?_
 rotate_left
 ·intro w'
  go_simp
  with_reducible rfl
 rotate_left
 ·simp only [Act.put, List.setIfInBounds_toArray, List.set_cons_zero, List.set_cons_succ]
  rfl
 refine pure_ (i := 7) (N := (some 20)) (v := ?_) (a' := ?_) #[true, true, true, true, true, true, true, true, false, false, false, false] rfl rfl (by kernel_rfl) (fun _ _ _ h => h) (Or.inl ⟨by rfl, ?_⟩) ?_ ?_
 rotate_left
 ·intro w'
  go_simp
  with_reducible rfl
 rotate_left
 ·simp only [Act.put, List.setIfInBounds_toArray, List.set_cons_zero, List.set_cons_succ]
  rfl
 refine take_ (i := 8) (N := (some 21)) (v := ?_) (a' := ?_) #[true, true, true, true, true, true, true, true, true, false, false, false] rfl rfl (by kernel_rfl) (fun _ _ _ h => h) (Or.inl ⟨by rfl, ?_⟩) hS0 ?_ ?_
 rotate_left
 ·intro w' s0
  have hx0 := (s0.cell (World.block_lt_of_cell? _ _ c1)).trans c1
  go_simp
  with_reducible rfl
 rotate_left
 ·simp only [Act.put, List.setIfInBounds_toArray, List.set_cons_zero, List.set_cons_succ]
  rfl
 refine pure_ (i := 11) (N := (some 24)) (v := ?_) (a' := ?_) #[true, true, true, true, true, true, true, true, true, false, false, true] rfl rfl (by kernel_rfl) (fun _ _ _ h => h) (Or.inl ⟨by rfl, ?_⟩) ?_ ?_
 rotate_left
 ·intro w'
  go_simp
  with_reducible rfl
 rotate_left
 ·simp only [Act.put, List.setIfInBounds_toArray, List.set_cons_zero, List.set_cons_succ]
  rfl
 clear hS0
 refine one_ (i := 9) (N := (some 22)) #[true, true, true, true, true, true, true, true, true, true, false, true] rfl rfl (by kernel_rfl) (by decide) (fun K hK => ?_)
 refine goes_ Try.func49 (by kernel_rfl) rfl #[.int .i64 L.length, .slice At J.length ct] (by rfl) rfl rfl (by go_simp; done) ?_
 refine (groups_c L.length HN.out (SLk.below HSJ.out HBD.out) HJ.out).mono ?_
 rintro e w2 ⟨u, rfl, hR, hb2⟩
 rw [← HGS.out] at hR
 obtain ⟨A2, c2, eu⟩ := Kd.R_slice hR
 subst eu
 refine ⟨_, rfl, ?_⟩
 have HG2 := Aside0.mk (Kd.R_lower hR (Nat.zero_le _))
 have HB2 : Aside0 (Below w.heap.size w w2) := ⟨below_step HBD.out hb2⟩
 clear hR hb2
 change K (Act.put _ (some 22) _) _
 refine hK.out _ _ HB2.out (fun hS0 => ?_)
 clear hK
 refine norm_ (a' := ?_) ?_ ?_
 rotate_left
 ·simp only [Act.put, List.setIfInBounds_toArray, List.set_cons_zero, List.set_cons_succ]
  rfl
 refine pure_ (i := 10) (N := (some 23)) (v := ?_) (a' := ?_) #[true, true, true, true, true, true, true, true, true, true, true, true] rfl rfl (by kernel_rfl) (fun _ _ _ h => h) (Or.inl ⟨by rfl, ?_⟩) ?_ ?_
 rotate_left
 ·intro w'
  go_simp
  with_reducible rfl
 rotate_left
 ·simp only [Act.put, List.setIfInBounds_toArray, List.set_cons_zero, List.set_cons_succ]
  rfl
 refine done_ (by kernel_rfl) ?_
 clear hS0 HBD
 go_wp2
 go_loopw [4, 5, 24] (fun v4 v5 v wr => ∃ k : Nat, v = .int .i64 (k : Int) ∧ k ≤ gs.length ∧ v5 = .int .i64 ((linksOf L (gs.take k)).2 : Nat) ∧ Aside0 (Kd.R k45 45 wr w.heap.size (fun _ => True) v4 (linksOf L (gs.take k)).1) ∧ Aside0 (Kd.R k33 33 wr 0 (fun _ => True) (.slice A2 gs.length c2) gs) ∧ Aside0 (Below w.heap.size w wr)) (fun _ _ v _ => gs.length - (intOf v).toNat)
 case atStart => exact ⟨0, rfl, Nat.zero_le _, rfl, ⟨Kd.R_nil _ _ _ _ _⟩, HG2, HB2⟩
 case round =>
  clear HG2 HB2
  obtain ⟨wo, ewo⟩ : ∃ wo, wo = wr := ⟨_, rfl⟩
  subst ewo
  obtain ⟨k, rfl, hk, rfl, HR, HG, HB⟩ := hrel
  by_cases hlt : k < gs.length
  ·obtain ⟨x, hx⟩ : ∃ x, x = gs[k] := ⟨_, rfl⟩
   have hxm := HGM.out x (by rw [hx]; exact List.getElem_mem hlt)
   obtain ⟨lo, hlo⟩ : ∃ lo : Nat, x.f0 = (lo : Int) := ⟨x.f0.toNat, by omega⟩
   obtain ⟨hi, hhi⟩ : ∃ hi : Nat, x.f1 = (hi : Int) := ⟨x.f1.toNat, by omega⟩
   obtain ⟨ad, ead, y0, y1⟩ := at_T33 (Kd.R_reads' HG.out).2.2 (k : Int) (by omega) (by omega)
   rw [rd33 hlt, Int.toNat_natCast, ← hx, hlo] at y0
   rw [rd33 hlt, Int.toNat_natCast, ← hx, hhi] at y1
   have hxe : x = ⟨(lo : Int), (hi : Int)⟩ := by rw [← hlo, ← hhi]
   obtain ⟨q, hq⟩ : ∃ q, q = linksOf L (gs.take k) := ⟨_, rfl⟩
   have HNX : Aside0 (linksOf L (gs.take (k + 1)) = linkStep L q ⟨(lo : Int), (hi : Int)⟩) := ⟨by rw [linksOf_take L hlt, ← hx, hxe, ← hq]⟩
   have hle := linksOf_le L gs k (by omega)
   rw [← hq] at hle HR ⊢
   have hF := HF.out
   have hNN := HN.out
   have hGL := HGL.out
   have hmul : k * L.flatten.length ≤ 1000000 * 10000000 := Nat.mul_le_mul (by omega) hF
   have HQ2 : Aside0 (q.2 ≤ 10000000000000) := ⟨by omega⟩
   have HQ1 : Aside0 (q.1.length ≤ 1000000) := ⟨by omega⟩
   obtain ⟨e0, he0⟩ : ∃ e0, e0 = q.2 := ⟨_, rfl⟩
   have HE0 := Aside0.mk he0
   rw [← he0] at HQ2 ⊢
   obtain ⟨AL, cL, eL⟩ := Kd.R_slice HR.out
   subst eL
   have hloI : (lo : Int) < (hi : Int) := by omega
   have hhiI : (hi : Int) ≤ (L.length : Int) := by omega
   have HLH : Aside0 (lo < hi ∧ hi ≤ L.length) := ⟨by omega, by omega⟩
   have hkI : (k : Int) < (gs.length : Int) := by omega
   have hk8 : (k : Int) ≤ 1000000 := by omega
   subst ead
   clear hx hxm hlo hhi hxe hq hle hF hNN hGL hmul he0
   go_upto_region 8 with (first | ((with_reducible refine gate_dst (N := 7) rfl ?_); refine box_event ?hg (N := 7) ?hd (cs := #[.int .i64 0, .int .i64 0]) (t := 33) ?hr ?_; (case hd => rfl); (case hg => rfl); (case hr => first | (go_simp; done) | (go_simp; rfl)); intro gb hg w6 hbox hb; have HXgb := Aside0.mk hbox; have HGEgb : Aside0 (w.heap.size ≤ gb) := ⟨by rw [hg]; exact HB.out.size⟩; have HBBgb : Aside0 (Below w.heap.size w w6) := ⟨below_step HB.out hb⟩; have zgb_0 : w6.cell? ⟨gb, 0, none⟩ = some (.int .i64 0) := (blk_cell hbox 0).trans rfl; have fgb_0 := blk_frozen hbox 0; have zgb_1 : w6.cell? ⟨gb, 1, none⟩ = some (.int .i64 0) := (blk_cell hbox 1).trans rfl; have fgb_1 := blk_frozen hbox 1; have HR6 : Aside0 (Kd.R k45 45 w6 w.heap.size (fun p => p ≠ gb) (.slice AL q.1.length cL) q.1) := ⟨Kd.R_mono (Kd.R_below (Kd.R_bound HR.out) hb) (fun p hp => by omega)⟩; have HG6 : Aside0 (Kd.R k33 33 w6 0 (fun p => p ≠ gb) (.slice (some ad) gs.length c2) gs) := ⟨Kd.R_mono (Kd.R_below (Kd.R_bound HG.out) hb) (fun p hp => by omega)⟩; clear hg hbox hb HB HR HG))
   have HYgb := Aside0.mk (blk_put (blk_put HXgb.out 0 (.int .i64 lo) rfl) 1 (.int .i64 hi) rfl)
   have HGgb := Aside0.mk (World.grownBy.trans (grown_set w6 gb 0 (.int .i64 lo)) (grown_set _ gb 1 (.int .i64 hi)))
   generalize (w6.setCell ⟨gb, 0, none⟩ (.int .i64 lo)).setCell ⟨gb, 1, none⟩ (.int .i64 hi) = w7 at HYgb HGgb ⊢
   have HBCgb : Aside0 (Below w.heap.size w w7) := ⟨HBBgb.out.grown HGgb.out HBBgb.out.size (fun j hj => by obtain rfl := Option.some.inj hj; exact HGEgb.out)⟩
   have qgb_0 := (blk_cell HYgb.out 0).trans rfl
   have qgb_1 := (blk_cell HYgb.out 1).trans rfl
   clear zgb_0 fgb_0 zgb_1 fgb_1 HXgb HBBgb
   have HR7 : Aside0 (Kd.R k45 45 w7 w.heap.size (fun p => p ≠ gb) (.slice AL q.1.length cL) q.1) := ⟨Kd.R_grown HR6.out HGgb.out (fun p hp e => hp (Option.some.inj e))⟩
   have HG7 : Aside0 (Kd.R k33 33 w7 0 (fun p => p ≠ gb) (.slice (some ad) gs.length c2) gs) := ⟨Kd.R_grown HG6.out HGgb.out (fun p hp e => hp (Option.some.inj e))⟩
   clear HR6 y0 y1 HGgb HG6 qgb_0 qgb_1
   go_upto_region 9 with (first | ((with_reducible refine gate_dst (N := 8) rfl ?_); refine box_event ?hg (N := 8) ?hd (cs := #[.int .i64 0, .int .i64 0]) (t := 33) ?hr ?_; (case hd => rfl); (case hg => rfl); (case hr => first | (go_simp; done) | (go_simp; rfl)); intro gc hg w8 hbox hb; have HXgc := Aside0.mk hbox; have HGEgc : Aside0 (w.heap.size ≤ gc) := ⟨by rw [hg]; exact HBCgb.out.size⟩; have HBBgc : Aside0 (Below w.heap.size w w8) := ⟨below_step HBCgb.out hb⟩; have zgc_0 : w8.cell? ⟨gc, 0, none⟩ = some (.int .i64 0) := (blk_cell hbox 0).trans rfl; have fgc_0 := blk_frozen hbox 0; have zgc_1 : w8.cell? ⟨gc, 1, none⟩ = some (.int .i64 0) := (blk_cell hbox 1).trans rfl; have fgc_1 := blk_frozen hbox 1; have HR8 : Aside0 (Kd.R k45 45 w8 w.heap.size (fun p => p ≠ gb ∧ p ≠ gc) (.slice AL q.1.length cL) q.1) := ⟨Kd.R_mono (Kd.R_below (Kd.R_bound HR7.out) hb) (fun p hp => ⟨hp.1, by omega⟩)⟩; have HX8 : Aside0 (w8.heap[gb]? = some (.cells #[.int .i64 lo, .int .i64 hi] 33 (0, 0))) := ⟨(hb.block _ (blk_lt HYgb.out)).trans HYgb.out⟩; have HNE : Aside0 (gb ≠ gc) := ⟨by have := blk_lt HYgb.out; omega⟩; have HG8 : Aside0 (Kd.R k33 33 w8 0 (fun p => p ≠ gb ∧ p ≠ gc) (.slice (some ad) gs.length c2) gs) := ⟨Kd.R_mono (Kd.R_below (Kd.R_bound HG7.out) hb) (fun p hp => ⟨hp.1, by omega⟩)⟩; have HGO2 : Aside0 (w.heap.size ≤ gc) := ⟨by rw [hg]; exact HBCgb.out.size⟩; clear hg hbox hb HBCgb HR7 HG7))
   have HYgc := Aside0.mk (blk_put (blk_put HXgc.out 0 (.int .i64 e0) rfl) 1 (.int .i64 0) rfl)
   have HGgc := Aside0.mk (World.grownBy.trans (grown_set w8 gc 0 (.int .i64 e0)) (grown_set _ gc 1 (.int .i64 0)))
   generalize (w8.setCell ⟨gc, 0, none⟩ (.int .i64 e0)).setCell ⟨gc, 1, none⟩ (.int .i64 0) = w9 at HYgc HGgc ⊢
   have HBCgc : Aside0 (Below w.heap.size w w9) := ⟨HBBgc.out.grown HGgc.out HBBgc.out.size (fun j hj => by obtain rfl := Option.some.inj hj; exact HGEgc.out)⟩
   have qgc_0 := (blk_cell HYgc.out 0).trans rfl
   have qgc_1 := (blk_cell HYgc.out 1).trans rfl
   clear zgc_0 fgc_0 zgc_1 fgc_1 HXgc HBBgc
   have HR9 : Aside0 (Kd.R k45 45 w9 w.heap.size (fun p => p ≠ gb ∧ p ≠ gc) (.slice AL q.1.length cL) q.1) := ⟨Kd.R_grown HR8.out HGgc.out (fun p hp e => hp.2 (Option.some.inj e))⟩
   have HX9 : Aside0 (w9.heap[gb]? = some (.cells #[.int .i64 lo, .int .i64 hi] 33 (0, 0))) := ⟨(HGgc.out.block gb (blk_lt HX8.out) (fun e => HNE.out (Option.some.inj e))).trans HX8.out⟩
   have HG9 : Aside0 (Kd.R k33 33 w9 0 (fun p => p ≠ gb ∧ p ≠ gc) (.slice (some ad) gs.length c2) gs) := ⟨Kd.R_grown HG8.out HGgc.out (fun p hp e => hp.2 (Option.some.inj e))⟩
   have p0 := (blk_cell HX9.out 0).trans rfl
   have p1 := (blk_cell HX9.out 1).trans rfl
   have r0 := (HBCgc.out.cell (World.block_lt_of_cell? _ _ c0)).trans c0
   have hca : L.length ≤ c := by
    obtain ⟨A', c', e', h1, h2⟩ := HRD.out
    injection e' with e1 e2 e3
    omega
   have hcut := cut_mid (P := Try.prog) 48 31 .i64 .i64 Try.underlying48 HI31.out 1 HS31.out A L.length c (lo : Int) (hi : Int) (by omega) (by omega) (by omega) hca
   rw [Int.toNat_natCast, Int.toNat_natCast, Nat.mul_one] at hcut
   have HSUB0 : Kd.C (Kd.slice 3 (Kd.int .i64)) w (if c = lo then A else A.map (·.add lo)) (hi - lo) (rowOf L lo hi) := by
    have hd := Kd.C_drop (m := lo) (c := c) (k := Kd.slice 3 (Kd.int .i64)) (by obtain ⟨A', c', e', h1, h2⟩ := HRD.out; injection e' with e1 e2 e3; subst e1; exact h2) (by have := HLH.out; omega) hca
    rw [show (Kd.slice 3 (Kd.int .i64)).sz = 1 from rfl, Nat.mul_one] at hd
    have ht := Kd.C_take (m := hi - lo) hd (by rw [List.length_drop]; have := HLH.out; omega)
    unfold rowOf
    rwa [show ((L.drop lo).take (hi - lo)).length = hi - lo by rw [List.length_take, List.length_drop]; have := HLH.out; omega] at ht
   have hrl : (rowOf L lo hi).length = hi - lo := by have := HSUB0.1; omega
   generalize (if c = lo then A else A.map (·.add lo)) = A3 at hcut HSUB0
   have HSUB := Aside0.mk HSUB0
   have HRL := Aside0.mk hrl
   have HFS : Aside0 ((rowOf L lo hi).flatten.length ≤ 10000000) := ⟨Nat.le_trans (rowOf_le L lo hi) HF.out⟩
   obtain ⟨rs, hrs⟩ : ∃ rs, rs = rowOf L lo hi := ⟨_, rfl⟩
   have HRS := Aside0.mk hrs
   rw [← hrs] at HSUB HRL HFS
   clear hca HSUB0 hrl hrs HR8 HX8 HG8 HGgc qgc_0 qgc_1
   go_quiet (fail)
   go_wp2
   obtain ⟨wq, hwq⟩ : ∃ W, W = w9.drewN nq := ⟨_, rfl⟩
   have HBq : Aside0 (Below w9.heap.size w9 wq) := ⟨by rw [hwq]; exact pw_below_drewN (Below.refl _ _) _⟩
   rw [← hwq]
   have HRq : Aside0 (Kd.R k45 45 wq w.heap.size (fun p => p ≠ gb ∧ p ≠ gc) (.slice AL q.1.length cL) q.1) := ⟨Kd.R_below HR9.out HBq.out⟩
   have HBwq : Aside0 (Below w.heap.size w wq) := ⟨below_step HBCgc.out HBq.out⟩
   have HGq : Aside0 (Kd.R k33 33 wq 0 (fun p => p ≠ gb ∧ p ≠ gc) (.slice (some ad) gs.length c2) gs) := ⟨Kd.R_below HG9.out HBq.out⟩
   have HXq : Aside0 (wq.heap[gb]? = some (.cells #[.int .i64 lo, .int .i64 hi] 33 (0, 0))) := ⟨(HBq.out.block _ (blk_lt HX9.out)).trans HX9.out⟩
   have HYq : Aside0 (wq.heap[gc]? = some (.cells #[.int .i64 e0, .int .i64 0] 33 (0, 0))) := ⟨(HBq.out.block _ (blk_lt HYgc.out)).trans HYgc.out⟩
   clear hwq HR9 HBCgc HG9 HX9 HYgc p0 p1 r0 hcut HBq
   have hsub : ((hi - lo : Nat) : Int) = (rs.length : Int) := by rw [HRL.out]
   rw [← HRL.out]
   clear hsub
   go_loopw [5, 40] (fun v5 v wr => ∃ j : Nat, v = .int .i64 (j : Int) ∧ j ≤ rs.length ∧ v5 = .int .i64 ((e0 + (rs.take j).flatten.length : Nat) : Int) ∧ wr = wq) (fun _ v _ => rs.length - (intOf v).toNat)
   case atStart => exact ⟨0, rfl, Nat.zero_le _, by simp, rfl⟩
   case round =>
    obtain ⟨j, rfl, hj, rfl, ewr⟩ := hrel
    subst ewr
    by_cases hlj : j < rs.length
    ·obtain ⟨y, hy⟩ : ∃ y, y = rs[j] := ⟨_, rfl⟩
     obtain ⟨ae, cs, eae, _, hK, hcell⟩ := Kd.C_get (Kd.C_below HSUB.out HBwq.out) [] (j : Int) (by omega) (by have := HRL.out; omega)
     rw [Int.toNat_natCast, show rs.getD j [] = y by rw [hy, List.getD_eq_getElem?_getD, List.getElem?_eq_getElem hlj]; rfl] at hK
     obtain ⟨A', c', rfl, hc', hC'⟩ := hK
     have z0 := hcell 0 _ rfl
     rw [Int.toNat_natCast, show (Kd.slice 3 (Kd.int .i64)).sz = 1 from rfl, Nat.add_zero, Nat.mul_one] at z0
     have HNJ : Aside0 ((rs.take (j + 1)).flatten.length = (rs.take j).flatten.length + y.length) := ⟨by rw [flat_take hlj, List.length_append, hy]⟩
     have HLE : Aside0 ((rs.take (j + 1)).flatten.length ≤ 10000000) := ⟨Nat.le_trans (flat_le rs (j + 1)) HFS.out⟩
     obtain ⟨s, hs⟩ : ∃ s, s = (rs.take j).flatten.length := ⟨_, rfl⟩
     rw [← hs] at HNJ ⊢
     have hsl : s + y.length ≤ 10000000 := by rw [← HNJ.out]; exact HLE.out
     have hq2 := HQ2.out
     have ew : IntKind.i64.wrap ((e0 : Int) + (s : Int) + (y.length : Int)) = (e0 : Int) + (s : Int) + (y.length : Int) := IntWalk.i64_in _ (by omega)
     have hes : ((e0 + s : Nat) : Int) = (e0 : Int) + (s : Int) := by omega
     rw [hes]
     clear hes
     have hjI : (j : Int) < (rs.length : Int) := by omega
     have hj8 : (j : Int) ≤ 1000000 := by have := HRL.out; have := HLH.out; have := HN.out; omega
     subst eae
     clear hy hcell hC' hc' hs hsl hq2
     go_wp2
     exact ⟨⟨j + 1, by go_num, by omega, by rw [HNJ.out, show ((e0 + (s + y.length) : Nat) : Int) = (e0 : Int) + (s : Int) + (y.length : Int) by omega], by first | trivial | rfl⟩, by simp [intOf]; omega⟩
    ·obtain rfl : j = rs.length := by omega
     rw [List.take_length]
     obtain ⟨e1, he1⟩ : ∃ e1, e1 = e0 + rs.flatten.length := ⟨_, rfl⟩
     rw [← he1]
     have HE1 := Aside0.mk he1
     have y0 := (blk_cell HYq.out 0).trans rfl
     have y1 := (blk_cell HYq.out 1).trans rfl
     have f1 := blk_frozen HYq.out 1
     have HSTEP : Aside0 (linksOf L (gs.take (k + 1)) = (if e0 < e1 then q.1 ++ [⟨⟨(lo : Int), (hi : Int)⟩, ⟨(e0 : Int), (e1 : Int)⟩⟩] else q.1, e1)) := ⟨by
      rw [HNX.out]
      unfold linkStep
      dsimp only
      rw [Int.toNat_natCast, Int.toNat_natCast, ← HRS.out, ← HE0.out, ← he1]⟩
     clear hlj he1
     go_upto_region 15 with (fail)
     obtain ⟨wz, hwz⟩ : ∃ W, W = wr.setCell ⟨gc, 1, none⟩ (.int .i64 e1) := ⟨_, rfl⟩
     have hgz := grown_set wr gc 1 (.int .i64 e1)
     rw [← hwz] at hgz ⊢
     have HYz : Aside0 (wz.heap[gc]? = some (.cells #[.int .i64 e0, .int .i64 e1] 33 (0, 0))) := ⟨by rw [hwz]; exact blk_put HYq.out 1 (.int .i64 e1) rfl⟩
     have HXz : Aside0 (wz.heap[gb]? = some (.cells #[.int .i64 lo, .int .i64 hi] 33 (0, 0))) := ⟨(hgz.block gb (blk_lt HXq.out) (fun e => HNE.out (Option.some.inj e))).trans HXq.out⟩
     have HRz : Aside0 (Kd.R k45 45 wz w.heap.size (fun p => p ≠ gb ∧ p ≠ gc) (.slice AL q.1.length cL) q.1) := ⟨Kd.R_grown HRq.out hgz (fun p hp e => hp.2 (Option.some.inj e))⟩
     have HBz : Aside0 (Below w.heap.size w wz) := ⟨HBwq.out.grown hgz HBwq.out.size (fun j hj => by obtain rfl := Option.some.inj hj; exact HGO2.out)⟩
     have HGz : Aside0 (Kd.R k33 33 wz 0 (fun p => p ≠ gb ∧ p ≠ gc) (.slice (some ad) gs.length c2) gs) := ⟨Kd.R_grown HGq.out hgz (fun p hp e => hp.2 (Option.some.inj e))⟩
     clear hwz hgz y0 y1 f1 HYq HXq HRq HBwq HGq
     have s0 := (blk_cell HYz.out 0).trans rfl
     have s1 := (blk_cell HYz.out 1).trans rfl
     obtain ⟨rb, hrb⟩ : ∃ rb, rb = decide (0 ≤ (e0 : Int) ∧ (e0 : Int) < (e1 : Int)) := ⟨_, rfl⟩
     have HRB := Aside0.mk hrb; clear hrb
     cases rb with
     | false =>
      have HNL : Aside0 (¬ e0 < e1) := ⟨by have := of_decide_eq_false HRB.out.symm; omega⟩
      go_wp2_with (go_at_call 50; refine (span_Right.calls (e0 : Int) (e1 : Int) _ _ (right_is3 e0 e1)).mono ?_; rintro e w10 ⟨rfl, hb10⟩; rw [← HRB.out]; have HR10 := Aside0.mk (Kd.R_below HRz.out hb10); have HB10 : Aside0 (Below w.heap.size w w10) := ⟨below_step HBz.out hb10⟩; have HG10 := Aside0.mk (Kd.R_below HGz.out hb10); clear hb10)
      exact ⟨⟨k + 1, by go_num, by omega, by rw [HSTEP.out], ⟨by rw [HSTEP.out, if_neg HNL.out]; exact Kd.R_mono HR10.out (fun _ _ => trivial)⟩, ⟨Kd.R_mono HG10.out (fun _ _ => trivial)⟩, HB10⟩, by simp [intOf]; omega⟩
     | true =>
      have HNL : Aside0 (e0 < e1) := ⟨by have := of_decide_eq_true HRB.out.symm; omega⟩
      go_upto_region 16 with (go_at_call 50; refine (span_Right.calls (e0 : Int) (e1 : Int) _ _ (right_is3 e0 e1)).mono ?_; rintro e w10 ⟨rfl, hb10⟩; rw [← HRB.out]; have HR10 := Aside0.mk (Kd.R_below HRz.out hb10); have HB10 : Aside0 (Below w.heap.size w w10) := ⟨below_step HBz.out hb10⟩; have HG10 := Aside0.mk (Kd.R_below HGz.out hb10); have HX10 : Aside0 (w10.heap[gb]? = some (.cells #[.int .i64 lo, .int .i64 hi] 33 (0, 0))) := ⟨(hb10.block _ (blk_lt HXz.out)).trans HXz.out⟩; have HY10 : Aside0 (w10.heap[gc]? = some (.cells #[.int .i64 e0, .int .i64 e1] 33 (0, 0))) := ⟨(hb10.block _ (blk_lt HYz.out)).trans HYz.out⟩; have t0 := (blk_cell HX10.out 0).trans rfl; have t1 := (blk_cell HX10.out 1).trans rfl; have t2 := (blk_cell HY10.out 0).trans rfl; have t3 := (blk_cell HY10.out 1).trans rfl; clear hb10)
      clear s0 s1
      go_wp2_with ((with_reducible refine gate_builtin (b := .append) (xs := #[.tmp 53, .tmp 57]) rfl ?_); at_builtin; refine Kd.R_append k45 (w0 := w) w.heap.size rfl (.tmp 53) (.tmp 57) 40 45 (.agg #[(.int .i64 0), (.int .i64 0), (.int .i64 0), (.int .i64 0)]) 32 rfl Try.underlying40 info45 rfl (by decide) (by omega) _ q.1 (⟨⟨(lo : Int), (hi : Int)⟩, ⟨(e0 : Int), (e1 : Int)⟩⟩ : S45) [.int .i64 lo, .int .i64 hi, .int .i64 e0, .int .i64 e1] (fun _ => True) (fun _ => False) rfl (by first | (go_simp; done) | (go_simp; rfl)) (k45_mkM _ _ _ (⟨⟨(lo : Int), (hi : Int)⟩, ⟨(e0 : Int), (e1 : Int)⟩⟩ : S45)) (fun _ h => h.elim) (fun _ _ => trivial) (Kd.R_mono HR10.out (fun _ _ => trivial)) HB10.out HB10.out.size (by have := HQ1.out; omega) ?_; intro v11 w11 hv hb hg hat; have HR11 := Aside0.mk hv; have HB11 := Aside0.mk hb; have HG11 : Aside0 (Kd.R k33 33 w11 0 (fun _ => True) (.slice (some ad) gs.length c2) gs) := ⟨Kd.R_mono (Kd.R_grown (Kd.R_bound HG10.out) hg (fun p hp => apart33 HR10.out hp)) (fun _ _ => trivial)⟩; clear hv hb hg hat)
      exact ⟨⟨k + 1, by go_num, by omega, by rw [HSTEP.out], ⟨by rw [HSTEP.out, if_pos HNL.out]; exact HR11.out⟩, HG11, HB11⟩, by simp [intOf]; omega⟩
  ·obtain rfl : k = gs.length := by omega
   rw [List.take_length] at HR ⊢
   clear hlt
   have r0 := (HB.out.cell (World.block_lt_of_cell? _ _ c0)).trans c0
   have HS := Aside0.mk (SLk.of_R HR.out)
   go_wp2_with (go_at_call 32; refine (HFIN.out _ _ HS.out HB.out).mono ?_; rintro e w12 ⟨u, r, rfl, hR, hb12⟩; have HRR := Aside0.mk hR; have HB12 : Aside0 (Below w.heap.size w w12) := ⟨below_step HB.out hb12⟩; clear hR hb12)
   refine bodyPost_ret (results_tmp2 rfl _ _ _) rfl ?_
   exact ⟨_, _, rfl, HRR.out, HB12.out⟩
end Go.Proofs.Ytohhobcipfmkbaa.Cel
end
section
namespace Go.Proofs.Ytohhobcipfmkbaa.Cel
open Go.RowKit Go.Proofs.YtohhobcipfmkbaaW.PrintWords Go.Proofs.YtohhobcipfmkbaaW.PrintMore Go.Proofs.YtohhobcipfmkbaaW.PrintLast Go.Proofs.Ytohhobcipfmkbaa.U Go.Proofs.Ytohhobcipfmkbaa.PClusterFinest Go.Proofs.Ytohhobcipfmkbaa.UGroups Go.Proofs.Ytohhobcipfmkbaa.UFinEv
open Go.Proofs.Ytohhobcipfmkbaa.CFin (rd33 info33 cells33 one33)
theorem Parts.join {T b c : Nat} {w W W2 : World} {D Dr Dt : Nat → Prop} {A : Option Addr} {vt v1 : Value} {L : List (List Int)} {J : List S33} {s : S33} (h : Parts T w D Dr Dt b A c vt L J) (hw : Below w.heap.size w W) (hg : W.grownBy W2 vt.ownBlock) (hv : Kd.R k33 33 W2 0 (fun q => Dt q ∨ w.heap.size ≤ q) v1 (J ++ [s])) :
 CellsAt T (W2.setCell ⟨b, 1, none⟩ v1) (fun q => D q ∨ w.heap.size ≤ q) b L (J ++ [s]) ∧ Eff w (W2.setCell ⟨b, 1, none⟩ v1) D := by
 have h' := h.below hw
 have hb0 : b < w.heap.size := blk_lt h.h1
 have hown : ∀ k, vt.ownBlock = some k → Dt k := h.h3.1
 have hbe : ∀ k, vt.ownBlock = some k → b ≠ k := fun k hk e => (h.ht k (hown k hk)).2.1 e.symm
 have h1 : W2.heap[b]? = some (.cells #[.slice A L.length c, vt] T (0, 0)) := by
  refine (hg.block b (blk_lt h'.h1) (fun e => ?_)).trans h'.h1
  exact hbe b e.symm rfl
 have hrow : RowAt W2 Dr (.slice A L.length c) L := by
  refine h'.h2.kept (S := fun q => vt.ownBlock = some q) (Kept.of_grown hg (Kept.refl _ _) (fun k hk => .inl hk)) (fun k hk hs => ?_)
  exact (h.ht k (hown k hs)).2.2.1 hk
 have hset := grown_set W2 b 1 v1
 refine ⟨⟨fun q => Dr q, fun q => Dt q ∨ w.heap.size ≤ q, _, v1, fun k hk => ⟨.inl (h.hr k hk).1, (h.hr k hk).2.1⟩, fun k hk => ?_, .inl h.h0, blk_put h1 1 v1 rfl, ?_, ?_⟩, ?_⟩
 ·rcases hk with hk | hk
  ·exact ⟨.inl (h.ht k hk).1, (h.ht k hk).2.1, (h.ht k hk).2.2.1⟩
  ·exact ⟨.inr hk, by omega, fun hr => by have := (h.hr k hr).2.2; omega⟩
 ·exact hrow.kept (S := fun q => q = b) (Kept.of_grown hset (Kept.refl _ _) (fun k hk => .inl (Option.some.inj hk).symm)) (fun k hk e => (h.hr k hk).2.1 e)
 ·refine Kd.R_kept hv (S := fun q => q = b) (Kept.of_grown hset (Kept.refl _ _) (fun k hk => .inl (Option.some.inj hk).symm)) (fun k hk e => ?_)
  rcases hk with hk | hk
  ·exact (h.ht k hk).2.1 e
  ·omega
 ·refine (Eff.of_below hw D).then_ (S2 := fun q => q = b ∨ vt.ownBlock = some q) ((Eff.of_grown (S := fun q => q = b ∨ vt.ownBlock = some q) hg (fun q e => .inr e)).then_ (Eff.of_grown (S := fun q => q = b) hset (fun q e => (Option.some.inj e).symm)) (fun q e => .inl (.inl e))) (fun q e => ?_)
  rcases e with e | e
  ·rw [e]; exact .inl h.h0
  ·exact .inl (h.ht q (hown q e)).1
set_option maxRecDepth 100000 in
set_option maxHeartbeats 4000000 in
theorem join_bad {w : World} {D : Nat → Prop} {b : Nat} {L : List (List Int)} {J : List S33} (h : CellsAt 51 w D b L J) (lo hi : Int) (hno : ¬ (0 ≤ lo ∧ lo < hi ∧ hi ≤ (L.length : Int))) :
 Calls Try.prog 27 #[ptr b, .agg #[.int .i64 lo, .int .i64 hi]] w fun e w' => e = .returned (.int .i64 1) ∧ Below w.heap.size w w' := by
 obtain ⟨Dr, Dt, A, c, vt, hp⟩ := h.open_
 obtain ⟨At, ct, evt⟩ := Kd.R_slice hp.h3
 subst evt
 have HP := Aside0.mk hp
 clear h hp
 go_enter Try.func27, Try.ntmps27
 go_upto_region 1 with (first | ((with_reducible refine gate_dst (N := 3) rfl ?_); refine box_event ?hg (N := 3) ?hd (cs := #[.int .i64 lo, .int .i64 hi]) (t := 33) ?hr ?_; (case hd => rfl); (case hg => rfl); (case hr => first | (go_simp; done) | (go_simp; rfl)); intro gb hg w1 hbox hb; have HX := Aside0.mk hbox; have HB1 := Aside0.mk hb; have HP1 := Aside0.mk (HP.out.below hb); clear hg hbox hb))
 have x0 := (blk_cell HX.out 0).trans rfl
 have x1 := (blk_cell HX.out 1).trans rfl
 have c0 := (blk_cell HP1.out.h1 0).trans rfl
 by_cases hrt : 0 ≤ lo ∧ lo < hi
 ·have HRB : Aside0 (decide (0 ≤ lo ∧ lo < hi) = true) := ⟨decide_eq_true hrt⟩
  have hhi : (L.length : Int) < hi := by omega
  clear hrt hno
  have HBD : Aside0 (Below w1.heap.size w1 w1.drew) := ⟨below_drew (Below.refl _ _)⟩
  refine start_ (n := 17) (S := (fun W => Below w1.heap.size w1 W)) (ds := []) #[false, false, false, false, false, false, false, false, false, false, false, false, false, false, false, false, false] (by kernel_rfl) (by kernel_rfl) (by rfl) HBD.out (fun hS0 => ?_)
  refine pure_ (i := 0) (N := (some 5)) (v := ?_) (a' := ?_) #[true, false, false, false, false, false, false, false, false, false, false, false, false, false, false, false, false] rfl rfl (by kernel_rfl) (fun _ _ _ h => h) (Or.inl ⟨by rfl, ?_⟩) ?_ ?_
  rotate_left
  ·intro w'
   go_simp
   with_reducible rfl
  rotate_left
  ·simp only [Act.put, List.setIfInBounds_toArray, List.set_cons_zero, List.set_cons_succ]
   rfl
  refine pure_ (i := 1) (N := (some 6)) (v := ?_) (a' := ?_) #[true, true, false, false, false, false, false, false, false, false, false, false, false, false, false, false, false] rfl rfl (by kernel_rfl) (fun _ _ _ h => h) (Or.inl ⟨by rfl, ?_⟩) ?_ ?_
  rotate_left
  ·intro w'
   go_simp
   with_reducible rfl
  rotate_left
  ·simp only [Act.put, List.setIfInBounds_toArray, List.set_cons_zero, List.set_cons_succ]
   rfl
  refine pure_ (i := 2) (N := (some 7)) (v := ?_) (a' := ?_) #[true, true, true, false, false, false, false, false, false, false, false, false, false, false, false, false, false] rfl rfl (by kernel_rfl) (fun _ _ _ h => h) (Or.inl ⟨by rfl, ?_⟩) ?_ ?_
  rotate_left
  ·intro w'
   go_simp
   with_reducible rfl
  rotate_left
  ·simp only [Act.put, List.setIfInBounds_toArray, List.set_cons_zero, List.set_cons_succ]
   rfl
  refine take_ (i := 3) (N := (some 8)) (v := ?_) (a' := ?_) #[true, true, true, true, false, false, false, false, false, false, false, false, false, false, false, false, false] rfl rfl (by kernel_rfl) (fun _ _ _ h => h) (Or.inl ⟨by rfl, ?_⟩) hS0 ?_ ?_
  rotate_left
  ·intro w' s0
   have hx0 := (s0.cell (World.block_lt_of_cell? _ _ x0)).trans x0
   have hx1 := (s0.cell (World.block_lt_of_cell? _ _ x1)).trans x1
   go_simp
   with_reducible rfl
  rotate_left
  ·simp only [Act.put, List.setIfInBounds_toArray, List.set_cons_zero, List.set_cons_succ]
   rfl
  clear hS0
  refine one_ (i := 4) (N := (some 9)) #[true, true, true, true, true, false, false, false, false, false, false, false, false, false, false, false, false] rfl rfl (by kernel_rfl) (by decide) (fun K hK => ?_)
  refine goes_ Try.func50 (by kernel_rfl) rfl #[.agg #[.int .i64 lo, .int .i64 hi]] (by rfl) rfl rfl (by go_simp; done) ?_
  refine (span_Right.calls lo hi _ _ (right_is3 lo hi)).mono ?_
  rintro e w2 ⟨rfl, hb2⟩
  rw [HRB.out]
  refine ⟨_, rfl, ?_⟩
  have HB2 : Aside0 (Below w1.heap.size w1 w2) := ⟨below_step HBD.out hb2⟩
  clear hb2
  change K (Act.put _ (some 9) _) _
  refine hK.out _ _ HB2.out (fun hS0 => ?_)
  clear hK
  refine norm_ (a' := ?_) ?_ ?_
  rotate_left
  ·simp only [Act.put, List.setIfInBounds_toArray, List.set_cons_zero, List.set_cons_succ]
   rfl
  refine pure_ (i := 5) (N := (some 10)) (v := ?_) (a' := ?_) #[true, true, true, true, true, true, false, false, false, false, false, false, false, false, false, false, false] rfl rfl (by kernel_rfl) (fun _ _ _ h => h) (Or.inl ⟨by rfl, ?_⟩) ?_ ?_
  rotate_left
  ·intro w'
   go_simp
   with_reducible rfl
  rotate_left
  ·simp only [Act.put, List.setIfInBounds_toArray, List.set_cons_zero, List.set_cons_succ]
   rfl
  refine pure_ (i := 6) (N := (some 11)) (v := ?_) (a' := ?_) #[true, true, true, true, true, true, true, false, false, false, false, false, false, false, false, false, false] rfl rfl (by kernel_rfl) (fun _ _ _ h => h) (Or.inl ⟨by rfl, ?_⟩) ?_ ?_
  rotate_left
  ·intro w'
   go_simp
   with_reducible rfl
  rotate_left
  ·simp only [Act.put, List.setIfInBounds_toArray, List.set_cons_zero, List.set_cons_succ]
   rfl
  refine pure_ (i := 7) (N := (some 12)) (v := ?_) (a' := ?_) #[true, true, true, true, true, true, true, true, false, false, false, false, false, false, false, false, false] rfl rfl (by kernel_rfl) (fun _ _ _ h => h) (Or.inl ⟨by rfl, ?_⟩) ?_ ?_
  rotate_left
  ·intro w'
   go_simp
   with_reducible rfl
  rotate_left
  ·simp only [Act.put, List.setIfInBounds_toArray, List.set_cons_zero, List.set_cons_succ]
   rfl
  refine pure_ (i := 8) (N := (some 13)) (v := ?_) (a' := ?_) #[true, true, true, true, true, true, true, true, true, false, false, false, false, false, false, false, false] rfl rfl (by kernel_rfl) (fun _ _ _ h => h) (Or.inl ⟨by rfl, ?_⟩) ?_ ?_
  rotate_left
  ·intro w'
   go_simp
   with_reducible rfl
  rotate_left
  ·simp only [Act.put, List.setIfInBounds_toArray, List.set_cons_zero, List.set_cons_succ]
   rfl
  refine take_ (i := 9) (N := (some 14)) (v := ?_) (a' := ?_) #[true, true, true, true, true, true, true, true, true, true, false, false, false, false, false, false, false] rfl rfl (by kernel_rfl) (fun _ _ _ h => h) (Or.inl ⟨by rfl, ?_⟩) hS0 ?_ ?_
  rotate_left
  ·intro w' s0
   have hx1 := (s0.cell (World.block_lt_of_cell? _ _ x1)).trans x1
   go_simp
   with_reducible rfl
  rotate_left
  ·simp only [Act.put, List.setIfInBounds_toArray, List.set_cons_zero, List.set_cons_succ]
   rfl
  refine pure_ (i := 10) (N := (some 15)) (v := ?_) (a' := ?_) #[true, true, true, true, true, true, true, true, true, true, true, false, false, false, false, false, false] rfl rfl (by kernel_rfl) (fun _ _ _ h => h) (Or.inl ⟨by rfl, ?_⟩) ?_ ?_
  rotate_left
  ·intro w'
   go_simp
   with_reducible rfl
  rotate_left
  ·simp only [Act.put, List.setIfInBounds_toArray, List.set_cons_zero, List.set_cons_succ]
   rfl
  refine pure_ (i := 11) (N := (some 16)) (v := ?_) (a' := ?_) #[true, true, true, true, true, true, true, true, true, true, true, true, false, false, false, false, false] rfl rfl (by kernel_rfl) (fun _ _ _ h => h) (Or.inl ⟨by rfl, ?_⟩) ?_ ?_
  rotate_left
  ·intro w'
   go_simp
   with_reducible rfl
  rotate_left
  ·simp only [Act.put, List.setIfInBounds_toArray, List.set_cons_zero, List.set_cons_succ]
   rfl
  refine pure_ (i := 12) (N := (some 17)) (v := ?_) (a' := ?_) #[true, true, true, true, true, true, true, true, true, true, true, true, true, false, false, false, false] rfl rfl (by kernel_rfl) (fun _ _ _ h => h) (Or.inl ⟨by rfl, ?_⟩) ?_ ?_
  rotate_left
  ·intro w'
   go_simp
   with_reducible rfl
  rotate_left
  ·simp only [Act.put, List.setIfInBounds_toArray, List.set_cons_zero, List.set_cons_succ]
   rfl
  refine take_ (i := 13) (N := (some 18)) (v := ?_) (a' := ?_) #[true, true, true, true, true, true, true, true, true, true, true, true, true, true, false, false, false] rfl rfl (by kernel_rfl) (fun _ _ _ h => h) (Or.inl ⟨by rfl, ?_⟩) hS0 ?_ ?_
  rotate_left
  ·intro w' s0
   have hx0 := (s0.cell (World.block_lt_of_cell? _ _ c0)).trans c0
   go_simp
   with_reducible rfl
  rotate_left
  ·simp only [Act.put, List.setIfInBounds_toArray, List.set_cons_zero, List.set_cons_succ]
   rfl
  refine pure_ (i := 14) (N := (some 19)) (v := ?_) (a' := ?_) #[true, true, true, true, true, true, true, true, true, true, true, true, true, true, true, false, false] rfl rfl (by kernel_rfl) (fun _ _ _ h => h) (Or.inl ⟨by rfl, ?_⟩) ?_ ?_
  rotate_left
  ·intro w'
   go_simp
   with_reducible rfl
  rotate_left
  ·simp only [Act.put, List.setIfInBounds_toArray, List.set_cons_zero, List.set_cons_succ]
   rfl
  refine pure_ (i := 15) (N := (some 20)) (v := ?_) (a' := ?_) #[true, true, true, true, true, true, true, true, true, true, true, true, true, true, true, true, false] rfl rfl (by kernel_rfl) (fun _ _ _ h => h) (Or.inl ⟨by rfl, ?_⟩) ?_ ?_
  rotate_left
  ·intro w'
   go_simp
   with_reducible rfl
  rotate_left
  ·simp only [Act.put, List.setIfInBounds_toArray, List.set_cons_zero, List.set_cons_succ]
   rfl
  refine pure_ (i := 16) (N := (some 21)) (v := ?_) (a' := ?_) #[true, true, true, true, true, true, true, true, true, true, true, true, true, true, true, true, true] rfl rfl (by kernel_rfl) (fun _ _ _ h => h) (Or.inl ⟨by rfl, ?_⟩) ?_ ?_
  rotate_left
  ·intro w'
   go_simp
   with_reducible rfl
  rotate_left
  ·simp only [Act.put, List.setIfInBounds_toArray, List.set_cons_zero, List.set_cons_succ]
   rfl
  refine done_ (by kernel_rfl) ?_
  go_wp2
  go_ret
  exact ⟨rfl, below_step HB1.out HB2.out⟩
 ·have HRB : Aside0 (decide (0 ≤ lo ∧ lo < hi) = false) := ⟨decide_eq_false hrt⟩
  clear hrt hno
  have HBD : Aside0 (Below w1.heap.size w1 w1.drew) := ⟨below_drew (Below.refl _ _)⟩
  refine start_ (n := 17) (S := (fun W => Below w1.heap.size w1 W)) (ds := []) #[false, false, false, false, false, false, false, false, false, false, false, false, false, false, false, false, false] (by kernel_rfl) (by kernel_rfl) (by rfl) HBD.out (fun hS0 => ?_)
  refine pure_ (i := 0) (N := (some 5)) (v := ?_) (a' := ?_) #[true, false, false, false, false, false, false, false, false, false, false, false, false, false, false, false, false] rfl rfl (by kernel_rfl) (fun _ _ _ h => h) (Or.inl ⟨by rfl, ?_⟩) ?_ ?_
  rotate_left
  ·intro w'
   go_simp
   with_reducible rfl
  rotate_left
  ·simp only [Act.put, List.setIfInBounds_toArray, List.set_cons_zero, List.set_cons_succ]
   rfl
  refine pure_ (i := 1) (N := (some 6)) (v := ?_) (a' := ?_) #[true, true, false, false, false, false, false, false, false, false, false, false, false, false, false, false, false] rfl rfl (by kernel_rfl) (fun _ _ _ h => h) (Or.inl ⟨by rfl, ?_⟩) ?_ ?_
  rotate_left
  ·intro w'
   go_simp
   with_reducible rfl
  rotate_left
  ·simp only [Act.put, List.setIfInBounds_toArray, List.set_cons_zero, List.set_cons_succ]
   rfl
  refine pure_ (i := 2) (N := (some 7)) (v := ?_) (a' := ?_) #[true, true, true, false, false, false, false, false, false, false, false, false, false, false, false, false, false] rfl rfl (by kernel_rfl) (fun _ _ _ h => h) (Or.inl ⟨by rfl, ?_⟩) ?_ ?_
  rotate_left
  ·intro w'
   go_simp
   with_reducible rfl
  rotate_left
  ·simp only [Act.put, List.setIfInBounds_toArray, List.set_cons_zero, List.set_cons_succ]
   rfl
  refine take_ (i := 3) (N := (some 8)) (v := ?_) (a' := ?_) #[true, true, true, true, false, false, false, false, false, false, false, false, false, false, false, false, false] rfl rfl (by kernel_rfl) (fun _ _ _ h => h) (Or.inl ⟨by rfl, ?_⟩) hS0 ?_ ?_
  rotate_left
  ·intro w' s0
   have hx0 := (s0.cell (World.block_lt_of_cell? _ _ x0)).trans x0
   have hx1 := (s0.cell (World.block_lt_of_cell? _ _ x1)).trans x1
   go_simp
   with_reducible rfl
  rotate_left
  ·simp only [Act.put, List.setIfInBounds_toArray, List.set_cons_zero, List.set_cons_succ]
   rfl
  clear hS0
  refine one_ (i := 4) (N := (some 9)) #[true, true, true, true, true, false, false, false, false, false, false, false, false, false, false, false, false] rfl rfl (by kernel_rfl) (by decide) (fun K hK => ?_)
  refine goes_ Try.func50 (by kernel_rfl) rfl #[.agg #[.int .i64 lo, .int .i64 hi]] (by rfl) rfl rfl (by go_simp; done) ?_
  refine (span_Right.calls lo hi _ _ (right_is3 lo hi)).mono ?_
  rintro e w2 ⟨rfl, hb2⟩
  rw [HRB.out]
  refine ⟨_, rfl, ?_⟩
  have HB2 : Aside0 (Below w1.heap.size w1 w2) := ⟨below_step HBD.out hb2⟩
  clear hb2
  change K (Act.put _ (some 9) _) _
  refine hK.out _ _ HB2.out (fun hS0 => ?_)
  clear hK
  refine norm_ (a' := ?_) ?_ ?_
  rotate_left
  ·simp only [Act.put, List.setIfInBounds_toArray, List.set_cons_zero, List.set_cons_succ]
   rfl
  refine pure_ (i := 5) (N := (some 10)) (v := ?_) (a' := ?_) #[true, true, true, true, true, true, false, false, false, false, false, false, false, false, false, false, false] rfl rfl (by kernel_rfl) (fun _ _ _ h => h) (Or.inl ⟨by rfl, ?_⟩) ?_ ?_
  rotate_left
  ·intro w'
   go_simp
   with_reducible rfl
  rotate_left
  ·simp only [Act.put, List.setIfInBounds_toArray, List.set_cons_zero, List.set_cons_succ]
   rfl
  refine pure_ (i := 6) (N := (some 11)) (v := ?_) (a' := ?_) #[true, true, true, true, true, true, true, false, false, false, false, false, false, false, false, false, false] rfl rfl (by kernel_rfl) (fun _ _ _ h => h) (Or.inl ⟨by rfl, ?_⟩) ?_ ?_
  rotate_left
  ·intro w'
   go_simp
   with_reducible rfl
  rotate_left
  ·simp only [Act.put, List.setIfInBounds_toArray, List.set_cons_zero, List.set_cons_succ]
   rfl
  refine pure_ (i := 7) (N := (some 12)) (v := ?_) (a' := ?_) #[true, true, true, true, true, true, true, true, false, false, false, false, false, false, false, false, false] rfl rfl (by kernel_rfl) (fun _ _ _ h => h) (Or.inl ⟨by rfl, ?_⟩) ?_ ?_
  rotate_left
  ·intro w'
   go_simp
   with_reducible rfl
  rotate_left
  ·simp only [Act.put, List.setIfInBounds_toArray, List.set_cons_zero, List.set_cons_succ]
   rfl
  refine pure_ (i := 8) (N := (some 13)) (v := undef) (a' := ?_) #[true, true, true, true, true, true, true, true, true, false, false, false, false, false, false, false, false] rfl rfl (by kernel_rfl) (fun _ _ _ h => h) (Or.inr ⟨by rfl, rfl⟩) ?_ ?_
  rotate_left
  ·simp only [Act.put, List.setIfInBounds_toArray, List.set_cons_zero, List.set_cons_succ]
   rfl
  refine pure_ (i := 9) (N := (some 14)) (v := undef) (a' := ?_) #[true, true, true, true, true, true, true, true, true, true, false, false, false, false, false, false, false] rfl rfl (by kernel_rfl) (fun _ _ _ h => h) (Or.inr ⟨by rfl, rfl⟩) ?_ ?_
  rotate_left
  ·simp only [Act.put, List.setIfInBounds_toArray, List.set_cons_zero, List.set_cons_succ]
   rfl
  refine pure_ (i := 10) (N := (some 15)) (v := undef) (a' := ?_) #[true, true, true, true, true, true, true, true, true, true, true, false, false, false, false, false, false] rfl rfl (by kernel_rfl) (fun _ _ _ h => h) (Or.inr ⟨by rfl, rfl⟩) ?_ ?_
  rotate_left
  ·simp only [Act.put, List.setIfInBounds_toArray, List.set_cons_zero, List.set_cons_succ]
   rfl
  refine pure_ (i := 11) (N := (some 16)) (v := undef) (a' := ?_) #[true, true, true, true, true, true, true, true, true, true, true, true, false, false, false, false, false] rfl rfl (by kernel_rfl) (fun _ _ _ h => h) (Or.inr ⟨by rfl, rfl⟩) ?_ ?_
  rotate_left
  ·simp only [Act.put, List.setIfInBounds_toArray, List.set_cons_zero, List.set_cons_succ]
   rfl
  refine pure_ (i := 12) (N := (some 17)) (v := undef) (a' := ?_) #[true, true, true, true, true, true, true, true, true, true, true, true, true, false, false, false, false] rfl rfl (by kernel_rfl) (fun _ _ _ h => h) (Or.inr ⟨by rfl, rfl⟩) ?_ ?_
  rotate_left
  ·simp only [Act.put, List.setIfInBounds_toArray, List.set_cons_zero, List.set_cons_succ]
   rfl
  refine pure_ (i := 13) (N := (some 18)) (v := undef) (a' := ?_) #[true, true, true, true, true, true, true, true, true, true, true, true, true, true, false, false, false] rfl rfl (by kernel_rfl) (fun _ _ _ h => h) (Or.inr ⟨by rfl, rfl⟩) ?_ ?_
  rotate_left
  ·simp only [Act.put, List.setIfInBounds_toArray, List.set_cons_zero, List.set_cons_succ]
   rfl
  refine pure_ (i := 14) (N := (some 19)) (v := undef) (a' := ?_) #[true, true, true, true, true, true, true, true, true, true, true, true, true, true, true, false, false] rfl rfl (by kernel_rfl) (fun _ _ _ h => h) (Or.inr ⟨by rfl, rfl⟩) ?_ ?_
  rotate_left
  ·simp only [Act.put, List.setIfInBounds_toArray, List.set_cons_zero, List.set_cons_succ]
   rfl
  refine pure_ (i := 15) (N := (some 20)) (v := undef) (a' := ?_) #[true, true, true, true, true, true, true, true, true, true, true, true, true, true, true, true, false] rfl rfl (by kernel_rfl) (fun _ _ _ h => h) (Or.inr ⟨by rfl, rfl⟩) ?_ ?_
  rotate_left
  ·simp only [Act.put, List.setIfInBounds_toArray, List.set_cons_zero, List.set_cons_succ]
   rfl
  refine pure_ (i := 16) (N := (some 21)) (v := ?_) (a' := ?_) #[true, true, true, true, true, true, true, true, true, true, true, true, true, true, true, true, true] rfl rfl (by kernel_rfl) (fun _ _ _ h => h) (Or.inl ⟨by rfl, ?_⟩) ?_ ?_
  rotate_left
  ·intro w'
   go_simp
   with_reducible rfl
  rotate_left
  ·simp only [Act.put, List.setIfInBounds_toArray, List.set_cons_zero, List.set_cons_succ]
   rfl
  refine done_ (by kernel_rfl) ?_
  go_wp2
  go_ret
  exact ⟨rfl, below_step HB1.out HB2.out⟩
set_option maxRecDepth 100000 in
set_option maxHeartbeats 4000000 in
theorem join_c {w : World} {D : Nat → Prop} {b : Nat} {L : List (List Int)} {J : List S33} (h : CellsAt 51 w D b L J) (hJ : J.length ≤ 1000000) (lo hi : Int) (h0 : 0 ≤ lo) (h1 : lo < hi) (h2 : hi ≤ (L.length : Int)) :
 Calls Try.prog 27 #[ptr b, .agg #[.int .i64 lo, .int .i64 hi]] w fun e w' => e = .returned (.int .i64 0) ∧ CellsAt 51 w' (fun q => D q ∨ w.heap.size ≤ q) b L (J ++ [⟨lo, hi⟩]) ∧ Eff w w' D := by
 obtain ⟨Dr, Dt, A, c, vt, hp⟩ := h.open_
 obtain ⟨At, ct, evt⟩ := Kd.R_slice hp.h3
 subst evt
 have HP := Aside0.mk hp
 clear h hp
 have HJ := Aside0.mk hJ
 go_enter Try.func27, Try.ntmps27
 go_upto_region 1 with (first | ((with_reducible refine gate_dst (N := 3) rfl ?_); refine box_event ?hg (N := 3) ?hd (cs := #[.int .i64 lo, .int .i64 hi]) (t := 33) ?hr ?_; (case hd => rfl); (case hg => rfl); (case hr => first | (go_simp; done) | (go_simp; rfl)); intro gb hg w1 hbox hb; have HX := Aside0.mk hbox; have HB1 := Aside0.mk hb; have HP1 := Aside0.mk (HP.out.below hb); clear hg hbox hb))
 have x0 := (blk_cell HX.out 0).trans rfl
 have x1 := (blk_cell HX.out 1).trans rfl
 have c0 := (blk_cell HP1.out.h1 0).trans rfl
 have HRB : Aside0 (decide (0 ≤ lo ∧ lo < hi) = true) := ⟨decide_eq_true ⟨h0, h1⟩⟩
 have hhi : ¬ (L.length : Int) < hi := by omega
 clear h0 h1 hJ
 have HBD : Aside0 (Below w1.heap.size w1 w1.drew) := ⟨below_drew (Below.refl _ _)⟩
 refine start_ (n := 17) (S := (fun W => Below w1.heap.size w1 W)) (ds := []) #[false, false, false, false, false, false, false, false, false, false, false, false, false, false, false, false, false] (by kernel_rfl) (by kernel_rfl) (by rfl) HBD.out (fun hS0 => ?_)
 refine pure_ (i := 0) (N := (some 5)) (v := ?_) (a' := ?_) #[true, false, false, false, false, false, false, false, false, false, false, false, false, false, false, false, false] rfl rfl (by kernel_rfl) (fun _ _ _ h => h) (Or.inl ⟨by rfl, ?_⟩) ?_ ?_
 rotate_left
 ·intro w'
  go_simp
  with_reducible rfl
 rotate_left
 ·simp only [Act.put, List.setIfInBounds_toArray, List.set_cons_zero, List.set_cons_succ]
  rfl
 refine pure_ (i := 1) (N := (some 6)) (v := ?_) (a' := ?_) #[true, true, false, false, false, false, false, false, false, false, false, false, false, false, false, false, false] rfl rfl (by kernel_rfl) (fun _ _ _ h => h) (Or.inl ⟨by rfl, ?_⟩) ?_ ?_
 rotate_left
 ·intro w'
  go_simp
  with_reducible rfl
 rotate_left
 ·simp only [Act.put, List.setIfInBounds_toArray, List.set_cons_zero, List.set_cons_succ]
  rfl
 refine pure_ (i := 2) (N := (some 7)) (v := ?_) (a' := ?_) #[true, true, true, false, false, false, false, false, false, false, false, false, false, false, false, false, false] rfl rfl (by kernel_rfl) (fun _ _ _ h => h) (Or.inl ⟨by rfl, ?_⟩) ?_ ?_
 rotate_left
 ·intro w'
  go_simp
  with_reducible rfl
 rotate_left
 ·simp only [Act.put, List.setIfInBounds_toArray, List.set_cons_zero, List.set_cons_succ]
  rfl
 refine take_ (i := 3) (N := (some 8)) (v := ?_) (a' := ?_) #[true, true, true, true, false, false, false, false, false, false, false, false, false, false, false, false, false] rfl rfl (by kernel_rfl) (fun _ _ _ h => h) (Or.inl ⟨by rfl, ?_⟩) hS0 ?_ ?_
 rotate_left
 ·intro w' s0
  have hx0 := (s0.cell (World.block_lt_of_cell? _ _ x0)).trans x0
  have hx1 := (s0.cell (World.block_lt_of_cell? _ _ x1)).trans x1
  go_simp
  with_reducible rfl
 rotate_left
 ·simp only [Act.put, List.setIfInBounds_toArray, List.set_cons_zero, List.set_cons_succ]
  rfl
 clear hS0
 refine one_ (i := 4) (N := (some 9)) #[true, true, true, true, true, false, false, false, false, false, false, false, false, false, false, false, false] rfl rfl (by kernel_rfl) (by decide) (fun K hK => ?_)
 refine goes_ Try.func50 (by kernel_rfl) rfl #[.agg #[.int .i64 lo, .int .i64 hi]] (by rfl) rfl rfl (by go_simp; done) ?_
 refine (span_Right.calls lo hi _ _ (right_is3 lo hi)).mono ?_
 rintro e w2 ⟨rfl, hb2⟩
 rw [HRB.out]
 refine ⟨_, rfl, ?_⟩
 have HB2 : Aside0 (Below w1.heap.size w1 w2) := ⟨below_step HBD.out hb2⟩
 clear hb2
 change K (Act.put _ (some 9) _) _
 refine hK.out _ _ HB2.out (fun hS0 => ?_)
 clear hK
 refine norm_ (a' := ?_) ?_ ?_
 rotate_left
 ·simp only [Act.put, List.setIfInBounds_toArray, List.set_cons_zero, List.set_cons_succ]
  rfl
 refine pure_ (i := 5) (N := (some 10)) (v := ?_) (a' := ?_) #[true, true, true, true, true, true, false, false, false, false, false, false, false, false, false, false, false] rfl rfl (by kernel_rfl) (fun _ _ _ h => h) (Or.inl ⟨by rfl, ?_⟩) ?_ ?_
 rotate_left
 ·intro w'
  go_simp
  with_reducible rfl
 rotate_left
 ·simp only [Act.put, List.setIfInBounds_toArray, List.set_cons_zero, List.set_cons_succ]
  rfl
 refine pure_ (i := 6) (N := (some 11)) (v := ?_) (a' := ?_) #[true, true, true, true, true, true, true, false, false, false, false, false, false, false, false, false, false] rfl rfl (by kernel_rfl) (fun _ _ _ h => h) (Or.inl ⟨by rfl, ?_⟩) ?_ ?_
 rotate_left
 ·intro w'
  go_simp
  with_reducible rfl
 rotate_left
 ·simp only [Act.put, List.setIfInBounds_toArray, List.set_cons_zero, List.set_cons_succ]
  rfl
 refine pure_ (i := 7) (N := (some 12)) (v := ?_) (a' := ?_) #[true, true, true, true, true, true, true, true, false, false, false, false, false, false, false, false, false] rfl rfl (by kernel_rfl) (fun _ _ _ h => h) (Or.inl ⟨by rfl, ?_⟩) ?_ ?_
 rotate_left
 ·intro w'
  go_simp
  with_reducible rfl
 rotate_left
 ·simp only [Act.put, List.setIfInBounds_toArray, List.set_cons_zero, List.set_cons_succ]
  rfl
 refine pure_ (i := 8) (N := (some 13)) (v := ?_) (a' := ?_) #[true, true, true, true, true, true, true, true, true, false, false, false, false, false, false, false, false] rfl rfl (by kernel_rfl) (fun _ _ _ h => h) (Or.inl ⟨by rfl, ?_⟩) ?_ ?_
 rotate_left
 ·intro w'
  go_simp
  with_reducible rfl
 rotate_left
 ·simp only [Act.put, List.setIfInBounds_toArray, List.set_cons_zero, List.set_cons_succ]
  rfl
 refine take_ (i := 9) (N := (some 14)) (v := ?_) (a' := ?_) #[true, true, true, true, true, true, true, true, true, true, false, false, false, false, false, false, false] rfl rfl (by kernel_rfl) (fun _ _ _ h => h) (Or.inl ⟨by rfl, ?_⟩) hS0 ?_ ?_
 rotate_left
 ·intro w' s0
  have hx1 := (s0.cell (World.block_lt_of_cell? _ _ x1)).trans x1
  go_simp
  with_reducible rfl
 rotate_left
 ·simp only [Act.put, List.setIfInBounds_toArray, List.set_cons_zero, List.set_cons_succ]
  rfl
 refine pure_ (i := 10) (N := (some 15)) (v := ?_) (a' := ?_) #[true, true, true, true, true, true, true, true, true, true, true, false, false, false, false, false, false] rfl rfl (by kernel_rfl) (fun _ _ _ h => h) (Or.inl ⟨by rfl, ?_⟩) ?_ ?_
 rotate_left
 ·intro w'
  go_simp
  with_reducible rfl
 rotate_left
 ·simp only [Act.put, List.setIfInBounds_toArray, List.set_cons_zero, List.set_cons_succ]
  rfl
 refine pure_ (i := 11) (N := (some 16)) (v := ?_) (a' := ?_) #[true, true, true, true, true, true, true, true, true, true, true, true, false, false, false, false, false] rfl rfl (by kernel_rfl) (fun _ _ _ h => h) (Or.inl ⟨by rfl, ?_⟩) ?_ ?_
 rotate_left
 ·intro w'
  go_simp
  with_reducible rfl
 rotate_left
 ·simp only [Act.put, List.setIfInBounds_toArray, List.set_cons_zero, List.set_cons_succ]
  rfl
 refine pure_ (i := 12) (N := (some 17)) (v := ?_) (a' := ?_) #[true, true, true, true, true, true, true, true, true, true, true, true, true, false, false, false, false] rfl rfl (by kernel_rfl) (fun _ _ _ h => h) (Or.inl ⟨by rfl, ?_⟩) ?_ ?_
 rotate_left
 ·intro w'
  go_simp
  with_reducible rfl
 rotate_left
 ·simp only [Act.put, List.setIfInBounds_toArray, List.set_cons_zero, List.set_cons_succ]
  rfl
 refine take_ (i := 13) (N := (some 18)) (v := ?_) (a' := ?_) #[true, true, true, true, true, true, true, true, true, true, true, true, true, true, false, false, false] rfl rfl (by kernel_rfl) (fun _ _ _ h => h) (Or.inl ⟨by rfl, ?_⟩) hS0 ?_ ?_
 rotate_left
 ·intro w' s0
  have hx0 := (s0.cell (World.block_lt_of_cell? _ _ c0)).trans c0
  go_simp
  with_reducible rfl
 rotate_left
 ·simp only [Act.put, List.setIfInBounds_toArray, List.set_cons_zero, List.set_cons_succ]
  rfl
 refine pure_ (i := 14) (N := (some 19)) (v := ?_) (a' := ?_) #[true, true, true, true, true, true, true, true, true, true, true, true, true, true, true, false, false] rfl rfl (by kernel_rfl) (fun _ _ _ h => h) (Or.inl ⟨by rfl, ?_⟩) ?_ ?_
 rotate_left
 ·intro w'
  go_simp
  with_reducible rfl
 rotate_left
 ·simp only [Act.put, List.setIfInBounds_toArray, List.set_cons_zero, List.set_cons_succ]
  rfl
 refine pure_ (i := 15) (N := (some 20)) (v := ?_) (a' := ?_) #[true, true, true, true, true, true, true, true, true, true, true, true, true, true, true, true, false] rfl rfl (by kernel_rfl) (fun _ _ _ h => h) (Or.inl ⟨by rfl, ?_⟩) ?_ ?_
 rotate_left
 ·intro w'
  go_simp
  with_reducible rfl
 rotate_left
 ·simp only [Act.put, List.setIfInBounds_toArray, List.set_cons_zero, List.set_cons_succ]
  rfl
 refine pure_ (i := 16) (N := (some 21)) (v := ?_) (a' := ?_) #[true, true, true, true, true, true, true, true, true, true, true, true, true, true, true, true, true] rfl rfl (by kernel_rfl) (fun _ _ _ h => h) (Or.inl ⟨by rfl, ?_⟩) ?_ ?_
 rotate_left
 ·intro w'
  go_simp
  with_reducible rfl
 rotate_left
 ·simp only [Act.put, List.setIfInBounds_toArray, List.set_cons_zero, List.set_cons_succ]
  rfl
 refine done_ (by kernel_rfl) ?_
 clear hS0 c0 x0 x1
 go_upto_region 3 with (fail)
 have HP2 := Aside0.mk (HP1.out.below HB2.out)
 have HX2 : Aside0 (w2.heap[gb]? = some (.cells #[.int .i64 lo, .int .i64 hi] 33 (0, 0))) := ⟨(HB2.out.block _ (blk_lt HX.out)).trans HX.out⟩
 have x0 := (blk_cell HX2.out 0).trans rfl
 have x1 := (blk_cell HX2.out 1).trans rfl
 have c1 := (blk_cell HP2.out.h1 1).trans rfl
 have HB02 : Aside0 (Below w.heap.size w w2) := ⟨below_step HB1.out HB2.out⟩
 have HBD2 : Aside0 (Below w2.heap.size w2 w2.drew) := ⟨below_drew (Below.refl _ _)⟩
 refine start_ (n := 11) (S := (fun W => Below w2.heap.size w2 W)) (ds := [7, 10]) #[false, false, false, false, false, false, false, false, false, false, false] (by kernel_rfl) (by kernel_rfl) (by rfl) HBD2.out (fun hS0 => ?_)
 refine pure_ (i := 0) (N := (some 22)) (v := ?_) (a' := ?_) #[true, false, false, false, false, false, false, false, false, false, false] rfl rfl (by kernel_rfl) (fun _ _ _ h => h) (Or.inl ⟨by rfl, ?_⟩) ?_ ?_
 rotate_left
 ·intro w'
  go_simp
  with_reducible rfl
 rotate_left
 ·simp only [Act.put, List.setIfInBounds_toArray, List.set_cons_zero, List.set_cons_succ]
  rfl
 refine pure_ (i := 1) (N := (some 23)) (v := ?_) (a' := ?_) #[true, true, false, false, false, false, false, false, false, false, false] rfl rfl (by kernel_rfl) (fun _ _ _ h => h) (Or.inl ⟨by rfl, ?_⟩) ?_ ?_
 rotate_left
 ·intro w'
  go_simp
  with_reducible rfl
 rotate_left
 ·simp only [Act.put, List.setIfInBounds_toArray, List.set_cons_zero, List.set_cons_succ]
  rfl
 refine pure_ (i := 2) (N := (some 24)) (v := ?_) (a' := ?_) #[true, true, true, false, false, false, false, false, false, false, false] rfl rfl (by kernel_rfl) (fun _ _ _ h => h) (Or.inl ⟨by rfl, ?_⟩) ?_ ?_
 rotate_left
 ·intro w'
  go_simp
  with_reducible rfl
 rotate_left
 ·simp only [Act.put, List.setIfInBounds_toArray, List.set_cons_zero, List.set_cons_succ]
  rfl
 refine pure_ (i := 3) (N := (some 25)) (v := ?_) (a' := ?_) #[true, true, true, true, false, false, false, false, false, false, false] rfl rfl (by kernel_rfl) (fun _ _ _ h => h) (Or.inl ⟨by rfl, ?_⟩) ?_ ?_
 rotate_left
 ·intro w'
  go_simp
  with_reducible rfl
 rotate_left
 ·simp only [Act.put, List.setIfInBounds_toArray, List.set_cons_zero, List.set_cons_succ]
  rfl
 refine take_ (i := 4) (N := (some 26)) (v := ?_) (a' := ?_) #[true, true, true, true, true, false, false, false, false, false, false] rfl rfl (by kernel_rfl) (fun _ _ _ h => h) (Or.inl ⟨by rfl, ?_⟩) hS0 ?_ ?_
 rotate_left
 ·intro w' s0
  have hx0 := (s0.cell (World.block_lt_of_cell? _ _ c1)).trans c1
  go_simp
  with_reducible rfl
 rotate_left
 ·simp only [Act.put, List.setIfInBounds_toArray, List.set_cons_zero, List.set_cons_succ]
  rfl
 refine take_ (i := 5) (N := (some 27)) (v := ?_) (a' := ?_) #[true, true, true, true, true, true, false, false, false, false, false] rfl rfl (by kernel_rfl) (fun _ _ _ h => h) (Or.inl ⟨by rfl, ?_⟩) hS0 ?_ ?_
 rotate_left
 ·intro w' s0
  have hx0 := (s0.cell (World.block_lt_of_cell? _ _ x0)).trans x0
  have hx1 := (s0.cell (World.block_lt_of_cell? _ _ x1)).trans x1
  go_simp
  with_reducible rfl
 rotate_left
 ·simp only [Act.put, List.setIfInBounds_toArray, List.set_cons_zero, List.set_cons_succ]
  rfl
 clear hS0
 refine one_ (i := 6) (N := (some 28)) #[true, true, true, true, true, true, true, false, false, false, false] rfl rfl (by kernel_rfl) (by decide) (fun K hK => ?_)
 refine value_ (w1 := w2.drew.alloc (cells33 ⟨lo, hi⟩)) (v := .slice (some ⟨w2.drew.heap.size, 0, none⟩) 1 1) (by rfl) rfl (by go_simp) ?_
 change K (Act.put _ (some 28) _) _
 refine hK.out _ _ (below_step HBD2.out (below_alloc (Below.refl _ _) _)) (fun hS0 => ?_)
 clear hK
 refine norm_ (a' := ?_) ?_ ?_
 rotate_left
 ·simp only [Act.put, List.setIfInBounds_toArray, List.set_cons_zero, List.set_cons_succ]
  rfl
 clear hS0
 refine last_ (i := 7) (N := (some 29)) #[true, true, true, true, true, true, true, true, false, false, false] rfl rfl (by kernel_rfl) (by decide) (fun K hK => ?_)
 have HR2 : Aside0 (Kd.R k33 33 w2.drew 0 (fun q => Dt q ∨ w.heap.size ≤ q) (.slice At J.length ct) J) := ⟨Kd.R_mono (Kd.R_below HP2.out.h3 HBD2.out) (fun _ h => .inl h)⟩
 refine Kd.R_append_step k33 (w0 := w2) 0 (by rfl) (.tmp 26) (.tmp 28) 49 33 (.agg #[.int .i64 0, .int .i64 0]) 16 rfl Try.underlying49 info33 rfl (by decide) (by omega) _ J (⟨lo, hi⟩ : S33) [.int .i64 lo, .int .i64 hi] (fun q => Dt q ∨ w.heap.size ≤ q) (fun _ => False) rfl rfl (k33_mkM _ _ _ (⟨lo, hi⟩ : S33)) (fun _ hk => hk.elim) (fun q hq => .inr (Nat.le_trans HB02.out.size hq)) HR2.out (below_drew (Below.refl _ _)) (Nat.zero_le _) (by have := HJ.out; omega) ?_
 intro v1 w3 hv hb hg hat
 obtain ⟨A5, c5, e5⟩ := Kd.R_slice hv
 subst e5
 have HV := Aside0.mk hv
 have HGR : Aside0 (w2.grownBy w3 (Value.slice At J.length ct).ownBlock) := ⟨World.grownBy.trans (show w2.grownBy w2.drew (Value.slice At J.length ct).ownBlock from ⟨rfl, rfl, rfl, Nat.le_refl _, fun _ _ _ => rfl⟩) hg⟩
 clear hv hb hg hat
 change K (Act.put _ (some 29) _) _
 refine hK.out _ _ ?_
 clear hK
 refine norm_ (a' := ?_) ?_ ?_
 rotate_left
 ·simp only [Act.put, List.setIfInBounds_toArray, List.set_cons_zero, List.set_cons_succ]
  rfl
 refine pure_ (i := 8) (N := (some 30)) (v := ?_) (a' := ?_) #[true, true, true, true, true, true, true, true, true, false, false] rfl rfl (by kernel_rfl) (fun _ _ _ h => h) (Or.inl ⟨by rfl, ?_⟩) ?_ ?_
 rotate_left
 ·intro w'
  go_simp
  with_reducible rfl
 rotate_left
 ·simp only [Act.put, List.setIfInBounds_toArray, List.set_cons_zero, List.set_cons_succ]
  rfl
 refine pure_ (i := 9) (N := (some 31)) (v := ?_) (a' := ?_) #[true, true, true, true, true, true, true, true, true, true, false] rfl rfl (by kernel_rfl) (fun _ _ _ h => h) (Or.inl ⟨by rfl, ?_⟩) ?_ ?_
 rotate_left
 ·intro w'
  go_simp
  with_reducible rfl
 rotate_left
 ·simp only [Act.put, List.setIfInBounds_toArray, List.set_cons_zero, List.set_cons_succ]
  rfl
 have y1 : w3.cell? ⟨b, 1, none⟩ = some (.slice At J.length ct) := by
  have hne : some b ≠ (Value.slice At J.length ct).ownBlock := fun e => (HP2.out.ht b (HP2.out.h3.1 b e.symm)).2.1 rfl
  exact (blk_cell ((HGR.out.block b (blk_lt HP2.out.h1) hne).trans HP2.out.h1) 1).trans rfl
 have y2 : w3.frozen? ⟨b, 1, none⟩ = false := by
  have hne : some b ≠ (Value.slice At J.length ct).ownBlock := fun e => (HP2.out.ht b (HP2.out.h3.1 b e.symm)).2.1 rfl
  exact blk_frozen ((HGR.out.block b (blk_lt HP2.out.h1) hne).trans HP2.out.h1) 1
 refine last_ (i := 10) (N := none) #[true, true, true, true, true, true, true, true, true, true, true] rfl rfl (by kernel_rfl) (by decide) (fun K hK => ?_)
 refine skip_ (w1 := w3.setCell ⟨b, 1, none⟩ (.slice A5 (J ++ [(⟨lo, hi⟩ : S33)]).length c5)) (by rfl) rfl (by go_simp) ?_
 refine hK.out _ _ ?_
 clear hK
 refine done_ (by kernel_rfl) ?_
 go_wp2
 go_ret
 obtain ⟨q1, q2⟩ := HP.out.join HB02.out HGR.out (v1 := .slice A5 (J ++ [(⟨lo, hi⟩ : S33)]).length c5) HV.out
 exact ⟨rfl, by simpa only [List.length_append, List.length_cons, List.length_nil] using q1, by simpa only [List.length_append, List.length_cons, List.length_nil] using q2⟩
end Go.Proofs.Ytohhobcipfmkbaa.Cel
end
section
namespace Go.Proofs.Ytohhobcipfmkbaa.PClusterFinest
open Go.RowKit Go.Proofs.YtohhobcipfmkbaaW.PrintWords Go.Proofs.YtohhobcipfmkbaaW.PrintLast Go.Proofs.YtohhobcipfmkbaaW.PrintMore
attribute [local go_sem] max2_int min2_int max_two min_two max_three min_three max_four min_four   -- for this text's walks alone
def slices_Equal_int_int.l0 : Nat → List Int → List Int → Int → Int → Option (Bool)
 | 0, _, _, _, _ => none
 | k + 1, x0, x1, x12, x13 => if x13 < x12 then (if 0 ≤ x13 then (if x13 < (x0.length : Int) then (if x13 < (x1.length : Int) then (if (rd x0 x13) = (rd x1 x13) then (slices_Equal_int_int.l0 k x0 x1 x12 (wrap64 (x13 + 1))) else (some false)) else (none)) else (none)) else (none)) else (some true)
def slices_Equal_int_int.f (k : Nat) (l0 : List Int) (l1 : List Int) : Option (Bool) := if (l0.length : Int) = (l1.length : Int) then (slices_Equal_int_int.l0 k l0 l1 (l0.length : Int) 0) else (some false)
set_option maxHeartbeats 8000000 in
set_option maxRecDepth 100000 in
theorem slices_Equal_int_int.calls (k : Nat) (A0 : Option Addr) (c0 : Nat) (l0 : List Int) (A1 : Option Addr) (c1 : Nat) (l1 : List Int) (r : Bool) (w : World) (hr0 : Kd.C (Kd.int .i64) w A0 l0.length l0) (hc0 : l0.length ≤ c0) (hr1 : Kd.C (Kd.int .i64) w A1 l1.length l1) (hc1 : l1.length ≤ c1) (h : slices_Equal_int_int.f k l0 l1 = some r) :
 Calls Try.prog 16 #[.slice A0 l0.length c0, .slice A1 l1.length c1] w fun e w' => e = .returned (.bool r) ∧ Drawn0 w w' := by
 have HR0 := Aside0.mk hr0
 have HC0 := Aside0.mk hc0
 clear hr0 hc0
 have HR1 := Aside0.mk hr1
 have HC1 := Aside0.mk hc1
 clear hr1 hc1
 have H : (if (l0.length : Int) = (l1.length : Int) then (slices_Equal_int_int.l0 k l0 l1 (l0.length : Int) 0) else (some false)) = some r := h
 clear h
 by_cases c3 : (l0.length : Int) = (l1.length : Int)
 ·rw [if_pos c3] at H
  have c3b0 : ((l0.length : Int) == (l1.length : Int)) = true := beq_iff_eq.mpr c3
  have c3b1 : ((l0.length : Int) != (l1.length : Int)) = false := bne_eq_false_iff_eq.mpr c3
  have c3b2 : (l0.length == l1.length) = true := by first | simpa using c3 | (simp at c3 ⊢; omega)
  clear c3
  have H' := Aside0.mk H
  clear H
  go_enter Try.func16, Try.ntmps16
  go_wp2
  repeat (go_quiet (fail); try go_wp2)
  go_loopg [13] k (fun kq v13 w' => ∃ (x13_1 : Int), v13 = .int .i64 x13_1 ∧ Aside0 (slices_Equal_int_int.l0 kq l0 l1 (l0.length : Int) x13_1 = some r) ∧ Aside0 (kq ≤ k) ∧ Drawn0 w w')
  case atStart => exact ⟨(0), (by first | rfl | (simp; done) | (simp [*]; done)), H', ⟨Nat.le_refl _⟩, by repeat (first | exact Drawn0.refl _ | apply Drawn0.step)⟩
  case round =>
   clear H'
   try clear c1
   try clear p2
   try clear c3
   try clear c3b0
   try clear c3b1
   try clear c3b2
   obtain ⟨x13_1, rfl, HA, HK1, ⟨m1, rfl⟩⟩ := hrel
   cases gk with
   | zero => exact absurd HA.out (by simp [slices_Equal_int_int.l0])
   | succ k1 =>
    have H := HA.out
    clear HA
    simp only [slices_Equal_int_int.l0] at H
    by_cases c4 : x13_1 < (l0.length : Int)
    ·rw [if_pos c4] at H
     have c4b0 : decide (x13_1 < (l0.length : Int)) = true := decide_eq_true c4
     clear c4
     by_cases c5 : 0 ≤ x13_1
     ·rw [if_pos c5] at H
      have c5b0 : decide (0 ≤ x13_1) = true := decide_eq_true c5
      clear c5
      by_cases c6 : x13_1 < (l0.length : Int)
      ·rw [if_pos c6] at H
       have c6b0 : decide (x13_1 < (l0.length : Int)) = true := decide_eq_true c6
       clear c6
       by_cases c7 : x13_1 < (l1.length : Int)
       ·rw [if_pos c7] at H
        have c7b0 : decide (x13_1 < (l1.length : Int)) = true := decide_eq_true c7
        clear c7
        by_cases c8 : (rd l0 x13_1) = (rd l1 x13_1)
        ·rw [if_pos c8] at H
         have c8b0 : ((rd l0 x13_1) == (rd l1 x13_1)) = true := beq_iff_eq.mpr c8
         have c8b1 : ((rd l0 x13_1) != (rd l1 x13_1)) = false := bne_eq_false_iff_eq.mpr c8
         clear c8
         have H' := Aside0.mk H
         clear H
         have p101 : 0 ≤ (x13_1 : Int) := of_decide_eq_true (by first | (with_reducible assumption) | assumption)
         have q101 : x13_1 < (l0.length : Int) := of_decide_eq_true (by first | (with_reducible assumption) | assumption)
         obtain ⟨ad101, e101, hx101_0⟩ := Kd.at_int HR0.out x13_1 p101 q101
         cases e101
         replace p101 := eq_true p101
         replace q101 := eq_true q101
         have p102 : 0 ≤ (x13_1 : Int) := of_decide_eq_true (by first | (with_reducible assumption) | assumption)
         have q102 : x13_1 < (l1.length : Int) := of_decide_eq_true (by first | (with_reducible assumption) | assumption)
         obtain ⟨ad102, e102, hx102_0⟩ := Kd.at_int HR1.out x13_1 p102 q102
         cases e102
         replace p102 := eq_true p102
         replace q102 := eq_true q102
         go_wp2
         repeat (go_quiet (fail); try go_wp2)
         go_roundg k1
         case measure => have := HK1.out; omega
         case rel => exact ⟨(wrap64 (x13_1 + 1)), (by first | rfl | (simp; done) | (simp [*]; done)), H', ⟨by have := HK1.out; omega⟩, by repeat (first | exact Drawn0.refl _ | apply Drawn0.step)⟩
        ·rw [if_neg c8] at H
         have c8b0 : ((rd l0 x13_1) == (rd l1 x13_1)) = false := beq_eq_false_iff_ne.mpr c8
         have c8b1 : ((rd l0 x13_1) != (rd l1 x13_1)) = true := bne_iff_ne.mpr c8
         obtain rfl := Option.some.inj H
         have p101 : 0 ≤ (x13_1 : Int) := of_decide_eq_true (by first | (with_reducible assumption) | assumption)
         have q101 : x13_1 < (l0.length : Int) := of_decide_eq_true (by first | (with_reducible assumption) | assumption)
         obtain ⟨ad101, e101, hx101_0⟩ := Kd.at_int HR0.out x13_1 p101 q101
         cases e101
         replace p101 := eq_true p101
         replace q101 := eq_true q101
         have p102 : 0 ≤ (x13_1 : Int) := of_decide_eq_true (by first | (with_reducible assumption) | assumption)
         have q102 : x13_1 < (l1.length : Int) := of_decide_eq_true (by first | (with_reducible assumption) | assumption)
         obtain ⟨ad102, e102, hx102_0⟩ := Kd.at_int HR1.out x13_1 p102 q102
         cases e102
         replace p102 := eq_true p102
         replace q102 := eq_true q102
         go_wp2
         repeat (go_quiet (fail); try go_wp2)
         go_ret
         exact ⟨by first | rfl | (simp; done) | (simp [*]; done), by repeat (first | exact Drawn0.refl _ | apply Drawn0.step)⟩
       ·rw [if_neg c7] at H
        exact absurd H (by simp)
      ·rw [if_neg c6] at H
       exact absurd H (by simp)
     ·rw [if_neg c5] at H
      exact absurd H (by simp)
    ·rw [if_neg c4] at H
     have c4b0 : decide (x13_1 < (l0.length : Int)) = false := decide_eq_false c4
     clear c4
     obtain rfl := Option.some.inj H
     go_wp2
     repeat (go_quiet (fail); try go_wp2)
     go_ret
     exact ⟨by first | rfl | (simp; done) | (simp [*]; done), by repeat (first | exact Drawn0.refl _ | apply Drawn0.step)⟩
 ·rw [if_neg c3] at H
  have c3b0 : ((l0.length : Int) == (l1.length : Int)) = false := beq_eq_false_iff_ne.mpr c3
  have c3b1 : ((l0.length : Int) != (l1.length : Int)) = true := bne_iff_ne.mpr c3
  have c3b2 : (l0.length == l1.length) = false := by first | simpa using c3 | (simp at c3 ⊢; omega)
  obtain rfl := Option.some.inj H
  go_enter Try.func16, Try.ntmps16
  go_wp2
  repeat (go_quiet (fail); try go_wp2)
  go_ret
  exact ⟨by first | rfl | (simp; done) | (simp [*]; done), by repeat (first | exact Drawn0.refl _ | apply Drawn0.step)⟩
end Go.Proofs.Ytohhobcipfmkbaa.PClusterFinest
end
section
namespace Go.Proofs.Ytohhobcipfmkbaa.CFin
open Go.RowKit Go.Maps Go.Proofs.YtohhobcipfmkbaaW.PrintWords Go.Proofs.YtohhobcipfmkbaaW.PrintMore Go.Proofs.YtohhobcipfmkbaaW.PrintLast Go.Proofs.Ytohhobcipfmkbaa.U Go.Proofs.Ytohhobcipfmkbaa.PClusterFinest Go.Proofs.Ytohhobcipfmkbaa.UFinest Go.Proofs.Ytohhobcipfmkbaa.UFinEv
def MO (w : World) (b n : Nat) (l : List Nat) : Prop := ∃ D : DataW Unit, IsMap D ∧ w.ownsMap Try.prog 3 (plainElem Try.prog 3) b n D ∧ (∀ v : Nat, has D (.int .i64 v) = decide (v ∈ l)) ∧ ∀ v : Nat, v ∈ l → D.atKey (.int .i64 v) (.lit (.int .i64 0)) = .lit (.int .i64 (l.idxOf v : Nat))
theorem MO.made (w : World) : MO (w.alloc (.map #[] 0)) w.heap.size 0 [] := ⟨.map [], isMap_empty, World.ownsMap_made w _ _ _, fun v => rfl, fun v h => by cases h⟩
theorem MO.kept {w w' : World} {b n : Nat} {l : List Nat} (h : MO w b n l) {row : Option Nat} (hg : w.grownBy w' row) (hne : some b ≠ row) : MO w' b n l := by
 obtain ⟨D, h1, h2, h3⟩ := h
 exact ⟨D, h1, h2.kept hg hne, h3⟩
theorem MO.mono {w : World} {b n n' : Nat} {l : List Nat} (h : MO w b n l) (hn : n ≤ n') : MO w b n' l := by
 obtain ⟨D, h1, h2, h3⟩ := h
 exact ⟨D, h1, h2.mono hn, h3⟩
theorem MO.lt {w : World} {b n : Nat} {l : List Nat} (h : MO w b n l) : b < w.heap.size := by
 obtain ⟨D, h1, h2, h3⟩ := h
 exact h2.lt
set_option maxRecDepth 100000 in
theorem MO.lookup {w : World} {b n : Nat} {l : List Nat} (h : MO w b n l) (v : Nat) (hv : v ≤ 1000000) (hl : v ∈ l) : (Instr.lookup 112 (.map (some b)) (.int .i64 v) false).run Try.prog w = .ok (.int .i64 (l.idxOf v : Nat)) w := by
 obtain ⟨D, h1, h2, h3, h4⟩ := h
 obtain ⟨c, hr, hc, _⟩ := h2.lookup_int keyed3 Try.underlying112 Try.underlying3 (zero3 w) (key3 v hv)
 rw [h4 v hl] at hc
 injection hc with hc
 injection hc with _ hc
 rw [hc]
 exact hr
set_option maxRecDepth 100000 in
theorem MO.look {w : World} {b n : Nat} {l : List Nat} (h : MO w b n l) (v : Nat) (hv : v ≤ 1000000) : (Instr.lookup 112 (.map (some b)) (.int .i64 v) true).run Try.prog w = .ok (.tuple #[.int .i64 (if v ∈ l then l.idxOf v else 0 : Nat), .bool (decide (v ∈ l))]) w := by
 obtain ⟨D, h1, h2, h3, h4⟩ := h
 obtain ⟨es, clock, hb, F, _, rfl⟩ := h2
 rcases Maps.fit_look true keyed3 Try.underlying112 (zero3 w) hb F (key3 v hv) with ⟨hrun, _, hat⟩ | ⟨e0, y, _, _, hrun, hRv, hat, _⟩
 ·have hf := has_false_of_atKey hat
  rw [h3 v, decide_eq_false_iff_not] at hf
  rw [if_neg hf, decide_eq_false hf]
  exact hrun
 ·have hf := has_true_of_atKey hat
  rw [h3 v, decide_eq_true_eq] at hf
  rw [if_pos hf, decide_eq_true hf]
  obtain ⟨a, ha, rfl, _⟩ := plainElem_int_inv Try.underlying3 hRv
  have := (h4 v hf).symm.trans (hat _)
  injection this with hc
  injection hc with _ hc
  rw [hc, ← ha]
  exact hrun
theorem MO.put {w' : World} {b n v : Nat} {l : List Nat} {D : DataW Unit} (h1 : IsMap D) (h3 : ∀ v : Nat, has D (.int .i64 v) = decide (v ∈ l)) (h4 : ∀ v : Nat, v ∈ l → D.atKey (.int .i64 v) (.lit (.int .i64 0)) = .lit (.int .i64 (l.idxOf v : Nat))) (hv : v ≤ 1000000) (hl : v ∉ l) (h2 : w'.ownsMap Try.prog 3 (plainElem Try.prog 3) b (n + 1) (D.put (.int .i64 v) (.lit (.int .i64 (l.length : Nat))))) : MO w' b (n + 1) (l ++ [v]) := by
 have hk := keyed3.key (key3 v hv)
 refine ⟨_, h1.put _ _, h2, fun x => ?_, fun x hx => ?_⟩
 ·by_cases e : x = v
  ·subst e
   rw [has_put_same h1 hk, decide_eq_true (by simp)]
  ·rw [has_put_other (fun h => e (by injection h with _ h; omega)), h3]
   simp [e]
 ·by_cases e : x = v
  ·subst e
   rw [atKey_put_same h1 hk, List.idxOf_append, if_neg hl]
   simp
  ·have hx' : x ∈ l := by simpa [e] using hx
   rw [atKey_put_other (fun h => e (by injection h with _ h; omega)), h4 x hx', List.idxOf_append, if_pos hx']
def fld (x : S45) : Nat → Int
 | 0 => x.f0.f0
 | 1 => x.f0.f1
 | 2 => x.f1.f0
 | _ => x.f1.f1
def setF (x : S45) (j : Nat) (u : Int) : S45 :=
 match j with
 | 0 => ⟨⟨u, x.f0.f1⟩, x.f1⟩
 | 1 => ⟨⟨x.f0.f0, u⟩, x.f1⟩
 | 2 => ⟨x.f0, ⟨u, x.f1.f1⟩⟩
 | _ => ⟨x.f0, ⟨x.f1.f0, u⟩⟩
def RC (w : World) (base q cap : Nat) (xs : List S45) : Prop := Kd.R k45 45 w base (fun k => k = q) (.slice (some ⟨q, 0, none⟩) xs.length cap) xs
theorem RC.cell {w : World} {base q cap : Nat} {xs : List S45} (h : RC w base q cap xs) (i : Nat) (hi : i < xs.length) (j : Nat) (hj : j < 4) : w.cell? ⟨q, i * 4 + j, none⟩ = some (.int .i64 (fld xs[i] j)) ∧ w.frozen? ⟨q, i * 4 + j, none⟩ = false := by
 obtain ⟨c, _, hM, hc, hf⟩ := Kd.R_elem h z45 (i : Int) (by omega) (by omega)
 rw [Int.toNat_natCast, List.getD_eq_getElem?_getD, List.getElem?_eq_getElem hi] at hM
 obtain rfl := k45_openM hM
 rw [Int.toNat_natCast] at hc hf
 refine ⟨?_, hf j⟩
 match j, hj with
 | 0, _ => exact hc 0 _ rfl
 | 1, _ => exact hc 1 _ rfl
 | 2, _ => exact hc 2 _ rfl
 | 3, _ => exact hc 3 _ rfl
theorem RC.put {w : World} {base q cap : Nat} {xs : List S45} (h : RC w base q cap xs) (i : Nat) (hi : i < xs.length) (j : Nat) (hj : j < 4) (u : Int) : RC (w.setCell ⟨q, i * 4 + j, none⟩ (.int .i64 u)) base q cap (xs.set i (setF xs[i] j u)) := by
 obtain ⟨c, hl, hM, hc, hf⟩ := Kd.R_elem h z45 (i : Int) (by omega) (by omega)
 rw [Int.toNat_natCast, List.getD_eq_getElem?_getD, List.getElem?_eq_getElem hi] at hM
 obtain rfl := k45_openM hM
 unfold RC
 rw [List.length_set]
 have := (Kd.R_seg h (i : Int) (by omega) (by omega) (c := _) (seg := [.int .i64 u]) (j := j) (x' := setF xs[i] j u) (okp := fun _ => False) hl hc (by show j + 1 ≤ 4; omega) (by
  match j, hj with
  | 0, _ => exact k45_mkM _ _ _ _
  | 1, _ => exact k45_mkM _ _ _ _
  | 2, _ => exact k45_mkM _ _ _ _
  | 3, _ => exact k45_mkM _ _ _ _) (fun _ h => h.elim)).1
 rw [Int.toNat_natCast] at this
 exact this
theorem RC.grown {w w' : World} {base q cap : Nat} {xs : List S45} (h : RC w base q cap xs) {row : Option Nat} (hg : w.grownBy w' row) (hne : some q ≠ row) : RC w' base q cap xs := Kd.R_grown h hg (fun k hk => by rw [hk]; exact hne)
theorem RC.lt {w : World} {base q cap : Nat} {xs : List S45} (h : RC w base q cap xs) (hp : 0 < xs.length) : base ≤ q ∧ q < w.heap.size := by
 obtain ⟨g, cap', e, h1, h2, _⟩ := Kd.R_form h hp
 injection e with e1 _ _
 injection e1 with e1
 injection e1 with e1
 subst e1
 exact ⟨h1, h2⟩
end Go.Proofs.Ytohhobcipfmkbaa.CFin
end
section
namespace Go.Proofs.Ytohhobcipfmkbaa.CFin
open Go.RowKit Go.Maps Go.Proofs.YtohhobcipfmkbaaW.PrintWords Go.Proofs.YtohhobcipfmkbaaW.PrintMore Go.Proofs.YtohhobcipfmkbaaW.PrintLast Go.Proofs.Ytohhobcipfmkbaa.U Go.Proofs.Ytohhobcipfmkbaa.PClusterFinest Go.Proofs.Ytohhobcipfmkbaa.UFinest Go.Proofs.Ytohhobcipfmkbaa.UFinEv
theorem grown_row {w a b : World} {g : Nat} {row : Option Nat} (h1 : w.grownBy a (some g)) (h2 : a.grownBy b row) (hr : ∀ k, row = some k → w.heap.size ≤ k) : w.grownBy b (some g) :=
 ⟨h2.os.trans h1.os, h2.tape.trans h1.tape, h2.output.trans h1.output, Nat.le_trans h1.size h2.size, fun k hk hne => (h2.block k (Nat.lt_of_lt_of_le hk h1.size) (fun e => by have := hr k e.symm; omega)).trans (h1.block k hk hne)⟩
attribute [local go_sem] max2_int min2_int max_two min_two
theorem step_there {r : Lab} {m k x ix : Nat} {xs : List S45} (hx : x = r k) (hth : x ∈ firsts r k) (hxs : xs = (firsts r k).map (toS ∘ clu1 r m k)) (hix : ix = (firsts r k).idxOf x) (hl : ix < xs.length) : (firsts r (k + 1)).map (toS ∘ clu1 r m (k + 1)) = xs.set ix (setF xs[ix] 1 ((k : Int) + 1)) := by
 subst hx
 rw [← List.map_map, clu1_there hth, List.map_set, List.map_map, ← hxs, ← hix]
 congr 1
 have : xs[ix] = toS (clu1 r m k (r k)) := by
  subst hxs hix
  rw [List.getElem_map, List.getElem_idxOf]; rfl
 rw [this]
 rfl
theorem step_new {r : Lab} {m k x : Nat} {xs : List S45} (hx : x = r k) (hth : x ∉ firsts r k) (hxs : xs = (firsts r k).map (toS ∘ clu1 r m k)) (y : S45) (hy : y = ⟨⟨k, 0⟩, ⟨m, 0⟩⟩) (hl : xs.length < (xs ++ [y]).length) : (firsts r (k + 1)).map (toS ∘ clu1 r m (k + 1)) = (xs ++ [y]).set xs.length (setF (xs ++ [y])[xs.length] 1 ((k : Int) + 1)) := by
 subst hx hy
 rw [← List.map_map, clu1_new hth, List.map_append, List.map_map, ← hxs, List.getElem_concat_length rfl, List.set_append_right _ _ (Nat.le_refl _), Nat.sub_self]
 rfl
theorem RC.put2 {w : World} {base q cap : Nat} {xs : List S45} (h : RC w base q cap xs) (i : Nat) (hi : i < xs.length) (u v : Int) : RC ((w.setCell ⟨q, i * 4 + 2, none⟩ (.int .i64 u)).setCell ⟨q, i * 4 + 2 + 1, none⟩ (.int .i64 v)) base q cap (xs.set i ⟨xs[i].f0, ⟨u, v⟩⟩) := by
 have h1 := h.put i hi 2 (by omega) u
 have h2 := h1.put i (by rw [List.length_set]; exact hi) 3 (by omega) v
 rw [List.set_set, List.getElem_set_self] at h2
 exact h2
theorem step_out {r : Lab} {n m t i x ix o1 : Nat} {xs : List S45} (ht : t < m) (hi : i = n + t) (hx : x = r i) (hth : x ∈ firsts r n) (hxs : xs = (firsts r n).map (toS ∘ clu2 r n m t)) (hix : ix = (firsts r n).idxOf x) (ho : o1 = (out2 r n m x t).1) (hl : ix < xs.length) (o2 : Int) (h2 : o2 = ((min o1 t : Nat) : Int)) : (firsts r n).map (toS ∘ clu2 r n m (t + 1)) = xs.set ix ⟨xs[ix].f0, ⟨o2, (t : Int) + 1⟩⟩ := by
 subst hi hx h2 ho
 rw [← List.map_map, clu2_step ht hth, List.map_set, List.map_map, ← hxs, ← hix]
 congr 1
 have : xs[ix] = toS (clu2 r n m t (r (n + t))) := by
  subst hxs hix
  rw [List.getElem_map, List.getElem_idxOf]; rfl
 rw [this]
 rfl
set_option maxRecDepth 100000 in
set_option maxHeartbeats 1000000 in
theorem clusters_c {w : World} {base B g n m N cap : Nat} {p : List Int} {r : Lab} (hW : WV w B g n m N cap) (h : LI w base g N cap p) (hne : B ≠ g) (hp : PF N r p) (ho : LabOk N r) (hN : N ≤ 1000) (hnm : n + m = N) (hn : 0 < n)
 (hb : Between (fun x y => r x = r y) 0 n) (hout : ∀ j, j < n → ∃ i, i < m ∧ r (n + i) = r j) (hin : ∀ i, i < m → ∃ j, j < n ∧ r j = r (n + i)) :
 Calls Try.prog 63 #[.pointer (some ⟨B, 0, none⟩)] w fun e w' => ∃ u, e = .returned u ∧ Kd.R k45 45 w' w.heap.size (fun _ => True) u (cluS n m r n) ∧ w.grownBy w' (some g) := by
 have HW := Aside0.mk hW
 have HV := Aside0.mk h
 have HP := Aside0.mk hp
 have HO := Aside0.mk ho
 have HBT := Aside0.mk hb
 have HOUT := Aside0.mk hout
 have HIN := Aside0.mk hin
 have hgw := h.ltw
 have hBw := blk_lt hW
 have d1 := (World.grownBy_alloc w (.map #[] 0) none).cell (hW.c1) (by simp)
 have hmm := @run_makeMap Try.prog
 have HW5 := Aside0.mk (hW.below (below_alloc (Below.refl _ _) (.map #[] 0)))
 have HV5 := Aside0.mk (h.below (below_alloc (Below.refl _ _) (.map #[] 0)))
 have HM5 := Aside0.mk (MO.made w)
 have HG5 : Aside0 (w.grownBy (w.alloc (.map #[] 0)) (some g)) := ⟨World.grownBy_alloc _ _ _⟩
 clear hW h hp ho hb hout hin
 go_enter Try.func63, Try.ntmps63
 go_wp2
 obtain ⟨gm, hgm⟩ : ∃ gm, gm = w.heap.size := ⟨_, rfl⟩
 have HGM := Aside0.mk hgm
 have HNG : Aside0 (gm ≠ g) := ⟨by omega⟩
 have HNB : Aside0 (B ≠ gm) := ⟨by omega⟩
 have HM5 : Aside0 (MO (w.alloc (.map #[] 0)) gm 0 []) := ⟨by rw [hgm]; exact HM5.out⟩
 have HGW := Aside0.mk hgw
 have HBW := Aside0.mk hBw
 rw [← hgm]
 clear hgm hmm hgw hBw
 go_loopw [3, 16] (fun v3 v wr => ∃ (k : Nat) (p : List Int), v = .int .i64 (k : Int) ∧ k ≤ n ∧ Aside0 (WV wr B g n m N cap) ∧ Aside0 (LI wr base g N cap p) ∧ Aside0 (PF N r p) ∧ Aside0 (MO wr gm k (firsts r k)) ∧ Aside0 (Kd.R k45 45 wr w.heap.size (fun q => q ≠ g ∧ q ≠ gm) v3 ((firsts r k).map (toS ∘ clu1 r m k))) ∧ Aside0 (w.grownBy wr (some g))) (fun _ v _ => n - (intOf v).toNat)
 case atStart => exact ⟨0, p, rfl, Nat.zero_le _, HW5, HV5, HP, HM5, ⟨Kd.R_nil _ _ _ _ _⟩, HG5⟩
 case round =>
  clear HW5 HV5 HP HM5 HG5 d1
  obtain ⟨k, p, rfl, hk, HW, HV, HP, HM, HR, HG⟩ := hrel
  have d0 := HW.out.c0
  have d2 := HW.out.c2
  obtain ⟨A, c, rfl⟩ := Kd.R_slice HR.out
  by_cases hlt : k < n
  ·have hkI : (k : Int) < (n : Int) := by omega
   have hkN : k < N := by omega
   obtain ⟨x, hx⟩ : ∃ x, x = r k := ⟨_, rfl⟩
   have HXE := Aside0.mk hx
   have hxN : x < N := by have := HO.out.le k hkN; omega
   obtain ⟨xs, hxs⟩ : ∃ xs, xs = (firsts r k).map (toS ∘ clu1 r m k) := ⟨_, rfl⟩
   have hlen : xs.length = (firsts r k).length := by rw [hxs, List.length_map]
   have hlk := firsts_len r k
   rw [← hxs] at HR ⊢
   have HXS := Aside0.mk hxs
   have HLEN := Aside0.mk hlen
   obtain ⟨ln, hln⟩ : ∃ ln, ln = xs.length := ⟨_, rfl⟩
   have e1 : IntKind.i64.wrap ((k : Int) + 1) = ((k + 1 : Nat) : Int) := by rw [IntWalk.i64_in _ (by omega)]; omega
   have hlnN : ln ≤ k := by omega
   have HLK := Aside0.mk hlk
   have HLN := Aside0.mk hln
   rw [← hln] at HR ⊢
   clear hx hlen hlk hxs hln
   by_cases hth : x ∈ firsts r k
   ·obtain ⟨ix, hix⟩ : ∃ ix, ix = (firsts r k).idxOf x := ⟨_, rfl⟩
    have hixl : ix < ln := by rw [HLN.out, HLEN.out, hix]; exact List.idxOf_lt_length_of_mem hth
    have HIX := Aside0.mk hix
    have HTH := Aside0.mk hth
    have hixI : (ix : Int) < (ln : Int) := by omega
    obtain ⟨q, cp, ev, hq1, hq2, _⟩ := Kd.R_form HR.out (by rw [← HLN.out]; omega)
    rw [← HLN.out] at ev
    have HEV := Aside0.mk ev
    injection ev with ev1 ev2 ev3
    clear ev2
    subst ev1 ev3
    have HRC : Aside0 (RC wr w.heap.size q c xs) := ⟨by
     have := HR.out
     rw [HLN.out] at this
     exact Kd.R_mono (Kd.R_tight rfl this) (fun j hj => (Option.some.inj (by simpa [Value.ownBlock] using hj)))⟩
    have HQG : Aside0 (q ≠ g ∧ q ≠ gm) := ⟨HR.out.1 q (by simp [Value.ownBlock])⟩
    have HQ1 := Aside0.mk hq1
    clear hix hth hq1 hq2 HR
    go_wp2_with (first | (go_at_call 86; refine (find_c HV.out HP.out (by omega) k hkN).mono ?_; rintro e w6 ⟨p1, rfl, a1, a2, a3⟩; rw [← HXE.out]; have HV6 := Aside0.mk a1; have HP6 := Aside0.mk a2; have HG6 : Aside0 (wr.grownBy w6 (some g)) := ⟨a3⟩; have hlk := (HM.out.kept a3 (fun e => HNG.out (Option.some.inj e))).look x (by omega); rw [if_pos HTH.out, decide_eq_true HTH.out, ← HIX.out] at hlk; have HRC6 : Aside0 (RC w6 w.heap.size q c xs) := ⟨HRC.out.grown a3 (fun e => HQG.out.1 (Option.some.inj e))⟩; obtain ⟨c1, f1⟩ := HRC6.out.cell ix (by rw [← HLN.out]; exact hixl) 1 (by omega); have HW6 := Aside0.mk (HW.out.grown a3 hne); clear a1 a2 a3 HV HP))
    have hixl' : ix < xs.length := by rw [← HLN.out]; exact hixl
    have HRC7 := Aside0.mk (HRC6.out.put ix hixl' 1 (by omega) ((k : Int) + 1))
    have HG7 : Aside0 (w6.grownBy (w6.setCell ⟨q, ix * 4 + 1, none⟩ (.int .i64 ((k : Int) + 1))) (some q)) := ⟨grown_set _ _ _ _⟩
    have hst := step_there (m := m) HXE.out HTH.out HXS.out HIX.out hixl'
    have hfs : firsts r (k + 1) = firsts r k := by rw [firsts, if_pos (by rw [← HXE.out]; exact HTH.out)]
    refine ⟨⟨k + 1, p1, by go_num, by omega, ⟨HW6.out.grown HG7.out ?_⟩, ⟨HV6.out.grown HG7.out HQG.out.1.symm⟩, HP6, ⟨?_⟩, ⟨?_⟩, ⟨grown_row (World.grownBy.trans HG.out HG6.out) HG7.out (fun j hj => by have := Option.some.inj hj; have := HQ1.out; omega)⟩⟩, by simp [intOf]; omega⟩
    ·have := HQ1.out; have := HBW.out; omega
    ·rw [hfs]
     exact ((HM.out.kept HG6.out (fun e => HNG.out (Option.some.inj e))).kept HG7.out (fun e => HQG.out.2 (Option.some.inj e).symm)).mono (by omega)
    ·rw [hst]
     have := HRC7.out
     unfold RC at this
     rw [List.length_set, ← HLN.out] at this
     exact Kd.R_mono this (fun j hj => by rw [hj]; exact HQG.out)
   ·have HTH := Aside0.mk hth
    clear hth
    have y0 : S45 := ⟨⟨k, 0⟩, ⟨m, 0⟩⟩
    go_wp2_with (first | (go_at_call 86; refine (find_c HV.out HP.out (by omega) k hkN).mono ?_; rintro e w6 ⟨p1, rfl, a1, a2, a3⟩; rw [← HXE.out]; have HV6 := Aside0.mk a1; have HP6 := Aside0.mk a2; have HG6 : Aside0 (wr.grownBy w6 (some g)) := ⟨a3⟩; have hlk := (HM.out.kept a3 (fun e => HNG.out (Option.some.inj e))).look x (by omega); rw [if_neg HTH.out, decide_eq_false HTH.out] at hlk; have HW6 := Aside0.mk (HW.out.grown a3 hne); clear a1 a2 a3 HV HP) | (at_mapUpdate; obtain ⟨D, m1, m2, m3, m4⟩ := HM.out; refine wpList_mapUpdate_own _ rfl _ _ _ 112 rfl 3 3 keyed3 Try.underlying112 (plainElem Try.prog 3) gm k D rfl (m2.kept HG6.out (by intro e; exact HNG.out (Option.some.inj e))) (by unfold maxLen; omega) _ _ (.int .i64 x) rfl rfl (key3 x (by omega)) _ [] (elem3 ln (by omega)) ?_; intro w7 m5 m6; have HM7 : Aside0 (MO w7 gm (k + 1) (firsts r k ++ [x])) := ⟨MO.put m1 m3 m4 (by omega) HTH.out (by rw [HLN.out, HLEN.out] at m5; exact m5)⟩; have HG7 : Aside0 (w6.grownBy w7 (some gm)) := ⟨m6⟩; have HR7 : Aside0 (Kd.R k45 45 w7 w.heap.size (fun q => q ≠ g ∧ q ≠ gm) (.slice A ln c) xs) := ⟨Kd.R_grown (Kd.R_grown HR.out HG6.out (fun j hj e => hj.1 (Option.some.inj e))) m6 (fun j hj e => hj.2 (Option.some.inj e))⟩; have HW7 := Aside0.mk (HW6.out.grown m6 HNB.out); have d27 := HW7.out.c2; clear m1 m2 m3 m4 m5 m6 HM HR) | ((with_reducible refine gate_builtin (b := .append) (xs := #[.tmp 38, .tmp 47]) rfl ?_); at_builtin; refine Kd.R_append k45 (w0 := w7) w.heap.size rfl (.tmp 38) (.tmp 47) 40 45 (.agg #[(.int .i64 0), (.int .i64 0), (.int .i64 0), (.int .i64 0)]) 32 rfl Try.underlying40 info45 rfl (by decide) (by omega) _ xs (⟨⟨(k : Int), 0⟩, ⟨(m : Int), 0⟩⟩ : S45) [.int .i64 k, .int .i64 0, .int .i64 m, .int .i64 0] (fun q => q ≠ g ∧ q ≠ gm) (fun _ => False) rfl (by first | (go_simp; done) | (go_simp; rfl)) (k45_mkM _ _ _ (⟨⟨(k : Int), 0⟩, ⟨(m : Int), 0⟩⟩ : S45)) (fun _ h => h.elim) (fun q hq => ⟨fun e => by have := HGW.out; have := (World.grownBy.trans HG.out HG6.out).size; have := HG7.out.size; omega, fun e => by have := HM7.out.lt; omega⟩) HR7.out (Below.refl _ _) (Nat.le_trans (World.grownBy.trans HG.out HG6.out).size HG7.out.size) (by have := HLN.out; omega) ?_; intro v8 w8 hv hb hg hat; obtain ⟨q, cp, rfl, hq1, hq2, _⟩ := Kd.R_form hv (by simp); have HQG : Aside0 (q ≠ g ∧ q ≠ gm) := ⟨hv.1 q (by simp [Value.ownBlock])⟩; have HRC : Aside0 (RC w8 w.heap.size q cp (xs ++ [(⟨⟨(k : Int), 0⟩, ⟨(m : Int), 0⟩⟩ : S45)])) := ⟨Kd.R_mono (Kd.R_tight rfl hv) (fun j hj => (Option.some.inj (by simpa [Value.ownBlock] using hj)))⟩; have hll : xs.length < (xs ++ [(⟨⟨(k : Int), 0⟩, ⟨(m : Int), 0⟩⟩ : S45)]).length := (by simp); obtain ⟨zz, c1, f1⟩ : ∃ z, w8.cell? ⟨q, ln * 4 + 1, none⟩ = some (.int .i64 z) ∧ w8.frozen? ⟨q, ln * 4 + 1, none⟩ = false := ⟨_, by rw [HLN.out]; exact HRC.out.cell xs.length hll 1 (by omega)⟩; have HQ1 := Aside0.mk hq1; have hsl : (xs ++ [(⟨⟨(k : Int), 0⟩, ⟨(m : Int), 0⟩⟩ : S45)]).length = ln + 1 := (by rw [HLN.out]; simp); rw [hsl]; have HG8 : Aside0 (w7.grownBy w8 (Value.slice A ln c).ownBlock) := ⟨hg⟩; have HRL : Aside0 (∀ j, (Value.slice A ln c).ownBlock = some j → w.heap.size ≤ j ∧ j ≠ g ∧ j ≠ gm) := ⟨fun j hj => ⟨Kd.R_base HR7.out j hj, HR7.out.1 j hj⟩⟩; have hlnI : (ln : Int) < ((ln + 1 : Nat) : Int) := (by omega); clear hv hb hg hat hll hq1 hq2 hsl HR7))
    have hll : xs.length < (xs ++ [(⟨⟨(k : Int), 0⟩, ⟨(m : Int), 0⟩⟩ : S45)]).length := by simp
    have HRC9 : Aside0 (RC (w8.setCell ⟨q, ln * 4 + 1, none⟩ (.int .i64 ((k : Int) + 1))) w.heap.size q cp ((xs ++ [(⟨⟨(k : Int), 0⟩, ⟨(m : Int), 0⟩⟩ : S45)]).set xs.length (setF (xs ++ [(⟨⟨(k : Int), 0⟩, ⟨(m : Int), 0⟩⟩ : S45)])[xs.length] 1 ((k : Int) + 1)))) := ⟨by rw [HLN.out]; exact HRC.out.put xs.length hll 1 (by omega) ((k : Int) + 1)⟩
    have HG9 : Aside0 (w8.grownBy (w8.setCell ⟨q, ln * 4 + 1, none⟩ (.int .i64 ((k : Int) + 1))) (some q)) := ⟨grown_set _ _ _ _⟩
    have hst := step_new (m := m) HXE.out HTH.out HXS.out _ rfl hll
    have hfs : firsts r (k + 1) = firsts r k ++ [x] := by rw [firsts, if_neg (by rw [← HXE.out]; exact HTH.out), HXE.out]
    refine ⟨⟨k + 1, p1, by go_num, by omega, ⟨?_⟩, ⟨?_⟩, HP6, ⟨?_⟩, ⟨?_⟩, ⟨?_⟩⟩, by simp [intOf]; omega⟩
    ·have h8 : WV w8 B g n m N cap := (HG8.out.block _ (blk_lt HW7.out) (fun e => by have := (HRL.out B e.symm).1; have := HBW.out; omega)).trans HW7.out
     exact h8.grown HG9.out (by have := HQ1.out; have := HBW.out; omega)
    ·have h8 : LI w8 base g N cap p1 := Kd.R_grown (Kd.R_grown HV6.out HG7.out (fun j hj e => HNG.out ((Option.some.inj e).symm.trans hj))) HG8.out (fun j hj e => (HRL.out j e.symm).2.1 hj)
     exact h8.grown HG9.out HQG.out.1.symm
    ·rw [hfs]
     exact (HM7.out.kept HG8.out (fun e => (HRL.out gm e.symm).2.2 rfl)).kept HG9.out (fun e => HQG.out.2 (Option.some.inj e).symm)
    ·rw [hst]
     have hl2 : ((xs ++ [(⟨⟨(k : Int), 0⟩, ⟨(m : Int), 0⟩⟩ : S45)]).set xs.length (setF (xs ++ [(⟨⟨(k : Int), 0⟩, ⟨(m : Int), 0⟩⟩ : S45)])[xs.length] 1 ((k : Int) + 1))).length = ln + 1 := by rw [HLN.out]; simp
     rw [← hl2]
     exact Kd.R_mono HRC9.out (fun j hj => by rw [hj]; exact HQG.out)
    ·exact grown_row (grown_row (grown_row (World.grownBy.trans HG.out HG6.out) HG7.out (fun j hj => by have := Option.some.inj hj; have := HGM.out; omega)) HG8.out (fun j hj => (HRL.out j hj).1)) HG9.out (fun j hj => by have := Option.some.inj hj; have := HQ1.out; omega)
  ·have ek : k = n := by omega
   subst ek
   have HR2 : Aside0 (Kd.R k45 45 wr w.heap.size (fun q => q ≠ g ∧ q ≠ gm) (.slice A (List.map (toS ∘ clu1 r m k) (firsts r k)).length c) ((firsts r k).map (toS ∘ clu2 r k m 0))) := ⟨by have := HR.out; rwa [show (firsts r k).map (toS ∘ clu1 r m k) = (firsts r k).map (toS ∘ clu2 r k m 0) by rw [← List.map_map, clu2_start, List.map_map]] at this⟩
   rw [List.length_map] at HR2 ⊢
   obtain ⟨ln, hln⟩ : ∃ ln, ln = (firsts r k).length := ⟨_, rfl⟩
   rw [← hln] at HR2 ⊢
   have HLN := Aside0.mk hln
   clear hln HR
   have HSG : Aside0 (∀ j, (Value.slice A ln c).ownBlock = some j → w.heap.size ≤ j ∧ j ≠ g ∧ j ≠ gm) := ⟨fun j hj => ⟨Kd.R_base HR2.out j hj, HR2.out.1 j hj⟩⟩
   go_wp2_with fail
   go_loopw [61] (fun v wr => ∃ (t : Nat) (p : List Int), v = .int .i64 (t : Int) ∧ t ≤ m ∧ Aside0 (WV wr B g k m N cap) ∧ Aside0 (LI wr base g N cap p) ∧ Aside0 (PF N r p) ∧ Aside0 (MO wr gm k (firsts r k)) ∧ Aside0 (Kd.R k45 45 wr w.heap.size (fun q => q ≠ g ∧ q ≠ gm) (.slice A ln c) ((firsts r k).map (toS ∘ clu2 r k m t))) ∧ Aside0 (w.grownBy wr (some g))) (fun v _ => m - (intOf v).toNat)
   case atStart => exact ⟨0, p, rfl, Nat.zero_le _, HW, HV, HP, HM, HR2, HG⟩
   case round =>
    clear HW HV HP HM HR2 HG d0 d2 hlt
    obtain ⟨t, p, rfl, ht, HW, HV, HP, HM, HR, HG⟩ := hrel
    have d0 := HW.out.c0
    have d1 := HW.out.c1
    by_cases hlt : t < m
    ·have htI : (t : Int) < (m : Int) := by omega
     obtain ⟨i, hi⟩ : ∃ i, i = k + t := ⟨_, rfl⟩
     have hiN : i < N := by omega
     have e2 : IntKind.i64.wrap ((k : Int) + (t : Int)) = (i : Int) := by rw [IntWalk.i64_in _ (by omega)]; omega
     have HI := Aside0.mk hi
     obtain ⟨x, hx⟩ : ∃ x, x = r i := ⟨_, rfl⟩
     have hxN : x < N := by have := HO.out.le i hiN; omega
     have HX := Aside0.mk hx
     have hth : x ∈ firsts r k := by
      obtain ⟨j, hj, e⟩ := HIN.out t hlt
      exact (mem_firsts r k x).2 ⟨j, hj, by rw [hx, hi]; exact e⟩
     obtain ⟨ix, hix⟩ : ∃ ix, ix = (firsts r k).idxOf x := ⟨_, rfl⟩
     have hixl : ix < ln := by rw [HLN.out, hix]; exact List.idxOf_lt_length_of_mem hth
     have HIX := Aside0.mk hix
     have HTH := Aside0.mk hth
     have hixI : (ix : Int) < (ln : Int) := by omega
     clear hi hx hth hix
     have HVd : Aside0 (LI wr.drew base g N cap p) := ⟨Kd.R_drew HV.out⟩
     obtain ⟨q, cp, ev, hq1, hq2, _⟩ := Kd.R_form HR.out (by rw [List.length_map, ← HLN.out]; omega)
     injection ev with ev1 ev2 ev3
     clear ev2
     subst ev1 ev3
     have HQG : Aside0 (q ≠ g ∧ q ≠ gm) := ⟨HR.out.1 q (by simp [Value.ownBlock])⟩
     have HQ1 := Aside0.mk hq1
     clear hq1 hq2
     go_wp2_with fail
     refine start_ (n := 16) (S := (fun W => W.cell? ⟨B, 0, none⟩ = some (.slice (some ⟨g, 0, none⟩) N cap) ∧ W.cell? ⟨B, 1, none⟩ = some (.int .i64 k))) (ds := [12, 13]) #[false, false, false, false, false, false, false, false, false, false, false, false, false, false, false, false] (by kernel_rfl) (by kernel_rfl) (by rfl) (⟨d0, d1⟩) (fun hS0 => ?_)
     refine pure_ (i := 0) (N := (some 64)) (v := ?_) (a' := ?_) #[true, false, false, false, false, false, false, false, false, false, false, false, false, false, false, false] rfl rfl (by kernel_rfl) (fun _ _ _ h => h) (Or.inl ⟨by rfl, ?_⟩) ?_ ?_
     rotate_left
     ·intro w'
      go_simp
      with_reducible rfl
     rotate_left
     ·simp only [Act.put, List.setIfInBounds_toArray, List.set_cons_zero, List.set_cons_succ]
      rfl
     refine pure_ (i := 1) (N := (some 65)) (v := ?_) (a' := ?_) #[true, true, false, false, false, false, false, false, false, false, false, false, false, false, false, false] rfl rfl (by kernel_rfl) (fun _ _ _ h => h) (Or.inl ⟨by rfl, ?_⟩) ?_ ?_
     rotate_left
     ·intro w'
      go_simp
      with_reducible rfl
     rotate_left
     ·simp only [Act.put, List.setIfInBounds_toArray, List.set_cons_zero, List.set_cons_succ]
      rfl
     refine pure_ (i := 2) (N := (some 66)) (v := ?_) (a' := ?_) #[true, true, true, false, false, false, false, false, false, false, false, false, false, false, false, false] rfl rfl (by kernel_rfl) (fun _ _ _ h => h) (Or.inl ⟨by rfl, ?_⟩) ?_ ?_
     rotate_left
     ·intro w'
      go_simp
      with_reducible rfl
     rotate_left
     ·simp only [Act.put, List.setIfInBounds_toArray, List.set_cons_zero, List.set_cons_succ]
      rfl
     refine pure_ (i := 3) (N := (some 67)) (v := ?_) (a' := ?_) #[true, true, true, true, false, false, false, false, false, false, false, false, false, false, false, false] rfl rfl (by kernel_rfl) (fun _ _ _ h => h) (Or.inl ⟨by rfl, ?_⟩) ?_ ?_
     rotate_left
     ·intro w'
      go_simp
      with_reducible rfl
     rotate_left
     ·simp only [Act.put, List.setIfInBounds_toArray, List.set_cons_zero, List.set_cons_succ]
      rfl
     refine pure_ (i := 4) (N := (some 68)) (v := ?_) (a' := ?_) #[true, true, true, true, true, false, false, false, false, false, false, false, false, false, false, false] rfl rfl (by kernel_rfl) (fun _ _ _ h => h) (Or.inl ⟨by rfl, ?_⟩) ?_ ?_
     rotate_left
     ·intro w'
      go_simp
      with_reducible rfl
     rotate_left
     ·simp only [Act.put, List.setIfInBounds_toArray, List.set_cons_zero, List.set_cons_succ]
      rfl
     refine take_ (i := 5) (N := (some 69)) (v := ?_) (a' := ?_) #[true, true, true, true, true, true, false, false, false, false, false, false, false, false, false, false] rfl rfl (by kernel_rfl) (fun _ _ _ h => h) (Or.inl ⟨by rfl, ?_⟩) hS0 ?_ ?_
     rotate_left
     ·intro w' s0
      obtain ⟨hx0, hx1⟩ := s0
      go_simp
      with_reducible rfl
     rotate_left
     ·simp only [Act.put, List.setIfInBounds_toArray, List.set_cons_zero, List.set_cons_succ]
      rfl
     refine pure_ (i := 6) (N := (some 70)) (v := ?_) (a' := ?_) #[true, true, true, true, true, true, true, false, false, false, false, false, false, false, false, false] rfl rfl (by kernel_rfl) (fun _ _ _ h => h) (Or.inl ⟨by rfl, ?_⟩) ?_ ?_
     rotate_left
     ·intro w'
      go_simp
      with_reducible rfl
     rotate_left
     ·simp only [Act.put, List.setIfInBounds_toArray, List.set_cons_zero, List.set_cons_succ]
      rfl
     refine pure_ (i := 7) (N := (some 71)) (v := ?_) (a' := ?_) #[true, true, true, true, true, true, true, true, false, false, false, false, false, false, false, false] rfl rfl (by kernel_rfl) (fun _ _ _ h => h) (Or.inl ⟨by rfl, ?_⟩) ?_ ?_
     rotate_left
     ·intro w'
      go_simp
      with_reducible rfl
     rotate_left
     ·simp only [Act.put, List.setIfInBounds_toArray, List.set_cons_zero, List.set_cons_succ]
      rfl
     refine pure_ (i := 8) (N := (some 72)) (v := ?_) (a' := ?_) #[true, true, true, true, true, true, true, true, true, false, false, false, false, false, false, false] rfl rfl (by kernel_rfl) (fun _ _ _ h => h) (Or.inl ⟨by rfl, ?_⟩) ?_ ?_
     rotate_left
     ·intro w'
      go_simp
      with_reducible rfl
     rotate_left
     ·simp only [Act.put, List.setIfInBounds_toArray, List.set_cons_zero, List.set_cons_succ]
      rfl
     refine take_ (i := 9) (N := (some 73)) (v := ?_) (a' := ?_) #[true, true, true, true, true, true, true, true, true, true, false, false, false, false, false, false] rfl rfl (by kernel_rfl) (fun _ _ _ h => h) (Or.inl ⟨by rfl, ?_⟩) hS0 ?_ ?_
     rotate_left
     ·intro w' s0
      obtain ⟨hx0, hx1⟩ := s0
      go_simp
      with_reducible rfl
     rotate_left
     ·simp only [Act.put, List.setIfInBounds_toArray, List.set_cons_zero, List.set_cons_succ]
      rfl
     refine pure_ (i := 10) (N := (some 74)) (v := ?_) (a' := ?_) #[true, true, true, true, true, true, true, true, true, true, true, false, false, false, false, false] rfl rfl (by kernel_rfl) (fun _ _ _ h => h) (Or.inl ⟨by rfl, ?_⟩) ?_ ?_
     rotate_left
     ·intro w'
      go_simp
      with_reducible rfl
     rotate_left
     ·simp only [Act.put, List.setIfInBounds_toArray, List.set_cons_zero, List.set_cons_succ]
      rfl
     refine pure_ (i := 11) (N := (some 75)) (v := ?_) (a' := ?_) #[true, true, true, true, true, true, true, true, true, true, true, true, false, false, false, false] rfl rfl (by kernel_rfl) (fun _ _ _ h => h) (Or.inl ⟨by rfl, ?_⟩) ?_ ?_
     rotate_left
     ·intro w'
      go_simp
      with_reducible rfl
     rotate_left
     ·simp only [Act.put, List.setIfInBounds_toArray, List.set_cons_zero, List.set_cons_succ]
      rfl
     clear hS0
     refine last_ (i := 12) (N := (some 76)) #[true, true, true, true, true, true, true, true, true, true, true, true, true, false, false, false] rfl rfl (by kernel_rfl) (by decide) (fun K hK => ?_)
     refine goes_ Try.func86 (by kernel_rfl) rfl #[.slice (some ⟨g, 0, none⟩) N cap, .int .i64 i] (by rfl) rfl rfl (by go_simp; done) ?_
     refine (find_c HVd.out HP.out (by omega) i hiN).mono ?_
     rintro e w6 ⟨p1, rfl, a1, a2, a3⟩
     refine ⟨_, rfl, ?_⟩
     rw [← HX.out]
     have HV6 := Aside0.mk a1
     have HP6 := Aside0.mk a2
     have HG6 : Aside0 (wr.grownBy w6 (some g)) := ⟨World.grownBy.trans (below_grownBy (below_drew (Below.refl _ _)) _) a3⟩
     clear a1 a2 a3 HV HVd HP
     change K (Act.put _ (some 76) _) _
     refine hK.out _ _ ?_
     clear hK
     refine norm_ (a' := ?_) ?_ ?_
     rotate_left
     ·simp only [Act.put, List.setIfInBounds_toArray, List.set_cons_zero, List.set_cons_succ]
      rfl
     refine last_ (i := 13) (N := (some 77)) #[true, true, true, true, true, true, true, true, true, true, true, true, true, true, false, false] rfl rfl (by kernel_rfl) (by decide) (fun K hK => ?_)
     have hlk := (HM.out.kept HG6.out (fun e => HNG.out (Option.some.inj e))).lookup x (by omega) HTH.out
     rw [← HIX.out] at hlk
     refine value_ (w1 := w6) (v := .int .i64 ix) (by rfl) rfl (by unfold execOp; simp [hlk, Act.eval]) ?_
     change K (Act.put _ (some 77) _) _
     refine hK.out _ _ ?_
     clear hK
     refine norm_ (a' := ?_) ?_ ?_
     rotate_left
     ·simp only [Act.put, List.setIfInBounds_toArray, List.set_cons_zero, List.set_cons_succ]
      rfl
     refine pure_ (i := 14) (N := (some 78)) (v := ?_) (a' := ?_) #[true, true, true, true, true, true, true, true, true, true, true, true, true, true, true, false] rfl rfl (by kernel_rfl) (fun _ _ _ h => h) (Or.inl ⟨by rfl, ?_⟩) ?_ ?_
     rotate_left
     ·intro w'
      go_simp
      with_reducible rfl
     rotate_left
     ·simp only [Act.put, List.setIfInBounds_toArray, List.set_cons_zero, List.set_cons_succ]
      rfl
     refine pure_ (i := 15) (N := (some 10)) (v := ?_) (a' := ?_) #[true, true, true, true, true, true, true, true, true, true, true, true, true, true, true, true] rfl rfl (by kernel_rfl) (fun _ _ _ h => h) (Or.inl ⟨by rfl, ?_⟩) ?_ ?_
     rotate_left
     ·intro w'
      go_simp
      with_reducible rfl
     rotate_left
     ·simp only [Act.put, List.setIfInBounds_toArray, List.set_cons_zero, List.set_cons_succ]
      rfl
     refine done_ (by kernel_rfl) ?_
     obtain ⟨xs, hxs⟩ : ∃ xs, xs = (firsts r k).map (toS ∘ clu2 r k m t) := ⟨_, rfl⟩
     have hlen : xs.length = ln := by rw [hxs, List.length_map, HLN.out]
     have HXS := Aside0.mk hxs
     have HLEN := Aside0.mk hlen
     have HRC6 : Aside0 (RC w6 w.heap.size q c xs) := ⟨by
      have h6 := Kd.R_grown HR.out HG6.out (fun j hj e => hj.1 (Option.some.inj e))
      rw [← hxs, ← hlen] at h6
      exact Kd.R_mono (Kd.R_tight rfl h6) (fun j hj => (Option.some.inj (by simpa [Value.ownBlock] using hj)))⟩
     have hxi : ix < xs.length := by omega
     obtain ⟨o1, ho1⟩ : ∃ o1, o1 = (out2 r k m x t).1 := ⟨_, rfl⟩
     have HO1 := Aside0.mk ho1
     have hf2 : fld xs[ix] 2 = (o1 : Int) := by
      have : xs[ix] = toS (clu2 r k m t x) := by
       have hix := HIX.out
       subst hxs hix
       rw [List.getElem_map, List.getElem_idxOf]; rfl
      rw [this, ho1]; rfl
     obtain ⟨c2, f2⟩ := HRC6.out.cell ix hxi 2 (by omega)
     rw [hf2] at c2
     obtain ⟨c3, f3⟩ := HRC6.out.cell ix hxi 3 (by omega)
     generalize fld xs[ix] 3 = z3 at c3
     clear hxs hlen ho1 hf2
     by_cases hlo : o1 ≤ t
     ·have hloI : (o1 : Int) ≤ (t : Int) := by omega
      have hloJ : ¬ (t : Int) < (o1 : Int) := by omega
      go_wp2_with fail
      have HP2 := HRC6.out.put2 ix hxi (o1 : Int) ((t : Int) + 1)
      have hg7 : w6.grownBy ((w6.setCell ⟨q, ix * 4 + 2, none⟩ (.int .i64 (o1 : Int))).setCell ⟨q, ix * 4 + 2 + 1, none⟩ (.int .i64 ((t : Int) + 1))) (some q) := World.grownBy.trans (grown_set _ _ _ _) (grown_set _ _ _ _)
      have hst := step_out hlt HI.out HX.out HTH.out HXS.out HIX.out HO1.out hxi (o1 : Int) (by omega)
      refine ⟨⟨t + 1, p1, by go_num, by omega, ⟨(HW.out.grown HG6.out hne).grown hg7 (by have := HQ1.out; have := HBW.out; omega)⟩, ⟨HV6.out.grown hg7 HQG.out.1.symm⟩, HP6, ⟨(HM.out.kept HG6.out (fun e => HNG.out (Option.some.inj e))).kept hg7 (fun e => HQG.out.2 (Option.some.inj e).symm)⟩, ⟨?_⟩, ⟨grown_row (World.grownBy.trans HG.out HG6.out) hg7 (fun j hj => by have := Option.some.inj hj; have := HQ1.out; omega)⟩⟩, by simp [intOf]; omega⟩
      rw [hst]
      unfold RC at HP2
      rw [List.length_set, HLEN.out] at HP2
      exact Kd.R_mono HP2 (fun j hj => by rw [hj]; exact HQG.out)
     ·have hloI : (t : Int) < (o1 : Int) := by omega
      have hloJ : ¬ (o1 : Int) ≤ (t : Int) := by omega
      go_wp2_with fail
      have HP2 := HRC6.out.put2 ix hxi (t : Int) ((t : Int) + 1)
      have hg7 : w6.grownBy ((w6.setCell ⟨q, ix * 4 + 2, none⟩ (.int .i64 (t : Int))).setCell ⟨q, ix * 4 + 2 + 1, none⟩ (.int .i64 ((t : Int) + 1))) (some q) := World.grownBy.trans (grown_set _ _ _ _) (grown_set _ _ _ _)
      have hst := step_out hlt HI.out HX.out HTH.out HXS.out HIX.out HO1.out hxi (t : Int) (by omega)
      refine ⟨⟨t + 1, p1, by go_num, by omega, ⟨(HW.out.grown HG6.out hne).grown hg7 (by have := HQ1.out; have := HBW.out; omega)⟩, ⟨HV6.out.grown hg7 HQG.out.1.symm⟩, HP6, ⟨(HM.out.kept HG6.out (fun e => HNG.out (Option.some.inj e))).kept hg7 (fun e => HQG.out.2 (Option.some.inj e).symm)⟩, ⟨?_⟩, ⟨grown_row (World.grownBy.trans HG.out HG6.out) hg7 (fun j hj => by have := Option.some.inj hj; have := HQ1.out; omega)⟩⟩, by simp [intOf]; omega⟩
      rw [hst]
      unfold RC at HP2
      rw [List.length_set, HLEN.out] at HP2
      exact Kd.R_mono HP2 (fun j hj => by rw [hj]; exact HQG.out)
    ·have et : t = m := by omega
     subst et
     have HEND : Aside0 ((firsts r k).map (toS ∘ clu2 r k t t) = cluS k t r k) := ⟨by rw [← List.map_map, clu2_end HBT.out HOUT.out]; rfl⟩
     go_wp2_with fail
     go_ret
     exact ⟨_, rfl, by rw [← HEND.out]; exact Kd.R_mono HR.out (fun _ _ => trivial), HG.out⟩
end Go.Proofs.Ytohhobcipfmkbaa.CFin
end
