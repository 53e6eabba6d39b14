/- naskhref25.insert and naskhref25.Find: walked. -/
import Derived.Test.YtfkgjoflekemaaaCBrack3
import Derived.RegionTactic
import Derived.IntWalk
namespace Go.Proofs.Ytfkgjoflekemaaa.CBrack
open Go.RowKit Go.Proofs.YtfkgjoflekemaaaW.PrintWords Go.Proofs.YtfkgjoflekemaaaW.PrintMore Go.Proofs.YtfkgjoflekemaaaW.PrintLast Go.Proofs.Ytfkgjoflekemaaa.U Go.Proofs.Ytfkgjoflekemaaa.CBase Go.Proofs.Ytfkgjoflekemaaa.CSlices Go.Proofs.Ytfkgjoflekemaaa.UBrack Go.Proofs.Ytfkgjoflekemaaa.PBrackFinds
set_option linter.unusedVariables false
set_option linter.unusedSimpArgs false
theorem hi58y : ∃ i, Try.prog.info? 58 = some i ∧ i.size = 2 := by
  have h := info58
  cases hi : Try.prog.info? 58 with
  | none => rw [hi] at h; cases h
  | some i =>
    rw [hi] at h
    simp only [Option.map_some, Option.some.injEq, Prod.mk.injEq] at h
    exact ⟨i, rfl, h.2.1⟩
theorem lit58 (w : World) (x y : Int) : SLk k58 (w.alloc (.cells #[.int .i64 x, .int .i64 y] 58)) (.slice (some ⟨w.heap.size, 0, none⟩) 1 1) [⟨x, y⟩] := by
  have D := blk_new w (.cells #[.int .i64 x, .int .i64 y] 58)
  refine ⟨_, _, rfl, Nat.le_refl _, rfl, (show 1 ≤ 9223372036854775807 by decide), fun _ => ⟨_, rfl, fun j p hj => ?_⟩⟩
  match j, hj with
  | 0, hj =>
    obtain rfl := Option.some.inj hj
    refine ⟨_, rfl, k58_mk _ _, fun i u hu => ?_⟩
    rw [add_plain]
    match i, hu with
    | 0, hu => obtain rfl := Option.some.inj hu; exact (blk_cell D 0).trans rfl
    | 1, hu => obtain rfl := Option.some.inj hu; exact (blk_cell D 1).trans rfl
/-- how many ahead are before -/
def cnt (p : S58) : List S58 → Nat
  | [] => 0
  | q :: l => if q.f0 < p.f0 then cnt p l + 1 else 0
theorem ins_cnt (p : S58) (l : List S58) : ins p l = l.take (cnt p l) ++ [p] ++ l.drop (cnt p l) := by
  induction l with
  | nil => rfl
  | cons q l ih =>
    unfold ins cnt
    split
    · rw [ih]; rfl
    · rfl
theorem cnt_le (p : S58) (l : List S58) : cnt p l ≤ l.length := by
  induction l with
  | nil => exact Nat.le_refl _
  | cons q l ih => unfold cnt; split <;> simp <;> omega
theorem cnt_lt (p : S58) (l : List S58) : ∀ k : Nat, k < cnt p l → (rd_T58 l k).f0 < p.f0 := by
  induction l with
  | nil => intro k h; exact absurd h (Nat.not_lt_zero _)
  | cons q l ih =>
    intro k h
    unfold cnt at h
    split at h
    · rename_i hq
      cases k with
      | zero => exact hq
      | succ k =>
        have := ih k (by omega)
        rw [rd58_nat] at this ⊢
        simpa using this
    · exact absurd h (Nat.not_lt_zero _)
theorem cnt_at (p : S58) (l : List S58) (h : cnt p l < l.length) : ¬ (rd_T58 l (cnt p l : Nat)).f0 < p.f0 := by
  induction l with
  | nil => exact absurd h (Nat.not_lt_zero _)
  | cons q l ih =>
    unfold cnt at h ⊢
    split
    · rename_i hq
      rw [if_pos hq] at h
      have := ih (by simpa using h)
      rw [rd58_nat] at this ⊢
      simpa using this
    · rename_i hq
      exact hq
theorem SLk.reads1 {w : World} {A : Option Addr} {n c : Nat} {xs : List S58} (h : SLk k58 w (.slice A n c) xs) : Kd.C k58 w A n xs := by
  obtain ⟨A', c', e, _, hC⟩ := h
  injection e with e1 e2 e3
  subst e1 e2
  exact hC
theorem below_grown2 {B : Nat} {a w w' : World} {row : Option Nat} (h : Below B a w) (hB : B ≤ a.heap.size) (hg : w.grownBy w' row) (hr : ∀ k, row = some k → B ≤ k) : Below B a w' :=
  ⟨hg.os.trans h.os, hg.tape.trans h.tape, hg.output.trans h.output, Nat.le_trans h.size hg.size, fun k hk => (hg.block k (by have := h.size; omega) (fun e => by have := hr k e.symm; omega)).trans (h.block k hk)⟩
theorem own_hat {N M : Nat} {u v : Value} (h : ∀ k, u.ownBlock = some k → N ≤ k) (hat : v.ownBlock = u.ownBlock ∨ ∃ b, v.ownBlock = some b ∧ M ≤ b) (hNM : N ≤ M) : ∀ k, v.ownBlock = some k → N ≤ k := fun k hk => by
  rcases hat with e | ⟨b, e, hb⟩
  · exact h k (by rw [← e]; exact hk)
  · rw [e] at hk
    injection hk with hk
    omega
set_option maxRecDepth 100000 in
set_option maxHeartbeats 4000000 in
theorem insert_c {w : World} {v : Value} {f : List S58} (p : S58) (h : SLk k58 w v f) (hm : f.length ≤ 1000000) :
    Calls Try.prog 107 #[v, .agg #[.int .i64 p.f0, .int .i64 p.f1]] w fun e w' => ∃ u, e = .returned u ∧ Kd.R k58 58 w' w.heap.size (fun _ => True) u (ins p f) ∧ Below w.heap.size w w' := by
  rw [ins_cnt]
  have HCL := Aside0.mk (cnt_le p f)
  have HCT := Aside0.mk (cnt_lt p f)
  have HCA := Aside0.mk (cnt_at p f)
  generalize cnt p f = t at HCL HCT HCA
  obtain ⟨p0, p1⟩ := p
  have HM := Aside0.mk hm
  obtain ⟨A, cf, rfl, hcf, hF⟩ := h
  have HFC := Aside0.mk hcf
  have HFF := Aside0.mk hF
  obtain ⟨i58, hi58, hs58⟩ := hi58y
  clear hm hcf hF
  simp only at HCT HCA ⊢
  go_enter Try.func107, Try.ntmps107
  go_wp2
  have D := blk_new w (.cells #[.int .i64 p0, .int .i64 p1] 58)
  have HX := Aside0.mk D
  have HB := Aside0.mk (below_alloc (Below.refl w.heap.size w) (.cells #[.int .i64 p0, .int .i64 p1] 58))
  generalize w.alloc (.cells #[.int .i64 p0, .int .i64 p1] 58) = W at HX HB ⊢
  clear D
  go_loopw [5] (fun v wr => ∃ k : Nat, v = .int .i64 k ∧ k ≤ t ∧ Aside0 (Below W.heap.size W wr)) (fun v _ => t - (intOf v).toNat)
  case atStart => exact ⟨0, rfl, Nat.zero_le _, ⟨Below.refl _ _⟩⟩
  case round =>
    obtain ⟨k, rfl, hk, HBW⟩ := hrel
    have HBw : Aside0 (Below w.heap.size w wr) := ⟨below_step HB.out HBW.out⟩
    have HXr : Aside0 (wr.heap[w.heap.size]? = some (.cells #[.int .i64 p0, .int .i64 p1] 58 (0, 0))) := ⟨(HBW.out.block _ (blk_lt HX.out)).trans HX.out⟩
    have c0 : wr.cell? ⟨w.heap.size, 0, none⟩ = some (.int .i64 p0) := (blk_cell HXr.out 0).trans rfl
    have c1 : wr.cell? ⟨w.heap.size, 1, none⟩ = some (.int .i64 p1) := (blk_cell HXr.out 1).trans rfl
    by_cases hlt : k < f.length
    · have hkI : (k : Int) < (f.length : Int) := by omega
      obtain ⟨ad, ea, g1, g2⟩ := at_T58 (Kd.C_below HFF.out HBw.out) (k : Int) (by omega) hkI
      subst ea
      rw [Int.toNat_natCast] at g1 g2
      by_cases hkt : k < t
      · have hz := HCT.out k hkt
        generalize (rd_T58 f k).f0 = z0 at g1 hz
        have q : decide (z0 < p0) = true := decide_eq_true hz
        go_wp2
        go_region
        go_wp2
        try rw [w64 (n := (k : Int) + 1) (by omega) (by have := HCL.out; have := HM.out; omega)]
        exact ⟨⟨k + 1, by go_num, by omega, ⟨below_drew HBW.out⟩⟩, by simp [intOf]; omega⟩
      · obtain rfl : k = t := by omega
        have hz := HCA.out hlt
        generalize (rd_T58 f k).f0 = z0 at g1 hz
        have q : decide (z0 < p0) = false := decide_eq_false (by omega)
        go_wp2
        go_region
        go_wp2
        obtain ⟨W1, hW1⟩ : ∃ W1, W1 = wr.drew := ⟨_, rfl⟩
        rw [← hW1]
        have hBd : Below W.heap.size W W1 := by rw [hW1]; exact below_drew HBW.out
        have hc0 : W1.cell? ⟨w.heap.size, 0, none⟩ = some (.int .i64 p0) := by rw [hW1]; exact c0
        have hc1 : W1.cell? ⟨w.heap.size, 1, none⟩ = some (.int .i64 p1) := by rw [hW1]; exact c1
        clear hW1 c0 c1 hz q g1 g2
        have hkle : k ≤ f.length := HCL.out
        have hWw : Below w.heap.size w W1 := below_step HB.out hBd
        have hcutT := cut_to (P := Try.prog) 56 58 .i64 Try.underlying56 hi58 (some ad) f.length cf (k : Int) (by omega) (by omega) HFC.out
        have hcutF := cut_from (P := Try.prog) 56 58 .i64 Try.underlying56 hi58 2 hs58 (some ad) f.length cf (k : Int) (by omega) (by omega)
        rw [Int.toNat_natCast] at hcutT hcutF
        have hkl : k ≤ f.length := by omega
        have HTK : Aside0 (Kd.C k58 w (some ad) k (f.take k)) := ⟨by
          have := Kd.C_take (m := k) HFF.out hkl
          rwa [List.length_take, Nat.min_eq_left hkl] at this⟩
        have HDR0 : Kd.C k58 w (if cf = k then (some ad) else Option.map (fun x => x.add (k * 2)) (some ad)) (f.length - k) (f.drop k) := by
          have := Kd.C_drop (m := k) (c := cf) HFF.out hkl HFC.out
          rwa [List.length_drop] at this
        generalize (if cf = k then (some ad) else Option.map (fun x => x.add (k * 2)) (some ad)) = A2 at hcutF HDR0
        have HDR := Aside0.mk HDR0
        have HKL := Aside0.mk hkl
        have HBx : Aside0 (Below w.heap.size w W1.drew) := ⟨below_drew hWw⟩
        clear HDR0 hkl hWw hBd
        refine start_ (n := 12) (S := fun W => Below W1.heap.size W1 W) (ds := []) #[false, false, false, false, false, false, false, false, false, false, false, false] (by kernel_rfl) (by kernel_rfl) (by rfl) (below_drew (Below.refl _ _)) (fun hS0 => ?_)
        refine pure_ (i := 0) (N := (some 22)) (v := ?_) (a' := ?_) #[true, false, false, false, false, false, false, false, false, false, false, false] rfl rfl (by kernel_rfl) (fun _ _ _ h => h) (Or.inl ⟨by rfl, ?_⟩) ?_ ?_
        rotate_left
        · intro w'
          go_simp
          with_reducible rfl
        rotate_left
        · simp only [Act.put, List.setIfInBounds_toArray, List.set_cons_zero, List.set_cons_succ]
          rfl
        refine pure_ (i := 1) (N := (some 23)) (v := ?_) (a' := ?_) #[true, true, false, false, false, false, false, false, false, false, false, false] rfl rfl (by kernel_rfl) (fun _ _ _ h => h) (Or.inl ⟨by rfl, ?_⟩) ?_ ?_
        rotate_left
        · intro w'
          go_simp
          with_reducible rfl
        rotate_left
        · simp only [Act.put, List.setIfInBounds_toArray, List.set_cons_zero, List.set_cons_succ]
          rfl
        refine pure_ (i := 2) (N := (some 24)) (v := ?_) (a' := ?_) #[true, true, true, false, false, false, false, false, false, false, false, false] rfl rfl (by kernel_rfl) (fun _ _ _ h => h) (Or.inl ⟨by rfl, ?_⟩) ?_ ?_
        rotate_left
        · intro w'
          go_simp
          with_reducible rfl
        rotate_left
        · simp only [Act.put, List.setIfInBounds_toArray, List.set_cons_zero, List.set_cons_succ]
          rfl
        refine pure_ (i := 7) (N := (some 29)) (v := ?_) (a' := ?_) #[true, true, true, false, false, false, false, true, false, false, false, false] rfl rfl (by kernel_rfl) (fun _ _ _ h => h) (Or.inl ⟨by rfl, ?_⟩) ?_ ?_
        rotate_left
        · intro w'
          go_simp
          with_reducible rfl
        rotate_left
        · simp only [Act.put, List.setIfInBounds_toArray, List.set_cons_zero, List.set_cons_succ]
          rfl
        refine pure_ (i := 8) (N := (some 30)) (v := ?_) (a' := ?_) #[true, true, true, false, false, false, false, true, true, false, false, false] rfl rfl (by kernel_rfl) (fun _ _ _ h => h) (Or.inl ⟨by rfl, ?_⟩) ?_ ?_
        rotate_left
        · intro w'
          go_simp
          with_reducible rfl
        rotate_left
        · simp only [Act.put, List.setIfInBounds_toArray, List.set_cons_zero, List.set_cons_succ]
          rfl
        refine pure_ (i := 9) (N := (some 31)) (v := ?_) (a' := ?_) #[true, true, true, false, false, false, false, true, true, true, false, false] rfl rfl (by kernel_rfl) (fun _ _ _ h => h) (Or.inl ⟨by rfl, ?_⟩) ?_ ?_
        rotate_left
        · intro w'
          go_simp
          with_reducible rfl
        rotate_left
        · simp only [Act.put, List.setIfInBounds_toArray, List.set_cons_zero, List.set_cons_succ]
          rfl
        refine take_ (i := 4) (N := (some 26)) (v := ?_) (a' := ?_) #[true, true, true, false, true, false, false, true, true, true, false, false] rfl rfl (by kernel_rfl) (fun _ _ _ h => h) (Or.inl ⟨by rfl, ?_⟩) hS0 ?_ ?_
        rotate_left
        · intro w' s0
          have hx0 := (s0.cell (World.block_lt_of_cell? _ _ hc0)).trans hc0
          have hx1 := (s0.cell (World.block_lt_of_cell? _ _ hc1)).trans hc1
          go_simp
          with_reducible rfl
        rotate_left
        · simp only [Act.put, List.setIfInBounds_toArray, List.set_cons_zero, List.set_cons_succ]
          rfl
        clear hS0 hc0 hc1
        refine two_ (i := 3) (j := 5) (Ni := (some 25)) (Nj := (some 27)) #[true, true, true, true, true, false, false, true, true, true, false, false] #[true, true, true, false, true, true, false, true, true, true, false, false] rfl rfl rfl rfl (by kernel_rfl) (by decide) (by decide) (fun K hK => ?_) (fun K hK => ?_)
        · refine Kd.R_append_rows_step k58 (w0 := w) w.heap.size (by rfl) (.const (.slice none 0 0)) (.tmp 24) 56 58 (.agg #[.int .i64 0, .int .i64 0]) 16 rfl Try.underlying56 info58 rfl (by decide) (by omega) (.slice none 0 0) [] (f.take k) (some ad) k cf (fun _ => True) (fun _ => False) rfl rfl (Kd.R_nil _ _ _ _ _) (Kd.C_below HTK.out HBx.out) (fun _ _ h => h) (fun _ h => h.elim) (fun _ _ => trivial) HBx.out HBx.out.size (by have := HM.out; simp only [List.length_append, List.length_take, List.length_cons, List.length_nil]; omega) ?_
          intro v1 w1 hv hb hg hat
          have HV1 := Aside0.mk hv
          have HB1 := Aside0.mk hb
          have HA1 : Aside0 (∀ k, v1.ownBlock = some k → W1.heap.size ≤ k) := ⟨own_hat (fun k hk => by simp [Value.ownBlock] at hk) hat (Nat.le_refl _)⟩
          have HS1 := Aside0.mk (below_grown2 (below_drew (Below.refl _ _)) (Nat.le_refl _) hg (fun k hk => by simp [Value.ownBlock] at hk))
          clear hv hb hg hat
          refine hK.out (Act.put _ (some 25) _) _ HS1.out (fun hS0 => ?_)
          clear hK
          refine norm_ (a' := ?_) ?_ ?_
          rotate_left
          · simp only [Act.put, List.setIfInBounds_toArray, List.set_cons_zero, List.set_cons_succ]
            rfl
          have SZ1 := Aside0.mk HS1.out.size
          clear hS0
          refine one_ (i := 5) (N := (some 27)) #[true, true, true, true, true, true, false, true, true, true, false, false] rfl rfl (by kernel_rfl) (by decide) (fun K hK => ?_)
          refine value_ (w1 := w1.alloc (.cells #[.int .i64 p0, .int .i64 p1] 58)) (v := .slice (some ⟨w1.heap.size, 0, none⟩) 1 1) (by rfl) rfl (by go_simp) ?_
          have HVc := Aside0.mk (Kd.R_alloc HV1.out (.cells #[.int .i64 p0, .int .i64 p1] 58))
          have HBc := Aside0.mk (below_alloc HB1.out (.cells #[.int .i64 p0, .int .i64 p1] 58))
          have HSc := Aside0.mk (below_alloc HS1.out (.cells #[.int .i64 p0, .int .i64 p1] 58))
          have SZc := Aside0.mk HSc.out.size
          have HLc := Aside0.mk (SLk.reads1 (lit58 w1 p0 p1))
          refine hK.out (Act.put _ (some 27) _) _ HSc.out (fun hS0 => ?_)
          clear hK
          refine norm_ (a' := ?_) ?_ ?_
          rotate_left
          · simp only [Act.put, List.setIfInBounds_toArray, List.set_cons_zero, List.set_cons_succ]
            rfl
          clear hS0
          refine one_ (i := 6) (N := (some 28)) #[true, true, true, true, true, true, true, true, true, true, false, false] rfl rfl (by kernel_rfl) (by decide) (fun K hK => ?_)
          refine Kd.R_append_rows_step k58 (w0 := w) w.heap.size (by rfl) (.tmp 25) (.tmp 27) 56 58 (.agg #[.int .i64 0, .int .i64 0]) 16 rfl Try.underlying56 info58 rfl (by decide) (by omega) v1 (f.take k) [⟨p0, p1⟩] (some ⟨w1.heap.size, 0, none⟩) 1 1 (fun _ => True) (fun _ => False) rfl rfl HVc.out HLc.out (fun _ _ h => h) (fun _ h => h.elim) (fun _ _ => trivial) HBc.out HBc.out.size (by have := HM.out; simp only [List.length_append, List.length_take, List.length_cons, List.length_nil]; omega) ?_
          intro v3 w3 hv hb hg hat
          have HV3 := Aside0.mk hv
          have HB3 := Aside0.mk hb
          have HA3 : Aside0 (∀ k, v3.ownBlock = some k → W1.heap.size ≤ k) := ⟨own_hat HA1.out hat SZc.out⟩
          have HS3 := Aside0.mk (below_grown2 HSc.out (Nat.le_refl _) hg HA1.out)
          clear hv hb hg hat
          refine hK.out (Act.put _ (some 28) _) _ HS3.out (fun hS0 => ?_)
          clear hK
          refine norm_ (a' := ?_) ?_ ?_
          rotate_left
          · simp only [Act.put, List.setIfInBounds_toArray, List.set_cons_zero, List.set_cons_succ]
            rfl
          clear hS0
          refine one_ (i := 10) (N := (some 32)) #[true, true, true, true, true, true, true, true, true, true, true, false] rfl rfl (by kernel_rfl) (by decide) (fun K hK => ?_)
          refine Kd.R_append_rows_step k58 (w0 := w) w.heap.size (by rfl) (.tmp 28) (.tmp 31) 56 58 (.agg #[.int .i64 0, .int .i64 0]) 16 rfl Try.underlying56 info58 rfl (by decide) (by omega) v3 (f.take k ++ [⟨p0, p1⟩]) (f.drop k) A2 (f.length - k) (cf - k) (fun _ => True) (fun _ => False) rfl rfl HV3.out (Kd.C_below HDR.out HB3.out) (fun _ _ h => h) (fun _ h => h.elim) (fun _ _ => trivial) HB3.out HB3.out.size (by have := HM.out; simp only [List.length_append, List.length_take, List.length_cons, List.length_nil]; omega) ?_
          intro v4 w4 hv hb hg hat
          have HV4 := Aside0.mk hv
          have HB4 := Aside0.mk hb
          have HS4 := Aside0.mk (below_grown2 HS3.out (Nat.le_refl _) hg HA3.out)
          clear hv hb hg hat
          refine hK.out (Act.put _ (some 32) _) _ HS4.out (fun hS0 => ?_)
          clear hK
          refine norm_ (a' := ?_) ?_ ?_
          rotate_left
          · simp only [Act.put, List.setIfInBounds_toArray, List.set_cons_zero, List.set_cons_succ]
            rfl
          refine pure_ (i := 11) (N := (some 4)) (v := ?_) (a' := ?_) #[true, true, true, true, true, true, true, true, true, true, true, true] rfl rfl (by kernel_rfl) (fun _ _ _ h => h) (Or.inl ⟨by rfl, ?_⟩) ?_ ?_
          rotate_left
          · intro w'
            go_simp
            with_reducible rfl
          rotate_left
          · simp only [Act.put, List.setIfInBounds_toArray, List.set_cons_zero, List.set_cons_succ]
            rfl
          refine done_ (by kernel_rfl) ?_
          clear hS0
          go_wp2
          go_ret
          exact ⟨v4, rfl, HV4.out, HB4.out⟩
        · refine value_ (w1 := W1.drew.alloc (.cells #[.int .i64 p0, .int .i64 p1] 58)) (v := .slice (some ⟨W1.drew.heap.size, 0, none⟩) 1 1) (by rfl) rfl (by go_simp) ?_
          have HBa := Aside0.mk (below_alloc HBx.out (.cells #[.int .i64 p0, .int .i64 p1] 58))
          have HSa : Aside0 (Below W1.heap.size W1 (W1.drew.alloc (.cells #[.int .i64 p0, .int .i64 p1] 58))) := ⟨below_alloc (below_drew (Below.refl _ _)) _⟩
          have HLa := Aside0.mk (SLk.reads1 (lit58 W1.drew p0 p1))
          refine hK.out (Act.put _ (some 27) _) _ HSa.out (fun hS0 => ?_)
          clear hK
          refine norm_ (a' := ?_) ?_ ?_
          rotate_left
          · simp only [Act.put, List.setIfInBounds_toArray, List.set_cons_zero, List.set_cons_succ]
            rfl
          clear hS0
          refine one_ (i := 3) (N := (some 25)) #[true, true, true, true, true, true, false, true, true, true, false, false] rfl rfl (by kernel_rfl) (by decide) (fun K hK => ?_)
          refine Kd.R_append_rows_step k58 (w0 := w) w.heap.size (by rfl) (.const (.slice none 0 0)) (.tmp 24) 56 58 (.agg #[.int .i64 0, .int .i64 0]) 16 rfl Try.underlying56 info58 rfl (by decide) (by omega) (.slice none 0 0) [] (f.take k) (some ad) k cf (fun _ => True) (fun _ => False) rfl rfl (Kd.R_nil _ _ _ _ _) (Kd.C_below HTK.out HBa.out) (fun _ _ h => h) (fun _ h => h.elim) (fun _ _ => trivial) HBa.out HBa.out.size (by have := HM.out; simp only [List.length_append, List.length_take, List.length_cons, List.length_nil]; omega) ?_
          intro v1 w1 hv hb hg hat
          have HV1 := Aside0.mk hv
          have HB1 := Aside0.mk hb
          have HA1 : Aside0 (∀ k, v1.ownBlock = some k → W1.heap.size ≤ k) := ⟨own_hat (fun k hk => by simp [Value.ownBlock] at hk) hat HSa.out.size⟩
          have HS1 := Aside0.mk (below_grown2 HSa.out (Nat.le_refl _) hg (fun k hk => by simp [Value.ownBlock] at hk))
          have HLc := Aside0.mk (Kd.C_below HLa.out (below_grown2 (Below.refl _ _) (Nat.le_refl _) hg (fun k hk => by simp [Value.ownBlock] at hk)))
          have HVc := HV1
          have HBc := HB1
          have HSc := HS1
          have SZc := Aside0.mk HS1.out.size
          clear hv hb hg hat
          refine hK.out (Act.put _ (some 25) _) _ HS1.out (fun hS0 => ?_)
          clear hK
          refine norm_ (a' := ?_) ?_ ?_
          rotate_left
          · simp only [Act.put, List.setIfInBounds_toArray, List.set_cons_zero, List.set_cons_succ]
            rfl
          clear hS0
          refine one_ (i := 6) (N := (some 28)) #[true, true, true, true, true, true, true, true, true, true, false, false] rfl rfl (by kernel_rfl) (by decide) (fun K hK => ?_)
          refine Kd.R_append_rows_step k58 (w0 := w) w.heap.size (by rfl) (.tmp 25) (.tmp 27) 56 58 (.agg #[.int .i64 0, .int .i64 0]) 16 rfl Try.underlying56 info58 rfl (by decide) (by omega) v1 (f.take k) [⟨p0, p1⟩] (some ⟨W1.drew.heap.size, 0, none⟩) 1 1 (fun _ => True) (fun _ => False) rfl rfl HVc.out HLc.out (fun _ _ h => h) (fun _ h => h.elim) (fun _ _ => trivial) HBc.out HBc.out.size (by have := HM.out; simp only [List.length_append, List.length_take, List.length_cons, List.length_nil]; omega) ?_
          intro v3 w3 hv hb hg hat
          have HV3 := Aside0.mk hv
          have HB3 := Aside0.mk hb
          have HA3 : Aside0 (∀ k, v3.ownBlock = some k → W1.heap.size ≤ k) := ⟨own_hat HA1.out hat SZc.out⟩
          have HS3 := Aside0.mk (below_grown2 HSc.out (Nat.le_refl _) hg HA1.out)
          clear hv hb hg hat
          refine hK.out (Act.put _ (some 28) _) _ HS3.out (fun hS0 => ?_)
          clear hK
          refine norm_ (a' := ?_) ?_ ?_
          rotate_left
          · simp only [Act.put, List.setIfInBounds_toArray, List.set_cons_zero, List.set_cons_succ]
            rfl
          clear hS0
          refine one_ (i := 10) (N := (some 32)) #[true, true, true, true, true, true, true, true, true, true, true, false] rfl rfl (by kernel_rfl) (by decide) (fun K hK => ?_)
          refine Kd.R_append_rows_step k58 (w0 := w) w.heap.size (by rfl) (.tmp 28) (.tmp 31) 56 58 (.agg #[.int .i64 0, .int .i64 0]) 16 rfl Try.underlying56 info58 rfl (by decide) (by omega) v3 (f.take k ++ [⟨p0, p1⟩]) (f.drop k) A2 (f.length - k) (cf - k) (fun _ => True) (fun _ => False) rfl rfl HV3.out (Kd.C_below HDR.out HB3.out) (fun _ _ h => h) (fun _ h => h.elim) (fun _ _ => trivial) HB3.out HB3.out.size (by have := HM.out; simp only [List.length_append, List.length_take, List.length_cons, List.length_nil]; omega) ?_
          intro v4 w4 hv hb hg hat
          have HV4 := Aside0.mk hv
          have HB4 := Aside0.mk hb
          have HS4 := Aside0.mk (below_grown2 HS3.out (Nat.le_refl _) hg HA3.out)
          clear hv hb hg hat
          refine hK.out (Act.put _ (some 32) _) _ HS4.out (fun hS0 => ?_)
          clear hK
          refine norm_ (a' := ?_) ?_ ?_
          rotate_left
          · simp only [Act.put, List.setIfInBounds_toArray, List.set_cons_zero, List.set_cons_succ]
            rfl
          refine pure_ (i := 11) (N := (some 4)) (v := ?_) (a' := ?_) #[true, true, true, true, true, true, true, true, true, true, true, true] rfl rfl (by kernel_rfl) (fun _ _ _ h => h) (Or.inl ⟨by rfl, ?_⟩) ?_ ?_
          rotate_left
          · intro w'
            go_simp
            with_reducible rfl
          rotate_left
          · simp only [Act.put, List.setIfInBounds_toArray, List.set_cons_zero, List.set_cons_succ]
            rfl
          refine done_ (by kernel_rfl) ?_
          clear hS0
          go_wp2
          go_ret
          exact ⟨v4, rfl, HV4.out, HB4.out⟩
    · obtain rfl : k = t := by have := HCL.out; omega
      have hkI : ¬ ((k : Int) < (f.length : Int)) := by omega
      go_wp2
      go_region
      go_wp2
      obtain ⟨W1, hW1⟩ : ∃ W1, W1 = wr.drew := ⟨_, rfl⟩
      rw [← hW1]
      have hBd : Below W.heap.size W W1 := by rw [hW1]; exact below_drew HBW.out
      have hc0 : W1.cell? ⟨w.heap.size, 0, none⟩ = some (.int .i64 p0) := by rw [hW1]; exact c0
      have hc1 : W1.cell? ⟨w.heap.size, 1, none⟩ = some (.int .i64 p1) := by rw [hW1]; exact c1
      clear hW1 c0 c1
      have hkle : k ≤ f.length := HCL.out
      have hWw : Below w.heap.size w W1 := below_step HB.out hBd
      have hcutT := cut_to (P := Try.prog) 56 58 .i64 Try.underlying56 hi58 A f.length cf (k : Int) (by omega) (by omega) HFC.out
      have hcutF := cut_from (P := Try.prog) 56 58 .i64 Try.underlying56 hi58 2 hs58 A f.length cf (k : Int) (by omega) (by omega)
      rw [Int.toNat_natCast] at hcutT hcutF
      have hkl : k ≤ f.length := by omega
      have HTK : Aside0 (Kd.C k58 w A k (f.take k)) := ⟨by
        have := Kd.C_take (m := k) HFF.out hkl
        rwa [List.length_take, Nat.min_eq_left hkl] at this⟩
      have HDR0 : Kd.C k58 w (if cf = k then A else Option.map (fun x => x.add (k * 2)) A) (f.length - k) (f.drop k) := by
        have := Kd.C_drop (m := k) (c := cf) HFF.out hkl HFC.out
        rwa [List.length_drop] at this
      generalize (if cf = k then A else Option.map (fun x => x.add (k * 2)) A) = A2 at hcutF HDR0
      have HDR := Aside0.mk HDR0
      have HKL := Aside0.mk hkl
      have HBx : Aside0 (Below w.heap.size w W1.drew) := ⟨below_drew hWw⟩
      clear HDR0 hkl hWw hBd
      refine start_ (n := 12) (S := fun W => Below W1.heap.size W1 W) (ds := []) #[false, false, false, false, false, false, false, false, false, false, false, false] (by kernel_rfl) (by kernel_rfl) (by rfl) (below_drew (Below.refl _ _)) (fun hS0 => ?_)
      refine pure_ (i := 0) (N := (some 22)) (v := ?_) (a' := ?_) #[true, false, false, false, false, false, false, false, false, false, false, false] rfl rfl (by kernel_rfl) (fun _ _ _ h => h) (Or.inl ⟨by rfl, ?_⟩) ?_ ?_
      rotate_left
      · intro w'
        go_simp
        with_reducible rfl
      rotate_left
      · simp only [Act.put, List.setIfInBounds_toArray, List.set_cons_zero, List.set_cons_succ]
        rfl
      refine pure_ (i := 1) (N := (some 23)) (v := ?_) (a' := ?_) #[true, true, false, false, false, false, false, false, false, false, false, false] rfl rfl (by kernel_rfl) (fun _ _ _ h => h) (Or.inl ⟨by rfl, ?_⟩) ?_ ?_
      rotate_left
      · intro w'
        go_simp
        with_reducible rfl
      rotate_left
      · simp only [Act.put, List.setIfInBounds_toArray, List.set_cons_zero, List.set_cons_succ]
        rfl
      refine pure_ (i := 2) (N := (some 24)) (v := ?_) (a' := ?_) #[true, true, true, false, false, false, false, false, false, false, false, false] rfl rfl (by kernel_rfl) (fun _ _ _ h => h) (Or.inl ⟨by rfl, ?_⟩) ?_ ?_
      rotate_left
      · intro w'
        go_simp
        with_reducible rfl
      rotate_left
      · simp only [Act.put, List.setIfInBounds_toArray, List.set_cons_zero, List.set_cons_succ]
        rfl
      refine pure_ (i := 7) (N := (some 29)) (v := ?_) (a' := ?_) #[true, true, true, false, false, false, false, true, false, false, false, false] rfl rfl (by kernel_rfl) (fun _ _ _ h => h) (Or.inl ⟨by rfl, ?_⟩) ?_ ?_
      rotate_left
      · intro w'
        go_simp
        with_reducible rfl
      rotate_left
      · simp only [Act.put, List.setIfInBounds_toArray, List.set_cons_zero, List.set_cons_succ]
        rfl
      refine pure_ (i := 8) (N := (some 30)) (v := ?_) (a' := ?_) #[true, true, true, false, false, false, false, true, true, false, false, false] rfl rfl (by kernel_rfl) (fun _ _ _ h => h) (Or.inl ⟨by rfl, ?_⟩) ?_ ?_
      rotate_left
      · intro w'
        go_simp
        with_reducible rfl
      rotate_left
      · simp only [Act.put, List.setIfInBounds_toArray, List.set_cons_zero, List.set_cons_succ]
        rfl
      refine pure_ (i := 9) (N := (some 31)) (v := ?_) (a' := ?_) #[true, true, true, false, false, false, false, true, true, true, false, false] rfl rfl (by kernel_rfl) (fun _ _ _ h => h) (Or.inl ⟨by rfl, ?_⟩) ?_ ?_
      rotate_left
      · intro w'
        go_simp
        with_reducible rfl
      rotate_left
      · simp only [Act.put, List.setIfInBounds_toArray, List.set_cons_zero, List.set_cons_succ]
        rfl
      refine take_ (i := 4) (N := (some 26)) (v := ?_) (a' := ?_) #[true, true, true, false, true, false, false, true, true, true, false, false] rfl rfl (by kernel_rfl) (fun _ _ _ h => h) (Or.inl ⟨by rfl, ?_⟩) hS0 ?_ ?_
      rotate_left
      · intro w' s0
        have hx0 := (s0.cell (World.block_lt_of_cell? _ _ hc0)).trans hc0
        have hx1 := (s0.cell (World.block_lt_of_cell? _ _ hc1)).trans hc1
        go_simp
        with_reducible rfl
      rotate_left
      · simp only [Act.put, List.setIfInBounds_toArray, List.set_cons_zero, List.set_cons_succ]
        rfl
      clear hS0 hc0 hc1
      refine two_ (i := 3) (j := 5) (Ni := (some 25)) (Nj := (some 27)) #[true, true, true, true, true, false, false, true, true, true, false, false] #[true, true, true, false, true, true, false, true, true, true, false, false] rfl rfl rfl rfl (by kernel_rfl) (by decide) (by decide) (fun K hK => ?_) (fun K hK => ?_)
      · refine Kd.R_append_rows_step k58 (w0 := w) w.heap.size (by rfl) (.const (.slice none 0 0)) (.tmp 24) 56 58 (.agg #[.int .i64 0, .int .i64 0]) 16 rfl Try.underlying56 info58 rfl (by decide) (by omega) (.slice none 0 0) [] (f.take k) A k cf (fun _ => True) (fun _ => False) rfl rfl (Kd.R_nil _ _ _ _ _) (Kd.C_below HTK.out HBx.out) (fun _ _ h => h) (fun _ h => h.elim) (fun _ _ => trivial) HBx.out HBx.out.size (by have := HM.out; simp only [List.length_append, List.length_take, List.length_cons, List.length_nil]; omega) ?_
        intro v1 w1 hv hb hg hat
        have HV1 := Aside0.mk hv
        have HB1 := Aside0.mk hb
        have HA1 : Aside0 (∀ k, v1.ownBlock = some k → W1.heap.size ≤ k) := ⟨own_hat (fun k hk => by simp [Value.ownBlock] at hk) hat (Nat.le_refl _)⟩
        have HS1 := Aside0.mk (below_grown2 (below_drew (Below.refl _ _)) (Nat.le_refl _) hg (fun k hk => by simp [Value.ownBlock] at hk))
        clear hv hb hg hat
        refine hK.out (Act.put _ (some 25) _) _ HS1.out (fun hS0 => ?_)
        clear hK
        refine norm_ (a' := ?_) ?_ ?_
        rotate_left
        · simp only [Act.put, List.setIfInBounds_toArray, List.set_cons_zero, List.set_cons_succ]
          rfl
        have SZ1 := Aside0.mk HS1.out.size
        clear hS0
        refine one_ (i := 5) (N := (some 27)) #[true, true, true, true, true, true, false, true, true, true, false, false] rfl rfl (by kernel_rfl) (by decide) (fun K hK => ?_)
        refine value_ (w1 := w1.alloc (.cells #[.int .i64 p0, .int .i64 p1] 58)) (v := .slice (some ⟨w1.heap.size, 0, none⟩) 1 1) (by rfl) rfl (by go_simp) ?_
        have HVc := Aside0.mk (Kd.R_alloc HV1.out (.cells #[.int .i64 p0, .int .i64 p1] 58))
        have HBc := Aside0.mk (below_alloc HB1.out (.cells #[.int .i64 p0, .int .i64 p1] 58))
        have HSc := Aside0.mk (below_alloc HS1.out (.cells #[.int .i64 p0, .int .i64 p1] 58))
        have SZc := Aside0.mk HSc.out.size
        have HLc := Aside0.mk (SLk.reads1 (lit58 w1 p0 p1))
        refine hK.out (Act.put _ (some 27) _) _ HSc.out (fun hS0 => ?_)
        clear hK
        refine norm_ (a' := ?_) ?_ ?_
        rotate_left
        · simp only [Act.put, List.setIfInBounds_toArray, List.set_cons_zero, List.set_cons_succ]
          rfl
        clear hS0
        refine one_ (i := 6) (N := (some 28)) #[true, true, true, true, true, true, true, true, true, true, false, false] rfl rfl (by kernel_rfl) (by decide) (fun K hK => ?_)
        refine Kd.R_append_rows_step k58 (w0 := w) w.heap.size (by rfl) (.tmp 25) (.tmp 27) 56 58 (.agg #[.int .i64 0, .int .i64 0]) 16 rfl Try.underlying56 info58 rfl (by decide) (by omega) v1 (f.take k) [⟨p0, p1⟩] (some ⟨w1.heap.size, 0, none⟩) 1 1 (fun _ => True) (fun _ => False) rfl rfl HVc.out HLc.out (fun _ _ h => h) (fun _ h => h.elim) (fun _ _ => trivial) HBc.out HBc.out.size (by have := HM.out; simp only [List.length_append, List.length_take, List.length_cons, List.length_nil]; omega) ?_
        intro v3 w3 hv hb hg hat
        have HV3 := Aside0.mk hv
        have HB3 := Aside0.mk hb
        have HA3 : Aside0 (∀ k, v3.ownBlock = some k → W1.heap.size ≤ k) := ⟨own_hat HA1.out hat SZc.out⟩
        have HS3 := Aside0.mk (below_grown2 HSc.out (Nat.le_refl _) hg HA1.out)
        clear hv hb hg hat
        refine hK.out (Act.put _ (some 28) _) _ HS3.out (fun hS0 => ?_)
        clear hK
        refine norm_ (a' := ?_) ?_ ?_
        rotate_left
        · simp only [Act.put, List.setIfInBounds_toArray, List.set_cons_zero, List.set_cons_succ]
          rfl
        clear hS0
        refine one_ (i := 10) (N := (some 32)) #[true, true, true, true, true, true, true, true, true, true, true, false] rfl rfl (by kernel_rfl) (by decide) (fun K hK => ?_)
        refine Kd.R_append_rows_step k58 (w0 := w) w.heap.size (by rfl) (.tmp 28) (.tmp 31) 56 58 (.agg #[.int .i64 0, .int .i64 0]) 16 rfl Try.underlying56 info58 rfl (by decide) (by omega) v3 (f.take k ++ [⟨p0, p1⟩]) (f.drop k) A2 (f.length - k) (cf - k) (fun _ => True) (fun _ => False) rfl rfl HV3.out (Kd.C_below HDR.out HB3.out) (fun _ _ h => h) (fun _ h => h.elim) (fun _ _ => trivial) HB3.out HB3.out.size (by have := HM.out; simp only [List.length_append, List.length_take, List.length_cons, List.length_nil]; omega) ?_
        intro v4 w4 hv hb hg hat
        have HV4 := Aside0.mk hv
        have HB4 := Aside0.mk hb
        have HS4 := Aside0.mk (below_grown2 HS3.out (Nat.le_refl _) hg HA3.out)
        clear hv hb hg hat
        refine hK.out (Act.put _ (some 32) _) _ HS4.out (fun hS0 => ?_)
        clear hK
        refine norm_ (a' := ?_) ?_ ?_
        rotate_left
        · simp only [Act.put, List.setIfInBounds_toArray, List.set_cons_zero, List.set_cons_succ]
          rfl
        refine pure_ (i := 11) (N := (some 4)) (v := ?_) (a' := ?_) #[true, true, true, true, true, true, true, true, true, true, true, true] rfl rfl (by kernel_rfl) (fun _ _ _ h => h) (Or.inl ⟨by rfl, ?_⟩) ?_ ?_
        rotate_left
        · intro w'
          go_simp
          with_reducible rfl
        rotate_left
        · simp only [Act.put, List.setIfInBounds_toArray, List.set_cons_zero, List.set_cons_succ]
          rfl
        refine done_ (by kernel_rfl) ?_
        clear hS0
        go_wp2
        go_ret
        exact ⟨v4, rfl, HV4.out, HB4.out⟩
      · refine value_ (w1 := W1.drew.alloc (.cells #[.int .i64 p0, .int .i64 p1] 58)) (v := .slice (some ⟨W1.drew.heap.size, 0, none⟩) 1 1) (by rfl) rfl (by go_simp) ?_
        have HBa := Aside0.mk (below_alloc HBx.out (.cells #[.int .i64 p0, .int .i64 p1] 58))
        have HSa : Aside0 (Below W1.heap.size W1 (W1.drew.alloc (.cells #[.int .i64 p0, .int .i64 p1] 58))) := ⟨below_alloc (below_drew (Below.refl _ _)) _⟩
        have HLa := Aside0.mk (SLk.reads1 (lit58 W1.drew p0 p1))
        refine hK.out (Act.put _ (some 27) _) _ HSa.out (fun hS0 => ?_)
        clear hK
        refine norm_ (a' := ?_) ?_ ?_
        rotate_left
        · simp only [Act.put, List.setIfInBounds_toArray, List.set_cons_zero, List.set_cons_succ]
          rfl
        clear hS0
        refine one_ (i := 3) (N := (some 25)) #[true, true, true, true, true, true, false, true, true, true, false, false] rfl rfl (by kernel_rfl) (by decide) (fun K hK => ?_)
        refine Kd.R_append_rows_step k58 (w0 := w) w.heap.size (by rfl) (.const (.slice none 0 0)) (.tmp 24) 56 58 (.agg #[.int .i64 0, .int .i64 0]) 16 rfl Try.underlying56 info58 rfl (by decide) (by omega) (.slice none 0 0) [] (f.take k) A k cf (fun _ => True) (fun _ => False) rfl rfl (Kd.R_nil _ _ _ _ _) (Kd.C_below HTK.out HBa.out) (fun _ _ h => h) (fun _ h => h.elim) (fun _ _ => trivial) HBa.out HBa.out.size (by have := HM.out; simp only [List.length_append, List.length_take, List.length_cons, List.length_nil]; omega) ?_
        intro v1 w1 hv hb hg hat
        have HV1 := Aside0.mk hv
        have HB1 := Aside0.mk hb
        have HA1 : Aside0 (∀ k, v1.ownBlock = some k → W1.heap.size ≤ k) := ⟨own_hat (fun k hk => by simp [Value.ownBlock] at hk) hat HSa.out.size⟩
        have HS1 := Aside0.mk (below_grown2 HSa.out (Nat.le_refl _) hg (fun k hk => by simp [Value.ownBlock] at hk))
        have HLc := Aside0.mk (Kd.C_below HLa.out (below_grown2 (Below.refl _ _) (Nat.le_refl _) hg (fun k hk => by simp [Value.ownBlock] at hk)))
        have HVc := HV1
        have HBc := HB1
        have HSc := HS1
        have SZc := Aside0.mk HS1.out.size
        clear hv hb hg hat
        refine hK.out (Act.put _ (some 25) _) _ HS1.out (fun hS0 => ?_)
        clear hK
        refine norm_ (a' := ?_) ?_ ?_
        rotate_left
        · simp only [Act.put, List.setIfInBounds_toArray, List.set_cons_zero, List.set_cons_succ]
          rfl
        clear hS0
        refine one_ (i := 6) (N := (some 28)) #[true, true, true, true, true, true, true, true, true, true, false, false] rfl rfl (by kernel_rfl) (by decide) (fun K hK => ?_)
        refine Kd.R_append_rows_step k58 (w0 := w) w.heap.size (by rfl) (.tmp 25) (.tmp 27) 56 58 (.agg #[.int .i64 0, .int .i64 0]) 16 rfl Try.underlying56 info58 rfl (by decide) (by omega) v1 (f.take k) [⟨p0, p1⟩] (some ⟨W1.drew.heap.size, 0, none⟩) 1 1 (fun _ => True) (fun _ => False) rfl rfl HVc.out HLc.out (fun _ _ h => h) (fun _ h => h.elim) (fun _ _ => trivial) HBc.out HBc.out.size (by have := HM.out; simp only [List.length_append, List.length_take, List.length_cons, List.length_nil]; omega) ?_
        intro v3 w3 hv hb hg hat
        have HV3 := Aside0.mk hv
        have HB3 := Aside0.mk hb
        have HA3 : Aside0 (∀ k, v3.ownBlock = some k → W1.heap.size ≤ k) := ⟨own_hat HA1.out hat SZc.out⟩
        have HS3 := Aside0.mk (below_grown2 HSc.out (Nat.le_refl _) hg HA1.out)
        clear hv hb hg hat
        refine hK.out (Act.put _ (some 28) _) _ HS3.out (fun hS0 => ?_)
        clear hK
        refine norm_ (a' := ?_) ?_ ?_
        rotate_left
        · simp only [Act.put, List.setIfInBounds_toArray, List.set_cons_zero, List.set_cons_succ]
          rfl
        clear hS0
        refine one_ (i := 10) (N := (some 32)) #[true, true, true, true, true, true, true, true, true, true, true, false] rfl rfl (by kernel_rfl) (by decide) (fun K hK => ?_)
        refine Kd.R_append_rows_step k58 (w0 := w) w.heap.size (by rfl) (.tmp 28) (.tmp 31) 56 58 (.agg #[.int .i64 0, .int .i64 0]) 16 rfl Try.underlying56 info58 rfl (by decide) (by omega) v3 (f.take k ++ [⟨p0, p1⟩]) (f.drop k) A2 (f.length - k) (cf - k) (fun _ => True) (fun _ => False) rfl rfl HV3.out (Kd.C_below HDR.out HB3.out) (fun _ _ h => h) (fun _ h => h.elim) (fun _ _ => trivial) HB3.out HB3.out.size (by have := HM.out; simp only [List.length_append, List.length_take, List.length_cons, List.length_nil]; omega) ?_
        intro v4 w4 hv hb hg hat
        have HV4 := Aside0.mk hv
        have HB4 := Aside0.mk hb
        have HS4 := Aside0.mk (below_grown2 HS3.out (Nat.le_refl _) hg HA3.out)
        clear hv hb hg hat
        refine hK.out (Act.put _ (some 32) _) _ HS4.out (fun hS0 => ?_)
        clear hK
        refine norm_ (a' := ?_) ?_ ?_
        rotate_left
        · simp only [Act.put, List.setIfInBounds_toArray, List.set_cons_zero, List.set_cons_succ]
          rfl
        refine pure_ (i := 11) (N := (some 4)) (v := ?_) (a' := ?_) #[true, true, true, true, true, true, true, true, true, true, true, true] rfl rfl (by kernel_rfl) (fun _ _ _ h => h) (Or.inl ⟨by rfl, ?_⟩) ?_ ?_
        rotate_left
        · intro w'
          go_simp
          with_reducible rfl
        rotate_left
        · simp only [Act.put, List.setIfInBounds_toArray, List.set_cons_zero, List.set_cons_succ]
          rfl
        refine done_ (by kernel_rfl) ?_
        clear hS0
        go_wp2
        go_ret
        exact ⟨v4, rfl, HV4.out, HB4.out⟩
end Go.Proofs.Ytfkgjoflekemaaa.CBrack
