/- balance.evened: walked. -/
import Derived.Test.YtfkgjoflekemaaaCEven6
namespace Go.Proofs.Ytfkgjoflekemaaa.CEven
open Go.RowKit Go.Shelf Go.Proofs.YtfkgjoflekemaaaW.PrintWords Go.Proofs.YtfkgjoflekemaaaW.PrintMore Go.Proofs.YtfkgjoflekemaaaW.PrintLast Go.Proofs.Ytfkgjoflekemaaa.U Go.Proofs.Ytfkgjoflekemaaa.CBase Go.Proofs.Ytfkgjoflekemaaa.CSlices Go.Proofs.Ytfkgjoflekemaaa.UEven Go.Proofs.Ytfkgjoflekemaaa.CFunc Go.Proofs.Ytfkgjoflekemaaa.CBack
set_option linter.unusedVariables false
set_option linter.unusedSimpArgs false
theorem goesV_ {ops : Array Oper} {Q : Exit → Act → World → Prop} {oi : Oper} {N : Option Tmp} {a : Act} {w : World} {K : Act → World → Prop} {f : FuncId} {fn : Func} {asl : Array Operand} {ts : Array TypeId} (hf : Try.prog.funcs[f]? = some fn) (hname : (fn.name == "runtime.NumGoroutine") = false) (hb : fn.body.isSome = true) (args cb : Array Value)
    (hw : Region.wanted oi (yielded ops a.tmps) = true) (hN : oi.dst = N) (x : Operand) (hop : oi.op = .call { callee := .value x, args := asl, argTypes := ts }) (hx : a.eval x = .func (.func f) #[] cb) (hargs : asl.map a.eval = args)
    (h : Calls Try.prog f (args ++ cb) w fun e w' => ∃ v, e = .returned v ∧ K (a.put N v) w') : if Region.wanted oi (yielded ops a.tmps) = true then Oper.wp Try.prog oi a w K Q else K (a.put N undef) w := by
  refine call_ f (args ++ cb) hw hN ?_ h
  have he := enters_ hf hname hb (args ++ cb) w
  unfold execOp
  simp [hop, hx, resolve, Deferred.ofValue, invoke, hargs, he]
/-- an even paragraph, of its codes and classes -/
def evenP (codes cls : List Int) : List Int := stays (stAt cls cls.length).loose codes 0 codes.length ++ ends (rd cls) (stAt cls cls.length).stack
set_option maxRecDepth 100000 in
set_option maxHeartbeats 2000000 in
theorem evened_c {w : World} {v u : Value} {codes cls : List Int} (h : SL w v codes) (h' : SL w u cls) (hl : cls.length = codes.length) (hm : codes.length ≤ 100000) (hB : ∀ c ∈ cls, c ≠ 10) :
    Calls Try.prog 148 #[v, u] w fun e w' => ∃ r, e = .returned r ∧ Kd.R (Kd.int .i64) 3 w' w.heap.size (fun _ => True) r (evenP codes cls) ∧ Below w.heap.size w w' := by
  have H := Aside0.mk h
  have H' := Aside0.mk h'
  have HL := Aside0.mk hl
  have HNB := Aside0.mk hB
  obtain ⟨A, c, rfl, _, _⟩ := h
  obtain ⟨A', c', rfl, _, _⟩ := h'
  obtain ⟨n, hn⟩ : ∃ n, n = cls.length := ⟨_, rfl⟩
  have HNN := Aside0.mk hn
  have HST := Aside0.mk (stAt_ok cls cls.length (Nat.le_refl _))
  have HLO := Aside0.mk (stAt_loose cls cls.length (Nat.le_refl _))
  clear hl hB hn
  have HB0 : Aside0 (Below w.heap.size w (w.alloc (.cells #[.slice A codes.length c] 22))) := ⟨below_alloc (Below.refl _ _) _⟩
  have HX0 : Aside0 ((w.alloc (.cells #[.slice A codes.length c] 22)).heap[w.heap.size]? = some (.cells #[.slice A codes.length c] 22 (0, 0))) := ⟨blk_new w _⟩
  go_enter Try.func148, Try.ntmps148
  go_wp2_with fail
  refine (walked_c (cls := cls) (SLk.below H'.out HB0.out) (by have := HL.out; omega)).mono ?_
  rintro e w2 ⟨g, rfl, hW, hb2⟩
  have HW2 := Aside0.mk hW
  have HX2 : Aside0 (w2.heap[w.heap.size]? = some (.cells #[.slice A codes.length c] 22 (0, 0))) := ⟨(hb2.block _ (blk_lt HX0.out)).trans HX0.out⟩
  have HB2 : Aside0 (Below w.heap.size w w2) := ⟨below_step HB0.out hb2⟩
  have bx : w2.cell? ⟨w.heap.size, 0, none⟩ = some (.slice A codes.length c) := (blk_cell HX2.out 0).trans rfl
  have HP : Aside0 ((w2.alloc (.cells #[.pointer (some ⟨g, 0, none⟩)] 159)).heap[w2.heap.size]? = some (.cells #[.pointer (some ⟨g, 0, none⟩)] 159 (0, 0))) := ⟨blk_new w2 _⟩
  have hal : Below w2.heap.size w2 (w2.alloc (.cells #[.pointer (some ⟨g, 0, none⟩)] 159)) := below_alloc (Below.refl _ _) _
  have HAL := Aside0.mk hal
  have bx2 : (w2.alloc (.cells #[.pointer (some ⟨g, 0, none⟩)] 159)).cell? ⟨w.heap.size, 0, none⟩ = some (.slice A codes.length c) := cell_al bx _
  clear hW hb2 HB0 HX0 hal
  go_wp2_with fail
  refine (body_c (xs := codes) (ys := cls) (SLk.below H.out (below_step HB2.out HAL.out)) (SLk.below H'.out (below_step HB2.out HAL.out)) HL.out (by omega) HNB.out).mono ?_
  rintro e w3 ⟨rfl, hb3⟩
  have hb23 : Below w2.heap.size w2 w3 := HAL.out.trans (below_to hb3 HAL.out.size)
  have HW3 : Aside0 (WT w3 (w.alloc (.cells #[.slice A codes.length c] 22)).heap.size g (.slice A' cls.length c') (stAt cls cls.length)) := ⟨HW2.out.below hb23⟩
  have HX3 : Aside0 (w3.heap[w.heap.size]? = some (.cells #[.slice A codes.length c] 22 (0, 0))) := ⟨(hb23.block _ (blk_lt HX2.out)).trans HX2.out⟩
  have HP3 : Aside0 (w3.heap[w2.heap.size]? = some (.cells #[.pointer (some ⟨g, 0, none⟩)] 159 (0, 0))) := ⟨(hb3.block _ (blk_lt HP.out)).trans HP.out⟩
  have HB3 : Aside0 (Below w.heap.size w w3) := ⟨below_step HB2.out hb23⟩
  clear hb3 hb23 HB2 HX2 HW2 HP HAL bx bx2
  obtain ⟨B2, hB2⟩ : ∃ B, B = w.heap.size := ⟨_, rfl⟩
  obtain ⟨B5, hB5⟩ : ∃ B, B = w2.heap.size := ⟨_, rfl⟩
  rw [← hB5] at HP3 ⊢
  have HX4 : Aside0 (w3.heap[B2]? = some (.cells #[.slice A codes.length c] 22 (0, 0))) := by rw [hB2]; exact HX3
  have HBE := Aside0.mk hB2
  clear hB5 HX3
  go_wp2_with fail
  have b5 : w3.cell? ⟨B5, 0, none⟩ = some (.pointer (some ⟨g, 0, none⟩)) := (blk_cell HP3.out 0).trans rfl
  have b2 : w3.cell? ⟨w.heap.size, 0, none⟩ = some (.slice A codes.length c) := by rw [← hB2]; exact (blk_cell HX4.out 0).trans rfl
  have HC3 : Aside0 (SL w3 (.slice A codes.length c) codes) := ⟨SLk.below H.out HB3.out⟩
  have HK3 : Aside0 (SL w3 (.slice A' cls.length c') cls) := ⟨SLk.below H'.out HB3.out⟩
  clear hB2 HX4 HP3
  have hPW : (stAt cls cls.length).loose.Pairwise (· < ·) := HLO.out.1
  have hLL : (stAt cls cls.length).loose.length ≤ 1000000 := by have := HST.out.loo; have := HL.out; omega
  have hSI : ∀ j ∈ (stAt cls cls.length).stack, 0 ≤ j ∧ j < (cls.length : Int) := HST.out.idx
  have hSL : (stAt cls cls.length).stack.length ≤ 100000 := by have := HST.out.len; have := HL.out; omega
  obtain ⟨st, hst⟩ : ∃ st, st = stAt cls cls.length := ⟨_, rfl⟩
  rw [← hst] at hPW hLL hSI hSL HW3
  have HSTE := Aside0.mk hst
  clear HST HLO hst
  have HPW := Aside0.mk hPW
  have HLL := Aside0.mk hLL
  have HSI := Aside0.mk hSI
  have HSL := Aside0.mk hSL
  clear hPW hLL hSI hSL
  refine start_ (n := 13) (S := (fun W => Below w3.heap.size w3 W)) (ds := []) #[false, false, false, false, false, false, false, false, false, false, false, false, false] (by kernel_rfl) (by kernel_rfl) (by rfl) ((below_drew (Below.refl _ _))) (fun hS0 => ?_)
  refine pure_ (i := 0) (N := (some 14)) (v := ?_) (a' := ?_) #[true, false, false, false, false, false, false, false, false, false, false, false, false] rfl rfl (by kernel_rfl) (fun _ _ _ h => h) (Or.inl ⟨by rfl, ?_⟩) ?_ ?_
  rotate_left
  · intro w'
    go_simp
    with_reducible rfl
  rotate_left
  · simp only [Act.put, List.setIfInBounds_toArray, List.set_cons_zero, List.set_cons_succ]
    rfl
  refine pure_ (i := 1) (N := (some 15)) (v := ?_) (a' := ?_) #[true, true, false, false, false, false, false, false, false, false, false, false, false] rfl rfl (by kernel_rfl) (fun _ _ _ h => h) (Or.inl ⟨by rfl, ?_⟩) ?_ ?_
  rotate_left
  · intro w'
    go_simp
    with_reducible rfl
  rotate_left
  · simp only [Act.put, List.setIfInBounds_toArray, List.set_cons_zero, List.set_cons_succ]
    rfl
  refine take_ (i := 3) (N := (some 17)) (v := ?_) (a' := ?_) #[true, true, false, true, false, false, false, false, false, false, false, false, false] rfl rfl (by kernel_rfl) (fun _ _ _ h => h) (Or.inl ⟨by rfl, ?_⟩) hS0 ?_ ?_
  rotate_left
  · intro w' s0
    have hx0 := (s0.cell (World.block_lt_of_cell? _ _ b5)).trans b5
    have hx1 := (s0.cell (World.block_lt_of_cell? _ _ b2)).trans b2
    go_simp
    with_reducible rfl
  rotate_left
  · simp only [Act.put, List.setIfInBounds_toArray, List.set_cons_zero, List.set_cons_succ]
    rfl
  refine pure_ (i := 5) (N := (some 19)) (v := ?_) (a' := ?_) #[true, true, false, true, false, true, false, false, false, false, false, false, false] rfl rfl (by kernel_rfl) (fun _ _ _ h => h) (Or.inl ⟨by rfl, ?_⟩) ?_ ?_
  rotate_left
  · intro w'
    go_simp
    with_reducible rfl
  rotate_left
  · simp only [Act.put, List.setIfInBounds_toArray, List.set_cons_zero, List.set_cons_succ]
    rfl
  refine pure_ (i := 6) (N := (some 20)) (v := ?_) (a' := ?_) #[true, true, false, true, false, true, true, false, false, false, false, false, false] rfl rfl (by kernel_rfl) (fun _ _ _ h => h) (Or.inl ⟨by rfl, ?_⟩) ?_ ?_
  rotate_left
  · intro w'
    go_simp
    with_reducible rfl
  rotate_left
  · simp only [Act.put, List.setIfInBounds_toArray, List.set_cons_zero, List.set_cons_succ]
    rfl
  refine take_ (i := 7) (N := (some 21)) (v := ?_) (a' := ?_) #[true, true, false, true, false, true, true, true, false, false, false, false, false] rfl rfl (by kernel_rfl) (fun _ _ _ h => h) (Or.inl ⟨by rfl, ?_⟩) hS0 ?_ ?_
  rotate_left
  · intro w' s0
    have hx0 := (s0.cell (World.block_lt_of_cell? _ _ b5)).trans b5
    have hx1 := (s0.cell (World.block_lt_of_cell? _ _ b2)).trans b2
    go_simp
    with_reducible rfl
  rotate_left
  · simp only [Act.put, List.setIfInBounds_toArray, List.set_cons_zero, List.set_cons_succ]
    rfl
  refine pure_ (i := 8) (N := (some 22)) (v := ?_) (a' := ?_) #[true, true, false, true, false, true, true, true, true, false, false, false, false] rfl rfl (by kernel_rfl) (fun _ _ _ h => h) (Or.inl ⟨by rfl, ?_⟩) ?_ ?_
  rotate_left
  · intro w'
    go_simp
    with_reducible rfl
  rotate_left
  · simp only [Act.put, List.setIfInBounds_toArray, List.set_cons_zero, List.set_cons_succ]
    rfl
  clear hS0
  refine one_ (i := 2) (N := (some 16)) #[true, true, true, true, false, true, true, true, true, false, false, false, false] rfl rfl (by kernel_rfl) (by decide) (fun K hK => ?_)
  refine goesV_ Try.func173 (by kernel_rfl) rfl #[.int .i64 0, .int .i64 codes.length] #[.pointer (some ⟨B5, 0, none⟩), .pointer (some ⟨w.heap.size, 0, none⟩)] (by rfl) rfl (.tmp 14) rfl rfl (by (try simp only [List.map_toArray, List.map_cons, List.map_nil]); rfl) ?_
  refine (stays_c (w := w3.drew) (B5 := B5) (B2 := w.heap.size) (vc := .slice A codes.length c) 0 codes.length (Nat.zero_le _) (Nat.le_refl _) (by omega) (WT.below HW3.out (below_drew (Below.refl _ _))) b5 b2 (SLk.below HC3.out (below_drew (Below.refl _ _))) HPW.out HLL.out).mono ?_
  rintro e w4 ⟨va, rfl, ha, hb4⟩
  obtain ⟨Ava, lva, cva, hva⟩ : ∃ A l c, va = .slice A l c := by obtain ⟨A, c, e⟩ := Kd.R_slice ha; exact ⟨_, _, _, e⟩
  subst hva
  refine ⟨_, rfl, ?_⟩
  have HA4 := Aside0.mk ha
  have HB4 : Aside0 (Below w3.heap.size w3 w4) := ⟨(below_drew (Below.refl _ _)).trans hb4⟩
  clear ha hb4
  change K (Act.put _ (some 16) _) _
  refine hK.out _ _ HB4.out (fun hS0 => ?_)
  clear hK
  refine norm_ (a' := ?_) ?_ ?_
  rotate_left
  · simp only [Act.put, List.setIfInBounds_toArray, List.set_cons_zero, List.set_cons_succ]
    rfl
  clear hS0
  refine one_ (i := 4) (N := (some 18)) #[true, true, true, true, true, true, true, true, true, false, false, false, false] rfl rfl (by kernel_rfl) (by decide) (fun K hK => ?_)
  refine goes_ Try.func175 (by kernel_rfl) rfl #[.pointer (some ⟨g, 0, none⟩)] (by rfl) rfl rfl (by (try simp only [List.map_toArray, List.map_cons, List.map_nil]); rfl) ?_
  refine (ends_c (cls := cls) (SLk.below HK3.out HB4.out) (WT.below HW3.out HB4.out) HSI.out (Nat.le_trans HSL.out (by decide))).mono ?_
  rintro e w5 ⟨vb, rfl, hb, hb5⟩
  obtain ⟨Avb, lvb, cvb, hvb⟩ : ∃ A l c, vb = .slice A l c := by obtain ⟨A, c, e⟩ := Kd.R_slice hb; exact ⟨_, _, _, e⟩
  subst hvb
  refine ⟨_, rfl, ?_⟩
  have HE5 := Aside0.mk hb
  have HA5 : Aside0 (SL w5 (.slice Ava lva cva) (stays st.loose codes 0 codes.length)) := ⟨SLk.below (SLk.of_R HA4.out) hb5⟩
  have HB5 : Aside0 (Below w3.heap.size w3 w5) := ⟨below_step HB4.out hb5⟩
  clear hb hb5 HA4
  change K (Act.put _ (some 18) _) _
  refine hK.out _ _ HB5.out (fun hS0 => ?_)
  clear hK
  refine norm_ (a' := ?_) ?_ ?_
  rotate_left
  · simp only [Act.put, List.setIfInBounds_toArray, List.set_cons_zero, List.set_cons_succ]
    rfl
  clear hS0
  refine one_ (i := 9) (N := (some 23)) #[true, true, true, true, true, true, true, true, true, true, false, false, false] rfl rfl (by kernel_rfl) (by decide) (fun K hK => ?_)
  have b5a : w5.cell? ⟨B5, 0, none⟩ = some (.pointer (some ⟨g, 0, none⟩)) := (HB5.out.cell (World.block_lt_of_cell? _ _ b5)).trans b5
  have b2a : w5.cell? ⟨w.heap.size, 0, none⟩ = some (.slice A codes.length c) := (HB5.out.cell (World.block_lt_of_cell? _ _ b2)).trans b2
  refine goesV_ Try.func173 (by kernel_rfl) rfl #[.int .i64 codes.length, .int .i64 codes.length] #[.pointer (some ⟨B5, 0, none⟩), .pointer (some ⟨w.heap.size, 0, none⟩)] (by rfl) rfl (.tmp 19) rfl rfl (by (try simp only [List.map_toArray, List.map_cons, List.map_nil]); rfl) ?_
  refine (stays_c (B5 := B5) (B2 := w.heap.size) (vc := .slice A codes.length c) codes.length codes.length (Nat.le_refl _) (Nat.le_refl _) (by omega) (WT.below HW3.out HB5.out) b5a b2a (SLk.below HC3.out HB5.out) HPW.out HLL.out).mono ?_
  rintro e w6 ⟨vc, rfl, hc6, hb6⟩
  obtain ⟨Avc, lvc, cvc, hvc⟩ : ∃ A l c, vc = .slice A l c := by obtain ⟨A, c, e⟩ := Kd.R_slice hc6; exact ⟨_, _, _, e⟩
  subst hvc
  refine ⟨_, rfl, ?_⟩
  have HC6 : Aside0 (SL w6 (.slice Avc lvc cvc) []) := ⟨by have := SLk.of_R hc6; rw [Nat.sub_self] at this; exact this⟩
  have HE6 : Aside0 (SL w6 (.slice Avb lvb cvb) (ends (rd cls) st.stack)) := ⟨SLk.below (SLk.of_R HE5.out) hb6⟩
  have HA6 : Aside0 (SL w6 (.slice Ava lva cva) (stays st.loose codes 0 codes.length)) := ⟨SLk.below HA5.out hb6⟩
  have HB6 : Aside0 (Below w3.heap.size w3 w6) := ⟨below_step HB5.out hb6⟩
  clear hc6 hb6 HE5 HA5 b5a b2a
  change K (Act.put _ (some 23) _) _
  refine hK.out _ _ HB6.out (fun hS0 => ?_)
  clear hK
  refine norm_ (a' := ?_) ?_ ?_
  rotate_left
  · simp only [Act.put, List.setIfInBounds_toArray, List.set_cons_zero, List.set_cons_succ]
    rfl
  clear hS0
  refine one_ (i := 10) (N := (some 24)) #[true, true, true, true, true, true, true, true, true, true, true, false, false] rfl rfl (by kernel_rfl) (by decide) (fun K hK => ?_)
  refine value_ (w1 := w6.alloc (.cells #[.slice Ava lva cva, .slice Avb lvb cvb, .slice Avc lvc cvc] 22)) (v := .slice (some ⟨w6.heap.size, 0, none⟩) 3 3) (by rfl) rfl (by go_simp) ?_
  have HB7 : Aside0 (Below w3.heap.size w3 (w6.alloc (.cells #[.slice Ava lva cva, .slice Avb lvb cvb, .slice Avc lvc cvc] 22))) := ⟨below_alloc HB6.out _⟩
  change K (Act.put _ (some 24) _) _
  refine hK.out _ _ HB7.out (fun hS0 => ?_)
  clear hK
  refine norm_ (a' := ?_) ?_ ?_
  rotate_left
  · simp only [Act.put, List.setIfInBounds_toArray, List.set_cons_zero, List.set_cons_succ]
    rfl
  clear hS0
  refine one_ (i := 11) (N := (some 25)) #[true, true, true, true, true, true, true, true, true, true, true, true, false] rfl rfl (by kernel_rfl) (by decide) (fun K hK => ?_)
  refine goes_ Try.func34 (by kernel_rfl) rfl #[.slice (some ⟨w6.heap.size, 0, none⟩) 3 3] (by rfl) rfl rfl (by (try simp only [List.map_toArray, List.map_cons, List.map_nil]); rfl) ?_
  refine (concat_c (xss := [stays st.loose codes 0 codes.length, ends (rd cls) st.stack, []]) (SLs_lit w6 22 [.slice Ava lva cva, .slice Avb lvb cvb, .slice Avc lvc cvc] [stays st.loose codes 0 codes.length, ends (rd cls) st.stack, []] (by simp) ?_) (by simp) ?_).mono ?_
  · intro i x hx
    rcases i with _ | _ | _ | i
    · simp at hx; subst hx; exact ⟨_, rfl, HA6.out⟩
    · simp at hx; subst hx; exact ⟨_, rfl, HE6.out⟩
    · simp at hx; subst hx; exact ⟨_, rfl, HC6.out⟩
    · simp at hx
  · have h1 := stays_length st.loose codes codes.length 0
    have h2 : (ends (rd cls) st.stack).length = st.stack.length := by unfold ends; simp
    have h3 := HSL.out
    simp [total]
    omega
  rintro e w8 ⟨vr, rfl, hr, hb8⟩
  refine ⟨_, rfl, ?_⟩
  have HR8 := Aside0.mk hr
  have HB8 : Aside0 (Below w3.heap.size w3 w8) := ⟨below_step HB7.out hb8⟩
  clear hr hb8
  change K (Act.put _ (some 25) _) _
  refine hK.out _ _ HB8.out (fun hS0 => ?_)
  clear hK
  refine norm_ (a' := ?_) ?_ ?_
  rotate_left
  · simp only [Act.put, List.setIfInBounds_toArray, List.set_cons_zero, List.set_cons_succ]
    rfl
  refine pure_ (i := 12) (N := (some 4)) (v := ?_) (a' := ?_) #[true, true, true, true, true, true, true, true, true, true, true, true, true] rfl rfl (by kernel_rfl) (fun _ _ _ h => h) (Or.inl ⟨by rfl, ?_⟩) ?_ ?_
  rotate_left
  · intro w'
    go_simp
    with_reducible rfl
  rotate_left
  · simp only [Act.put, List.setIfInBounds_toArray, List.set_cons_zero, List.set_cons_succ]
    rfl
  refine done_ (by kernel_rfl) ?_
  go_wp2
  go_ret
  have hf : ([stays st.loose codes 0 codes.length, ends (rd cls) st.stack, []] : List (List Int)).flatten = stays st.loose codes 0 codes.length ++ ends (rd cls) st.stack := by simp
  have hr := HR8.out
  rw [hf, HSTE.out] at hr
  exact ⟨_, rfl, Kd.R_lower hr (Nat.le_trans HB3.out.size HB7.out.size), HB3.out.trans (below_to HB8.out HB3.out.size)⟩
end Go.Proofs.Ytfkgjoflekemaaa.CEven
