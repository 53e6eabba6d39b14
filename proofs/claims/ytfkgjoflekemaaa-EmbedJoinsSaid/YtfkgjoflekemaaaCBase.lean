/- Merged of own texts: CBase, CSlices, CCut. -/
import Derived.Test.YtfkgjoflekemaaaPResolveLinex1
import Derived.Test.YtfkgjoflekemaaaUBase
import Derived.Test.YtfkgjoflekemaaaWZeros
/-! slices.Equal on whole numbers, and a literal slice: contracts over slices that read as lists. -/
namespace Go.Proofs.Ytfkgjoflekemaaa.CBase
open Go.RowKit Go.Proofs.Ytfkgjoflekemaaa.PResolveLine Go.Proofs.YtfkgjoflekemaaaW.PrintWords Go.Proofs.YtfkgjoflekemaaaW.PrintLast Go.Proofs.Ytfkgjoflekemaaa.U
set_option linter.unusedVariables false

/-! ### slices.Equal -/
theorem equal_loop (xs ys : List Int) (hl : xs.length = ys.length) (hm : xs.length ≤ 1000000000000) (d : Nat) : ∀ i : Nat, i + d = xs.length →
    Ev (fun k => slices_Equal_int_int.l0 k xs ys (xs.length : Int) (i : Int)) (decide (xs.drop i = ys.drop i)) := by
  induction d with
  | zero =>
    intro i hi
    refine Ev.step (fun k => by rw [slices_Equal_int_int.l0]) ?_
    refine ev_neg (by omega) (ev_eq (ev_now _) ?_)
    rw [List.drop_of_length_le (by omega), List.drop_of_length_le (by omega)]
    simp
  | succ d ih =>
    intro i hi
    refine Ev.step (fun k => by rw [slices_Equal_int_int.l0]) ?_
    refine ev_pos (by omega) (ev_pos (by omega) (ev_pos (by omega) (ev_pos (by omega) ?_)))
    rw [rd_get (show i < xs.length by omega), rd_get (show i < ys.length by omega), List.drop_eq_getElem_cons (l := xs) (show i < xs.length by omega), List.drop_eq_getElem_cons (l := ys) (show i < ys.length by omega)]
    refine ev_ite (fun h => ?_) (fun h => ?_)
    · rw [w64 (by omega) (by omega)]
      refine ev_eq (ih (i + 1) (by omega)) ?_
      simp only [List.cons.injEq, h, true_and]
    · refine ev_eq (ev_now _) ?_
      simp only [List.cons.injEq, h, false_and, decide_false]
theorem equal_ev (xs ys : List Int) (hm : xs.length ≤ 1000000000000) : Ev (fun k => slices_Equal_int_int.f k xs ys) (decide (xs = ys)) := by
  unfold slices_Equal_int_int.f
  refine ev_ite (fun h => ?_) (fun h => ?_)
  · simpa using equal_loop xs ys (by omega) hm xs.length 0 (by omega)
  · refine ev_eq (ev_now _) ?_
    symm
    rw [decide_eq_false_iff_not]
    rintro rfl
    exact h rfl


theorem equal_c {u v : Value} {xs ys : List Int} {w : World} (h1 : SL w u xs) (h2 : SL w v ys) (hm : xs.length ≤ 1000000000000) :
    Calls Try.prog 20 #[u, v] w fun e w' => e = .returned (.bool (decide (xs = ys))) ∧ Below w.heap.size w w' := by
  obtain ⟨A, c, rfl, hc, h1⟩ := h1
  obtain ⟨B, d, rfl, hd, h2⟩ := h2
  obtain ⟨k, hk⟩ := (equal_ev xs ys hm).rounds
  exact (slices_Equal_int_int.calls k A c xs B d ys _ w h1 hc h2 hd hk).mono fun e w' h => ⟨h.1, h.2.below⟩
theorem SL_lit (w : World) (t : TypeId) (xs : List Int) (hm : xs.length ≤ 1000000) : SL (w.alloc (.cells (xs.map (Value.int .i64)).toArray t)) (.slice (some ⟨w.heap.size, 0, none⟩) xs.length xs.length) xs := by
  refine ⟨_, _, rfl, Nat.le_refl _, ?_⟩
  refine Kd.C_of_reads (d := (0 : Int)) (h1 := fun _ => rfl) ⟨rfl, by omega, fun _ => ⟨_, rfl, fun j hj => ?_⟩⟩
  rw [add_plain, World.cell?_alloc_new]
  simp [List.getElem?_eq_getElem hj, List.getD_eq_getElem?_getD]
end Go.Proofs.Ytfkgjoflekemaaa.CBase
/-! slices.Grow on nil and slices.Concat, on whole numbers. -/
namespace Go.Proofs.Ytfkgjoflekemaaa.CSlices
open Go.RowKit Go.Proofs.YtfkgjoflekemaaaW.PrintWords Go.Proofs.YtfkgjoflekemaaaW.PrintMore Go.Proofs.Ytfkgjoflekemaaa.U Go.Proofs.Ytfkgjoflekemaaa.CBase
set_option linter.unusedVariables false
set_option linter.unusedSimpArgs false
theorem info3 : (Try.prog.info? 3).map (fun i => (i.zero, i.size, i.bytes)) = some (some (.int .i64 0), 1, 8) := by kernel_rfl
theorem R_form' {α : Type} {d : Kd α} {e : TypeId} {w : World} {base : Nat} {ok : Nat → Prop} {v : Value} {xs : List α} (h : d.R e w base ok v xs) (hx : 0 < xs.length) : ∃ g cap, v = .slice (some ⟨g, 0, none⟩) xs.length cap ∧ base ≤ g ∧ xs.length ≤ cap := by
  obtain ⟨inner, h1, h2⟩ := Kd.R_own h
  rcases h2 with ⟨_, h2⟩ | ⟨g, cap, cur, rfl, hg, _, h3, _⟩
  · omega
  · exact ⟨g, cap, rfl, hg, h3⟩
set_option maxRecDepth 100000 in
set_option maxHeartbeats 1000000 in
theorem grow_nil (n : Int) (w : World) (h0 : 0 ≤ n) (h1 : n ≤ 1000000) : Calls Try.prog 70 #[.slice none 0 0, .int .i64 n] w fun e w' => ∃ v, e = .returned v ∧ Kd.R (Kd.int .i64) 3 w' w.heap.size (fun _ => True) v [] ∧ Below w.heap.size w w' := by
  by_cases hn : 0 < n
  · go_enter Try.func70, Try.ntmps70
    go_wp2_with (first | (at_builtin; refine Kd.R_append_zeros (Kd.int .i64) (w0 := w) w.heap.size rfl (.tmp 20) (.tmp 21) 22 3 3 (.int .i64 0) 8 rfl Try.underlying22 Try.underlying3 info3 rfl (by decide) (by omega) (.slice none 0 0) [] 0 n (fun _ => True) rfl rfl rfl (fun _ _ => trivial) (Kd.R_nil _ _ _ _ _) h0 (Below.refl _ _) (Nat.le_refl _) (by simp; omega) ?_; intro v w1 hv hb hg hnew; obtain ⟨g, cap, ev, _, hcap⟩ := R_form' hv (by simp; omega); subst ev; have HV := Aside0.mk hv; have HB := Aside0.mk hb; clear hv hb hg hnew))
    go_ret
    exact ⟨_, rfl, Kd.R_take (m := 0) HV.out (Nat.zero_le _), HB.out⟩
  · go_enter Try.func70, Try.ntmps70
    go_wp2
    go_ret
    exact ⟨_, rfl, Kd.R_nil _ _ _ _ _, Below.refl _ _⟩

abbrev SLs (w : World) (v : Value) (xss : List (List Int)) : Prop := SLk (Kd.slice 3 (Kd.int .i64)) w v xss
theorem SLs.at_ {w : World} {v : Value} {xss : List (List Int)} (h : SLs w v xss) (i : Nat) (h1 : i < xss.length) : ∃ ad c, v = .slice (some ad) xss.length c ∧ ∃ A0 c0, w.cell? (ad.add i) = some (.slice A0 (xss.getD i []).length c0) ∧ SL w (.slice A0 (xss.getD i []).length c0) (xss.getD i []) := by
  obtain ⟨A, c, rfl, hc, h⟩ := h
  obtain ⟨ad, cs, e, _, hK, hcell⟩ := Kd.C_get h ([] : List Int) i (by omega) (by omega)
  have hcell' : ∀ j u, cs[j]? = some u → w.cell? (ad.add (i * 1 + j)) = some u := hcell
  obtain ⟨A0, c0, rfl, l0, g0⟩ := hK
  subst e
  refine ⟨ad, c, rfl, A0, c0, ?_, ⟨A0, c0, rfl, l0, g0⟩⟩
  have := hcell' 0 _ rfl
  simpa using this
def total (xss : List (List Int)) : Nat := (xss.map List.length).sum
theorem total_take (xss : List (List Int)) (k : Nat) (hk : k < xss.length) : total (xss.take (k + 1)) = total (xss.take k) + (xss.getD k []).length := by
  unfold total
  rw [List.take_succ_eq_append_getElem hk, List.map_append, List.sum_append, List.getD_eq_getElem?_getD, List.getElem?_eq_getElem hk]
  simp
theorem flat_take (xss : List (List Int)) (k : Nat) (hk : k < xss.length) : (xss.take (k + 1)).flatten = (xss.take k).flatten ++ xss.getD k [] := by
  rw [List.take_succ_eq_append_getElem hk, List.flatten_append, List.getD_eq_getElem?_getD, List.getElem?_eq_getElem hk]
  simp
theorem flat_length (xss : List (List Int)) : xss.flatten.length = total xss := by
  unfold total; rw [List.length_flatten]
theorem total_le (xss : List (List Int)) (k : Nat) : total (xss.take k) ≤ total xss := by
  have : xss = xss.take k ++ xss.drop k := (List.take_append_drop k xss).symm
  unfold total
  conv => rhs; rw [this, List.map_append, List.sum_append]
  omega
set_option maxRecDepth 100000 in
set_option maxHeartbeats 1000000 in
theorem concat_c {v : Value} {xss : List (List Int)} {w : World} (h : SLs w v xss) (hn : xss.length ≤ 1000000) (ht : total xss ≤ 1000000) :
    Calls Try.prog 34 #[v] w fun e w' => ∃ u, e = .returned u ∧ Kd.R (Kd.int .i64) 3 w' w.heap.size (fun _ => True) u xss.flatten ∧ Below w.heap.size w w' := by
  have H := Aside0.mk h
  obtain ⟨A, c, rfl, hc, h2⟩ := h
  have HT := Aside0.mk ht
  clear h2 ht
  go_enter Try.func34, Try.ntmps34
  go_wp2_with fail
  go_loop [11, 3] (fun v s => ∃ k : Nat, v = .int .i64 k ∧ k ≤ xss.length ∧ s = .int .i64 (total (xss.take k))) (fun v _ => xss.length - (intOf v).toNat)
  case atStart => exact ⟨0, rfl, Nat.zero_le _, rfl⟩
  case round =>
    obtain ⟨k, rfl, hk, rfl⟩ := hrel
    by_cases hlt : k < xss.length
    · obtain ⟨ad, c1, ev, A0, c0, hcell, _⟩ := SLs.at_ H.out k hlt
      injection ev with e1 e2 e3
      subst e1
      have hs := total_take xss k hlt
      have h1 := total_le xss (k + 1)
      have h3 := HT.out
      rw [hs] at h1
      generalize xss.getD k [] = y at hs h1 hcell
      have HS := Aside0.mk hs
      have h4 : total (xss.take k) + y.length ≤ 1000000 := by omega
      clear h1 h3 e2 e3 hs
      go_wp2
      exact ⟨⟨k + 1, by go_num, by omega, by rw [HS.out]; go_num⟩, by simp [intOf]; omega⟩
    · have ek : k = xss.length := by omega
      have h4 : total (xss.take k) ≤ 1000000 := by have := total_le xss k; have := HT.out; omega
      clear ek
      go_wp2_with fail
      refine (grow_nil _ _ (by omega) (by omega)).mono ?_
      rintro e w1 ⟨u, rfl, hu, hb⟩
      have HU := Aside0.mk hu
      have HB := Aside0.mk hb
      clear hu hb h4 hlt hk
      go_wp2_with fail
      go_loopw [27, 6] (fun v r wr => ∃ k : Nat, v = .int .i64 k ∧ k ≤ xss.length ∧ Aside0 (Kd.R (Kd.int .i64) 3 wr w.heap.size (fun _ => True) r (xss.take k).flatten) ∧ Aside0 (Below w.heap.size w wr)) (fun v _ _ => xss.length - (intOf v).toNat)
      case atStart => exact ⟨0, rfl, Nat.zero_le _, HU, HB⟩
      case round =>
        clear HU HB
        obtain ⟨k, rfl, hk, HU, HB⟩ := hrel
        by_cases hlt : k < xss.length
        · obtain ⟨ad, c1, ev, A0, c0, hcell, hsl⟩ := SLs.at_ (SLk.below H.out HB.out) k hlt
          injection ev with e1 e2 e3
          subst e1
          have hs := flat_take xss k hlt
          have ht := total_take xss k hlt
          have h1 := total_le xss (k + 1)
          have h3 := HT.out
          rw [ht] at h1
          generalize xss.getD k [] = y at hs h1 hcell hsl
          have HS := Aside0.mk hs
          have HY := Aside0.mk hsl
          have hl1 := flat_length (xss.take k)
          have h4 : (xss.take k).flatten.length + y.length ≤ 1000000 := by omega
          clear h1 h3 e2 e3 hs ht hl1 hsl
          obtain ⟨A', c', ey, _, hR⟩ := HY.out
          injection ey with e1 e2 e3
          subst e1
          have HR := Aside0.mk hR
          clear hR e2 e3
          go_wp2_with (first | (at_builtin; refine Kd.R_append_rows (Kd.int .i64) (w0 := w) w.heap.size rfl (.tmp 31) (.tmp 32) 22 3 (.int .i64 0) 8 rfl Try.underlying22 info3 rfl (by decide) (by omega) _ _ y _ _ _ (fun _ => True) (fun _ => False) rfl rfl HU.out HR.out (fun _ _ h => h) (fun _ h => h.elim) (fun _ _ => trivial) HB.out HB.out.size (by omega) ?_; intro v1 w1 hv1 hb1 hg1 hn1; have HV1 := Aside0.mk hv1; have HB1 := Aside0.mk hb1; clear hv1 hb1 hg1 hn1))
          exact ⟨⟨k + 1, by go_num, by omega, ⟨by rw [HS.out]; exact HV1.out⟩, HB1⟩, by simp [intOf]; omega⟩
        · go_wp2
          go_ret
          refine ⟨_, rfl, ?_, HB.out⟩
          have := HU.out
          rwa [List.take_of_length_le (by omega)] at this
theorem SLs_lit (w : World) (t : TypeId) (vs : List Value) (xss : List (List Int)) (hn : xss.length ≤ 1000000) (h : ∀ (i : Nat) (x : List Int), xss[i]? = some x → ∃ v : Value, vs[i]? = some v ∧ SL w v x) : SLs (w.alloc (.cells vs.toArray t)) (.slice (some ⟨w.heap.size, 0, none⟩) xss.length xss.length) xss := by
  refine ⟨_, _, rfl, Nat.le_refl _, rfl, by omega, fun _ => ⟨_, rfl, fun j p hj => ?_⟩⟩
  obtain ⟨v, hv, A, c, rfl, hc, hC⟩ := h j p hj
  refine ⟨[.slice A p.length c], rfl, ⟨A, c, rfl, hc, Kd.C_alloc hC _⟩, fun i u hu => ?_⟩
  cases i with
  | zero =>
    simp at hu
    subst hu
    show _ = _
    rw [show j * (Kd.slice 3 (Kd.int .i64)).sz + 0 = j by show j * 1 + 0 = j; omega, add_plain, World.cell?_alloc_new]
    simpa using hv
  | succ i => simp at hu
theorem SLk.alloc {α : Type} {d : Kd α} {w : World} {v : Value} {xs : List α} (h : SLk d w v xs) (o : Obj) : SLk d (w.alloc o) v xs := SLk.below h (below_alloc (Below.refl _ _) o)
end Go.Proofs.Ytfkgjoflekemaaa.CSlices
/-! A part of a slice of whole numbers: the operation and what it reads as. -/
namespace Go.Proofs.Ytfkgjoflekemaaa.CCut
open Go.RowKit Go.Proofs.YtfkgjoflekemaaaW.PrintWords Go.Proofs.Ytfkgjoflekemaaa.U Go.Proofs.Ytfkgjoflekemaaa.CBase Go.Proofs.Ytfkgjoflekemaaa.CSlices
theorem cut_c {w : World} {A : Option Addr} {c : Nat} {xs : List Int} (h : SL w (.slice A xs.length c) xs) (lo hi : Int) (h0 : 0 ≤ lo) (h1 : lo ≤ hi) (h2 : hi ≤ xs.length) :
    ∃ V, (∀ W : World, (Instr.slice 22 (.slice A xs.length c) (some (.int .i64 lo)) (some (.int .i64 hi)) none).run Try.prog W = .ok V W) ∧ SL w V ((xs.drop lo.toNat).take (hi.toNat - lo.toNat)) := by
  obtain ⟨A', c', e, hc, hC⟩ := h
  injection e with e1 e2 e3
  subst e1 e3
  obtain ⟨i0, hi0, _, hsz0, _⟩ := info_parts info3
  have hcut := cut_mid (P := Try.prog) 22 3 .i64 .i64 Try.underlying22 hi0 1 hsz0 A xs.length c lo hi h0 h1 h2 hc
  refine ⟨_, hcut, ?_⟩
  have h1 := Kd.C_take (m := hi.toNat - lo.toNat) (Kd.C_drop (m := lo.toNat) hC (by omega) hc) (by rw [List.length_drop]; omega)
  have hl : ((xs.drop lo.toNat).take (hi.toNat - lo.toNat)).length = hi.toNat - lo.toNat := by rw [List.length_take, List.length_drop]; omega
  refine ⟨_, c - lo.toNat, ?_, ?_, h1⟩
  · rw [hl]; rfl
  · rw [hl]; omega
end Go.Proofs.Ytfkgjoflekemaaa.CCut
