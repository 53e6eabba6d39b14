/- The steps of the weak types: each of a row through a function that hands something on; the seven steps; all of them. -/
import Derived.Test.YtfkgjoflekemaaaCInsert
import Derived.Test.YtfkgjoflekemaaaPWeakGonex1
namespace Go.Proofs.Ytfkgjoflekemaaa.CWeak
open Go.Proofs.Ytfkgjoflekemaaa.PWeakGone
open Go.RowKit Go.Proofs.YtfkgjoflekemaaaW.PrintWords Go.Proofs.YtfkgjoflekemaaaW.PrintMore Go.Proofs.Ytfkgjoflekemaaa.U Go.Proofs.Ytfkgjoflekemaaa.CBase
set_option linter.unusedVariables false
set_option linter.unusedSimpArgs false
/-- what is handed on ahead of place k -/
def st (nx : Int → Int → Int) (s : Int) (l : List Int) (k : Nat) : Int := (l.take k).foldl nx s
theorem st_succ (nx : Int → Int → Int) (s : Int) (l : List Int) (k : Nat) (hk : k < l.length) : st nx s l (k + 1) = nx (st nx s l k) (rd l k) := by
  unfold st
  rw [List.take_add_one, List.foldl_append, List.getElem?_eq_getElem hk, rd_get hk]
  rfl
def eachTo (o nx : Int → Int → Int) (s : Int) (l : List Int) (k : Nat) : List Int := (List.range l.length).map fun i => if i < k then o (st nx s l i) (rd l i) else 0
def eachL (o nx : Int → Int → Int) (s : Int) (l : List Int) : List Int := (List.range l.length).map fun i => o (st nx s l i) (rd l i)
theorem eachTo_zero (o nx : Int → Int → Int) (s : Int) (l : List Int) : eachTo o nx s l 0 = List.replicate l.length 0 := by
  unfold eachTo
  simp
  rw [List.map_const', List.length_range]
theorem eachTo_all (o nx : Int → Int → Int) (s : Int) (l : List Int) : eachTo o nx s l l.length = eachL o nx s l := by
  unfold eachTo eachL
  apply List.map_congr_left
  intro i hi
  rw [if_pos (List.mem_range.1 hi)]
theorem eachTo_length (o nx : Int → Int → Int) (s : Int) (l : List Int) (k : Nat) : (eachTo o nx s l k).length = l.length := by simp [eachTo]
theorem eachTo_succ (o nx : Int → Int → Int) (s : Int) (l : List Int) (k : Nat) (hk : k < l.length) : (eachTo o nx s l k).set k (o (st nx s l k) (rd l k)) = eachTo o nx s l (k + 1) := by
  apply List.ext_getElem
  · simp [eachTo]
  · intro i h1 h2
    rw [List.getElem_set]
    by_cases e : k = i
    · subst e; simp [eachTo]
    · rw [if_neg e]
      simp only [eachTo, List.getElem_map, List.getElem_range]
      by_cases h : i < k
      · rw [if_pos h, if_pos (by omega)]
      · rw [if_neg h, if_neg (by omega)]
set_option maxRecDepth 100000 in
set_option maxHeartbeats 2000000 in
theorem each_c {w0 w : World} {v : Value} {l : List Int} (h : SL w0 v l) (hb0 : Below w0.heap.size w0 w) (hm : l.length ≤ 1000000) (g : Nat) (cb : Array Value) (eg : ∀ args w, (callFunc g args).run Try.prog w = .ok (.enter g args) w)
    (row : Option Nat) (I : World → Int → Prop) (o nx : Int → Int → Int) (s : Int) (hI0 : I w s) (hrow : ∀ k, row = some k → k < w.heap.size)
    (hI : ∀ wx w' s, I wx s → (∀ k, row = some k → w'.heap[k]? = wx.heap[k]?) → I w' s)
    (hstep : ∀ (wx : World) (s i c : Int), Below w0.heap.size w0 wx → I wx s → Calls Try.prog g (#[.int .i64 i, .int .i64 c] ++ cb) wx fun e w' => e = .returned (.int .i64 (o s c)) ∧ I w' (nx s c) ∧ Below w0.heap.size w0 w' ∧ wx.grownBy w' row) :
    Calls Try.prog 110 #[v, .func (.func g) #[] cb] w fun e w' => ∃ u, e = .returned u ∧ Kd.R (Kd.int .i64) 3 w' w.heap.size (fun _ => True) u (eachL o nx s l) ∧ Below w0.heap.size w0 w' := by
  have H := Aside0.mk h
  have HB := Aside0.mk hb0
  have HROW := Aside0.mk hrow
  have HI := Aside0.mk hI
  have HS := Aside0.mk hstep
  have HI0 := Aside0.mk hI0
  obtain ⟨A, c, rfl, _, _⟩ := h
  clear hb0 hrow hI hstep hI0
  go_enter Try.func110, Try.ntmps110
  go_wp2_with (first | (refine Kd.R_make (Kd.int .i64) (w0 := w) w.heap.size 3 rfl (N := 10) rfl 22 _ _ rfl l.length rfl rfl Try.underlying22 (.int .i64 0) 8 CSlices.info3 rfl (by decide) (by omega) 0 (ok := fun _ => True) (okp := fun _ => True) rfl (fun _ hk => hk) trivial (by omega) (by omega) (Below.refl _ _) (Nat.le_refl _) ?_; intro v w1 hv hb hg hnew; obtain ⟨go, cap, ev, hgo⟩ := R_form hv (hnew.imp fun _ h => h.1); subst ev; have HV := Aside0.mk hv; have HB1 := Aside0.mk (below_step HB.out hb); have HI1 := Aside0.mk (HI.out w w1 _ HI0.out (fun k hk => hb.block k (HROW.out k hk))); have HGO := Aside0.mk hgo; clear hv hb hg hnew hgo))
  have HV0 : Aside0 (Kd.R (Kd.int .i64) 3 w1 w.heap.size (fun _ => True) (.slice (some ⟨go, 0, none⟩) l.length cap) (eachTo o nx s l 0)) := ⟨by
    have h := HV.out
    rw [eachTo_zero]
    simpa using h⟩
  clear HV
  go_loopw [13] (fun v wr => ∃ k : Nat, v = .int .i64 k ∧ k ≤ l.length ∧ Aside0 (Kd.R (Kd.int .i64) 3 wr w.heap.size (fun _ => True) (.slice (some ⟨go, 0, none⟩) l.length cap) (eachTo o nx s l k)) ∧ Aside0 (Below w0.heap.size w0 wr) ∧ Aside0 (I wr (st nx s l k))) (fun v _ => l.length - (intOf v).toNat)
  case atStart => exact ⟨0, rfl, Nat.zero_le _, HV0, HB1, HI1⟩
  case round =>
    clear HV0 HB1 HI1
    obtain ⟨k, rfl, hk, HV, HB1, HI1⟩ := hrel
    by_cases hlt : k < l.length
    · obtain ⟨ad, c1, ea, hct⟩ := SLk.at_int (SLk.below H.out HB1.out) (k : Int) (by omega) (by omega)
      injection ea with e1 e2 e3
      subst e1
      simp only [Int.toNat_natCast] at hct
      clear e2 e3
      go_wp2_with fail
      refine (HS.out _ _ _ _ HB1.out HI1.out).mono ?_
      rintro e w2 ⟨rfl, hi, hb, hg⟩
      have hr := Kd.R_grown2 HV.out rfl hg (fun j hj => by have := HROW.out j hj; have := HGO.out; simp [Value.ownBlock]; omega)
      obtain ⟨hy, hz⟩ := Kd.R_celln (0 : Int) hr (k : Int) (by omega) (by omega)
      have hp := Kd.R_putg hr (k : Int) (o (st nx s l k) (rd l k))
      rw [Int.toNat_natCast] at hy hz hp
      rw [eachTo_succ o nx s l k hlt] at hp
      have HP := Aside0.mk hp
      have HB2 := Aside0.mk hb
      have HI2 := Aside0.mk hi
      clear hi hb hg hr hp HV HB1 HI1 hct
      have hkI : (k : Int) < (l.length : Int) := by omega
      go_wp2_with fail
      refine ⟨⟨k + 1, by go_num, by omega, ⟨HP.out.1⟩, ⟨CInsert.below_cells HB2.out (by have := HB.out.size; have := HGO.out; omega) k [_]⟩, ⟨?_⟩⟩, by simp [intOf]; omega⟩
      rw [st_succ nx s l k hlt]
      exact HI.out w2 _ _ HI2.out (fun j hj => Below.heap_setCell w2 ⟨go, k, none⟩ _ j (by have := HROW.out j hj; have := HGO.out; show j ≠ go; omega))
    · go_wp2
      go_ret
      have ek : k = l.length := by omega
      subst ek
      exact ⟨_, rfl, by rw [← eachTo_all]; exact HV.out, HB1.out⟩
theorem index_loop (xs : List Int) (x : Int) (hm : xs.length ≤ 1000000) (n : Nat) : ∀ i : Nat, i + n = xs.length → ∃ r : Int, Ev (fun k => slices_Index_int_int.l0 k xs x (xs.length : Int) i) r ∧ (0 ≤ r ↔ x ∈ xs.drop i) := by
  induction n with
  | zero =>
    intro i hi
    refine ⟨-1, Ev.step (fun k => by rw [slices_Index_int_int.l0]) (ev_neg (by omega) (ev_now _)), ?_⟩
    rw [List.drop_of_length_le (by omega)]
    simp
  | succ n ih =>
    intro i hi
    obtain ⟨r, hr, hh⟩ := ih (i + 1) (by omega)
    by_cases e : x = rd xs (i : Int)
    · refine ⟨i, Ev.step (fun k => by rw [slices_Index_int_int.l0]) (ev_pos (by omega) (ev_pos (by omega) (ev_pos (by omega) (ev_pos e (ev_now _))))), ?_⟩
      rw [rd_get (show i < xs.length by omega)] at e
      rw [List.drop_eq_getElem_cons (l := xs) (show i < xs.length by omega), e]
      exact ⟨fun _ => List.mem_cons_self, fun _ => by omega⟩
    · refine ⟨r, Ev.step (fun k => by rw [slices_Index_int_int.l0]) (ev_pos (by omega) (ev_pos (by omega) (ev_pos (by omega) (ev_neg e ?_)))), ?_⟩
      · rw [w64 (by omega) (by omega)]
        exact hr
      · rw [hh, List.drop_eq_getElem_cons (l := xs) (show i < xs.length by omega), List.mem_cons]
        rw [rd_get (show i < xs.length by omega)] at e
        constructor
        · exact .inr
        · rintro (h | h)
          · exact absurd h e
          · exact h
theorem one_ev (x : Int) (xs : List Int) (hm : xs.length ≤ 1000000) : Ev (fun k => weak_one.f k x xs) (decide (x ∈ xs)) := by
  obtain ⟨r, hr, hh⟩ := index_loop xs x hm xs.length 0 (by omega)
  rw [List.drop_zero] at hh
  refine ev_bind (a := decide (x ∈ xs)) (ev_bind (a := r) hr (ev_eq (ev_now _) ?_)) (ev_now _)
  rw [decide_eq_decide]
  exact hh
theorem one_c {v : Value} {xs : List Int} {w : World} (x : Int) (h : SL w v xs) (hm : xs.length ≤ 1000000) : Calls Try.prog 112 #[.int .i64 x, v] w fun e w' => e = .returned (.bool (decide (x ∈ xs))) ∧ Below w.heap.size w w' ∧ w.grownBy w' none := by
  obtain ⟨A, c, rfl, hc, h⟩ := h
  obtain ⟨k, hk⟩ := (one_ev x xs hm).rounds
  refine (weak_one.calls k x A c xs _ w h hc hk).mono fun e w' h => ⟨h.1, h.2.below, ?_⟩
  obtain ⟨⟨n, rfl⟩⟩ := h.2
  exact ⟨rfl, rfl, rfl, Nat.le_refl _, fun _ _ _ => rfl⟩
abbrev Box (w : World) (b : Nat) (s : Int) : Prop := w.heap[b]? = some (.cells #[.int .i64 s] 3 (0, 0))
theorem below_grown {B : Nat} {a w w' : World} {row : Option Nat} (h : Below B a w) (hB : B ≤ a.heap.size) (hg : w.grownBy w' row) (hr : ∀ k, row = some k → B ≤ k) : Below B a w' :=
  ⟨hg.os.trans h.os, hg.tape.trans h.tape, hg.output.trans h.output, Nat.le_trans h.size hg.size, fun k hk => (hg.block k (by have := h.size; omega) (fun e => by have := hr k e.symm; omega)).trans (h.block k hk)⟩
theorem grown_trans {w w1 w2 : World} {row : Option Nat} (h : w.grownBy w1 row) (k : w1.grownBy w2 row) : w.grownBy w2 row :=
  ⟨k.os.trans h.os, k.tape.trans h.tape, k.output.trans h.output, Nat.le_trans h.size k.size, fun j hj hn => (k.block j (Nat.lt_of_lt_of_le hj h.size) hn).trans (h.block j hj hn)⟩
theorem grown_any {w w1 : World} {row : Option Nat} (h : w.grownBy w1 none) : w.grownBy w1 row := ⟨h.os, h.tape, h.output, h.size, fun j hj _ => h.block j hj (by simp)⟩
theorem box_grown {w w1 : World} {b : Nat} {s : Int} (h : Box w b s) (hg : w.grownBy w1 none) : Box w1 b s := (hg.block b (blk_lt h) (by simp)).trans h
theorem box_set {w : World} {b : Nat} {s : Int} (h : Box w b s) (t : Int) : Box (w.setCell ⟨b, 0, none⟩ (.int .i64 t)) b t := (blk_set h 0 (.int .i64 t)).trans (by simp)
theorem grown_alloc (w : World) (o : Obj) : w.grownBy (w.alloc o) none := World.grownBy_alloc w o none
def o1 (s c : Int) : Int := if c = 8 then (if s ∈ [19, 20, 21, 22] then 13 else s) else c
theorem box_free {w : World} {b : Nat} {s : Int} (h : Box w b s) : w.frozen? ⟨b, 0, none⟩ = false := by simp [World.frozen?, h]
theorem grown_box {w w1 : World} {b : Nat} {s : Int} (hg : w.grownBy w1 (some b)) (h : Box w1 b s) (t : Int) : Box (w1.setCell ⟨b, 0, none⟩ (.int .i64 t)) b t ∧ w.grownBy (w1.setCell ⟨b, 0, none⟩ (.int .i64 t)) (some b) :=
  ⟨box_set h t, grown_trans hg (grown_set w1 b 0 _)⟩
theorem grown_refl (w : World) (row : Option Nat) : w.grownBy w row := ⟨rfl, rfl, rfl, Nat.le_refl _, fun _ _ _ => rfl⟩
set_option maxHeartbeats 1000000 in
theorem f111_c (wx : World) (b : Nat) (s i c : Int) (h : Box wx b s) : Calls Try.prog 111 #[.int .i64 i, .int .i64 c, .pointer (some ⟨b, 0, none⟩)] wx fun e w' => e = .returned (.int .i64 (o1 s c)) ∧ Box w' b (o1 s c) ∧ wx.grownBy w' (some b) := by
  have H := Aside0.mk h
  have hc : wx.cell? ⟨b, 0, none⟩ = some (.int .i64 s) := (blk_cell h 0).trans rfl
  have hfz := box_free h
  clear h
  by_cases e : c = 8
  · subst e
    go_enter Try.func111, Try.ntmps111
    go_wp2_with fail
    refine (one_c s (show SL _ _ [19, 20, 21, 22] from SL_lit wx 3 [19, 20, 21, 22] (by decide)) (by decide)).mono ?_
    rintro e w2 ⟨rfl, _, hg⟩
    have hg2 := grown_trans (grown_alloc wx _) hg
    have HG := Aside0.mk (grown_any (row := some b) hg2)
    have hbx := box_grown H.out hg2
    have HB := Aside0.mk hbx
    have hc2 : w2.cell? ⟨b, 0, none⟩ = some (.int .i64 s) := (blk_cell hbx 0).trans rfl
    have hfz2 := box_free hbx
    clear hg hg2 hbx hc hfz
    have ho : Aside0 (o1 s 8 = if decide (s ∈ ([19, 20, 21, 22] : List Int)) = true then 13 else s) := ⟨by simp [o1]⟩
    generalize decide (s ∈ ([19, 20, 21, 22] : List Int)) = d at ho
    cases d
    · have e : Aside0 (o1 s 8 = s) := ⟨ho.out⟩
      clear ho
      go_wp2_with fail
      go_ret
      rw [e.out]
      exact ⟨rfl, grown_box HG.out HB.out _⟩
    · have e : Aside0 (o1 s 8 = 13) := ⟨ho.out⟩
      clear ho
      go_wp2_with fail
      go_ret
      rw [e.out]
      exact ⟨rfl, grown_box HG.out HB.out _⟩
  · have e1 : (c == 8) = false := by simpa using e
    have e2 : o1 s c = c := if_neg e
    rw [e2]
    clear e e2
    go_enter Try.func111, Try.ntmps111
    go_wp2_with fail
    go_ret
    exact ⟨rfl, grown_box (grown_refl _ _) H.out _⟩
set_option maxHeartbeats 1000000 in
theorem w1_c {v : Value} {l : List Int} {w : World} (s : Int) (h : SL w v l) (hm : l.length ≤ 1000000) : Calls Try.prog 74 #[v, .int .i64 s] w fun e w' => ∃ u, e = .returned u ∧ SL w' u (eachL o1 o1 s l) ∧ Below w.heap.size w w' := by
  have H := Aside0.mk h
  obtain ⟨A, c, rfl, _, _⟩ := h
  go_enter Try.func74, Try.ntmps74
  go_wp2_with fail
  refine (each_c H.out (below_alloc (Below.refl _ _) _) hm 111 _ (enters_of Try.func111 (by kernel_rfl) rfl) (some w.heap.size) (fun wx s => Box wx w.heap.size s) o1 o1 s (blk_new w _) (fun k hk => by injection hk with hk; subst hk; rw [World.size_alloc]; omega) (fun wx w' s hb hk => (hk _ rfl).trans hb) (fun wx s i c hb hx => ?_)).mono ?_
  · exact (f111_c wx _ s i c hx).mono fun e w' h => ⟨h.1, h.2.1, below_grown hb (Nat.le_refl _) h.2.2 (fun k hk => by injection hk with hk; omega), h.2.2⟩
  · rintro e w' ⟨u, rfl, hu, hb⟩
    have HU := Aside0.mk (SLk.of_R hu)
    have HB := Aside0.mk hb
    clear hu hb
    go_wp2
    go_ret
    exact ⟨_, rfl, HU.out, HB.out⟩
def nx2 (s c : Int) : Int := if c ∈ ([0, 1, 2] : List Int) then c else s
def o2 (s c : Int) : Int := if c = 3 ∧ nx2 s c = 2 then 6 else c
set_option maxHeartbeats 1000000 in
theorem f113_c (wx : World) (b : Nat) (s i c : Int) (h : Box wx b s) : Calls Try.prog 113 #[.int .i64 i, .int .i64 c, .pointer (some ⟨b, 0, none⟩)] wx fun e w' => e = .returned (.int .i64 (o2 s c)) ∧ Box w' b (nx2 s c) ∧ wx.grownBy w' (some b) := by
  have H := Aside0.mk h
  clear h
  go_enter Try.func113, Try.ntmps113
  go_wp2_with fail
  refine (one_c c (show SL _ _ [0, 1, 2] from SL_lit wx 3 [0, 1, 2] (by decide)) (by decide)).mono ?_
  rintro e w2 ⟨rfl, _, hg⟩
  have hg2 := grown_trans (grown_alloc wx _) hg
  have HG := Aside0.mk (grown_any (row := some b) hg2)
  have hbx := box_grown H.out hg2
  have HB := Aside0.mk hbx
  have hc2 : w2.cell? ⟨b, 0, none⟩ = some (.int .i64 s) := (blk_cell hbx 0).trans rfl
  have hfz2 := box_free hbx
  clear hg hg2 hbx
  by_cases hd : c ∈ ([0, 1, 2] : List Int)
  · rw [decide_eq_true hd]
    have hn : Aside0 (nx2 s c = c) := ⟨if_pos hd⟩
    have h3 : c ≠ 3 := by rintro rfl; exact absurd hd (by decide)
    have ho : Aside0 (o2 s c = c) := ⟨if_neg (fun h => h3 h.1)⟩
    have h3' : (c == 3) = false := by simpa using h3
    clear hd h3
    go_wp2_with fail
    go_ret
    rw [hn.out, ho.out]
    exact ⟨rfl, grown_box HG.out HB.out _⟩
  · rw [decide_eq_false hd]
    have hn : Aside0 (nx2 s c = s) := ⟨if_neg hd⟩
    by_cases h3 : c = 3
    · subst h3
      by_cases hs : s = 2
      · have ho : Aside0 (o2 s 3 = 6) := ⟨if_pos ⟨rfl, by rw [hn.out, hs]⟩⟩
        have hs' : (s == 2) = true := by simpa using hs
        clear hd
        subst hs
        go_wp2_with fail
        go_ret
        rw [hn.out, ho.out]
        exact ⟨rfl, HB.out, HG.out⟩
      · have ho : Aside0 (o2 s 3 = 3) := ⟨if_neg (fun h => hs (by rw [← hn.out]; exact h.2))⟩
        have hs' : (s == 2) = false := by simpa using hs
        clear hd hs
        go_wp2_with fail
        go_ret
        rw [hn.out, ho.out]
        exact ⟨rfl, HB.out, HG.out⟩
    · have ho : Aside0 (o2 s c = c) := ⟨if_neg (fun h => h3 h.1)⟩
      have h3' : (c == 3) = false := by simpa using h3
      clear hd h3
      go_wp2_with fail
      go_ret
      rw [hn.out, ho.out]
      exact ⟨rfl, HB.out, HG.out⟩
set_option maxHeartbeats 1000000 in
theorem w2_c {v : Value} {l : List Int} {w : World} (s : Int) (h : SL w v l) (hm : l.length ≤ 1000000) : Calls Try.prog 75 #[v, .int .i64 s] w fun e w' => ∃ u, e = .returned u ∧ SL w' u (eachL o2 nx2 s l) ∧ Below w.heap.size w w' := by
  have H := Aside0.mk h
  obtain ⟨A, c, rfl, _, _⟩ := h
  go_enter Try.func75, Try.ntmps75
  go_wp2_with fail
  refine (each_c H.out (below_alloc (Below.refl _ _) _) hm 113 _ (enters_of Try.func113 (by kernel_rfl) rfl) (some w.heap.size) (fun wx s => Box wx w.heap.size s) o2 nx2 s (blk_new w _) (fun k hk => by injection hk with hk; subst hk; rw [World.size_alloc]; omega) (fun wx w' s hb hk => (hk _ rfl).trans hb) (fun wx s i c hb hx => ?_)).mono ?_
  · exact (f113_c wx _ s i c hx).mono fun e w' h => ⟨h.1, h.2.1, below_grown hb (Nat.le_refl _) h.2.2 (fun k hk => by injection hk with hk; omega), h.2.2⟩
  · rintro e w' ⟨u, rfl, hu, hb⟩
    have HU := Aside0.mk (SLk.of_R hu)
    have HB := Aside0.mk hb
    clear hu hb
    go_wp2
    go_ret
    exact ⟨_, rfl, HU.out, HB.out⟩
def nx7 (s c : Int) : Int := if c ∈ ([0, 1] : List Int) then c else s
def o7 (s c : Int) : Int := if c = 3 ∧ nx7 s c = 0 then 0 else c
set_option maxHeartbeats 1000000 in
theorem f117_c (wx : World) (b : Nat) (s i c : Int) (h : Box wx b s) : Calls Try.prog 117 #[.int .i64 i, .int .i64 c, .pointer (some ⟨b, 0, none⟩)] wx fun e w' => e = .returned (.int .i64 (o7 s c)) ∧ Box w' b (nx7 s c) ∧ wx.grownBy w' (some b) := by
  have H := Aside0.mk h
  clear h
  go_enter Try.func117, Try.ntmps117
  go_wp2_with fail
  refine (one_c c (show SL _ _ [0, 1] from SL_lit wx 3 [0, 1] (by decide)) (by decide)).mono ?_
  rintro e w2 ⟨rfl, _, hg⟩
  have hg2 := grown_trans (grown_alloc wx _) hg
  have HG := Aside0.mk (grown_any (row := some b) hg2)
  have hbx := box_grown H.out hg2
  have HB := Aside0.mk hbx
  have hc2 : w2.cell? ⟨b, 0, none⟩ = some (.int .i64 s) := (blk_cell hbx 0).trans rfl
  have hfz2 := box_free hbx
  clear hg hg2 hbx
  by_cases hd : c ∈ ([0, 1] : List Int)
  · rw [decide_eq_true hd]
    have hn : Aside0 (nx7 s c = c) := ⟨if_pos hd⟩
    have h3 : c ≠ 3 := by rintro rfl; exact absurd hd (by decide)
    have ho : Aside0 (o7 s c = c) := ⟨if_neg (fun h => h3 h.1)⟩
    have h3' : (c == 3) = false := by simpa using h3
    clear hd h3
    go_wp2_with fail
    go_ret
    rw [hn.out, ho.out]
    exact ⟨rfl, grown_box HG.out HB.out _⟩
  · rw [decide_eq_false hd]
    have hn : Aside0 (nx7 s c = s) := ⟨if_neg hd⟩
    by_cases h3 : c = 3
    · subst h3
      by_cases hs : s = 0
      · have ho : Aside0 (o7 s 3 = 0) := ⟨if_pos ⟨rfl, by rw [hn.out, hs]⟩⟩
        have hs' : (s == 0) = true := by simpa using hs
        clear hd
        subst hs
        go_wp2_with fail
        go_ret
        rw [hn.out, ho.out]
        exact ⟨rfl, HB.out, HG.out⟩
      · have ho : Aside0 (o7 s 3 = 3) := ⟨if_neg (fun h => hs (by rw [← hn.out]; exact h.2))⟩
        have hs' : (s == 0) = false := by simpa using hs
        clear hd hs
        go_wp2_with fail
        go_ret
        rw [hn.out, ho.out]
        exact ⟨rfl, HB.out, HG.out⟩
    · have ho : Aside0 (o7 s c = c) := ⟨if_neg (fun h => h3 h.1)⟩
      have h3' : (c == 3) = false := by simpa using h3
      clear hd h3
      go_wp2_with fail
      go_ret
      rw [hn.out, ho.out]
      exact ⟨rfl, HB.out, HG.out⟩
set_option maxHeartbeats 1000000 in
theorem w7_c {v : Value} {l : List Int} {w : World} (s : Int) (h : SL w v l) (hm : l.length ≤ 1000000) : Calls Try.prog 80 #[v, .int .i64 s] w fun e w' => ∃ u, e = .returned u ∧ SL w' u (eachL o7 nx7 s l) ∧ Below w.heap.size w w' := by
  have H := Aside0.mk h
  obtain ⟨A, c, rfl, _, _⟩ := h
  go_enter Try.func80, Try.ntmps80
  go_wp2_with fail
  refine (each_c H.out (below_alloc (Below.refl _ _) _) hm 117 _ (enters_of Try.func117 (by kernel_rfl) rfl) (some w.heap.size) (fun wx s => Box wx w.heap.size s) o7 nx7 s (blk_new w _) (fun k hk => by injection hk with hk; subst hk; rw [World.size_alloc]; omega) (fun wx w' s hb hk => (hk _ rfl).trans hb) (fun wx s i c hb hx => ?_)).mono ?_
  · exact (f117_c wx _ s i c hx).mono fun e w' h => ⟨h.1, h.2.1, below_grown hb (Nat.le_refl _) h.2.2 (fun k hk => by injection hk with hk; omega), h.2.2⟩
  · rintro e w' ⟨u, rfl, hu, hb⟩
    have HU := Aside0.mk (SLk.of_R hu)
    have HB := Aside0.mk hb
    clear hu hb
    go_wp2
    go_ret
    exact ⟨_, rfl, HU.out, HB.out⟩
def o3 (s c : Int) : Int := if c = 2 then 1 else c
set_option maxHeartbeats 1000000 in
theorem f114_c (wx : World) (i c s : Int) : Calls Try.prog 114 #[.int .i64 i, .int .i64 c] wx fun e w' => e = .returned (.int .i64 (o3 s c)) ∧ wx.grownBy w' none := by
  by_cases h : c = 2
  · subst h
    go_enter Try.func114, Try.ntmps114
    go_wp2_with fail
    go_ret
    exact ⟨rfl, grown_refl _ _⟩
  · have h' : (c == 2) = false := by simpa using h
    have ho : Aside0 (o3 s c = c) := ⟨if_neg h⟩
    clear h
    go_enter Try.func114, Try.ntmps114
    go_wp2_with fail
    go_ret
    rw [ho.out]
    exact ⟨rfl, grown_refl _ _⟩
set_option maxHeartbeats 1000000 in
theorem w3_c {v : Value} {l : List Int} {w : World} (h : SL w v l) (hm : l.length ≤ 1000000) : Calls Try.prog 76 #[v] w fun e w' => ∃ u, e = .returned u ∧ SL w' u (eachL o3 (fun s _ => s) 0 l) ∧ Below w.heap.size w w' := by
  have H := Aside0.mk h
  obtain ⟨A, c, rfl, _, _⟩ := h
  go_enter Try.func76, Try.ntmps76
  go_wp2_with fail
  refine (each_c H.out (Below.refl _ _) hm 114 _ (enters_of Try.func114 (by kernel_rfl) rfl) none (fun wx s => True) o3 (fun s _ => s) 0 trivial (fun k hk => nomatch hk) (fun wx w' s hb hk => trivial) (fun wx s i c hb hx => ?_)).mono ?_
  · exact (f114_c wx i c s).mono fun e w' h => ⟨h.1, trivial, below_grown hb (Nat.le_refl _) h.2 (fun k hk => nomatch hk), h.2⟩
  · rintro e w' ⟨u, rfl, hu, hb⟩
    have HU := Aside0.mk (SLk.of_R hu)
    have HB := Aside0.mk hb
    clear hu hb
    go_wp2
    go_ret
    exact ⟨_, rfl, HU.out, HB.out⟩
def o6 (s c : Int) : Int := if c ∈ ([4, 5, 7] : List Int) then 13 else c
set_option maxHeartbeats 1000000 in
theorem f116_c (wx : World) (i c s : Int) : Calls Try.prog 116 #[.int .i64 i, .int .i64 c] wx fun e w' => e = .returned (.int .i64 (o6 s c)) ∧ wx.grownBy w' none := by
  go_enter Try.func116, Try.ntmps116
  go_wp2_with fail
  refine (one_c c (show SL _ _ [4, 5, 7] from SL_lit wx 3 [4, 5, 7] (by decide)) (by decide)).mono ?_
  rintro e w2 ⟨rfl, _, hg⟩
  have HG := Aside0.mk (grown_trans (grown_alloc wx _) hg)
  clear hg
  by_cases hd : c ∈ ([4, 5, 7] : List Int)
  · rw [decide_eq_true hd]
    have ho : Aside0 (o6 s c = 13) := ⟨if_pos hd⟩
    clear hd
    go_wp2_with fail
    go_ret
    rw [ho.out]
    exact ⟨rfl, HG.out⟩
  · rw [decide_eq_false hd]
    have ho : Aside0 (o6 s c = c) := ⟨if_neg hd⟩
    clear hd
    go_wp2_with fail
    go_ret
    rw [ho.out]
    exact ⟨rfl, HG.out⟩
set_option maxHeartbeats 1000000 in
theorem w6_c {v : Value} {l : List Int} {w : World} (h : SL w v l) (hm : l.length ≤ 1000000) : Calls Try.prog 79 #[v] w fun e w' => ∃ u, e = .returned u ∧ SL w' u (eachL o6 (fun s _ => s) 0 l) ∧ Below w.heap.size w w' := by
  have H := Aside0.mk h
  obtain ⟨A, c, rfl, _, _⟩ := h
  go_enter Try.func79, Try.ntmps79
  go_wp2_with fail
  refine (each_c H.out (Below.refl _ _) hm 116 _ (enters_of Try.func116 (by kernel_rfl) rfl) none (fun wx s => True) o6 (fun s _ => s) 0 trivial (fun k hk => nomatch hk) (fun wx w' s hb hk => trivial) (fun wx s i c hb hx => ?_)).mono ?_
  · exact (f116_c wx i c s).mono fun e w' h => ⟨h.1, trivial, below_grown hb (Nat.le_refl _) h.2 (fun k hk => nomatch hk), h.2⟩
  · rintro e w' ⟨u, rfl, hu, hb⟩
    have HU := Aside0.mk (SLk.of_R hu)
    have HB := Aside0.mk hb
    clear hu hb
    go_wp2
    go_ret
    exact ⟨_, rfl, HU.out, HB.out⟩
def betw (s a b : Int) : Int := if a = b then (if a = 3 ∧ s ∈ ([4, 7] : List Int) then a else if a = 6 ∧ s = 7 then a else s) else s
theorem betw_ev (s a b : Int) : Ev (fun k => weak_between.f k s a b) (betw s a b) := by
  have hj : ∀ t : Bool, Ev (fun k => weak_between.j0 k s a t) (if t = true then a else if a = 6 ∧ s = 7 then a else s) := by
    intro t
    refine Ev.step (fun k => by rw [weak_between.j0]) ?_
    cases t
    · refine ev_neg (c := false = true) Bool.false_ne_true ?_
      rw [if_neg Bool.false_ne_true]
      refine ev_ite (fun h => ?_) (fun h => ev_eq (ev_now _) (if_neg (fun h2 => h h2.1)).symm)
      refine ev_ite (fun h2 => ev_eq (ev_now _) (if_pos ⟨h, h2⟩).symm) (fun h2 => ev_eq (ev_now _) (if_neg (fun h3 => h2 h3.2)).symm)
    · exact ev_pos (c := true = true) rfl (ev_eq (ev_now _) (if_pos rfl).symm)
  unfold betw
  refine ev_ite (fun h => ?_) (fun h => ev_eq (ev_now _) (if_neg h).symm)
  rw [if_pos h]
  refine ev_ite (fun h3 => ?_) (fun h3 => ?_)
  · refine ev_bind (one_ev s [4, 7] (by decide)) (ev_eq (hj _) ?_)
    by_cases hm : s ∈ ([4, 7] : List Int)
    · rw [decide_eq_true hm, if_pos rfl, if_pos ⟨h3, hm⟩]
    · rw [decide_eq_false hm, if_neg Bool.false_ne_true]
      rw [if_neg (c := a = 3 ∧ s ∈ ([4, 7] : List Int)) (fun hh => hm hh.2)]
  · refine ev_eq (hj false) ?_
    rw [if_neg Bool.false_ne_true, if_neg (c := a = 3 ∧ s ∈ ([4, 7] : List Int)) (fun hh => h3 hh.1)]
theorem between_c (s a b : Int) (w : World) : Calls Try.prog 115 #[.int .i64 s, .int .i64 a, .int .i64 b] w fun e w' => e = .returned (.int .i64 (betw s a b)) ∧ Below w.heap.size w w' := by
  obtain ⟨k, hk⟩ := (betw_ev s a b).rounds
  exact weak_between.calls k s a b _ w hk
end Go.Proofs.Ytfkgjoflekemaaa.CWeak
