/- Texts of this claim, cut to what it needs. -/
import Derived.Test.YtemhccjjcioodaaGreatKCTrie2
import Derived.Test.YtemhccjjcioodaaGreatKCFinA
import Derived.Test.YtemhccjjcioodaaGreatKCCells4
import Derived.Test.YtemhccjjcioodaaGreatKUGroups
set_option linter.unusedSimpArgs false
set_option linter.unusedVariables false
section
namespace Go.Proofs.YtemhccjjcioodaaGreat.CFin
open Go.RowKit Go.Maps Go.Proofs.YtemhccjjcioodaaGreatW.PrintWords Go.Proofs.YtemhccjjcioodaaGreatW.PrintMore Go.Proofs.YtemhccjjcioodaaGreatW.PrintLast Go.Proofs.YtemhccjjcioodaaGreat.U Go.Proofs.YtemhccjjcioodaaGreat.PClusterFinest Go.Proofs.YtemhccjjcioodaaGreat.UFinest Go.Proofs.YtemhccjjcioodaaGreat.UFinEv
def MO (w : World) (b n : Nat) (l : List Nat) : Prop := ∃ D : DataW Unit, IsMap D ∧ w.ownsMap Tryz.prog 3 (plainElem Tryz.prog 3) b n D ∧ (∀ v : Nat, has D (.int .i64 v) = decide (v ∈ l)) ∧ ∀ v : Nat, v ∈ l → D.atKey (.int .i64 v) (.lit (.int .i64 0)) = .lit (.int .i64 (l.idxOf v : Nat))
theorem MO.made (w : World) : MO (w.alloc (.map #[] 0)) w.heap.size 0 [] := ⟨.map [], isMap_empty, World.ownsMap_made w _ _ _, fun v => rfl, fun v h => by cases h⟩
theorem MO.kept {w w' : World} {b n : Nat} {l : List Nat} (h : MO w b n l) {row : Option Nat} (hg : w.grownBy w' row) (hne : some b ≠ row) : MO w' b n l := by
 obtain ⟨D, h1, h2, h3⟩ := h
 exact ⟨D, h1, h2.kept hg hne, h3⟩
theorem MO.mono {w : World} {b n n' : Nat} {l : List Nat} (h : MO w b n l) (hn : n ≤ n') : MO w b n' l := by
 obtain ⟨D, h1, h2, h3⟩ := h
 exact ⟨D, h1, h2.mono hn, h3⟩
theorem MO.lt {w : World} {b n : Nat} {l : List Nat} (h : MO w b n l) : b < w.heap.size := by
 obtain ⟨D, h1, h2, h3⟩ := h
 exact h2.lt
set_option maxRecDepth 100000 in
theorem MO.lookup {w : World} {b n : Nat} {l : List Nat} (h : MO w b n l) (v : Nat) (hv : v ≤ 1000000) (hl : v ∈ l) : (Instr.lookup 259 (.map (some b)) (.int .i64 v) false).run Tryz.prog w = .ok (.int .i64 (l.idxOf v : Nat)) w := by
 obtain ⟨D, h1, h2, h3, h4⟩ := h
 obtain ⟨c, hr, hc, _⟩ := h2.lookup_int keyed3 Tryz.underlying259 Tryz.underlying3 (zero3 w) (key3 v hv)
 rw [h4 v hl] at hc
 injection hc with hc
 injection hc with _ hc
 rw [hc]
 exact hr
set_option maxRecDepth 100000 in
theorem MO.look {w : World} {b n : Nat} {l : List Nat} (h : MO w b n l) (v : Nat) (hv : v ≤ 1000000) : (Instr.lookup 259 (.map (some b)) (.int .i64 v) true).run Tryz.prog w = .ok (.tuple #[.int .i64 (if v ∈ l then l.idxOf v else 0 : Nat), .bool (decide (v ∈ l))]) w := by
 obtain ⟨D, h1, h2, h3, h4⟩ := h
 obtain ⟨es, clock, hb, F, _, rfl⟩ := h2
 rcases Maps.fit_look true keyed3 Tryz.underlying259 (zero3 w) hb F (key3 v hv) with ⟨hrun, _, hat⟩ | ⟨e0, y, _, _, hrun, hRv, hat, _⟩
 ·have hf := has_false_of_atKey hat
  rw [h3 v, decide_eq_false_iff_not] at hf
  rw [if_neg hf, decide_eq_false hf]
  exact hrun
 ·have hf := has_true_of_atKey hat
  rw [h3 v, decide_eq_true_eq] at hf
  rw [if_pos hf, decide_eq_true hf]
  obtain ⟨a, ha, rfl, _⟩ := plainElem_int_inv Tryz.underlying3 hRv
  have := (h4 v hf).symm.trans (hat _)
  injection this with hc
  injection hc with _ hc
  rw [hc, ← ha]
  exact hrun
theorem MO.put {w' : World} {b n v : Nat} {l : List Nat} {D : DataW Unit} (h1 : IsMap D) (h3 : ∀ v : Nat, has D (.int .i64 v) = decide (v ∈ l)) (h4 : ∀ v : Nat, v ∈ l → D.atKey (.int .i64 v) (.lit (.int .i64 0)) = .lit (.int .i64 (l.idxOf v : Nat))) (hv : v ≤ 1000000) (hl : v ∉ l) (h2 : w'.ownsMap Tryz.prog 3 (plainElem Tryz.prog 3) b (n + 1) (D.put (.int .i64 v) (.lit (.int .i64 (l.length : Nat))))) : MO w' b (n + 1) (l ++ [v]) := by
 have hk := keyed3.key (key3 v hv)
 refine ⟨_, h1.put _ _, h2, fun x => ?_, fun x hx => ?_⟩
 ·by_cases e : x = v
  ·subst e
   rw [has_put_same h1 hk, decide_eq_true (by simp)]
  ·rw [has_put_other (fun h => e (by injection h with _ h; omega)), h3]
   simp [e]
 ·by_cases e : x = v
  ·subst e
   rw [atKey_put_same h1 hk, List.idxOf_append, if_neg hl]
   simp
  ·have hx' : x ∈ l := by simpa [e] using hx
   rw [atKey_put_other (fun h => e (by injection h with _ h; omega)), h4 x hx', List.idxOf_append, if_pos hx']
def fld (x : S45) : Nat → Int
 | 0 => x.f0.f0
 | 1 => x.f0.f1
 | 2 => x.f1.f0
 | _ => x.f1.f1
def setF (x : S45) (j : Nat) (u : Int) : S45 :=
 match j with
 | 0 => ⟨⟨u, x.f0.f1⟩, x.f1⟩
 | 1 => ⟨⟨x.f0.f0, u⟩, x.f1⟩
 | 2 => ⟨x.f0, ⟨u, x.f1.f1⟩⟩
 | _ => ⟨x.f0, ⟨x.f1.f0, u⟩⟩
def RC (w : World) (base q cap : Nat) (xs : List S45) : Prop := Kd.R k45 36 w base (fun k => k = q) (.slice (some ⟨q, 0, none⟩) xs.length cap) xs
theorem RC.cell {w : World} {base q cap : Nat} {xs : List S45} (h : RC w base q cap xs) (i : Nat) (hi : i < xs.length) (j : Nat) (hj : j < 4) : w.cell? ⟨q, i * 4 + j, none⟩ = some (.int .i64 (fld xs[i] j)) ∧ w.frozen? ⟨q, i * 4 + j, none⟩ = false := by
 obtain ⟨c, _, hM, hc, hf⟩ := Kd.R_elem h z45 (i : Int) (by omega) (by omega)
 rw [Int.toNat_natCast, List.getD_eq_getElem?_getD, List.getElem?_eq_getElem hi] at hM
 obtain rfl := k45_openM hM
 rw [Int.toNat_natCast] at hc hf
 refine ⟨?_, hf j⟩
 match j, hj with
 | 0, _ => exact hc 0 _ rfl
 | 1, _ => exact hc 1 _ rfl
 | 2, _ => exact hc 2 _ rfl
 | 3, _ => exact hc 3 _ rfl
theorem RC.put {w : World} {base q cap : Nat} {xs : List S45} (h : RC w base q cap xs) (i : Nat) (hi : i < xs.length) (j : Nat) (hj : j < 4) (u : Int) : RC (w.setCell ⟨q, i * 4 + j, none⟩ (.int .i64 u)) base q cap (xs.set i (setF xs[i] j u)) := by
 obtain ⟨c, hl, hM, hc, hf⟩ := Kd.R_elem h z45 (i : Int) (by omega) (by omega)
 rw [Int.toNat_natCast, List.getD_eq_getElem?_getD, List.getElem?_eq_getElem hi] at hM
 obtain rfl := k45_openM hM
 unfold RC
 rw [List.length_set]
 have := (Kd.R_seg h (i : Int) (by omega) (by omega) (c := _) (seg := [.int .i64 u]) (j := j) (x' := setF xs[i] j u) (okp := fun _ => False) hl hc (by show j + 1 ≤ 4; omega) (by
  match j, hj with
  | 0, _ => exact k45_mkM _ _ _ _
  | 1, _ => exact k45_mkM _ _ _ _
  | 2, _ => exact k45_mkM _ _ _ _
  | 3, _ => exact k45_mkM _ _ _ _) (fun _ h => h.elim)).1
 rw [Int.toNat_natCast] at this
 exact this
theorem RC.grown {w w' : World} {base q cap : Nat} {xs : List S45} (h : RC w base q cap xs) {row : Option Nat} (hg : w.grownBy w' row) (hne : some q ≠ row) : RC w' base q cap xs := Kd.R_grown h hg (fun k hk => by rw [hk]; exact hne)
end Go.Proofs.YtemhccjjcioodaaGreat.CFin
end
section
namespace Go.Proofs.YtemhccjjcioodaaGreat.CFin
open Go.RowKit Go.Maps Go.Proofs.YtemhccjjcioodaaGreatW.PrintWords Go.Proofs.YtemhccjjcioodaaGreatW.PrintMore Go.Proofs.YtemhccjjcioodaaGreatW.PrintLast Go.Proofs.YtemhccjjcioodaaGreat.U Go.Proofs.YtemhccjjcioodaaGreat.PClusterFinest Go.Proofs.YtemhccjjcioodaaGreat.UFinest Go.Proofs.YtemhccjjcioodaaGreat.UFinEv
theorem grown_row {w a b : World} {g : Nat} {row : Option Nat} (h1 : w.grownBy a (some g)) (h2 : a.grownBy b row) (hr : ∀ k, row = some k → w.heap.size ≤ k) : w.grownBy b (some g) :=
 ⟨h2.os.trans h1.os, h2.tape.trans h1.tape, h2.output.trans h1.output, Nat.le_trans h1.size h2.size, fun k hk hne => (h2.block k (Nat.lt_of_lt_of_le hk h1.size) (fun e => by have := hr k e.symm; omega)).trans (h1.block k hk hne)⟩
attribute [local go_sem] max2_int min2_int max_two min_two
theorem step_there {r : Lab} {m k x ix : Nat} {xs : List S45} (hx : x = r k) (hth : x ∈ firsts r k) (hxs : xs = (firsts r k).map (toS ∘ clu1 r m k)) (hix : ix = (firsts r k).idxOf x) (hl : ix < xs.length) : (firsts r (k + 1)).map (toS ∘ clu1 r m (k + 1)) = xs.set ix (setF xs[ix] 1 ((k : Int) + 1)) := by
 subst hx
 rw [← List.map_map, clu1_there hth, List.map_set, List.map_map, ← hxs, ← hix]
 congr 1
 have : xs[ix] = toS (clu1 r m k (r k)) := by
  subst hxs hix
  rw [List.getElem_map, List.getElem_idxOf]; rfl
 rw [this]
 rfl
theorem step_new {r : Lab} {m k x : Nat} {xs : List S45} (hx : x = r k) (hth : x ∉ firsts r k) (hxs : xs = (firsts r k).map (toS ∘ clu1 r m k)) (y : S45) (hy : y = ⟨⟨k, 0⟩, ⟨m, 0⟩⟩) (hl : xs.length < (xs ++ [y]).length) : (firsts r (k + 1)).map (toS ∘ clu1 r m (k + 1)) = (xs ++ [y]).set xs.length (setF (xs ++ [y])[xs.length] 1 ((k : Int) + 1)) := by
 subst hx hy
 rw [← List.map_map, clu1_new hth, List.map_append, List.map_map, ← hxs, List.getElem_concat_length rfl, List.set_append_right _ _ (Nat.le_refl _), Nat.sub_self]
 rfl
theorem RC.put2 {w : World} {base q cap : Nat} {xs : List S45} (h : RC w base q cap xs) (i : Nat) (hi : i < xs.length) (u v : Int) : RC ((w.setCell ⟨q, i * 4 + 2, none⟩ (.int .i64 u)).setCell ⟨q, i * 4 + 2 + 1, none⟩ (.int .i64 v)) base q cap (xs.set i ⟨xs[i].f0, ⟨u, v⟩⟩) := by
 have h1 := h.put i hi 2 (by omega) u
 have h2 := h1.put i (by rw [List.length_set]; exact hi) 3 (by omega) v
 rw [List.set_set, List.getElem_set_self] at h2
 exact h2
theorem step_out {r : Lab} {n m t i x ix o1 : Nat} {xs : List S45} (ht : t < m) (hi : i = n + t) (hx : x = r i) (hth : x ∈ firsts r n) (hxs : xs = (firsts r n).map (toS ∘ clu2 r n m t)) (hix : ix = (firsts r n).idxOf x) (ho : o1 = (out2 r n m x t).1) (hl : ix < xs.length) (o2 : Int) (h2 : o2 = ((min o1 t : Nat) : Int)) : (firsts r n).map (toS ∘ clu2 r n m (t + 1)) = xs.set ix ⟨xs[ix].f0, ⟨o2, (t : Int) + 1⟩⟩ := by
 subst hi hx h2 ho
 rw [← List.map_map, clu2_step ht hth, List.map_set, List.map_map, ← hxs, ← hix]
 congr 1
 have : xs[ix] = toS (clu2 r n m t (r (n + t))) := by
  subst hxs hix
  rw [List.getElem_map, List.getElem_idxOf]; rfl
 rw [this]
 rfl
set_option maxRecDepth 100000 in
set_option maxHeartbeats 1000000 in
theorem clusters_c {w : World} {base B g n m N cap : Nat} {p : List Int} {r : Lab} (hW : WV w B g n m N cap) (h : LI w base g N cap p) (hne : B ≠ g) (hp : PF N r p) (ho : LabOk N r) (hN : N ≤ 1000) (hnm : n + m = N) (hn : 0 < n)
 (hb : Between (fun x y => r x = r y) 0 n) (hout : ∀ j, j < n → ∃ i, i < m ∧ r (n + i) = r j) (hin : ∀ i, i < m → ∃ j, j < n ∧ r j = r (n + i)) :
 Calls Tryz.prog 193 #[.pointer (some ⟨B, 0, none⟩)] w fun e w' => ∃ u, e = .returned u ∧ Kd.R k45 36 w' w.heap.size (fun _ => True) u (cluS n m r n) ∧ w.grownBy w' (some g) := by
 have HW := Aside0.mk hW
 have HV := Aside0.mk h
 have HP := Aside0.mk hp
 have HO := Aside0.mk ho
 have HBT := Aside0.mk hb
 have HOUT := Aside0.mk hout
 have HIN := Aside0.mk hin
 have hgw := h.ltw
 have hBw := blk_lt hW
 have d1 := (World.grownBy_alloc w (.map #[] 0) none).cell (hW.c1) (by simp)
 have hmm := @run_makeMap Tryz.prog
 have HW5 := Aside0.mk (hW.below (below_alloc (Below.refl _ _) (.map #[] 0)))
 have HV5 := Aside0.mk (h.below (below_alloc (Below.refl _ _) (.map #[] 0)))
 have HM5 := Aside0.mk (MO.made w)
 have HG5 : Aside0 (w.grownBy (w.alloc (.map #[] 0)) (some g)) := ⟨World.grownBy_alloc _ _ _⟩
 clear hW h hp ho hb hout hin
 go_enter Tryz.func193, Tryz.ntmps193
 go_wp2
 obtain ⟨gm, hgm⟩ : ∃ gm, gm = w.heap.size := ⟨_, rfl⟩
 have HGM := Aside0.mk hgm
 have HNG : Aside0 (gm ≠ g) := ⟨by omega⟩
 have HNB : Aside0 (B ≠ gm) := ⟨by omega⟩
 have HM5 : Aside0 (MO (w.alloc (.map #[] 0)) gm 0 []) := ⟨by rw [hgm]; exact HM5.out⟩
 have HGW := Aside0.mk hgw
 have HBW := Aside0.mk hBw
 rw [← hgm]
 clear hgm hmm hgw hBw
 go_loopw [3, 16] (fun v3 v wr => ∃ (k : Nat) (p : List Int), v = .int .i64 (k : Int) ∧ k ≤ n ∧ Aside0 (WV wr B g n m N cap) ∧ Aside0 (LI wr base g N cap p) ∧ Aside0 (PF N r p) ∧ Aside0 (MO wr gm k (firsts r k)) ∧ Aside0 (Kd.R k45 36 wr w.heap.size (fun q => q ≠ g ∧ q ≠ gm) v3 ((firsts r k).map (toS ∘ clu1 r m k))) ∧ Aside0 (w.grownBy wr (some g))) (fun _ v _ => n - (intOf v).toNat)
 case atStart => exact ⟨0, p, rfl, Nat.zero_le _, HW5, HV5, HP, HM5, ⟨Kd.R_nil _ _ _ _ _⟩, HG5⟩
 case round =>
  clear HW5 HV5 HP HM5 HG5 d1
  obtain ⟨k, p, rfl, hk, HW, HV, HP, HM, HR, HG⟩ := hrel
  have d0 := HW.out.c0
  have d2 := HW.out.c2
  obtain ⟨A, c, rfl⟩ := Kd.R_slice HR.out
  by_cases hlt : k < n
  ·have hkI : (k : Int) < (n : Int) := by omega
   have hkN : k < N := by omega
   obtain ⟨x, hx⟩ : ∃ x, x = r k := ⟨_, rfl⟩
   have HXE := Aside0.mk hx
   have hxN : x < N := by have := HO.out.le k hkN; omega
   obtain ⟨xs, hxs⟩ : ∃ xs, xs = (firsts r k).map (toS ∘ clu1 r m k) := ⟨_, rfl⟩
   have hlen : xs.length = (firsts r k).length := by rw [hxs, List.length_map]
   have hlk := firsts_len r k
   rw [← hxs] at HR ⊢
   have HXS := Aside0.mk hxs
   have HLEN := Aside0.mk hlen
   obtain ⟨ln, hln⟩ : ∃ ln, ln = xs.length := ⟨_, rfl⟩
   have e1 : IntKind.i64.wrap ((k : Int) + 1) = ((k + 1 : Nat) : Int) := by rw [IntWalk.i64_in _ (by omega)]; omega
   have hlnN : ln ≤ k := by omega
   have HLK := Aside0.mk hlk
   have HLN := Aside0.mk hln
   rw [← hln] at HR ⊢
   clear hx hlen hlk hxs hln
   by_cases hth : x ∈ firsts r k
   ·obtain ⟨ix, hix⟩ : ∃ ix, ix = (firsts r k).idxOf x := ⟨_, rfl⟩
    have hixl : ix < ln := by rw [HLN.out, HLEN.out, hix]; exact List.idxOf_lt_length_of_mem hth
    have HIX := Aside0.mk hix
    have HTH := Aside0.mk hth
    have hixI : (ix : Int) < (ln : Int) := by omega
    obtain ⟨q, cp, ev, hq1, hq2, _⟩ := Kd.R_form HR.out (by rw [← HLN.out]; omega)
    rw [← HLN.out] at ev
    have HEV := Aside0.mk ev
    injection ev with ev1 ev2 ev3
    clear ev2
    subst ev1 ev3
    have HRC : Aside0 (RC wr w.heap.size q c xs) := ⟨by
     have := HR.out
     rw [HLN.out] at this
     exact Kd.R_mono (Kd.R_tight rfl this) (fun j hj => (Option.some.inj (by simpa [Value.ownBlock] using hj)))⟩
    have HQG : Aside0 (q ≠ g ∧ q ≠ gm) := ⟨HR.out.1 q (by simp [Value.ownBlock])⟩
    have HQ1 := Aside0.mk hq1
    clear hix hth hq1 hq2 HR
    go_wp2_with (first | (go_at_call 253; refine (find_c HV.out HP.out (by omega) k hkN).mono ?_; rintro e w6 ⟨p1, rfl, a1, a2, a3⟩; rw [← HXE.out]; have HV6 := Aside0.mk a1; have HP6 := Aside0.mk a2; have HG6 : Aside0 (wr.grownBy w6 (some g)) := ⟨a3⟩; have hlk := (HM.out.kept a3 (fun e => HNG.out (Option.some.inj e))).look x (by omega); rw [if_pos HTH.out, decide_eq_true HTH.out, ← HIX.out] at hlk; have HRC6 : Aside0 (RC w6 w.heap.size q c xs) := ⟨HRC.out.grown a3 (fun e => HQG.out.1 (Option.some.inj e))⟩; obtain ⟨c1, f1⟩ := HRC6.out.cell ix (by rw [← HLN.out]; exact hixl) 1 (by omega); have HW6 := Aside0.mk (HW.out.grown a3 hne); clear a1 a2 a3 HV HP))
    have hixl' : ix < xs.length := by rw [← HLN.out]; exact hixl
    have HRC7 := Aside0.mk (HRC6.out.put ix hixl' 1 (by omega) ((k : Int) + 1))
    have HG7 : Aside0 (w6.grownBy (w6.setCell ⟨q, ix * 4 + 1, none⟩ (.int .i64 ((k : Int) + 1))) (some q)) := ⟨grown_set _ _ _ _⟩
    have hst := step_there (m := m) HXE.out HTH.out HXS.out HIX.out hixl'
    have hfs : firsts r (k + 1) = firsts r k := by rw [firsts, if_pos (by rw [← HXE.out]; exact HTH.out)]
    refine ⟨⟨k + 1, p1, by go_num, by omega, ⟨HW6.out.grown HG7.out ?_⟩, ⟨HV6.out.grown HG7.out HQG.out.1.symm⟩, HP6, ⟨?_⟩, ⟨?_⟩, ⟨grown_row (World.grownBy.trans HG.out HG6.out) HG7.out (fun j hj => by have := Option.some.inj hj; have := HQ1.out; omega)⟩⟩, by simp [intOf]; omega⟩
    ·have := HQ1.out; have := HBW.out; omega
    ·rw [hfs]
     exact ((HM.out.kept HG6.out (fun e => HNG.out (Option.some.inj e))).kept HG7.out (fun e => HQG.out.2 (Option.some.inj e).symm)).mono (by omega)
    ·rw [hst]
     have := HRC7.out
     unfold RC at this
     rw [List.length_set, ← HLN.out] at this
     exact Kd.R_mono this (fun j hj => by rw [hj]; exact HQG.out)
   ·have HTH := Aside0.mk hth
    clear hth
    have y0 : S45 := ⟨⟨k, 0⟩, ⟨m, 0⟩⟩
    go_wp2_with (first | (go_at_call 253; refine (find_c HV.out HP.out (by omega) k hkN).mono ?_; rintro e w6 ⟨p1, rfl, a1, a2, a3⟩; rw [← HXE.out]; have HV6 := Aside0.mk a1; have HP6 := Aside0.mk a2; have HG6 : Aside0 (wr.grownBy w6 (some g)) := ⟨a3⟩; have hlk := (HM.out.kept a3 (fun e => HNG.out (Option.some.inj e))).look x (by omega); rw [if_neg HTH.out, decide_eq_false HTH.out] at hlk; have HW6 := Aside0.mk (HW.out.grown a3 hne); clear a1 a2 a3 HV HP) | (at_mapUpdate; obtain ⟨D, m1, m2, m3, m4⟩ := HM.out; refine wpList_mapUpdate_own _ rfl _ _ _ 259 rfl 3 3 keyed3 Tryz.underlying259 (plainElem Tryz.prog 3) gm k D rfl (m2.kept HG6.out (by intro e; exact HNG.out (Option.some.inj e))) (by unfold maxLen; omega) _ _ (.int .i64 x) rfl rfl (key3 x (by omega)) _ [] (elem3 ln (by omega)) ?_; intro w7 m5 m6; have HM7 : Aside0 (MO w7 gm (k + 1) (firsts r k ++ [x])) := ⟨MO.put m1 m3 m4 (by omega) HTH.out (by rw [HLN.out, HLEN.out] at m5; exact m5)⟩; have HG7 : Aside0 (w6.grownBy w7 (some gm)) := ⟨m6⟩; have HR7 : Aside0 (Kd.R k45 36 w7 w.heap.size (fun q => q ≠ g ∧ q ≠ gm) (.slice A ln c) xs) := ⟨Kd.R_grown (Kd.R_grown HR.out HG6.out (fun j hj e => hj.1 (Option.some.inj e))) m6 (fun j hj e => hj.2 (Option.some.inj e))⟩; have HW7 := Aside0.mk (HW6.out.grown m6 HNB.out); have d27 := HW7.out.c2; clear m1 m2 m3 m4 m5 m6 HM HR) | ((with_reducible refine gate_builtin (b := .append) (xs := #[.tmp 38, .tmp 47]) rfl ?_); at_builtin; refine Kd.R_append k45 (w0 := w7) w.heap.size rfl (.tmp 38) (.tmp 47) 26 36 (.agg #[(.int .i64 0), (.int .i64 0), (.int .i64 0), (.int .i64 0)]) 32 rfl Tryz.underlying26 info45 rfl (by decide) (by omega) _ xs (⟨⟨(k : Int), 0⟩, ⟨(m : Int), 0⟩⟩ : S45) [.int .i64 k, .int .i64 0, .int .i64 m, .int .i64 0] (fun q => q ≠ g ∧ q ≠ gm) (fun _ => False) rfl (by first | (go_simp; done) | (go_simp; rfl)) (k45_mkM _ _ _ (⟨⟨(k : Int), 0⟩, ⟨(m : Int), 0⟩⟩ : S45)) (fun _ h => h.elim) (fun q hq => ⟨fun e => by have := HGW.out; have := (World.grownBy.trans HG.out HG6.out).size; have := HG7.out.size; omega, fun e => by have := HM7.out.lt; omega⟩) HR7.out (Below.refl _ _) (Nat.le_trans (World.grownBy.trans HG.out HG6.out).size HG7.out.size) (by have := HLN.out; omega) ?_; intro v8 w8 hv hb hg hat; obtain ⟨q, cp, rfl, hq1, hq2, _⟩ := Kd.R_form hv (by simp); have HQG : Aside0 (q ≠ g ∧ q ≠ gm) := ⟨hv.1 q (by simp [Value.ownBlock])⟩; have HRC : Aside0 (RC w8 w.heap.size q cp (xs ++ [(⟨⟨(k : Int), 0⟩, ⟨(m : Int), 0⟩⟩ : S45)])) := ⟨Kd.R_mono (Kd.R_tight rfl hv) (fun j hj => (Option.some.inj (by simpa [Value.ownBlock] using hj)))⟩; have hll : xs.length < (xs ++ [(⟨⟨(k : Int), 0⟩, ⟨(m : Int), 0⟩⟩ : S45)]).length := (by simp); obtain ⟨zz, c1, f1⟩ : ∃ z, w8.cell? ⟨q, ln * 4 + 1, none⟩ = some (.int .i64 z) ∧ w8.frozen? ⟨q, ln * 4 + 1, none⟩ = false := ⟨_, by rw [HLN.out]; exact HRC.out.cell xs.length hll 1 (by omega)⟩; have HQ1 := Aside0.mk hq1; have hsl : (xs ++ [(⟨⟨(k : Int), 0⟩, ⟨(m : Int), 0⟩⟩ : S45)]).length = ln + 1 := (by rw [HLN.out]; simp); rw [hsl]; have HG8 : Aside0 (w7.grownBy w8 (Value.slice A ln c).ownBlock) := ⟨hg⟩; have HRL : Aside0 (∀ j, (Value.slice A ln c).ownBlock = some j → w.heap.size ≤ j ∧ j ≠ g ∧ j ≠ gm) := ⟨fun j hj => ⟨Kd.R_base HR7.out j hj, HR7.out.1 j hj⟩⟩; have hlnI : (ln : Int) < ((ln + 1 : Nat) : Int) := (by omega); clear hv hb hg hat hll hq1 hq2 hsl HR7))
    have hll : xs.length < (xs ++ [(⟨⟨(k : Int), 0⟩, ⟨(m : Int), 0⟩⟩ : S45)]).length := by simp
    have HRC9 : Aside0 (RC (w8.setCell ⟨q, ln * 4 + 1, none⟩ (.int .i64 ((k : Int) + 1))) w.heap.size q cp ((xs ++ [(⟨⟨(k : Int), 0⟩, ⟨(m : Int), 0⟩⟩ : S45)]).set xs.length (setF (xs ++ [(⟨⟨(k : Int), 0⟩, ⟨(m : Int), 0⟩⟩ : S45)])[xs.length] 1 ((k : Int) + 1)))) := ⟨by rw [HLN.out]; exact HRC.out.put xs.length hll 1 (by omega) ((k : Int) + 1)⟩
    have HG9 : Aside0 (w8.grownBy (w8.setCell ⟨q, ln * 4 + 1, none⟩ (.int .i64 ((k : Int) + 1))) (some q)) := ⟨grown_set _ _ _ _⟩
    have hst := step_new (m := m) HXE.out HTH.out HXS.out _ rfl hll
    have hfs : firsts r (k + 1) = firsts r k ++ [x] := by rw [firsts, if_neg (by rw [← HXE.out]; exact HTH.out), HXE.out]
    refine ⟨⟨k + 1, p1, by go_num, by omega, ⟨?_⟩, ⟨?_⟩, HP6, ⟨?_⟩, ⟨?_⟩, ⟨?_⟩⟩, by simp [intOf]; omega⟩
    ·have h8 : WV w8 B g n m N cap := (HG8.out.block _ (blk_lt HW7.out) (fun e => by have := (HRL.out B e.symm).1; have := HBW.out; omega)).trans HW7.out
     exact h8.grown HG9.out (by have := HQ1.out; have := HBW.out; omega)
    ·have h8 : LI w8 base g N cap p1 := Kd.R_grown (Kd.R_grown HV6.out HG7.out (fun j hj e => HNG.out ((Option.some.inj e).symm.trans hj))) HG8.out (fun j hj e => (HRL.out j e.symm).2.1 hj)
     exact h8.grown HG9.out HQG.out.1.symm
    ·rw [hfs]
     exact (HM7.out.kept HG8.out (fun e => (HRL.out gm e.symm).2.2 rfl)).kept HG9.out (fun e => HQG.out.2 (Option.some.inj e).symm)
    ·rw [hst]
     have hl2 : ((xs ++ [(⟨⟨(k : Int), 0⟩, ⟨(m : Int), 0⟩⟩ : S45)]).set xs.length (setF (xs ++ [(⟨⟨(k : Int), 0⟩, ⟨(m : Int), 0⟩⟩ : S45)])[xs.length] 1 ((k : Int) + 1))).length = ln + 1 := by rw [HLN.out]; simp
     rw [← hl2]
     exact Kd.R_mono HRC9.out (fun j hj => by rw [hj]; exact HQG.out)
    ·exact grown_row (grown_row (grown_row (World.grownBy.trans HG.out HG6.out) HG7.out (fun j hj => by have := Option.some.inj hj; have := HGM.out; omega)) HG8.out (fun j hj => (HRL.out j hj).1)) HG9.out (fun j hj => by have := Option.some.inj hj; have := HQ1.out; omega)
  ·have ek : k = n := by omega
   subst ek
   have HR2 : Aside0 (Kd.R k45 36 wr w.heap.size (fun q => q ≠ g ∧ q ≠ gm) (.slice A (List.map (toS ∘ clu1 r m k) (firsts r k)).length c) ((firsts r k).map (toS ∘ clu2 r k m 0))) := ⟨by have := HR.out; rwa [show (firsts r k).map (toS ∘ clu1 r m k) = (firsts r k).map (toS ∘ clu2 r k m 0) by rw [← List.map_map, clu2_start, List.map_map]] at this⟩
   rw [List.length_map] at HR2 ⊢
   obtain ⟨ln, hln⟩ : ∃ ln, ln = (firsts r k).length := ⟨_, rfl⟩
   rw [← hln] at HR2 ⊢
   have HLN := Aside0.mk hln
   clear hln HR
   have HSG : Aside0 (∀ j, (Value.slice A ln c).ownBlock = some j → w.heap.size ≤ j ∧ j ≠ g ∧ j ≠ gm) := ⟨fun j hj => ⟨Kd.R_base HR2.out j hj, HR2.out.1 j hj⟩⟩
   go_wp2_with fail
   go_loopw [61] (fun v wr => ∃ (t : Nat) (p : List Int), v = .int .i64 (t : Int) ∧ t ≤ m ∧ Aside0 (WV wr B g k m N cap) ∧ Aside0 (LI wr base g N cap p) ∧ Aside0 (PF N r p) ∧ Aside0 (MO wr gm k (firsts r k)) ∧ Aside0 (Kd.R k45 36 wr w.heap.size (fun q => q ≠ g ∧ q ≠ gm) (.slice A ln c) ((firsts r k).map (toS ∘ clu2 r k m t))) ∧ Aside0 (w.grownBy wr (some g))) (fun v _ => m - (intOf v).toNat)
   case atStart => exact ⟨0, p, rfl, Nat.zero_le _, HW, HV, HP, HM, HR2, HG⟩
   case round =>
    clear HW HV HP HM HR2 HG d0 d2 hlt
    obtain ⟨t, p, rfl, ht, HW, HV, HP, HM, HR, HG⟩ := hrel
    have d0 := HW.out.c0
    have d1 := HW.out.c1
    by_cases hlt : t < m
    ·have htI : (t : Int) < (m : Int) := by omega
     obtain ⟨i, hi⟩ : ∃ i, i = k + t := ⟨_, rfl⟩
     have hiN : i < N := by omega
     have e2 : IntKind.i64.wrap ((k : Int) + (t : Int)) = (i : Int) := by rw [IntWalk.i64_in _ (by omega)]; omega
     have HI := Aside0.mk hi
     obtain ⟨x, hx⟩ : ∃ x, x = r i := ⟨_, rfl⟩
     have hxN : x < N := by have := HO.out.le i hiN; omega
     have HX := Aside0.mk hx
     have hth : x ∈ firsts r k := by
      obtain ⟨j, hj, e⟩ := HIN.out t hlt
      exact (mem_firsts r k x).2 ⟨j, hj, by rw [hx, hi]; exact e⟩
     obtain ⟨ix, hix⟩ : ∃ ix, ix = (firsts r k).idxOf x := ⟨_, rfl⟩
     have hixl : ix < ln := by rw [HLN.out, hix]; exact List.idxOf_lt_length_of_mem hth
     have HIX := Aside0.mk hix
     have HTH := Aside0.mk hth
     have hixI : (ix : Int) < (ln : Int) := by omega
     clear hi hx hth hix
     have HVd : Aside0 (LI wr.drew base g N cap p) := ⟨Kd.R_drew HV.out⟩
     obtain ⟨q, cp, ev, hq1, hq2, _⟩ := Kd.R_form HR.out (by rw [List.length_map, ← HLN.out]; omega)
     injection ev with ev1 ev2 ev3
     clear ev2
     subst ev1 ev3
     have HQG : Aside0 (q ≠ g ∧ q ≠ gm) := ⟨HR.out.1 q (by simp [Value.ownBlock])⟩
     have HQ1 := Aside0.mk hq1
     clear hq1 hq2
     go_wp2_with fail
     refine start_ (n := 16) (S := (fun W => W.cell? ⟨B, 0, none⟩ = some (.slice (some ⟨g, 0, none⟩) N cap) ∧ W.cell? ⟨B, 1, none⟩ = some (.int .i64 k))) (ds := [12, 13]) #[false, false, false, false, false, false, false, false, false, false, false, false, false, false, false, false] (by kernel_rfl) (by kernel_rfl) (by rfl) (⟨d0, d1⟩) (fun hS0 => ?_)
     refine pure_ (i := 0) (N := (some 64)) (v := ?_) (a' := ?_) #[true, false, false, false, false, false, false, false, false, false, false, false, false, false, false, false] rfl rfl (by kernel_rfl) (fun _ _ _ h => h) (Or.inl ⟨by rfl, ?_⟩) ?_ ?_
     rotate_left
     ·intro w'
      go_simp
      with_reducible rfl
     rotate_left
     ·simp only [Act.put, List.setIfInBounds_toArray, List.set_cons_zero, List.set_cons_succ]
      rfl
     refine pure_ (i := 1) (N := (some 65)) (v := ?_) (a' := ?_) #[true, true, false, false, false, false, false, false, false, false, false, false, false, false, false, false] rfl rfl (by kernel_rfl) (fun _ _ _ h => h) (Or.inl ⟨by rfl, ?_⟩) ?_ ?_
     rotate_left
     ·intro w'
      go_simp
      with_reducible rfl
     rotate_left
     ·simp only [Act.put, List.setIfInBounds_toArray, List.set_cons_zero, List.set_cons_succ]
      rfl
     refine pure_ (i := 2) (N := (some 66)) (v := ?_) (a' := ?_) #[true, true, true, false, false, false, false, false, false, false, false, false, false, false, false, false] rfl rfl (by kernel_rfl) (fun _ _ _ h => h) (Or.inl ⟨by rfl, ?_⟩) ?_ ?_
     rotate_left
     ·intro w'
      go_simp
      with_reducible rfl
     rotate_left
     ·simp only [Act.put, List.setIfInBounds_toArray, List.set_cons_zero, List.set_cons_succ]
      rfl
     refine pure_ (i := 3) (N := (some 67)) (v := ?_) (a' := ?_) #[true, true, true, true, false, false, false, false, false, false, false, false, false, false, false, false] rfl rfl (by kernel_rfl) (fun _ _ _ h => h) (Or.inl ⟨by rfl, ?_⟩) ?_ ?_
     rotate_left
     ·intro w'
      go_simp
      with_reducible rfl
     rotate_left
     ·simp only [Act.put, List.setIfInBounds_toArray, List.set_cons_zero, List.set_cons_succ]
      rfl
     refine pure_ (i := 4) (N := (some 68)) (v := ?_) (a' := ?_) #[true, true, true, true, true, false, false, false, false, false, false, false, false, false, false, false] rfl rfl (by kernel_rfl) (fun _ _ _ h => h) (Or.inl ⟨by rfl, ?_⟩) ?_ ?_
     rotate_left
     ·intro w'
      go_simp
      with_reducible rfl
     rotate_left
     ·simp only [Act.put, List.setIfInBounds_toArray, List.set_cons_zero, List.set_cons_succ]
      rfl
     refine take_ (i := 5) (N := (some 69)) (v := ?_) (a' := ?_) #[true, true, true, true, true, true, false, false, false, false, false, false, false, false, false, false] rfl rfl (by kernel_rfl) (fun _ _ _ h => h) (Or.inl ⟨by rfl, ?_⟩) hS0 ?_ ?_
     rotate_left
     ·intro w' s0
      obtain ⟨hx0, hx1⟩ := s0
      go_simp
      with_reducible rfl
     rotate_left
     ·simp only [Act.put, List.setIfInBounds_toArray, List.set_cons_zero, List.set_cons_succ]
      rfl
     refine pure_ (i := 6) (N := (some 70)) (v := ?_) (a' := ?_) #[true, true, true, true, true, true, true, false, false, false, false, false, false, false, false, false] rfl rfl (by kernel_rfl) (fun _ _ _ h => h) (Or.inl ⟨by rfl, ?_⟩) ?_ ?_
     rotate_left
     ·intro w'
      go_simp
      with_reducible rfl
     rotate_left
     ·simp only [Act.put, List.setIfInBounds_toArray, List.set_cons_zero, List.set_cons_succ]
      rfl
     refine pure_ (i := 7) (N := (some 71)) (v := ?_) (a' := ?_) #[true, true, true, true, true, true, true, true, false, false, false, false, false, false, false, false] rfl rfl (by kernel_rfl) (fun _ _ _ h => h) (Or.inl ⟨by rfl, ?_⟩) ?_ ?_
     rotate_left
     ·intro w'
      go_simp
      with_reducible rfl
     rotate_left
     ·simp only [Act.put, List.setIfInBounds_toArray, List.set_cons_zero, List.set_cons_succ]
      rfl
     refine pure_ (i := 8) (N := (some 72)) (v := ?_) (a' := ?_) #[true, true, true, true, true, true, true, true, true, false, false, false, false, false, false, false] rfl rfl (by kernel_rfl) (fun _ _ _ h => h) (Or.inl ⟨by rfl, ?_⟩) ?_ ?_
     rotate_left
     ·intro w'
      go_simp
      with_reducible rfl
     rotate_left
     ·simp only [Act.put, List.setIfInBounds_toArray, List.set_cons_zero, List.set_cons_succ]
      rfl
     refine take_ (i := 9) (N := (some 73)) (v := ?_) (a' := ?_) #[true, true, true, true, true, true, true, true, true, true, false, false, false, false, false, false] rfl rfl (by kernel_rfl) (fun _ _ _ h => h) (Or.inl ⟨by rfl, ?_⟩) hS0 ?_ ?_
     rotate_left
     ·intro w' s0
      obtain ⟨hx0, hx1⟩ := s0
      go_simp
      with_reducible rfl
     rotate_left
     ·simp only [Act.put, List.setIfInBounds_toArray, List.set_cons_zero, List.set_cons_succ]
      rfl
     refine pure_ (i := 10) (N := (some 74)) (v := ?_) (a' := ?_) #[true, true, true, true, true, true, true, true, true, true, true, false, false, false, false, false] rfl rfl (by kernel_rfl) (fun _ _ _ h => h) (Or.inl ⟨by rfl, ?_⟩) ?_ ?_
     rotate_left
     ·intro w'
      go_simp
      with_reducible rfl
     rotate_left
     ·simp only [Act.put, List.setIfInBounds_toArray, List.set_cons_zero, List.set_cons_succ]
      rfl
     refine pure_ (i := 11) (N := (some 75)) (v := ?_) (a' := ?_) #[true, true, true, true, true, true, true, true, true, true, true, true, false, false, false, false] rfl rfl (by kernel_rfl) (fun _ _ _ h => h) (Or.inl ⟨by rfl, ?_⟩) ?_ ?_
     rotate_left
     ·intro w'
      go_simp
      with_reducible rfl
     rotate_left
     ·simp only [Act.put, List.setIfInBounds_toArray, List.set_cons_zero, List.set_cons_succ]
      rfl
     clear hS0
     refine last_ (i := 12) (N := (some 76)) #[true, true, true, true, true, true, true, true, true, true, true, true, true, false, false, false] rfl rfl (by kernel_rfl) (by decide) (fun K hK => ?_)
     refine goes_ Tryz.func253 (by kernel_rfl) rfl #[.slice (some ⟨g, 0, none⟩) N cap, .int .i64 i] (by rfl) rfl rfl (by go_simp; done) ?_
     refine (find_c HVd.out HP.out (by omega) i hiN).mono ?_
     rintro e w6 ⟨p1, rfl, a1, a2, a3⟩
     refine ⟨_, rfl, ?_⟩
     rw [← HX.out]
     have HV6 := Aside0.mk a1
     have HP6 := Aside0.mk a2
     have HG6 : Aside0 (wr.grownBy w6 (some g)) := ⟨World.grownBy.trans (below_grownBy (below_drew (Below.refl _ _)) _) a3⟩
     clear a1 a2 a3 HV HVd HP
     change K (Act.put _ (some 76) _) _
     refine hK.out _ _ ?_
     clear hK
     refine norm_ (a' := ?_) ?_ ?_
     rotate_left
     ·simp only [Act.put, List.setIfInBounds_toArray, List.set_cons_zero, List.set_cons_succ]
      rfl
     refine last_ (i := 13) (N := (some 77)) #[true, true, true, true, true, true, true, true, true, true, true, true, true, true, false, false] rfl rfl (by kernel_rfl) (by decide) (fun K hK => ?_)
     have hlk := (HM.out.kept HG6.out (fun e => HNG.out (Option.some.inj e))).lookup x (by omega) HTH.out
     rw [← HIX.out] at hlk
     refine value_ (w1 := w6) (v := .int .i64 ix) (by rfl) rfl (by unfold execOp; simp [hlk, Act.eval]) ?_
     change K (Act.put _ (some 77) _) _
     refine hK.out _ _ ?_
     clear hK
     refine norm_ (a' := ?_) ?_ ?_
     rotate_left
     ·simp only [Act.put, List.setIfInBounds_toArray, List.set_cons_zero, List.set_cons_succ]
      rfl
     refine pure_ (i := 14) (N := (some 78)) (v := ?_) (a' := ?_) #[true, true, true, true, true, true, true, true, true, true, true, true, true, true, true, false] rfl rfl (by kernel_rfl) (fun _ _ _ h => h) (Or.inl ⟨by rfl, ?_⟩) ?_ ?_
     rotate_left
     ·intro w'
      go_simp
      with_reducible rfl
     rotate_left
     ·simp only [Act.put, List.setIfInBounds_toArray, List.set_cons_zero, List.set_cons_succ]
      rfl
     refine pure_ (i := 15) (N := (some 10)) (v := ?_) (a' := ?_) #[true, true, true, true, true, true, true, true, true, true, true, true, true, true, true, true] rfl rfl (by kernel_rfl) (fun _ _ _ h => h) (Or.inl ⟨by rfl, ?_⟩) ?_ ?_
     rotate_left
     ·intro w'
      go_simp
      with_reducible rfl
     rotate_left
     ·simp only [Act.put, List.setIfInBounds_toArray, List.set_cons_zero, List.set_cons_succ]
      rfl
     refine done_ (by kernel_rfl) ?_
     obtain ⟨xs, hxs⟩ : ∃ xs, xs = (firsts r k).map (toS ∘ clu2 r k m t) := ⟨_, rfl⟩
     have hlen : xs.length = ln := by rw [hxs, List.length_map, HLN.out]
     have HXS := Aside0.mk hxs
     have HLEN := Aside0.mk hlen
     have HRC6 : Aside0 (RC w6 w.heap.size q c xs) := ⟨by
      have h6 := Kd.R_grown HR.out HG6.out (fun j hj e => hj.1 (Option.some.inj e))
      rw [← hxs, ← hlen] at h6
      exact Kd.R_mono (Kd.R_tight rfl h6) (fun j hj => (Option.some.inj (by simpa [Value.ownBlock] using hj)))⟩
     have hxi : ix < xs.length := by omega
     obtain ⟨o1, ho1⟩ : ∃ o1, o1 = (out2 r k m x t).1 := ⟨_, rfl⟩
     have HO1 := Aside0.mk ho1
     have hf2 : fld xs[ix] 2 = (o1 : Int) := by
      have : xs[ix] = toS (clu2 r k m t x) := by
       have hix := HIX.out
       subst hxs hix
       rw [List.getElem_map, List.getElem_idxOf]; rfl
      rw [this, ho1]; rfl
     obtain ⟨c2, f2⟩ := HRC6.out.cell ix hxi 2 (by omega)
     rw [hf2] at c2
     obtain ⟨c3, f3⟩ := HRC6.out.cell ix hxi 3 (by omega)
     generalize fld xs[ix] 3 = z3 at c3
     clear hxs hlen ho1 hf2
     by_cases hlo : o1 ≤ t
     ·have hloI : (o1 : Int) ≤ (t : Int) := by omega
      have hloJ : ¬ (t : Int) < (o1 : Int) := by omega
      go_wp2_with fail
      have HP2 := HRC6.out.put2 ix hxi (o1 : Int) ((t : Int) + 1)
      have hg7 : w6.grownBy ((w6.setCell ⟨q, ix * 4 + 2, none⟩ (.int .i64 (o1 : Int))).setCell ⟨q, ix * 4 + 2 + 1, none⟩ (.int .i64 ((t : Int) + 1))) (some q) := World.grownBy.trans (grown_set _ _ _ _) (grown_set _ _ _ _)
      have hst := step_out hlt HI.out HX.out HTH.out HXS.out HIX.out HO1.out hxi (o1 : Int) (by omega)
      refine ⟨⟨t + 1, p1, by go_num, by omega, ⟨(HW.out.grown HG6.out hne).grown hg7 (by have := HQ1.out; have := HBW.out; omega)⟩, ⟨HV6.out.grown hg7 HQG.out.1.symm⟩, HP6, ⟨(HM.out.kept HG6.out (fun e => HNG.out (Option.some.inj e))).kept hg7 (fun e => HQG.out.2 (Option.some.inj e).symm)⟩, ⟨?_⟩, ⟨grown_row (World.grownBy.trans HG.out HG6.out) hg7 (fun j hj => by have := Option.some.inj hj; have := HQ1.out; omega)⟩⟩, by simp [intOf]; omega⟩
      rw [hst]
      unfold RC at HP2
      rw [List.length_set, HLEN.out] at HP2
      exact Kd.R_mono HP2 (fun j hj => by rw [hj]; exact HQG.out)
     ·have hloI : (t : Int) < (o1 : Int) := by omega
      have hloJ : ¬ (o1 : Int) ≤ (t : Int) := by omega
      go_wp2_with fail
      have HP2 := HRC6.out.put2 ix hxi (t : Int) ((t : Int) + 1)
      have hg7 : w6.grownBy ((w6.setCell ⟨q, ix * 4 + 2, none⟩ (.int .i64 (t : Int))).setCell ⟨q, ix * 4 + 2 + 1, none⟩ (.int .i64 ((t : Int) + 1))) (some q) := World.grownBy.trans (grown_set _ _ _ _) (grown_set _ _ _ _)
      have hst := step_out hlt HI.out HX.out HTH.out HXS.out HIX.out HO1.out hxi (t : Int) (by omega)
      refine ⟨⟨t + 1, p1, by go_num, by omega, ⟨(HW.out.grown HG6.out hne).grown hg7 (by have := HQ1.out; have := HBW.out; omega)⟩, ⟨HV6.out.grown hg7 HQG.out.1.symm⟩, HP6, ⟨(HM.out.kept HG6.out (fun e => HNG.out (Option.some.inj e))).kept hg7 (fun e => HQG.out.2 (Option.some.inj e).symm)⟩, ⟨?_⟩, ⟨grown_row (World.grownBy.trans HG.out HG6.out) hg7 (fun j hj => by have := Option.some.inj hj; have := HQ1.out; omega)⟩⟩, by simp [intOf]; omega⟩
      rw [hst]
      unfold RC at HP2
      rw [List.length_set, HLEN.out] at HP2
      exact Kd.R_mono HP2 (fun j hj => by rw [hj]; exact HQG.out)
    ·have et : t = m := by omega
     subst et
     have HEND : Aside0 ((firsts r k).map (toS ∘ clu2 r k t t) = cluS k t r k) := ⟨by rw [← List.map_map, clu2_end HBT.out HOUT.out]; rfl⟩
     go_wp2_with fail
     go_ret
     exact ⟨_, rfl, by rw [← HEND.out]; exact Kd.R_mono HR.out (fun _ _ => trivial), HG.out⟩
end Go.Proofs.YtemhccjjcioodaaGreat.CFin
end
section
namespace Go.Proofs.YtemhccjjcioodaaGreat.CFin
open Go.RowKit Go.Maps Go.Proofs.YtemhccjjcioodaaGreatW.PrintWords Go.Proofs.YtemhccjjcioodaaGreatW.PrintMore Go.Proofs.YtemhccjjcioodaaGreatW.PrintLast Go.Proofs.YtemhccjjcioodaaGreat.U Go.Proofs.YtemhccjjcioodaaGreat.PClusterFinest Go.Proofs.YtemhccjjcioodaaGreat.UFinest Go.Proofs.YtemhccjjcioodaaGreat.UFinEv
theorem wrong_ok {n m : Nat} {l : List S45} (hn : 0 < n) (hm : 0 < m) (hw : wrongR n m l = 0) : (∀ x ∈ l, LinkOk n m x) ∧ ∀ i, i < m → outB l i = true := by
 unfold wrongR at hw
 split at hw
 ·cases hw
 ·split at hw
  ·rename_i h1 h2
   refine ⟨fun x hx => ?_, ?_⟩
   ·have := List.all_eq_true.1 h2 x hx
    unfold okB fitB at this
    simp only [Bool.and_eq_true, decide_eq_true_eq] at this
    exact ⟨this.1.1.1, this.1.1.2, this.1.2, this.2.1.1, this.2.1.2, this.2.2⟩
   ·unfold wrongIn at hw
    rw [if_neg (by omega), if_neg (by omega), Int.toNat_natCast] at hw
    split at hw
    ·rename_i h3
     intro i hi
     exact List.all_eq_true.1 h3 i (List.mem_range.2 hi)
    ·cases hw
  ·cases hw
theorem outB_met {m : Nat} {l : List S45} (hl : ∀ x ∈ l, 0 ≤ x.f1.f0) (hc : ∀ i, i < m → outB l i = true) (i : Nat) (hi : i < m) : ∃ x ∈ l.map lkOf, x.c ≤ i ∧ i < x.d := by
 have := hc i hi
 unfold outB at this
 obtain ⟨x, hx, h⟩ := List.any_eq_true.1 this
 simp only [Bool.and_eq_true, decide_eq_true_eq] at h
 have := hl x hx
 exact ⟨lkOf x, List.mem_map.2 ⟨x, hx, rfl⟩, by unfold lkOf; dsimp only; omega, by unfold lkOf; dsimp only; omega⟩
theorem lk_wf {n m : Nat} {l : List S45} (h : ∀ x ∈ l, LinkOk n m x) : (∀ x ∈ l.map lkOf, x.a < x.b ∧ x.c < x.d) ∧ (∀ x ∈ l.map lkOf, x.a < x.b ∧ x.b ≤ n) ∧ ∀ x ∈ l.map lkOf, x.d ≤ m := by
 have key : ∀ x ∈ l.map lkOf, (x.a < x.b ∧ x.b ≤ n) ∧ (x.c < x.d ∧ x.d ≤ m) := fun x hx => by
  obtain ⟨z, hz, rfl⟩ := List.mem_map.1 hx
  have h := h z hz
  have := h.a0; have := h.ab; have := h.bn; have := h.c0; have := h.cd; have := h.dm
  unfold lkOf; dsimp only; omega
 exact ⟨fun x hx => ⟨(key x hx).1.1, (key x hx).2.1⟩, fun x hx => (key x hx).1, fun x hx => (key x hx).2.2⟩
theorem first_lt {n m : Nat} {l : List S45} (hn : 0 < n) (hm : 0 < m) (h : ∀ x ∈ l, LinkOk n m x) (hc : ∀ i, i < m → outB l i = true) : firstF (l.map lkOf) n < n := by
 obtain ⟨x, hx, _, _⟩ := outB_met (fun x hx => (h x hx).c0) hc 0 hm
 have hw := (lk_wf h).2.1 x hx
 unfold firstF
 have := List.findIdx_lt_length_of_exists (xs := List.range n) (p := linkedB (l.map lkOf)) ⟨x.a, List.mem_range.2 (by omega), by
  unfold linkedB
  rw [List.any_eq_true]
  exact ⟨x, hx, by simp; omega⟩⟩
 simpa using this
theorem labOk_linkF {n N : Nat} {r : Lab} (h : LabOk N r) (x : Lk) (h1 : x.a < x.b) (h2 : x.b ≤ n) (h3 : x.c < x.d) (h4 : n + x.d ≤ N) : LabOk N (linkF n r x) := by
 unfold linkF
 exact (labOk_allF (labOk_allF h _ _ (by omega)) _ _ (by omega)).merge _ _ (by omega) (by omega)
theorem labOk_links {n N : Nat} (l : List Lk) (hl : ∀ x ∈ l, x.a < x.b ∧ x.b ≤ n ∧ x.c < x.d ∧ n + x.d ≤ N) : ∀ r, LabOk N r → LabOk N (linksF n r l) := by
 induction l with
 | nil => intro r h; exact h
 | cons x l ih =>
  intro r h
  obtain ⟨h1, h2, h3, h4⟩ := hl x List.mem_cons_self
  exact ih (fun y hy => hl y (List.mem_cons_of_mem _ hy)) _ (labOk_linkF h x h1 h2 h3 h4)
theorem labOk_stray {n N : Nat} (l : List Lk) (hf : firstF l n < n) (hN : n ≤ N) (k : Nat) (hk : k ≤ n) : ∀ r, LabOk N r → LabOk N (strayF l n r k) := by
 induction k with
 | zero => intro r h; exact h
 | succ k ih =>
  intro r h
  have h := ih (by omega) r h
  show LabOk N (if linkedB l k then strayF l n r k else if firstF l n < k then merge (strayF l n r k) (k - 1) k else merge (strayF l n r k) k (k + 1))
  split
  ·exact h
  ·rename_i h0
   split
   ·exact h.merge _ _ (by omega) (by omega)
   ·refine h.merge _ _ (by omega) ?_
    rename_i h1
    have : k ≠ firstF l n := fun e => h0 (by rw [e]; exact first_linked l n hf)
    omega
set_option maxRecDepth 100000 in
set_option maxHeartbeats 2000000 in
theorem finest_bad {w : World} {v : Value} {l : List S45} (n m : Int) (h : SLk k45 w v l) (hl : l.length ≤ 1000000) (hb : wrongR n m l ≠ 0 ∨ n = 0) :
 Calls Tryz.prog 120 #[.int .i64 n, .int .i64 m, v] w fun e w' => e = .returned (.tuple #[.slice none 0 0, .int .i64 (wrongR n m l)]) ∧ Below w.heap.size w w' := by
 have H := Aside0.mk h
 obtain ⟨A, c, rfl, _, _⟩ := h
 obtain ⟨r, hr⟩ : ∃ r, r = wrongR n m l := ⟨_, rfl⟩
 rw [← hr] at hb ⊢
 have HR := Aside0.mk hr; clear hr
 go_enter Tryz.func120, Tryz.ntmps120
 by_cases h0 : r = 0
 ·subst h0
  obtain rfl : n = 0 := by rcases hb with h | h; exact absurd rfl h; exact h
  clear hb
  go_wp2_with (go_at_call 188; refine (may_c 0 m H.out hl).mono ?_; rintro e w1 ⟨rfl, hb1⟩; rw [← HR.out]; have HB1 := Aside0.mk hb1; clear hb1)
  refine bodyPost_ret (results_tmp2 rfl _ _ _) rfl ?_
  exact ⟨rfl, HB1.out⟩
 ·clear hb
  go_wp2_with (go_at_call 188; refine (may_c n m H.out hl).mono ?_; rintro e w1 ⟨rfl, hb1⟩; rw [← HR.out]; have HB1 := Aside0.mk hb1; clear hb1)
  refine bodyPost_ret (results_tmp2 rfl _ _ _) rfl ?_
  exact ⟨rfl, HB1.out⟩
set_option maxRecDepth 100000 in
set_option maxHeartbeats 2000000 in
theorem finest_c {w : World} {v : Value} {l : List S45} (n m : Nat) (h : SLk k45 w v l) (hl : l.length ≤ 5000) (hn : 0 < n) (hm : 0 < m) (hnm : n + m ≤ 1000) (hw : wrongR n m l = 0) :
 Calls Tryz.prog 120 #[.int .i64 n, .int .i64 m, v] w fun e w' => ∃ (u : Value) (L : Lab), e = .returned (.tuple #[u, .int .i64 0]) ∧ FinOk n m (l.map lkOf) L ∧ Kd.R k45 36 w' w.heap.size (fun _ => True) u (cluS n m L n) ∧ Below w.heap.size w w' := by
 have H := Aside0.mk h
 obtain ⟨A, c, rfl, hcc, hC⟩ := h
 have HC := Aside0.mk hC
 have HW := Aside0.mk hw
 obtain ⟨hlk, hcov⟩ := wrong_ok hn hm hw
 have HLK := Aside0.mk hlk
 have HCOV := Aside0.mk hcov
 have HF := Aside0.mk (first_lt hn hm hlk hcov)
 obtain ⟨N, hN⟩ : ∃ N, N = n + m := ⟨_, rfl⟩
 have e0 : IntKind.i64.wrap ((n : Int) + (m : Int)) = (N : Int) := by rw [IntWalk.i64_in _ (by omega)]; omega
 have hn0 : ¬ (n : Int) = 0 := by omega
 have hNN : N ≤ 1000 := by omega
 have HNM := Aside0.mk hN
 clear hw hlk hcov hC hcc hnm hN
 go_enter Tryz.func120, Tryz.ntmps120
 go_wp2_with (first | (go_at_call 188; refine (may_c n m H.out (by omega)).mono ?_; rintro e w1 ⟨rfl, hb1⟩; rw [HW.out]; have HB1 := Aside0.mk hb1; clear hb1) | (go_at_call 189; refine (alone_c N (by omega)).mono ?_; rintro e w2 ⟨g, cap, p, rfl, a1, a2, a3⟩; have HV2 := Aside0.mk a1; have HP2 := Aside0.mk a2; have HGB := Aside0.mk (Nat.le_trans HB1.out.size a1.lt); have HB2 : Aside0 (Below w.heap.size w w2) := ⟨below_step HB1.out a3⟩; clear a1 a2 a3 HB1) | ((with_reducible refine gate_dst (N := 35) rfl ?_); refine box_event ?hg (N := 35) ?hd (cs := #[.slice (some ⟨g, 0, none⟩) N cap, .int .i64 n, .int .i64 m]) (t := 217) ?hr ?_; (case hd => rfl); (case hg => rfl); (case hr => first | (go_simp; done) | (go_simp; rfl)); intro B hg w3 hbox hb; have HW3 : Aside0 (WV w3 B g n m N cap) := ⟨hbox⟩; have HV3 := Aside0.mk (HV2.out.below hb); have HNE : Aside0 (B ≠ g) := ⟨by have := HV2.out.ltw; omega⟩; have HBB : Aside0 (w.heap.size ≤ B) := ⟨by rw [hg]; exact HB2.out.size⟩; have HB3 : Aside0 (Below w.heap.size w w3) := ⟨below_step HB2.out hb⟩; clear hg hbox hb HV2 HB2))
 obtain ⟨w2base, hwb⟩ : ∃ b, b = w1.heap.size := ⟨_, rfl⟩
 rw [← hwb] at HV3
 clear hwb
 go_loopw [38] (fun v wr => ∃ (k : Nat) (p : List Int), v = .int .i64 (k : Int) ∧ k ≤ l.length ∧ Aside0 (WV wr B g n m N cap) ∧ Aside0 (LI wr w2base g N cap p) ∧ Aside0 (PF N (linksF n idL ((l.take k).map lkOf)) p) ∧ Aside0 (Below w.heap.size w wr)) (fun v _ => l.length - (intOf v).toNat)
 case atStart => exact ⟨0, p, rfl, Nat.zero_le _, HW3, HV3, HP2, HB3⟩
 case round =>
  clear HW3 HV3 HP2 HB3
  obtain ⟨k, p, rfl, hk, HW, HV, HP, HB⟩ := hrel
  have HO : Aside0 (LabOk N (linksF n idL ((l.take k).map lkOf))) := ⟨labOk_links _ (fun x hx => by
   obtain ⟨z, hz, rfl⟩ := List.mem_map.1 hx
   have hz' := List.mem_of_mem_take hz
   have hk1 := (lk_wf HLK.out).2.1 _ (List.mem_map.2 ⟨z, hz', rfl⟩)
   have hk2 := (lk_wf HLK.out).1 _ (List.mem_map.2 ⟨z, hz', rfl⟩)
   have hk3 := (lk_wf HLK.out).2.2 _ (List.mem_map.2 ⟨z, hz', rfl⟩)
   have := HNM.out
   exact ⟨hk1.1, hk1.2, hk2.2, by omega⟩) _ (labOk_id N)⟩
  by_cases hlt : k < l.length
  ·obtain ⟨ad, ead, c0, c1, c2, c3⟩ := at_T45 (Kd.C_below HC.out HB.out) (k : Int) (by omega) (by omega)
   rw [rd45 hlt, Int.toNat_natCast] at c0 c1 c2 c3
   have hx := HLK.out _ (List.getElem_mem hlt)
   obtain ⟨a, ha⟩ : ∃ a : Nat, l[k].f0.f0 = (a : Int) := ⟨l[k].f0.f0.toNat, by have := hx.a0; omega⟩
   obtain ⟨b, hb⟩ : ∃ b : Nat, l[k].f0.f1 = (b : Int) := ⟨l[k].f0.f1.toNat, by have := hx.a0; have := hx.ab; omega⟩
   obtain ⟨d, hd⟩ : ∃ d : Nat, l[k].f1.f0 = (d : Int) := ⟨l[k].f1.f0.toNat, by have := hx.c0; omega⟩
   obtain ⟨e, he⟩ : ∃ e : Nat, l[k].f1.f1 = (e : Int) := ⟨l[k].f1.f1.toNat, by have := hx.c0; have := hx.cd; omega⟩
   have k1 := hx.ab; have k2 := hx.bn; have k3 := hx.cd; have k4 := hx.dm
   rw [ha] at c0 k1; rw [hb] at c1 k1 k2; rw [hd] at c2 k3; rw [he] at c3 k3 k4
   have HLE : Aside0 (linksF n idL ((l.take (k + 1)).map lkOf) = linkF n (linksF n idL ((l.take k).map lkOf)) ⟨a, b, d, e⟩) := ⟨by
    rw [List.take_succ_eq_append_getElem hlt, List.map_append]
    unfold linksF
    rw [List.foldl_append]
    have : lkOf l[k] = ⟨a, b, d, e⟩ := by unfold lkOf; rw [ha, hb, hd, he]; rfl
    simp [this]⟩
   have hkI : (k : Int) < (l.length : Int) := by omega
   have q1 : a < b := by omega
   have q2 : b ≤ n := by omega
   have q3 : d < e := by omega
   have q4 : e ≤ m := by omega
   subst ead
   clear hx ha hb hd he k1 k2 k3 k4
   go_upto_region 8 with (first | ((with_reducible refine gate_dst (N := 11) rfl ?_); refine box_event ?hg (N := 11) ?hd (cs := #[.int .i64 0, .int .i64 0, .int .i64 0, .int .i64 0]) (t := 36) ?hr ?_; (case hd => rfl); (case hg => rfl); (case hr => first | (go_simp; done) | (go_simp; rfl)); intro gb hg w6 hbox hb; have HX6 := Aside0.mk hbox; have HGE : Aside0 (w.heap.size ≤ gb) := ⟨by rw [hg]; exact HB.out.size⟩; have HN1 : Aside0 (g ≠ gb) := ⟨by have := HV.out.ltw; omega⟩; have HN2 : Aside0 (B ≠ gb) := ⟨by have := blk_lt HW.out; omega⟩; have HB6 : Aside0 (Below w.heap.size w w6) := ⟨below_step HB.out hb⟩; have HV6 : Aside0 (LI w6 w2base g N cap p) := ⟨HV.out.below hb⟩; have HW6 : Aside0 (WV w6 B g n m N cap) := ⟨HW.out.below hb⟩; have z0 : w6.cell? ⟨gb, 0, none⟩ = some (.int .i64 0) := (blk_cell hbox 0).trans rfl; have z1 : w6.cell? ⟨gb, 1, none⟩ = some (.int .i64 0) := (blk_cell hbox 1).trans rfl; have z2 : w6.cell? ⟨gb, 2, none⟩ = some (.int .i64 0) := (blk_cell hbox 2).trans rfl; have z3 : w6.cell? ⟨gb, 3, none⟩ = some (.int .i64 0) := (blk_cell hbox 3).trans rfl; have f0 := blk_frozen hbox 0; have f1 := blk_frozen hbox 1; have f2 := blk_frozen hbox 2; have f3 := blk_frozen hbox 3; clear hg hbox hb HB HV HW))
   have HX := Aside0.mk (blk_put (blk_put (blk_put (blk_put HX6.out 0 (.int .i64 a) rfl) 1 (.int .i64 b) rfl) 2 (.int .i64 d) rfl) 3 (.int .i64 e) rfl)
   have HG7 := Aside0.mk (World.grownBy.trans (World.grownBy.trans (World.grownBy.trans (grown_set w6 gb 0 (.int .i64 a)) (grown_set _ gb 1 (.int .i64 b))) (grown_set _ gb 2 (.int .i64 d))) (grown_set _ gb 3 (.int .i64 e)))
   generalize (((w6.setCell ⟨gb, 0, none⟩ (.int .i64 a)).setCell ⟨gb, 1, none⟩ (.int .i64 b)).setCell ⟨gb, 2, none⟩ (.int .i64 d)).setCell ⟨gb, 3, none⟩ (.int .i64 e) = w7 at HX HG7 ⊢
   have HV7 : Aside0 (LI w7 w2base g N cap p) := ⟨HV6.out.grown HG7.out HN1.out⟩
   have HW7 : Aside0 (WV w7 B g n m N cap) := ⟨HW6.out.grown HG7.out HN2.out⟩
   have HB7 : Aside0 (Below w.heap.size w w7) := ⟨HB6.out.grown HG7.out HB6.out.size (fun j hj => by obtain rfl := Option.some.inj hj; exact HGE.out)⟩
   have q0' := (blk_cell HX.out 0).trans rfl
   have q1' := (blk_cell HX.out 1).trans rfl
   have q2' := (blk_cell HX.out 2).trans rfl
   have q3' := (blk_cell HX.out 3).trans rfl
   clear z0 z1 z2 z3 f0 f1 f2 f3 HX6 HB6 HV6 HW6 c0 c1 c2 c3
   go_wp2_with (first | (go_at_call 190; refine (link_c HW7.out HV7.out HNE.out HP.out HO.out (by omega) ⟨a, b, d, e⟩ q1 q2 q3 q4 HNM.out.symm).mono ?_; rintro e8 w8 ⟨rfl, p8, a1, a2, a3⟩; have HV8 := Aside0.mk a1; have HP8 := Aside0.mk a2; have HG8 := Aside0.mk a3; clear a1 a2 a3))
   exact ⟨⟨k + 1, p8, by go_num, by omega, ⟨HW7.out.grown HG8.out HNE.out⟩, HV8, ⟨by rw [HLE.out]; exact HP8.out⟩, ⟨HB7.out.grown HG8.out HB7.out.size (fun j hj => by obtain rfl := Option.some.inj hj; exact HGB.out)⟩⟩, by simp [intOf]; omega⟩
  ·have ek : k = l.length := by omega
   subst ek
   rw [List.take_length] at HP HO
   obtain ⟨r0, hr0⟩ : ∃ r0, r0 = strayF (l.map lkOf) n (linksF n idL (l.map lkOf)) n := ⟨_, rfl⟩
   have HO5 : Aside0 (LabOk N r0) := ⟨by rw [hr0]; exact labOk_stray _ HF.out (by have := HNM.out; omega) n (Nat.le_refl _) _ HO.out⟩
   have HR0 := Aside0.mk hr0
   clear hr0 hlt
   have HCW : Aside0 (Kd.C k45 wr A l.length l) := ⟨Kd.C_below HC.out HB.out⟩
   have e5 : IntKind.i64.wrap ((n : Int) + (m : Int)) = (N : Int) := e0
   go_wp2_with (first | (go_at_call 191; refine (stray_c HW.out HV.out HNE.out HP.out HO.out (by omega) HNM.out.symm hm HCW.out hl HLK.out HF.out).mono ?_; rintro e8 w5 ⟨rfl, p5, a1, a2, a3⟩; rw [← HR0.out] at a2; have HV5 := Aside0.mk a1; have HP5 := Aside0.mk a2; have HW5 := Aside0.mk (HW.out.grown a3 HNE.out); have HB5 : Aside0 (Below w.heap.size w w5) := ⟨HB.out.grown a3 HB.out.size (fun j hj => by obtain rfl := Option.some.inj hj; exact HGB.out)⟩; clear a1 a2 a3 HV HP HW HB HCW HO) | ((with_reducible refine gate_dst (N := 12) rfl ?_); refine box_event ?hg (N := 12) ?hd (cs := #[.int .i64 0, .int .i64 0]) (t := 34) ?hr ?_; (case hd => rfl); (case hg => rfl); (case hr => first | (go_simp; done) | (go_simp; rfl)); intro gi hgi w6 hbox hb; have HI6 := Aside0.mk hbox; have HV6 := Aside0.mk (HV5.out.below hb); have HW6 := Aside0.mk (HW5.out.below hb); have HB6 : Aside0 (Below w.heap.size w w6) := ⟨below_step HB5.out hb⟩; have HGI : Aside0 (g ≠ gi ∧ B ≠ gi ∧ w.heap.size ≤ gi) := ⟨by have := HV5.out.ltw; omega, by have := blk_lt HW5.out; omega, by rw [hgi]; exact HB5.out.size⟩; clear hgi hbox hb HV5 HW5 HB5) | ((with_reducible refine gate_dst (N := 13) rfl ?_); refine box_event ?hg (N := 13) ?hd (cs := #[.int .i64 0, .int .i64 0]) (t := 34) ?hr ?_; (case hd => rfl); (case hg => rfl); (case hr => first | (go_simp; done) | (go_simp; rfl)); intro go hgo w7 hbox hb; have HO7 := Aside0.mk hbox; have HI7 : Aside0 (w7.heap[gi]? = some (.cells #[.int .i64 0, .int .i64 0] 34 (0, 0))) := ⟨(hb.block _ (blk_lt HI6.out)).trans HI6.out⟩; have HV7 := Aside0.mk (HV6.out.below hb); have HW7 := Aside0.mk (HW6.out.below hb); have HB7 : Aside0 (Below w.heap.size w w7) := ⟨below_step HB6.out hb⟩; have HGO : Aside0 (g ≠ go ∧ B ≠ go ∧ w.heap.size ≤ go ∧ gi ≠ go) := ⟨by have := HV6.out.ltw; omega, by have := blk_lt HW6.out; omega, by rw [hgo]; exact HB6.out.size, by have := blk_lt HI6.out; omega⟩; have z0 := (blk_cell HI7.out 0).trans rfl; have z1 := (blk_cell HI7.out 1).trans rfl; have f0 := blk_frozen HI7.out 0; have f1 := blk_frozen HI7.out 1; have y0 := (blk_cell hbox 0).trans rfl; have y1 := (blk_cell hbox 1).trans rfl; have g0 := blk_frozen hbox 0; have g1 := blk_frozen hbox 1; have hgio : ¬ gi = go := HGO.out.2.2.2; have hgoi : ¬ go = gi := fun e => hgio e.symm; clear hgo hbox hb HV6 HW6 HB6 HI6))
   have hI8 := blk_put (blk_put HI7.out 0 (.int .i64 0) rfl) 1 (.int .i64 n) rfl
   have hG78 := World.grownBy.trans (grown_set w7 gi 0 (.int .i64 0)) (grown_set _ gi 1 (.int .i64 n))
   have hO8 := (hG78.block go (blk_lt HO7.out) (fun e => hgoi (Option.some.inj e))).trans HO7.out
   have hV8 := HV7.out.grown hG78 HGI.out.1
   have hW8 := HW7.out.grown hG78 HGI.out.2.1
   have hB8 : Below w.heap.size w _ := HB7.out.grown hG78 HB7.out.size (fun j hj => by obtain rfl := Option.some.inj hj; exact HGI.out.2.2)
   generalize (w7.setCell ⟨gi, 0, none⟩ (.int .i64 0)).setCell ⟨gi, 1, none⟩ (.int .i64 n) = w8 at hI8 hO8 hV8 hW8 hB8 ⊢
   have hO9 := blk_put (blk_put hO8 0 (.int .i64 n) rfl) 1 (.int .i64 N) rfl
   have hG89 := World.grownBy.trans (grown_set w8 go 0 (.int .i64 n)) (grown_set _ go 1 (.int .i64 N))
   have HO9 := Aside0.mk hO9
   have HI9 := Aside0.mk ((hG89.block gi (blk_lt hI8) (fun e => hgio (Option.some.inj e))).trans hI8)
   have HV9 := Aside0.mk (hV8.grown hG89 HGO.out.1)
   have HW9 := Aside0.mk (hW8.grown hG89 HGO.out.2.1)
   have HB9 : Aside0 (Below w.heap.size w _) := ⟨hB8.grown hG89 hB8.size (fun j hj => by obtain rfl := Option.some.inj hj; exact HGO.out.2.2.1)⟩
   clear hI8 hG78 hO8 hV8 hW8 hB8 hO9 hG89 z0 z1 f0 f1 y0 y1 g0 g1 HO7 HI7 HV7 HW7 HB7
   generalize (w8.setCell ⟨go, 0, none⟩ (.int .i64 n)).setCell ⟨go, 1, none⟩ (.int .i64 N) = w9 at HO9 HI9 HV9 HW9 HB9 ⊢
   go_loopg [14] (sumL r0 N + 1) (fun kq v14 wr => ∃ (r : Lab) (p : List Int) (b : Bool), v14 = .bool b ∧ Aside0 ((if b then sumL r N + 1 else 0) ≤ kq) ∧ Aside0 (if b then endF n m r = endF n m r0 else r = endF n m r0) ∧ Aside0 (wr.heap[gi]? = some (.cells #[.int .i64 0, .int .i64 n] 34 (0, 0))) ∧ Aside0 (wr.heap[go]? = some (.cells #[.int .i64 n, .int .i64 N] 34 (0, 0))) ∧ Aside0 (LI wr w2base g N cap p) ∧ Aside0 (WV wr B g n m N cap) ∧ Aside0 (PF N r p) ∧ Aside0 (LabOk N r) ∧ Aside0 (Below w.heap.size w wr))
   case atStart => exact ⟨r0, p5, true, rfl, ⟨Nat.le_refl _⟩, ⟨rfl⟩, HI9, HO9, HV9, HW9, HP5, HO5, HB9⟩
   case round =>
    clear HI9 HO9 HV9 HW9 HP5 HO5 HB9
    obtain ⟨r, p, b, rfl, HK, HE, HI, HO, HV, HW, HP, HL, HB⟩ := hrel
    cases b with
    | false =>
     have her : r = finL n m (l.map lkOf) := by rw [show r = endF n m r0 from HE.out, HR0.out]; rfl
     have hcl : Closed n m (l.map lkOf) (fun x y => r x = r y) := by rw [her]; exact finL_closed hn hm (lk_wf HLK.out).1 HF.out
     have hfo : FinOk n m (l.map lkOf) r := ⟨fun R hR => by rw [her]; exact finL_sound hR (lk_wf HLK.out).1 HF.out, hcl⟩
     have HFO := Aside0.mk hfo
     have HBT : Aside0 (Between (fun x y => r x = r y) 0 n) := ⟨fun i j k _ h1 h2 h3 h4 => hcl.conv1 i j k h1 h2 h3 h4⟩
     have HOT : Aside0 (∀ j, j < n → ∃ i, i < m ∧ r (n + i) = r j) := ⟨fun j hj => outs_met hcl (lk_wf HLK.out).1 (lk_wf HLK.out).2.2 HF.out j hj⟩
     have HIN : Aside0 (∀ i, i < m → ∃ j, j < n ∧ r j = r (n + i)) := ⟨fun i hi => ins_met hcl (lk_wf HLK.out).2.1 (outB_met (fun x hx => (HLK.out x hx).c0) HCOV.out) i hi⟩
     clear her hcl hfo HE HK
     go_wp2_with (first | (go_at_call 193; refine (clusters_c HW.out HV.out HNE.out HP.out HL.out hNN HNM.out.symm hn HBT.out HOT.out HIN.out).mono ?_; rintro e8 wf ⟨u, rfl, a1, a2⟩; have HRF := Aside0.mk a1; have HGF := Aside0.mk a2; clear a1 a2))
     refine bodyPost_ret (results_tmp2 rfl _ _ _) rfl ?_
     exact ⟨u, r, rfl, HFO.out, Kd.R_lower HRF.out HB.out.size, HB.out.grown HGF.out HB.out.size (fun j hj => by obtain rfl := Option.some.inj hj; exact HGB.out)⟩
    | true =>
     have hk : sumL r N + 1 ≤ gk := HK.out
     have hend : endF n m r = endF n m r0 := HE.out
     have HK := Aside0.mk hk
     have HEN := Aside0.mk hend
     have HST := Aside0.mk (endF_step n m hn hm r)
     have HSM := Aside0.mk (roundF_sum n m hn hm r)
     rw [← HNM.out] at HSM
     obtain ⟨q1, hq1⟩ : ∃ q, q = closeF r 0 n := ⟨_, rfl⟩
     obtain ⟨q2, hq2⟩ : ∃ q, q = closeF q1.1 n N := ⟨_, rfl⟩
     have HRF : Aside0 (roundF n m r = (q2.1, q1.2 || q2.2)) := ⟨by unfold roundF; rw [hq2, hq1, HNM.out]⟩
     have HQ1 := Aside0.mk hq1
     have HQ2 := Aside0.mk hq2
     have HL1 : Aside0 (LabOk N q1.1) := ⟨by rw [hq1]; exact labOk_closeF 0 n hn (by have := HNM.out; omega) HL.out⟩
     have HL2 : Aside0 (LabOk N q2.1) := ⟨by rw [hq2]; exact labOk_closeF n N (by have := HNM.out; omega) (Nat.le_refl _) HL1.out⟩
     have hnN : n < N := by have := HNM.out; omega
     have HNN := Aside0.mk hnN
     clear hk hend hq1 hq2
     go_wp2_with fail
     refine start_ (n := 8) (S := (fun W => W.heap[gi]? = some (.cells #[.int .i64 0, .int .i64 n] 34 (0, 0)) ∧ W.heap[go]? = some (.cells #[.int .i64 n, .int .i64 N] 34 (0, 0)))) (ds := [5]) #[false, false, false, false, false, false, false, false] (by kernel_rfl) (by kernel_rfl) (by rfl) ⟨HI.out, HO.out⟩ (fun hS0 => ?_)
     refine pure_ (i := 0) (N := (some 57)) (v := ?_) (a' := ?_) #[true, false, false, false, false, false, false, false] rfl rfl (by kernel_rfl) (fun _ _ _ h => h) (Or.inl ⟨by rfl, ?_⟩) ?_ ?_
     rotate_left
     ·intro w'
      go_simp
      with_reducible rfl
     rotate_left
     ·simp only [Act.put, List.setIfInBounds_toArray, List.set_cons_zero, List.set_cons_succ]
      rfl
     refine take_ (i := 1) (N := (some 58)) (v := ?_) (a' := ?_) #[true, true, false, false, false, false, false, false] rfl rfl (by kernel_rfl) (fun _ _ _ h => h) (Or.inl ⟨by rfl, ?_⟩) hS0 ?_ ?_
     rotate_left
     ·intro w' s0
      have q0 := (blk_cell s0.1 0).trans rfl
      have q1 := (blk_cell s0.1 1).trans rfl
      go_simp
      with_reducible rfl
     rotate_left
     ·simp only [Act.put, List.setIfInBounds_toArray, List.set_cons_zero, List.set_cons_succ]
      rfl
     refine pure_ (i := 3) (N := (some 60)) (v := ?_) (a' := ?_) #[true, true, false, true, false, false, false, false] rfl rfl (by kernel_rfl) (fun _ _ _ h => h) (Or.inl ⟨by rfl, ?_⟩) ?_ ?_
     rotate_left
     ·intro w'
      go_simp
      with_reducible rfl
     rotate_left
     ·simp only [Act.put, List.setIfInBounds_toArray, List.set_cons_zero, List.set_cons_succ]
      rfl
     refine take_ (i := 4) (N := (some 61)) (v := ?_) (a' := ?_) #[true, true, false, true, true, false, false, false] rfl rfl (by kernel_rfl) (fun _ _ _ h => h) (Or.inl ⟨by rfl, ?_⟩) hS0 ?_ ?_
     rotate_left
     ·intro w' s0
      have q0 := (blk_cell s0.2 0).trans rfl
      have q1 := (blk_cell s0.2 1).trans rfl
      go_simp
      with_reducible rfl
     rotate_left
     ·simp only [Act.put, List.setIfInBounds_toArray, List.set_cons_zero, List.set_cons_succ]
      rfl
     clear hS0
     refine one_ (i := 2) (N := (some 59)) #[true, true, true, true, true, false, false, false] rfl rfl (by kernel_rfl) (by decide) (fun K hK => ?_)
     refine goes_ Tryz.func192 (by kernel_rfl) rfl #[.pointer (some ⟨B, 0, none⟩), .agg #[.int .i64 ((0 : Nat) : Int), .int .i64 n]] (by rfl) rfl rfl (by go_simp; done) ?_
     refine (close_c (w := wr.drew) HW.out (Kd.R_drew HV.out) HNE.out HP.out HL.out (by omega) 0 n hn (by omega)).mono ?_
     rintro e8 wa ⟨rfl, pa, a1, a2, a3⟩
     refine ⟨_, rfl, ?_⟩
     rw [← HQ1.out] at a2 ⊢
     have HVa := Aside0.mk a1
     have HPa := Aside0.mk a2
     have HGa : Aside0 (wr.grownBy wa (some g)) := ⟨World.grownBy.trans (below_grownBy (below_drew (Below.refl _ _)) _) a3⟩
     clear a1 a2 a3
     obtain ⟨b1, hb1⟩ : ∃ b, q1.2 = b := ⟨_, rfl⟩
     have HB1 := Aside0.mk hb1
     rw [hb1]
     clear hb1
     have hIa := (HGa.out.block gi (blk_lt HI.out) (fun e => HGI.out.1 (Option.some.inj e).symm)).trans HI.out
     have hOa := (HGa.out.block go (blk_lt HO.out) (fun e => HGO.out.1 (Option.some.inj e).symm)).trans HO.out
     have HIa := Aside0.mk hIa
     have HOa := Aside0.mk hOa
     clear hIa hOa
     change K (Act.put _ (some 59) _) _
     refine hK.out _ _ ⟨HIa.out, HOa.out⟩ (fun hS0 => ?_)
     clear hK
     refine norm_ (a' := ?_) ?_ ?_
     rotate_left
     ·simp only [Act.put, List.setIfInBounds_toArray, List.set_cons_zero, List.set_cons_succ]
      rfl
     clear hS0
     refine last_ (i := 5) (N := (some 62)) #[true, true, true, true, true, true, false, false] rfl rfl (by kernel_rfl) (by decide) (fun K hK => ?_)
     refine goes_ Tryz.func192 (by kernel_rfl) rfl #[.pointer (some ⟨B, 0, none⟩), .agg #[.int .i64 n, .int .i64 N]] (by rfl) rfl rfl (by go_simp; done) ?_
     refine (close_c (HW.out.grown HGa.out HNE.out) HVa.out HNE.out HPa.out HL1.out (by omega) n N hnN (Nat.le_refl _)).mono ?_
     rintro e8 wb ⟨rfl, pb, a1, a2, a3⟩
     refine ⟨_, rfl, ?_⟩
     rw [← HQ2.out] at a2 ⊢
     have HVb := Aside0.mk a1
     have HPb := Aside0.mk a2
     have HGb : Aside0 (wr.grownBy wb (some g)) := ⟨World.grownBy.trans HGa.out a3⟩
     clear a1 a2 a3
     obtain ⟨b2, hb2⟩ : ∃ b, q2.2 = b := ⟨_, rfl⟩
     have HB2 := Aside0.mk hb2
     rw [hb2]
     clear hb2
     change K (Act.put _ (some 62) _) _
     refine hK.out _ _ ?_
     clear hK
     refine norm_ (a' := ?_) ?_ ?_
     rotate_left
     ·simp only [Act.put, List.setIfInBounds_toArray, List.set_cons_zero, List.set_cons_succ]
      rfl
     refine pure_ (i := 6) (N := (some 15)) (v := ?_) (a' := ?_) #[true, true, true, true, true, true, true, false] rfl rfl (by kernel_rfl) (fun _ _ _ h => h) (Or.inl ⟨by rfl, ?_⟩) ?_ ?_
     rotate_left
     ·intro w'
      go_simp
      with_reducible rfl
     rotate_left
     ·simp only [Act.put, List.setIfInBounds_toArray, List.set_cons_zero, List.set_cons_succ]
      rfl
     refine pure_ (i := 7) (N := (some 16)) (v := ?_) (a' := ?_) #[true, true, true, true, true, true, true, true] rfl rfl (by kernel_rfl) (fun _ _ _ h => h) (Or.inl ⟨by rfl, ?_⟩) ?_ ?_
     rotate_left
     ·intro w'
      go_simp
      with_reducible rfl
     rotate_left
     ·simp only [Act.put, List.setIfInBounds_toArray, List.set_cons_zero, List.set_cons_succ]
      rfl
     refine done_ (by kernel_rfl) ?_
     have HRB : Aside0 (roundF n m r = (q2.1, b1 || b2)) := ⟨by rw [HRF.out, HB1.out, HB2.out]⟩
     cases b1 with
     | true =>
      go_wp2_with fail
      have hsm := HSM.out.2 (by rw [HRB.out]; rfl)
      rw [HRB.out] at hsm
      have hst := HST.out
      rw [HRB.out] at hst
      have hst2 : endF n m r = endF n m q2.1 := hst
      dsimp only at hsm
      have HHK : Aside0 ((if true then sumL q2.1 N + 1 else 0) ≤ sumL q2.1 N + 1) := ⟨Nat.le_refl _⟩
      have HHE : Aside0 (if true then endF n m q2.1 = endF n m r0 else q2.1 = endF n m r0) := ⟨hst2.symm.trans HEN.out⟩
      have hkk : sumL r N + 1 ≤ gk := by have := HK.out; simpa using this
      clear hst hst2
      go_roundg (sumL q2.1 N + 1)
      case measure => omega
      case rel => exact ⟨q2.1, pb, true, rfl, HHK, HHE, ⟨(HGb.out.block gi (blk_lt HI.out) (fun e => HGI.out.1 (Option.some.inj e).symm)).trans HI.out⟩, ⟨(HGb.out.block go (blk_lt HO.out) (fun e => HGO.out.1 (Option.some.inj e).symm)).trans HO.out⟩, HVb, ⟨HW.out.grown HGb.out HNE.out⟩, HPb, HL2, ⟨HB.out.grown HGb.out HB.out.size (fun j hj => by obtain rfl := Option.some.inj hj; exact HGB.out)⟩⟩
     | false =>
      cases b2 with
      | true =>
       go_wp2_with fail
       have hsm := HSM.out.2 (by rw [HRB.out]; rfl)
       rw [HRB.out] at hsm
       have hst := HST.out
       rw [HRB.out] at hst
       have hst2 : endF n m r = endF n m q2.1 := hst
       dsimp only at hsm
       have HHK : Aside0 ((if true then sumL q2.1 N + 1 else 0) ≤ sumL q2.1 N + 1) := ⟨Nat.le_refl _⟩
       have HHE : Aside0 (if true then endF n m q2.1 = endF n m r0 else q2.1 = endF n m r0) := ⟨hst2.symm.trans HEN.out⟩
       have hkk : sumL r N + 1 ≤ gk := by have := HK.out; simpa using this
       clear hst hst2
       go_roundg (sumL q2.1 N + 1)
       case measure => omega
       case rel => exact ⟨q2.1, pb, true, rfl, HHK, HHE, ⟨(HGb.out.block gi (blk_lt HI.out) (fun e => HGI.out.1 (Option.some.inj e).symm)).trans HI.out⟩, ⟨(HGb.out.block go (blk_lt HO.out) (fun e => HGO.out.1 (Option.some.inj e).symm)).trans HO.out⟩, HVb, ⟨HW.out.grown HGb.out HNE.out⟩, HPb, HL2, ⟨HB.out.grown HGb.out HB.out.size (fun j hj => by obtain rfl := Option.some.inj hj; exact HGB.out)⟩⟩
      | false =>
       go_wp2_with fail
       have hst := HST.out
       rw [HRB.out] at hst
       have hst2 : endF n m r = q2.1 := hst
       have HHK : Aside0 ((if false then sumL q2.1 N + 1 else 0) ≤ 0) := ⟨Nat.le_refl _⟩
       have HHE : Aside0 (if false then endF n m q2.1 = endF n m r0 else q2.1 = endF n m r0) := ⟨hst2.symm.trans HEN.out⟩
       have hkk : sumL r N + 1 ≤ gk := by have := HK.out; simpa using this
       clear hst hst2
       go_roundg 0
       case measure => omega
       case rel => exact ⟨q2.1, pb, false, rfl, HHK, HHE, ⟨(HGb.out.block gi (blk_lt HI.out) (fun e => HGI.out.1 (Option.some.inj e).symm)).trans HI.out⟩, ⟨(HGb.out.block go (blk_lt HO.out) (fun e => HGO.out.1 (Option.some.inj e).symm)).trans HO.out⟩, HVb, ⟨HW.out.grown HGb.out HNE.out⟩, HPb, HL2, ⟨HB.out.grown HGb.out HB.out.size (fun j hj => by obtain rfl := Option.some.inj hj; exact HGB.out)⟩⟩
end Go.Proofs.YtemhccjjcioodaaGreat.CFin
end
section
namespace Go.Proofs.YtemhccjjcioodaaGreat.CSort
open Go.RowKit Go.Proofs.YtemhccjjcioodaaGreatW.PrintWords Go.Proofs.YtemhccjjcioodaaGreatW.PrintMore Go.Proofs.YtemhccjjcioodaaGreatW.PrintLast Go.Proofs.YtemhccjjcioodaaGreat.U Go.Proofs.YtemhccjjcioodaaGreat.PClusterFinest
open Go.Shelf
shelf_lay_g SlLaysF0.n20 Slsf 20 at Tryz 212 as lins
end Go.Proofs.YtemhccjjcioodaaGreat.CSort
end
section
namespace Go.Proofs.YtemhccjjcioodaaGreat.Cel
open Go.RowKit Go.Proofs.YtemhccjjcioodaaGreatW.PrintWords Go.Proofs.YtemhccjjcioodaaGreatW.PrintMore Go.Proofs.YtemhccjjcioodaaGreatW.PrintLast Go.Proofs.YtemhccjjcioodaaGreat.U Go.Proofs.YtemhccjjcioodaaGreat.PClusterFinest Go.Proofs.YtemhccjjcioodaaGreat.UGroups Go.Proofs.YtemhccjjcioodaaGreat.UFinEv
theorem linkStep_2 (L : List (List Int)) (q : List S45 × Nat) (g : S33) : (linkStep L q g).2 = q.2 + (rowOf L g.f0.toNat g.f1.toNat).flatten.length := rfl
theorem links_end (N : Nat) (J : List S33) (L : List (List Int)) (hL : L.length = N) : ∀ t, t ≤ N → (linksOf L (grpTo N J t).1).2 = (L.take (grpTo N J t).2).flatten.length
 | 0, _ => by simp [grpTo, linksOf]
 | t + 1, ht => by
  have ih := links_end N J L hL t (by omega)
  have hlo := grp_lo N J t (by omega)
  rw [show grpTo N J (t + 1) = UGroups.stepG N J (t + 1) (grpTo N J t) from rfl]
  unfold UGroups.stepG
  by_cases hc : t + 1 = N ∨ acrossB N J (t + 1) = false
  ·rw [if_pos hc]
   dsimp only
   unfold linksOf at ih ⊢
   rw [List.foldl_append, List.foldl_cons, List.foldl_nil]
   rw [linkStep_2, ih]
   dsimp only
   unfold rowOf
   rw [Int.toNat_natCast, Int.toNat_natCast]
   have e : L.take (t + 1) = L.take (grpTo N J t).2 ++ (L.drop (grpTo N J t).2).take (t + 1 - (grpTo N J t).2) := by
    rw [← List.take_append_drop (grpTo N J t).2 L, List.take_append, List.take_take]
    simp only [List.length_take, List.take_append_drop]
    rw [Nat.min_eq_left (a := (grpTo N J t).2) (b := L.length) (by omega), Nat.min_eq_right (by omega)]
   rw [e, List.flatten_append, List.length_append]
  ·rw [if_neg hc]
   exact ih
theorem groups_end (J : List S33) (L : List (List Int)) : (linksOf L (groups L.length J)).2 = L.flatten.length := by
 unfold groups
 rw [links_end L.length J L rfl L.length (Nat.le_refl _)]
 cases hN : L.length with
 | zero => rw [List.eq_nil_of_length_eq_zero hN]; simp
 | succ t =>
  have : (grpTo (t + 1) J (t + 1)).2 = t + 1 := by
   rw [show grpTo (t + 1) J (t + 1) = UGroups.stepG (t + 1) J (t + 1) (grpTo (t + 1) J t) from rfl]
   unfold UGroups.stepG
   rw [if_pos (.inl rfl)]
  rw [this, ← hN, List.take_length]
end Go.Proofs.YtemhccjjcioodaaGreat.Cel
namespace Go.Proofs.YtemhccjjcioodaaGreat.UMap
open Go.Proofs.YtemhccjjcioodaaGreat.PClusterFinest Go.Proofs.YtemhccjjcioodaaGreat.UFinest Go.Proofs.YtemhccjjcioodaaGreat.UGroups Go.Proofs.YtemhccjjcioodaaGreat.UFinEv Go.Proofs.YtemhccjjcioodaaGreat.Cel
open Go.Proofs.YtemhccjjcioodaaGreat.CFin (cluS wrong_ok)
def Free (ls : List S45) (g : S33) : Prop := ∀ x ∈ ls, ∀ i : Int, g.f0 ≤ i → i < g.f1 → ¬ (x.f0.f0 ≤ i ∧ i < x.f0.f1)
structure Inv (N : Nat) (J : List S33) (lo : Nat) (ls : List S45) (e : Nat) : Prop where
 ok : ∀ x ∈ ls, 0 ≤ x.f0.f0 ∧ x.f0.f0 < x.f0.f1 ∧ x.f0.f1 ≤ (lo : Int) ∧ 0 ≤ x.f1.f0 ∧ x.f1.f0 < x.f1.f1 ∧ x.f1.f1 ≤ (e : Int)
 cover : ∀ i : Nat, i < e → ∃ x ∈ ls, x.f1.f0 ≤ (i : Int) ∧ (i : Int) < x.f1.f1
 joined : ∀ s ∈ J, OkS N s → s.f0 < (lo : Int) → ∃ g : S33, 0 ≤ g.f0 ∧ g.f0 ≤ s.f0 ∧ s.f1 ≤ g.f1 ∧ g.f1 ≤ (lo : Int) ∧ ((∃ x ∈ ls, x.f0 = g) ∨ Free ls g)
theorem inv_step {N : Nat} {J : List S33} {lo e t : Nat} {ls : List S45} (h : Inv N J lo ls e) (hlo : lo < t) (hclose : ∀ s ∈ J, OkS N s → s.f0 < (t : Int) → s.f1 ≤ (t : Int)) (d : Nat) :
 Inv N J t (if e < e + d then ls ++ [⟨⟨(lo : Int), (t : Int)⟩, ⟨(e : Int), ((e + d : Nat) : Int)⟩⟩] else ls) (e + d) := by
 obtain ⟨h1, h2, h3⟩ := h
 by_cases hd : e < e + d
 ·rw [if_pos hd]
  refine ⟨fun x hx => ?_, fun i hi => ?_, fun s hs ho hlt => ?_⟩
  ·rcases List.mem_append.1 hx with hx | hx
   ·have := h1 x hx; omega
   ·rw [List.mem_singleton] at hx; subst hx; dsimp only; omega
  ·by_cases hi2 : i < e
   ·obtain ⟨x, hx, k1, k2⟩ := h2 i hi2
    exact ⟨x, List.mem_append.2 (.inl hx), k1, k2⟩
   ·exact ⟨_, List.mem_append.2 (.inr (List.mem_singleton.2 rfl)), by dsimp only; omega, by dsimp only; omega⟩
  ·by_cases hs2 : s.f0 < (lo : Int)
   ·obtain ⟨g, g0, g1, g2, g3, hg⟩ := h3 s hs ho hs2
    refine ⟨g, g0, g1, g2, by omega, ?_⟩
    rcases hg with ⟨x, hx, ex⟩ | hg
    ·exact .inl ⟨x, List.mem_append.2 (.inl hx), ex⟩
    ·refine .inr fun x hx i k1 k2 => ?_
     rcases List.mem_append.1 hx with hx | hx
     ·exact hg x hx i k1 k2
     ·rw [List.mem_singleton] at hx; subst hx; dsimp only; omega
   ·exact ⟨⟨(lo : Int), (t : Int)⟩, by dsimp only; omega, by dsimp only; omega, hclose s hs ho hlt, Int.le_refl _, .inl ⟨_, List.mem_append.2 (.inr (List.mem_singleton.2 rfl)), rfl⟩⟩
 ·rw [if_neg hd]
  have e0 : d = 0 := by omega
  subst e0
  refine ⟨fun x hx => ?_, h2, fun s hs ho hlt => ?_⟩
  ·have := h1 x hx; omega
  ·by_cases hs2 : s.f0 < (lo : Int)
   ·obtain ⟨g, g0, g1, g2, g3, hg⟩ := h3 s hs ho hs2
    exact ⟨g, g0, g1, g2, by omega, hg⟩
   ·refine ⟨⟨(lo : Int), (t : Int)⟩, by dsimp only; omega, by dsimp only; omega, hclose s hs ho hlt, Int.le_refl _, .inr fun x hx i k1 k2 => ?_⟩
    dsimp only at k1 k2
    have := h1 x hx; omega
theorem inv_all (N : Nat) (J : List S33) (L : List (List Int)) (hL : L.length = N) : ∀ t, t ≤ N → Inv N J (grpTo N J t).2 (linksOf L (grpTo N J t).1).1 (linksOf L (grpTo N J t).1).2
 | 0, _ => ⟨(fun x hx => by simp [grpTo, linksOf] at hx), (fun i hi => by simp [grpTo, linksOf] at hi), (fun s _ hs h => by simp [grpTo] at h; have := hs.1; omega)⟩
 | t + 1, ht => by
  have ih := inv_all N J L hL t (by omega)
  have hlo := grp_lo N J t (by omega)
  rw [show grpTo N J (t + 1) = UGroups.stepG N J (t + 1) (grpTo N J t) from rfl]
  unfold UGroups.stepG
  by_cases hc : t + 1 = N ∨ acrossB N J (t + 1) = false
  ·rw [if_pos hc]
   dsimp only
   have hclose : ∀ s ∈ J, OkS N s → s.f0 < ((t + 1 : Nat) : Int) → s.f1 ≤ ((t + 1 : Nat) : Int) := by
    intro s hs ho h1
    rcases hc with h | h
    ·have := ho.2.2; omega
    ·rcases Int.lt_or_le ((t + 1 : Nat) : Int) s.f1 with h2 | h2
     ·have : acrossB N J (t + 1) = true := across_iff.2 ⟨s, hs, ho, h1, h2⟩
      rw [h] at this; cases this
     ·exact h2
   rw [show linksOf L ((grpTo N J t).1 ++ [⟨((grpTo N J t).2 : Int), ((t + 1 : Nat) : Int)⟩]) = linkStep L (linksOf L (grpTo N J t).1) ⟨((grpTo N J t).2 : Int), ((t + 1 : Nat) : Int)⟩ by unfold linksOf; rw [List.foldl_append]; rfl]
   exact inv_step ih (by omega) hclose _
  ·rw [if_neg hc]
   exact ih
theorem grp_end (N : Nat) (J : List S33) (hN : 0 < N) : (grpTo N J N).2 = N := by
 obtain ⟨t, rfl⟩ : ∃ t, N = t + 1 := ⟨N - 1, by omega⟩
 rw [show grpTo (t + 1) J (t + 1) = UGroups.stepG (t + 1) J (t + 1) (grpTo (t + 1) J t) from rfl]
 unfold UGroups.stepG
 rw [if_pos (.inl rfl)]
theorem inv_end {L : List (List Int)} {J : List S33} (hL : 0 < L.length) : Inv L.length J L.length (linksOf L (groups L.length J)).1 L.flatten.length := by
 have h := inv_all L.length J L rfl L.length (Nat.le_refl _)
 rw [grp_end _ _ hL] at h
 have e := groups_end J L
 unfold groups at e ⊢
 rw [e] at h
 exact h
theorem links_right {L : List (List Int)} {J : List S33} (hn : 0 < L.length) (hm : 0 < L.flatten.length) (hn2 : L.length ≤ 1000) (hm2 : L.flatten.length ≤ 1000) : wrongR (L.length : Nat) (L.flatten.length : Nat) (linksOf L (groups L.length J)).1 = 0 := by
 have hI := inv_end (J := J) hn
 unfold wrongR
 rw [if_neg (by omega), if_pos]
 ·unfold wrongIn
  rw [if_neg (by omega), if_neg (by omega), if_pos]
  rw [List.all_eq_true, Int.toNat_natCast]
  intro i hi
  obtain ⟨x, hx, h1, h2⟩ := hI.cover i (List.mem_range.1 hi)
  unfold outB
  rw [List.any_eq_true]
  exact ⟨x, hx, by simp only [Bool.and_eq_true, decide_eq_true_eq]; exact ⟨h1, h2⟩⟩
 ·rw [List.all_eq_true]
  intro x hx
  have h := hI.ok x hx
  unfold okB fitB
  simp only [Bool.and_eq_true, decide_eq_true_eq]
  omega
theorem links_none {L : List (List Int)} {J : List S33} (hm : L.flatten.length = 0) : (linksOf L (groups L.length J)).1 = [] := by
 rcases Nat.eq_zero_or_pos L.length with h0 | h0
 ·rw [h0]; rfl
 ·have hI := inv_end (J := J) h0
  cases h : (linksOf L (groups L.length J)).1 with
  | nil => rfl
  | cons x l =>
   have := hI.ok x (by rw [h]; exact List.mem_cons_self)
   omega
theorem wrong_empty (n : Nat) (hn : n ≤ 1000) : wrongR n (0 : Nat) [] = if 0 < n then 8 else 0 := by
 unfold wrongR
 rw [if_neg (by omega), if_pos (by rfl)]
 unfold wrongIn
 by_cases h : 0 < n
 ·rw [if_pos (by omega), if_pos h]
 ·rw [if_neg (by omega), if_neg (by omega), if_pos (by rfl), if_neg h]
end Go.Proofs.YtemhccjjcioodaaGreat.UMap
namespace Go.Proofs.YtemhccjjcioodaaGreat.Cel
open Go.RowKit Go.Proofs.YtemhccjjcioodaaGreatW.PrintWords Go.Proofs.YtemhccjjcioodaaGreatW.PrintMore Go.Proofs.YtemhccjjcioodaaGreatW.PrintLast Go.Proofs.YtemhccjjcioodaaGreat.U Go.Proofs.YtemhccjjcioodaaGreat.PClusterFinest Go.Proofs.YtemhccjjcioodaaGreat.UFinest Go.Proofs.YtemhccjjcioodaaGreat.UGroups Go.Proofs.YtemhccjjcioodaaGreat.UFinEv Go.Proofs.YtemhccjjcioodaaGreat.UMap
open Go.Proofs.YtemhccjjcioodaaGreat.CFin (finest_c finest_bad cluS wrong_ok)
variable {w W W2 : World} {F G : Nat → Prop} {base b N i : Nat} {u : Value} {L : List (List Int)} {J p : List S33}
theorem clu_one {D : Nat → Prop} (hD : CellsAt 100 w D b L J) (hn : L.length ≤ 100) (hJ : J.length ≤ 1000) (hF : L.flatten.length ≤ 800) :
 Calls Tryz.prog 61 #[ptr b] w fun e W => ∃ v r, e = .returned (.tuple #[v, .int .i64 r]) ∧ Below w.heap.size w W ∧ ((L.flatten.length = 0 ∧ r = (if 0 < L.length then 8 else 0)) ∨ (0 < L.flatten.length ∧ 0 < L.length ∧ r = 0 ∧ ∃ A, FinOk L.length L.flatten.length ((linksOf L (groups L.length J)).1.map lkOf) A ∧ SLk k45 W v (cluS L.length L.flatten.length A L.length))) := by
 have hend := Cel.groups_end J L
 have hlen : (linksOf L (groups L.length J)).1.length ≤ 100 := by
  have h1 := (linksOf_le L (groups L.length J) (groups L.length J).length (Nat.le_refl _)).2
  rw [List.take_length] at h1
  have h2 : (groups L.length J).length ≤ L.length := grp_len L.length J L.length
  omega
 rcases Nat.eq_zero_or_pos L.flatten.length with e0 | e0
 ·have hl := links_none (J := J) e0
  have hz : ((0 : Nat) : Int) = 0 := rfl
  have hbad : wrongR (L.length : Int) (L.flatten.length : Int) [] ≠ 0 ∨ (L.length : Int) = 0 := by
   rw [e0, wrong_empty _ (by omega)]
   by_cases h : 0 < L.length
   ·rw [if_pos h]; exact .inl (by decide)
   ·exact .inr (by omega)
  refine (clusters_c hD (by omega) (by omega) (by omega) (fun u r _ => r = (if 0 < L.length then 8 else 0)) (fun w1 u hs hb => by rw [hend]; rw [hl] at hs; exact (finest_bad _ _ hs (by simp) hbad).mono (by rintro e w' ⟨rfl, hb⟩; exact ⟨_, _, rfl, by rw [e0, wrong_empty _ (by omega)], hb⟩))).mono ?_
  rintro e W ⟨u, r, rfl, hr, hb⟩
  exact ⟨u, r, rfl, hb, .inl ⟨e0, hr⟩⟩
 ·have hN0 : 0 < L.length := by
   rcases Nat.eq_zero_or_pos L.length with h | h
   ·rw [List.eq_nil_of_length_eq_zero h] at e0; exact absurd e0 (Nat.lt_irrefl 0)
   ·exact h
  have hw := links_right (J := J) hN0 e0 (by omega) (by omega)
  refine (clusters_c hD (by omega) (by omega) (by omega) (fun u r w' => r = 0 ∧ ∃ A, FinOk L.length L.flatten.length ((linksOf L (groups L.length J)).1.map lkOf) A ∧ SLk k45 w' u (cluS L.length L.flatten.length A L.length)) (fun w1 u hs hb => by rw [hend]; exact (finest_c L.length L.flatten.length hs (by omega) hN0 e0 (by omega) hw).mono (by rintro e w' ⟨u, A, rfl, hf, hR, hb⟩; exact ⟨_, _, rfl, ⟨rfl, A, hf, SLk.of_R hR⟩, hb⟩))).mono ?_
  rintro e W ⟨u, r, rfl, ⟨hr, A, hf, hs⟩, hb⟩
  exact ⟨u, r, rfl, hb, .inr ⟨e0, hN0, hr, A, hf, hs⟩⟩
end Go.Proofs.YtemhccjjcioodaaGreat.Cel
end
section
namespace Go.Proofs.YtemhccjjcioodaaGreat.KStretch
open Go.RowKit Go.Proofs.YtemhccjjcioodaaGreatW.PrintWords Go.Proofs.YtemhccjjcioodaaGreatW.PrintMore Go.Proofs.YtemhccjjcioodaaGreatW.PrintLast Go.Proofs.YtemhccjjcioodaaGreat.U Go.Proofs.YtemhccjjcioodaaGreat.PClusterFinest Go.Proofs.YtemhccjjcioodaaGreat.KPlace Go.Proofs.YtemhccjjcioodaaGreat.UKash Go.Proofs.YtemhccjjcioodaaGreat.KBehind Go.Proofs.YtemhccjjcioodaaGreat.UStretch
open Go.Proofs.YtemhccjjcioodaaGreat.CProps (PropsAt)
open Go.Proofs.YtemhccjjcioodaaGreat.Cel (CellsAt Eff CellsAt.below CellsAt.mono linksOf)
open Go.Proofs.YtemhccjjcioodaaGreat.UGroups (groups)
open Go.Proofs.YtemhccjjcioodaaGreat.UFinEv (lkOf)
open Go.Proofs.YtemhccjjcioodaaGreat.UFinest (FinOk)
open Go.Proofs.YtemhccjjcioodaaGreat.CFin (cluS)
def ints (l : List Nat) : List Int := l.map fun i : Nat => (i : Int)
theorem ints_len (l : List Nat) : (ints l).length = l.length := by simp [ints]
theorem ints_zero (n : Nat) : ints (List.replicate n 0) = List.replicate n (0 : Int) := by simp [ints]
theorem ints_set (l : List Nat) (i v : Nat) : (ints l).set i (v : Int) = ints (l.set i v) := by simp [ints, List.map_set]
theorem rd_ints {M : List Nat} {b y : Nat} (h : y = M.getD b 0) : rdOf (0 : Int) (ints M) (b : Int) = (y : Int) := by
 unfold rdOf ints
 rw [Int.toNat_natCast, h, List.getD_eq_getElem?_getD, List.getD_eq_getElem?_getD, List.getElem?_map]
 cases M[b]? <;> rfl
def Lto (xs : List Int) (M : List Nat) (j : Nat) : List (List Int) := (rowsOf xs M).take j ++ List.replicate (xs.length - j) []
theorem Lto_zero (xs : List Int) (M : List Nat) : Lto xs M 0 = List.replicate xs.length [] := by unfold Lto; rw [List.take_zero, List.nil_append, Nat.sub_zero]
theorem Lto_len (xs : List Int) (M : List Nat) {j : Nat} (h : j ≤ xs.length) : (Lto xs M j).length = xs.length := by
 unfold Lto
 rw [List.length_append, List.length_take, rowsOf_len, List.length_replicate]
 omega
theorem Lto_end (xs : List Int) (M : List Nat) : Lto xs M xs.length = rowsOf xs M := by
 unfold Lto
 rw [Nat.sub_self, List.replicate_zero, List.append_nil, List.take_of_length_le (by rw [rowsOf_len]; exact Nat.le_refl _)]
theorem Lto_set (xs : List Int) (M : List Nat) {j : Nat} (h : j < xs.length) : (Lto xs M j).set j (xs[j] :: List.replicate (M.getD j 0) 1600) = Lto xs M (j + 1) := by
 have hl : ((rowsOf xs M).take j).length = j := by rw [List.length_take, rowsOf_len]; omega
 have hr : (rowsOf xs M)[j]'(by rw [rowsOf_len]; exact h) = xs[j] :: List.replicate (M.getD j 0) 1600 := by
  simp [rowsOf, List.getD_eq_getElem?_getD, h]
 unfold Lto
 obtain ⟨k, hk⟩ : ∃ k, xs.length - j = k + 1 := ⟨xs.length - j - 1, by omega⟩
 rw [List.set_append_right _ _ (by omega), hl, Nat.sub_self, hk, List.replicate_succ, List.set_cons_zero, List.take_succ_eq_append_getElem (by rw [rowsOf_len]; exact h), hr, List.append_assoc, show xs.length - (j + 1) = k by omega]
 rfl
noncomputable def strL (xs : List Int) (n : Nat) : List (List Int) := rowsOf xs (manyTo (xs.map CJoins.jn) xs.length n (placesN xs (xs.map CJoins.jn) xs.length) (placesN xs (xs.map CJoins.jn) xs.length).length)
theorem R_one (w : World) (x : Int) : Kd.R (Kd.int .i64) 3 (w.alloc (.cells #[.int .i64 x] 3 (0, 0))) w.heap.size (fun k => k = w.heap.size) (.slice (some ⟨w.heap.size, 0, none⟩) 1 1) [x] := by
 refine ⟨fun k hk => by simp [Value.ownBlock] at hk; exact hk.symm, [.int .i64 x], ⟨rfl, .inr ⟨w.heap.size, 1, #[.int .i64 x], rfl, Nat.le_refl _, blk_new _ _, Nat.le_refl _, by decide, rfl, rfl⟩⟩, ?_⟩
 exact Reps.one (show Kd.M (Kd.int .i64) _ _ _ x [.int .i64 x] from rfl) (Reps.none _ _)
theorem placesN_le {xs ts : List Int} {ps : List Nat} (h : ps = placesN xs ts xs.length) : ps.length ≤ 6 * xs.length := by
 rw [h]
 unfold placesN
 rw [List.length_flatMap]
 have hb : ∀ k : Nat, (byRank xs ts xs.length ((k : Int) + 1)).length ≤ xs.length := fun k => by
  unfold byRank
  exact Nat.le_trans (List.length_filter_le _ _) (by simp)
 have h0 := hb 0; have h1 := hb 1; have h2 := hb 2; have h3 := hb 3; have h4 := hb 4; have h5 := hb 5
 simp only [List.range, List.range.loop, List.map_cons, List.map_nil, List.sum_cons, List.sum_nil]
 omega
set_option maxRecDepth 100000 in
set_option maxHeartbeats 16000000 in
theorem stretch_c {w : World} {g : Nat} (h : PropsAt w g) {A : Option Addr} {c : Nat} {xs : List Int} (hx : SL w (.slice A xs.length c) xs) (hm : xs.length ≤ 60) (n : Nat) (hn : 0 < n) (hn6 : n ≤ 60) :
 Calls Tryz.prog 15 #[.pointer (some ⟨g, 0, none⟩), .slice A xs.length c, .int .i64 n] w fun e w' => Below w.heap.size w w' ∧
  ((placesN xs (xs.map CJoins.jn) xs.length = [] ∧ e = .returned (.tuple #[.slice none 0 0, .slice none 0 0, .int .i64 9])) ∨
   (0 < (placesN xs (xs.map CJoins.jn) xs.length).length ∧ ∃ u v F, e = .returned (.tuple #[u, v, .int .i64 0]) ∧ SL w' u (strL xs n).flatten ∧ FinOk (strL xs n).length (strL xs n).flatten.length ((linksOf (strL xs n) (groups (strL xs n).length [])).1.map lkOf) F ∧ SLk k45 w' v (cluS (strL xs n).length (strL xs n).flatten.length F (strL xs n).length))) := by
 have H := Aside0.mk h
 have HX := Aside0.mk hx
 have HM := Aside0.mk hm
 have HN := Aside0.mk hn
 have HN6 := Aside0.mk hn6
 obtain ⟨ts, hts⟩ : ∃ ts, ts = xs.map CJoins.jn := ⟨_, rfl⟩
 rw [← hts]
 have HTL : Aside0 (ts.length = xs.length) := ⟨by rw [hts, List.length_map]⟩
 have HTS := Aside0.mk hts
 obtain ⟨ps, hps⟩ : ∃ ps, ps = placesN xs ts xs.length := ⟨_, rfl⟩
 rw [← hps]
 have HPS := Aside0.mk hps
 have h0 : ¬ (n : Int) < 0 := by omega
 have h1 : ¬ (n : Int) > 16777216 := by omega
 have h2 : ¬ (n : Int) = 0 := by omega
 have h3 : ¬ (xs.length : Int) > 16777216 - (n : Int) := by omega
 clear h hx hm hn hn6 hts hps
 go_enter Tryz.func15, Tryz.ntmps15
 go_upto_region 9 with (first | (go_at_call 51; refine (KProps.pjoins_c H.out HX.out (by have := HM.out; omega)).mono ?_; rintro e w1 ⟨u, rfl, hr, hb⟩; rw [← HTS.out] at hr; obtain ⟨B, d, ed⟩ := Kd.R_slice hr; subst ed; rw [HTL.out]; have HT := Aside0.mk (SLk.of_R hr); have HB1 := Aside0.mk hb; clear hr hb) | ((with_reducible refine gate_dst (N := 9) rfl ?_); refine box_event ?hg (N := 9) ?hd (cs := #[.slice none 0 0, .slice none 0 0]) (t := 82) ?hr ?_; (case hd => rfl); (case hg => rfl); (case hr => first | (go_simp; done) | (go_simp; rfl)); intro g9 hg w2 hbox hb; have HX9 := Aside0.mk hbox; have HG9 : Aside0 (w.heap.size ≤ g9) := ⟨by rw [hg]; exact HB1.out.size⟩; have HG91 : Aside0 (w1.heap.size ≤ g9) := ⟨by rw [hg]; exact Nat.le_refl _⟩; have HB2 : Aside0 (Below w.heap.size w w2) := ⟨below_step HB1.out hb⟩; have HB12 := Aside0.mk hb; have z0 : w2.cell? ⟨g9, 0, none⟩ = some (.slice none 0 0) := (blk_cell hbox 0).trans rfl; have z1 : w2.cell? ⟨g9, 1, none⟩ = some (.slice none 0 0) := (blk_cell hbox 1).trans rfl; have f0 := blk_frozen hbox 0; have f1 := blk_frozen hbox 1; clear hg hbox hb))
 have HY9 := Aside0.mk (blk_put (blk_put HX9.out 0 (.slice A xs.length c) rfl) 1 (.slice B xs.length d) rfl)
 have HGG := Aside0.mk (World.grownBy.trans (grown_set w2 g9 0 (.slice A xs.length c)) (grown_set _ g9 1 (.slice B xs.length d)))
 generalize (w2.setCell ⟨g9, 0, none⟩ (.slice A xs.length c)).setCell ⟨g9, 1, none⟩ (.slice B xs.length d) = w3 at HY9 HGG ⊢
 have HB3 : Aside0 (Below w.heap.size w w3) := ⟨HB2.out.grown HGG.out HB2.out.size (fun j hj => by obtain rfl := Option.some.inj hj; exact HG9.out)⟩
 have HB13 : Aside0 (Below w1.heap.size w1 w3) := ⟨HB12.out.grown HGG.out HB12.out.size (fun j hj => by obtain rfl := Option.some.inj hj; exact HG91.out)⟩
 have HX3 := Aside0.mk (SLk.below HX.out HB3.out)
 have HT3 := Aside0.mk (SLk.below HT.out HB13.out)
 have y0 := (blk_cell HY9.out 0).trans rfl
 have y1 := (blk_cell HY9.out 1).trans rfl
 clear z0 z1 f0 f1 HX9
 by_cases hp0 : ps.length = 0
 ·have e0 : ps = [] := List.eq_nil_of_length_eq_zero hp0
  have hp0I : (ps.length : Int) = 0 := by omega
  clear hp0
  go_wp2_with (first | (go_at_call 56; have hcon := KPlaces.textPlaces_c HX3.out HT3.out HTL.out (by have := HM.out; omega); rw [HTL.out] at hcon; refine hcon.mono ?_; rintro e w4 ⟨u10, rfl, hr, hb⟩; clear hcon; rw [← HPS.out] at hr; obtain ⟨Ap, cp, ep⟩ := Kd.R_slice hr; rw [List.length_map] at ep; subst ep; have HP4 := Aside0.mk (SLk.of_R hr); have HB34 := Aside0.mk hb; have HB4 : Aside0 (Below w.heap.size w w4) := ⟨below_step HB3.out hb⟩; clear hr hb))
  refine bodyPost_ret (results_tmp3 rfl _ _ _) rfl ?_
  exact ⟨HB4.out, .inl ⟨e0, rfl⟩⟩
 ·have HP0 : Aside0 (0 < ps.length) := ⟨by omega⟩
  have hp0I : ¬ (ps.length : Int) = 0 := by omega
  clear hp0
  go_upto_region 14 with (first | (go_at_call 56; have hcon := KPlaces.textPlaces_c HX3.out HT3.out HTL.out (by have := HM.out; omega); rw [HTL.out] at hcon; refine hcon.mono ?_; rintro e w4 ⟨u10, rfl, hr, hb⟩; clear hcon; rw [← HPS.out] at hr; obtain ⟨Ap, cp, ep⟩ := Kd.R_slice hr; rw [List.length_map] at ep; subst ep; have HP4 := Aside0.mk (SLk.of_R hr); have HB34 := Aside0.mk hb; have HB4 : Aside0 (Below w.heap.size w w4) := ⟨below_step HB3.out hb⟩; clear hr hb) | ((with_reducible refine gate_dst (N := 51) rfl ?_); refine Kd.R_make (Kd.int .i64) (w0 := w4) w4.heap.size 3 rfl rfl 22 (.tmp 50) (.tmp 50) rfl (xs.length : Int) (by first | (go_simp; done) | (go_simp; rfl)) (by first | (go_simp; done) | (go_simp; rfl)) Tryz.underlying22 (.int .i64 0) 8 KPlaces.info3 rfl (by decide) (by omega) (0 : Int) (ok := fun _ => True) (okp := fun _ => False) rfl (fun _ h => h.elim) trivial (by omega) (by have := HM.out; simp only [Int.toNat_natCast]; omega) (Below.refl _ _) (Nat.le_refl _) ?_; intro v5 w5 hv hb hg hat; rw [Int.toNat_natCast] at hv; obtain ⟨Am, cm, em⟩ := Kd.R_slice hv; rw [List.length_replicate] at em; subst em; have HV5 : Aside0 (Kd.R (Kd.int .i64) 3 w5 w4.heap.size (fun _ => True) (.slice Am xs.length cm) (ints (manyTo ts xs.length n ps 0))) := ⟨by rw [manyTo, ints_zero]; exact hv⟩; have HB5 := Aside0.mk hb; clear hv hb hg hat))
  clear y0 y1
  go_loopw [54] (fun v wr => ∃ i : Nat, v = .int .i64 i ∧ i ≤ ps.length ∧ Aside0 (Kd.R (Kd.int .i64) 3 wr w4.heap.size (fun _ => True) (.slice Am xs.length cm) (ints (manyTo ts xs.length n ps i))) ∧ Aside0 (Below w4.heap.size w4 wr)) (fun v _ => ps.length - (intOf v).toNat)
  case atStart => exact ⟨0, rfl, Nat.zero_le _, HV5, HB5⟩
  case round =>
   obtain ⟨i, rfl, hi, HV, HB⟩ := hrel
   have HYr : Aside0 (wr.heap[g9]? = some (.cells #[.slice A xs.length c, .slice B xs.length d] 82 (0, 0))) := ⟨((below_step HB34.out HB.out).block _ (blk_lt HY9.out)).trans HY9.out⟩
   have HB3r : Aside0 (Below w3.heap.size w3 wr) := ⟨below_step HB34.out HB.out⟩
   have x0 := (blk_cell HYr.out 0).trans rfl
   have x1 := (blk_cell HYr.out 1).trans rfl
   by_cases hli : i < ps.length
   ·have hiI : (i : Int) < (ps.length : Int) := by omega
    have hi9 : (i : Int) ≤ 1000000 := by have h1 := placesN_le HPS.out; have := HM.out; omega
    have hi0 : 0 ≤ (i : Int) := by omega
    obtain ⟨adp, cp', ep, c0⟩ := SLk.at_int (SLk.below HP4.out HB.out) (i : Int) (by omega) (by rw [List.length_map]; omega)
    injection ep with ep e2 e3
    clear e2 e3
    subst ep
    rw [Int.toNat_natCast, rd_get (by rw [List.length_map]; exact hli), List.getElem_map] at c0
    have hmem : ps[i] ∈ placesN xs ts xs.length := by rw [← HPS.out]; exact List.getElem_mem _
    have HPL : Aside0 (ps[i] < xs.length) := ⟨(mem_placesN.1 hmem).1⟩
    clear hmem
    have HPG : Aside0 (ps.getD i 0 = ps[i]) := ⟨by rw [List.getD_eq_getElem?_getD, List.getElem?_eq_getElem hli]; rfl⟩
    generalize ps[i] = p at c0 HPL HPG
    have HI := Aside0.mk hli
    clear hli hi
    obtain ⟨M, hM⟩ : ∃ M, M = manyTo ts xs.length n ps i := ⟨_, rfl⟩
    have HML : Aside0 (M.length = xs.length) := ⟨by rw [hM]; exact manyTo_len _ _ _ _ _⟩
    obtain ⟨b, hb⟩ : ∃ b, b = mEnd ts xs.length p := ⟨_, rfl⟩
    have HBE := Aside0.mk hb
    have HBL : Aside0 (b < xs.length) := ⟨by rw [hb]; have h1 := mEnd_lt ts xs.length p (by rw [HTL.out]; exact HPL.out); rw [HTL.out] at h1; exact h1⟩
    obtain ⟨sh, hsh⟩ : ∃ sh, sh = share n ps.length i := ⟨_, rfl⟩
    have HNX : Aside0 (manyTo ts xs.length n ps (i + 1) = M.set b (M.getD b 0 + sh)) := ⟨by rw [manyTo, HPG.out, ← hb, ← hM, ← hsh]⟩
    have HMS : Aside0 (M.getD b 0 ≤ n) := ⟨by
     have h1 := getD_le_sum M b
     have h2 := manyTo_sum ts xs.length n ps HTL.out (fun q hq => (mem_placesN.1 (by rw [← HPS.out]; exact hq)).1) i (by have := HI.out; omega)
     have h3 := shares_le n ps.length HP0.out i (by have := HI.out; omega)
     rw [hM] at h1 ⊢
     omega⟩
    obtain ⟨y, hy⟩ : ∃ y, y = M.getD b 0 := ⟨_, rfl⟩
    rw [← hy] at HNX HMS
    have HYE := Aside0.mk hy
    rw [← hM] at HV
    obtain ⟨gm, capm, em, -, -, -⟩ := Kd.R_form HV.out (by rw [ints_len, HML.out]; have := HBL.out; omega)
    rw [ints_len, HML.out] at em
    injection em with em e2 e3
    clear e2
    subst em
    subst e3
    have hq : wrap64 ((n : Int) / (ps.length : Int)) = ((n / ps.length : Nat) : Int) := by
     have h1 : ((n / ps.length : Nat) : Int) = (n : Int) / (ps.length : Int) := by simp
     have h2 : n / ps.length ≤ n := Nat.div_le_self _ _
     have h3 := HN6.out
     have h5 : (0 : Int) ≤ (n : Int) / (ps.length : Int) := Int.ediv_nonneg (by omega) (by omega)
     have h4 := w64 (n := ((n / ps.length : Nat) : Int)) (by omega) (by omega)
     rw [← h1]
     exact h4
    have hr : (n : Int) % (ps.length : Int) = ((n % ps.length : Nat) : Int) := by simp
    have hq9 : n / ps.length ≤ 60 := Nat.le_trans (Nat.div_le_self _ _) HN6.out
    have hy9 : (y : Int) ≤ 60 := by have h1 := HMS.out; have h2 := HN6.out; omega
    have hbI : (b : Int) < (xs.length : Int) := by have := HBL.out; omega
    have hb0 : 0 ≤ (b : Int) := by omega
    have HSH := Aside0.mk hsh
    clear hM hb hsh hy
    go_upto_region 17 with (fail)
    rw [hq]
    clear hq
    unfold share at HSH
    generalize n / ps.length = q at hq9 HSH ⊢
    by_cases hlt : i < n % ps.length
    ·have hltI : (i : Int) < ((n % ps.length : Nat) : Int) := by omega
     rw [if_pos hlt] at HSH
     have hse := HSH.out
     clear HSH
     subst hse
     generalize n % ps.length = r at hr hltI
     clear hlt
     have ev : ((y + (q + 1) : Nat) : Int) = (y : Int) + ((q : Int) + 1) := by omega
     have HEV := Aside0.mk ev; clear ev
     go_wp2_with (first | (go_at_call 57; have hcon := KBehind.behind_c (SLk.below HX3.out HB3r.out) (SLk.below HT3.out HB3r.out) HTL.out (by have := HM.out; omega) p HPL.out; rw [HTL.out] at hcon; refine hcon.mono ?_; rintro e w6 ⟨rfl, hb⟩; clear hcon; rw [← HBE.out]; have hv2 := Kd.R_below HV.out hb; obtain ⟨z9, z1⟩ := Kd.R_celln (0 : Int) hv2 (b : Int) hb0 hbI; have hp := (Kd.R_putg hv2 (b : Int) ((y + (q + 1) : Nat) : Int)).1; rw [Int.toNat_natCast] at z9 z1 hp; have z0 : w6.cell? ⟨gm, b, none⟩ = some (.int .i64 (y : Int)) := (by rw [z9, rd_ints HYE.out]); clear z9; rw [ints_set, ← HNX.out, HEV.out] at hp; have HP := Aside0.mk hp; have HGM : Aside0 (w4.heap.size ≤ gm) := ⟨Kd.R_base hv2 gm (by simp [Value.ownBlock])⟩; have HB6 : Aside0 (Below w4.heap.size w4 w6) := ⟨below_step HB.out hb⟩; clear hb hv2 hp))
     exact ⟨⟨i + 1, by go_num, by have := HI.out; omega, HP, ⟨HB6.out.setCell (p := ⟨gm, b, none⟩) HGM.out _⟩⟩, by have := HI.out; simp [intOf]; omega⟩
    ·have hltI : ¬ (i : Int) < ((n % ps.length : Nat) : Int) := by omega
     rw [if_neg hlt, Nat.add_zero] at HSH
     have hse := HSH.out
     clear HSH
     subst hse
     generalize n % ps.length = r at hr hltI
     clear hlt
     have ev : ((y + sh : Nat) : Int) = (y : Int) + (sh : Int) := by omega
     have HEV := Aside0.mk ev; clear ev
     go_wp2_with (first | (go_at_call 57; have hcon := KBehind.behind_c (SLk.below HX3.out HB3r.out) (SLk.below HT3.out HB3r.out) HTL.out (by have := HM.out; omega) p HPL.out; rw [HTL.out] at hcon; refine hcon.mono ?_; rintro e w6 ⟨rfl, hb⟩; clear hcon; rw [← HBE.out]; have hv2 := Kd.R_below HV.out hb; obtain ⟨z9, z1⟩ := Kd.R_celln (0 : Int) hv2 (b : Int) hb0 hbI; have hp := (Kd.R_putg hv2 (b : Int) ((y + sh : Nat) : Int)).1; rw [Int.toNat_natCast] at z9 z1 hp; have z0 : w6.cell? ⟨gm, b, none⟩ = some (.int .i64 (y : Int)) := (by rw [z9, rd_ints HYE.out]); clear z9; rw [ints_set, ← HNX.out, HEV.out] at hp; have HP := Aside0.mk hp; have HGM : Aside0 (w4.heap.size ≤ gm) := ⟨Kd.R_base hv2 gm (by simp [Value.ownBlock])⟩; have HB6 : Aside0 (Below w4.heap.size w4 w6) := ⟨below_step HB.out hb⟩; clear hb hv2 hp))
     exact ⟨⟨i + 1, by go_num, by have := HI.out; omega, HP, ⟨HB6.out.setCell (p := ⟨gm, b, none⟩) HGM.out _⟩⟩, by have := HI.out; simp [intOf]; omega⟩
   ·obtain rfl : i = ps.length := by omega
    clear hli hi
    obtain ⟨M, hM⟩ : ∃ M, M = manyTo ts xs.length n ps ps.length := ⟨_, rfl⟩
    have HML : Aside0 (M.length = xs.length) := ⟨by rw [hM]; exact manyTo_len _ _ _ _ _⟩
    have HMS : Aside0 (M.sum = n) := ⟨by rw [hM, manyTo_sum ts xs.length n ps HTL.out (fun q hq => (mem_placesN.1 (by rw [← HPS.out]; exact hq)).1) ps.length (Nat.le_refl _)]; exact shares_all n ps.length HP0.out⟩
    rw [← hM] at HV
    have HME := Aside0.mk hM
    clear hM x0 x1
    obtain ⟨wr0, hwr0⟩ : ∃ wr0, wr0 = wr := ⟨_, rfl⟩
    subst hwr0
    go_upto_region 25 with (first | (go_at_call 58; refine (Cel.new_c xs.length (by have := HM.out; omega)).mono ?_; rintro e w6 ⟨b, rfl, hc, hb⟩; have HC6 := Aside0.mk hc; have HB6 := Aside0.mk hb; clear hc hb))
    go_loopw [92] (fun v wq => ∃ j : Nat, v = .int .i64 j ∧ j ≤ xs.length ∧ Aside0 (CellsAt 100 wq (fun q => wr0.heap.size ≤ q) b (Lto xs M j) []) ∧ Aside0 (Below wr0.heap.size wr0 wq)) (fun v _ => xs.length - (intOf v).toNat)
    case atStart => exact ⟨0, rfl, Nat.zero_le _, ⟨by rw [Lto_zero]; exact HC6.out⟩, HB6⟩
    case round =>
     clear HC6 HB6
     obtain ⟨j, rfl, hj, HC, HBQ⟩ := hrel
     have HBwr : Aside0 (Below w.heap.size w wr0) := ⟨below_step HB4.out HB.out⟩
     have HBwq : Aside0 (Below w.heap.size w wr) := ⟨below_step HBwr.out HBQ.out⟩
     by_cases hlj : j < xs.length
     ·have hjI : (j : Int) < (xs.length : Int) := by omega
      have hj0 : 0 ≤ (j : Int) := by omega
      have hj9 : (j : Int) ≤ 60 := by have := HM.out; omega
      obtain ⟨adx, cx', ex, c0⟩ := SLk.at_int (SLk.below HX.out HBwq.out) (j : Int) hj0 hjI
      injection ex with ex e2 e3
      clear e2 e3
      subst ex
      rw [Int.toNat_natCast, rd_get hlj] at c0
      have hvq := Kd.R_below HV.out HBQ.out
      obtain ⟨gm, capm, em, -, -, -⟩ := Kd.R_form hvq (by rw [ints_len, HML.out]; omega)
      rw [ints_len, HML.out] at em
      injection em with em e2 e3
      clear e2
      subst em
      subst e3
      obtain ⟨y, hy⟩ : ∃ y, y = M.getD j 0 := ⟨_, rfl⟩
      obtain ⟨z9, z1⟩ := Kd.R_celln (0 : Int) hvq (j : Int) hj0 hjI
      rw [Int.toNat_natCast] at z9
      have z0 : wr.cell? ⟨gm, j, none⟩ = some (.int .i64 (y : Int)) := (by rw [z9, rd_ints hy])
      have HY60 : Aside0 (y ≤ 60) := ⟨by have h1 := getD_le_sum M j; have h2 := HMS.out; have h3 := HN6.out; omega⟩
      have HST : Aside0 ((Lto xs M j).set j (xs[j] :: List.replicate y 1600) = Lto xs M (j + 1)) := ⟨by rw [hy]; exact Lto_set xs M hlj⟩
      have HLL : Aside0 (j < (Lto xs M j).length) := ⟨by rw [Lto_len xs M hj]; exact hlj⟩
      generalize xs[j] = x at c0 HST
      have HJ := Aside0.mk hlj
      clear z9 z1 hvq hy hlj hj
      have z2 : ((wr.alloc (.cells #[.int .i64 x] 3 (0, 0))).alloc (.cells #[.int .i64 1600] 3 (0, 0))).cell? ⟨gm, j, none⟩ = some (.int .i64 (y : Int)) := ((below_alloc (below_alloc (Below.refl _ _) _) _).cell (World.block_lt_of_cell? _ _ z0)).trans z0
      have HO1 := Aside0.mk (Kd.R_alloc (R_one wr x) (.cells #[.int .i64 1600] 3 (0, 0)))
      have HO2 : Aside0 (SL ((wr.alloc (.cells #[.int .i64 x] 3 (0, 0))).alloc (.cells #[.int .i64 1600] 3 (0, 0))) (.slice (some ⟨wr.heap.size + 1, 0, none⟩) 1 1) [1600]) := ⟨by
       have h := SLk.of_R (R_one (wr.alloc (.cells #[.int .i64 x] 3 (0, 0))) 1600)
       rwa [show (wr.alloc (.cells #[.int .i64 x] 3 (0, 0))).heap.size = wr.heap.size + 1 by simp] at h⟩
      have HBA : Aside0 (Below wr.heap.size wr ((wr.alloc (.cells #[.int .i64 x] 3 (0, 0))).alloc (.cells #[.int .i64 1600] 3 (0, 0)))) := ⟨below_alloc (below_alloc (Below.refl _ _) _) _⟩
      go_wp2_with (first | (go_at_call 60; refine (KRep.repeat_c HO2.out y (by have := HY60.out; omega)).mono ?_; rintro e w7 ⟨u, rfl, hr, hb⟩; obtain ⟨Ar, cr, er, hcr, hCr⟩ := hr; rw [List.length_replicate] at er hCr; subst er; have HCr := Aside0.mk hCr; have HO7 := Aside0.mk (Kd.R_below HO1.out hb); have HB7 : Aside0 (Below wr.heap.size wr w7) := ⟨below_step HBA.out hb⟩; clear hb hcr hCr) | ((with_reducible refine gate_builtin (b := .append) (xs := #[.tmp 100, .tmp 106]) rfl ?_); at_builtin; refine Kd.R_append_rows (Kd.int .i64) (w0 := wr) wr.heap.size rfl (.tmp 100) (.tmp 106) 22 3 (.int .i64 0) 8 rfl Tryz.underlying22 KPlaces.info3 rfl (by decide) (by omega) (.slice (some ⟨wr.heap.size, 0, none⟩) 1 1) [x] (List.replicate y 1600) Ar y cr (fun _ => True) (fun _ => False) (by first | rfl | (go_simp; done) | (go_simp; rfl)) (by first | rfl | (go_simp; done) | (go_simp; rfl)) (Kd.R_mono HO7.out (fun _ _ => trivial)) HCr.out (fun x cs h => h) (fun _ h => h.elim) (fun _ _ => trivial) HB7.out HB7.out.size (by have := HY60.out; simp only [List.length_singleton]; omega) ?_; intro v8 w8 hv hb hg hat; have HV8 := Aside0.mk (SLk.of_R hv); have HB8 := Aside0.mk hb; clear hv hb hg hat) | (go_at_call 59; refine (Cel.set_c (HC.out.below HB8.out) j HLL.out HV8.out (by have := HY60.out; rw [List.length_append, List.length_replicate]; simp only [List.length_singleton]; omega)).mono ?_; rintro e w9 ⟨rfl, hc, he⟩; have HC9 : Aside0 (CellsAt 100 w9 (fun q => wr0.heap.size ≤ q) b (Lto xs M (j + 1)) []) := ⟨by rw [← HST.out]; exact hc.mono (fun q hq => hq.elim (fun h => h) (fun h => Nat.le_trans HBQ.out.size (Nat.le_trans HB8.out.size h)))⟩; have HB9 : Aside0 (Below wr0.heap.size wr0 w9) := ⟨(below_step HBQ.out HB8.out).trans (he.below (Nat.le_trans HBQ.out.size HB8.out.size) (fun k hk => hk))⟩; clear hc he))
      exact ⟨⟨j + 1, by go_num, by have := HJ.out; omega, HC9, HB9⟩, by have := HJ.out; simp [intOf]; omega⟩
     ·obtain rfl : j = xs.length := by omega
      clear hlj hj
      have HL : Aside0 ((rowsOf xs M).length ≤ 60 ∧ (rowsOf xs M).flatten.length = xs.length + n) := ⟨by rw [rowsOf_len]; exact HM.out, by rw [rowsOf_flat xs M HML.out, HMS.out]⟩
      have HCE : Aside0 (CellsAt 100 wr (fun q => wr0.heap.size ≤ q) b (rowsOf xs M) []) := ⟨by rw [← Lto_end]; exact HC.out⟩
      have HSTR : Aside0 (strL xs n = rowsOf xs M) := ⟨by unfold strL; rw [HME.out, HTS.out, HPS.out, HTS.out]⟩
      go_wp2_with (first | (go_at_call 61; refine (Cel.clu_one HCE.out (by have := HL.out.1; omega) (Nat.zero_le _) (by have h1 := HL.out.2; have h2 := HM.out; have h3 := HN6.out; omega)).mono ?_; rintro e w10 ⟨v10, r10, rfl, hb, hc⟩; obtain ⟨-, -, rfl, FF, hf, hs⟩ := hc.resolve_left (fun h => absurd h.1 (by have h1 := HL.out.2; have h2 := HN.out; omega)); have HF10 := Aside0.mk hf; have HS10 := Aside0.mk hs; have HB10 : Aside0 (Below w.heap.size w w10) := ⟨below_step HBwq.out hb⟩; have HC10 := Aside0.mk (HCE.out.below hb); clear hb hc hf hs) | (go_at_call 30; refine (Cel.text_c HC10.out (by have := HL.out.1; omega) (by have h1 := HL.out.2; have h2 := HM.out; have h3 := HN6.out; omega)).mono ?_; rintro e w11 ⟨u11, rfl, hr, hb⟩; have HR11 := Aside0.mk hr; have HB101 := Aside0.mk hb; have HB11 : Aside0 (Below w.heap.size w w11) := ⟨below_step HB10.out hb⟩; clear hr hb))
      refine bodyPost_ret (results_tmp3 rfl _ _ _) rfl ?_
      refine ⟨HB11.out, .inr ⟨HP0.out, _, _, FF, rfl, ?_⟩⟩
      rw [HSTR.out]
      exact ⟨SLk.of_R HR11.out, HF10.out, SLk.below HS10.out HB101.out⟩
end Go.Proofs.YtemhccjjcioodaaGreat.KStretch
end
section
namespace Go.Proofs.YtemhccjjcioodaaGreat.KAwk
open Go.RowKit Go.Proofs.YtemhccjjcioodaaGreatW.PrintWords Go.Proofs.YtemhccjjcioodaaGreatW.PrintMore Go.Proofs.YtemhccjjcioodaaGreatW.PrintLast Go.Proofs.YtemhccjjcioodaaGreat.U Go.Proofs.YtemhccjjcioodaaGreat.PClusterFinest Go.Proofs.YtemhccjjcioodaaGreat.UFinest Go.Proofs.YtemhccjjcioodaaGreat.KStretch
open Go.Proofs.YtemhccjjcioodaaGreat.UGroups (groups)
open Go.Proofs.YtemhccjjcioodaaGreat.UFinEv (lkOf)
open Go.Proofs.YtemhccjjcioodaaGreat.Cel (linksOf)
open Go.Proofs.YtemhccjjcioodaaGreat.CFin (cluS)
theorem j1 : CJoins.jn 1576 = 3 := by kernel_rfl
theorem j2 : CJoins.jn 1575 = 2 := by kernel_rfl
theorem aw_str : strL [1576, 1575] 2 = [[1576, 1600, 1600], [1575]] := by
 unfold strL
 rw [List.map_cons, List.map_cons, List.map_nil, j1, j2]
 kernel_rfl
abbrev akL : List S45 := [⟨⟨0, 1⟩, ⟨0, 3⟩⟩, ⟨⟨1, 2⟩, ⟨3, 4⟩⟩]
theorem aw_links : linksOf [[1576, 1600, 1600], [1575]] (groups 2 []) = (akL, 4) := by kernel_rfl
def akC (x : Nat) : Nat := if x = 1 ∨ x = 5 then 1 else 0
theorem ak_closed : Closed 2 4 (akL.map lkOf) (fun x y => akC x = akC y) := by
 have hm : ∀ x, x ∈ akL.map lkOf ↔ x = ⟨0, 1, 0, 3⟩ ∨ x = ⟨1, 2, 3, 4⟩ := fun x => by simp [lkOf]
 refine ⟨⟨fun _ => rfl, fun _ _ h => h.symm, fun _ _ _ h h' => h.trans h'⟩, fun x hx i h1 h2 => ?_, fun x hx i h1 h2 => ?_, fun x hx => ?_, fun i h0 h1 h2 => ?_, fun i h1 h2 => ?_, fun i j k h1 h2 h3 h4 => ?_, fun i j k h0 h1 h2 h3 h4 => ?_⟩
 ·have e : x.a = i := by rcases (hm x).1 hx with rfl | rfl <;> (dsimp only at h1 h2 ⊢; omega)
  rw [e]
 ·rcases (hm x).1 hx with rfl | rfl
  ·dsimp only at h1 h2 ⊢
   unfold akC
   rw [if_neg (by omega), if_neg (by omega)]
  ·dsimp only at h1 h2 ⊢
   obtain rfl : i = 3 := by omega
   rfl
 ·rcases (hm x).1 hx with rfl | rfl <;> rfl
 ·obtain rfl : i = 1 := by omega
  exact absurd h2 (by decide)
 ·exact absurd h1 (by rw [show firstF (akL.map lkOf) 2 = 0 by decide]; exact Nat.not_lt_zero _)
 ·have e : i = j ∨ j = k := by omega
  rcases e with rfl | rfl
  ·rfl
  ·exact h4
 ·unfold akC at h4 ⊢
  by_cases a1 : i = 1 ∨ i = 5 <;> by_cases a2 : j = 1 ∨ j = 5 <;> by_cases a3 : k = 1 ∨ k = 5 <;> simp only [a1, a2, a3, if_true, if_false] at h4 ⊢ <;> omega
theorem ak_len {L : Lab} (h : FinOk 2 4 (akL.map lkOf) L) : (cluS 2 4 L 2).length = 2 := by
 have hs := h.sound _ ak_closed
 have ne : L 0 ≠ L 1 := fun e => by
  have h0 := hs 0
  have h1 := hs 1
  rw [← e] at h1
  have : akC 0 = akC 1 := h0.trans h1.symm
  exact absurd this (by decide)
 have ne' : ¬ L 1 = L 0 := fun e => ne e.symm
 unfold cluS cluTo
 simp [List.range_succ, List.filterMap, ne']
theorem aw_places : UKash.placesN [1576, 1575] ([1576, 1575].map CJoins.jn) [1576, 1575].length = [0] := by
 rw [List.map_cons, List.map_cons, List.map_nil, j1, j2]
 kernel_rfl
end Go.Proofs.YtemhccjjcioodaaGreat.KAwk
end
section
namespace Go.Proofs.YtemhccjjcioodaaGreat.KAwk
open Go.RowKit Go.Proofs.YtemhccjjcioodaaGreatW.PrintWords Go.Proofs.YtemhccjjcioodaaGreatW.PrintMore Go.Proofs.YtemhccjjcioodaaGreatW.PrintLast Go.Proofs.YtemhccjjcioodaaGreat.U Go.Proofs.YtemhccjjcioodaaGreat.PClusterFinest Go.Proofs.YtemhccjjcioodaaGreat.UFinest Go.Proofs.YtemhccjjcioodaaGreat.KStretch
open Go.Proofs.YtemhccjjcioodaaGreat.UGroups (groups)
open Go.Proofs.YtemhccjjcioodaaGreat.UFinEv (lkOf)
open Go.Proofs.YtemhccjjcioodaaGreat.Cel (linksOf)
open Go.Proofs.YtemhccjjcioodaaGreat.CFin (cluS)
set_option maxRecDepth 100000 in
set_option maxHeartbeats 8000000 in
theorem awake_c {w : World} : Calls Tryz.prog 13 #[] w fun e w' => e = .returned (.bool true) ∧ Below w.heap.size w w' := by
 go_enter Tryz.func13, Tryz.ntmps13
 go_upto_region 2 with (first | (go_at_call 14; refine (CProps.new_c _).mono ?_; rintro e w1 ⟨g, rfl, hp, hb⟩; have HP := Aside0.mk hp; have HB1 := Aside0.mk hb; clear hp hb) | (go_at_call 15; have hcon := stretch_c (HP.out.below (below_alloc (Below.refl _ _) _)) (A := some ⟨w1.heap.size, 0, none⟩) (c := 2) (CBase.SL_lit w1 3 [1576, 1575] (by decide)) (by decide) 2 (by decide) (by decide); refine hcon.mono ?_; clear hcon; rintro e w2 ⟨hb, hc⟩; obtain ⟨-, u, v, F, rfl, hs, hf, hl⟩ := hc.resolve_left (fun h => absurd (h.1.symm.trans aw_places) (by decide)); rw [aw_str] at hs hf hl; obtain ⟨Ac, cc, ev, -, -⟩ := hl; have hf2 : FinOk 2 4 (akL.map lkOf) F := (by have h := hf; rwa [show (linksOf [[1576, 1600, 1600], [1575]] (groups ([[1576, 1600, 1600], [1575]] : List (List Int)).length [])).1 = akL by exact congrArg Prod.fst aw_links] at h); have hlen := ak_len hf2; have hlen2 : (cluS ([[1576, 1600, 1600], [1575]] : List (List Int)).length ([[1576, 1600, 1600], [1575]] : List (List Int)).flatten.length F ([[1576, 1600, 1600], [1575]] : List (List Int)).length).length = 2 := hlen; rw [hlen2] at ev; subst ev; have HS := Aside0.mk hs; have HB2 : Aside0 (Below w.heap.size w w2) := ⟨below_step HB1.out (below_step (below_alloc (Below.refl _ _) _) hb)⟩; clear hb hc hs hf hf2 hlen hlen2))
 go_wp2_with (first | (go_at_call 17; refine (CBase.equal_c (xs := [1576, 1600, 1600, 1575]) (HS.out.below (below_alloc (Below.refl _ _) _)) (CBase.SL_lit w2 3 [1576, 1600, 1600, 1575] (by decide)) (by decide)).mono ?_; rintro e w3 ⟨rfl, hb⟩; have HB3 : Aside0 (Below w.heap.size w w3) := ⟨below_step HB2.out (below_step (below_alloc (Below.refl _ _) _) hb)⟩; clear hb) | (go_at_call 21; refine (KRank.rank_c 1587 _).mono ?_; rintro e w4 ⟨rfl, hb⟩; have HB4 : Aside0 (Below w.heap.size w w4) := ⟨below_step HB3.out hb⟩; clear hb))
 have e2 : (KRank.rankO 1587 == 2) = true := by decide
 rw [e2]
 go_ret
 exact ⟨rfl, HB4.out⟩
end Go.Proofs.YtemhccjjcioodaaGreat.KAwk
end
