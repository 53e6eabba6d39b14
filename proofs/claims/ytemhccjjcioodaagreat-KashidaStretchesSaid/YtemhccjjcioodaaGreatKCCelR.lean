/- Cut. -/
import Derived.Shelf.Lay
import Derived.Ground.Names2Prog
import Derived.Shelf.Spec.SlicesInsertGrow
import Derived.Shelf.Slices.Clone
import Derived.Shelf.Slices.Cells
import Derived.Test.YtemhccjjcioodaaGreatKUCells
import Derived.Test.YtemhccjjcioodaaGreatRows
import Derived.Test.YtemhccjjcioodaaGreatKUFinest
import Derived.Test.YtemhccjjcioodaaGreatKCSort1
import Derived.Test.YtemhccjjcioodaaGreatKAl
set_option linter.unusedSimpArgs false
set_option linter.unusedVariables false
set_option maxRecDepth 100000
set_option maxHeartbeats 16000000
namespace Go.Proofs.YtemhccjjcioodaaGreat
open Go.RowKit YtemhccjjcioodaaGreatW.PrintLast YtemhccjjcioodaaGreatW.PrintMore YtemhccjjcioodaaGreatW.PrintWords
section
namespace Cel
open U PClusterFinest
open Go.Shelf
shelf_lay Lays2.n15 Nm2 15 at Tryz as lc15
abbrev V (xs : List Int) : List Value := xs.map (Value.int .i64)
theorem spot_none {w : World} {a : Addr} {v : Value} (h : w.cell? a = some v) : a.spot = none := by
 unfold World.cell? at h
 split at h
 ·by_cases hs : a.spot.isSome
  ·rw [if_pos hs] at h; cases h
  ·simpa using hs
 ·cases h
theorem SL.cells {w : World} {A : Option Addr} {c : Nat} {xs : List Int} (h : SL w (.slice A xs.length c) xs) (h0 : 0 < xs.length) : ∃ b off, A = some ⟨b, off, none⟩ ∧ ∀ j, j < xs.length → w.cell? ⟨b, off + j, none⟩ = some (.int .i64 (xs.getD j 0)) := by
 obtain ⟨A', c', e, hl, hC⟩ := h
 injection e with e1 e2 e3
 subst e1
 obtain ⟨ad, rfl, h1⟩ := Kd.at_int hC 0 (by omega) (by omega)
 have hs := spot_none h1
 obtain ⟨b, off, sp⟩ := ad
 simp [Addr.add] at hs
 subst hs
 refine ⟨b, off, rfl, fun j hj => ?_⟩
 obtain ⟨ad, e, h2⟩ := Kd.at_int hC (j : Int) (by omega) (by omega)
 cases e
 rw [qtN, rd_nat, Addr.add_lit] at h2
 exact h2
theorem reps_V (w : World) (base : Nat) (ok : Nat → Prop) (xs : List Int) : Reps ((Kd.int .i64).M w base ok) 1 xs (V xs) := by
 refine ⟨by simp, fun j p hj => ?_⟩
 show (V xs |>.drop (j * 1)).take 1 = [Value.int .i64 p]
 obtain ⟨hl, rfl⟩ := List.getElem?_eq_some_iff.1 hj
 rw [Nat.mul_one, List.drop_eq_getElem_cons (by simpa using hl)]
 simp
theorem clone_c {v : Value} {xs : List Int} {w : World} (h : SL w v xs) (hm : xs.length ≤ 1000000) : Calls Tryz.prog 45 #[v] w fun e w' => ∃ u, e = .returned u ∧ Kd.R (Kd.int .i64) 3 w' w.heap.size (fun _ => True) u xs ∧ Below w.heap.size w w' := by
 obtain ⟨A, c, rfl, hc, hC⟩ := h
 by_cases h0 : 0 < xs.length
 ·obtain ⟨b, off, rfl, hcell⟩ := SL.cells ⟨A, c, rfl, hc, hC⟩ h0
  refine (Any.slices_Clone_int lc15 b off xs.length c xs w (qlR _) (by omega) hcell).mono ?_
  rintro e w' ⟨u, rfl, hown, _, hb⟩
  rw [List.take_length] at hown
  exact ⟨u, rfl, ⟨fun _ _ => trivial, V xs, hown, reps_V _ _ _ _⟩, hb⟩
 ·have e : xs = [] := List.eq_nil_of_length_eq_zero (by omega)
  subst e
  cases A with
  | none => exact (Any.slices_Clone_int_nil lc15 0 c w).mono fun e w' ⟨he, hw⟩ => ⟨_, he, Kd.R_nil _ _ _ _ _, by rw [hw]; exact qBr _ _⟩
  | some a =>
   refine (Any.slices_Clone_int_zero lc15 a c w).mono ?_
   rintro e w' ⟨u, rfl, hown, _, hb⟩
   exact ⟨u, rfl, ⟨fun _ _ => trivial, [], hown, Reps.none _ _⟩, hb⟩
theorem grow_c (n : Nat) (hn : n ≤ 10000000) {w : World} : Calls Tryz.prog 129 #[.slice none 0 0, .int .i64 n] w fun e w' => ∃ u, e = .returned u ∧ Kd.R (Kd.int .i64) 3 w' w.heap.size (fun _ => True) u [] ∧ Below w.heap.size w w' := by
 by_cases h0 : n = 0
 ·subst h0
  go_enter Tryz.func129, Tryz.ntmps129
  go_wp2
  go_ret
  exact ⟨_, rfl, Kd.R_nil _ _ _ _ _, qBr _ _⟩
 ·have hI : (0 : Int) < (n : Int) := by omega
  have hI2 : ¬ (n : Int) < 0 := by omega
  have e1 : IntKind.i64.wrap ((n : Int) - IntKind.i64.wrap (0 - 0)) = (n : Int) := by
   rw [show IntKind.i64.wrap ((0 : Int) - 0) = 0 by decide, IntWalk.i64_in _ (by omega)]; omega
  have HN : Aside0 (n ≤ 10000000) := ⟨hn⟩
  go_enter Tryz.func129, Tryz.ntmps129
  go_wp2_with ((with_reducible refine gate_builtin (b := .append) (xs := #[.tmp 20, .tmp 21]) rfl ?_); at_builtin; refine Kd.R_append_zeros (Kd.int .i64) (w0 := w) w.heap.size rfl (.tmp 20) (.tmp 21) 22 3 3 (.int .i64 0) 8 rfl Tryz.underlying22 Tryz.underlying3 info3 rfl (by decide) (by omega) (.slice none 0 0) [] 0 (kx := .i64) (n : Int) (fun _ => True) (by first | (go_simp; done) | (go_simp; rfl)) (by first | (go_simp; done) | (go_simp; rfl)) rfl (fun _ _ => trivial) (Kd.R_nil _ _ _ _ _) (by omega) (qBr _ _) (qlR _) (by have := HN.out; simp only [List.length_nil, qtN]; omega) ?_; intro v1 w1 hv hb hg hat; obtain ⟨A1, c1, e1⟩ := Kd.R_slice hv; subst e1; have HV := aMk (Kd.R_take hv (Nat.zero_le _)); have HB := aMk hb; have HC1 := aMk (Kd.R_reads' hv).2.1; have hc1 : 0 ≤ (c1 : Int) := (by omega); clear hv hb hg hat)
  go_ret
  exact ⟨_, rfl, HV.out, HB.out⟩
theorem flat_take {L : List (List Int)} {k : Nat} (h : k < L.length) : (L.take (k + 1)).flatten = (L.take k).flatten ++ L[k] := by
 rw [qtS h, List.flatten_append]; simp
theorem flat_le (L : List (List Int)) (k : Nat) : (L.take k).flatten.length ≤ L.flatten.length := by
 conv => rhs; rw [← List.take_append_drop k L, List.flatten_append, List.length_append]
 omega
theorem concat_c {w : World} {v : Value} {L : List (List Int)} (h : SLk (Kd.slice 3 (Kd.int .i64)) w v L) (hl : L.length ≤ 100000000) (hf : L.flatten.length ≤ 10000000) :
 Calls Tryz.prog 73 #[v] w fun e w' => ∃ u, e = .returned u ∧ Kd.R (Kd.int .i64) 3 w' w.heap.size (fun _ => True) u L.flatten ∧ Below w.heap.size w w' := by
 obtain ⟨A, c, rfl, hc, hC⟩ := h
 have HC := aMk hC
 have HL := aMk hl
 have HF := aMk hf
 clear hc hC hl hf
 go_enter Tryz.func73, Tryz.ntmps73
 go_wp2
 go_loopw [3, 11] (fun v3 v wr => ∃ k : Nat, v = .int .i64 (k : Int) ∧ k ≤ L.length ∧ v3 = .int .i64 ((L.take k).flatten.length : Nat) ∧ Aside0 (Below w.heap.size w wr)) (fun _ v _ => L.length - (intOf v).toNat)
 case atStart => exact ⟨0, rfl, Nat.zero_le _, rfl, ⟨qBr _ _⟩⟩
 case round =>
  obtain ⟨k, rfl, hk, rfl, HB⟩ := hrel
  by_cases hlt : k < L.length
  ·obtain ⟨x, hx⟩ : ∃ x, x = L[k] := ⟨_, rfl⟩
   obtain ⟨ad, cs, ead, _, hK, hcell⟩ := Kd.C_get (Kd.C_below HC.out HB.out) [] (k : Int) (by omega) (by omega)
   rw [qtN, show L.getD k [] = x by rw [hx, qgD, qgG hlt]; rfl] at hK
   obtain ⟨A', c', rfl, hc', hC'⟩ := hK
   have c0 := hcell 0 _ rfl
   rw [qtN, show (Kd.slice 3 (Kd.int .i64)).sz = 1 from rfl, Nat.add_zero, Nat.mul_one] at c0
   have HNX : Aside0 ((L.take (k + 1)).flatten.length = (L.take k).flatten.length + x.length) := ⟨by rw [flat_take hlt, List.length_append, hx]⟩
   have HLE : Aside0 ((L.take (k + 1)).flatten.length ≤ 10000000) := ⟨qlT (flat_le L (k + 1)) HF.out⟩
   obtain ⟨s, hs⟩ : ∃ s, s = (L.take k).flatten.length := ⟨_, rfl⟩
   rw [← hs] at HNX ⊢
   have hsl : s + x.length ≤ 10000000 := by rw [← HNX.out]; exact HLE.out
   have e1 : IntKind.i64.wrap ((s : Int) + (x.length : Int)) = ((s + x.length : Nat) : Int) := by rw [IntWalk.i64_in _ (by omega)]; omega
   have hneg : ¬ ((s + x.length : Nat) : Int) < 0 := by omega
   have hkI : (k : Int) < (L.length : Int) := by omega
   have hk8 : (k : Int) ≤ 100000000 := by have := HL.out; omega
   subst ead
   clear hx hcell hC' hc' hs
   go_wp2
   exact ⟨⟨k + 1, by go_num, by omega, by rw [HNX.out, show ((s + x.length : Nat) : Int) = (s : Int) + (x.length : Int) by omega], HB⟩, by simp [intOf]; omega⟩
  ·obtain rfl : k = L.length := by omega
   rw [List.take_length]
   have HFN : Aside0 (L.flatten.length ≤ 10000000) := HF
   obtain ⟨s, hs⟩ : ∃ s, s = L.flatten.length := ⟨_, rfl⟩
   rw [← hs] at HFN ⊢
   clear hlt hs
   go_wp2_with (go_at_call 129; refine (grow_c s HFN.out).mono ?_; rintro e w1 ⟨u1, rfl, hR, hb1⟩; have HR1 := aMk (Kd.R_lower hR HB.out.size); have HB1 : Aside0 (Below w.heap.size w w1) := ⟨qbP HB.out hb1⟩; clear hR hb1)
   go_loopw [6, 27] (fun v6 v wr => ∃ k : Nat, v = .int .i64 (k : Int) ∧ k ≤ L.length ∧ Aside0 (Kd.R (Kd.int .i64) 3 wr w.heap.size (fun _ => True) v6 (L.take k).flatten) ∧ Aside0 (Below w.heap.size w wr)) (fun _ v _ => L.length - (intOf v).toNat)
   case atStart => exact ⟨0, rfl, Nat.zero_le _, HR1, HB1⟩
   case round =>
    clear HR1 HB1 HB
    obtain ⟨k, rfl, hk, HR, HB⟩ := hrel
    by_cases hlt : k < L.length
    ·obtain ⟨x, hx⟩ : ∃ x, x = L[k] := ⟨_, rfl⟩
     obtain ⟨ad, cs, ead, _, hK, hcell⟩ := Kd.C_get (Kd.C_below HC.out HB.out) [] (k : Int) (by omega) (by omega)
     rw [qtN, show L.getD k [] = x by rw [hx, qgD, qgG hlt]; rfl] at hK
     obtain ⟨A', c', rfl, hc', hC'⟩ := hK
     have c0 := hcell 0 _ rfl
     rw [qtN, show (Kd.slice 3 (Kd.int .i64)).sz = 1 from rfl, Nat.add_zero, Nat.mul_one] at c0
     have HNX : Aside0 ((L.take (k + 1)).flatten = (L.take k).flatten ++ x) := ⟨by rw [flat_take hlt, hx]⟩
     have HLE : Aside0 ((L.take (k + 1)).flatten.length ≤ 10000000) := ⟨qlT (flat_le L (k + 1)) HF.out⟩
     rw [HNX.out, List.length_append] at HLE
     obtain ⟨o, ho⟩ : ∃ o, o = (L.take k).flatten := ⟨_, rfl⟩
     rw [← ho] at HNX HR HLE
     obtain ⟨A6, c6, e6⟩ := Kd.R_slice HR.out
     subst e6
     have hkI : (k : Int) < (L.length : Int) := by omega
     have hk8 : (k : Int) ≤ 100000000 := by have := HL.out; omega
     have HCX := aMk hC'
     subst ead
     clear hx hcell hC' hc' ho
     go_wp2_with ((with_reducible refine gate_builtin (b := .append) (xs := #[.tmp 31, .tmp 32]) rfl ?_); at_builtin; refine Kd.R_append_rows (Kd.int .i64) (w0 := w) w.heap.size rfl (.tmp 31) (.tmp 32) 22 3 (.int .i64 0) 8 rfl Tryz.underlying22 info3 rfl (by decide) (by omega) _ o x A' x.length c' (fun _ => True) (fun _ => False) (by first | (go_simp; done) | (go_simp; rfl)) (by first | (go_simp; done) | (go_simp; rfl)) HR.out HCX.out (fun x cs h => h) (fun _ h => h.elim) (fun _ _ => trivial) HB.out HB.out.size (by have := HLE.out; omega) ?_; intro v4 w4 hv hb hg hat; have HR4 := aMk hv; have HB4 := aMk hb; clear hv hb hg hat)
     exact ⟨⟨k + 1, by go_num, by omega, ⟨by rw [HNX.out]; exact HR4.out⟩, HB4⟩, by simp [intOf]; omega⟩
    ·obtain rfl : k = L.length := by omega
     rw [List.take_length] at HR
     clear hlt
     go_wp2
     go_ret
     exact ⟨_, rfl, HR.out, HB.out⟩
end Cel
end
section
namespace Cel
open U PClusterFinest
theorem info31 : (Tryz.prog.info? 22).map (fun i => (i.zero, i.size, i.bytes)) = some (some (.slice none 0 0), 1, 24) := by kernel_rfl
abbrev ptr (b : Nat) : Value := .pointer (some ⟨b, 0, none⟩)
theorem has_c (A : Option Addr) (n c : Nat) (at_ : Int) {w : World} : Calls Tryz.prog 78 #[.slice A n c, .int .i64 at_] w fun e w' => e = .returned (.bool (decide (0 ≤ at_ ∧ at_ < n))) ∧ Below w.heap.size w w' := by
 by_cases h0 : 0 ≤ at_
 ·by_cases h1 : at_ < (n : Int)
  ·have e : decide (0 ≤ at_ ∧ at_ < (n : Int)) = true := qdT ⟨h0, h1⟩
   rw [e]
   go_enter Tryz.func78, Tryz.ntmps78
   go_wp2
   go_ret
   exact ⟨rfl, qBr _ _⟩
  ·have e : decide (0 ≤ at_ ∧ at_ < (n : Int)) = false := qdF (by omega)
   rw [e]
   go_enter Tryz.func78, Tryz.ntmps78
   go_wp2
   go_ret
   exact ⟨rfl, qBr _ _⟩
 ·have e : decide (0 ≤ at_ ∧ at_ < (n : Int)) = false := qdF (by omega)
  rw [e]
  go_enter Tryz.func78, Tryz.ntmps78
  go_wp2
  go_ret
  exact ⟨rfl, qBr _ _⟩
theorem new_c (n : Nat) (h : n ≤ 16777216) {w : World} : Calls Tryz.prog 58 #[.int .i64 n] w fun e w' => ∃ b, e = .returned (.tuple #[ptr b, .int .i64 0]) ∧ CellsAt 100 w' (fun k => w.heap.size ≤ k) b (List.replicate n []) [] ∧ Below w.heap.size w w' := by
 have h0 : ¬ (n : Int) < 0 := by omega
 have h1 : ¬ (n : Int) > 16777216 := by omega
 have HN : Aside0 (n ≤ 16777216) := ⟨h⟩
 clear h
 go_enter Tryz.func58, Tryz.ntmps58
 go_wp2_with (first | ((with_reducible refine gate_dst (N := 11) rfl ?_); refine Kd.R_make KH (w0 := w) w.heap.size 22 rfl rfl 97 (.tmp 10) (.tmp 10) rfl (n : Int) (by first | (go_simp; done) | (go_simp; rfl)) (by first | (go_simp; done) | (go_simp; rfl)) Tryz.underlying97 (.slice none 0 0) 24 info31 rfl (by decide) (by omega) ((none, 0, 0) : Hd) (ok := fun k => w.heap.size ≤ k) (okp := fun _ => False) rfl (fun _ h => h.elim) (qlR _) (by omega) (by have := HN.out; simp only [qtN]; omega) (qBr _ _) (qlR _) ?_; intro v8 w1 hv hb hg hat; rw [qtN] at hv; obtain ⟨A1, c1, e8⟩ := Kd.R_slice hv; rw [qlr] at e8; subst e8; have HR1 := aMk (RowAt.bound (RowAt.nils hv)); have HB1 := aMk hb; clear hv hb hg hat) | ((with_reducible refine gate_dst (N := 13) rfl ?_); refine box_event ?hg (N := 13) ?hd (cs := #[.slice A1 n c1, .slice none 0 0]) (t := 100) ?hr ?_; (case hd => rfl); (case hg => rfl); (case hr => go_simp; done); intro gb hg w6 hbox hb; have HX := aMk hbox; have HG : Aside0 (w.heap.size ≤ gb) := ⟨by rw [hg]; exact HB1.out.size⟩; have HR6 : Aside0 (RowAt w6 (fun k => w.heap.size ≤ k ∧ k < gb) _ _) := ⟨by rw [hg]; exact (HR1.out.kept (S := fun _ => False) (Kept.of_below hb _) (fun _ _ h => h))⟩; have HR7 := aMk (HR1.out.kept (S := fun _ => False) (Kept.of_below hb _) (fun _ _ h => h)); have HB6 : Aside0 (Below w.heap.size w w6) := ⟨qbP HB1.out hb⟩; clear hg hbox hb))
 refine bodyPost_ret (results_tmp2 rfl _ _ _) rfl ?_
 exact ⟨gb, rfl, ⟨fun k => w.heap.size ≤ k ∧ k < gb, fun _ => False, _, _, fun k hk => ⟨hk.1, by omega⟩, fun _ h => h.elim, HG.out, HX.out, HR6.out, Kd.R_nil _ _ _ _ _⟩, HB6.out⟩
theorem set_c {w : World} {D : Nat → Prop} {b : Nat} {L : List (List Int)} {J : List S33} (h : CellsAt 100 w D b L J) (k : Nat) (hk : k < L.length) {v : Value} {x : List Int} (hx : SL w v x) (hm : x.length ≤ 1000000) :
 Calls Tryz.prog 59 #[ptr b, .int .i64 k, v] w fun e w' => e = .returned (.int .i64 0) ∧ CellsAt 100 w' (fun q => D q ∨ w.heap.size ≤ q) b (L.set k x) J ∧ Eff w w' D := by
 obtain ⟨Dr, Dt, A, c, vt, hp⟩ := h.open_
 obtain ⟨g, cap, cells, e, hg, hlt, hblk⟩ := hp.h2.form (by omega)
 injection e with e1 e2 e3
 subst e1
 subst e3
 have c0 := (blk_cell hp.h1 0).trans rfl
 have HD : Aside0 (decide (0 ≤ (k : Int) ∧ (k : Int) < (L.length : Int)) = true) := ⟨qdT (by omega)⟩
 have HP := aMk hp
 have HX := aMk hx
 have HM := aMk hm
 have HK := aMk hk
 have hkI : (k : Int) < (L.length : Int) := by omega
 have hk0 : 0 ≤ (k : Int) := by omega
 have etk : (k : Int).toNat = k := qtN _
 clear h hp hx hm hg hblk hk hlt
 go_enter Tryz.func59, Tryz.ntmps59
 go_upto_region 3 with (go_at_call 78; refine (has_c _ L.length c k).mono ?_; rintro e w1 ⟨rfl, hb⟩; rw [HD.out]; have HB := aMk hb; have HX1 := aMk (SLk.below HX.out hb); have HP1 := aMk (HP.out.below hb); have c1 := (blk_cell HP1.out.h1 0).trans rfl; clear hb)
 have hB1 := HB.out
 have HBD : Aside0 (Below w1.heap.size w1 w1.drew) := ⟨below_drew (qBr _ _)⟩
 refine start_ (n := 9) (S := (fun W => Below w1.heap.size w1 W)) (ds := [8]) #[false, false, false, false, false, false, false, false, false] (by kernel_rfl) (by kernel_rfl) (by rfl) HBD.out (fun hS0 => ?_)
 refine pure_ (i := 0) (N := (some 18)) (v := ?_) (a' := ?_) #[true, false, false, false, false, false, false, false, false] rfl rfl (by kernel_rfl) (fun _ _ _ h => h) (Or.inl ⟨by rfl, ?_⟩) ?_ ?_
 rotate_left
 ·intro w'
  go_simp
  with_reducible rfl
 rotate_left
 ·simp only [Act.put, sqA, sq0, sq1]
  rfl
 refine pure_ (i := 1) (N := (some 19)) (v := ?_) (a' := ?_) #[true, true, false, false, false, false, false, false, false] rfl rfl (by kernel_rfl) (fun _ _ _ h => h) (Or.inl ⟨by rfl, ?_⟩) ?_ ?_
 rotate_left
 ·intro w'
  go_simp
  with_reducible rfl
 rotate_left
 ·simp only [Act.put, sqA, sq0, sq1]
  rfl
 refine pure_ (i := 2) (N := (some 20)) (v := ?_) (a' := ?_) #[true, true, true, false, false, false, false, false, false] rfl rfl (by kernel_rfl) (fun _ _ _ h => h) (Or.inl ⟨by rfl, ?_⟩) ?_ ?_
 rotate_left
 ·intro w'
  go_simp
  with_reducible rfl
 rotate_left
 ·simp only [Act.put, sqA, sq0, sq1]
  rfl
 refine take_ (i := 3) (N := (some 21)) (v := ?_) (a' := ?_) #[true, true, true, true, false, false, false, false, false] rfl rfl (by kernel_rfl) (fun _ _ _ h => h) (Or.inl ⟨by rfl, ?_⟩) hS0 ?_ ?_
 rotate_left
 ·intro w' s0
  have hx0 := (s0.cell (qwL _ _ c1)).trans c1
  go_simp
  with_reducible rfl
 rotate_left
 ·simp only [Act.put, sqA, sq0, sq1]
  rfl
 refine pure_ (i := 4) (N := (some 22)) (v := ?_) (a' := ?_) #[true, true, true, true, true, false, false, false, false] rfl rfl (by kernel_rfl) (fun _ _ _ h => h) (Or.inl ⟨by rfl, ?_⟩) ?_ ?_
 rotate_left
 ·intro w'
  go_simp
  with_reducible rfl
 rotate_left
 ·simp only [Act.put, sqA, sq0, sq1]
  rfl
 refine pure_ (i := 5) (N := (some 23)) (v := ?_) (a' := ?_) #[true, true, true, true, true, true, false, false, false] rfl rfl (by kernel_rfl) (fun _ _ _ h => h) (Or.inl ⟨by rfl, ?_⟩) ?_ ?_
 rotate_left
 ·intro w'
  go_simp
  with_reducible rfl
 rotate_left
 ·simp only [Act.put, sqA, sq0, sq1]
  rfl
 clear hS0
 refine one_ (i := 6) (N := (some 24)) #[true, true, true, true, true, true, true, false, false] rfl rfl (by kernel_rfl) (by decide) (fun K hK => ?_)
 refine goes_ Tryz.func45 (by kernel_rfl) rfl #[v] (by rfl) rfl rfl (by go_simp; done) ?_
 refine (clone_c (SLk.below HX1.out HBD.out) HM.out).mono ?_
 rintro e w2 ⟨u, rfl, hR, hb2⟩
 obtain ⟨AU, cu, eu⟩ := Kd.R_slice hR
 subst eu
 refine ⟨_, rfl, ?_⟩
 have HU : Aside0 (SLD w2 (fun q => w.heap.size ≤ q) (.slice AU x.length cu) x) := ⟨SLD.of_R (qrM (Kd.R_bound hR) (fun q hq => qlT HB.out.size (qlT HBD.out.size hq.2.1)))⟩
 have HB2 : Aside0 (Below w1.heap.size w1 w2) := ⟨qbP HBD.out hb2⟩
 clear hR hb2
 change K (Act.put _ (some 24) _) _
 refine hK.out _ _ HB2.out (fun hS0 => ?_)
 clear hK
 refine norm_ (a' := ?_) ?_ ?_
 rotate_left
 ·simp only [Act.put, sqA, sq0, sq1]
  rfl
 obtain ⟨hd2, z0, z1, -⟩ := (HP1.out.below HB2.out).h2.cell k HK.out
 refine pure_ (i := 7) (N := (some 25)) (v := ?_) (a' := ?_) #[true, true, true, true, true, true, true, true, false] rfl rfl (by kernel_rfl) (fun _ _ _ h => h) (Or.inl ⟨by rfl, ?_⟩) ?_ ?_
 rotate_left
 ·intro w'
  go_simp
  with_reducible rfl
 rotate_left
 ·simp only [Act.put, sqA, sq0, sq1]
  rfl
 clear hS0
 refine last_ (i := 8) (N := none) #[true, true, true, true, true, true, true, true, true] rfl rfl (by kernel_rfl) (by decide) (fun K hK => ?_)
 refine skip_ (w1 := w2.setCell ⟨g, k, none⟩ (.slice AU x.length cu)) (by rfl) rfl (by go_simp) ?_
 refine hK.out _ _ ?_
 clear hK
 refine done_ (by kernel_rfl) ?_
 go_wp2
 go_ret
 obtain ⟨q1, _, q3⟩ := HP.out.put (qbP HB.out HB2.out) k HK.out HU.out
 exact ⟨rfl, q1, q3⟩
end Cel
end
section
namespace Cel
open U PClusterFinest
theorem text_c {w : World} {D : Nat → Prop} {b : Nat} {L : List (List Int)} {J : List S33} (h : CellsAt 100 w D b L J) (hl8 : L.length ≤ 100000000) (hf : L.flatten.length ≤ 10000000) :
 Calls Tryz.prog 30 #[ptr b] w fun e w' => ∃ u, e = .returned u ∧ Kd.R (Kd.int .i64) 3 w' w.heap.size (fun _ => True) u L.flatten ∧ Below w.heap.size w w' := by
 obtain ⟨Dr, Dt, A, c, vt, hp⟩ := h.open_
 have c0 := (blk_cell hp.h1 0).trans rfl
 have HR := aMk (hp.h2.reads 3)
 have HL := aMk hl8
 have HF := aMk hf
 clear h hp hl8 hf
 go_enter Tryz.func30, Tryz.ntmps30
 go_wp2_with (go_at_call 73; refine (concat_c HR.out HL.out HF.out).mono ?_; rintro e w1 ⟨u, rfl, hu, hb⟩; have HU := aMk hu; have HB := aMk hb; clear hu hb)
 go_ret
 exact ⟨_, rfl, HU.out, HB.out⟩
end Cel
end
section
namespace UGroups
open PClusterFinest
def OkS (N : Nat) (s : S33) : Prop := 0 ≤ s.f0 ∧ s.f0 < s.f1 ∧ s.f1 ≤ (N : Int)
instance (N : Nat) (s : S33) : Decidable (OkS N s) := by unfold OkS; infer_instance
def acrossB (N : Nat) (J : List S33) (t : Nat) : Bool := J.any fun s => decide (OkS N s) && (decide (s.f0 < (t : Int)) && decide ((t : Int) < s.f1))
theorem across_iff {N : Nat} {J : List S33} {t : Nat} : acrossB N J t = true ↔ ∃ s ∈ J, OkS N s ∧ s.f0 < (t : Int) ∧ (t : Int) < s.f1 := by
 unfold acrossB
 rw [List.any_eq_true]
 simp only [Bool.and_eq_true, decide_eq_true_eq]
def stepG (N : Nat) (J : List S33) (t : Nat) (q : List S33 × Nat) : List S33 × Nat := if t = N ∨ acrossB N J t = false then (q.1 ++ [⟨(q.2 : Int), (t : Int)⟩], t) else q
def grpTo (N : Nat) (J : List S33) : Nat → List S33 × Nat
 | 0 => ([], 0)
 | t + 1 => stepG N J (t + 1) (grpTo N J t)
def groups (N : Nat) (J : List S33) : List S33 := (grpTo N J N).1
theorem grp_len (N : Nat) (J : List S33) (t : Nat) : (grpTo N J t).1.length ≤ t := by
 induction t with
 | zero => exact qlR _
 | succ t ih =>
  unfold grpTo stepG
  split
  ·simp; exact ih
  ·omega
structure IsH (N : Nat) (J : List S33) (t : Nat) (h : Int) : Prop where
 ge : (t : Int) ≤ h
 up : ∀ s ∈ J, OkS N s → s.f0 < (t : Int) → s.f1 ≤ h
 is : h = (t : Int) ∨ ∃ s ∈ J, OkS N s ∧ s.f0 < (t : Int) ∧ s.f1 = h
structure IsR (N : Nat) (J : List S33) (i : Nat) (r : Int) : Prop where
 ge : 0 ≤ r
 up : ∀ s ∈ J, OkS N s → s.f0 = (i : Int) → s.f1 ≤ r
 is : r = 0 ∨ ∃ s ∈ J, OkS N s ∧ s.f0 = (i : Int) ∧ s.f1 = r
theorem isH_end {N : Nat} {J : List S33} {t : Nat} {h : Int} (hh : IsH N J t h) : h = (t : Int) ↔ acrossB N J t = false := by
 constructor
 ·intro e
  cases hc : acrossB N J t with
  | false => rfl
  | true =>
   obtain ⟨s, hs, ho, h1, h2⟩ := across_iff.1 hc
   have := hh.up s hs ho h1
   omega
 ·intro hc
  rcases hh.is with e | ⟨s, hs, ho, h1, h2⟩
  ·exact e
  ·have hge := hh.ge
   by_cases hlt : (t : Int) < s.f1
   ·have := across_iff.2 ⟨s, hs, ho, h1, hlt⟩
    rw [hc] at this; cases this
   ·omega
theorem isH_step {N : Nat} {J : List S33} {t : Nat} {h r : Int} (hh : IsH N J t h) (hr : IsR N J t r) : IsH N J (t + 1) (max (max h ((t : Int) + 1)) r) := by
 refine ⟨by omega, fun s hs ho h1 => ?_, ?_⟩
 ·by_cases e : s.f0 = (t : Int)
  ·have := hr.up s hs ho e; omega
  ·have := hh.up s hs ho (by omega); omega
 ·by_cases c1 : r ≤ max h ((t : Int) + 1)
  ·by_cases c2 : h ≤ (t : Int) + 1
   ·exact .inl (by omega)
   ·rcases hh.is with e | ⟨s, hs, ho, h1, h2⟩
    ·omega
    ·exact .inr ⟨s, hs, ho, by omega, by omega⟩
  ·rcases hr.is with e | ⟨s, hs, ho, h1, h2⟩
   ·have := hh.ge; omega
   ·exact .inr ⟨s, hs, ho, by omega, by omega⟩
def Reach (N : Nat) (J : List S33) (l : List Int) : Prop := l.length = N ∧ ∀ i, i < N → IsR N J i (l.getD i 0)
theorem reach_zero (N : Nat) : Reach N [] (List.replicate N 0) := ⟨by simp, fun i hi => ⟨by simp [qgD, List.getElem?_replicate, hi], (fun s hs => by cases hs), .inl (by simp [qgD, List.getElem?_replicate, hi])⟩⟩
theorem reach_no {N : Nat} {J : List S33} {l : List Int} {s : S33} (h : Reach N J l) (hs : ¬ OkS N s) : Reach N (J ++ [s]) l := by
 refine ⟨h.1, fun i hi => ?_⟩
 have := h.2 i hi
 refine ⟨this.ge, fun q hq ho e => ?_, ?_⟩
 ·rcases List.mem_append.1 hq with hq | hq
  ·exact this.up q hq ho e
  ·rw [List.mem_singleton] at hq; subst hq; exact absurd ho hs
 ·exact this.is.imp_right fun ⟨q, hq, hh⟩ => ⟨q, List.mem_append_left _ hq, hh⟩
theorem reach_yes {N : Nat} {J : List S33} {l : List Int} {s : S33} (h : Reach N J l) (hs : OkS N s) : Reach N (J ++ [s]) (l.set s.f0.toNat (max (l.getD s.f0.toNat 0) s.f1)) := by
 have h0 := hs.1; have h1 := hs.2.1; have h2 := hs.2.2
 refine ⟨by rw [List.length_set]; exact h.1, fun i hi => ?_⟩
 have hi' := h.2 i hi
 by_cases e : i = s.f0.toNat
 ·have eg : (l.set s.f0.toNat (max (l.getD s.f0.toNat 0) s.f1)).getD i 0 = max (l.getD i 0) s.f1 := by
   rw [← e, qgD, List.getElem?_set_self (by rw [h.1]; exact hi)]; rfl
  rw [eg]
  refine ⟨by have := hi'.ge; omega, fun q hq ho eq => ?_, ?_⟩
  ·rcases List.mem_append.1 hq with hq | hq
   ·have := hi'.up q hq ho eq; omega
   ·rw [List.mem_singleton] at hq; subst hq; omega
  ·by_cases hc : l.getD i 0 ≤ s.f1
   ·exact .inr ⟨s, List.mem_append_right _ (List.mem_singleton.2 rfl), hs, by omega, by omega⟩
   ·rcases hi'.is with e0 | ⟨q, hq, ho, e1, e2⟩
    ·omega
    ·exact .inr ⟨q, List.mem_append_left _ hq, ho, e1, by omega⟩
 ·have eg : (l.set s.f0.toNat (max (l.getD s.f0.toNat 0) s.f1)).getD i 0 = l.getD i 0 := by
   rw [qgD, List.getElem?_set_ne (fun h => e h.symm), ← qgD]
  rw [eg]
  refine ⟨hi'.ge, fun q hq ho eq => ?_, hi'.is.imp_right fun ⟨q, hq, hh⟩ => ⟨q, List.mem_append_left _ hq, hh⟩⟩
  rcases List.mem_append.1 hq with hq | hq
  ·exact hi'.up q hq ho eq
  ·rw [List.mem_singleton] at hq; subst hq; omega
theorem isH_one {N : Nat} {J : List S33} {r : Int} (hr : IsR N J 0 r) : IsH N J 1 (max 1 r) := by
 refine ⟨by omega, fun s hs ho h1 => ?_, ?_⟩
 ·have := ho.1
  have := hr.up s hs ho (by omega); omega
 ·by_cases c : r ≤ 1
  ·exact .inl (by omega)
  ·rcases hr.is with e | ⟨s, hs, ho, h1, h2⟩
   ·omega
   ·exact .inr ⟨s, hs, ho, by omega, by omega⟩
theorem isH_last {N : Nat} {J : List S33} {h : Int} (hh : IsH N J N h) : h = (N : Int) := by
 rcases hh.is with e | ⟨s, hs, ho, h1, h2⟩
 ·exact e
 ·have := ho.2.2; have := hh.ge; omega
theorem grp_lo (N : Nat) (J : List S33) (t : Nat) (ht : t ≤ N) : (grpTo N J t).2 ≤ t := by
 induction t with
 | zero => exact qlR _
 | succ t ih =>
  unfold grpTo stepG
  split
  ·exact qlR _
  ·have := ih (by omega); omega
end UGroups
end
section
namespace PClusterFinest
open CFin (info33)

attribute [local go_sem] max2_int min2_int max_two min_two max_three min_three max_four min_four
mutual
def span_Groups.l0 : Nat → Int → List Int → List (S33) → Int → Int → Option ((List (S33)))
 | 0, _, _, _, _, _ => none
 | k + 1, x0, x5, x16, x17, x18 => if x18 < x17 then (if 0 ≤ x18 then (if x18 < (x16.length : Int) then ((span_Right.f ((rd_T33 x16 x18).f0) ((rd_T33 x16 x18).f1)).bind fun t139 => (if t139 = true then (if ((rd_T33 x16 x18).f1) ≤ x0 then (if 0 ≤ ((rd_T33 x16 x18).f0) then (if ((rd_T33 x16 x18).f0) < (x5.length : Int) then (span_Groups.l0 k x0 (x5.set (((rd_T33 x16 x18).f0) : Int).toNat (mx (rd x5 ((rd_T33 x16 x18).f0)) ((rd_T33 x16 x18).f1))) x16 x17 (wrap64 (x18 + 1))) else (none)) else (none)) else (span_Groups.l0 k x0 x5 x16 x17 (wrap64 (x18 + 1)))) else (span_Groups.l0 k x0 x5 x16 x17 (wrap64 (x18 + 1))))) else (none)) else (none)) else (span_Groups.l1 k ([] : List (S33)) x5 (x5.length : Int) 0 0 1)
def span_Groups.l1 : Nat → List (S33) → List Int → Int → Int → Int → Int → Option ((List (S33)))
 | 0, _, _, _, _, _, _ => none
 | k + 1, x8, x44, x45, x46, x143000, x143001 => if x46 < x45 then (if 0 ≤ x46 then (if x46 < (x44.length : Int) then (if x46 = x143001 then (if x8.length < 8796093022208 then (span_Groups.l1 k (x8 ++ [(⟨x143000, x143001⟩ : S33)]) x44 x45 (wrap64 (x46 + 1)) x46 (mx (wrap64 (x46 + 1)) (rd x44 x46))) else (none)) else (span_Groups.l1 k x8 x44 x45 (wrap64 (x46 + 1)) x143000 (mx x143001 (rd x44 x46)))) else (none)) else (none)) else (if x8.length < 8796093022208 then (some (x8 ++ [(⟨x143000, x143001⟩ : S33)])) else (none))
end
def span_Groups.f (k : Nat) (a0 : Int) (l1 : List (S33)) : Option ((List (S33))) := if a0 < 1 then (some ([] : List (S33))) else (if 0 ≤ a0 then (if (a0 : Int).toNat ≤ 35184372088832 then (span_Groups.l0 k a0 (List.replicate (a0 : Int).toNat 0) l1 (l1.length : Int) 0) else (none)) else (none))
def span_Groups.T8 : Bool × List (List Nat × List Nat) := (true, [([], []), ([], []), ([1], [1]), ([], []), ([], []), ([4], [4]), ([3, 5], [3, 5]), ([6], [6]), ([], []), ([8], [8]), ([7, 9], [7, 9]), ([0, 2, 0, 1, 2, 3, 4, 5, 6, 7, 8, 9, 10], [0, 2]), ([11, 10, 0, 1, 2, 3, 4, 5, 6, 7, 8, 9, 10], [10, 11])])
def span_Groups.B8 : List Nat := [0, 0, 2, 0, 0, 16, 56, 120, 0, 256, 1016, 2047, 4095]
theorem span_Groups.tab8 : rtab .any (opsOf Tryz.f118 8) = span_Groups.T8 := by kernel_rfl
theorem span_Groups.bits8 : waitsOk span_Groups.T8.2 span_Groups.B8 = true := by kernel_rfl
theorem span_Groups.calls (k : Nat) (a0 : Int) (A1 : Option Addr) (c1 : Nat) (l1 : List (S33)) (r : List (S33)) (w : World) (hr1 : Kd.C k33 w A1 l1.length l1) (hc1 : l1.length ≤ c1) (h : span_Groups.f k a0 l1 = some r) :
 Calls Tryz.prog 118 #[.int .i64 a0, .slice A1 l1.length c1] w fun e w' => ∃ v0_ : Value, e = .returned (v0_) ∧ Kd.R k33 34 w' w.heap.size (fun _ => True) v0_ r ∧ Below w.heap.size w w' := by
 have hu33 := Tryz.underlying34
 have HR1 := aMk hr1
 have HC1 := aMk hc1
 clear hr1 hc1
 have HB := aMk (qBr w.heap.size w)
 have H : (if a0 < 1 then (some ([] : List (S33))) else (if 0 ≤ a0 then (if (a0 : Int).toNat ≤ 35184372088832 then (span_Groups.l0 k a0 (List.replicate (a0 : Int).toNat 0) l1 (l1.length : Int) 0) else (none)) else (none))) = some r := h
 clear h
 by_cases c3 : a0 < 1
 ·rw [if_pos c3] at H
  have c3b0 := qdT c3
  clear c3
  obtain rfl := qoI H
  go_enter Tryz.func118, Tryz.ntmps118
  go_wp2
  go_ret
  exact ⟨_, rfl, by first | exact Kd.R_nil _ _ _ _ _ | exact Kd.N_nil _ _ _ _ _ | exact Kd.V_nil _ _ _ _ _ | exact Kd.Q_nil _ _ _ _ _ | exact Kd.S_nil _ _ _ _ _, by repeat (first | (with_reducible first | exact HB.out | apply qbA | apply qbN | apply qb1) | exact HB.out)⟩
 ·rw [if_neg c3] at H
  have c3b0 := qdF c3
  clear c3
  by_cases c4 : 0 ≤ a0
  ·rw [if_pos c4] at H
   have c4b0 := eq_true c4
   have c4b1 : decide (0 ≤ a0) = true := qdT c4
   clear c4
   by_cases c5 : (a0 : Int).toNat ≤ 35184372088832
   ·rw [if_pos c5] at H
    have c5b0 := eq_true c5
    have c5b1 : decide ((a0 : Int).toNat ≤ 35184372088832) = true := qdT c5
    clear c5
    obtain ⟨y134, hy134⟩ : ∃ y_ : List Int, y_ = (List.replicate (a0 : Int).toNat 0) := ⟨_, rfl⟩
    replace H : (span_Groups.l0 k a0 y134 l1 (l1.length : Int) 0) = some r := by first | (rw [hy134]; with_reducible exact H) | (have H2_ := (qoS _ _).symm.trans H; rw [hy134]; with_reducible exact H2_) | (have H2_ := (qoS _ _).symm.trans H; with_reducible exact H2_) | with_reducible exact H | (rw [hy134]; exact H) | exact H
    have Ny134 := aMk hy134; clear hy134
    have H' := aMk H
    clear H
    go_enter Tryz.func118, Tryz.ntmps118
    go_wp2_with (first | ((with_reducible refine gate_dst (N := 15) rfl ?_); refine Kd.R_make (Kd.int .i64) _ 3 rfl (N := 15) rfl 22 _ _ rfl a0 rfl rfl Tryz.underlying22 (.int .i64 0) 8 info3 rfl (by decide) (by omega) 0 (ok := fun _ => True) (okp := fun _ => True) rfl (fun _ hk => hk) trivial (qoD (by assumption)) (qlT (Nat.mul_le_mul_right _ (qoD (by assumption) : a0.toNat ≤ 35184372088832)) (by omega)) (qBr _ _) (qlR _) ?_; intro v135 w6 ho7 hb hg_ hnew_; clear hg_ hnew_; (first | rw [← Ny134.out] at ho7 | (simp only [Int.reduceToNat] at ho7; rw [← Ny134.out] at ho7)); have n0_ := aMk (Kd.R_lower ho7 (qbZ HB.out)); have n1_ := aMk (qbP HB.out hb); clear HB; have HO136 := n0_; have HB := n1_; clear n0_ n1_; clear hb ho7))
    go_loopg [18] k (fun kq v18 w' => ∃ (x5_1 : List Int) (x18_1 : Int), v18 = .int .i64 x18_1 ∧ Aside0 (span_Groups.l0 kq a0 x5_1 l1 (l1.length : Int) x18_1 = some r) ∧ Aside0 (kq ≤ k) ∧ Aside0 (Kd.R (Kd.int .i64) 3 w' w.heap.size (fun _ => True) v135 x5_1) ∧ Aside0 (Below w.heap.size w w'))
    case atStart => exact ⟨(y134), (0), rfl, H', ⟨qlR _⟩, ⟨by (with_reducible repeat (first | apply qrA | apply qrN | apply qrD)); exact HO136.out⟩, ⟨by repeat (first | (with_reducible first | exact HB.out | apply qbA | apply qbN | apply qb1) | exact HB.out)⟩⟩
    case round =>
     clear H'
     obtain ⟨x5_1, x18_1, rfl, HA, HK1, HO_5, HB⟩ := hrel
     cases gk with
     | zero => exact absurd HA.out (by simp [span_Groups.l0])
     | succ k1 =>
      have H := HA.out
      clear HA
      simp only [span_Groups.l0] at H
      by_cases c8 : x18_1 < (l1.length : Int)
      ·rw [if_pos c8] at H
       have c8b0 := qdT c8
       clear c8
       by_cases c9 : 0 ≤ x18_1
       ·rw [if_pos c9] at H
        have c9b0 := qdT c9
        clear c9
        by_cases c10 : x18_1 < (l1.length : Int)
        ·rw [if_pos c10] at H
         have c10b0 := qdT c10
         clear c10
         replace H := qoB.mp H
         obtain ⟨t139, A110, H⟩ := H
         try dsimp only at H
         have A11 := aMk A110; clear A110
         by_cases c12 : t139 = true
         ·subst c12
          rw [if_pos rfl] at H
          by_cases c13 : ((rd_T33 l1 x18_1).f1) ≤ a0
          ·rw [if_pos c13] at H
           have c13b0 := qdT c13
           clear c13
           by_cases c14 : 0 ≤ ((rd_T33 l1 x18_1).f0)
           ·rw [if_pos c14] at H
            have c14b0 := qdT c14
            clear c14
            by_cases c15 : ((rd_T33 l1 x18_1).f0) < (x5_1.length : Int)
            ·rw [if_pos c15] at H
             have c15b0 := qdT c15
             clear c15
             obtain ⟨ji16, hji16⟩ : ∃ j_ : Int, (mx (rd x5_1 ((rd_T33 l1 x18_1).f0)) ((rd_T33 l1 x18_1).f1)) = j_ := ⟨_, rfl⟩
             replace H : (span_Groups.l0 k1 a0 (x5_1.set (((rd_T33 l1 x18_1).f0) : Int).toNat (ji16)) l1 (l1.length : Int) (wrap64 (x18_1 + 1))) = some r := by first | (rw [hji16] at H; exact H) | (simp only [hji16] at H ⊢; exact H)
             (try rw [hji16] at A11)
             have hji16_ : (if (rd x5_1 ((rd_T33 l1 x18_1).f0)) < ((rd_T33 l1 x18_1).f1) then ((rd_T33 l1 x18_1).f1) else (rd x5_1 ((rd_T33 l1 x18_1).f0))) = ji16 := hji16
             obtain ⟨y141, hy141⟩ : ∃ y_ : List Int, y_ = (x5_1.set (((rd_T33 l1 x18_1).f0) : Int).toNat (ji16)) := ⟨_, rfl⟩
             replace H : (span_Groups.l0 k1 a0 y141 l1 (l1.length : Int) (wrap64 (x18_1 + 1))) = some r := by first | (rw [hy141]; with_reducible exact H) | (have H2_ := (qoS _ _).symm.trans H; rw [hy141]; with_reducible exact H2_) | (have H2_ := (qoS _ _).symm.trans H; with_reducible exact H2_) | with_reducible exact H | (rw [hy141]; exact H) | exact H
             have Ny141 := aMk hy141; clear hy141
             have H' := aMk H
             clear H
             have p137 : 0 ≤ (x18_1 : Int) := qoD (by assumption)
             have q137 : x18_1 < (l1.length : Int) := qoD (by assumption)
             obtain ⟨ad137, e137, hx137_0, hx137_1⟩ := at_T33 HR1.out x18_1 p137 q137
             cases e137
             replace hx137_0 := (HB.out.cell (qwL w _ hx137_0)).trans hx137_0
             replace hx137_1 := (HB.out.cell (qwL w _ hx137_1)).trans hx137_1
             replace p137 := eq_true p137
             replace q137 := eq_true q137
             try go_wp2_with (first | ((with_reducible refine gate_dst (N := 7) rfl ?_); refine box_event ?hg (N := 7) ?hd (cs := #[.int .i64 0, .int .i64 0]) (t := 34) ?hr ?_; (case hd => rfl); (case hg => rfl); (case hr => go_simp; done); intro gb138 hg w18 hbox hb; have n0_ := aMk (qrB HO_5.out hb); have n1_ := aMk (qbP HB.out hb); have n2_ := aMk (hbox); have n3_ := aMk ((by rw [hg]; exact (qbZ HB.out) : w.heap.size ≤ gb138)); have n4_ := aMk ((by rw [hg]; exact (qbZ HB.out) : w.heap.size ≤ gb138)); clear HO_5; clear HB; have HO_5 := n0_; have HB := n1_; have BK138 := n2_; have GW138 := n3_; have GE138 := n4_; clear n0_ n1_ n2_ n3_ n4_; clear hb hbox hg; have hcz19_0 : w18.cell? ⟨gb138, 0, none⟩ = some (.int .i64 0) := (blk_cell BK138.out 0).trans rfl; have hcz19_1 : w18.cell? ⟨gb138, 1, none⟩ = some (.int .i64 0) := (blk_cell BK138.out 1).trans rfl; have hfz19_0 := qbF BK138.out 0; have hfz19_1 := qbF BK138.out 1) | ((with_reducible refine gate_callee (f := 119) rfl ?_); refine goesL_ (some 23) rfl rfl Tryz.func119 (by kernel_rfl) rfl #[.agg #[.int .i64 ((rd_T33 l1 x18_1).f0), .int .i64 ((rd_T33 l1 x18_1).f1)]] rfl (by (try simp only [lm0, lm1, lm2]); first | done | rfl | (simp only [lm3, lm4]; rfl)) ?_; (with_reducible refine (span_Right.calls ((rd_T33 l1 x18_1).f0) ((rd_T33 l1 x18_1).f1) true _ A11.out).mono ?_); rintro e w20 ⟨rfl, hb⟩; refine ⟨_, rfl, ?_⟩; have n0_ := aMk (qrB (by (with_reducible repeat (first | apply qrA | apply qrN | apply qrD)); exact (qrM (Kd.R_far (p := ⟨gb138, 1, none⟩) (Kd.R_far (p := ⟨gb138, 0, none⟩) (Kd.R_types HO_5.out BK138.out (by decide)) (fun _ hk => hk.2) (.int .i64 ((rd_T33 l1 x18_1).f0))) (fun _ hk => hk.2) (.int .i64 ((rd_T33 l1 x18_1).f1))) (fun _ h_ => h_.1))) hb); have n1_ := aMk (blk_below (g := gb138) (o := .cells #[.int .i64 ((rd_T33 l1 x18_1).f0), .int .i64 ((rd_T33 l1 x18_1).f1)] 34 (0, 0)) (by refine blk_put (cs := #[.int .i64 ((rd_T33 l1 x18_1).f0), .int .i64 0]) ?_ 1 _ rfl; refine blk_put (cs := #[.int .i64 0, .int .i64 0]) ?_ 0 _ rfl; exact BK138.out) hb); have n2_ := aMk (qbP (by repeat (first | (with_reducible first | exact HB.out | apply qbA | apply qbN | apply qb1 | refine qbS ?_ GE138.out) | exact HB.out)) hb); clear HO_5; clear BK138; clear HB; have HO_5 := n0_; have BK138 := n1_; have HB := n2_; clear n0_ n1_ n2_; have hcz21_0 : w20.cell? ⟨gb138, 0, none⟩ = some (.int .i64 ((rd_T33 l1 x18_1).f0)) := (blk_cell BK138.out 0).trans rfl; have hcz21_1 : w20.cell? ⟨gb138, 1, none⟩ = some (.int .i64 ((rd_T33 l1 x18_1).f1)) := (blk_cell BK138.out 1).trans rfl; have hfz21_0 := qbF BK138.out 0; have hfz21_1 := qbF BK138.out 1))
             have n0_ := aMk (qrD HO_5.out)
             have n1_ := aMk (blk_drew BK138.out)
             have n2_ := aMk (qb1 HB.out)
             clear HO_5
             clear BK138
             clear HB
             have HO_5 := n0_
             have BK138 := n1_
             have HB := n2_
             clear n0_ n1_ n2_
             obtain ⟨Ao23, co23, eo23⟩ := Kd.R_slice HO_5.out
             (first | subst eo23 | (injection eo23 with f1_ f2_ f3_; have f4_ := f1_.symm; have f5_ := f3_.symm; clear f1_ f2_ f3_; subst f4_; subst f5_))
             have p140 : 0 ≤ (((rd_T33 l1 x18_1).f0) : Int) := qoD (by assumption)
             have q140 : ((rd_T33 l1 x18_1).f0) < (x5_1.length : Int) := qoD (by assumption)
             obtain ⟨ad140, e140, hx140_0⟩ := Kd.at_int (Kd.R_reads' HO_5.out).2.2 ((rd_T33 l1 x18_1).f0) p140 q140
             cases e140
             replace p140 := eq_true p140
             replace q140 := eq_true q140
             have p17 : 0 ≤ (((rd_T33 l1 x18_1).f0) : Int) := qoD (by assumption)
             have q17 : (((rd_T33 l1 x18_1).f0) : Int) < ((x5_1.length : Int) : Int) := qoD (by assumption)
             obtain ⟨go17, co17, eo17, gb17, gl17, cl17, HG17⟩ := Kd.R_form HO_5.out (by omega)
             (first | cases eo17 | (injection eo17 with ea_ en_ ec_; (first | subst ea_ | (injection ea_ with ea_; subst ea_)); subst ec_; clear en_))
             have GB17 := aMk gb17
             have GG17 := aMk HG17
             clear gb17 gl17 HG17
             (first | simp only [add_plain] at hx140_0 | skip)
             obtain ⟨hx17_0, hf17_0⟩ := Kd.R_celln 0 HO_5.out (((rd_T33 l1 x18_1).f0) : Int) p17 q17
             replace p17 := eq_true p17
             replace q17 := eq_true q17
             have HP24 := Kd.R_putn HO_5.out (((rd_T33 l1 x18_1).f0) : Int) ji16
             rw [← Ny141.out] at HP24
             have HQ24 := aMk HP24; clear HP24
             refine start_ (n := 13) (S := fun w' => w'.cell? ⟨gb138, 0, none⟩ = some (.int .i64 ((rd_T33 l1 x18_1).f0)) ∧ w'.cell? ⟨gb138, 1, none⟩ = some (.int .i64 ((rd_T33 l1 x18_1).f1)) ∧ w'.cell? ⟨go17, (((rd_T33 l1 x18_1).f0)).toNat, none⟩ = some (.int .i64 (rd x5_1 ((rd_T33 l1 x18_1).f0)))) (ds := [12]) #[false, false, false, false, false, false, false, false, false, false, false, false, false] (by kernel_rfl) rfl rfl ⟨(blk_cell BK138.out 0).trans rfl, (blk_cell BK138.out 1).trans rfl, hx140_0⟩ (fun hHeld => ?_); refine with_tabW span_Groups.tab8 span_Groups.bits8 (fun HT_ HW_ => ?_)
             generalize w20.drew = w22 at HO_5 BK138 HB GG17 HQ24 hf17_0 hx140_0 hx17_0 hHeld ⊢
             refine pure_ (i := 0) (N := some 30) (v := ?_) (a' := ?_) #[true, false, false, false, false, false, false, false, false, false, false, false, false] rfl rfl (any_of HT_.out (by kernel_rfl)) (fun _ _ _ h => h) (Or.inl ⟨by rfl, ?_⟩) ?_ ?_
             rotate_left
             ·intro w'
              go_simp
              with_reducible rfl
             rotate_left
             ·simp only [Act.put, sqA, sq0, sq1, i64_w, i32_w]
              rfl
             refine pure_ (i := 1) (N := some 31) (v := ?_) (a' := ?_) #[true, true, false, false, false, false, false, false, false, false, false, false, false] rfl rfl (any_of HT_.out (by kernel_rfl)) (fun _ _ _ h => h) (Or.inl ⟨by rfl, ?_⟩) ?_ ?_
             rotate_left
             ·intro w'
              go_simp
              with_reducible rfl
             rotate_left
             ·simp only [Act.put, sqA, sq0, sq1, i64_w, i32_w]
              rfl
             refine pure_ (i := 3) (N := some 33) (v := ?_) (a' := ?_) #[true, true, false, true, false, false, false, false, false, false, false, false, false] rfl rfl (any_of HT_.out (by kernel_rfl)) (fun _ _ _ h => h) (Or.inl ⟨by rfl, ?_⟩) ?_ ?_
             rotate_left
             ·intro w'
              go_simp
              with_reducible rfl
             rotate_left
             ·simp only [Act.put, sqA, sq0, sq1, i64_w, i32_w]
              rfl
             refine pure_ (i := 4) (N := some 34) (v := ?_) (a' := ?_) #[true, true, false, true, true, false, false, false, false, false, false, false, false] rfl rfl (any_of HT_.out (by kernel_rfl)) (fun _ _ _ h => h) (Or.inl ⟨by rfl, ?_⟩) ?_ ?_
             rotate_left
             ·intro w'
              go_simp
              with_reducible rfl
             rotate_left
             ·simp only [Act.put, sqA, sq0, sq1, i64_w, i32_w]
              rfl
             refine pure_ (i := 8) (N := some 38) (v := ?_) (a' := ?_) #[true, true, false, true, true, false, false, false, true, false, false, false, false] rfl rfl (any_of HT_.out (by kernel_rfl)) (fun _ _ _ h => h) (Or.inl ⟨by rfl, ?_⟩) ?_ ?_
             rotate_left
             ·intro w'
              go_simp
              with_reducible rfl
             rotate_left
             ·simp only [Act.put, sqA, sq0, sq1, i64_w, i32_w]
              rfl
             refine take_ (i := 2) (N := some 32) (v := ?_) (a' := ?_) #[true, true, true, true, true, false, false, false, true, false, false, false, false] rfl rfl (take_ofW HT_.out HW_.out (by kernel_rfl)) (fun _ _ _ h => h) (Or.inl ⟨by rfl, ?_⟩) hHeld ?_ ?_
             rotate_left
             ·rintro w' ⟨s0, s1, s2⟩
              go_simp
              with_reducible rfl
             rotate_left
             ·simp only [Act.put, sqA, sq0, sq1, i64_w, i32_w]
              rfl
             refine take_ (i := 5) (N := some 35) (v := ?_) (a' := ?_) #[true, true, true, true, true, true, false, false, true, false, false, false, false] rfl rfl (take_ofW HT_.out HW_.out (by kernel_rfl)) (fun _ _ _ h => h) (Or.inl ⟨by rfl, ?_⟩) hHeld ?_ ?_
             rotate_left
             ·rintro w' ⟨s0, s1, s2⟩
              go_simp
              with_reducible rfl
             rotate_left
             ·simp only [Act.put, sqA, sq0, sq1, i64_w, i32_w]
              rfl
             refine pure_ (i := 6) (N := some 36) (v := ?_) (a' := ?_) #[true, true, true, true, true, true, true, false, true, false, false, false, false] rfl rfl (any_of HT_.out (by kernel_rfl)) (fun _ _ _ h => h) (Or.inl ⟨by rfl, ?_⟩) ?_ ?_
             rotate_left
             ·intro w'
              go_simp
              with_reducible rfl
             rotate_left
             ·simp only [Act.put, sqA, sq0, sq1, i64_w, i32_w]
              rfl
             refine take_ (i := 7) (N := some 37) (v := ?_) (a' := ?_) #[true, true, true, true, true, true, true, true, true, false, false, false, false] rfl rfl (take_ofW HT_.out HW_.out (by kernel_rfl)) (fun _ _ _ h => h) (Or.inl ⟨by rfl, ?_⟩) hHeld ?_ ?_
             rotate_left
             ·rintro w' ⟨s0, s1, s2⟩
              go_simp
              with_reducible rfl
             rotate_left
             ·simp only [Act.put, sqA, sq0, sq1, i64_w, i32_w]
              rfl
             refine take_ (i := 9) (N := some 39) (v := ?_) (a' := ?_) #[true, true, true, true, true, true, true, true, true, true, false, false, false] rfl rfl (take_ofW HT_.out HW_.out (by kernel_rfl)) (fun _ _ _ h => h) (Or.inl ⟨by rfl, ?_⟩) hHeld ?_ ?_
             rotate_left
             ·rintro w' ⟨s0, s1, s2⟩
              go_simp
              with_reducible rfl
             rotate_left
             ·simp only [Act.put, sqA, sq0, sq1, i64_w, i32_w]
              rfl
             refine pure_ (i := 10) (N := some 40) (v := ?_) (a' := ?_) #[true, true, true, true, true, true, true, true, true, true, true, false, false] rfl rfl (any_of HT_.out (by kernel_rfl)) (fun _ _ _ h => h) (Or.inl ⟨by rfl, ?_⟩) ?_ ?_
             rotate_left
             ·intro w'
              go_simp
              with_reducible rfl
             rotate_left
             ·simp only [Act.put, sqA, sq0, sq1, i64_w, i32_w]
              rfl
             refine pure_ (i := 11) (N := some 41) (v := ?_) (a' := ?_) #[true, true, true, true, true, true, true, true, true, true, true, true, false] rfl rfl (any_of HT_.out (by kernel_rfl)) (fun _ _ _ h => h) (Or.inl ⟨by rfl, ?_⟩) ?_ ?_
             rotate_left
             ·intro w'
              go_simp
              with_reducible rfl
             rotate_left
             ·simp only [Act.put, sqA, sq0, sq1, i64_w, i32_w]
              rfl
             refine last_ (i := 12) (N := none) #[true, true, true, true, true, true, true, true, true, true, true, true, true] rfl rfl (one_of HT_.out (by kernel_rfl)) (by decide) (fun K hK => ?_)
             refine skip_ (w1 := ?_) (by rfl) rfl ?_ ?_
             rotate_left
             ·go_simp
              rfl
             refine hK.out _ _ ?_
             clear hK K
             refine done_ (done_of HT_.out (by kernel_rfl)) ?_
             try go_wp2
             go_roundg k1
             case measure => have := HK1.out; omega
             case rel => exact ⟨(y141), (wrap64 (x18_1 + 1)), rfl, H', ⟨by have := HK1.out; omega⟩, ⟨by (with_reducible repeat (first | apply qrA | apply qrN | apply qrD)); exact HQ24.out⟩, ⟨by repeat (first | (with_reducible first | exact HB.out | apply qbA | apply qbN | apply qb1 | refine qbS ?_ GB17.out | refine qbS ?_ GE138.out) | exact HB.out)⟩⟩
            ·rw [if_neg c15] at H
             exact absurd H (by simp)
           ·rw [if_neg c14] at H
            exact absurd H (by simp)
          ·rw [if_neg c13] at H
           have c13b0 := qdF c13
           clear c13
           have H' := aMk H
           clear H
           have p137 : 0 ≤ (x18_1 : Int) := qoD (by assumption)
           have q137 : x18_1 < (l1.length : Int) := qoD (by assumption)
           obtain ⟨ad137, e137, hx137_0, hx137_1⟩ := at_T33 HR1.out x18_1 p137 q137
           cases e137
           replace hx137_0 := (HB.out.cell (qwL w _ hx137_0)).trans hx137_0
           replace hx137_1 := (HB.out.cell (qwL w _ hx137_1)).trans hx137_1
           replace p137 := eq_true p137
           replace q137 := eq_true q137
           go_wp2_with (first | ((with_reducible refine gate_dst (N := 7) rfl ?_); refine box_event ?hg (N := 7) ?hd (cs := #[.int .i64 0, .int .i64 0]) (t := 34) ?hr ?_; (case hd => rfl); (case hg => rfl); (case hr => go_simp; done); intro gb138 hg w25 hbox hb; have n0_ := aMk (qrB HO_5.out hb); have n1_ := aMk (qbP HB.out hb); have n2_ := aMk (hbox); have n3_ := aMk ((by rw [hg]; exact (qbZ HB.out) : w.heap.size ≤ gb138)); have n4_ := aMk ((by rw [hg]; exact (qbZ (by repeat (first | (with_reducible first | exact HB.out | apply qbA | apply qbN | apply qb1) | exact HB.out))) : w.heap.size ≤ gb138)); clear HO_5; clear HB; have HO_5 := n0_; have HB := n1_; have BK138 := n2_; have GW138 := n3_; have GE138 := n4_; clear n0_ n1_ n2_ n3_ n4_; clear hb hbox hg; have hcz26_0 : w25.cell? ⟨gb138, 0, none⟩ = some (.int .i64 0) := (blk_cell BK138.out 0).trans rfl; have hcz26_1 : w25.cell? ⟨gb138, 1, none⟩ = some (.int .i64 0) := (blk_cell BK138.out 1).trans rfl; have hfz26_0 := qbF BK138.out 0; have hfz26_1 := qbF BK138.out 1) | ((with_reducible refine gate_callee (f := 119) rfl ?_); refine goesL_ (some 23) rfl rfl Tryz.func119 (by kernel_rfl) rfl #[.agg #[.int .i64 ((rd_T33 l1 x18_1).f0), .int .i64 ((rd_T33 l1 x18_1).f1)]] rfl (by (try simp only [lm0, lm1, lm2]); first | done | rfl | (simp only [lm3, lm4]; rfl)) ?_; (with_reducible refine (span_Right.calls ((rd_T33 l1 x18_1).f0) ((rd_T33 l1 x18_1).f1) true _ A11.out).mono ?_); rintro e w27 ⟨rfl, hb⟩; refine ⟨_, rfl, ?_⟩; have n0_ := aMk (qrB (by (with_reducible repeat (first | apply qrA | apply qrN | apply qrD)); exact (qrM (Kd.R_far (p := ⟨gb138, 1, none⟩) (Kd.R_far (p := ⟨gb138, 0, none⟩) (Kd.R_types HO_5.out BK138.out (by decide)) (fun _ hk => hk.2) (.int .i64 ((rd_T33 l1 x18_1).f0))) (fun _ hk => hk.2) (.int .i64 ((rd_T33 l1 x18_1).f1))) (fun _ h_ => h_.1))) hb); have n1_ := aMk (blk_below (g := gb138) (o := .cells #[.int .i64 ((rd_T33 l1 x18_1).f0), .int .i64 ((rd_T33 l1 x18_1).f1)] 34 (0, 0)) (by refine blk_put (cs := #[.int .i64 ((rd_T33 l1 x18_1).f0), .int .i64 0]) ?_ 1 _ rfl; refine blk_put (cs := #[.int .i64 0, .int .i64 0]) ?_ 0 _ rfl; exact BK138.out) hb); have n2_ := aMk (qbP (by repeat (first | (with_reducible first | exact HB.out | apply qbA | apply qbN | apply qb1 | refine qbS ?_ GE138.out) | exact HB.out)) hb); clear HO_5; clear BK138; clear HB; have HO_5 := n0_; have BK138 := n1_; have HB := n2_; clear n0_ n1_ n2_; have hcz28_0 : w27.cell? ⟨gb138, 0, none⟩ = some (.int .i64 ((rd_T33 l1 x18_1).f0)) := (blk_cell BK138.out 0).trans rfl; have hcz28_1 : w27.cell? ⟨gb138, 1, none⟩ = some (.int .i64 ((rd_T33 l1 x18_1).f1)) := (blk_cell BK138.out 1).trans rfl; have hfz28_0 := qbF BK138.out 0; have hfz28_1 := qbF BK138.out 1))
           go_roundg k1
           case measure => have := HK1.out; omega
           case rel => exact ⟨(x5_1), (wrap64 (x18_1 + 1)), rfl, H', ⟨by have := HK1.out; omega⟩, ⟨by (with_reducible repeat (first | apply qrA | apply qrN | apply qrD)); exact HO_5.out⟩, ⟨by repeat (first | (with_reducible first | exact HB.out | apply qbA | apply qbN | apply qb1 | refine qbS ?_ GE138.out) | exact HB.out)⟩⟩
         ·replace c12 := qbE.mpr c12
          subst c12
          rw [if_neg (show ¬ (false = true) by decide)] at H
          have H' := aMk H
          clear H
          have p137 : 0 ≤ (x18_1 : Int) := qoD (by assumption)
          have q137 : x18_1 < (l1.length : Int) := qoD (by assumption)
          obtain ⟨ad137, e137, hx137_0, hx137_1⟩ := at_T33 HR1.out x18_1 p137 q137
          cases e137
          replace hx137_0 := (HB.out.cell (qwL w _ hx137_0)).trans hx137_0
          replace hx137_1 := (HB.out.cell (qwL w _ hx137_1)).trans hx137_1
          replace p137 := eq_true p137
          replace q137 := eq_true q137
          go_wp2_with (first | ((with_reducible refine gate_dst (N := 7) rfl ?_); refine box_event ?hg (N := 7) ?hd (cs := #[.int .i64 0, .int .i64 0]) (t := 34) ?hr ?_; (case hd => rfl); (case hg => rfl); (case hr => go_simp; done); intro gb138 hg w29 hbox hb; have n0_ := aMk (qrB HO_5.out hb); have n1_ := aMk (qbP (by repeat (first | (with_reducible first | exact HB.out | apply qbA | apply qbN | apply qb1) | exact HB.out)) hb); have n2_ := aMk (hbox); have n3_ := aMk ((by rw [hg]; exact (qbZ (by repeat (first | (with_reducible first | exact HB.out | apply qbA | apply qbN | apply qb1) | exact HB.out))) : w.heap.size ≤ gb138)); have n4_ := aMk ((by rw [hg]; exact (qbZ (by repeat (first | (with_reducible first | exact HB.out | apply qbA | apply qbN | apply qb1) | exact HB.out))) : w.heap.size ≤ gb138)); clear HO_5; clear HB; have HO_5 := n0_; have HB := n1_; have BK138 := n2_; have GW138 := n3_; have GE138 := n4_; clear n0_ n1_ n2_ n3_ n4_; clear hb hbox hg; have hcz30_0 : w29.cell? ⟨gb138, 0, none⟩ = some (.int .i64 0) := (blk_cell BK138.out 0).trans rfl; have hcz30_1 : w29.cell? ⟨gb138, 1, none⟩ = some (.int .i64 0) := (blk_cell BK138.out 1).trans rfl; have hfz30_0 := qbF BK138.out 0; have hfz30_1 := qbF BK138.out 1) | ((with_reducible refine gate_callee (f := 119) rfl ?_); refine goesL_ (some 23) rfl rfl Tryz.func119 (by kernel_rfl) rfl #[.agg #[.int .i64 ((rd_T33 l1 x18_1).f0), .int .i64 ((rd_T33 l1 x18_1).f1)]] rfl (by (try simp only [lm0, lm1, lm2]); first | done | rfl | (simp only [lm3, lm4]; rfl)) ?_; (with_reducible refine (span_Right.calls ((rd_T33 l1 x18_1).f0) ((rd_T33 l1 x18_1).f1) false _ A11.out).mono ?_); rintro e w31 ⟨rfl, hb⟩; refine ⟨_, rfl, ?_⟩; have n0_ := aMk (qrB (by (with_reducible repeat (first | apply qrA | apply qrN | apply qrD)); exact (qrM (Kd.R_far (p := ⟨gb138, 1, none⟩) (Kd.R_far (p := ⟨gb138, 0, none⟩) (Kd.R_types HO_5.out BK138.out (by decide)) (fun _ hk => hk.2) (.int .i64 ((rd_T33 l1 x18_1).f0))) (fun _ hk => hk.2) (.int .i64 ((rd_T33 l1 x18_1).f1))) (fun _ h_ => h_.1))) hb); have n1_ := aMk (blk_below (g := gb138) (o := .cells #[.int .i64 ((rd_T33 l1 x18_1).f0), .int .i64 ((rd_T33 l1 x18_1).f1)] 34 (0, 0)) (by refine blk_put (cs := #[.int .i64 ((rd_T33 l1 x18_1).f0), .int .i64 0]) ?_ 1 _ rfl; refine blk_put (cs := #[.int .i64 0, .int .i64 0]) ?_ 0 _ rfl; exact BK138.out) hb); have n2_ := aMk (qbP (by repeat (first | (with_reducible first | exact HB.out | apply qbA | apply qbN | apply qb1 | refine qbS ?_ GE138.out) | exact HB.out)) hb); clear HO_5; clear BK138; clear HB; have HO_5 := n0_; have BK138 := n1_; have HB := n2_; clear n0_ n1_ n2_; (try clear hi)))
          go_roundg k1
          case measure => have := HK1.out; omega
          case rel => exact ⟨(x5_1), (wrap64 (x18_1 + 1)), rfl, H', ⟨by have := HK1.out; omega⟩, ⟨by (with_reducible repeat (first | apply qrA | apply qrN | apply qrD)); exact HO_5.out⟩, ⟨by repeat (first | (with_reducible first | exact HB.out | apply qbA | apply qbN | apply qb1 | refine qbS ?_ GE138.out) | exact HB.out)⟩⟩
        ·rw [if_neg c10] at H
         exact absurd H (by simp)
       ·rw [if_neg c9] at H
        exact absurd H (by simp)
      ·rw [if_neg c8] at H
       have c8b0 := qdF c8
       clear c8
       have H' := aMk H
       clear H
       go_wp2_with (first | ((with_reducible refine gate_dst (N := 9) rfl ?_); refine box_event ?hg (N := 9) ?hd (cs := #[.int .i64 0, .int .i64 0]) (t := 34) ?hr ?_; (case hd => rfl); (case hg => rfl); (case hr => go_simp; done); intro gb142 hg w32 hbox hb; have n0_ := aMk (qrB HO_5.out hb); have n1_ := aMk (qbP (by repeat (first | (with_reducible first | exact HB.out | apply qbA | apply qbN | apply qb1) | exact HB.out)) hb); have n2_ := aMk (hbox); have n3_ := aMk ((by rw [hg]; exact (qbZ (by repeat (first | (with_reducible first | exact HB.out | apply qbA | apply qbN | apply qb1) | exact HB.out))) : w.heap.size ≤ gb142)); have n4_ := aMk ((by rw [hg]; exact (qbZ (by repeat (first | (with_reducible first | exact HB.out | apply qbA | apply qbN | apply qb1) | exact HB.out))) : w.heap.size ≤ gb142)); clear HO_5; clear HB; have HO_5 := n0_; have HB := n1_; have BK142 := n2_; have GW142 := n3_; have GE142 := n4_; clear n0_ n1_ n2_ n3_ n4_; clear hb hbox hg; have hcz33_0 : w32.cell? ⟨gb142, 0, none⟩ = some (.int .i64 0) := (blk_cell BK142.out 0).trans rfl; have hcz33_1 : w32.cell? ⟨gb142, 1, none⟩ = some (.int .i64 0) := (blk_cell BK142.out 1).trans rfl; have hfz33_0 := qbF BK142.out 0; have hfz33_1 := qbF BK142.out 1; obtain ⟨Ao34, co34, eo34⟩ := Kd.R_slice HO_5.out; subst eo34))
       go_loopg [8, 46] k1 (fun kq v8 v46 w' => ∃ (x8_2 : List (S33)) (x46_2 : Int) (x143000_2 : Int) (x143001_2 : Int), v46 = .int .i64 x46_2 ∧ Aside0 (span_Groups.l1 kq x8_2 x5_1 (x5_1.length : Int) x46_2 x143000_2 x143001_2 = some r) ∧ Aside0 (kq ≤ k1) ∧ Aside0 (Kd.R k33 34 w' w.heap.size (fun k_ => k_ ≠ gb142) v8 x8_2) ∧ Aside0 (Kd.R (Kd.int .i64) 3 w' w.heap.size (fun _ => True) (.slice Ao34 x5_1.length co34) x5_1) ∧ Aside0 (w'.heap[gb142]? = some (.cells #[.int .i64 x143000_2, .int .i64 x143001_2] 34 (0, 0))) ∧ Aside0 (Below w.heap.size w w'))
       case atStart => exact ⟨(([] : List (S33))), (0), (0), (1), rfl, H', ⟨qlR _⟩, ⟨by first | exact Kd.R_nil _ _ _ _ _ | exact Kd.N_nil _ _ _ _ _ | exact Kd.V_nil _ _ _ _ _ | exact Kd.Q_nil _ _ _ _ _ | exact Kd.S_nil _ _ _ _ _⟩, ⟨by (with_reducible repeat (first | apply qrA | apply qrN | apply qrD)); exact qrM (Kd.R_far (p := ⟨gb142, 1, none⟩) (Kd.R_far (p := ⟨gb142, 0, none⟩) (Kd.R_types HO_5.out BK142.out (by decide)) (fun _ hk => hk.2) (.int .i64 0)) (fun _ hk => hk.2) (.int .i64 1)) (fun _ hk => trivial)⟩, ⟨by refine blk_put (cs := #[.int .i64 0, .int .i64 0]) ?_ 1 _ rfl; refine blk_put (cs := #[.int .i64 0, .int .i64 0]) ?_ 0 _ rfl; exact BK142.out⟩, ⟨by repeat (first | (with_reducible first | exact HB.out | apply qbA | apply qbN | apply qb1 | refine qbS ?_ GE142.out) | exact HB.out)⟩⟩
       case round =>
        clear H'
        obtain ⟨x8_2, x46_2, x143000_2, x143001_2, rfl, HA, HK2, HO_8, HO_44, BK142, HB⟩ := hrel
        cases gk with
        | zero => exact absurd HA.out (by simp [span_Groups.l1])
        | succ k2 =>
         have H := HA.out
         clear HA
         simp only [span_Groups.l1] at H
         by_cases c35 : x46_2 < (x5_1.length : Int)
         ·rw [if_pos c35] at H
          have c35b0 := qdT c35
          clear c35
          by_cases c36 : 0 ≤ x46_2
          ·rw [if_pos c36] at H
           have c36b0 := qdT c36
           clear c36
           by_cases c37 : x46_2 < (x5_1.length : Int)
           ·rw [if_pos c37] at H
            have c37b0 := qdT c37
            clear c37
            by_cases c38 : x46_2 = x143001_2
            ·rw [if_pos c38] at H
             have c38b0 : (x46_2 == x143001_2) = true := beq_iff_eq.mpr c38
             have c38b1 : (x46_2 != x143001_2) = false := bne_eq_false_iff_eq.mpr c38
             clear c38
             by_cases c39 : x8_2.length < 8796093022208
             ·rw [if_pos c39] at H
              have LMc39 := aMk c39; clear c39
              obtain ⟨y144, hy144⟩ : ∃ y_ : List (S33), y_ = (x8_2 ++ [(⟨x143000_2, x143001_2⟩ : S33)]) := ⟨_, rfl⟩
              replace H : (span_Groups.l1 k2 y144 x5_1 (x5_1.length : Int) (wrap64 (x46_2 + 1)) x46_2 (mx (wrap64 (x46_2 + 1)) (rd x5_1 x46_2))) = some r := by first | (rw [hy144]; with_reducible exact H) | (have H2_ := (qoS _ _).symm.trans H; rw [hy144]; with_reducible exact H2_) | (have H2_ := (qoS _ _).symm.trans H; with_reducible exact H2_) | with_reducible exact H | (rw [hy144]; exact H) | exact H
              have Ny144 := aMk hy144; clear hy144
              obtain ⟨ji40, hji40⟩ : ∃ j_ : Int, (mx (wrap64 (x46_2 + 1)) (rd x5_1 x46_2)) = j_ := ⟨_, rfl⟩
              replace H : (span_Groups.l1 k2 y144 x5_1 (x5_1.length : Int) (wrap64 (x46_2 + 1)) x46_2 ji40) = some r := by first | (rw [hji40] at H; exact H) | (simp only [hji40] at H ⊢; exact H)
              have hji40_ : (if (wrap64 (x46_2 + 1)) < (rd x5_1 x46_2) then (rd x5_1 x46_2) else (wrap64 (x46_2 + 1))) = ji40 := hji40
              have H' := aMk H
              clear H
              have p143 : 0 ≤ (x46_2 : Int) := qoD (by assumption)
              have q143 : x46_2 < (x5_1.length : Int) := qoD (by assumption)
              obtain ⟨ad143, e143, hx143_0⟩ := Kd.at_int (Kd.R_reads' HO_44.out).2.2 x46_2 p143 q143
              cases e143
              replace p143 := eq_true p143
              replace q143 := eq_true q143
              have hcz41_0 : wr.cell? ⟨gb142, 0, none⟩ = some (.int .i64 x143000_2) := (blk_cell BK142.out 0).trans rfl
              have hcz41_1 : wr.cell? ⟨gb142, 1, none⟩ = some (.int .i64 x143001_2) := (blk_cell BK142.out 1).trans rfl
              have hfz41_0 := qbF BK142.out 0
              have hfz41_1 := qbF BK142.out 1
              go_wp2_with (first | ((with_reducible refine gate_builtin (b := .append) (xs := #[.tmp 55, .tmp 57]) rfl ?_); at_builtin; refine Kd.R_append k33 (w0 := w) w.heap.size rfl (.tmp 55) (.tmp 57) 98 34 (.agg #[(.int .i64 0), (.int .i64 0)]) 16 rfl Tryz.underlying98 info33 rfl (by decide) (by omega) u8 x8_2 (⟨x143000_2, x143001_2⟩ : S33) [.int .i64 x143000_2, .int .i64 x143001_2] (fun k_ => k_ ≠ gb142) (fun _ => False) rfl rfl ?aP (fun _ hk => hk.elim) ?aF ?aO ?aB ?aS ?aL ?_; (case aP => exact k33_mkM _ _ _ (⟨x143000_2, x143001_2⟩ : S33)); (case aB => exact (by repeat (first | (with_reducible first | exact HB.out | apply qbA | apply qbN | apply qb1 | refine qbS ?_ GE142.out) | exact HB.out))); (case aF => exact (fun k_ hk => Kd.freshB (g := gb142) (o := .cells #[.int .i64 x143000_2, .int .i64 x143001_2] 34 (0, 0)) (by exact BK142.out) k_ hk)); (case aO => exact HO_8.out); (case aS => exact (qbZ (by repeat (first | (with_reducible first | exact HB.out | apply qbA | apply qbN | apply qb1 | refine qbS ?_ GE142.out) | exact HB.out)))); (case aL => have := LMc39.out; omega); intro v145 w42 ho hb hg hat; rw [← Ny144.out] at ho; have n0_ := aMk (Kd.R_over' HO_44.out (Kd.R_typed HO_8.out) (by decide) hg); have n1_ := aMk (blk_grown (g := gb142) (o := .cells #[.int .i64 x143000_2, .int .i64 x143001_2] 34 (0, 0)) (by exact BK142.out) hg (Kd.R_away HO_8.out (fun _ hk => hk))); have n2_ := aMk (hb); have n3_ := aMk (ho); clear HO_44; clear BK142; clear HB; clear HO_8; have HO_44 := n0_; have BK142 := n1_; have HB := n2_; have HO146 := n3_; clear n0_ n1_ n2_ n3_; clear ho hb hg hat; have hcz43_0 : w42.cell? ⟨gb142, 0, none⟩ = some (.int .i64 x143000_2) := (blk_cell BK142.out 0).trans rfl; have hcz43_1 : w42.cell? ⟨gb142, 1, none⟩ = some (.int .i64 x143001_2) := (blk_cell BK142.out 1).trans rfl; have hfz43_0 := qbF BK142.out 0; have hfz43_1 := qbF BK142.out 1))
              go_roundg k2
              case measure => have := HK1.out; have := HK2.out; omega
              case rel => exact ⟨(y144), (wrap64 (x46_2 + 1)), (x46_2), (ji40), rfl, H', ⟨by have := HK1.out; have := HK2.out; omega⟩, ⟨by (with_reducible repeat (first | apply qrA | apply qrN | apply qrD)); exact qrM (Kd.R_far (p := ⟨gb142, 1, none⟩) (Kd.R_far (p := ⟨gb142, 1, none⟩) (Kd.R_far (p := ⟨gb142, 0, none⟩) (qrM HO146.out (fun k_ hk => (⟨hk, hk⟩ : _ ∧ k_ ≠ gb142))) (fun _ hk => hk.2) (.int .i64 x46_2)) (fun _ hk => hk.2) (.int .i64 (wrap64 (x46_2 + 1)))) (fun _ hk => hk.2) (.int .i64 ji40)) (fun _ hk => hk.1)⟩, ⟨by (with_reducible repeat (first | apply qrA | apply qrN | apply qrD)); exact qrM (Kd.R_far (p := ⟨gb142, 1, none⟩) (Kd.R_far (p := ⟨gb142, 1, none⟩) (Kd.R_far (p := ⟨gb142, 0, none⟩) (Kd.R_types HO_44.out BK142.out (by decide)) (fun _ hk => hk.2) (.int .i64 x46_2)) (fun _ hk => hk.2) (.int .i64 (wrap64 (x46_2 + 1)))) (fun _ hk => hk.2) (.int .i64 ji40)) (fun _ hk => trivial)⟩, ⟨by refine blk_put (cs := #[.int .i64 x46_2, .int .i64 (wrap64 (x46_2 + 1))]) ?_ 1 _ rfl; refine blk_put (cs := #[.int .i64 x46_2, .int .i64 x143001_2]) ?_ 1 _ rfl; refine blk_put (cs := #[.int .i64 x143000_2, .int .i64 x143001_2]) ?_ 0 _ rfl; exact BK142.out⟩, ⟨by repeat (first | (with_reducible first | exact HB.out | apply qbA | apply qbN | apply qb1 | refine qbS ?_ GE142.out) | exact HB.out)⟩⟩
             ·rw [if_neg c39] at H
              exact absurd H (by simp)
            ·rw [if_neg c38] at H
             have c38b0 : (x46_2 == x143001_2) = false := beq_eq_false_iff_ne.mpr c38
             have c38b1 : (x46_2 != x143001_2) = true := bne_iff_ne.mpr c38
             obtain ⟨ji44, hji44⟩ : ∃ j_ : Int, (mx x143001_2 (rd x5_1 x46_2)) = j_ := ⟨_, rfl⟩
             replace H : (span_Groups.l1 k2 x8_2 x5_1 (x5_1.length : Int) (wrap64 (x46_2 + 1)) x143000_2 ji44) = some r := by first | (rw [hji44] at H; exact H) | (simp only [hji44] at H ⊢; exact H)
             have hji44_ : (if x143001_2 < (rd x5_1 x46_2) then (rd x5_1 x46_2) else x143001_2) = ji44 := hji44
             have H' := aMk H
             clear H
             have p143 : 0 ≤ (x46_2 : Int) := qoD (by assumption)
             have q143 : x46_2 < (x5_1.length : Int) := qoD (by assumption)
             obtain ⟨ad143, e143, hx143_0⟩ := Kd.at_int (Kd.R_reads' HO_44.out).2.2 x46_2 p143 q143
             cases e143
             replace p143 := eq_true p143
             replace q143 := eq_true q143
             have hcz45_0 : wr.cell? ⟨gb142, 0, none⟩ = some (.int .i64 x143000_2) := (blk_cell BK142.out 0).trans rfl
             have hcz45_1 : wr.cell? ⟨gb142, 1, none⟩ = some (.int .i64 x143001_2) := (blk_cell BK142.out 1).trans rfl
             have hfz45_0 := qbF BK142.out 0
             have hfz45_1 := qbF BK142.out 1
             go_wp2
             go_roundg k2
             case measure => have := HK1.out; have := HK2.out; omega
             case rel => exact ⟨(x8_2), (wrap64 (x46_2 + 1)), (x143000_2), (ji44), rfl, H', ⟨by have := HK1.out; have := HK2.out; omega⟩, ⟨by (with_reducible repeat (first | apply qrA | apply qrN | apply qrD)); exact qrM (Kd.R_far (p := ⟨gb142, 1, none⟩) (qrM HO_8.out (fun k_ hk => (⟨hk, hk⟩ : _ ∧ k_ ≠ gb142))) (fun _ hk => hk.2) (.int .i64 ji44)) (fun _ hk => hk.1)⟩, ⟨by (with_reducible repeat (first | apply qrA | apply qrN | apply qrD)); exact qrM (Kd.R_far (p := ⟨gb142, 1, none⟩) (Kd.R_types HO_44.out BK142.out (by decide)) (fun _ hk => hk.2) (.int .i64 ji44)) (fun _ hk => trivial)⟩, ⟨by refine blk_put (cs := #[.int .i64 x143000_2, .int .i64 x143001_2]) ?_ 1 _ rfl; exact BK142.out⟩, ⟨by repeat (first | (with_reducible first | exact HB.out | apply qbA | apply qbN | apply qb1 | refine qbS ?_ GE142.out) | exact HB.out)⟩⟩
           ·rw [if_neg c37] at H
            exact absurd H (by simp)
          ·rw [if_neg c36] at H
           exact absurd H (by simp)
         ·rw [if_neg c35] at H
          have c35b0 := qdF c35
          clear c35
          by_cases c46 : x8_2.length < 8796093022208
          ·rw [if_pos c46] at H
           have LMc46 := aMk c46; clear c46
           obtain ⟨y147, hy147⟩ : ∃ y_ : List (S33), y_ = (x8_2 ++ [(⟨x143000_2, x143001_2⟩ : S33)]) := ⟨_, rfl⟩
           replace H : (some y147) = some r := by first | (rw [hy147]; with_reducible exact H) | (have H2_ := (qoS _ _).symm.trans H; rw [hy147]; with_reducible exact H2_) | (have H2_ := (qoS _ _).symm.trans H; with_reducible exact H2_) | with_reducible exact H | (rw [hy147]; exact H) | exact H
           have Ny147 := aMk hy147; clear hy147
           obtain rfl := qoI H
           have hcz47_0 : wr.cell? ⟨gb142, 0, none⟩ = some (.int .i64 x143000_2) := (blk_cell BK142.out 0).trans rfl
           have hcz47_1 : wr.cell? ⟨gb142, 1, none⟩ = some (.int .i64 x143001_2) := (blk_cell BK142.out 1).trans rfl
           have hfz47_0 := qbF BK142.out 0
           have hfz47_1 := qbF BK142.out 1
           go_wp2_with (first | ((with_reducible refine gate_builtin (b := .append) (xs := #[.tmp 69, .tmp 71]) rfl ?_); at_builtin; refine Kd.R_append k33 (w0 := w) w.heap.size rfl (.tmp 69) (.tmp 71) 98 34 (.agg #[(.int .i64 0), (.int .i64 0)]) 16 rfl Tryz.underlying98 info33 rfl (by decide) (by omega) u8 x8_2 (⟨x143000_2, x143001_2⟩ : S33) [.int .i64 x143000_2, .int .i64 x143001_2] (fun k_ => k_ ≠ gb142) (fun _ => False) rfl rfl ?aP (fun _ hk => hk.elim) ?aF ?aO ?aB ?aS ?aL ?_; (case aP => exact k33_mkM _ _ _ (⟨x143000_2, x143001_2⟩ : S33)); (case aB => exact (by repeat (first | (with_reducible first | exact HB.out | apply qbA | apply qbN | apply qb1 | refine qbS ?_ GE142.out) | exact HB.out))); (case aF => exact (fun k_ hk => Kd.freshB (g := gb142) (o := .cells #[.int .i64 x143000_2, .int .i64 x143001_2] 34 (0, 0)) (by exact BK142.out) k_ hk)); (case aO => exact HO_8.out); (case aS => exact (qbZ (by repeat (first | (with_reducible first | exact HB.out | apply qbA | apply qbN | apply qb1 | refine qbS ?_ GE142.out) | exact HB.out)))); (case aL => have := LMc46.out; omega); intro v148 w48 ho hb hg hat; rw [← Ny147.out] at ho; have n0_ := aMk (Kd.R_over' HO_44.out (Kd.R_typed HO_8.out) (by decide) hg); have n1_ := aMk (blk_grown (g := gb142) (o := .cells #[.int .i64 x143000_2, .int .i64 x143001_2] 34 (0, 0)) (by exact BK142.out) hg (Kd.R_away HO_8.out (fun _ hk => hk))); have n2_ := aMk (hb); have n3_ := aMk (ho); clear HO_44; clear BK142; clear HB; clear HO_8; have HO_44 := n0_; have BK142 := n1_; have HB := n2_; have HO149 := n3_; clear n0_ n1_ n2_ n3_; clear ho hb hg hat))
           go_ret
           exact ⟨_, rfl, by (with_reducible repeat (first | apply qrA | apply qrN | apply qrD)); exact qrM HO149.out (fun _ hk => trivial), by repeat (first | (with_reducible first | exact HB.out | apply qbA | apply qbN | apply qb1 | refine qbS ?_ GE142.out) | exact HB.out)⟩
          ·rw [if_neg c46] at H
           exact absurd H (by simp)
   ·rw [if_neg c5] at H
    exact absurd H (by simp)
  ·rw [if_neg c4] at H
   exact absurd H (by simp)
end PClusterFinest
end
section
namespace PClusterFinest
open CFin (info33)

attribute [local go_sem] max2_int min2_int max_two min_two max_three min_three max_four min_four
def naskhref03_parted.l0 : Nat → Int → Int → List (S33) → Int → Option (Bool)
 | 0, _, _, _, _ => none
 | k + 1, x0, x1, x2, x7 => if x7 < (x2.length : Int) then (if 0 ≤ x7 then ((naskhref03_Right.f ((rd_T33 x2 x7).f0) ((rd_T33 x2 x7).f1)).bind fun t228 => (if t228 = true then (if ((rd_T33 x2 x7).f1) ≤ x1 then (if ((rd_T33 x2 x7).f0) < x0 then (if x0 < ((rd_T33 x2 x7).f1) then (some false) else (naskhref03_parted.l0 k x0 x1 x2 (wrap64 (x7 + 1)))) else (naskhref03_parted.l0 k x0 x1 x2 (wrap64 (x7 + 1)))) else (naskhref03_parted.l0 k x0 x1 x2 (wrap64 (x7 + 1)))) else (naskhref03_parted.l0 k x0 x1 x2 (wrap64 (x7 + 1))))) else (none)) else (some true)
def naskhref03_parted.f (k : Nat) (a0 : Int) (a1 : Int) (l2 : List (S33)) : Option (Bool) := naskhref03_parted.l0 k a0 a1 l2 0
theorem naskhref03_parted.calls (k : Nat) (a0 : Int) (a1 : Int) (A2 : Option Addr) (c2 : Nat) (l2 : List (S33)) (r : Bool) (w : World) (hr2 : Kd.C k33 w A2 l2.length l2) (hc2 : l2.length ≤ c2) (h : naskhref03_parted.f k a0 a1 l2 = some r) :
 Calls Tryz.prog 194 #[.int .i64 a0, .int .i64 a1, .slice A2 l2.length c2] w fun e w' => e = .returned (.bool r) ∧ Below w.heap.size w w' := by
 have hu33 := Tryz.underlying34
 have HR2 := aMk hr2
 have HC2 := aMk hc2
 clear hr2 hc2
 have HB := aMk (qBr w.heap.size w)
 have H : (naskhref03_parted.l0 k a0 a1 l2 0) = some r := h
 clear h
 have H' := aMk H
 clear H
 go_enter Tryz.func194, Tryz.ntmps194
 go_wp2
 go_loopg [7] k (fun kq v7 w' => ∃ (x7_1 : Int), v7 = .int .i64 x7_1 ∧ Aside0 (naskhref03_parted.l0 kq a0 a1 l2 x7_1 = some r) ∧ Aside0 (kq ≤ k) ∧ Aside0 (Below w.heap.size w w'))
 case atStart => exact ⟨(0), rfl, H', ⟨qlR _⟩, ⟨by repeat (first | (with_reducible first | exact HB.out | apply qbA | apply qbN | apply qb1) | exact HB.out)⟩⟩
 case round =>
  clear H'
  obtain ⟨x7_1, rfl, HA, HK1, HB⟩ := hrel
  cases gk with
  | zero => exact absurd HA.out (by simp [naskhref03_parted.l0])
  | succ k1 =>
   have H := HA.out
   clear HA
   simp only [naskhref03_parted.l0] at H
   by_cases c4 : x7_1 < (l2.length : Int)
   ·rw [if_pos c4] at H
    have c4b0 := qdT c4
    clear c4
    by_cases c5 : 0 ≤ x7_1
    ·rw [if_pos c5] at H
     have c5b0 := qdT c5
     clear c5
     replace H := qoB.mp H
     obtain ⟨t228, A60, H⟩ := H
     try dsimp only at H
     have A6 := aMk A60; clear A60
     by_cases c7 : t228 = true
     ·subst c7
      rw [if_pos rfl] at H
      by_cases c8 : ((rd_T33 l2 x7_1).f1) ≤ a1
      ·rw [if_pos c8] at H
       have c8b0 := qdT c8
       clear c8
       by_cases c9 : ((rd_T33 l2 x7_1).f0) < a0
       ·rw [if_pos c9] at H
        have c9b0 := qdT c9
        clear c9
        by_cases c10 : a0 < ((rd_T33 l2 x7_1).f1)
        ·rw [if_pos c10] at H
         have c10b0 := qdT c10
         clear c10
         obtain rfl := qoI H
         have p226 : 0 ≤ (x7_1 : Int) := qoD (by assumption)
         have q226 : x7_1 < (l2.length : Int) := qoD (by assumption)
         obtain ⟨ad226, e226, hx226_0, hx226_1⟩ := at_T33 HR2.out x7_1 p226 q226
         cases e226
         replace hx226_0 := (HB.out.cell (qwL w _ hx226_0)).trans hx226_0
         replace hx226_1 := (HB.out.cell (qwL w _ hx226_1)).trans hx226_1
         replace p226 := eq_true p226
         replace q226 := eq_true q226
         go_wp2_with (first | ((with_reducible refine gate_dst (N := 8) rfl ?_); refine box_event ?hg (N := 8) ?hd (cs := #[.int .i64 0, .int .i64 0]) (t := 34) ?hr ?_; (case hd => rfl); (case hg => rfl); (case hr => go_simp; done); intro gb227 hg w11 hbox hb; have n0_ := aMk (qbP HB.out hb); have n1_ := aMk (hbox); have n2_ := aMk ((by rw [hg]; exact (qbZ HB.out) : w.heap.size ≤ gb227)); have n3_ := aMk ((by rw [hg]; exact (qbZ HB.out) : w.heap.size ≤ gb227)); clear HB; have HB := n0_; have BK227 := n1_; have GW227 := n2_; have GE227 := n3_; clear n0_ n1_ n2_ n3_; clear hb hbox hg; have hcz12_0 : w11.cell? ⟨gb227, 0, none⟩ = some (.int .i64 0) := (blk_cell BK227.out 0).trans rfl; have hcz12_1 : w11.cell? ⟨gb227, 1, none⟩ = some (.int .i64 0) := (blk_cell BK227.out 1).trans rfl; have hfz12_0 := qbF BK227.out 0; have hfz12_1 := qbF BK227.out 1) | ((with_reducible refine gate_callee (f := 167) rfl ?_); refine goesL_ (some 20) rfl rfl Tryz.func167 (by kernel_rfl) rfl #[.agg #[.int .i64 ((rd_T33 l2 x7_1).f0), .int .i64 ((rd_T33 l2 x7_1).f1)]] rfl (by (try simp only [lm0, lm1, lm2]); first | done | rfl | (simp only [lm3, lm4]; rfl)) ?_; (with_reducible refine (naskhref03_Right.calls ((rd_T33 l2 x7_1).f0) ((rd_T33 l2 x7_1).f1) true _ A6.out).mono ?_); rintro e w13 ⟨rfl, hb⟩; refine ⟨_, rfl, ?_⟩; have n0_ := aMk (blk_below (g := gb227) (o := .cells #[.int .i64 ((rd_T33 l2 x7_1).f0), .int .i64 ((rd_T33 l2 x7_1).f1)] 34 (0, 0)) (by refine blk_put (cs := #[.int .i64 ((rd_T33 l2 x7_1).f0), .int .i64 0]) ?_ 1 _ rfl; refine blk_put (cs := #[.int .i64 0, .int .i64 0]) ?_ 0 _ rfl; exact BK227.out) hb); have n1_ := aMk (qbP (by repeat (first | (with_reducible first | exact HB.out | apply qbA | apply qbN | apply qb1 | refine qbS ?_ GE227.out) | exact HB.out)) hb); clear BK227; clear HB; have BK227 := n0_; have HB := n1_; clear n0_ n1_; have hcz14_0 : w13.cell? ⟨gb227, 0, none⟩ = some (.int .i64 ((rd_T33 l2 x7_1).f0)) := (blk_cell BK227.out 0).trans rfl; have hcz14_1 : w13.cell? ⟨gb227, 1, none⟩ = some (.int .i64 ((rd_T33 l2 x7_1).f1)) := (blk_cell BK227.out 1).trans rfl; have hfz14_0 := qbF BK227.out 0; have hfz14_1 := qbF BK227.out 1))
         go_ret
         exact ⟨rfl, by repeat (first | (with_reducible first | exact HB.out | apply qbA | apply qbN | apply qb1 | refine qbS ?_ GE227.out) | exact HB.out)⟩
        ·rw [if_neg c10] at H
         have c10b0 := qdF c10
         clear c10
         have H' := aMk H
         clear H
         have p226 : 0 ≤ (x7_1 : Int) := qoD (by assumption)
         have q226 : x7_1 < (l2.length : Int) := qoD (by assumption)
         obtain ⟨ad226, e226, hx226_0, hx226_1⟩ := at_T33 HR2.out x7_1 p226 q226
         cases e226
         replace hx226_0 := (HB.out.cell (qwL w _ hx226_0)).trans hx226_0
         replace hx226_1 := (HB.out.cell (qwL w _ hx226_1)).trans hx226_1
         replace p226 := eq_true p226
         replace q226 := eq_true q226
         go_wp2_with (first | ((with_reducible refine gate_dst (N := 8) rfl ?_); refine box_event ?hg (N := 8) ?hd (cs := #[.int .i64 0, .int .i64 0]) (t := 34) ?hr ?_; (case hd => rfl); (case hg => rfl); (case hr => go_simp; done); intro gb227 hg w15 hbox hb; have n0_ := aMk (qbP HB.out hb); have n1_ := aMk (hbox); have n2_ := aMk ((by rw [hg]; exact (qbZ HB.out) : w.heap.size ≤ gb227)); have n3_ := aMk ((by rw [hg]; exact (qbZ HB.out) : w.heap.size ≤ gb227)); clear HB; have HB := n0_; have BK227 := n1_; have GW227 := n2_; have GE227 := n3_; clear n0_ n1_ n2_ n3_; clear hb hbox hg; have hcz16_0 : w15.cell? ⟨gb227, 0, none⟩ = some (.int .i64 0) := (blk_cell BK227.out 0).trans rfl; have hcz16_1 : w15.cell? ⟨gb227, 1, none⟩ = some (.int .i64 0) := (blk_cell BK227.out 1).trans rfl; have hfz16_0 := qbF BK227.out 0; have hfz16_1 := qbF BK227.out 1) | ((with_reducible refine gate_callee (f := 167) rfl ?_); refine goesL_ (some 20) rfl rfl Tryz.func167 (by kernel_rfl) rfl #[.agg #[.int .i64 ((rd_T33 l2 x7_1).f0), .int .i64 ((rd_T33 l2 x7_1).f1)]] rfl (by (try simp only [lm0, lm1, lm2]); first | done | rfl | (simp only [lm3, lm4]; rfl)) ?_; (with_reducible refine (naskhref03_Right.calls ((rd_T33 l2 x7_1).f0) ((rd_T33 l2 x7_1).f1) true _ A6.out).mono ?_); rintro e w17 ⟨rfl, hb⟩; refine ⟨_, rfl, ?_⟩; have n0_ := aMk (blk_below (g := gb227) (o := .cells #[.int .i64 ((rd_T33 l2 x7_1).f0), .int .i64 ((rd_T33 l2 x7_1).f1)] 34 (0, 0)) (by refine blk_put (cs := #[.int .i64 ((rd_T33 l2 x7_1).f0), .int .i64 0]) ?_ 1 _ rfl; refine blk_put (cs := #[.int .i64 0, .int .i64 0]) ?_ 0 _ rfl; exact BK227.out) hb); have n1_ := aMk (qbP (by repeat (first | (with_reducible first | exact HB.out | apply qbA | apply qbN | apply qb1 | refine qbS ?_ GE227.out) | exact HB.out)) hb); clear BK227; clear HB; have BK227 := n0_; have HB := n1_; clear n0_ n1_; have hcz18_0 : w17.cell? ⟨gb227, 0, none⟩ = some (.int .i64 ((rd_T33 l2 x7_1).f0)) := (blk_cell BK227.out 0).trans rfl; have hcz18_1 : w17.cell? ⟨gb227, 1, none⟩ = some (.int .i64 ((rd_T33 l2 x7_1).f1)) := (blk_cell BK227.out 1).trans rfl; have hfz18_0 := qbF BK227.out 0; have hfz18_1 := qbF BK227.out 1))
         go_roundg k1
         case measure => have := HK1.out; omega
         case rel => exact ⟨(wrap64 (x7_1 + 1)), rfl, H', ⟨by have := HK1.out; omega⟩, ⟨by repeat (first | (with_reducible first | exact HB.out | apply qbA | apply qbN | apply qb1 | refine qbS ?_ GE227.out) | exact HB.out)⟩⟩
       ·rw [if_neg c9] at H
        have c9b0 := qdF c9
        clear c9
        have H' := aMk H
        clear H
        have p226 : 0 ≤ (x7_1 : Int) := qoD (by assumption)
        have q226 : x7_1 < (l2.length : Int) := qoD (by assumption)
        obtain ⟨ad226, e226, hx226_0, hx226_1⟩ := at_T33 HR2.out x7_1 p226 q226
        cases e226
        replace hx226_0 := (HB.out.cell (qwL w _ hx226_0)).trans hx226_0
        replace hx226_1 := (HB.out.cell (qwL w _ hx226_1)).trans hx226_1
        replace p226 := eq_true p226
        replace q226 := eq_true q226
        go_wp2_with (first | ((with_reducible refine gate_dst (N := 8) rfl ?_); refine box_event ?hg (N := 8) ?hd (cs := #[.int .i64 0, .int .i64 0]) (t := 34) ?hr ?_; (case hd => rfl); (case hg => rfl); (case hr => go_simp; done); intro gb227 hg w19 hbox hb; have n0_ := aMk (qbP HB.out hb); have n1_ := aMk (hbox); have n2_ := aMk ((by rw [hg]; exact (qbZ HB.out) : w.heap.size ≤ gb227)); have n3_ := aMk ((by rw [hg]; exact (qbZ HB.out) : w.heap.size ≤ gb227)); clear HB; have HB := n0_; have BK227 := n1_; have GW227 := n2_; have GE227 := n3_; clear n0_ n1_ n2_ n3_; clear hb hbox hg; have hcz20_0 : w19.cell? ⟨gb227, 0, none⟩ = some (.int .i64 0) := (blk_cell BK227.out 0).trans rfl; have hcz20_1 : w19.cell? ⟨gb227, 1, none⟩ = some (.int .i64 0) := (blk_cell BK227.out 1).trans rfl; have hfz20_0 := qbF BK227.out 0; have hfz20_1 := qbF BK227.out 1) | ((with_reducible refine gate_callee (f := 167) rfl ?_); refine goesL_ (some 20) rfl rfl Tryz.func167 (by kernel_rfl) rfl #[.agg #[.int .i64 ((rd_T33 l2 x7_1).f0), .int .i64 ((rd_T33 l2 x7_1).f1)]] rfl (by (try simp only [lm0, lm1, lm2]); first | done | rfl | (simp only [lm3, lm4]; rfl)) ?_; (with_reducible refine (naskhref03_Right.calls ((rd_T33 l2 x7_1).f0) ((rd_T33 l2 x7_1).f1) true _ A6.out).mono ?_); rintro e w21 ⟨rfl, hb⟩; refine ⟨_, rfl, ?_⟩; have n0_ := aMk (blk_below (g := gb227) (o := .cells #[.int .i64 ((rd_T33 l2 x7_1).f0), .int .i64 ((rd_T33 l2 x7_1).f1)] 34 (0, 0)) (by refine blk_put (cs := #[.int .i64 ((rd_T33 l2 x7_1).f0), .int .i64 0]) ?_ 1 _ rfl; refine blk_put (cs := #[.int .i64 0, .int .i64 0]) ?_ 0 _ rfl; exact BK227.out) hb); have n1_ := aMk (qbP (by repeat (first | (with_reducible first | exact HB.out | apply qbA | apply qbN | apply qb1 | refine qbS ?_ GE227.out) | exact HB.out)) hb); clear BK227; clear HB; have BK227 := n0_; have HB := n1_; clear n0_ n1_; have hcz22_0 : w21.cell? ⟨gb227, 0, none⟩ = some (.int .i64 ((rd_T33 l2 x7_1).f0)) := (blk_cell BK227.out 0).trans rfl; have hcz22_1 : w21.cell? ⟨gb227, 1, none⟩ = some (.int .i64 ((rd_T33 l2 x7_1).f1)) := (blk_cell BK227.out 1).trans rfl; have hfz22_0 := qbF BK227.out 0; have hfz22_1 := qbF BK227.out 1))
        go_roundg k1
        case measure => have := HK1.out; omega
        case rel => exact ⟨(wrap64 (x7_1 + 1)), rfl, H', ⟨by have := HK1.out; omega⟩, ⟨by repeat (first | (with_reducible first | exact HB.out | apply qbA | apply qbN | apply qb1 | refine qbS ?_ GE227.out) | exact HB.out)⟩⟩
      ·rw [if_neg c8] at H
       have c8b0 := qdF c8
       clear c8
       have H' := aMk H
       clear H
       have p226 : 0 ≤ (x7_1 : Int) := qoD (by assumption)
       have q226 : x7_1 < (l2.length : Int) := qoD (by assumption)
       obtain ⟨ad226, e226, hx226_0, hx226_1⟩ := at_T33 HR2.out x7_1 p226 q226
       cases e226
       replace hx226_0 := (HB.out.cell (qwL w _ hx226_0)).trans hx226_0
       replace hx226_1 := (HB.out.cell (qwL w _ hx226_1)).trans hx226_1
       replace p226 := eq_true p226
       replace q226 := eq_true q226
       go_wp2_with (first | ((with_reducible refine gate_dst (N := 8) rfl ?_); refine box_event ?hg (N := 8) ?hd (cs := #[.int .i64 0, .int .i64 0]) (t := 34) ?hr ?_; (case hd => rfl); (case hg => rfl); (case hr => go_simp; done); intro gb227 hg w23 hbox hb; have n0_ := aMk (qbP HB.out hb); have n1_ := aMk (hbox); have n2_ := aMk ((by rw [hg]; exact (qbZ HB.out) : w.heap.size ≤ gb227)); have n3_ := aMk ((by rw [hg]; exact (qbZ HB.out) : w.heap.size ≤ gb227)); clear HB; have HB := n0_; have BK227 := n1_; have GW227 := n2_; have GE227 := n3_; clear n0_ n1_ n2_ n3_; clear hb hbox hg; have hcz24_0 : w23.cell? ⟨gb227, 0, none⟩ = some (.int .i64 0) := (blk_cell BK227.out 0).trans rfl; have hcz24_1 : w23.cell? ⟨gb227, 1, none⟩ = some (.int .i64 0) := (blk_cell BK227.out 1).trans rfl; have hfz24_0 := qbF BK227.out 0; have hfz24_1 := qbF BK227.out 1) | ((with_reducible refine gate_callee (f := 167) rfl ?_); refine goesL_ (some 20) rfl rfl Tryz.func167 (by kernel_rfl) rfl #[.agg #[.int .i64 ((rd_T33 l2 x7_1).f0), .int .i64 ((rd_T33 l2 x7_1).f1)]] rfl (by (try simp only [lm0, lm1, lm2]); first | done | rfl | (simp only [lm3, lm4]; rfl)) ?_; (with_reducible refine (naskhref03_Right.calls ((rd_T33 l2 x7_1).f0) ((rd_T33 l2 x7_1).f1) true _ A6.out).mono ?_); rintro e w25 ⟨rfl, hb⟩; refine ⟨_, rfl, ?_⟩; have n0_ := aMk (blk_below (g := gb227) (o := .cells #[.int .i64 ((rd_T33 l2 x7_1).f0), .int .i64 ((rd_T33 l2 x7_1).f1)] 34 (0, 0)) (by refine blk_put (cs := #[.int .i64 ((rd_T33 l2 x7_1).f0), .int .i64 0]) ?_ 1 _ rfl; refine blk_put (cs := #[.int .i64 0, .int .i64 0]) ?_ 0 _ rfl; exact BK227.out) hb); have n1_ := aMk (qbP (by repeat (first | (with_reducible first | exact HB.out | apply qbA | apply qbN | apply qb1 | refine qbS ?_ GE227.out) | exact HB.out)) hb); clear BK227; clear HB; have BK227 := n0_; have HB := n1_; clear n0_ n1_; have hcz26_0 : w25.cell? ⟨gb227, 0, none⟩ = some (.int .i64 ((rd_T33 l2 x7_1).f0)) := (blk_cell BK227.out 0).trans rfl; have hcz26_1 : w25.cell? ⟨gb227, 1, none⟩ = some (.int .i64 ((rd_T33 l2 x7_1).f1)) := (blk_cell BK227.out 1).trans rfl; have hfz26_0 := qbF BK227.out 0; have hfz26_1 := qbF BK227.out 1))
       go_roundg k1
       case measure => have := HK1.out; omega
       case rel => exact ⟨(wrap64 (x7_1 + 1)), rfl, H', ⟨by have := HK1.out; omega⟩, ⟨by repeat (first | (with_reducible first | exact HB.out | apply qbA | apply qbN | apply qb1 | refine qbS ?_ GE227.out) | exact HB.out)⟩⟩
     ·replace c7 := qbE.mpr c7
      subst c7
      rw [if_neg (show ¬ (false = true) by decide)] at H
      have H' := aMk H
      clear H
      have p226 : 0 ≤ (x7_1 : Int) := qoD (by assumption)
      have q226 : x7_1 < (l2.length : Int) := qoD (by assumption)
      obtain ⟨ad226, e226, hx226_0, hx226_1⟩ := at_T33 HR2.out x7_1 p226 q226
      cases e226
      replace hx226_0 := (HB.out.cell (qwL w _ hx226_0)).trans hx226_0
      replace hx226_1 := (HB.out.cell (qwL w _ hx226_1)).trans hx226_1
      replace p226 := eq_true p226
      replace q226 := eq_true q226
      go_wp2_with (first | ((with_reducible refine gate_dst (N := 8) rfl ?_); refine box_event ?hg (N := 8) ?hd (cs := #[.int .i64 0, .int .i64 0]) (t := 34) ?hr ?_; (case hd => rfl); (case hg => rfl); (case hr => go_simp; done); intro gb227 hg w27 hbox hb; have n0_ := aMk (qbP HB.out hb); have n1_ := aMk (hbox); have n2_ := aMk ((by rw [hg]; exact (qbZ HB.out) : w.heap.size ≤ gb227)); have n3_ := aMk ((by rw [hg]; exact (qbZ HB.out) : w.heap.size ≤ gb227)); clear HB; have HB := n0_; have BK227 := n1_; have GW227 := n2_; have GE227 := n3_; clear n0_ n1_ n2_ n3_; clear hb hbox hg; have hcz28_0 : w27.cell? ⟨gb227, 0, none⟩ = some (.int .i64 0) := (blk_cell BK227.out 0).trans rfl; have hcz28_1 : w27.cell? ⟨gb227, 1, none⟩ = some (.int .i64 0) := (blk_cell BK227.out 1).trans rfl; have hfz28_0 := qbF BK227.out 0; have hfz28_1 := qbF BK227.out 1) | ((with_reducible refine gate_callee (f := 167) rfl ?_); refine goesL_ (some 20) rfl rfl Tryz.func167 (by kernel_rfl) rfl #[.agg #[.int .i64 ((rd_T33 l2 x7_1).f0), .int .i64 ((rd_T33 l2 x7_1).f1)]] rfl (by (try simp only [lm0, lm1, lm2]); first | done | rfl | (simp only [lm3, lm4]; rfl)) ?_; (with_reducible refine (naskhref03_Right.calls ((rd_T33 l2 x7_1).f0) ((rd_T33 l2 x7_1).f1) false _ A6.out).mono ?_); rintro e w29 ⟨rfl, hb⟩; refine ⟨_, rfl, ?_⟩; have n0_ := aMk (blk_below (g := gb227) (o := .cells #[.int .i64 ((rd_T33 l2 x7_1).f0), .int .i64 ((rd_T33 l2 x7_1).f1)] 34 (0, 0)) (by refine blk_put (cs := #[.int .i64 ((rd_T33 l2 x7_1).f0), .int .i64 0]) ?_ 1 _ rfl; refine blk_put (cs := #[.int .i64 0, .int .i64 0]) ?_ 0 _ rfl; exact BK227.out) hb); have n1_ := aMk (qbP (by repeat (first | (with_reducible first | exact HB.out | apply qbA | apply qbN | apply qb1 | refine qbS ?_ GE227.out) | exact HB.out)) hb); clear BK227; clear HB; have BK227 := n0_; have HB := n1_; clear n0_ n1_; (try clear hi)))
      go_roundg k1
      case measure => have := HK1.out; omega
      case rel => exact ⟨(wrap64 (x7_1 + 1)), rfl, H', ⟨by have := HK1.out; omega⟩, ⟨by repeat (first | (with_reducible first | exact HB.out | apply qbA | apply qbN | apply qb1 | refine qbS ?_ GE227.out) | exact HB.out)⟩⟩
    ·rw [if_neg c5] at H
     exact absurd H (by simp)
   ·rw [if_neg c4] at H
    have c4b0 := qdF c4
    clear c4
    obtain rfl := qoI H
    go_wp2
    go_ret
    exact ⟨rfl, by repeat (first | (with_reducible first | exact HB.out | apply qbA | apply qbN | apply qb1) | exact HB.out)⟩
def naskhref03_Groups.l0 : Nat → Int → List (S33) → List (S33) → Int → Int → Option ((List (S33)))
 | 0, _, _, _, _, _ => none
 | k + 1, x0, x1, x5, x6, x7 => if x7 ≤ x0 then (if x7 = x0 then (if x5.length < 8796093022208 then (naskhref03_Groups.l0 k x0 x1 (x5 ++ [(⟨x6, x7⟩ : S33)]) x7 (wrap64 (x7 + 1))) else (none)) else ((naskhref03_parted.f k x7 x0 x1).bind fun t232 => (if t232 = true then (if x5.length < 8796093022208 then (naskhref03_Groups.l0 k x0 x1 (x5 ++ [(⟨x6, x7⟩ : S33)]) x7 (wrap64 (x7 + 1))) else (none)) else (naskhref03_Groups.l0 k x0 x1 x5 x6 (wrap64 (x7 + 1)))))) else (some x5)
def naskhref03_Groups.f (k : Nat) (a0 : Int) (l1 : List (S33)) : Option ((List (S33))) := naskhref03_Groups.l0 k a0 l1 ([] : List (S33)) 0 1
theorem naskhref03_Groups.calls (k : Nat) (a0 : Int) (A1 : Option Addr) (c1 : Nat) (l1 : List (S33)) (r : List (S33)) (w : World) (hr1 : Kd.C k33 w A1 l1.length l1) (hc1 : l1.length ≤ c1) (h : naskhref03_Groups.f k a0 l1 = some r) :
 Calls Tryz.prog 121 #[.int .i64 a0, .slice A1 l1.length c1] w fun e w' => ∃ v0_ : Value, e = .returned (v0_) ∧ Kd.R k33 34 w' w.heap.size (fun _ => True) v0_ r ∧ Below w.heap.size w w' := by
 have hu33 := Tryz.underlying34
 have HR1 := aMk hr1
 have HC1 := aMk hc1
 clear hr1 hc1
 have HB := aMk (qBr w.heap.size w)
 have H : (naskhref03_Groups.l0 k a0 l1 ([] : List (S33)) 0 1) = some r := h
 clear h
 have H' := aMk H
 clear H
 go_enter Tryz.func121, Tryz.ntmps121
 go_wp2
 go_loopg [5, 6, 7] k (fun kq v5 v6 v7 w' => ∃ (x5_1 : List (S33)) (x6_1 : Int) (x7_1 : Int), v6 = .int .i64 x6_1 ∧ v7 = .int .i64 x7_1 ∧ Aside0 (naskhref03_Groups.l0 kq a0 l1 x5_1 x6_1 x7_1 = some r) ∧ Aside0 (kq ≤ k) ∧ Aside0 (Kd.R k33 34 w' w.heap.size (fun _ => True) v5 x5_1) ∧ Aside0 (Below w.heap.size w w'))
 case atStart => exact ⟨(([] : List (S33))), (0), (1), rfl, rfl, H', ⟨qlR _⟩, ⟨by first | exact Kd.R_nil _ _ _ _ _ | exact Kd.N_nil _ _ _ _ _ | exact Kd.V_nil _ _ _ _ _ | exact Kd.Q_nil _ _ _ _ _ | exact Kd.S_nil _ _ _ _ _⟩, ⟨by repeat (first | (with_reducible first | exact HB.out | apply qbA | apply qbN | apply qb1) | exact HB.out)⟩⟩
 case round =>
  clear H'
  obtain ⟨x5_1, x6_1, x7_1, rfl, rfl, HA, HK1, HO_5, HB⟩ := hrel
  cases gk with
  | zero => exact absurd HA.out (by simp [naskhref03_Groups.l0])
  | succ k1 =>
   have H := HA.out
   clear HA
   simp only [naskhref03_Groups.l0] at H
   by_cases c3 : x7_1 ≤ a0
   ·rw [if_pos c3] at H
    have c3b0 := qdT c3
    clear c3
    by_cases c4 : x7_1 = a0
    ·rw [if_pos c4] at H
     have c4b0 : (x7_1 == a0) = true := beq_iff_eq.mpr c4
     have c4b1 : (x7_1 != a0) = false := bne_eq_false_iff_eq.mpr c4
     clear c4
     by_cases c5 : x5_1.length < 8796093022208
     ·rw [if_pos c5] at H
      have LMc5 := aMk c5; clear c5
      obtain ⟨y229, hy229⟩ : ∃ y_ : List (S33), y_ = (x5_1 ++ [(⟨x6_1, x7_1⟩ : S33)]) := ⟨_, rfl⟩
      replace H : (naskhref03_Groups.l0 k1 a0 l1 y229 x7_1 (wrap64 (x7_1 + 1))) = some r := by first | (rw [hy229]; with_reducible exact H) | (have H2_ := (qoS _ _).symm.trans H; rw [hy229]; with_reducible exact H2_) | (have H2_ := (qoS _ _).symm.trans H; with_reducible exact H2_) | with_reducible exact H | (rw [hy229]; exact H) | exact H
      have Ny229 := aMk hy229; clear hy229
      have H' := aMk H
      clear H
      go_wp2_with (first | ((with_reducible refine gate_builtin (b := .append) (xs := #[.tmp 22, .tmp 26]) rfl ?_); at_builtin; refine Kd.R_append k33 (w0 := w) w.heap.size rfl (.tmp 22) (.tmp 26) 98 34 (.agg #[(.int .i64 0), (.int .i64 0)]) 16 rfl Tryz.underlying98 info33 rfl (by decide) (by omega) u5 x5_1 (⟨x6_1, x7_1⟩ : S33) [.int .i64 x6_1, .int .i64 x7_1] (fun _ => True) (fun _ => False) rfl rfl ?aP (fun _ hk => hk.elim) ?aF ?aO ?aB ?aS ?aL ?_; (case aP => exact k33_mkM _ _ _ (⟨x6_1, x7_1⟩ : S33)); (case aB => exact HB.out); (case aF => exact (fun _ _ => trivial)); (case aO => exact HO_5.out); (case aS => exact (qbZ HB.out)); (case aL => have := LMc5.out; omega); intro v230 w6 ho hb hg hat; rw [← Ny229.out] at ho; have n0_ := aMk (hb); have n1_ := aMk (ho); clear HB; clear HO_5; have HB := n0_; have HO231 := n1_; clear n0_ n1_; clear ho hb hg hat))
      go_roundg k1
      case measure => have := HK1.out; omega
      case rel => exact ⟨(y229), (x7_1), (wrap64 (x7_1 + 1)), rfl, rfl, H', ⟨by have := HK1.out; omega⟩, ⟨by (with_reducible repeat (first | apply qrA | apply qrN | apply qrD)); exact HO231.out⟩, ⟨by repeat (first | (with_reducible first | exact HB.out | apply qbA | apply qbN | apply qb1) | exact HB.out)⟩⟩
     ·rw [if_neg c5] at H
      exact absurd H (by simp)
    ·rw [if_neg c4] at H
     have c4b0 : (x7_1 == a0) = false := beq_eq_false_iff_ne.mpr c4
     have c4b1 : (x7_1 != a0) = true := bne_iff_ne.mpr c4
     replace H := qoB.mp H
     obtain ⟨t232, A70, H⟩ := H
     try dsimp only at H
     have A7 := aMk A70; clear A70
     by_cases c8 : t232 = true
     ·subst c8
      rw [if_pos rfl] at H
      by_cases c9 : x5_1.length < 8796093022208
      ·rw [if_pos c9] at H
       have LMc9 := aMk c9; clear c9
       obtain ⟨y233, hy233⟩ : ∃ y_ : List (S33), y_ = (x5_1 ++ [(⟨x6_1, x7_1⟩ : S33)]) := ⟨_, rfl⟩
       replace H : (naskhref03_Groups.l0 k1 a0 l1 y233 x7_1 (wrap64 (x7_1 + 1))) = some r := by first | (rw [hy233]; with_reducible exact H) | (have H2_ := (qoS _ _).symm.trans H; rw [hy233]; with_reducible exact H2_) | (have H2_ := (qoS _ _).symm.trans H; with_reducible exact H2_) | with_reducible exact H | (rw [hy233]; exact H) | exact H
       have Ny233 := aMk hy233; clear hy233
       have H' := aMk H
       clear H
       go_wp2_with (first | (go_at_call 194; (with_reducible refine (naskhref03_parted.calls k1 x7_1 a0 _ _ l1 true _ ?side1 ?side2 A7.out).mono ?_); (case side1 => repeat (first | exact (Kd.C_below HR1.out HB.out) | (with_reducible refine Kd.C_alloc ?_ _) | (with_reducible refine Kd.C_drewN ?_ _) | (with_reducible refine Kd.C_drew ?_))); (case side2 => exact HC1.out); rintro e w10 ⟨rfl, hb⟩; have n0_ := aMk (qrB HO_5.out hb); have n1_ := aMk (qbP HB.out hb); clear HO_5; clear HB; have HO_5 := n0_; have HB := n1_; clear n0_ n1_; (try clear hi)) | ((with_reducible refine gate_builtin (b := .append) (xs := #[.tmp 22, .tmp 26]) rfl ?_); at_builtin; refine Kd.R_append k33 (w0 := w) w.heap.size rfl (.tmp 22) (.tmp 26) 98 34 (.agg #[(.int .i64 0), (.int .i64 0)]) 16 rfl Tryz.underlying98 info33 rfl (by decide) (by omega) u5 x5_1 (⟨x6_1, x7_1⟩ : S33) [.int .i64 x6_1, .int .i64 x7_1] (fun _ => True) (fun _ => False) rfl rfl ?aP (fun _ hk => hk.elim) ?aF ?aO ?aB ?aS ?aL ?_; (case aP => exact k33_mkM _ _ _ (⟨x6_1, x7_1⟩ : S33)); (case aB => exact HB.out); (case aF => exact (fun _ _ => trivial)); (case aO => exact HO_5.out); (case aS => exact (qbZ HB.out)); (case aL => have := LMc9.out; omega); intro v234 w11 ho hb hg hat; rw [← Ny233.out] at ho; have n0_ := aMk (hb); have n1_ := aMk (ho); clear HB; clear HO_5; have HB := n0_; have HO235 := n1_; clear n0_ n1_; clear ho hb hg hat))
       go_roundg k1
       case measure => have := HK1.out; omega
       case rel => exact ⟨(y233), (x7_1), (wrap64 (x7_1 + 1)), rfl, rfl, H', ⟨by have := HK1.out; omega⟩, ⟨by (with_reducible repeat (first | apply qrA | apply qrN | apply qrD)); exact HO235.out⟩, ⟨by repeat (first | (with_reducible first | exact HB.out | apply qbA | apply qbN | apply qb1) | exact HB.out)⟩⟩
      ·rw [if_neg c9] at H
       exact absurd H (by simp)
     ·replace c8 := qbE.mpr c8
      subst c8
      rw [if_neg (show ¬ (false = true) by decide)] at H
      have H' := aMk H
      clear H
      go_wp2_with (first | (go_at_call 194; (with_reducible refine (naskhref03_parted.calls k1 x7_1 a0 _ _ l1 false _ ?side1 ?side2 A7.out).mono ?_); (case side1 => repeat (first | exact (Kd.C_below HR1.out HB.out) | (with_reducible refine Kd.C_alloc ?_ _) | (with_reducible refine Kd.C_drewN ?_ _) | (with_reducible refine Kd.C_drew ?_))); (case side2 => exact HC1.out); rintro e w12 ⟨rfl, hb⟩; have n0_ := aMk (qrB HO_5.out hb); have n1_ := aMk (qbP HB.out hb); clear HO_5; clear HB; have HO_5 := n0_; have HB := n1_; clear n0_ n1_; (try clear hi)))
      go_roundg k1
      case measure => have := HK1.out; omega
      case rel => exact ⟨(x5_1), (x6_1), (wrap64 (x7_1 + 1)), rfl, rfl, H', ⟨by have := HK1.out; omega⟩, ⟨by (with_reducible repeat (first | apply qrA | apply qrN | apply qrD)); exact HO_5.out⟩, ⟨by repeat (first | (with_reducible first | exact HB.out | apply qbA | apply qbN | apply qb1) | exact HB.out)⟩⟩
   ·rw [if_neg c3] at H
    have c3b0 := qdF c3
    clear c3
    obtain rfl := qoI H
    go_wp2
    go_ret
    exact ⟨_, rfl, by (with_reducible repeat (first | apply qrA | apply qrN | apply qrD)); exact HO_5.out, by repeat (first | (with_reducible first | exact HB.out | apply qbA | apply qbN | apply qb1) | exact HB.out)⟩
end PClusterFinest
end
end Go.Proofs.YtemhccjjcioodaaGreat
