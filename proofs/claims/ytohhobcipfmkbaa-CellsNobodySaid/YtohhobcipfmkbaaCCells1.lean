/- slices.Clone, Grow of none, Concat, on whole numbers. -/
import Derived.Shelf.Lay
import Derived.Ground.Names2Prog
import Derived.Shelf.Spec.SlicesInsertGrow
import Derived.Shelf.Slices.Clone
import Derived.Shelf.Slices.Cells
import Derived.Test.YtohhobcipfmkbaaUCells
import Derived.Test.YtohhobcipfmkbaaRows
namespace Go.Proofs.Ytohhobcipfmkbaa.Cel
open Go.RowKit Go.Proofs.YtohhobcipfmkbaaW.PrintWords Go.Proofs.YtohhobcipfmkbaaW.PrintMore Go.Proofs.YtohhobcipfmkbaaW.PrintLast Go.Proofs.Ytohhobcipfmkbaa.U Go.Proofs.Ytohhobcipfmkbaa.PClusterFinest
open Go.Shelf
set_option linter.unusedVariables false
set_option linter.unusedSimpArgs false
shelf_lay Lays2.n15 Nm2 15 at Try as lc15
abbrev V (xs : List Int) : List Value := xs.map (Value.int .i64)
theorem SL_row {w : World} {g n c : Nat} {cur : Array Value} {e : TypeId} {xs : List Int} (h : w.heap[g]? = some (.cells cur e (0, 0))) (hn : n = xs.length) (hx : cur.toList.take n = V xs) (hm : xs.length ≤ 1000000) (hc : n ≤ c) : SL w (.slice (some ⟨g, 0, none⟩) n c) xs := by
  subst hn
  refine ⟨_, _, rfl, hc, ?_⟩
  refine Kd.C_of_reads (d := (0 : Int)) (h1 := fun _ => rfl) ⟨rfl, by omega, fun _ => ⟨_, rfl, fun j hj => ?_⟩⟩
  rw [add_plain, blk_cell h j]
  have e : (cur.toList.take xs.length)[j]? = cur[j]? := by rw [List.getElem?_take, if_pos hj]; simp
  rw [← e, hx]
  simp [List.getElem?_eq_getElem hj, List.getD_eq_getElem?_getD]
theorem spot_none {w : World} {a : Addr} {v : Value} (h : w.cell? a = some v) : a.spot = none := by
  unfold World.cell? at h
  split at h
  · by_cases hs : a.spot.isSome
    · rw [if_pos hs] at h; cases h
    · simpa using hs
  · cases h
theorem SL.cells {w : World} {A : Option Addr} {c : Nat} {xs : List Int} (h : SL w (.slice A xs.length c) xs) (h0 : 0 < xs.length) : ∃ b off, A = some ⟨b, off, none⟩ ∧ ∀ j, j < xs.length → w.cell? ⟨b, off + j, none⟩ = some (.int .i64 (xs.getD j 0)) := by
  obtain ⟨A', c', e, hl, hC⟩ := h
  injection e with e1 e2 e3
  subst e1
  obtain ⟨ad, rfl, h1⟩ := Kd.at_int hC 0 (by omega) (by omega)
  have hs := spot_none h1
  obtain ⟨b, off, sp⟩ := ad
  simp [Addr.add] at hs
  subst hs
  refine ⟨b, off, rfl, fun j hj => ?_⟩
  obtain ⟨ad, e, h2⟩ := Kd.at_int hC (j : Int) (by omega) (by omega)
  cases e
  rw [Int.toNat_natCast, rd_nat, Addr.add_lit] at h2
  exact h2
theorem reps_V (w : World) (base : Nat) (ok : Nat → Prop) (xs : List Int) : Reps ((Kd.int .i64).M w base ok) 1 xs (V xs) := by
  refine ⟨by simp, fun j p hj => ?_⟩
  show (V xs |>.drop (j * 1)).take 1 = [Value.int .i64 p]
  obtain ⟨hl, rfl⟩ := List.getElem?_eq_some_iff.1 hj
  rw [Nat.mul_one, List.drop_eq_getElem_cons (by simpa using hl)]
  simp
theorem clone_c {v : Value} {xs : List Int} {w : World} (h : SL w v xs) (hm : xs.length ≤ 1000000) : Calls Try.prog 42 #[v] w fun e w' => ∃ u, e = .returned u ∧ Kd.R (Kd.int .i64) 3 w' w.heap.size (fun _ => True) u xs ∧ Below w.heap.size w w' := by
  obtain ⟨A, c, rfl, hc, hC⟩ := h
  by_cases h0 : 0 < xs.length
  · obtain ⟨b, off, rfl, hcell⟩ := SL.cells ⟨A, c, rfl, hc, hC⟩ h0
    refine (Any.slices_Clone_int lc15 b off xs.length c xs w (Nat.le_refl _) (by omega) hcell).mono ?_
    rintro e w' ⟨u, rfl, hown, _, hb⟩
    rw [List.take_length] at hown
    exact ⟨u, rfl, ⟨fun _ _ => trivial, V xs, hown, reps_V _ _ _ _⟩, hb⟩
  · have e : xs = [] := List.eq_nil_of_length_eq_zero (by omega)
    subst e
    cases A with
    | none => exact (Any.slices_Clone_int_nil lc15 0 c w).mono fun e w' ⟨he, hw⟩ => ⟨_, he, Kd.R_nil _ _ _ _ _, by rw [hw]; exact Below.refl _ _⟩
    | some a =>
      refine (Any.slices_Clone_int_zero lc15 a c w).mono ?_
      rintro e w' ⟨u, rfl, hown, _, hb⟩
      exact ⟨u, rfl, ⟨fun _ _ => trivial, [], hown, Reps.none _ _⟩, hb⟩
set_option maxRecDepth 100000 in
set_option maxHeartbeats 4000000 in
theorem grow_c (n : Nat) (hn : n ≤ 10000000) {w : World} : Calls Try.prog 77 #[.slice none 0 0, .int .i64 n] w fun e w' => ∃ u, e = .returned u ∧ Kd.R (Kd.int .i64) 3 w' w.heap.size (fun _ => True) u [] ∧ Below w.heap.size w w' := by
  by_cases h0 : n = 0
  · subst h0
    go_enter Try.func77, Try.ntmps77
    go_wp2
    go_ret
    exact ⟨_, rfl, Kd.R_nil _ _ _ _ _, Below.refl _ _⟩
  · have hI : (0 : Int) < (n : Int) := by omega
    have hI2 : ¬ (n : Int) < 0 := by omega
    have e1 : IntKind.i64.wrap ((n : Int) - IntKind.i64.wrap (0 - 0)) = (n : Int) := by
      rw [show IntKind.i64.wrap ((0 : Int) - 0) = 0 by decide, IntWalk.i64_in _ (by omega)]; omega
    have HN : Aside0 (n ≤ 10000000) := ⟨hn⟩
    go_enter Try.func77, Try.ntmps77
    go_wp2_with ((with_reducible refine gate_builtin (b := .append) (xs := #[.tmp 20, .tmp 21]) rfl ?_); at_builtin; refine Kd.R_append_zeros (Kd.int .i64) (w0 := w) w.heap.size rfl (.tmp 20) (.tmp 21) 31 3 3 (.int .i64 0) 8 rfl Try.underlying31 Try.underlying3 info3 rfl (by decide) (by omega) (.slice none 0 0) [] 0 (kx := .i64) (n : Int) (fun _ => True) (by first | (go_simp; done) | (go_simp; rfl)) (by first | (go_simp; done) | (go_simp; rfl)) rfl (fun _ _ => trivial) (Kd.R_nil _ _ _ _ _) (by omega) (Below.refl _ _) (Nat.le_refl _) (by have := HN.out; simp only [List.length_nil, Int.toNat_natCast]; omega) ?_; intro v1 w1 hv hb hg hat; obtain ⟨A1, c1, e1⟩ := Kd.R_slice hv; subst e1; have HV := Aside0.mk (Kd.R_take hv (Nat.zero_le _)); have HB := Aside0.mk hb; have HC1 := Aside0.mk (Kd.R_reads' hv).2.1; have hc1 : 0 ≤ (c1 : Int) := (by omega); clear hv hb hg hat)
    go_ret
    exact ⟨_, rfl, HV.out, HB.out⟩
theorem flat_take {L : List (List Int)} {k : Nat} (h : k < L.length) : (L.take (k + 1)).flatten = (L.take k).flatten ++ L[k] := by
  rw [List.take_succ_eq_append_getElem h, List.flatten_append]; simp
theorem flat_le (L : List (List Int)) (k : Nat) : (L.take k).flatten.length ≤ L.flatten.length := by
  conv => rhs; rw [← List.take_append_drop k L, List.flatten_append, List.length_append]
  omega
set_option maxRecDepth 100000 in
set_option maxHeartbeats 4000000 in
theorem concat_c {w : World} {v : Value} {L : List (List Int)} (h : SLk (Kd.slice 3 (Kd.int .i64)) w v L) (hl : L.length ≤ 100000000) (hf : L.flatten.length ≤ 10000000) :
    Calls Try.prog 47 #[v] w fun e w' => ∃ u, e = .returned u ∧ Kd.R (Kd.int .i64) 3 w' w.heap.size (fun _ => True) u L.flatten ∧ Below w.heap.size w w' := by
  obtain ⟨A, c, rfl, hc, hC⟩ := h
  have HC := Aside0.mk hC
  have HL := Aside0.mk hl
  have HF := Aside0.mk hf
  clear hc hC hl hf
  go_enter Try.func47, Try.ntmps47
  go_wp2
  go_loopw [3, 11] (fun v3 v wr => ∃ k : Nat, v = .int .i64 (k : Int) ∧ k ≤ L.length ∧ v3 = .int .i64 ((L.take k).flatten.length : Nat) ∧ Aside0 (Below w.heap.size w wr)) (fun _ v _ => L.length - (intOf v).toNat)
  case atStart => exact ⟨0, rfl, Nat.zero_le _, rfl, ⟨Below.refl _ _⟩⟩
  case round =>
    obtain ⟨k, rfl, hk, rfl, HB⟩ := hrel
    by_cases hlt : k < L.length
    · obtain ⟨x, hx⟩ : ∃ x, x = L[k] := ⟨_, rfl⟩
      obtain ⟨ad, cs, ead, _, hK, hcell⟩ := Kd.C_get (Kd.C_below HC.out HB.out) [] (k : Int) (by omega) (by omega)
      rw [Int.toNat_natCast, show L.getD k [] = x by rw [hx, List.getD_eq_getElem?_getD, List.getElem?_eq_getElem hlt]; rfl] at hK
      obtain ⟨A', c', rfl, hc', hC'⟩ := hK
      have c0 := hcell 0 _ rfl
      rw [Int.toNat_natCast, show (Kd.slice 3 (Kd.int .i64)).sz = 1 from rfl, Nat.add_zero, Nat.mul_one] at c0
      have HNX : Aside0 ((L.take (k + 1)).flatten.length = (L.take k).flatten.length + x.length) := ⟨by rw [flat_take hlt, List.length_append, hx]⟩
      have HLE : Aside0 ((L.take (k + 1)).flatten.length ≤ 10000000) := ⟨Nat.le_trans (flat_le L (k + 1)) HF.out⟩
      obtain ⟨s, hs⟩ : ∃ s, s = (L.take k).flatten.length := ⟨_, rfl⟩
      rw [← hs] at HNX ⊢
      have hsl : s + x.length ≤ 10000000 := by rw [← HNX.out]; exact HLE.out
      have e1 : IntKind.i64.wrap ((s : Int) + (x.length : Int)) = ((s + x.length : Nat) : Int) := by rw [IntWalk.i64_in _ (by omega)]; omega
      have hneg : ¬ ((s + x.length : Nat) : Int) < 0 := by omega
      have hkI : (k : Int) < (L.length : Int) := by omega
      have hk8 : (k : Int) ≤ 100000000 := by have := HL.out; omega
      subst ead
      clear hx hcell hC' hc' hs
      go_wp2
      exact ⟨⟨k + 1, by go_num, by omega, by rw [HNX.out, show ((s + x.length : Nat) : Int) = (s : Int) + (x.length : Int) by omega], HB⟩, by simp [intOf]; omega⟩
    · obtain rfl : k = L.length := by omega
      rw [List.take_length]
      have HFN : Aside0 (L.flatten.length ≤ 10000000) := HF
      obtain ⟨s, hs⟩ : ∃ s, s = L.flatten.length := ⟨_, rfl⟩
      rw [← hs] at HFN ⊢
      clear hlt hs
      go_wp2_with (go_at_call 77; refine (grow_c s HFN.out).mono ?_; rintro e w1 ⟨u1, rfl, hR, hb1⟩; have HR1 := Aside0.mk (Kd.R_lower hR HB.out.size); have HB1 : Aside0 (Below w.heap.size w w1) := ⟨below_step HB.out hb1⟩; clear hR hb1)
      go_loopw [6, 27] (fun v6 v wr => ∃ k : Nat, v = .int .i64 (k : Int) ∧ k ≤ L.length ∧ Aside0 (Kd.R (Kd.int .i64) 3 wr w.heap.size (fun _ => True) v6 (L.take k).flatten) ∧ Aside0 (Below w.heap.size w wr)) (fun _ v _ => L.length - (intOf v).toNat)
      case atStart => exact ⟨0, rfl, Nat.zero_le _, HR1, HB1⟩
      case round =>
        clear HR1 HB1 HB
        obtain ⟨k, rfl, hk, HR, HB⟩ := hrel
        by_cases hlt : k < L.length
        · obtain ⟨x, hx⟩ : ∃ x, x = L[k] := ⟨_, rfl⟩
          obtain ⟨ad, cs, ead, _, hK, hcell⟩ := Kd.C_get (Kd.C_below HC.out HB.out) [] (k : Int) (by omega) (by omega)
          rw [Int.toNat_natCast, show L.getD k [] = x by rw [hx, List.getD_eq_getElem?_getD, List.getElem?_eq_getElem hlt]; rfl] at hK
          obtain ⟨A', c', rfl, hc', hC'⟩ := hK
          have c0 := hcell 0 _ rfl
          rw [Int.toNat_natCast, show (Kd.slice 3 (Kd.int .i64)).sz = 1 from rfl, Nat.add_zero, Nat.mul_one] at c0
          have HNX : Aside0 ((L.take (k + 1)).flatten = (L.take k).flatten ++ x) := ⟨by rw [flat_take hlt, hx]⟩
          have HLE : Aside0 ((L.take (k + 1)).flatten.length ≤ 10000000) := ⟨Nat.le_trans (flat_le L (k + 1)) HF.out⟩
          rw [HNX.out, List.length_append] at HLE
          obtain ⟨o, ho⟩ : ∃ o, o = (L.take k).flatten := ⟨_, rfl⟩
          rw [← ho] at HNX HR HLE
          obtain ⟨A6, c6, e6⟩ := Kd.R_slice HR.out
          subst e6
          have hkI : (k : Int) < (L.length : Int) := by omega
          have hk8 : (k : Int) ≤ 100000000 := by have := HL.out; omega
          have HCX := Aside0.mk hC'
          subst ead
          clear hx hcell hC' hc' ho
          go_wp2_with ((with_reducible refine gate_builtin (b := .append) (xs := #[.tmp 31, .tmp 32]) rfl ?_); at_builtin; refine Kd.R_append_rows (Kd.int .i64) (w0 := w) w.heap.size rfl (.tmp 31) (.tmp 32) 31 3 (.int .i64 0) 8 rfl Try.underlying31 info3 rfl (by decide) (by omega) _ o x A' x.length c' (fun _ => True) (fun _ => False) (by first | (go_simp; done) | (go_simp; rfl)) (by first | (go_simp; done) | (go_simp; rfl)) HR.out HCX.out (fun x cs h => h) (fun _ h => h.elim) (fun _ _ => trivial) HB.out HB.out.size (by have := HLE.out; omega) ?_; intro v4 w4 hv hb hg hat; have HR4 := Aside0.mk hv; have HB4 := Aside0.mk hb; clear hv hb hg hat)
          exact ⟨⟨k + 1, by go_num, by omega, ⟨by rw [HNX.out]; exact HR4.out⟩, HB4⟩, by simp [intOf]; omega⟩
        · obtain rfl : k = L.length := by omega
          rw [List.take_length] at HR
          clear hlt
          go_wp2
          go_ret
          exact ⟨_, rfl, HR.out, HB.out⟩
end Go.Proofs.Ytohhobcipfmkbaa.Cel
