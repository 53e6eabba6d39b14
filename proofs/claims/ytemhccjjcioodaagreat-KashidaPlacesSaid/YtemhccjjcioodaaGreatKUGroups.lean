/- Texts of this claim, cut to what it needs. -/
import Derived.Test.YtemhccjjcioodaaGreatKKPlaces
import Derived.Laws.CopyOwn
import Derived.Test.YtemhccjjcioodaaGreatKCFinA
import Derived.Shelf.Lay
import Derived.Ground.Names2Prog
import Derived.Shelf.Spec.SlicesInsertGrow
import Derived.Shelf.Slices.Clone
import Derived.Shelf.Slices.Cells
import Derived.Test.YtemhccjjcioodaaGreatRows
set_option linter.unusedSimpArgs false
set_option linter.unusedVariables false
section
namespace Go.Proofs.YtemhccjjcioodaaGreat.KRep
open Go.RowKit Go.Proofs.YtemhccjjcioodaaGreatW.PrintWords Go.Proofs.YtemhccjjcioodaaGreatW.PrintMore Go.Proofs.YtemhccjjcioodaaGreatW.PrintLast Go.Proofs.YtemhccjjcioodaaGreat.U Go.Proofs.YtemhccjjcioodaaGreat.PKashidaStretches
theorem and_mask (n : Nat) (h : n < 4294967296) : Go.bits .and .u64 (n : Int) 4294967295 = (n : Int) := by
 show IntKind.u64.wrap ((BitVec.ofInt 64 (n : Int) &&& BitVec.ofInt 64 4294967295).toNat : Int) = _
 have e : (BitVec.ofInt 64 (n : Int) &&& BitVec.ofInt 64 4294967295).toNat = n % 4294967296 := by
  rw [BitVec.toNat_and, BitVec.toNat_ofInt, BitVec.toNat_ofInt]
  rw [show ((n : Int) % ((2 ^ 64 : Nat) : Int)).toNat = n by omega, show ((4294967295 : Int) % ((2 ^ 64 : Nat) : Int)).toNat = 2 ^ 32 - 1 by decide]
  exact Nat.and_two_pow_sub_one_eq_mod n 32
 rw [e, IntWalk.u64_in _ (by omega)]
 omega
theorem mul_one_f (n : Nat) (h : n ≤ 1000000) : bits_Mul.f 1 (n : Int) = some (0, (n : Int)) := by
 unfold bits_Mul.f bits_Mul64.f
 rw [and_mask n (by omega), show Go.bits .and .u64 1 4294967295 = 1 by kernel_rfl]
 have hd : (n : Int) / 4294967296 = 0 := by omega
 have h1 : (1 : Int) / 4294967296 = 0 := by decide
 have hz : IntKind.u64.wrap 0 = 0 := IntWalk.u64_in _ (by omega)
 have hn : IntKind.u64.wrap (n : Int) = (n : Int) := IntWalk.u64_in _ (by omega)
 have ha : Go.bits .and .u64 0 4294967295 = 0 := by kernel_rfl
 have h0 : (0 : Int) / 4294967296 = 0 := by decide
 simp only [hd, h1, Int.zero_mul, Int.one_mul, Int.mul_zero, hz, hn, Int.zero_add, Int.add_zero, ha, h0, Option.bind_some]
theorem sz3 : (Tryz.prog.info? 3).map (·.size) = some 1 := by kernel_rfl
def HoldsX (w : World) (g cap k : Nat) (x : Int) : Prop := ∃ cur : List Value, w.heap[g]? = some (.cells cur.toArray 3 (0, 0)) ∧ cur.length = cap ∧ cur.take k = List.replicate k (.int .i64 x)
theorem HoldsX.cell {w : World} {g cap k : Nat} {x : Int} (h : HoldsX w g cap k x) (j : Nat) (hj : j < k) : w.cell? ⟨g, j, none⟩ = some (.int .i64 x) := by
 obtain ⟨cur, h1, h2, h3⟩ := h
 refine (blk_cell h1 j).trans ?_
 have h4 : (cur.take k)[j]? = some (.int .i64 x) := by rw [h3, List.getElem?_replicate, if_pos hj]
 rw [List.getElem?_take_of_lt hj] at h4
 simpa using h4
theorem HoldsX.splice {w' : World} {g cap k m : Nat} {x : Int} {cur : List Value} (h2 : cur.length = cap) (h3 : cur.take k = List.replicate k (.int .i64 x)) (hk : k + m ≤ cap) (h : w'.heap[g]? = some (.cells (Go.splice cur k (List.replicate m (.int .i64 x))).toArray 3 (0, 0))) : HoldsX w' g cap (k + m) x := by
 refine ⟨_, h, ?_, ?_⟩
 ·unfold Go.splice
  simp
  omega
 ·unfold Go.splice
  rw [h3, ← List.append_assoc, List.replicate_append_replicate, List.take_append_of_le_length (by simp)]
  rw [List.take_of_length_le (by simp)]
theorem HoldsX.reads {w : World} {g cap n : Nat} {x : Int} (h : HoldsX w g cap n x) (hn : n ≤ cap) (hm : n ≤ 1000000) : SL w (.slice (some ⟨g, 0, none⟩) n cap) (List.replicate n x) := by
 have e : (.slice (some ⟨g, 0, none⟩) n cap : Value) = .slice (some ⟨g, 0, none⟩) (List.replicate n x).length cap := by rw [List.length_replicate]
 rw [e]
 refine ⟨_, _, rfl, by simpa using hn, rfl, by simp; omega, fun hp => ⟨_, rfl, fun j p hj => ?_⟩⟩
 obtain ⟨hl, hp⟩ := List.getElem?_eq_some_iff.1 hj
 have hl' : j < n := by simpa using hl
 refine ⟨_, rfl, rfl, fun i u hu => ?_⟩
 have ep : p = x := by simpa using hp.symm
 subst ep
 match i, hu with
 | 0, hu =>
  obtain rfl := Option.some.inj hu
  have := h.cell j hl'
  have e : (Kd.int .i64).sz = 1 := rfl
  rw [add_plain, e]
  simpa using this
 | i + 1, hu => simp at hu
set_option maxRecDepth 100000 in
set_option maxHeartbeats 8000000 in
theorem repeat_c {w : World} {A : Option Addr} {c : Nat} {x : Int} (hx : SL w (.slice A 1 c) [x]) (n : Nat) (hn : n ≤ 100000) :
 Calls Tryz.prog 60 #[.slice A 1 c, .int .i64 n] w fun e w' => ∃ u, e = .returned u ∧ SL w' u (List.replicate n x) ∧ Below w.heap.size w w' := by
 have HX := Aside0.mk hx
 have HN := Aside0.mk hn
 have h0 : ¬ (n : Int) < 0 := by omega
 have h1 : ¬ (n : Int) > 9223372036854775807 := by omega
 have hu1 : IntKind.u64.wrap 1 = 1 := IntWalk.u64_in _ (by omega)
 have hun : IntKind.u64.wrap (n : Int) = (n : Int) := IntWalk.u64_in _ (by omega)
 have hin : IntKind.i64.wrap (n : Int) = (n : Int) := IntWalk.i64_in _ (by omega)
 clear hx hn
 go_enter Tryz.func60, Tryz.ntmps60
 go_upto_region 6 with (first | (go_at_call 117; refine (bits_Mul.calls 1 n 0 n _ (mul_one_f n (by have := HN.out; omega))).mono ?_; rintro e w1 ⟨rfl, hd⟩; have HB1 := Aside0.mk (CFin.drawn0_below hd); clear hd))
 go_upto_region 7 with (first | ((with_reducible refine gate_dst (N := 30) rfl ?_); refine Kd.R_make (Kd.int .i64) (w0 := w) w.heap.size 3 rfl rfl 22 (.tmp 29) (.tmp 29) rfl (n : Int) (by first | (go_simp; done) | (go_simp; rfl)) (by first | (go_simp; done) | (go_simp; rfl)) Tryz.underlying22 (.int .i64 0) 8 info3 rfl (by decide) (by omega) (0 : Int) (ok := fun _ => True) (okp := fun _ => False) rfl (fun _ h => h.elim) trivial (by omega) (by have := HN.out; simp only [Int.toNat_natCast]; omega) HB1.out HB1.out.size ?_; intro v2 w2 hv hb hg hat; rw [Int.toNat_natCast] at hv; have HV := Aside0.mk hv; have HB2 := Aside0.mk hb; clear hv hb hg hat))
 rcases Nat.eq_zero_or_pos n with hz | hz
 ·subst hz
  obtain ⟨A2, c2, e2⟩ := Kd.R_slice HV.out
  rw [List.length_replicate] at e2
  subst e2
  have HZ := Aside0.mk (SLk.of_R HV.out)
  go_upto_region 8 with (first | ((with_reducible refine gate_builtin (b := .copy) (xs := #[.tmp 31, .tmp 32]) rfl ?_); refine wpList_copy_nothing rfl (.tmp 31) (.tmp 32) 22 22 rfl 3 Tryz.underlying22 sz3 A2 A 0 c2 1 c ?hd ?hs (by rfl) ?_; (case hd => first | rfl | (go_simp; done) | (go_simp; rfl)); (case hs => first | rfl | (go_simp; done) | (go_simp; rfl))))
  refine wp_loop_rounds 1 ?_
  rw [rounds_succ]
  go_wp2
  go_ret
  exact ⟨_, rfl, HZ.out, HB2.out⟩
 ·have HN0 := Aside0.mk hz
  have hzI : (0 : Int) < (n : Int) := by omega
  obtain ⟨hlen, hown⟩ := Kd.own_of_R HV.out
  rcases hown with ⟨-, hn0⟩ | ⟨g, cap, cur, ev, hg, hblk, hcap, hmax, hcs, htk⟩
  ·rw [List.length_replicate] at hn0; omega
  ·rw [List.length_replicate] at ev hcap
   subst ev
   have HG := Aside0.mk hg
   have HBK : Aside0 (w2.heap[g]? = some (.cells cur.toList.toArray 3 (0, 0))) := ⟨by rw [Array.toArray_toList]; exact hblk⟩
   have HCAP := Aside0.mk hcap
   have HCS : Aside0 (cur.size = cap) := ⟨by simpa using hcs⟩
   have HSRC : Aside0 (∃ ad, A = some ad ∧ ∀ (j : Nat) (v : Value), [Value.int .i64 x][j]? = some v → w2.cell? (ad.add j) = some v) := ⟨by
    obtain ⟨ad, c', e, h⟩ := SLk.at_int (SLk.below HX.out HB2.out) 0 (by omega) (by simp)
    injection e with e _ _
    refine ⟨ad, e, fun j v hj => ?_⟩
    match j, hj with
    | 0, hj =>
     obtain rfl := Option.some.inj hj
     exact h
    | j + 1, hj => simp at hj⟩
   have HMIN : Aside0 ([Value.int .i64 x].length = Nat.min 1 n) := ⟨(Nat.min_eq_left (show 1 ≤ n from HN0.out)).symm⟩
   have HFIT : Aside0 (0 + [Value.int .i64 x].length ≤ cur.toList.length) := ⟨by show 0 + 1 ≤ cur.size; have h0 := HCS.out; have h1 := HCAP.out; have h2 := HN0.out; omega⟩
   have HONE : Aside0 (∀ v ∈ [Value.int .i64 x], v.oneCell' = true) := ⟨fun v hv => by rw [List.mem_singleton.1 hv]; rfl⟩
   have HSP : Aside0 (∀ W : World, W.heap[g]? = some (.cells (Go.splice cur.toList 0 [Value.int .i64 x]).toArray 3 (0, 0)) → HoldsX W g cap 1 x) := ⟨fun W hh => HoldsX.splice (cur := cur.toList) (k := 0) (m := 1) (by rw [Array.length_toList]; exact HCS.out) rfl (by have h1 := HCAP.out; have h2 := HN0.out; omega) hh⟩
   clear hz hlen hg hblk hcap hmax hcs htk HV
   go_upto_region 8 with (first | ((with_reducible refine gate_builtin (b := .copy) (xs := #[.tmp 31, .tmp 32]) rfl ?_); refine wpList_copy_splice rfl (.tmp 31) (.tmp 32) 22 22 rfl 3 Tryz.underlying22 sz3 (some ⟨g, 0, none⟩) A n cap 1 c ?hd ?hs g 0 cur.toList 3 HBK.out [.int .i64 x] HMIN.out (fun _ => ⟨rfl, HSRC.out⟩) HFIT.out HONE.out w.heap.size w HB2.out HG.out ?_; (case hd => first | rfl | (go_simp; done) | (go_simp; rfl)); (case hs => first | rfl | (go_simp; done) | (go_simp; rfl)); intro w3 hh hb; have HH3 := Aside0.mk (HSP.out w3 hh); have HB3 := Aside0.mk hb; clear hh hb))
   go_loopw [8] (fun v wr => ∃ k : Nat, v = .int .i64 k ∧ 1 ≤ k ∧ k ≤ n ∧ Aside0 (HoldsX wr g cap k x) ∧ Aside0 (Below w.heap.size w wr)) (fun v _ => n - (intOf v).toNat)
   case atStart => exact ⟨1, by go_num, Nat.le_refl _, HN0.out, HH3, HB3⟩
   case round =>
    clear HH3 HB3
    obtain ⟨k, rfl, hk1, hkn, HH, HB⟩ := hrel
    by_cases hlt : k < n
    ·have hkI : (k : Int) < (n : Int) := by omega
     have hk0 : 0 ≤ (k : Int) := by omega
     have hkn' : (k : Int) ≤ (n : Int) := by omega
     have hkc : (k : Int) ≤ (cap : Int) := by have := HCAP.out; omega
     have hnc : (n : Int) ≤ (cap : Int) := by have := HCAP.out; omega
     have hne : ¬ (k : Int) = (cap : Int) := by have := HCAP.out; omega
     have HLT := Aside0.mk hlt
     obtain ⟨cur2, hc1, hc2, hc3⟩ := HH.out
     obtain ⟨m, hm⟩ : ∃ m, m = Nat.min k (n - k) := ⟨_, rfl⟩
     have hmk : m ≤ k := by rw [hm]; exact Nat.min_le_left _ _
     have hmn : m ≤ n - k := by rw [hm]; exact Nat.min_le_right _ _
     have hm1 : 1 ≤ m := by rw [hm]; exact Nat.le_min.2 ⟨hk1, by have := HLT.out; omega⟩
     have HM1 : Aside0 (1 ≤ m ∧ k + m ≤ n) := ⟨hm1, by have := HLT.out; omega⟩
     have HC1 : Aside0 (wr.drew.heap[g]? = some (.cells cur2.toArray 3 (0, 0))) := ⟨hc1⟩
     have HC2 := Aside0.mk hc2
     have HC3 := Aside0.mk hc3
     have HMN : Aside0 ((List.replicate m (Value.int .i64 x)).length = Nat.min k (n - k)) := ⟨by rw [List.length_replicate]; exact hm⟩
     have HKM : Aside0 (k + m ≤ cap) := ⟨by have h1 := HM1.out.2; have h2 := HCAP.out; omega⟩
     have HFT : Aside0 (k + (List.replicate m (Value.int .i64 x)).length ≤ cur2.length) := ⟨by rw [List.length_replicate, hc2]; exact HKM.out⟩
     have HON : Aside0 (∀ v ∈ List.replicate m (Value.int .i64 x), v.oneCell' = true) := ⟨fun v hv => by rw [List.eq_of_mem_replicate hv]; rfl⟩
     have HNE : Aside0 (¬ cap = k) := ⟨by have h1 := HM1.out; have h2 := HCAP.out; omega⟩
     have HCL : Aside0 (∀ (j : Nat) (v : Value), (List.replicate m (Value.int .i64 x))[j]? = some v → wr.drew.cell? ((⟨g, 0, none⟩ : Addr).add j) = some v) := ⟨fun j v hj => by
      obtain ⟨hl, hp⟩ := List.getElem?_eq_some_iff.1 hj
      have hl' : j < m := by simpa using hl
      have ev : v = .int .i64 x := by simpa using hp.symm
      rw [add_plain, ev]
      have := HH.out.cell j (by omega)
      simpa using this⟩
     have HBD : Aside0 (Below w.heap.size w wr.drew) := ⟨HB.out.drew⟩
     have hmI : 0 ≤ (m : Int) := by omega
     have hkmI : (k : Int) + (m : Int) ≤ 1000000 := by have h1 := HM1.out.2; have h2 := HN.out; omega
     clear hlt hkn hc1 hc2 hc3 hm hmk hmn hm1
     go_upto_region 9 with (fail)
     refine start_ (n := 10) (S := (fun W => Below w.heap.size w W)) (ds := []) #[false, false, false, false, false, false, false, false, false, false] (by kernel_rfl) (by kernel_rfl) (by rfl) HBD.out (fun hS0 => ?_)
     refine pure_ (i := 0) (N := (some 38)) (v := ?_) (a' := ?_) #[true, false, false, false, false, false, false, false, false, false] rfl rfl (by kernel_rfl) (fun _ _ _ h => h) (Or.inl ⟨by rfl, ?_⟩) ?_ ?_
     rotate_left
     ·intro w'
      go_simp
      with_reducible rfl
     rotate_left
     ·simp only [Act.put, List.setIfInBounds_toArray, List.set_cons_zero, List.set_cons_succ]
      rfl
     refine pure_ (i := 1) (N := (some 39)) (v := ?_) (a' := ?_) #[true, true, false, false, false, false, false, false, false, false] rfl rfl (by kernel_rfl) (fun _ _ _ h => h) (Or.inl ⟨by rfl, ?_⟩) ?_ ?_
     rotate_left
     ·intro w'
      go_simp
      with_reducible rfl
     rotate_left
     ·simp only [Act.put, List.setIfInBounds_toArray, List.set_cons_zero, List.set_cons_succ]
      rfl
     refine pure_ (i := 2) (N := (some 40)) (v := ?_) (a' := ?_) #[true, true, true, false, false, false, false, false, false, false] rfl rfl (by kernel_rfl) (fun _ _ _ h => h) (Or.inl ⟨by rfl, ?_⟩) ?_ ?_
     rotate_left
     ·intro w'
      go_simp
      with_reducible rfl
     rotate_left
     ·simp only [Act.put, List.setIfInBounds_toArray, List.set_cons_zero, List.set_cons_succ]
      rfl
     refine pure_ (i := 3) (N := (some 41)) (v := ?_) (a' := ?_) #[true, true, true, true, false, false, false, false, false, false] rfl rfl (by kernel_rfl) (fun _ _ _ h => h) (Or.inl ⟨by rfl, ?_⟩) ?_ ?_
     rotate_left
     ·intro w'
      go_simp
      with_reducible rfl
     rotate_left
     ·simp only [Act.put, List.setIfInBounds_toArray, List.set_cons_zero, List.set_cons_succ]
      rfl
     refine pure_ (i := 4) (N := (some 42)) (v := ?_) (a' := ?_) #[true, true, true, true, true, false, false, false, false, false] rfl rfl (by kernel_rfl) (fun _ _ _ h => h) (Or.inl ⟨by rfl, ?_⟩) ?_ ?_
     rotate_left
     ·intro w'
      go_simp
      with_reducible rfl
     rotate_left
     ·simp only [Act.put, List.setIfInBounds_toArray, List.set_cons_zero, List.set_cons_succ]
      rfl
     refine pure_ (i := 5) (N := (some 43)) (v := ?_) (a' := ?_) #[true, true, true, true, true, true, false, false, false, false] rfl rfl (by kernel_rfl) (fun _ _ _ h => h) (Or.inl ⟨by rfl, ?_⟩) ?_ ?_
     rotate_left
     ·intro w'
      go_simp
      with_reducible rfl
     rotate_left
     ·simp only [Act.put, List.setIfInBounds_toArray, List.set_cons_zero, List.set_cons_succ]
      rfl
     refine pure_ (i := 6) (N := (some 44)) (v := ?_) (a' := ?_) #[true, true, true, true, true, true, true, false, false, false] rfl rfl (by kernel_rfl) (fun _ _ _ h => h) (Or.inl ⟨by rfl, ?_⟩) ?_ ?_
     rotate_left
     ·intro w'
      go_simp
      with_reducible rfl
     rotate_left
     ·simp only [Act.put, List.setIfInBounds_toArray, List.set_cons_zero, List.set_cons_succ]
      rfl
     clear hS0
     refine one_ (i := 7) (N := (some 45)) #[true, true, true, true, true, true, true, true, false, false] rfl rfl (by kernel_rfl) (by decide) (fun K hK => ?_)
     refine step_copy_splice rfl (.tmp 41) (.tmp 44) 22 22 rfl 3 Tryz.underlying22 sz3 (some ⟨g, k, none⟩) (some ⟨g, 0, none⟩) (n - k) (cap - k) k cap ?hd ?hs g k cur2 3 HC1.out (List.replicate m (.int .i64 x)) HMN.out (fun _ => ⟨rfl, _, rfl, HCL.out⟩) HFT.out HON.out w.heap.size w HBD.out HG.out ?_
     case hd => (show Value.slice (if cap = k then _ else _) _ _ = _); rw [if_neg HNE.out]
     case hs => rfl
     intro w5 hh hb
     have HH5 := Aside0.mk (HoldsX.splice (m := m) HC2.out HC3.out HKM.out hh)
     have HB5 := Aside0.mk hb
     clear hh hb
     rw [show goInt (List.replicate m (Value.int .i64 x)).length = Value.int .i64 (m : Int) by simp [goInt]]
     change K (Act.put _ (some 45) _) _
     refine hK.out _ _ HB5.out (fun hS0 => ?_)
     clear hK
     refine norm_ (a' := ?_) ?_ ?_
     rotate_left
     ·simp only [Act.put, List.setIfInBounds_toArray, List.set_cons_zero, List.set_cons_succ]
      rfl
     refine pure_ (i := 8) (N := (some 46)) (v := ?_) (a' := ?_) #[true, true, true, true, true, true, true, true, true, false] rfl rfl (by kernel_rfl) (fun _ _ _ h => h) (Or.inl ⟨by rfl, ?_⟩) ?_ ?_
     rotate_left
     ·intro w'
      go_simp
      with_reducible rfl
     rotate_left
     ·simp only [Act.put, List.setIfInBounds_toArray, List.set_cons_zero, List.set_cons_succ]
      rfl
     refine pure_ (i := 9) (N := (some 8)) (v := ?_) (a' := ?_) #[true, true, true, true, true, true, true, true, true, true] rfl rfl (by kernel_rfl) (fun _ _ _ h => h) (Or.inl ⟨by rfl, ?_⟩) ?_ ?_
     rotate_left
     ·intro w'
      go_simp
      with_reducible rfl
     rotate_left
     ·simp only [Act.put, List.setIfInBounds_toArray, List.set_cons_zero, List.set_cons_succ]
      rfl
     refine done_ (by kernel_rfl) ?_
     clear hS0
     have hw : IntKind.i64.wrap ((k : Int) + (m : Int)) = ((k + m : Nat) : Int) := by rw [IntWalk.i64_in _ (by omega)]; omega
     go_wp2
     rw [hw]
     exact ⟨⟨k + m, rfl, by omega, HM1.out.2, HH5, HB5⟩, by have h1 := HM1.out; simp [intOf]; omega⟩
    ·obtain rfl : k = n := by omega
     clear hlt
     go_wp2
     go_ret
     exact ⟨_, rfl, HH.out.reads HCAP.out (by have := HN.out; omega), HB.out⟩
end Go.Proofs.YtemhccjjcioodaaGreat.KRep
end
section
namespace Go.Proofs.YtemhccjjcioodaaGreat.KBehind
open Go.RowKit Go.Proofs.YtemhccjjcioodaaGreatW.PrintWords Go.Proofs.YtemhccjjcioodaaGreatW.PrintMore Go.Proofs.YtemhccjjcioodaaGreatW.PrintLast Go.Proofs.YtemhccjjcioodaaGreat.U Go.Proofs.YtemhccjjcioodaaGreat.PKashidaStretches Go.Proofs.YtemhccjjcioodaaGreat.KRank Go.Proofs.YtemhccjjcioodaaGreat.KPlace Go.Proofs.YtemhccjjcioodaaGreat.UJoin
def mEnd (ts : List Int) : Nat → Nat → Nat
 | 0, at_ => at_
 | d + 1, at_ => if at_ + 1 < ts.length ∧ rd ts ((at_ + 1 : Nat) : Int) = 1 then mEnd ts d (at_ + 1) else at_
theorem mEnd_lt (ts : List Int) : ∀ d at_, at_ < ts.length → mEnd ts d at_ < ts.length
 | 0, _, h => h
 | d + 1, at_, h => by
  unfold mEnd
  split
  ·rename_i h2; exact mEnd_lt ts d (at_ + 1) h2.1
  ·exact h
theorem behind_ev (xs ts : List Int) (hl : ts.length = xs.length) (hm : xs.length ≤ 1000000) : ∀ (d at_ : Nat), at_ < xs.length → xs.length ≤ at_ + d + 1 → Ev (fun k => kashida_text_behind.l0 k at_ xs ts) (mEnd ts d at_)
 | 0, at_, h, h2 => by
  refine Ev.step (fun k => by rw [kashida_text_behind.l0]) ?_
  rw [show wrap64 ((at_ : Int) + 1) = ((at_ + 1 : Nat) : Int) by rw [w64 (by omega) (by omega)]; omega]
  exact ev_neg (by omega) (ev_now _)
 | d + 1, at_, h, h2 => by
  refine Ev.step (fun k => by rw [kashida_text_behind.l0]) ?_
  rw [show wrap64 ((at_ : Int) + 1) = ((at_ + 1 : Nat) : Int) by rw [w64 (by omega) (by omega)]; omega]
  unfold mEnd
  by_cases h3 : at_ + 1 < ts.length
  ·refine ev_pos (by omega) (ev_pos (by omega) (ev_pos (by omega) ?_))
   by_cases h4 : rd ts ((at_ + 1 : Nat) : Int) = 1
   ·rw [if_pos ⟨h3, h4⟩]
    exact ev_pos h4 (behind_ev xs ts hl hm d (at_ + 1) (by omega) (by omega))
   ·rw [if_neg (fun h => h4 h.2)]
    exact ev_neg h4 (ev_now _)
  ·rw [if_neg (fun h => h3 h.1)]
   exact ev_neg (by omega) (ev_now _)
theorem behind_c {w : World} {A B : Option Addr} {c d : Nat} {xs ts : List Int} (hx : SL w (.slice A xs.length c) xs) (ht : SL w (.slice B ts.length d) ts) (hl : ts.length = xs.length) (hm : xs.length ≤ 1000000) (i : Nat) (hi : i < xs.length) :
 Calls Tryz.prog 57 #[.agg #[.slice A xs.length c, .slice B ts.length d], .int .i64 i] w fun e w' => e = .returned (.int .i64 (mEnd ts xs.length i : Nat)) ∧ Below w.heap.size w w' := by
 obtain ⟨A', c', e1, hc1, hC1⟩ := hx
 obtain ⟨B', d', e2, hc2, hC2⟩ := ht
 injection e1 with e1 e3 e4
 injection e2 with e5 e6 e7
 subst e1; subst e4; subst e5; subst e7
 obtain ⟨k, hk⟩ := CFin.ev_some (behind_ev xs ts hl hm xs.length i hi (by omega))
 exact kashida_text_behind.calls k A c xs B d ts i _ w hC1 hc1 hC2 hc2 hk
end Go.Proofs.YtemhccjjcioodaaGreat.KBehind
end
section
namespace Go.Proofs.YtemhccjjcioodaaGreat.UStretch
open Go.Proofs.YtemhccjjcioodaaGreat.KBehind
def share (n m i : Nat) : Nat := n / m + (if i < n % m then 1 else 0)
def shares (n m : Nat) : Nat → Nat
 | 0 => 0
 | i + 1 => shares n m i + share n m i
theorem shares_is (n m : Nat) : ∀ i, shares n m i = i * (n / m) + min i (n % m)
 | 0 => by simp [shares]
 | i + 1 => by
  rw [shares, shares_is n m i, share, Nat.add_mul, Nat.one_mul]
  split <;> omega
theorem shares_all (n m : Nat) (hm : 0 < m) : shares n m m = n := by
 rw [shares_is]
 have h1 := Nat.mod_lt n hm
 have h2 := Nat.div_add_mod n m
 omega
theorem shares_le (n m : Nat) (hm : 0 < m) (i : Nat) (hi : i ≤ m) : shares n m i ≤ n := by
 rw [shares_is]
 have h1 := Nat.mod_lt n hm
 have h2 := Nat.div_add_mod n m
 have h3 : i * (n / m) ≤ m * (n / m) := Nat.mul_le_mul_right _ hi
 omega
theorem sum_set : ∀ (l : List Nat) (b v : Nat), b < l.length → (l.set b (l.getD b 0 + v)).sum = l.sum + v
 | [], b, v, h => absurd h (Nat.not_lt_zero b)
 | x :: l, 0, v, h => by simp; omega
 | x :: l, b + 1, v, h => by
  have := sum_set l b v (by simpa using h)
  simp only [List.set_cons_succ, List.sum_cons, List.getD_cons_succ]
  omega
theorem getD_le_sum : ∀ (l : List Nat) (b : Nat), l.getD b 0 ≤ l.sum
 | [], b => by simp
 | x :: l, 0 => by simp
 | x :: l, b + 1 => by
  have := getD_le_sum l b
  simp only [List.getD_cons_succ, List.sum_cons]
  omega
def manyTo (ts : List Int) (N n : Nat) (ps : List Nat) : Nat → List Nat
 | 0 => List.replicate N 0
 | i + 1 => (manyTo ts N n ps i).set (mEnd ts N (ps.getD i 0)) ((manyTo ts N n ps i).getD (mEnd ts N (ps.getD i 0)) 0 + share n ps.length i)
theorem manyTo_len (ts : List Int) (N n : Nat) (ps : List Nat) : ∀ i, (manyTo ts N n ps i).length = N
 | 0 => by simp [manyTo]
 | i + 1 => by rw [manyTo, List.length_set, manyTo_len ts N n ps i]
theorem manyTo_sum (ts : List Int) (N n : Nat) (ps : List Nat) (hts : ts.length = N) (hp : ∀ p ∈ ps, p < N) : ∀ i, i ≤ ps.length → (manyTo ts N n ps i).sum = shares n ps.length i
 | 0, _ => by simp [manyTo, shares]
 | i + 1, h => by
  have hpi : ps.getD i 0 < N := by
   rw [List.getD_eq_getElem?_getD, List.getElem?_eq_getElem (show i < ps.length by omega)]
   exact hp _ (List.getElem_mem _)
  have hb := mEnd_lt ts N (ps.getD i 0) (by omega)
  rw [manyTo, shares, sum_set _ _ _ (by rw [manyTo_len]; omega), manyTo_sum ts N n ps hts hp i (by omega)]
def rowsOf (xs : List Int) (many : List Nat) : List (List Int) := (List.range xs.length).map fun i : Nat => xs.getD i 0 :: List.replicate (many.getD i 0) 1600
theorem rowsOf_len (xs : List Int) (many : List Nat) : (rowsOf xs many).length = xs.length := by simp [rowsOf]
theorem sum_map_add (f g : Nat → Nat) : ∀ n, ((List.range n).map fun i => f i + g i).sum = ((List.range n).map f).sum + ((List.range n).map g).sum
 | 0 => rfl
 | n + 1 => by
  rw [List.range_succ, List.map_append, List.map_append, List.map_append, List.sum_append, List.sum_append, List.sum_append, sum_map_add f g n]
  simp
  omega
theorem sum_getD : ∀ l : List Nat, ((List.range l.length).map fun i : Nat => l.getD i 0).sum = l.sum
 | [] => rfl
 | x :: l => by
  rw [List.length_cons, List.range_succ_eq_map, List.map_cons, List.map_map, List.sum_cons, List.sum_cons]
  have := sum_getD l
  simp only [Function.comp_def, List.getD_cons_succ, List.getD_cons_zero]
  rw [this]
theorem ones : ∀ n, ((List.range n).map fun _ : Nat => 1).sum = n
 | 0 => rfl
 | n + 1 => by rw [List.range_succ, List.map_append, List.sum_append, ones n]; rfl
theorem rowsOf_flat (xs : List Int) (many : List Nat) (h : many.length = xs.length) : (rowsOf xs many).flatten.length = xs.length + many.sum := by
 unfold rowsOf
 rw [List.length_flatten, List.map_map]
 have e : (List.length ∘ fun i : Nat => xs.getD i 0 :: List.replicate (many.getD i 0) (1600 : Int)) = fun i => 1 + many.getD i 0 := by
  funext i
  simp
  omega
 rw [e, sum_map_add (fun _ => 1) (fun i => many.getD i 0), ← h, sum_getD many, ones]
end Go.Proofs.YtemhccjjcioodaaGreat.UStretch
end
section
namespace Go.Proofs.YtemhccjjcioodaaGreat.Cel
open Go.RowKit Go.Proofs.YtemhccjjcioodaaGreatW.PrintWords Go.Proofs.YtemhccjjcioodaaGreatW.PrintMore Go.Proofs.YtemhccjjcioodaaGreatW.PrintLast Go.Proofs.YtemhccjjcioodaaGreat.U Go.Proofs.YtemhccjjcioodaaGreat.PClusterFinest
structure Eff (w W : World) (S : Nat → Prop) : Prop where
 os : W.os = w.os
 tape : W.tape = w.tape
 output : W.output = w.output
 kept : Kept w W S
variable {w W W2 : World} {S S2 D D2 : Nat → Prop}
theorem Eff.refl (w : World) (S : Nat → Prop) : Eff w w S := ⟨rfl, rfl, rfl, Kept.refl w S⟩
theorem Eff.of_below (h : Below w.heap.size w W) (S : Nat → Prop) : Eff w W S := ⟨h.os, h.tape, h.output, Kept.of_below h S⟩
theorem Eff.then_ (h : Eff w W S) (k : Eff W W2 S2) (hs : ∀ k, S2 k → S k ∨ w.heap.size ≤ k) : Eff w W2 S := ⟨k.os.trans h.os, k.tape.trans h.tape, k.output.trans h.output, h.kept.then_ k.kept hs⟩
theorem Eff.below_ (h : Eff w W S) (k : Below W.heap.size W W2) : Eff w W2 S := h.then_ (Eff.of_below k (fun _ => False)) (fun _ h => h.elim)
theorem Eff.size (h : Eff w W S) : w.heap.size ≤ W.heap.size := h.kept.1
theorem Eff.below {B : Nat} (h : Eff w W S) (hB : B ≤ w.heap.size) (hS : ∀ k, S k → B ≤ k) : Below B w W := ⟨h.os, h.tape, h.output, h.kept.1, fun k hk => h.kept.2 k (by omega) (fun hs => by have := hS k hs; omega)⟩
theorem Eff.of_grown {row : Option Nat} (hg : w.grownBy W row) (hr : ∀ k, row = some k → S k) : Eff w W S := ⟨hg.os, hg.tape, hg.output, Kept.of_grown hg (Kept.refl w S) (fun k hk => .inl (hr k hk))⟩
theorem Eff.drew (h : Eff w W S) : Eff w W.drew S := h.below_ (below_drew (Below.refl _ _))
theorem Eff.drewN (h : Eff w W S) (n : Nat) : Eff w (W.drewN n) S := h.below_ (pw_below_drewN (Below.refl _ _) n)
theorem add_block (a : Addr) (n : Nat) : (a.add n).block = a.block := by
 unfold Addr.add
 first | rfl | (split <;> rfl)
def SLD (w : World) (D : Nat → Prop) (v : Value) (x : List Int) : Prop := SL w v x ∧ ∀ ad n c, v = .slice (some ad) n c → 0 < n → D ad.block
theorem SL.kept {v : Value} {x : List Int} (h : SLD w D v x) (hk : Kept w W S) (hne : ∀ k, D k → ¬ S k) : SL W v x := by
 obtain ⟨⟨A, c, rfl, hc, h1, h2, h3⟩, hd⟩ := h
 refine ⟨A, c, rfl, hc, h1, h2, fun hn => ?_⟩
 obtain ⟨ad, rfl, hcell⟩ := h3 hn
 refine ⟨ad, rfl, fun j p hj => ?_⟩
 obtain ⟨cs, hl, hK, hcc⟩ := hcell j p hj
 exact ⟨cs, hl, hK, fun k u hu => cell_kept (hcc k u hu) hk (by rw [add_block]; exact hne _ (hd ad _ _ rfl hn))⟩
theorem SLD.kept {v : Value} {x : List Int} (h : SLD w D v x) (hk : Kept w W S) (hne : ∀ k, D k → ¬ S k) : SLD W D v x := ⟨SL.kept h hk hne, h.2⟩
theorem SLD.mono {v : Value} {x : List Int} (h : SLD w D v x) (hs : ∀ k, D k → D2 k) : SLD w D2 v x := ⟨h.1, fun ad n c e hn => hs _ (h.2 ad n c e hn)⟩
theorem SLD.bound {v : Value} {x : List Int} (h : SLD w D v x) : SLD w (fun k => D k ∧ k < w.heap.size) v x := by
 refine ⟨h.1, fun ad n c e hn => ⟨h.2 ad n c e hn, ?_⟩⟩
 obtain ⟨A, c', e', hc, h1, h2, h3⟩ := h.1
 subst e
 injection e' with e1 e2 e3
 obtain ⟨ad', e4, hcell⟩ := h3 (by omega)
 subst e1
 obtain rfl := Option.some.inj e4
 obtain ⟨cs, hl, hK, hcc⟩ := hcell 0 (x[0]'(by omega)) (List.getElem?_eq_getElem (by omega))
 have hk' : cs = [.int .i64 (x[0]'(by omega))] := hK
 have := World.block_lt_of_cell? _ _ (hcc 0 (.int .i64 (x[0]'(by omega))) (by rw [hk']; rfl))
 rwa [add_block] at this
theorem SLD.nil (w : World) (D : Nat → Prop) : SLD w D (.slice none 0 0) [] := ⟨SLk.nil w, fun ad n c e hn => by injection e with e1; cases e1⟩
theorem SLD.of_R {base : Nat} {v : Value} {x : List Int} (h : Kd.R (Kd.int .i64) 3 w base D v x) : SLD w D v x := by
 refine ⟨SLk.of_R h, fun ad n c e hn => ?_⟩
 subst e
 obtain ⟨hn', _, _⟩ := Kd.R_reads' h
 obtain ⟨g, cap, e, _⟩ := Kd.R_form h (by omega)
 injection e with e1 e2 e3
 injection e1 with e1
 subst e1
 exact h.1 g (by simp [Value.ownBlock])
theorem SLD.set_slice {v : Value} {x : List Int} (h : SLD w D v x) {g i : Nat} {hd : Hd} (hc : w.cell? ⟨g, i, none⟩ = some (encH hd)) (u : Value) : SLD (w.setCell ⟨g, i, none⟩ u) D v x := ⟨SL.set_slice h.1 hc u, h.2⟩
def RowAt (w : World) (D : Nat → Prop) (v : Value) (L : List (List Int)) : Prop :=
 ∃ hs : List Hd, Kd.R KH 22 w 0 D v hs ∧ hs.length = L.length ∧ ∀ (i : Nat) (x : List Int), L[i]? = some x → ∃ h : Hd, hs[i]? = some h ∧ SLD w D (encH h) x
theorem RowAt.kept {v : Value} {L : List (List Int)} (h : RowAt w D v L) (hk : Kept w W S) (hne : ∀ k, D k → ¬ S k) : RowAt W D v L := by
 obtain ⟨hs, h1, h2, h3⟩ := h
 exact ⟨hs, Kd.R_kept h1 hk hne, h2, fun i x hx => let ⟨hd, a, b⟩ := h3 i x hx; ⟨hd, a, b.kept hk hne⟩⟩
theorem RowAt.mono {v : Value} {L : List (List Int)} (h : RowAt w D v L) (hs : ∀ k, D k → D2 k) : RowAt w D2 v L := by
 obtain ⟨hl, h1, h2, h3⟩ := h
 exact ⟨hl, Kd.R_mono h1 hs, h2, fun i x hx => let ⟨hd, a, b⟩ := h3 i x hx; ⟨hd, a, b.mono hs⟩⟩
theorem RowAt.bound {v : Value} {L : List (List Int)} (h : RowAt w D v L) : RowAt w (fun k => D k ∧ k < w.heap.size) v L := by
 obtain ⟨hl, h1, h2, h3⟩ := h
 exact ⟨hl, Kd.R_mono (Kd.R_bound h1) (fun k hk => ⟨hk.1, hk.2.2.1⟩), h2, fun i x hx => let ⟨hd, a, b⟩ := h3 i x hx; ⟨hd, a, b.bound⟩⟩
theorem RowAt.slice {v : Value} {L : List (List Int)} (h : RowAt w D v L) : ∃ A c, v = .slice A L.length c := by
 obtain ⟨hs, h1, h2, h3⟩ := h
 obtain ⟨A, c, rfl⟩ := Kd.R_slice h1
 exact ⟨A, c, by rw [h2]⟩
theorem RowAt.form {v : Value} {L : List (List Int)} (h : RowAt w D v L) (hn : 0 < L.length) : ∃ g cap cells, v = .slice (some ⟨g, 0, none⟩) L.length cap ∧ D g ∧ g < w.heap.size ∧ w.heap[g]? = some (.cells cells 22 (0, 0)) := by
 obtain ⟨hs, h1, h2, h3⟩ := h
 obtain ⟨g, cap, e, _, hg, cells, hc⟩ := Kd.R_form h1 (by omega)
 refine ⟨g, cap, cells, by rw [e, h2], ?_, hg, hc⟩
 subst e
 exact h1.1 g (by simp [Value.ownBlock])
theorem RowAt.cell {g n cap : Nat} {L : List (List Int)} (h : RowAt w D (.slice (some ⟨g, 0, none⟩) n cap) L) (i : Nat) (hi : i < L.length) : ∃ hd : Hd, w.cell? ⟨g, i, none⟩ = some (encH hd) ∧ w.frozen? ⟨g, i, none⟩ = false ∧ SLD w D (encH hd) L[i] := by
 obtain ⟨hs, h1, h2, h3⟩ := h
 obtain ⟨hd, a, b⟩ := h3 i L[i] (List.getElem?_eq_getElem hi)
 have hn := (Kd.R_reads' h1).1
 have hc := Kd.R_celln ((none, 0, 0) : Hd) h1 (i : Int) (by omega) (by omega)
 rw [Int.toNat_natCast] at hc
 have e : rdOf ((none, 0, 0) : Hd) hs (i : Int) = hd := by
  unfold rdOf
  rw [Int.toNat_natCast, List.getD_eq_getElem?_getD, a]
  rfl
 rw [e] at hc
 exact ⟨hd, hc.1, hc.2, b⟩
theorem RowAt.put {g n cap : Nat} {L : List (List Int)} (h : RowAt w D (.slice (some ⟨g, 0, none⟩) n cap) L) (i : Nat) (hi : i < L.length) {v' : Value} {x : List Int} (hx : SLD w D v' x) :
 RowAt (w.setCell ⟨g, i, none⟩ v') D (.slice (some ⟨g, 0, none⟩) n cap) (L.set i x) := by
 obtain ⟨hd0, hc, _, _⟩ := h.cell i hi
 obtain ⟨hs, h1, h2, h3⟩ := h
 obtain ⟨hd, rfl⟩ := SL.header hx.1
 have hp := Kd.R_putg h1 (i : Int) hd
 rw [Int.toNat_natCast] at hp
 refine ⟨hs.set i hd, hp.1, by simp [h2], fun j y hy => ?_⟩
 by_cases hji : j = i
 ·subst hji
  rw [List.getElem?_set_self hi] at hy
  obtain rfl := Option.some.inj hy
  exact ⟨hd, List.getElem?_set_self (by omega), SLD.set_slice hx hc _⟩
 ·rw [List.getElem?_set_ne (Ne.symm hji)] at hy
  obtain ⟨hd', a, b⟩ := h3 j y hy
  exact ⟨hd', by rw [List.getElem?_set_ne (Ne.symm hji)]; exact a, SLD.set_slice b hc _⟩
theorem RowAt.nils {base n : Nat} {v : Value} (h : Kd.R KH 22 w base D v (List.replicate n ((none, 0, 0) : Hd))) : RowAt w D v (List.replicate n []) := by
 refine ⟨_, Kd.R_lower h (Nat.zero_le _), by simp, fun i x hx => ?_⟩
 rw [List.getElem?_replicate] at hx
 split at hx
 ·rename_i hi
  obtain rfl := Option.some.inj hx
  exact ⟨(none, 0, 0), by rw [List.getElem?_replicate, if_pos hi], SLD.nil w D⟩
 ·cases hx
theorem RowAt.reads {v : Value} {L : List (List Int)} (h : RowAt w D v L) (t : Nat) : SLk (Kd.slice t (Kd.int .i64)) w v L := by
 obtain ⟨hs, h1, h2, h3⟩ := h
 obtain ⟨A, c, rfl, hc, hC⟩ := Kd.R_reads h1
 rw [h2] at hC hc ⊢
 refine ⟨A, c, rfl, hc, rfl, hC.2.1, fun hn => ?_⟩
 obtain ⟨ad, rfl, hcell⟩ := hC.2.2 hn
 refine ⟨ad, rfl, fun j p hj => ?_⟩
 obtain ⟨hd, a, b⟩ := h3 j p hj
 obtain ⟨cs, _, hk, hcc⟩ := hcell j hd a
 obtain ⟨A', c', e', hl, hC'⟩ := b.1
 refine ⟨[encH hd], rfl, ⟨A', c', by rw [e'], hl, hC'⟩, fun k u hu => ?_⟩
 have hk' : cs = [encH hd] := hk
 subst hk'
 exact hcc k u hu
def CellsAt (T : Nat) (w : World) (D : Nat → Prop) (b : Nat) (L : List (List Int)) (J : List S33) : Prop :=
 ∃ (Dr Dt : Nat → Prop) (vr vt : Value), (∀ k, Dr k → D k ∧ k ≠ b) ∧ (∀ k, Dt k → D k ∧ k ≠ b ∧ ¬ Dr k) ∧ D b ∧ w.heap[b]? = some (.cells #[vr, vt] T (0, 0)) ∧ RowAt w Dr vr L ∧ Kd.R k33 34 w 0 Dt vt J
theorem CellsAt.kept {T b : Nat} {L : List (List Int)} {J : List S33} (h : CellsAt T w D b L J) (hk : Kept w W S) (hne : ∀ k, D k → ¬ S k) : CellsAt T W D b L J := by
 obtain ⟨Dr, Dt, vr, vt, hr, ht, h0, h1, h2, h3⟩ := h
 exact ⟨Dr, Dt, vr, vt, hr, ht, h0, blk_kept h1 hk (hne b h0), h2.kept hk (fun k hk => hne k (hr k hk).1), Kd.R_kept h3 hk (fun k hk => hne k (ht k hk).1)⟩
theorem CellsAt.below {T b : Nat} {L : List (List Int)} {J : List S33} (h : CellsAt T w D b L J) (hb : Below w.heap.size w W) : CellsAt T W D b L J := h.kept (Kept.of_below hb (fun _ => False)) (fun _ _ h => h)
theorem CellsAt.mono {T b : Nat} {L : List (List Int)} {J : List S33} (h : CellsAt T w D b L J) (hs : ∀ k, D k → D2 k) : CellsAt T w D2 b L J := by
 obtain ⟨Dr, Dt, vr, vt, hr, ht, h0, h1, h2, h3⟩ := h
 exact ⟨Dr, Dt, vr, vt, fun k hk => ⟨hs k (hr k hk).1, (hr k hk).2⟩, fun k hk => ⟨hs k (ht k hk).1, (ht k hk).2⟩, hs _ h0, h1, h2, h3⟩
structure Parts (T : Nat) (w : World) (D Dr Dt : Nat → Prop) (b : Nat) (A : Option Addr) (c : Nat) (vt : Value) (L : List (List Int)) (J : List S33) : Prop where
 hr : ∀ k, Dr k → D k ∧ k ≠ b ∧ k < w.heap.size
 ht : ∀ k, Dt k → D k ∧ k ≠ b ∧ ¬ Dr k ∧ k < w.heap.size
 h0 : D b
 h1 : w.heap[b]? = some (.cells #[.slice A L.length c, vt] T (0, 0))
 h2 : RowAt w Dr (.slice A L.length c) L
 h3 : Kd.R k33 34 w 0 Dt vt J
theorem CellsAt.open_ {T b : Nat} {L : List (List Int)} {J : List S33} (h : CellsAt T w D b L J) : ∃ Dr Dt A c vt, Parts T w D Dr Dt b A c vt L J := by
 obtain ⟨Dr, Dt, vr, vt, hr, ht, h0, h1, h2, h3⟩ := h
 obtain ⟨A, c, rfl⟩ := h2.slice
 exact ⟨fun k => Dr k ∧ k < w.heap.size, fun k => Dt k ∧ k < w.heap.size, A, c, vt, fun k hk => ⟨(hr k hk.1).1, (hr k hk.1).2, hk.2⟩, fun k hk => ⟨(ht k hk.1).1, (ht k hk.1).2.1, fun hr' => (ht k hk.1).2.2 hr'.1, hk.2⟩, h0, h1, h2.bound, Kd.R_mono (Kd.R_bound h3) (fun k hk => ⟨hk.1, hk.2.2.1⟩)⟩
theorem Parts.below {T b c : Nat} {Dr Dt : Nat → Prop} {A : Option Addr} {vt : Value} {L : List (List Int)} {J : List S33} (h : Parts T w D Dr Dt b A c vt L J) (hb : Below w.heap.size w W) : Parts T W D Dr Dt b A c vt L J :=
 ⟨fun k hk => ⟨(h.hr k hk).1, (h.hr k hk).2.1, Nat.lt_of_lt_of_le (h.hr k hk).2.2 hb.size⟩, fun k hk => ⟨(h.ht k hk).1, (h.ht k hk).2.1, (h.ht k hk).2.2.1, Nat.lt_of_lt_of_le (h.ht k hk).2.2.2 hb.size⟩, h.h0, (hb.block _ (blk_lt h.h1)).trans h.h1, h.h2.kept (S := fun _ => False) (Kept.of_below hb _) (fun _ _ h => h), Kd.R_below h.h3 hb⟩
theorem Parts.put {T b g cap : Nat} {Dr Dt : Nat → Prop} {vt : Value} {L : List (List Int)} {J : List S33} (h : Parts T w D Dr Dt b (some ⟨g, 0, none⟩) cap vt L J) (hw : Below w.heap.size w W) (i : Nat) (hi : i < L.length) {v' : Value} {x : List Int} (hx : SLD W (fun k => w.heap.size ≤ k) v' x) :
 CellsAt T (W.setCell ⟨g, i, none⟩ v') (fun q => D q ∨ w.heap.size ≤ q) b (L.set i x) J ∧ D g ∧ Eff w (W.setCell ⟨g, i, none⟩ v') D := by
 obtain ⟨g', cap', cells, e, hg, hlt, hblk⟩ := h.h2.form (by omega)
 injection e with e1 e2 e3
 injection e1 with e1
 injection e1 with e1 e4 e5
 subst e1
 have h' := h.below hw
 have hgr := h.hr g hg
 have hb0 : b < w.heap.size := blk_lt h.h1
 refine ⟨⟨fun k => Dr k ∨ w.heap.size ≤ k, Dt, _, vt, fun k hk => ?_, fun k hk => ?_, .inl h.h0, ?_, (h'.h2.mono (fun k hk => .inl hk)).put i hi (hx.mono (fun k hk => .inr hk)), ?_⟩, hgr.1, ?_⟩
 ·rcases hk with hk | hk
  ·exact ⟨.inl (h.hr k hk).1, (h.hr k hk).2.1⟩
  ·exact ⟨.inr hk, by omega⟩
 ·have := h.ht k hk
  exact ⟨.inl this.1, this.2.1, fun hc => hc.elim this.2.2.1 (fun hc => by omega)⟩
 ·exact ((grown_set W g i v').block b (blk_lt h'.h1) (fun e => hgr.2.1 (Option.some.inj e).symm)).trans h'.h1
 ·exact Kd.R_grown h'.h3 (grown_set W g i v') (fun k hk e => by obtain rfl := Option.some.inj e; exact (h.ht k hk).2.2.1 hg)
 ·exact (Eff.of_below hw D).then_ (Eff.of_grown (S := fun q => q = g) (grown_set W g i v') (fun q e => (Option.some.inj e).symm)) (fun q e => by rw [e]; exact .inl hgr.1)
end Go.Proofs.YtemhccjjcioodaaGreat.Cel
end
section
namespace Go.Proofs.YtemhccjjcioodaaGreat.Cel
open Go.RowKit Go.Proofs.YtemhccjjcioodaaGreatW.PrintWords Go.Proofs.YtemhccjjcioodaaGreatW.PrintMore Go.Proofs.YtemhccjjcioodaaGreatW.PrintLast Go.Proofs.YtemhccjjcioodaaGreat.U Go.Proofs.YtemhccjjcioodaaGreat.PClusterFinest
open Go.Shelf
shelf_lay Lays2.n15 Nm2 15 at Tryz as lc15
abbrev V (xs : List Int) : List Value := xs.map (Value.int .i64)
theorem spot_none {w : World} {a : Addr} {v : Value} (h : w.cell? a = some v) : a.spot = none := by
 unfold World.cell? at h
 split at h
 ·by_cases hs : a.spot.isSome
  ·rw [if_pos hs] at h; cases h
  ·simpa using hs
 ·cases h
theorem SL.cells {w : World} {A : Option Addr} {c : Nat} {xs : List Int} (h : SL w (.slice A xs.length c) xs) (h0 : 0 < xs.length) : ∃ b off, A = some ⟨b, off, none⟩ ∧ ∀ j, j < xs.length → w.cell? ⟨b, off + j, none⟩ = some (.int .i64 (xs.getD j 0)) := by
 obtain ⟨A', c', e, hl, hC⟩ := h
 injection e with e1 e2 e3
 subst e1
 obtain ⟨ad, rfl, h1⟩ := Kd.at_int hC 0 (by omega) (by omega)
 have hs := spot_none h1
 obtain ⟨b, off, sp⟩ := ad
 simp [Addr.add] at hs
 subst hs
 refine ⟨b, off, rfl, fun j hj => ?_⟩
 obtain ⟨ad, e, h2⟩ := Kd.at_int hC (j : Int) (by omega) (by omega)
 cases e
 rw [Int.toNat_natCast, rd_nat, Addr.add_lit] at h2
 exact h2
theorem reps_V (w : World) (base : Nat) (ok : Nat → Prop) (xs : List Int) : Reps ((Kd.int .i64).M w base ok) 1 xs (V xs) := by
 refine ⟨by simp, fun j p hj => ?_⟩
 show (V xs |>.drop (j * 1)).take 1 = [Value.int .i64 p]
 obtain ⟨hl, rfl⟩ := List.getElem?_eq_some_iff.1 hj
 rw [Nat.mul_one, List.drop_eq_getElem_cons (by simpa using hl)]
 simp
theorem clone_c {v : Value} {xs : List Int} {w : World} (h : SL w v xs) (hm : xs.length ≤ 1000000) : Calls Tryz.prog 45 #[v] w fun e w' => ∃ u, e = .returned u ∧ Kd.R (Kd.int .i64) 3 w' w.heap.size (fun _ => True) u xs ∧ Below w.heap.size w w' := by
 obtain ⟨A, c, rfl, hc, hC⟩ := h
 by_cases h0 : 0 < xs.length
 ·obtain ⟨b, off, rfl, hcell⟩ := SL.cells ⟨A, c, rfl, hc, hC⟩ h0
  refine (Any.slices_Clone_int lc15 b off xs.length c xs w (Nat.le_refl _) (by omega) hcell).mono ?_
  rintro e w' ⟨u, rfl, hown, _, hb⟩
  rw [List.take_length] at hown
  exact ⟨u, rfl, ⟨fun _ _ => trivial, V xs, hown, reps_V _ _ _ _⟩, hb⟩
 ·have e : xs = [] := List.eq_nil_of_length_eq_zero (by omega)
  subst e
  cases A with
  | none => exact (Any.slices_Clone_int_nil lc15 0 c w).mono fun e w' ⟨he, hw⟩ => ⟨_, he, Kd.R_nil _ _ _ _ _, by rw [hw]; exact Below.refl _ _⟩
  | some a =>
   refine (Any.slices_Clone_int_zero lc15 a c w).mono ?_
   rintro e w' ⟨u, rfl, hown, _, hb⟩
   exact ⟨u, rfl, ⟨fun _ _ => trivial, [], hown, Reps.none _ _⟩, hb⟩
set_option maxRecDepth 100000 in
set_option maxHeartbeats 4000000 in
theorem grow_c (n : Nat) (hn : n ≤ 10000000) {w : World} : Calls Tryz.prog 129 #[.slice none 0 0, .int .i64 n] w fun e w' => ∃ u, e = .returned u ∧ Kd.R (Kd.int .i64) 3 w' w.heap.size (fun _ => True) u [] ∧ Below w.heap.size w w' := by
 by_cases h0 : n = 0
 ·subst h0
  go_enter Tryz.func129, Tryz.ntmps129
  go_wp2
  go_ret
  exact ⟨_, rfl, Kd.R_nil _ _ _ _ _, Below.refl _ _⟩
 ·have hI : (0 : Int) < (n : Int) := by omega
  have hI2 : ¬ (n : Int) < 0 := by omega
  have e1 : IntKind.i64.wrap ((n : Int) - IntKind.i64.wrap (0 - 0)) = (n : Int) := by
   rw [show IntKind.i64.wrap ((0 : Int) - 0) = 0 by decide, IntWalk.i64_in _ (by omega)]; omega
  have HN : Aside0 (n ≤ 10000000) := ⟨hn⟩
  go_enter Tryz.func129, Tryz.ntmps129
  go_wp2_with ((with_reducible refine gate_builtin (b := .append) (xs := #[.tmp 20, .tmp 21]) rfl ?_); at_builtin; refine Kd.R_append_zeros (Kd.int .i64) (w0 := w) w.heap.size rfl (.tmp 20) (.tmp 21) 22 3 3 (.int .i64 0) 8 rfl Tryz.underlying22 Tryz.underlying3 info3 rfl (by decide) (by omega) (.slice none 0 0) [] 0 (kx := .i64) (n : Int) (fun _ => True) (by first | (go_simp; done) | (go_simp; rfl)) (by first | (go_simp; done) | (go_simp; rfl)) rfl (fun _ _ => trivial) (Kd.R_nil _ _ _ _ _) (by omega) (Below.refl _ _) (Nat.le_refl _) (by have := HN.out; simp only [List.length_nil, Int.toNat_natCast]; omega) ?_; intro v1 w1 hv hb hg hat; obtain ⟨A1, c1, e1⟩ := Kd.R_slice hv; subst e1; have HV := Aside0.mk (Kd.R_take hv (Nat.zero_le _)); have HB := Aside0.mk hb; have HC1 := Aside0.mk (Kd.R_reads' hv).2.1; have hc1 : 0 ≤ (c1 : Int) := (by omega); clear hv hb hg hat)
  go_ret
  exact ⟨_, rfl, HV.out, HB.out⟩
theorem flat_take {L : List (List Int)} {k : Nat} (h : k < L.length) : (L.take (k + 1)).flatten = (L.take k).flatten ++ L[k] := by
 rw [List.take_succ_eq_append_getElem h, List.flatten_append]; simp
theorem flat_le (L : List (List Int)) (k : Nat) : (L.take k).flatten.length ≤ L.flatten.length := by
 conv => rhs; rw [← List.take_append_drop k L, List.flatten_append, List.length_append]
 omega
set_option maxRecDepth 100000 in
set_option maxHeartbeats 4000000 in
theorem concat_c {w : World} {v : Value} {L : List (List Int)} (h : SLk (Kd.slice 3 (Kd.int .i64)) w v L) (hl : L.length ≤ 100000000) (hf : L.flatten.length ≤ 10000000) :
 Calls Tryz.prog 73 #[v] w fun e w' => ∃ u, e = .returned u ∧ Kd.R (Kd.int .i64) 3 w' w.heap.size (fun _ => True) u L.flatten ∧ Below w.heap.size w w' := by
 obtain ⟨A, c, rfl, hc, hC⟩ := h
 have HC := Aside0.mk hC
 have HL := Aside0.mk hl
 have HF := Aside0.mk hf
 clear hc hC hl hf
 go_enter Tryz.func73, Tryz.ntmps73
 go_wp2
 go_loopw [3, 11] (fun v3 v wr => ∃ k : Nat, v = .int .i64 (k : Int) ∧ k ≤ L.length ∧ v3 = .int .i64 ((L.take k).flatten.length : Nat) ∧ Aside0 (Below w.heap.size w wr)) (fun _ v _ => L.length - (intOf v).toNat)
 case atStart => exact ⟨0, rfl, Nat.zero_le _, rfl, ⟨Below.refl _ _⟩⟩
 case round =>
  obtain ⟨k, rfl, hk, rfl, HB⟩ := hrel
  by_cases hlt : k < L.length
  ·obtain ⟨x, hx⟩ : ∃ x, x = L[k] := ⟨_, rfl⟩
   obtain ⟨ad, cs, ead, _, hK, hcell⟩ := Kd.C_get (Kd.C_below HC.out HB.out) [] (k : Int) (by omega) (by omega)
   rw [Int.toNat_natCast, show L.getD k [] = x by rw [hx, List.getD_eq_getElem?_getD, List.getElem?_eq_getElem hlt]; rfl] at hK
   obtain ⟨A', c', rfl, hc', hC'⟩ := hK
   have c0 := hcell 0 _ rfl
   rw [Int.toNat_natCast, show (Kd.slice 3 (Kd.int .i64)).sz = 1 from rfl, Nat.add_zero, Nat.mul_one] at c0
   have HNX : Aside0 ((L.take (k + 1)).flatten.length = (L.take k).flatten.length + x.length) := ⟨by rw [flat_take hlt, List.length_append, hx]⟩
   have HLE : Aside0 ((L.take (k + 1)).flatten.length ≤ 10000000) := ⟨Nat.le_trans (flat_le L (k + 1)) HF.out⟩
   obtain ⟨s, hs⟩ : ∃ s, s = (L.take k).flatten.length := ⟨_, rfl⟩
   rw [← hs] at HNX ⊢
   have hsl : s + x.length ≤ 10000000 := by rw [← HNX.out]; exact HLE.out
   have e1 : IntKind.i64.wrap ((s : Int) + (x.length : Int)) = ((s + x.length : Nat) : Int) := by rw [IntWalk.i64_in _ (by omega)]; omega
   have hneg : ¬ ((s + x.length : Nat) : Int) < 0 := by omega
   have hkI : (k : Int) < (L.length : Int) := by omega
   have hk8 : (k : Int) ≤ 100000000 := by have := HL.out; omega
   subst ead
   clear hx hcell hC' hc' hs
   go_wp2
   exact ⟨⟨k + 1, by go_num, by omega, by rw [HNX.out, show ((s + x.length : Nat) : Int) = (s : Int) + (x.length : Int) by omega], HB⟩, by simp [intOf]; omega⟩
  ·obtain rfl : k = L.length := by omega
   rw [List.take_length]
   have HFN : Aside0 (L.flatten.length ≤ 10000000) := HF
   obtain ⟨s, hs⟩ : ∃ s, s = L.flatten.length := ⟨_, rfl⟩
   rw [← hs] at HFN ⊢
   clear hlt hs
   go_wp2_with (go_at_call 129; refine (grow_c s HFN.out).mono ?_; rintro e w1 ⟨u1, rfl, hR, hb1⟩; have HR1 := Aside0.mk (Kd.R_lower hR HB.out.size); have HB1 : Aside0 (Below w.heap.size w w1) := ⟨below_step HB.out hb1⟩; clear hR hb1)
   go_loopw [6, 27] (fun v6 v wr => ∃ k : Nat, v = .int .i64 (k : Int) ∧ k ≤ L.length ∧ Aside0 (Kd.R (Kd.int .i64) 3 wr w.heap.size (fun _ => True) v6 (L.take k).flatten) ∧ Aside0 (Below w.heap.size w wr)) (fun _ v _ => L.length - (intOf v).toNat)
   case atStart => exact ⟨0, rfl, Nat.zero_le _, HR1, HB1⟩
   case round =>
    clear HR1 HB1 HB
    obtain ⟨k, rfl, hk, HR, HB⟩ := hrel
    by_cases hlt : k < L.length
    ·obtain ⟨x, hx⟩ : ∃ x, x = L[k] := ⟨_, rfl⟩
     obtain ⟨ad, cs, ead, _, hK, hcell⟩ := Kd.C_get (Kd.C_below HC.out HB.out) [] (k : Int) (by omega) (by omega)
     rw [Int.toNat_natCast, show L.getD k [] = x by rw [hx, List.getD_eq_getElem?_getD, List.getElem?_eq_getElem hlt]; rfl] at hK
     obtain ⟨A', c', rfl, hc', hC'⟩ := hK
     have c0 := hcell 0 _ rfl
     rw [Int.toNat_natCast, show (Kd.slice 3 (Kd.int .i64)).sz = 1 from rfl, Nat.add_zero, Nat.mul_one] at c0
     have HNX : Aside0 ((L.take (k + 1)).flatten = (L.take k).flatten ++ x) := ⟨by rw [flat_take hlt, hx]⟩
     have HLE : Aside0 ((L.take (k + 1)).flatten.length ≤ 10000000) := ⟨Nat.le_trans (flat_le L (k + 1)) HF.out⟩
     rw [HNX.out, List.length_append] at HLE
     obtain ⟨o, ho⟩ : ∃ o, o = (L.take k).flatten := ⟨_, rfl⟩
     rw [← ho] at HNX HR HLE
     obtain ⟨A6, c6, e6⟩ := Kd.R_slice HR.out
     subst e6
     have hkI : (k : Int) < (L.length : Int) := by omega
     have hk8 : (k : Int) ≤ 100000000 := by have := HL.out; omega
     have HCX := Aside0.mk hC'
     subst ead
     clear hx hcell hC' hc' ho
     go_wp2_with ((with_reducible refine gate_builtin (b := .append) (xs := #[.tmp 31, .tmp 32]) rfl ?_); at_builtin; refine Kd.R_append_rows (Kd.int .i64) (w0 := w) w.heap.size rfl (.tmp 31) (.tmp 32) 22 3 (.int .i64 0) 8 rfl Tryz.underlying22 info3 rfl (by decide) (by omega) _ o x A' x.length c' (fun _ => True) (fun _ => False) (by first | (go_simp; done) | (go_simp; rfl)) (by first | (go_simp; done) | (go_simp; rfl)) HR.out HCX.out (fun x cs h => h) (fun _ h => h.elim) (fun _ _ => trivial) HB.out HB.out.size (by have := HLE.out; omega) ?_; intro v4 w4 hv hb hg hat; have HR4 := Aside0.mk hv; have HB4 := Aside0.mk hb; clear hv hb hg hat)
     exact ⟨⟨k + 1, by go_num, by omega, ⟨by rw [HNX.out]; exact HR4.out⟩, HB4⟩, by simp [intOf]; omega⟩
    ·obtain rfl : k = L.length := by omega
     rw [List.take_length] at HR
     clear hlt
     go_wp2
     go_ret
     exact ⟨_, rfl, HR.out, HB.out⟩
end Go.Proofs.YtemhccjjcioodaaGreat.Cel
end
section
namespace Go.Proofs.YtemhccjjcioodaaGreat.Cel
open Go.RowKit Go.Proofs.YtemhccjjcioodaaGreatW.PrintWords Go.Proofs.YtemhccjjcioodaaGreatW.PrintMore Go.Proofs.YtemhccjjcioodaaGreatW.PrintLast Go.Proofs.YtemhccjjcioodaaGreat.U Go.Proofs.YtemhccjjcioodaaGreat.PClusterFinest
theorem info31 : (Tryz.prog.info? 22).map (fun i => (i.zero, i.size, i.bytes)) = some (some (.slice none 0 0), 1, 24) := by kernel_rfl
abbrev ptr (b : Nat) : Value := .pointer (some ⟨b, 0, none⟩)
set_option maxRecDepth 100000 in
set_option maxHeartbeats 4000000 in
theorem has_c (A : Option Addr) (n c : Nat) (at_ : Int) {w : World} : Calls Tryz.prog 78 #[.slice A n c, .int .i64 at_] w fun e w' => e = .returned (.bool (decide (0 ≤ at_ ∧ at_ < n))) ∧ Below w.heap.size w w' := by
 by_cases h0 : 0 ≤ at_
 ·by_cases h1 : at_ < (n : Int)
  ·have e : decide (0 ≤ at_ ∧ at_ < (n : Int)) = true := decide_eq_true ⟨h0, h1⟩
   rw [e]
   go_enter Tryz.func78, Tryz.ntmps78
   go_wp2
   go_ret
   exact ⟨rfl, Below.refl _ _⟩
  ·have e : decide (0 ≤ at_ ∧ at_ < (n : Int)) = false := decide_eq_false (by omega)
   rw [e]
   go_enter Tryz.func78, Tryz.ntmps78
   go_wp2
   go_ret
   exact ⟨rfl, Below.refl _ _⟩
 ·have e : decide (0 ≤ at_ ∧ at_ < (n : Int)) = false := decide_eq_false (by omega)
  rw [e]
  go_enter Tryz.func78, Tryz.ntmps78
  go_wp2
  go_ret
  exact ⟨rfl, Below.refl _ _⟩
set_option maxRecDepth 100000 in
set_option maxHeartbeats 4000000 in
theorem new_c (n : Nat) (h : n ≤ 16777216) {w : World} : Calls Tryz.prog 58 #[.int .i64 n] w fun e w' => ∃ b, e = .returned (.tuple #[ptr b, .int .i64 0]) ∧ CellsAt 100 w' (fun k => w.heap.size ≤ k) b (List.replicate n []) [] ∧ Below w.heap.size w w' := by
 have h0 : ¬ (n : Int) < 0 := by omega
 have h1 : ¬ (n : Int) > 16777216 := by omega
 have HN : Aside0 (n ≤ 16777216) := ⟨h⟩
 clear h
 go_enter Tryz.func58, Tryz.ntmps58
 go_wp2_with (first | ((with_reducible refine gate_dst (N := 11) rfl ?_); refine Kd.R_make KH (w0 := w) w.heap.size 22 rfl rfl 97 (.tmp 10) (.tmp 10) rfl (n : Int) (by first | (go_simp; done) | (go_simp; rfl)) (by first | (go_simp; done) | (go_simp; rfl)) Tryz.underlying97 (.slice none 0 0) 24 info31 rfl (by decide) (by omega) ((none, 0, 0) : Hd) (ok := fun k => w.heap.size ≤ k) (okp := fun _ => False) rfl (fun _ h => h.elim) (Nat.le_refl _) (by omega) (by have := HN.out; simp only [Int.toNat_natCast]; omega) (Below.refl _ _) (Nat.le_refl _) ?_; intro v8 w1 hv hb hg hat; rw [Int.toNat_natCast] at hv; obtain ⟨A1, c1, e8⟩ := Kd.R_slice hv; rw [List.length_replicate] at e8; subst e8; have HR1 := Aside0.mk (RowAt.bound (RowAt.nils hv)); have HB1 := Aside0.mk hb; clear hv hb hg hat) | ((with_reducible refine gate_dst (N := 13) rfl ?_); refine box_event ?hg (N := 13) ?hd (cs := #[.slice A1 n c1, .slice none 0 0]) (t := 100) ?hr ?_; (case hd => rfl); (case hg => rfl); (case hr => first | (go_simp; done) | (go_simp; rfl)); intro gb hg w6 hbox hb; have HX := Aside0.mk hbox; have HG : Aside0 (w.heap.size ≤ gb) := ⟨by rw [hg]; exact HB1.out.size⟩; have HR6 : Aside0 (RowAt w6 (fun k => w.heap.size ≤ k ∧ k < gb) _ _) := ⟨by rw [hg]; exact (HR1.out.kept (S := fun _ => False) (Kept.of_below hb _) (fun _ _ h => h))⟩; have HR7 := Aside0.mk (HR1.out.kept (S := fun _ => False) (Kept.of_below hb _) (fun _ _ h => h)); have HB6 : Aside0 (Below w.heap.size w w6) := ⟨below_step HB1.out hb⟩; clear hg hbox hb))
 refine bodyPost_ret (results_tmp2 rfl _ _ _) rfl ?_
 exact ⟨gb, rfl, ⟨fun k => w.heap.size ≤ k ∧ k < gb, fun _ => False, _, _, fun k hk => ⟨hk.1, by omega⟩, fun _ h => h.elim, HG.out, HX.out, HR6.out, Kd.R_nil _ _ _ _ _⟩, HB6.out⟩
set_option maxRecDepth 100000 in
set_option maxHeartbeats 4000000 in
theorem set_c {w : World} {D : Nat → Prop} {b : Nat} {L : List (List Int)} {J : List S33} (h : CellsAt 100 w D b L J) (k : Nat) (hk : k < L.length) {v : Value} {x : List Int} (hx : SL w v x) (hm : x.length ≤ 1000000) :
 Calls Tryz.prog 59 #[ptr b, .int .i64 k, v] w fun e w' => e = .returned (.int .i64 0) ∧ CellsAt 100 w' (fun q => D q ∨ w.heap.size ≤ q) b (L.set k x) J ∧ Eff w w' D := by
 obtain ⟨Dr, Dt, A, c, vt, hp⟩ := h.open_
 obtain ⟨g, cap, cells, e, hg, hlt, hblk⟩ := hp.h2.form (by omega)
 injection e with e1 e2 e3
 subst e1
 subst e3
 have c0 := (blk_cell hp.h1 0).trans rfl
 have HD : Aside0 (decide (0 ≤ (k : Int) ∧ (k : Int) < (L.length : Int)) = true) := ⟨decide_eq_true (by omega)⟩
 have HP := Aside0.mk hp
 have HX := Aside0.mk hx
 have HM := Aside0.mk hm
 have HK := Aside0.mk hk
 have hkI : (k : Int) < (L.length : Int) := by omega
 have hk0 : 0 ≤ (k : Int) := by omega
 have etk : (k : Int).toNat = k := Int.toNat_natCast _
 clear h hp hx hm hg hblk hk hlt
 go_enter Tryz.func59, Tryz.ntmps59
 go_upto_region 3 with (go_at_call 78; refine (has_c _ L.length c k).mono ?_; rintro e w1 ⟨rfl, hb⟩; rw [HD.out]; have HB := Aside0.mk hb; have HX1 := Aside0.mk (SLk.below HX.out hb); have HP1 := Aside0.mk (HP.out.below hb); have c1 := (blk_cell HP1.out.h1 0).trans rfl; clear hb)
 have hB1 := HB.out
 have HBD : Aside0 (Below w1.heap.size w1 w1.drew) := ⟨below_drew (Below.refl _ _)⟩
 refine start_ (n := 9) (S := (fun W => Below w1.heap.size w1 W)) (ds := [8]) #[false, false, false, false, false, false, false, false, false] (by kernel_rfl) (by kernel_rfl) (by rfl) HBD.out (fun hS0 => ?_)
 refine pure_ (i := 0) (N := (some 18)) (v := ?_) (a' := ?_) #[true, false, false, false, false, false, false, false, false] rfl rfl (by kernel_rfl) (fun _ _ _ h => h) (Or.inl ⟨by rfl, ?_⟩) ?_ ?_
 rotate_left
 ·intro w'
  go_simp
  with_reducible rfl
 rotate_left
 ·simp only [Act.put, List.setIfInBounds_toArray, List.set_cons_zero, List.set_cons_succ]
  rfl
 refine pure_ (i := 1) (N := (some 19)) (v := ?_) (a' := ?_) #[true, true, false, false, false, false, false, false, false] rfl rfl (by kernel_rfl) (fun _ _ _ h => h) (Or.inl ⟨by rfl, ?_⟩) ?_ ?_
 rotate_left
 ·intro w'
  go_simp
  with_reducible rfl
 rotate_left
 ·simp only [Act.put, List.setIfInBounds_toArray, List.set_cons_zero, List.set_cons_succ]
  rfl
 refine pure_ (i := 2) (N := (some 20)) (v := ?_) (a' := ?_) #[true, true, true, false, false, false, false, false, false] rfl rfl (by kernel_rfl) (fun _ _ _ h => h) (Or.inl ⟨by rfl, ?_⟩) ?_ ?_
 rotate_left
 ·intro w'
  go_simp
  with_reducible rfl
 rotate_left
 ·simp only [Act.put, List.setIfInBounds_toArray, List.set_cons_zero, List.set_cons_succ]
  rfl
 refine take_ (i := 3) (N := (some 21)) (v := ?_) (a' := ?_) #[true, true, true, true, false, false, false, false, false] rfl rfl (by kernel_rfl) (fun _ _ _ h => h) (Or.inl ⟨by rfl, ?_⟩) hS0 ?_ ?_
 rotate_left
 ·intro w' s0
  have hx0 := (s0.cell (World.block_lt_of_cell? _ _ c1)).trans c1
  go_simp
  with_reducible rfl
 rotate_left
 ·simp only [Act.put, List.setIfInBounds_toArray, List.set_cons_zero, List.set_cons_succ]
  rfl
 refine pure_ (i := 4) (N := (some 22)) (v := ?_) (a' := ?_) #[true, true, true, true, true, false, false, false, false] rfl rfl (by kernel_rfl) (fun _ _ _ h => h) (Or.inl ⟨by rfl, ?_⟩) ?_ ?_
 rotate_left
 ·intro w'
  go_simp
  with_reducible rfl
 rotate_left
 ·simp only [Act.put, List.setIfInBounds_toArray, List.set_cons_zero, List.set_cons_succ]
  rfl
 refine pure_ (i := 5) (N := (some 23)) (v := ?_) (a' := ?_) #[true, true, true, true, true, true, false, false, false] rfl rfl (by kernel_rfl) (fun _ _ _ h => h) (Or.inl ⟨by rfl, ?_⟩) ?_ ?_
 rotate_left
 ·intro w'
  go_simp
  with_reducible rfl
 rotate_left
 ·simp only [Act.put, List.setIfInBounds_toArray, List.set_cons_zero, List.set_cons_succ]
  rfl
 clear hS0
 refine one_ (i := 6) (N := (some 24)) #[true, true, true, true, true, true, true, false, false] rfl rfl (by kernel_rfl) (by decide) (fun K hK => ?_)
 refine goes_ Tryz.func45 (by kernel_rfl) rfl #[v] (by rfl) rfl rfl (by go_simp; done) ?_
 refine (clone_c (SLk.below HX1.out HBD.out) HM.out).mono ?_
 rintro e w2 ⟨u, rfl, hR, hb2⟩
 obtain ⟨AU, cu, eu⟩ := Kd.R_slice hR
 subst eu
 refine ⟨_, rfl, ?_⟩
 have HU : Aside0 (SLD w2 (fun q => w.heap.size ≤ q) (.slice AU x.length cu) x) := ⟨SLD.of_R (Kd.R_mono (Kd.R_bound hR) (fun q hq => Nat.le_trans HB.out.size (Nat.le_trans HBD.out.size hq.2.1)))⟩
 have HB2 : Aside0 (Below w1.heap.size w1 w2) := ⟨below_step HBD.out hb2⟩
 clear hR hb2
 change K (Act.put _ (some 24) _) _
 refine hK.out _ _ HB2.out (fun hS0 => ?_)
 clear hK
 refine norm_ (a' := ?_) ?_ ?_
 rotate_left
 ·simp only [Act.put, List.setIfInBounds_toArray, List.set_cons_zero, List.set_cons_succ]
  rfl
 obtain ⟨hd2, z0, z1, -⟩ := (HP1.out.below HB2.out).h2.cell k HK.out
 refine pure_ (i := 7) (N := (some 25)) (v := ?_) (a' := ?_) #[true, true, true, true, true, true, true, true, false] rfl rfl (by kernel_rfl) (fun _ _ _ h => h) (Or.inl ⟨by rfl, ?_⟩) ?_ ?_
 rotate_left
 ·intro w'
  go_simp
  with_reducible rfl
 rotate_left
 ·simp only [Act.put, List.setIfInBounds_toArray, List.set_cons_zero, List.set_cons_succ]
  rfl
 clear hS0
 refine last_ (i := 8) (N := none) #[true, true, true, true, true, true, true, true, true] rfl rfl (by kernel_rfl) (by decide) (fun K hK => ?_)
 refine skip_ (w1 := w2.setCell ⟨g, k, none⟩ (.slice AU x.length cu)) (by rfl) rfl (by go_simp) ?_
 refine hK.out _ _ ?_
 clear hK
 refine done_ (by kernel_rfl) ?_
 go_wp2
 go_ret
 obtain ⟨q1, _, q3⟩ := HP.out.put (below_step HB.out HB2.out) k HK.out HU.out
 exact ⟨rfl, q1, q3⟩
end Go.Proofs.YtemhccjjcioodaaGreat.Cel
end
section
namespace Go.Proofs.YtemhccjjcioodaaGreat.Cel
open Go.RowKit Go.Proofs.YtemhccjjcioodaaGreatW.PrintWords Go.Proofs.YtemhccjjcioodaaGreatW.PrintMore Go.Proofs.YtemhccjjcioodaaGreatW.PrintLast Go.Proofs.YtemhccjjcioodaaGreat.U Go.Proofs.YtemhccjjcioodaaGreat.PClusterFinest
set_option maxRecDepth 100000 in
set_option maxHeartbeats 4000000 in
theorem text_c {w : World} {D : Nat → Prop} {b : Nat} {L : List (List Int)} {J : List S33} (h : CellsAt 100 w D b L J) (hl8 : L.length ≤ 100000000) (hf : L.flatten.length ≤ 10000000) :
 Calls Tryz.prog 30 #[ptr b] w fun e w' => ∃ u, e = .returned u ∧ Kd.R (Kd.int .i64) 3 w' w.heap.size (fun _ => True) u L.flatten ∧ Below w.heap.size w w' := by
 obtain ⟨Dr, Dt, A, c, vt, hp⟩ := h.open_
 have c0 := (blk_cell hp.h1 0).trans rfl
 have HR := Aside0.mk (hp.h2.reads 3)
 have HL := Aside0.mk hl8
 have HF := Aside0.mk hf
 clear h hp hl8 hf
 go_enter Tryz.func30, Tryz.ntmps30
 go_wp2_with (go_at_call 73; refine (concat_c HR.out HL.out HF.out).mono ?_; rintro e w1 ⟨u, rfl, hu, hb⟩; have HU := Aside0.mk hu; have HB := Aside0.mk hb; clear hu hb)
 go_ret
 exact ⟨_, rfl, HU.out, HB.out⟩
end Go.Proofs.YtemhccjjcioodaaGreat.Cel
end
section
namespace Go.Proofs.YtemhccjjcioodaaGreat.UGroups
open Go.Proofs.YtemhccjjcioodaaGreat.PClusterFinest
def OkS (N : Nat) (s : S33) : Prop := 0 ≤ s.f0 ∧ s.f0 < s.f1 ∧ s.f1 ≤ (N : Int)
instance (N : Nat) (s : S33) : Decidable (OkS N s) := by unfold OkS; infer_instance
def acrossB (N : Nat) (J : List S33) (t : Nat) : Bool := J.any fun s => decide (OkS N s) && (decide (s.f0 < (t : Int)) && decide ((t : Int) < s.f1))
theorem across_iff {N : Nat} {J : List S33} {t : Nat} : acrossB N J t = true ↔ ∃ s ∈ J, OkS N s ∧ s.f0 < (t : Int) ∧ (t : Int) < s.f1 := by
 unfold acrossB
 rw [List.any_eq_true]
 simp only [Bool.and_eq_true, decide_eq_true_eq]
def stepG (N : Nat) (J : List S33) (t : Nat) (q : List S33 × Nat) : List S33 × Nat := if t = N ∨ acrossB N J t = false then (q.1 ++ [⟨(q.2 : Int), (t : Int)⟩], t) else q
def grpTo (N : Nat) (J : List S33) : Nat → List S33 × Nat
 | 0 => ([], 0)
 | t + 1 => stepG N J (t + 1) (grpTo N J t)
def groups (N : Nat) (J : List S33) : List S33 := (grpTo N J N).1
theorem grp_len (N : Nat) (J : List S33) (t : Nat) : (grpTo N J t).1.length ≤ t := by
 induction t with
 | zero => exact Nat.le_refl _
 | succ t ih =>
  unfold grpTo stepG
  split
  ·simp; exact ih
  ·omega
structure IsH (N : Nat) (J : List S33) (t : Nat) (h : Int) : Prop where
 ge : (t : Int) ≤ h
 up : ∀ s ∈ J, OkS N s → s.f0 < (t : Int) → s.f1 ≤ h
 is : h = (t : Int) ∨ ∃ s ∈ J, OkS N s ∧ s.f0 < (t : Int) ∧ s.f1 = h
structure IsR (N : Nat) (J : List S33) (i : Nat) (r : Int) : Prop where
 ge : 0 ≤ r
 up : ∀ s ∈ J, OkS N s → s.f0 = (i : Int) → s.f1 ≤ r
 is : r = 0 ∨ ∃ s ∈ J, OkS N s ∧ s.f0 = (i : Int) ∧ s.f1 = r
theorem isH_end {N : Nat} {J : List S33} {t : Nat} {h : Int} (hh : IsH N J t h) : h = (t : Int) ↔ acrossB N J t = false := by
 constructor
 ·intro e
  cases hc : acrossB N J t with
  | false => rfl
  | true =>
   obtain ⟨s, hs, ho, h1, h2⟩ := across_iff.1 hc
   have := hh.up s hs ho h1
   omega
 ·intro hc
  rcases hh.is with e | ⟨s, hs, ho, h1, h2⟩
  ·exact e
  ·have hge := hh.ge
   by_cases hlt : (t : Int) < s.f1
   ·have := across_iff.2 ⟨s, hs, ho, h1, hlt⟩
    rw [hc] at this; cases this
   ·omega
theorem isH_step {N : Nat} {J : List S33} {t : Nat} {h r : Int} (hh : IsH N J t h) (hr : IsR N J t r) : IsH N J (t + 1) (max (max h ((t : Int) + 1)) r) := by
 refine ⟨by omega, fun s hs ho h1 => ?_, ?_⟩
 ·by_cases e : s.f0 = (t : Int)
  ·have := hr.up s hs ho e; omega
  ·have := hh.up s hs ho (by omega); omega
 ·by_cases c1 : r ≤ max h ((t : Int) + 1)
  ·by_cases c2 : h ≤ (t : Int) + 1
   ·exact .inl (by omega)
   ·rcases hh.is with e | ⟨s, hs, ho, h1, h2⟩
    ·omega
    ·exact .inr ⟨s, hs, ho, by omega, by omega⟩
  ·rcases hr.is with e | ⟨s, hs, ho, h1, h2⟩
   ·have := hh.ge; omega
   ·exact .inr ⟨s, hs, ho, by omega, by omega⟩
def Reach (N : Nat) (J : List S33) (l : List Int) : Prop := l.length = N ∧ ∀ i, i < N → IsR N J i (l.getD i 0)
theorem reach_zero (N : Nat) : Reach N [] (List.replicate N 0) := ⟨by simp, fun i hi => ⟨by simp [List.getD_eq_getElem?_getD, List.getElem?_replicate, hi], (fun s hs => by cases hs), .inl (by simp [List.getD_eq_getElem?_getD, List.getElem?_replicate, hi])⟩⟩
theorem reach_no {N : Nat} {J : List S33} {l : List Int} {s : S33} (h : Reach N J l) (hs : ¬ OkS N s) : Reach N (J ++ [s]) l := by
 refine ⟨h.1, fun i hi => ?_⟩
 have := h.2 i hi
 refine ⟨this.ge, fun q hq ho e => ?_, ?_⟩
 ·rcases List.mem_append.1 hq with hq | hq
  ·exact this.up q hq ho e
  ·rw [List.mem_singleton] at hq; subst hq; exact absurd ho hs
 ·exact this.is.imp_right fun ⟨q, hq, hh⟩ => ⟨q, List.mem_append_left _ hq, hh⟩
theorem reach_yes {N : Nat} {J : List S33} {l : List Int} {s : S33} (h : Reach N J l) (hs : OkS N s) : Reach N (J ++ [s]) (l.set s.f0.toNat (max (l.getD s.f0.toNat 0) s.f1)) := by
 have h0 := hs.1; have h1 := hs.2.1; have h2 := hs.2.2
 refine ⟨by rw [List.length_set]; exact h.1, fun i hi => ?_⟩
 have hi' := h.2 i hi
 by_cases e : i = s.f0.toNat
 ·have eg : (l.set s.f0.toNat (max (l.getD s.f0.toNat 0) s.f1)).getD i 0 = max (l.getD i 0) s.f1 := by
   rw [← e, List.getD_eq_getElem?_getD, List.getElem?_set_self (by rw [h.1]; exact hi)]; rfl
  rw [eg]
  refine ⟨by have := hi'.ge; omega, fun q hq ho eq => ?_, ?_⟩
  ·rcases List.mem_append.1 hq with hq | hq
   ·have := hi'.up q hq ho eq; omega
   ·rw [List.mem_singleton] at hq; subst hq; omega
  ·by_cases hc : l.getD i 0 ≤ s.f1
   ·exact .inr ⟨s, List.mem_append_right _ (List.mem_singleton.2 rfl), hs, by omega, by omega⟩
   ·rcases hi'.is with e0 | ⟨q, hq, ho, e1, e2⟩
    ·omega
    ·exact .inr ⟨q, List.mem_append_left _ hq, ho, e1, by omega⟩
 ·have eg : (l.set s.f0.toNat (max (l.getD s.f0.toNat 0) s.f1)).getD i 0 = l.getD i 0 := by
   rw [List.getD_eq_getElem?_getD, List.getElem?_set_ne (fun h => e h.symm), ← List.getD_eq_getElem?_getD]
  rw [eg]
  refine ⟨hi'.ge, fun q hq ho eq => ?_, hi'.is.imp_right fun ⟨q, hq, hh⟩ => ⟨q, List.mem_append_left _ hq, hh⟩⟩
  rcases List.mem_append.1 hq with hq | hq
  ·exact hi'.up q hq ho eq
  ·rw [List.mem_singleton] at hq; subst hq; omega
theorem isH_one {N : Nat} {J : List S33} {r : Int} (hr : IsR N J 0 r) : IsH N J 1 (max 1 r) := by
 refine ⟨by omega, fun s hs ho h1 => ?_, ?_⟩
 ·have := ho.1
  have := hr.up s hs ho (by omega); omega
 ·by_cases c : r ≤ 1
  ·exact .inl (by omega)
  ·rcases hr.is with e | ⟨s, hs, ho, h1, h2⟩
   ·omega
   ·exact .inr ⟨s, hs, ho, by omega, by omega⟩
theorem isH_last {N : Nat} {J : List S33} {h : Int} (hh : IsH N J N h) : h = (N : Int) := by
 rcases hh.is with e | ⟨s, hs, ho, h1, h2⟩
 ·exact e
 ·have := ho.2.2; have := hh.ge; omega
theorem grp_lo (N : Nat) (J : List S33) (t : Nat) (ht : t ≤ N) : (grpTo N J t).2 ≤ t := by
 induction t with
 | zero => exact Nat.le_refl _
 | succ t ih =>
  unfold grpTo stepG
  split
  ·exact Nat.le_refl _
  ·have := ih (by omega); omega
end Go.Proofs.YtemhccjjcioodaaGreat.UGroups
end
