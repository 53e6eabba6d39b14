/- Cut. -/
import Derived.Test.YtemhccjjcioodaaGreatKCSort1
import Derived.Laws.CopyOwn
import Derived.Test.YtemhccjjcioodaaGreatKPEmbedJoinsx0
import Derived.Test.YtemhccjjcioodaaGreatKUFinest
import Derived.Test.YtemhccjjcioodaaGreatKAl
set_option linter.unusedSimpArgs false
set_option linter.unusedVariables false
set_option maxRecDepth 100000
set_option maxHeartbeats 16000000
namespace Go.Proofs.YtemhccjjcioodaaGreat
open Go.RowKit YtemhccjjcioodaaGreatW.PrintLast YtemhccjjcioodaaGreatW.PrintMore YtemhccjjcioodaaGreatW.PrintWords
section
namespace KSort
open U PKashidaStretches
open Go.Shelf PClusterFinest
def GR (w w' : World) : Prop := ∃ q os, w' = Go.Sort.grow (w.drewN q) os
theorem GR.refl (w : World) : GR w w := ⟨0, #[], by rw [Go.Sort.grow_empty]; rfl⟩
theorem GR.alloc {w w' : World} (h : GR w w') (o : Obj) : GR w (w'.alloc o) := by
 obtain ⟨q, os, rfl⟩ := h
 exact ⟨q, os ++ #[o], by rw [Go.Sort.alloc_eq_grow, Go.Sort.grow_grow]⟩
theorem GR.drewN {w w' : World} (h : GR w w') (n : Nat) : GR w (w'.drewN n) := by
 obtain ⟨q, os, rfl⟩ := h
 exact ⟨q + n, os, by rw [← World.drewN_drewN]; rfl⟩
theorem GR.drew {w w' : World} (h : GR w w') : GR w w'.drew := h.drewN 1
theorem GR.drawn {w w' w2 : World} (h : GR w w') (hd : Drawn0 w' w2) : GR w w2 := by
 obtain ⟨n, rfl⟩ := hd.out
 exact h.drewN n
def cfP (x y : S33) : Int := if Lib.compareInt x.f1 y.f1 ≠ 0 then Lib.compareInt x.f1 y.f1 else Lib.compareInt y.f0 x.f0
theorem or_f (a b : Int) : cmp_Or_int.f 5 [a, b] = some (if a ≠ 0 then a else b) := by
 by_cases h : a = 0
 ·subst h
  by_cases h2 : b = 0
  ·subst h2; kernel_rfl
  ·simp [cmp_Or_int.f, cmp_Or_int.l0, rd, wrap64, h2]
 ·simp [cmp_Or_int.f, cmp_Or_int.l0, rd, wrap64, h]
theorem better_c (x y : S33) (W : World) : Calls Tryz.prog 116 #[.agg #[.int .i64 x.f0, .int .i64 x.f1], .agg #[.int .i64 y.f0, .int .i64 y.f1]] W fun e w' => e = .returned (.int .i64 (cfP x y)) ∧ ∃ q os', w' = Go.Sort.grow (W.drewN q) os' := by
 obtain ⟨x0, x1⟩ := x
 obtain ⟨y0, y1⟩ := y
 have hcon := fun a b W' => AnyG.cmp_Compare_int CSort.lcmp a b W'
 change ∀ a b W', Calls Tryz.prog 150 _ _ _ at hcon
 unfold cfP
 dsimp only
 have HC1 := aMk (hcon x1 y1)
 have HC2 := aMk (hcon y0 x0)
 generalize Lib.compareInt x1 y1 = t1 at HC1 ⊢
 generalize Lib.compareInt y0 x0 = t2 at HC2 ⊢
 obtain ⟨X, hX⟩ : ∃ X, X = (if t1 ≠ 0 then t1 else t2) := ⟨_, rfl⟩
 rw [← hX]
 have HX := aMk hX
 clear hcon hX
 go_enter Tryz.func116, Tryz.ntmps116
 go_upto_region 1 with (fail)
 have h2 : ((W.alloc (.cells #[.int .i64 x0, .int .i64 x1] 154 (0, 0))).alloc (.cells #[.int .i64 y0, .int .i64 y1] 154 (0, 0))).heap[W.heap.size]? = some (.cells #[.int .i64 x0, .int .i64 x1] 154 (0, 0)) := by
  have h := (MapKept.heap_alloc W (.cells #[.int .i64 x0, .int .i64 x1] 154 (0, 0))).1
  exact ((qbA (qBr _ _) _).block _ (blk_lt h)).trans h
 have h3 : ((W.alloc (.cells #[.int .i64 x0, .int .i64 x1] 154 (0, 0))).alloc (.cells #[.int .i64 y0, .int .i64 y1] 154 (0, 0))).heap[W.heap.size + 1]? = some (.cells #[.int .i64 y0, .int .i64 y1] 154 (0, 0)) := by
  have h := (MapKept.heap_alloc (W.alloc (.cells #[.int .i64 x0, .int .i64 x1] 154 (0, 0))) (.cells #[.int .i64 y0, .int .i64 y1] 154 (0, 0))).1
  rwa [show (W.alloc (.cells #[.int .i64 x0, .int .i64 x1] 154 (0, 0))).heap.size = W.heap.size + 1 by simp] at h
 have HG2 : Aside0 (GR W (((W.alloc (.cells #[.int .i64 x0, .int .i64 x1] 154 (0, 0))).alloc (.cells #[.int .i64 y0, .int .i64 y1] 154 (0, 0))).drew)) := ⟨(((GR.refl W).alloc _).alloc _).drew⟩
 have HX2 : Aside0 ((((W.alloc (.cells #[.int .i64 x0, .int .i64 x1] 154 (0, 0))).alloc (.cells #[.int .i64 y0, .int .i64 y1] 154 (0, 0))).drew).heap[W.heap.size]? = some (.cells #[.int .i64 x0, .int .i64 x1] 154 (0, 0)) ∧ (((W.alloc (.cells #[.int .i64 x0, .int .i64 x1] 154 (0, 0))).alloc (.cells #[.int .i64 y0, .int .i64 y1] 154 (0, 0))).drew).heap[W.heap.size + 1]? = some (.cells #[.int .i64 y0, .int .i64 y1] 154 (0, 0))) := ⟨h2, h3⟩
 clear h2 h3
 refine start_ (n := 13) (S := (fun w' => w'.heap[W.heap.size]? = some (.cells #[.int .i64 x0, .int .i64 x1] 154 (0, 0)) ∧ w'.heap[W.heap.size + 1]? = some (.cells #[.int .i64 y0, .int .i64 y1] 154 (0, 0)))) (ds := []) #[false, false, false, false, false, false, false, false, false, false, false, false, false] (by kernel_rfl) (by kernel_rfl) (by rfl) HX2.out (fun hS0 => ?_)
 refine pure_ (i := 0) (N := (some 5)) (v := ?_) (a' := ?_) #[true, false, false, false, false, false, false, false, false, false, false, false, false] rfl rfl (by kernel_rfl) (fun _ _ _ h => h) (Or.inl ⟨by rfl, ?_⟩) ?_ ?_
 rotate_left
 ·intro w'
  go_simp
  with_reducible rfl
 rotate_left
 ·simp only [Act.put, sqA, sq0, sq1]
  rfl
 refine take_ (i := 1) (N := (some 6)) (v := ?_) (a' := ?_) #[true, true, false, false, false, false, false, false, false, false, false, false, false] rfl rfl (by kernel_rfl) (fun _ _ _ h => h) (Or.inl ⟨by rfl, ?_⟩) hS0 ?_ ?_
 rotate_left
 ·intro w' s0
  have y0 := (blk_cell s0.1 1).trans rfl
  go_simp
  with_reducible rfl
 rotate_left
 ·simp only [Act.put, sqA, sq0, sq1]
  rfl
 refine pure_ (i := 2) (N := (some 7)) (v := ?_) (a' := ?_) #[true, true, true, false, false, false, false, false, false, false, false, false, false] rfl rfl (by kernel_rfl) (fun _ _ _ h => h) (Or.inl ⟨by rfl, ?_⟩) ?_ ?_
 rotate_left
 ·intro w'
  go_simp
  with_reducible rfl
 rotate_left
 ·simp only [Act.put, sqA, sq0, sq1]
  rfl
 refine take_ (i := 3) (N := (some 8)) (v := ?_) (a' := ?_) #[true, true, true, true, false, false, false, false, false, false, false, false, false] rfl rfl (by kernel_rfl) (fun _ _ _ h => h) (Or.inl ⟨by rfl, ?_⟩) hS0 ?_ ?_
 rotate_left
 ·intro w' s0
  have y0 := (blk_cell s0.2 1).trans rfl
  go_simp
  with_reducible rfl
 rotate_left
 ·simp only [Act.put, sqA, sq0, sq1]
  rfl
 refine pure_ (i := 5) (N := (some 10)) (v := ?_) (a' := ?_) #[true, true, true, true, false, true, false, false, false, false, false, false, false] rfl rfl (by kernel_rfl) (fun _ _ _ h => h) (Or.inl ⟨by rfl, ?_⟩) ?_ ?_
 rotate_left
 ·intro w'
  go_simp
  with_reducible rfl
 rotate_left
 ·simp only [Act.put, sqA, sq0, sq1]
  rfl
 refine take_ (i := 6) (N := (some 11)) (v := ?_) (a' := ?_) #[true, true, true, true, false, true, true, false, false, false, false, false, false] rfl rfl (by kernel_rfl) (fun _ _ _ h => h) (Or.inl ⟨by rfl, ?_⟩) hS0 ?_ ?_
 rotate_left
 ·intro w' s0
  have y0 := (blk_cell s0.2 0).trans rfl
  go_simp
  with_reducible rfl
 rotate_left
 ·simp only [Act.put, sqA, sq0, sq1]
  rfl
 refine pure_ (i := 7) (N := (some 12)) (v := ?_) (a' := ?_) #[true, true, true, true, false, true, true, true, false, false, false, false, false] rfl rfl (by kernel_rfl) (fun _ _ _ h => h) (Or.inl ⟨by rfl, ?_⟩) ?_ ?_
 rotate_left
 ·intro w'
  go_simp
  with_reducible rfl
 rotate_left
 ·simp only [Act.put, sqA, sq0, sq1]
  rfl
 refine take_ (i := 8) (N := (some 13)) (v := ?_) (a' := ?_) #[true, true, true, true, false, true, true, true, true, false, false, false, false] rfl rfl (by kernel_rfl) (fun _ _ _ h => h) (Or.inl ⟨by rfl, ?_⟩) hS0 ?_ ?_
 rotate_left
 ·intro w' s0
  have y0 := (blk_cell s0.1 0).trans rfl
  go_simp
  with_reducible rfl
 rotate_left
 ·simp only [Act.put, sqA, sq0, sq1]
  rfl
 clear hS0
 refine one_ (i := 4) (N := (some 9)) #[true, true, true, true, true, true, true, true, true, false, false, false, false] rfl rfl (by kernel_rfl) (by decide) (fun K hK => ?_)
 refine goes_ Tryz.func150 (by kernel_rfl) rfl #[.int .i64 x1, .int .i64 y1] (by rfl) rfl rfl (by go_simp; done) ?_
 refine (HC1.out _).mono ?_
 rintro e w3 ⟨rfl, rfl⟩
 refine ⟨_, rfl, ?_⟩
 change K (Act.put _ (some 9) _) _
 refine hK.out _ _ HX2.out (fun hS0 => ?_)
 clear hK
 refine norm_ (a' := ?_) ?_ ?_
 rotate_left
 ·simp only [Act.put, sqA, sq0, sq1]
  rfl
 clear hS0
 refine one_ (i := 9) (N := (some 14)) #[true, true, true, true, true, true, true, true, true, true, false, false, false] rfl rfl (by kernel_rfl) (by decide) (fun K hK => ?_)
 refine goes_ Tryz.func150 (by kernel_rfl) rfl #[.int .i64 y0, .int .i64 x0] (by rfl) rfl rfl (by go_simp; done) ?_
 refine (HC2.out _).mono ?_
 rintro e w3 ⟨rfl, rfl⟩
 refine ⟨_, rfl, ?_⟩
 change K (Act.put _ (some 14) _) _
 refine hK.out _ _ HX2.out (fun hS0 => ?_)
 clear hK
 refine norm_ (a' := ?_) ?_ ?_
 rotate_left
 ·simp only [Act.put, sqA, sq0, sq1]
  rfl
 clear hS0
 generalize (((W.alloc (.cells #[.int .i64 x0, .int .i64 x1] 154 (0, 0))).alloc (.cells #[.int .i64 y0, .int .i64 y1] 154 (0, 0))).drew) = wd at HG2 HX2 ⊢
 refine one_ (i := 10) (N := (some 15)) #[true, true, true, true, true, true, true, true, true, true, true, false, false] rfl rfl (by kernel_rfl) (by decide) (fun K hK => ?_)
 refine value_ (w1 := wd.alloc (.cells #[.int .i64 t1, .int .i64 t2] 3 (0, 0))) (v := .slice (some ⟨wd.heap.size, 0, none⟩) 2 2) (by rfl) rfl (by go_simp) ?_
 have HX3 : Aside0 ((wd.alloc (.cells #[.int .i64 t1, .int .i64 t2] 3 (0, 0))).heap[W.heap.size]? = some (.cells #[.int .i64 x0, .int .i64 x1] 154 (0, 0)) ∧ (wd.alloc (.cells #[.int .i64 t1, .int .i64 t2] 3 (0, 0))).heap[W.heap.size + 1]? = some (.cells #[.int .i64 y0, .int .i64 y1] 154 (0, 0))) := ⟨((qbA (qBr _ _) _).block _ (blk_lt HX2.out.1)).trans HX2.out.1, ((qbA (qBr _ _) _).block _ (blk_lt HX2.out.2)).trans HX2.out.2⟩
 obtain ⟨AL, cL, eL, hcL, hCL⟩ := CBase.SL_lit wd 3 [t1, t2] (by simp)
 injection eL with e1 e2 e3
 subst e1
 subst e3
 have HCL := aMk hCL
 clear hcL hCL e2
 change K (Act.put _ (some 15) _) _
 refine hK.out _ _ HX3.out (fun hS0 => ?_)
 clear hK
 refine norm_ (a' := ?_) ?_ ?_
 rotate_left
 ·simp only [Act.put, sqA, sq0, sq1]
  rfl
 clear hS0
 refine one_ (i := 11) (N := (some 16)) #[true, true, true, true, true, true, true, true, true, true, true, true, false] rfl rfl (by kernel_rfl) (by decide) (fun K hK => ?_)
 refine goes_ Tryz.func185 (by kernel_rfl) rfl #[.slice (some ⟨wd.heap.size, 0, none⟩) 2 2] (by rfl) rfl rfl (by go_simp; done) ?_
 refine (cmp_Or_int.calls 5 _ 2 [t1, t2] X _ HCL.out (qlR _) (by rw [HX.out]; exact or_f t1 t2)).mono ?_
 rintro e w5 ⟨rfl, hd⟩
 refine ⟨_, rfl, ?_⟩
 have HG5 : Aside0 (GR W w5) := ⟨(HG2.out.alloc _).drawn hd⟩
 have HX5 : Aside0 (w5.heap[W.heap.size]? = some (.cells #[.int .i64 x0, .int .i64 x1] 154 (0, 0)) ∧ w5.heap[W.heap.size + 1]? = some (.cells #[.int .i64 y0, .int .i64 y1] 154 (0, 0))) := ⟨by obtain ⟨n, rfl⟩ := hd.out; exact HX3.out⟩
 clear hd
 change K (Act.put _ (some 16) _) _
 refine hK.out _ _ HX5.out (fun hS0 => ?_)
 clear hK
 refine norm_ (a' := ?_) ?_ ?_
 rotate_left
 ·simp only [Act.put, sqA, sq0, sq1]
  rfl
 refine pure_ (i := 12) (N := (some 4)) (v := ?_) (a' := ?_) #[true, true, true, true, true, true, true, true, true, true, true, true, true] rfl rfl (by kernel_rfl) (fun _ _ _ h => h) (Or.inl ⟨by rfl, ?_⟩) ?_ ?_
 rotate_left
 ·intro w'
  go_simp
  with_reducible rfl
 rotate_left
 ·simp only [Act.put, sqA, sq0, sq1]
  rfl
 refine done_ (by kernel_rfl) ?_
 go_wp2
 go_ret
 exact ⟨rfl, HG5.out⟩
shelf_lay_g SlLaysF0.n6 Slsf 6 at Tryz 115 as lsortP
theorem ltP (x y : S33) : ltOf cfP x y = decide (x.f1 < y.f1 ∨ (x.f1 = y.f1 ∧ y.f0 < x.f0)) := by
 unfold ltOf cfP Lib.compareInt
 by_cases h1 : x.f1 < y.f1
 ·simp [h1]
 ·by_cases h2 : y.f1 < x.f1
  ·have h3 : ¬ x.f1 = y.f1 := by omega
   simp [h1, h2, h3]
  ·have h3 : x.f1 = y.f1 := by omega
   by_cases h4 : y.f0 < x.f0
   ·simp [h1, h2, h3, h4]
   ·by_cases h5 : x.f0 < y.f0 <;> simp [h1, h2, h3, h4, h5]
theorem swoP : Go.Sort.SWO (ltOf cfP) where
 irrefl x := by rw [ltP]; simp
 trans x y z h1 h2 := by rw [ltP] at *; simp at *; omega
 ntrans x y z h1 h2 := by rw [ltP] at *; simp at *; omega
open CSort (enc33 get33 enc_at grown_sorted reads33 perm_of)
theorem holdsE {e : Nat} {w : World} {base : Nat} {ok : Nat → Prop} {g cap : Nat} {f : List S33} (h : Kd.R k33 e w base ok (.slice (some ⟨g, 0, none⟩) f.length cap) f) : Go.Sort.HoldsK enc33 2 w g 0 f.toArray := by
 intro t ht
 rw [Go.Sort.size_flatK] at ht
 have ht' : t < f.length * 2 := by simpa using ht
 rw [Go.Sort.get_flatK _ _ _ t ht, get33 f (t / 2) (by omega), enc_at]
 obtain ⟨c, hc, hM, hcell, hfr⟩ := Kd.R_elem h z33 ((t / 2 : Nat) : Int) (by omega) (by omega)
 obtain rfl := k33_openM hM
 rw [qtN] at hcell hfr
 have hsz : k33.sz = 2 := rfl
 rw [hsz] at hcell hfr
 rw [Nat.zero_add]
 rcases Nat.mod_two_eq_zero_or_one t with e | e
 ·have e2 : t / 2 * 2 + 0 = t := by omega
  have h1 := hcell 0 _ rfl
  have h2 := hfr 0
  rw [e2] at h1 h2
  rw [e]
  exact ⟨h1, h2⟩
 ·have e2 : t / 2 * 2 + 1 = t := by omega
  have h1 := hcell 1 _ rfl
  have h2 := hfr 1
  rw [e2] at h1 h2
  rw [e]
  exact ⟨h1, h2⟩
theorem sortP_c {w : World} {base : Nat} {ok : Nat → Prop} {v : Value} {f : List S33} (h : Kd.R k33 154 w base ok v f) (hm : f.length ≤ 1000000) :
 Calls Tryz.prog 115 #[v, .func (.func 116) #[] #[]] w fun e w' => e = .returned (.tuple #[]) ∧ ∃ d : List S33, d.Perm f ∧ d.Pairwise (fun a b => ltOf cfP b a = false) ∧ SLk k33 w' v d ∧ w.grownBy w' v.ownBlock := by
 by_cases h0 : 0 < f.length
 ·obtain ⟨g, cap, rfl, hg, hgs, _⟩ := Kd.R_form h h0
  have hH := holdsE h
  obtain ⟨_, hcap, _⟩ := Kd.R_reads' h
  have hcon := AnyQ.slices_SortFunc lsortP 2 Tryz.isAgg154 Tryz.sizeOf154 enc33 (fun _ => rfl) (fun x v hv => by simp [enc33] at hv; rcases hv with rfl | rfl <;> rfl) cfP swoP 116 #[] g 0 cap f.toArray w (enters_of Tryz.func116 (by kernel_rfl) rfl) (fun _ _ _ _ x y => better_c x y _) hH hgs (by simp; omega)
  refine hcon.mono ?_
  rintro e w' ⟨rfl, d', n, os, hp, hs, rfl⟩
  have hsz : d'.size = f.length := by simpa using hp.1
  refine ⟨rfl, d'.toList, perm_of (by simpa using hp), ?_, ?_, grown_sorted⟩
  ·rw [List.pairwise_iff_getElem]
   intro i j hi hj hij
   have := hs i j (Nat.zero_le _) hij (by simpa [hsz] using hj)
   rw [getElem!_pos d' i (by simpa using hi), getElem!_pos d' j (by simpa using hj)] at this
   simpa using this
  ·have := reads33 (cap := cap) (holdsK_sortWorldK enc33 2 w g 0 n f.toArray d' os hgs hH (by simpa using hsz)) (by omega) (by omega)
   rw [show d'.toList.length = f.length by simpa using hsz] at this
   exact this
 ·obtain rfl : f = [] := List.eq_nil_of_length_eq_zero (by omega)
  obtain ⟨A, c, rfl⟩ := Kd.R_slice h
  refine (AnyF.slices_SortFunc_none lsortP A c _ w).mono ?_
  rintro e w' ⟨rfl, rfl⟩
  exact ⟨rfl, [], List.Perm.refl _, List.Pairwise.nil, SLk.of_R h, World.grownBy.refl _ _⟩
end KSort
end
section
namespace UKash
open Go.Shelf PClusterFinest KRank KPlace KSort UJoin
theorem uniq {α : Type} {R : α → α → Prop} (hi : ∀ a, ¬ R a a) (ha : ∀ a b, R a b → ¬ R b a) : ∀ (l m : List α), l.Pairwise R → m.Pairwise R → (∀ x, x ∈ l ↔ x ∈ m) → l = m
 | [], [], _, _, _ => rfl
 | [], y :: m, _, _, h => absurd ((h y).2 List.mem_cons_self) (by simp)
 | x :: l, [], _, _, h => absurd ((h x).1 List.mem_cons_self) (by simp)
 | x :: l, y :: m, hl, hm, h => by
  obtain ⟨hx, hl2⟩ := List.pairwise_cons.1 hl
  obtain ⟨hy, hm2⟩ := List.pairwise_cons.1 hm
  have e : x = y := by
   rcases List.mem_cons.1 ((h x).1 List.mem_cons_self) with e | e
   ·exact e
   ·rcases List.mem_cons.1 ((h y).2 List.mem_cons_self) with e2 | e2
    ·exact e2.symm
    ·exact absurd (hx y e2) (ha _ _ (hy x e))
  subst e
  rw [uniq hi ha l m hl2 hm2 (fun z => ⟨fun hz => ?_, fun hz => ?_⟩)]
  ·rcases List.mem_cons.1 ((h z).1 (List.mem_cons_of_mem _ hz)) with e | e
   ·subst e; exact absurd (hx z hz) (hi z)
   ·exact e
  ·rcases List.mem_cons.1 ((h z).2 (List.mem_cons_of_mem _ hz)) with e | e
   ·subst e; exact absurd (hy z hz) (hi z)
   ·exact e
theorem rankO_range (c : Int) : 1 ≤ rankO c ∧ rankO c ≤ 6 := by
 unfold rankO
 repeat (split; omega)
 omega
theorem rk2_range (a b : Int) (ha : 1 ≤ a ∧ a ≤ 6) (hb : 1 ≤ b ∧ b ≤ 6) : 1 ≤ rk2 a b ∧ rk2 a b ≤ 6 := by
 unfold rk2 mn
 split <;> split <;> split <;> omega
theorem prank_range (xs ts : List Int) (i : Int) : 1 ≤ prank xs ts i ∧ prank xs ts i ≤ 6 := rk2_range _ _ (rankO_range _) (rankO_range _)
def LtR (a b : S33) : Prop := a.f1 < b.f1 ∨ (a.f1 = b.f1 ∧ b.f0 < a.f0)
def fL (xs ts : List Int) (n : Nat) : List S33 := ((List.range n).filter fun i : Nat => placeB xs ts (i : Int)).map fun i : Nat => ⟨(i : Int), prank xs ts (i : Int)⟩
theorem fL_succ (xs ts : List Int) (n : Nat) : fL xs ts (n + 1) = fL xs ts n ++ (if placeB xs ts (n : Int) = true then [⟨(n : Int), prank xs ts (n : Int)⟩] else []) := by
 unfold fL
 rw [List.range_succ, List.filter_append, List.map_append]
 by_cases h : placeB xs ts (n : Int) = true
 ·simp [h]
 ·simp [h]
theorem fL_len (xs ts : List Int) (n : Nat) : (fL xs ts n).length ≤ n := by
 unfold fL
 rw [qlm]
 exact qlT (List.length_filter_le _ _) (by simp)
theorem mem_fL {xs ts : List Int} {n : Nat} {x : S33} : x ∈ fL xs ts n ↔ ∃ i : Nat, i < n ∧ placeB xs ts (i : Int) = true ∧ x = ⟨(i : Int), prank xs ts (i : Int)⟩ := by
 unfold fL
 simp only [List.mem_map, List.mem_filter, List.mem_range]
 constructor
 ·rintro ⟨i, ⟨h1, h2⟩, rfl⟩; exact ⟨i, h1, h2, rfl⟩
 ·rintro ⟨i, h1, h2, rfl⟩; exact ⟨i, ⟨h1, h2⟩, rfl⟩
theorem fL_nodup (xs ts : List Int) (n : Nat) : (fL xs ts n).Pairwise (fun a b => a.f0 < b.f0) := by
 unfold fL
 rw [List.pairwise_map]
 refine List.Pairwise.imp ?_ ((List.pairwise_lt_range (n := n)).filter _)
 intro a b h
 show (a : Int) < (b : Int)
 omega
def byRank (xs ts : List Int) (n : Nat) (r : Int) : List Nat := (List.range n).reverse.filter fun i : Nat => placeB xs ts (i : Int) && decide (prank xs ts (i : Int) = r)
theorem mem_byRank {xs ts : List Int} {n : Nat} {r : Int} {i : Nat} : i ∈ byRank xs ts n r ↔ i < n ∧ placeB xs ts (i : Int) = true ∧ prank xs ts (i : Int) = r := by
 unfold byRank
 simp [List.mem_filter]
def placesN (xs ts : List Int) (n : Nat) : List Nat := (List.range 6).flatMap fun k : Nat => byRank xs ts n ((k : Int) + 1)
theorem mem_placesN {xs ts : List Int} {n i : Nat} : i ∈ placesN xs ts n ↔ i < n ∧ placeB xs ts (i : Int) = true := by
 unfold placesN
 simp only [List.mem_flatMap, List.mem_range, mem_byRank]
 constructor
 ·rintro ⟨k, _, h1, h2, _⟩; exact ⟨h1, h2⟩
 ·rintro ⟨h1, h2⟩
  have := prank_range xs ts (i : Int)
  exact ⟨(prank xs ts (i : Int) - 1).toNat, by omega, h1, h2, by omega⟩
theorem byRank_sorted (xs ts : List Int) (n : Nat) (r : Int) : (byRank xs ts n r).Pairwise (fun a b => b < a) := by
 unfold byRank
 refine List.Pairwise.filter _ ?_
 rw [List.pairwise_reverse]
 exact List.pairwise_lt_range
theorem placesN_sorted (xs ts : List Int) (n : Nat) : ∀ m, ((List.range m).flatMap fun k : Nat => byRank xs ts n ((k : Int) + 1)).Pairwise (fun a b : Nat => LtR ⟨(a : Int), prank xs ts (a : Int)⟩ ⟨(b : Int), prank xs ts (b : Int)⟩)
 | 0 => by simp
 | m + 1 => by
  rw [List.range_succ, List.flatMap_append, List.pairwise_append]
  refine ⟨placesN_sorted xs ts n m, ?_, ?_⟩
  ·rw [List.flatMap_cons, List.flatMap_nil, List.append_nil]
   refine List.Pairwise.imp_of_mem ?_ (byRank_sorted xs ts n _)
   intro a b h1 h2 h3
   have e1 := (mem_byRank.1 h1).2.2
   have e2 := (mem_byRank.1 h2).2.2
   refine .inr ⟨e1.trans e2.symm, ?_⟩
   show (b : Int) < (a : Int)
   omega
  ·intro a ha b hb
   rw [List.flatMap_cons, List.flatMap_nil, List.append_nil] at hb
   obtain ⟨k, hk, ha⟩ := List.mem_flatMap.1 ha
   have e1 := (mem_byRank.1 ha).2.2
   have e2 := (mem_byRank.1 hb).2.2
   have := List.mem_range.1 hk
   refine .inl ?_
   show prank xs ts (a : Int) < prank xs ts (b : Int)
   omega
theorem lt_of {a b : S33} (h : ltOf cfP b a = false) (hne : a ≠ b) : LtR a b := by
 rw [ltP] at h
 simp only [decide_eq_false_iff_not] at h
 obtain ⟨a0, a1⟩ := a
 obtain ⟨b0, b1⟩ := b
 unfold LtR
 dsimp only at h ⊢
 rcases Int.lt_trichotomy a1 b1 with e | e | e
 ·exact .inl e
 ·subst e
  rcases Int.lt_trichotomy a0 b0 with e2 | e2 | e2
  ·exact absurd (.inr ⟨rfl, e2⟩) h
  ·subst e2; exact absurd rfl hne
  ·exact .inr ⟨rfl, e2⟩
 ·exact absurd (.inl e) h
theorem places_is {xs ts : List Int} {n : Nat} {d : List S33} (hp : d.Perm (fL xs ts n)) (hs : d.Pairwise (fun a b => ltOf cfP b a = false)) : d = (placesN xs ts n).map fun i : Nat => (⟨(i : Int), prank xs ts (i : Int)⟩ : S33) := by
 refine uniq (R := LtR) (fun a h => ?_) (fun a b h1 h2 => ?_) _ _ ?_ ?_ (fun x => ?_)
 ·unfold LtR at h; omega
 ·unfold LtR at h1 h2; omega
 ·have hnd : d.Pairwise (fun a b => a ≠ b) := by
   have h1 : (fL xs ts n).Pairwise (fun a b => a ≠ b) := (fL_nodup xs ts n).imp (fun h e => by rw [e] at h; exact absurd h (Int.lt_irrefl _))
   exact hp.symm.pairwise h1 (fun h => h.symm)
  exact (hs.and hnd).imp (fun h => lt_of h.1 h.2)
 ·rw [List.pairwise_map]
  exact placesN_sorted xs ts n 6
 ·rw [hp.mem_iff, mem_fL, List.mem_map]
  constructor
  ·rintro ⟨i, h1, h2, rfl⟩; exact ⟨i, mem_placesN.2 ⟨h1, h2⟩, rfl⟩
  ·rintro ⟨i, h, rfl⟩; exact ⟨i, (mem_placesN.1 h).1, (mem_placesN.1 h).2, rfl⟩
end UKash
end
section
namespace KPlaces
open U PClusterFinest KRank KPlace KSort UKash UJoin
open CProps (PropsAt)
theorem rd33 {l : List S33} {i : Nat} (h : i < l.length) : rd_T33 l (i : Int) = l[i] := by
 unfold rd_T33
 rw [qtN, qgD, qgG h]
 rfl
theorem info154 : (Tryz.prog.info? 154).map (fun i => (i.zero, i.size, i.bytes)) = some (some (.agg #[(.int .i64 0), (.int .i64 0)]), 2, 16) := by kernel_rfl
theorem info3 : (Tryz.prog.info? 3).map (fun i => (i.zero, i.size, i.bytes)) = some (some (.int .i64 0), 1, 8) := by kernel_rfl
theorem textPlaces_c {w : World} {A B : Option Addr} {c d : Nat} {xs ts : List Int} (hx : SL w (.slice A xs.length c) xs) (ht : SL w (.slice B ts.length d) ts) (hl : ts.length = xs.length) (hm : xs.length ≤ 1000000) :
 Calls Tryz.prog 56 #[.agg #[.slice A xs.length c, .slice B ts.length d]] w fun e w' => ∃ u, e = .returned u ∧ Kd.R (Kd.int .i64) 3 w' w.heap.size (fun _ => True) u ((placesN xs ts xs.length).map fun i : Nat => (i : Int)) ∧ Below w.heap.size w w' := by
 have HX := aMk hx
 have HT := aMk ht
 have HL := aMk hl
 have HM := aMk hm
 clear hx ht hl hm
 go_enter Tryz.func56, Tryz.ntmps56
 go_upto_region 3 with (first | ((with_reducible refine gate_dst (N := 1) rfl ?_); refine box_event ?hg (N := 1) ?hd (cs := #[.slice A xs.length c, .slice B ts.length d]) (t := 82) ?hr ?_; (case hd => rfl); (case hg => rfl); (case hr => go_simp; done); intro g1 hg w1 hbox hb; have HX1 := aMk hbox; have HB1 := aMk hb; have x0 := (blk_cell hbox 0).trans rfl; clear hg hbox hb))
 clear x0
 go_loopw [3, 13] (fun v3 v wr => ∃ i : Nat, v = .int .i64 i ∧ i ≤ xs.length ∧ Aside0 (Kd.R k33 154 wr w1.heap.size (fun _ => True) v3 (fL xs ts i)) ∧ Aside0 (Below w1.heap.size w1 wr)) (fun _ v _ => xs.length - (intOf v).toNat)
 case atStart => exact ⟨0, rfl, Nat.zero_le _, ⟨Kd.R_nil _ _ _ _ _⟩, ⟨qBr _ _⟩⟩
 case round =>
  obtain ⟨i, rfl, hi, HR, HB⟩ := hrel
  have HXr : Aside0 (wr.heap[g1]? = some (.cells #[.slice A xs.length c, .slice B ts.length d] 82 (0, 0))) := ⟨(HB.out.block _ (blk_lt HX1.out)).trans HX1.out⟩
  have HBw : Aside0 (Below w.heap.size w wr) := ⟨qbP HB1.out HB.out⟩
  have x0 := (blk_cell HXr.out 0).trans rfl
  have x1 := (blk_cell HXr.out 1).trans rfl
  by_cases hli : i < xs.length
  ·have hiI : (i : Int) < (xs.length : Int) := by omega
   have hi9 : (i : Int) ≤ 1000000 := by have := HM.out; omega
   have HI := aMk hli
   clear hli hi
   cases hpb : placeB xs ts (i : Int) with
   | true =>
    have HPB := aMk hpb
    have HF : Aside0 (fL xs ts (i + 1) = fL xs ts i ++ [⟨(i : Int), prank xs ts (i : Int)⟩]) := ⟨by rw [fL_succ, if_pos hpb]⟩
    clear hpb
    go_upto_region 6 with (first | (go_at_call 114; refine (place_c (SLk.below HX.out HBw.out) (SLk.below HT.out HBw.out) HL.out HM.out i HI.out).mono ?_; rintro e w2 ⟨a, r, rfl, hP, hb⟩; rw [HPB.out]; rw [HPB.out] at hP; have HP := aMk hP; have HB2 : Aside0 (Below w1.heap.size w1 w2) := ⟨qbP HB.out hb⟩; have HR2 := aMk (qrB HR.out hb); clear hb hP) | ((with_reducible refine gate_dst (N := 5) rfl ?_); refine box_event ?hg (N := 5) ?hd (cs := #[.int .i64 0, .int .i64 0]) (t := 154) ?hr ?_; (case hd => rfl); (case hg => rfl); (case hr => go_simp; done); intro g5 hg w3 hbox hb; have HX5 := aMk hbox; have HG5 : Aside0 (w1.heap.size ≤ g5) := ⟨by rw [hg]; exact HB2.out.size⟩; have HG52 : Aside0 (w2.heap.size ≤ g5) := ⟨by rw [hg]; exact qlR _⟩; have HB3 : Aside0 (Below w1.heap.size w1 w3) := ⟨qbP HB2.out hb⟩; have HR3 := aMk (qrB HR2.out hb); have z0 : w3.cell? ⟨g5, 0, none⟩ = some (.int .i64 0) := (blk_cell hbox 0).trans rfl; have z1 : w3.cell? ⟨g5, 1, none⟩ = some (.int .i64 0) := (blk_cell hbox 1).trans rfl; have f0 := qbF hbox 0; have f1 := qbF hbox 1; clear hg hbox hb))
    obtain ⟨ea, er⟩ := HP.out trivial
    have HER := aMk er
    subst ea
    clear er HP
    have HY5 := aMk (blk_put (blk_put HX5.out 0 (.int .i64 i) rfl) 1 (.int .i64 r) rfl)
    have HGG := aMk (qgT (grown_set w3 g5 0 (.int .i64 i)) (grown_set _ g5 1 (.int .i64 r)))
    generalize (w3.setCell ⟨g5, 0, none⟩ (.int .i64 i)).setCell ⟨g5, 1, none⟩ (.int .i64 r) = w4 at HY5 HGG ⊢
    have HB4 : Aside0 (Below w1.heap.size w1 w4) := ⟨HB3.out.grown HGG.out HB3.out.size (fun j hj => by obtain rfl := qoI hj; exact HG5.out)⟩
    have HR4 : Aside0 (Kd.R k33 154 w4 w1.heap.size (fun _ => True) u3 (fL xs ts i)) := ⟨qrM (Kd.R_grown (Kd.R_tight rfl HR3.out) HGG.out (fun k hk e => by rw [e] at hk; exact absurd (Kd.R_lt HR2.out g5 hk.symm) (Nat.not_lt.2 HG52.out))) (fun _ _ => trivial)⟩
    have y0 := (blk_cell HY5.out 0).trans rfl
    have y1 := (blk_cell HY5.out 1).trans rfl
    clear z0 z1 f0 f1 x0 x1
    go_wp2_with (first | ((with_reducible refine gate_builtin (b := .append) (xs := #[.tmp 23, .tmp 25]) rfl ?_); at_builtin; refine Kd.R_append k33 (w0 := w1) w1.heap.size rfl (.tmp 23) (.tmp 25) 152 154 (.agg #[(.int .i64 0), (.int .i64 0)]) 16 rfl Tryz.underlying152 info154 rfl (by decide) (by omega) u3 (fL xs ts i) (⟨(i : Int), r⟩ : S33) [.int .i64 i, .int .i64 r] (fun _ => True) (fun _ => False) rfl rfl ?aP (fun _ hk => hk.elim) ?aF ?aO ?aB ?aS ?aL ?_; (case aP => exact k33_mkM _ _ _ (⟨(i : Int), r⟩ : S33)); (case aB => exact (by repeat (first | (with_reducible first | exact HB4.out | apply qbA | apply qbN | apply qb1) | exact HB4.out))); (case aF => exact (fun _ _ => trivial)); (case aO => exact (by (with_reducible repeat (first | apply qrA | apply qrN | apply qrD)); exact HR4.out)); (case aS => exact (qbZ (by repeat (first | (with_reducible first | exact HB4.out | apply qbA | apply qbN | apply qb1) | exact HB4.out)))); (case aL => have h1 := fL_len xs ts i; have h2 := HM.out; have h3 := HI.out; omega); intro v6 w6 ho hb hg hat; have HO6 := aMk ho; have HB6 := aMk hb; clear ho hb hg hat))
    exact ⟨⟨i + 1, by go_num, by have := HI.out; omega, ⟨by rw [HF.out, ← HER.out]; exact HO6.out⟩, HB6⟩, by have := HI.out; simp [intOf]; omega⟩
   | false =>
    have HPB := aMk hpb
    have HF : Aside0 (fL xs ts (i + 1) = fL xs ts i) := ⟨by rw [fL_succ, if_neg (by rw [hpb]; decide), List.append_nil]⟩
    clear hpb
    go_upto_region 6 with (first | (go_at_call 114; refine (place_c (SLk.below HX.out HBw.out) (SLk.below HT.out HBw.out) HL.out HM.out i HI.out).mono ?_; rintro e w2 ⟨a, r, rfl, hP, hb⟩; rw [HPB.out]; rw [HPB.out] at hP; have HP := aMk hP; have HB2 : Aside0 (Below w1.heap.size w1 w2) := ⟨qbP HB.out hb⟩; have HR2 := aMk (qrB HR.out hb); clear hb hP) | ((with_reducible refine gate_dst (N := 5) rfl ?_); refine box_event ?hg (N := 5) ?hd (cs := #[.int .i64 0, .int .i64 0]) (t := 154) ?hr ?_; (case hd => rfl); (case hg => rfl); (case hr => go_simp; done); intro g5 hg w3 hbox hb; have HX5 := aMk hbox; have HG5 : Aside0 (w1.heap.size ≤ g5) := ⟨by rw [hg]; exact HB2.out.size⟩; have HG52 : Aside0 (w2.heap.size ≤ g5) := ⟨by rw [hg]; exact qlR _⟩; have HB3 : Aside0 (Below w1.heap.size w1 w3) := ⟨qbP HB2.out hb⟩; have HR3 := aMk (qrB HR2.out hb); have z0 : w3.cell? ⟨g5, 0, none⟩ = some (.int .i64 0) := (blk_cell hbox 0).trans rfl; have z1 : w3.cell? ⟨g5, 1, none⟩ = some (.int .i64 0) := (blk_cell hbox 1).trans rfl; have f0 := qbF hbox 0; have f1 := qbF hbox 1; clear hg hbox hb))
    have HY5 := aMk (blk_put (blk_put HX5.out 0 (.int .i64 a) rfl) 1 (.int .i64 r) rfl)
    have HGG := aMk (qgT (grown_set w3 g5 0 (.int .i64 a)) (grown_set _ g5 1 (.int .i64 r)))
    generalize (w3.setCell ⟨g5, 0, none⟩ (.int .i64 a)).setCell ⟨g5, 1, none⟩ (.int .i64 r) = w4 at HY5 HGG ⊢
    have HB4 : Aside0 (Below w1.heap.size w1 w4) := ⟨HB3.out.grown HGG.out HB3.out.size (fun j hj => by obtain rfl := qoI hj; exact HG5.out)⟩
    have HR4 : Aside0 (Kd.R k33 154 w4 w1.heap.size (fun _ => True) u3 (fL xs ts i)) := ⟨qrM (Kd.R_grown (Kd.R_tight rfl HR3.out) HGG.out (fun k hk e => by rw [e] at hk; exact absurd (Kd.R_lt HR2.out g5 hk.symm) (Nat.not_lt.2 HG52.out))) (fun _ _ => trivial)⟩
    have y0 := (blk_cell HY5.out 0).trans rfl
    have y1 := (blk_cell HY5.out 1).trans rfl
    clear z0 z1 f0 f1 x0 x1
    go_wp2
    exact ⟨⟨i + 1, by go_num, by have := HI.out; omega, ⟨by rw [HF.out]; exact HR4.out⟩, HB4⟩, by have := HI.out; simp [intOf]; omega⟩
  ·obtain rfl : i = xs.length := by omega
   clear hli hi x0 x1
   obtain ⟨A3, c3, e3⟩ := Kd.R_slice HR.out
   subst e3
   go_upto_region 12 with (first | (go_at_call 115; refine (sortP_c HR.out (by have h1 := fL_len xs ts xs.length; have h2 := HM.out; omega)).mono ?_; rintro e w2 ⟨rfl, d3, hp, hs, hd, hg⟩; have HD := aMk hd; have HPI := aMk (places_is hp hs); have HLD := aMk hp.length_eq; have HB2 : Aside0 (Below w1.heap.size w1 w2) := ⟨HB.out.grown hg HB.out.size (fun j hj => Kd.R_base HR.out j hj)⟩; clear hp hs hd hg))
   obtain ⟨A4, c4, e4, hc4, hC4⟩ := HD.out
   injection e4 with e5 e6 e7
   subst e5
   subst e7
   have HC4 := aMk hC4
   have HE6 := aMk e6
   rw [HLD.out.symm]
   clear hc4 hC4 e6
   have hlm : (d3.length : Int) ≤ 1000000 := by have h1 := fL_len xs ts xs.length; have h2 := HM.out; have h3 := HLD.out; omega
   go_loopw [7, 32] (fun v7 v wq => ∃ j : Nat, v = .int .i64 j ∧ j ≤ d3.length ∧ Aside0 (Kd.R (Kd.int .i64) 3 wq w2.heap.size (fun _ => True) v7 ((d3.map (·.f0)).take j)) ∧ Aside0 (Below w2.heap.size w2 wq)) (fun _ v _ => d3.length - (intOf v).toNat)
   case atStart => exact ⟨0, rfl, Nat.zero_le _, ⟨by rw [List.take_zero]; exact Kd.R_nil _ _ _ _ _⟩, ⟨qBr _ _⟩⟩
   case round =>
    obtain ⟨j, rfl, hj, HQ, HBQ⟩ := hrel
    by_cases hlj : j < d3.length
    ·have hjI : (j : Int) < (d3.length : Int) := by omega
     obtain ⟨ad, ead, k0, k1⟩ := at_T33 (Kd.C_below HC4.out HBQ.out) (j : Int) (by omega) (by omega)
     rw [rd33 hlj, qtN] at k0 k1
     have HTK : Aside0 ((d3.map (·.f0)).take (j + 1) = (d3.map (·.f0)).take j ++ [d3[j].f0]) := ⟨by rw [qtS (by simpa using hlj)]; simp⟩
     generalize d3[j].f0 = a at k0 HTK
     generalize d3[j].f1 = b at k1
     subst ead
     have HJ := aMk hlj
     clear hlj hj
     go_upto_region 14 with (first | ((with_reducible refine gate_dst (N := 9) rfl ?_); refine box_event ?hg (N := 9) ?hd (cs := #[.int .i64 0, .int .i64 0]) (t := 154) ?hr ?_; (case hd => rfl); (case hg => rfl); (case hr => go_simp; done); intro g9 hg w3 hbox hb; have HX9 := aMk hbox; have HG92 : Aside0 (wr.heap.size ≤ g9) := ⟨by rw [hg]; exact qlR _⟩; have HG9 : Aside0 (w2.heap.size ≤ g9) := ⟨by rw [hg]; exact HBQ.out.size⟩; have HB3 : Aside0 (Below w2.heap.size w2 w3) := ⟨qbP HBQ.out hb⟩; have HR3 := aMk (qrB HQ.out hb); have k0 := (hb.cell (qwL _ _ k0)).trans k0; have k1 := (hb.cell (qwL _ _ k1)).trans k1; have z0 : w3.cell? ⟨g9, 0, none⟩ = some (.int .i64 0) := (blk_cell hbox 0).trans rfl; have z1 : w3.cell? ⟨g9, 1, none⟩ = some (.int .i64 0) := (blk_cell hbox 1).trans rfl; have f0 := qbF hbox 0; have f1 := qbF hbox 1; clear hg hbox hb))
     have HY9 := aMk (blk_put (blk_put HX9.out 0 (.int .i64 a) rfl) 1 (.int .i64 b) rfl)
     have HGG := aMk (qgT (grown_set w3 g9 0 (.int .i64 a)) (grown_set _ g9 1 (.int .i64 b)))
     generalize (w3.setCell ⟨g9, 0, none⟩ (.int .i64 a)).setCell ⟨g9, 1, none⟩ (.int .i64 b) = w4 at HY9 HGG ⊢
     have HB4 : Aside0 (Below w2.heap.size w2 w4) := ⟨HB3.out.grown HGG.out HB3.out.size (fun j hj => by obtain rfl := qoI hj; exact HG9.out)⟩
     have HR4 : Aside0 (Kd.R (Kd.int .i64) 3 w4 w2.heap.size (fun _ => True) u7 ((d3.map (·.f0)).take j)) := ⟨qrM (Kd.R_grown (Kd.R_tight rfl HR3.out) HGG.out (fun k hk e => by rw [e] at hk; exact absurd (Kd.R_lt HQ.out g9 hk.symm) (Nat.not_lt.2 HG92.out))) (fun _ _ => trivial)⟩
     have y0 := (blk_cell HY9.out 0).trans rfl
     clear z0 z1 f0 f1 k0 k1
     go_wp2_with (first | ((with_reducible refine gate_builtin (b := .append) (xs := #[.tmp 36, .tmp 39]) rfl ?_); at_builtin; refine Kd.R_append (Kd.int .i64) (w0 := w2) w2.heap.size rfl (.tmp 36) (.tmp 39) 22 3 (.int .i64 0) 8 rfl Tryz.underlying22 info3 rfl (by decide) (by omega) u7 ((d3.map (·.f0)).take j) a [.int .i64 a] (fun _ => True) (fun _ => False) rfl rfl ?aP (fun _ hk => hk.elim) ?aF ?aO ?aB ?aS ?aL ?_; (case aP => exact rfl); (case aB => exact (by repeat (first | (with_reducible first | exact HB4.out | apply qbA | apply qbN | apply qb1) | exact HB4.out))); (case aF => exact (fun _ _ => trivial)); (case aO => exact (by (with_reducible repeat (first | apply qrA | apply qrN | apply qrD)); exact HR4.out)); (case aS => exact (qbZ (by repeat (first | (with_reducible first | exact HB4.out | apply qbA | apply qbN | apply qb1) | exact HB4.out)))); (case aL => have h3 := HJ.out; rw [List.length_take, qlm]; omega); intro v6 w6 ho hb hg hat; have HO6 := aMk ho; have HB6 := aMk hb; clear ho hb hg hat))
     exact ⟨⟨j + 1, by go_num, by have := HJ.out; omega, ⟨by rw [HTK.out]; exact HO6.out⟩, HB6⟩, by have := HJ.out; simp [intOf]; omega⟩
    ·obtain rfl : j = d3.length := by omega
     clear hlj hj
     go_wp2
     go_ret
     refine ⟨_, rfl, ?_, qbP (qbP HB1.out HB2.out) HBQ.out⟩
     have h := HQ.out
     rw [List.take_of_length_le (by simp), HPI.out, List.map_map] at h
     exact Kd.R_lower h (qlT HB1.out.size HB2.out.size)
theorem places_c {w : World} {g : Nat} (h : PropsAt w g) {v : Value} {xs : List Int} (hx : SL w v xs) (hm : xs.length ≤ 1000000) :
 Calls Tryz.prog 19 #[.pointer (some ⟨g, 0, none⟩), v] w fun e w' => ∃ u, e = .returned u ∧ Kd.R (Kd.int .i64) 3 w' w.heap.size (fun _ => True) u ((placesN xs (xs.map CJoins.jn) xs.length).map fun i : Nat => (i : Int)) ∧ Below w.heap.size w w' := by
 have H := aMk h
 have HX := aMk hx
 have HM := aMk hm
 obtain ⟨A, c, rfl, -, -⟩ := hx
 clear h hm
 go_enter Tryz.func19, Tryz.ntmps19
 go_wp2_with (first | (go_at_call 51; refine (KProps.pjoins_c H.out HX.out HM.out).mono ?_; rintro e w1 ⟨u, rfl, hr, hb⟩; obtain ⟨B, d, ed⟩ := Kd.R_slice hr; subst ed; have HT := aMk (SLk.of_R hr); rw [qlm]; have HB1 := aMk hb; clear hr hb) | (go_at_call 56; have hcon := textPlaces_c (SLk.below HX.out HB1.out) HT.out (by rw [qlm]) HM.out; rw [qlm] at hcon; refine hcon.mono ?_; clear hcon; rintro e w2 ⟨u, rfl, hr, hb⟩; have HR := aMk (Kd.R_lower hr HB1.out.size); have HB2 : Aside0 (Below w.heap.size w w2) := ⟨qbP HB1.out hb⟩; clear hr hb))
 go_ret
 exact ⟨_, rfl, HR.out, HB2.out⟩
end KPlaces
end
section
namespace KRep
open U PKashidaStretches
theorem and_mask (n : Nat) (h : n < 4294967296) : Go.bits .and .u64 (n : Int) 4294967295 = (n : Int) := by
 show IntKind.u64.wrap ((BitVec.ofInt 64 (n : Int) &&& BitVec.ofInt 64 4294967295).toNat : Int) = _
 have e : (BitVec.ofInt 64 (n : Int) &&& BitVec.ofInt 64 4294967295).toNat = n % 4294967296 := by
  rw [BitVec.toNat_and, BitVec.toNat_ofInt, BitVec.toNat_ofInt]
  rw [show ((n : Int) % ((2 ^ 64 : Nat) : Int)).toNat = n by omega, show ((4294967295 : Int) % ((2 ^ 64 : Nat) : Int)).toNat = 2 ^ 32 - 1 by decide]
  exact Nat.and_two_pow_sub_one_eq_mod n 32
 rw [e, IntWalk.u64_in _ (by omega)]
 omega
theorem mul_one_f (n : Nat) (h : n ≤ 1000000) : bits_Mul.f 1 (n : Int) = some (0, (n : Int)) := by
 unfold bits_Mul.f bits_Mul64.f
 rw [and_mask n (by omega), show Go.bits .and .u64 1 4294967295 = 1 by kernel_rfl]
 have hd : (n : Int) / 4294967296 = 0 := by omega
 have h1 : (1 : Int) / 4294967296 = 0 := by decide
 have hz : IntKind.u64.wrap 0 = 0 := IntWalk.u64_in _ (by omega)
 have hn : IntKind.u64.wrap (n : Int) = (n : Int) := IntWalk.u64_in _ (by omega)
 have ha : Go.bits .and .u64 0 4294967295 = 0 := by kernel_rfl
 have h0 : (0 : Int) / 4294967296 = 0 := by decide
 simp only [hd, h1, Int.zero_mul, Int.one_mul, Int.mul_zero, hz, hn, Int.zero_add, Int.add_zero, ha, h0, qoS]
theorem sz3 : (Tryz.prog.info? 3).map (·.size) = some 1 := by kernel_rfl
def HoldsX (w : World) (g cap k : Nat) (x : Int) : Prop := ∃ cur : List Value, w.heap[g]? = some (.cells cur.toArray 3 (0, 0)) ∧ cur.length = cap ∧ cur.take k = List.replicate k (.int .i64 x)
theorem HoldsX.cell {w : World} {g cap k : Nat} {x : Int} (h : HoldsX w g cap k x) (j : Nat) (hj : j < k) : w.cell? ⟨g, j, none⟩ = some (.int .i64 x) := by
 obtain ⟨cur, h1, h2, h3⟩ := h
 refine (blk_cell h1 j).trans ?_
 have h4 : (cur.take k)[j]? = some (.int .i64 x) := by rw [h3, List.getElem?_replicate, if_pos hj]
 rw [List.getElem?_take_of_lt hj] at h4
 simpa using h4
theorem HoldsX.splice {w' : World} {g cap k m : Nat} {x : Int} {cur : List Value} (h2 : cur.length = cap) (h3 : cur.take k = List.replicate k (.int .i64 x)) (hk : k + m ≤ cap) (h : w'.heap[g]? = some (.cells (Go.splice cur k (List.replicate m (.int .i64 x))).toArray 3 (0, 0))) : HoldsX w' g cap (k + m) x := by
 refine ⟨_, h, ?_, ?_⟩
 ·unfold Go.splice
  simp
  omega
 ·unfold Go.splice
  rw [h3, ← List.append_assoc, List.replicate_append_replicate, List.take_append_of_le_length (by simp)]
  rw [List.take_of_length_le (by simp)]
theorem HoldsX.reads {w : World} {g cap n : Nat} {x : Int} (h : HoldsX w g cap n x) (hn : n ≤ cap) (hm : n ≤ 1000000) : SL w (.slice (some ⟨g, 0, none⟩) n cap) (List.replicate n x) := by
 have e : (.slice (some ⟨g, 0, none⟩) n cap : Value) = .slice (some ⟨g, 0, none⟩) (List.replicate n x).length cap := by rw [qlr]
 rw [e]
 refine ⟨_, _, rfl, by simpa using hn, rfl, by simp; omega, fun hp => ⟨_, rfl, fun j p hj => ?_⟩⟩
 obtain ⟨hl, hp⟩ := List.getElem?_eq_some_iff.1 hj
 have hl' : j < n := by simpa using hl
 refine ⟨_, rfl, rfl, fun i u hu => ?_⟩
 have ep : p = x := by simpa using hp.symm
 subst ep
 match i, hu with
 | 0, hu =>
  obtain rfl := qoI hu
  have := h.cell j hl'
  have e : (Kd.int .i64).sz = 1 := rfl
  rw [add_plain, e]
  simpa using this
 | i + 1, hu => simp at hu
theorem repeat_c {w : World} {A : Option Addr} {c : Nat} {x : Int} (hx : SL w (.slice A 1 c) [x]) (n : Nat) (hn : n ≤ 100000) :
 Calls Tryz.prog 60 #[.slice A 1 c, .int .i64 n] w fun e w' => ∃ u, e = .returned u ∧ SL w' u (List.replicate n x) ∧ Below w.heap.size w w' := by
 have HX := aMk hx
 have HN := aMk hn
 have h0 : ¬ (n : Int) < 0 := by omega
 have h1 : ¬ (n : Int) > 9223372036854775807 := by omega
 have hu1 : IntKind.u64.wrap 1 = 1 := IntWalk.u64_in _ (by omega)
 have hun : IntKind.u64.wrap (n : Int) = (n : Int) := IntWalk.u64_in _ (by omega)
 have hin : IntKind.i64.wrap (n : Int) = (n : Int) := IntWalk.i64_in _ (by omega)
 clear hx hn
 go_enter Tryz.func60, Tryz.ntmps60
 go_upto_region 6 with (first | (go_at_call 117; refine (bits_Mul.calls 1 n 0 n _ (mul_one_f n (by have := HN.out; omega))).mono ?_; rintro e w1 ⟨rfl, hd⟩; have HB1 := aMk (CFin.drawn0_below hd); clear hd))
 go_upto_region 7 with (first | ((with_reducible refine gate_dst (N := 30) rfl ?_); refine Kd.R_make (Kd.int .i64) (w0 := w) w.heap.size 3 rfl rfl 22 (.tmp 29) (.tmp 29) rfl (n : Int) (by first | (go_simp; done) | (go_simp; rfl)) (by first | (go_simp; done) | (go_simp; rfl)) Tryz.underlying22 (.int .i64 0) 8 info3 rfl (by decide) (by omega) (0 : Int) (ok := fun _ => True) (okp := fun _ => False) rfl (fun _ h => h.elim) trivial (by omega) (by have := HN.out; simp only [qtN]; omega) HB1.out HB1.out.size ?_; intro v2 w2 hv hb hg hat; rw [qtN] at hv; have HV := aMk hv; have HB2 := aMk hb; clear hv hb hg hat))
 rcases Nat.eq_zero_or_pos n with hz | hz
 ·subst hz
  obtain ⟨A2, c2, e2⟩ := Kd.R_slice HV.out
  rw [qlr] at e2
  subst e2
  have HZ := aMk (SLk.of_R HV.out)
  go_upto_region 8 with (first | ((with_reducible refine gate_builtin (b := .copy) (xs := #[.tmp 31, .tmp 32]) rfl ?_); refine wpList_copy_nothing rfl (.tmp 31) (.tmp 32) 22 22 rfl 3 Tryz.underlying22 sz3 A2 A 0 c2 1 c ?hd ?hs (by rfl) ?_; (case hd => first | rfl | (go_simp; done) | (go_simp; rfl)); (case hs => first | rfl | (go_simp; done) | (go_simp; rfl))))
  refine wp_loop_rounds 1 ?_
  rw [rounds_succ]
  go_wp2
  go_ret
  exact ⟨_, rfl, HZ.out, HB2.out⟩
 ·have HN0 := aMk hz
  have hzI : (0 : Int) < (n : Int) := by omega
  obtain ⟨hlen, hown⟩ := Kd.own_of_R HV.out
  rcases hown with ⟨-, hn0⟩ | ⟨g, cap, cur, ev, hg, hblk, hcap, hmax, hcs, htk⟩
  ·rw [qlr] at hn0; omega
  ·rw [qlr] at ev hcap
   subst ev
   have HG := aMk hg
   have HBK : Aside0 (w2.heap[g]? = some (.cells cur.toList.toArray 3 (0, 0))) := ⟨by rw [Array.toArray_toList]; exact hblk⟩
   have HCAP := aMk hcap
   have HCS : Aside0 (cur.size = cap) := ⟨by simpa using hcs⟩
   have HSRC : Aside0 (∃ ad, A = some ad ∧ ∀ (j : Nat) (v : Value), [Value.int .i64 x][j]? = some v → w2.cell? (ad.add j) = some v) := ⟨by
    obtain ⟨ad, c', e, h⟩ := SLk.at_int (SLk.below HX.out HB2.out) 0 (by omega) (by simp)
    injection e with e _ _
    refine ⟨ad, e, fun j v hj => ?_⟩
    match j, hj with
    | 0, hj =>
     obtain rfl := qoI hj
     exact h
    | j + 1, hj => simp at hj⟩
   have HMIN : Aside0 ([Value.int .i64 x].length = Nat.min 1 n) := ⟨(Nat.min_eq_left (show 1 ≤ n from HN0.out)).symm⟩
   have HFIT : Aside0 (0 + [Value.int .i64 x].length ≤ cur.toList.length) := ⟨by show 0 + 1 ≤ cur.size; have h0 := HCS.out; have h1 := HCAP.out; have h2 := HN0.out; omega⟩
   have HONE : Aside0 (∀ v ∈ [Value.int .i64 x], v.oneCell' = true) := ⟨fun v hv => by rw [List.mem_singleton.1 hv]; rfl⟩
   have HSP : Aside0 (∀ W : World, W.heap[g]? = some (.cells (Go.splice cur.toList 0 [Value.int .i64 x]).toArray 3 (0, 0)) → HoldsX W g cap 1 x) := ⟨fun W hh => HoldsX.splice (cur := cur.toList) (k := 0) (m := 1) (by rw [Array.length_toList]; exact HCS.out) rfl (by have h1 := HCAP.out; have h2 := HN0.out; omega) hh⟩
   clear hz hlen hg hblk hcap hmax hcs htk HV
   go_upto_region 8 with (first | ((with_reducible refine gate_builtin (b := .copy) (xs := #[.tmp 31, .tmp 32]) rfl ?_); refine wpList_copy_splice rfl (.tmp 31) (.tmp 32) 22 22 rfl 3 Tryz.underlying22 sz3 (some ⟨g, 0, none⟩) A n cap 1 c ?hd ?hs g 0 cur.toList 3 HBK.out [.int .i64 x] HMIN.out (fun _ => ⟨rfl, HSRC.out⟩) HFIT.out HONE.out w.heap.size w HB2.out HG.out ?_; (case hd => first | rfl | (go_simp; done) | (go_simp; rfl)); (case hs => first | rfl | (go_simp; done) | (go_simp; rfl)); intro w3 hh hb; have HH3 := aMk (HSP.out w3 hh); have HB3 := aMk hb; clear hh hb))
   go_loopw [8] (fun v wr => ∃ k : Nat, v = .int .i64 k ∧ 1 ≤ k ∧ k ≤ n ∧ Aside0 (HoldsX wr g cap k x) ∧ Aside0 (Below w.heap.size w wr)) (fun v _ => n - (intOf v).toNat)
   case atStart => exact ⟨1, by go_num, qlR _, HN0.out, HH3, HB3⟩
   case round =>
    clear HH3 HB3
    obtain ⟨k, rfl, hk1, hkn, HH, HB⟩ := hrel
    by_cases hlt : k < n
    ·have hkI : (k : Int) < (n : Int) := by omega
     have hk0 : 0 ≤ (k : Int) := by omega
     have hkn' : (k : Int) ≤ (n : Int) := by omega
     have hkc : (k : Int) ≤ (cap : Int) := by have := HCAP.out; omega
     have hnc : (n : Int) ≤ (cap : Int) := by have := HCAP.out; omega
     have hne : ¬ (k : Int) = (cap : Int) := by have := HCAP.out; omega
     have HLT := aMk hlt
     obtain ⟨cur2, hc1, hc2, hc3⟩ := HH.out
     obtain ⟨m, hm⟩ : ∃ m, m = Nat.min k (n - k) := ⟨_, rfl⟩
     have hmk : m ≤ k := by rw [hm]; exact Nat.min_le_left _ _
     have hmn : m ≤ n - k := by rw [hm]; exact Nat.min_le_right _ _
     have hm1 : 1 ≤ m := by rw [hm]; exact Nat.le_min.2 ⟨hk1, by have := HLT.out; omega⟩
     have HM1 : Aside0 (1 ≤ m ∧ k + m ≤ n) := ⟨hm1, by have := HLT.out; omega⟩
     have HC1 : Aside0 (wr.drew.heap[g]? = some (.cells cur2.toArray 3 (0, 0))) := ⟨hc1⟩
     have HC2 := aMk hc2
     have HC3 := aMk hc3
     have HMN : Aside0 ((List.replicate m (Value.int .i64 x)).length = Nat.min k (n - k)) := ⟨by rw [qlr]; exact hm⟩
     have HKM : Aside0 (k + m ≤ cap) := ⟨by have h1 := HM1.out.2; have h2 := HCAP.out; omega⟩
     have HFT : Aside0 (k + (List.replicate m (Value.int .i64 x)).length ≤ cur2.length) := ⟨by rw [qlr, hc2]; exact HKM.out⟩
     have HON : Aside0 (∀ v ∈ List.replicate m (Value.int .i64 x), v.oneCell' = true) := ⟨fun v hv => by rw [List.eq_of_mem_replicate hv]; rfl⟩
     have HNE : Aside0 (¬ cap = k) := ⟨by have h1 := HM1.out; have h2 := HCAP.out; omega⟩
     have HCL : Aside0 (∀ (j : Nat) (v : Value), (List.replicate m (Value.int .i64 x))[j]? = some v → wr.drew.cell? ((⟨g, 0, none⟩ : Addr).add j) = some v) := ⟨fun j v hj => by
      obtain ⟨hl, hp⟩ := List.getElem?_eq_some_iff.1 hj
      have hl' : j < m := by simpa using hl
      have ev : v = .int .i64 x := by simpa using hp.symm
      rw [add_plain, ev]
      have := HH.out.cell j (by omega)
      simpa using this⟩
     have HBD : Aside0 (Below w.heap.size w wr.drew) := ⟨HB.out.drew⟩
     have hmI : 0 ≤ (m : Int) := by omega
     have hkmI : (k : Int) + (m : Int) ≤ 1000000 := by have h1 := HM1.out.2; have h2 := HN.out; omega
     clear hlt hkn hc1 hc2 hc3 hm hmk hmn hm1
     go_upto_region 9 with (fail)
     refine start_ (n := 10) (S := (fun W => Below w.heap.size w W)) (ds := []) #[false, false, false, false, false, false, false, false, false, false] (by kernel_rfl) (by kernel_rfl) (by rfl) HBD.out (fun hS0 => ?_)
     refine pure_ (i := 0) (N := (some 38)) (v := ?_) (a' := ?_) #[true, false, false, false, false, false, false, false, false, false] rfl rfl (by kernel_rfl) (fun _ _ _ h => h) (Or.inl ⟨by rfl, ?_⟩) ?_ ?_
     rotate_left
     ·intro w'
      go_simp
      with_reducible rfl
     rotate_left
     ·simp only [Act.put, sqA, sq0, sq1]
      rfl
     refine pure_ (i := 1) (N := (some 39)) (v := ?_) (a' := ?_) #[true, true, false, false, false, false, false, false, false, false] rfl rfl (by kernel_rfl) (fun _ _ _ h => h) (Or.inl ⟨by rfl, ?_⟩) ?_ ?_
     rotate_left
     ·intro w'
      go_simp
      with_reducible rfl
     rotate_left
     ·simp only [Act.put, sqA, sq0, sq1]
      rfl
     refine pure_ (i := 2) (N := (some 40)) (v := ?_) (a' := ?_) #[true, true, true, false, false, false, false, false, false, false] rfl rfl (by kernel_rfl) (fun _ _ _ h => h) (Or.inl ⟨by rfl, ?_⟩) ?_ ?_
     rotate_left
     ·intro w'
      go_simp
      with_reducible rfl
     rotate_left
     ·simp only [Act.put, sqA, sq0, sq1]
      rfl
     refine pure_ (i := 3) (N := (some 41)) (v := ?_) (a' := ?_) #[true, true, true, true, false, false, false, false, false, false] rfl rfl (by kernel_rfl) (fun _ _ _ h => h) (Or.inl ⟨by rfl, ?_⟩) ?_ ?_
     rotate_left
     ·intro w'
      go_simp
      with_reducible rfl
     rotate_left
     ·simp only [Act.put, sqA, sq0, sq1]
      rfl
     refine pure_ (i := 4) (N := (some 42)) (v := ?_) (a' := ?_) #[true, true, true, true, true, false, false, false, false, false] rfl rfl (by kernel_rfl) (fun _ _ _ h => h) (Or.inl ⟨by rfl, ?_⟩) ?_ ?_
     rotate_left
     ·intro w'
      go_simp
      with_reducible rfl
     rotate_left
     ·simp only [Act.put, sqA, sq0, sq1]
      rfl
     refine pure_ (i := 5) (N := (some 43)) (v := ?_) (a' := ?_) #[true, true, true, true, true, true, false, false, false, false] rfl rfl (by kernel_rfl) (fun _ _ _ h => h) (Or.inl ⟨by rfl, ?_⟩) ?_ ?_
     rotate_left
     ·intro w'
      go_simp
      with_reducible rfl
     rotate_left
     ·simp only [Act.put, sqA, sq0, sq1]
      rfl
     refine pure_ (i := 6) (N := (some 44)) (v := ?_) (a' := ?_) #[true, true, true, true, true, true, true, false, false, false] rfl rfl (by kernel_rfl) (fun _ _ _ h => h) (Or.inl ⟨by rfl, ?_⟩) ?_ ?_
     rotate_left
     ·intro w'
      go_simp
      with_reducible rfl
     rotate_left
     ·simp only [Act.put, sqA, sq0, sq1]
      rfl
     clear hS0
     refine one_ (i := 7) (N := (some 45)) #[true, true, true, true, true, true, true, true, false, false] rfl rfl (by kernel_rfl) (by decide) (fun K hK => ?_)
     refine step_copy_splice rfl (.tmp 41) (.tmp 44) 22 22 rfl 3 Tryz.underlying22 sz3 (some ⟨g, k, none⟩) (some ⟨g, 0, none⟩) (n - k) (cap - k) k cap ?hd ?hs g k cur2 3 HC1.out (List.replicate m (.int .i64 x)) HMN.out (fun _ => ⟨rfl, _, rfl, HCL.out⟩) HFT.out HON.out w.heap.size w HBD.out HG.out ?_
     case hd => (show Value.slice (if cap = k then _ else _) _ _ = _); rw [if_neg HNE.out]
     case hs => rfl
     intro w5 hh hb
     have HH5 := aMk (HoldsX.splice (m := m) HC2.out HC3.out HKM.out hh)
     have HB5 := aMk hb
     clear hh hb
     rw [show goInt (List.replicate m (Value.int .i64 x)).length = Value.int .i64 (m : Int) by simp [goInt]]
     change K (Act.put _ (some 45) _) _
     refine hK.out _ _ HB5.out (fun hS0 => ?_)
     clear hK
     refine norm_ (a' := ?_) ?_ ?_
     rotate_left
     ·simp only [Act.put, sqA, sq0, sq1]
      rfl
     refine pure_ (i := 8) (N := (some 46)) (v := ?_) (a' := ?_) #[true, true, true, true, true, true, true, true, true, false] rfl rfl (by kernel_rfl) (fun _ _ _ h => h) (Or.inl ⟨by rfl, ?_⟩) ?_ ?_
     rotate_left
     ·intro w'
      go_simp
      with_reducible rfl
     rotate_left
     ·simp only [Act.put, sqA, sq0, sq1]
      rfl
     refine pure_ (i := 9) (N := (some 8)) (v := ?_) (a' := ?_) #[true, true, true, true, true, true, true, true, true, true] rfl rfl (by kernel_rfl) (fun _ _ _ h => h) (Or.inl ⟨by rfl, ?_⟩) ?_ ?_
     rotate_left
     ·intro w'
      go_simp
      with_reducible rfl
     rotate_left
     ·simp only [Act.put, sqA, sq0, sq1]
      rfl
     refine done_ (by kernel_rfl) ?_
     clear hS0
     have hw : IntKind.i64.wrap ((k : Int) + (m : Int)) = ((k + m : Nat) : Int) := by rw [IntWalk.i64_in _ (by omega)]; omega
     go_wp2
     rw [hw]
     exact ⟨⟨k + m, rfl, by omega, HM1.out.2, HH5, HB5⟩, by have h1 := HM1.out; simp [intOf]; omega⟩
    ·obtain rfl : k = n := by omega
     clear hlt
     go_wp2
     go_ret
     exact ⟨_, rfl, HH.out.reads HCAP.out (by have := HN.out; omega), HB.out⟩
end KRep
end
section
namespace KBehind
open U PKashidaStretches KRank KPlace UJoin
def mEnd (ts : List Int) : Nat → Nat → Nat
 | 0, at_ => at_
 | d + 1, at_ => if at_ + 1 < ts.length ∧ rd ts ((at_ + 1 : Nat) : Int) = 1 then mEnd ts d (at_ + 1) else at_
theorem mEnd_lt (ts : List Int) : ∀ d at_, at_ < ts.length → mEnd ts d at_ < ts.length
 | 0, _, h => h
 | d + 1, at_, h => by
  unfold mEnd
  split
  ·rename_i h2; exact mEnd_lt ts d (at_ + 1) h2.1
  ·exact h
theorem behind_ev (xs ts : List Int) (hl : ts.length = xs.length) (hm : xs.length ≤ 1000000) : ∀ (d at_ : Nat), at_ < xs.length → xs.length ≤ at_ + d + 1 → Ev (fun k => kashida_text_behind.l0 k at_ xs ts) (mEnd ts d at_)
 | 0, at_, h, h2 => by
  refine Ev.step (fun k => by rw [kashida_text_behind.l0]) ?_
  rw [show wrap64 ((at_ : Int) + 1) = ((at_ + 1 : Nat) : Int) by rw [w64 (by omega) (by omega)]; omega]
  exact ev_neg (by omega) (ev_now _)
 | d + 1, at_, h, h2 => by
  refine Ev.step (fun k => by rw [kashida_text_behind.l0]) ?_
  rw [show wrap64 ((at_ : Int) + 1) = ((at_ + 1 : Nat) : Int) by rw [w64 (by omega) (by omega)]; omega]
  unfold mEnd
  by_cases h3 : at_ + 1 < ts.length
  ·refine ev_pos (by omega) (ev_pos (by omega) (ev_pos (by omega) ?_))
   by_cases h4 : rd ts ((at_ + 1 : Nat) : Int) = 1
   ·rw [if_pos ⟨h3, h4⟩]
    exact ev_pos h4 (behind_ev xs ts hl hm d (at_ + 1) (by omega) (by omega))
   ·rw [if_neg (fun h => h4 h.2)]
    exact ev_neg h4 (ev_now _)
  ·rw [if_neg (fun h => h3 h.1)]
   exact ev_neg (by omega) (ev_now _)
theorem behind_c {w : World} {A B : Option Addr} {c d : Nat} {xs ts : List Int} (hx : SL w (.slice A xs.length c) xs) (ht : SL w (.slice B ts.length d) ts) (hl : ts.length = xs.length) (hm : xs.length ≤ 1000000) (i : Nat) (hi : i < xs.length) :
 Calls Tryz.prog 57 #[.agg #[.slice A xs.length c, .slice B ts.length d], .int .i64 i] w fun e w' => e = .returned (.int .i64 (mEnd ts xs.length i : Nat)) ∧ Below w.heap.size w w' := by
 obtain ⟨A', c', e1, hc1, hC1⟩ := hx
 obtain ⟨B', d', e2, hc2, hC2⟩ := ht
 injection e1 with e1 e3 e4
 injection e2 with e5 e6 e7
 subst e1; subst e4; subst e5; subst e7
 obtain ⟨k, hk⟩ := CFin.ev_some (behind_ev xs ts hl hm xs.length i hi (by omega))
 exact kashida_text_behind.calls k A c xs B d ts i _ w hC1 hc1 hC2 hc2 hk
end KBehind
end
section
namespace UStretch
open KBehind
def share (n m i : Nat) : Nat := n / m + (if i < n % m then 1 else 0)
def shares (n m : Nat) : Nat → Nat
 | 0 => 0
 | i + 1 => shares n m i + share n m i
theorem shares_is (n m : Nat) : ∀ i, shares n m i = i * (n / m) + min i (n % m)
 | 0 => by simp [shares]
 | i + 1 => by
  rw [shares, shares_is n m i, share, Nat.add_mul, Nat.one_mul]
  split <;> omega
theorem shares_all (n m : Nat) (hm : 0 < m) : shares n m m = n := by
 rw [shares_is]
 have h1 := Nat.mod_lt n hm
 have h2 := Nat.div_add_mod n m
 omega
theorem shares_le (n m : Nat) (hm : 0 < m) (i : Nat) (hi : i ≤ m) : shares n m i ≤ n := by
 rw [shares_is]
 have h1 := Nat.mod_lt n hm
 have h2 := Nat.div_add_mod n m
 have h3 : i * (n / m) ≤ m * (n / m) := Nat.mul_le_mul_right _ hi
 omega
theorem sum_set : ∀ (l : List Nat) (b v : Nat), b < l.length → (l.set b (l.getD b 0 + v)).sum = l.sum + v
 | [], b, v, h => absurd h (Nat.not_lt_zero b)
 | x :: l, 0, v, h => by simp; omega
 | x :: l, b + 1, v, h => by
  have := sum_set l b v (by simpa using h)
  simp only [List.set_cons_succ, List.sum_cons, List.getD_cons_succ]
  omega
theorem getD_le_sum : ∀ (l : List Nat) (b : Nat), l.getD b 0 ≤ l.sum
 | [], b => by simp
 | x :: l, 0 => by simp
 | x :: l, b + 1 => by
  have := getD_le_sum l b
  simp only [List.getD_cons_succ, List.sum_cons]
  omega
def manyTo (ts : List Int) (N n : Nat) (ps : List Nat) : Nat → List Nat
 | 0 => List.replicate N 0
 | i + 1 => (manyTo ts N n ps i).set (mEnd ts N (ps.getD i 0)) ((manyTo ts N n ps i).getD (mEnd ts N (ps.getD i 0)) 0 + share n ps.length i)
theorem manyTo_len (ts : List Int) (N n : Nat) (ps : List Nat) : ∀ i, (manyTo ts N n ps i).length = N
 | 0 => by simp [manyTo]
 | i + 1 => by rw [manyTo, List.length_set, manyTo_len ts N n ps i]
theorem manyTo_sum (ts : List Int) (N n : Nat) (ps : List Nat) (hts : ts.length = N) (hp : ∀ p ∈ ps, p < N) : ∀ i, i ≤ ps.length → (manyTo ts N n ps i).sum = shares n ps.length i
 | 0, _ => by simp [manyTo, shares]
 | i + 1, h => by
  have hpi : ps.getD i 0 < N := by
   rw [qgD, qgG (show i < ps.length by omega)]
   exact hp _ (List.getElem_mem _)
  have hb := mEnd_lt ts N (ps.getD i 0) (by omega)
  rw [manyTo, shares, sum_set _ _ _ (by rw [manyTo_len]; omega), manyTo_sum ts N n ps hts hp i (by omega)]
def rowsOf (xs : List Int) (many : List Nat) : List (List Int) := (List.range xs.length).map fun i : Nat => xs.getD i 0 :: List.replicate (many.getD i 0) 1600
theorem rowsOf_len (xs : List Int) (many : List Nat) : (rowsOf xs many).length = xs.length := by simp [rowsOf]
theorem sum_map_add (f g : Nat → Nat) : ∀ n, ((List.range n).map fun i => f i + g i).sum = ((List.range n).map f).sum + ((List.range n).map g).sum
 | 0 => rfl
 | n + 1 => by
  rw [List.range_succ, List.map_append, List.map_append, List.map_append, List.sum_append, List.sum_append, List.sum_append, sum_map_add f g n]
  simp
  omega
theorem sum_getD : ∀ l : List Nat, ((List.range l.length).map fun i : Nat => l.getD i 0).sum = l.sum
 | [] => rfl
 | x :: l => by
  rw [List.length_cons, List.range_succ_eq_map, List.map_cons, List.map_map, List.sum_cons, List.sum_cons]
  have := sum_getD l
  simp only [Function.comp_def, List.getD_cons_succ, List.getD_cons_zero]
  rw [this]
theorem ones : ∀ n, ((List.range n).map fun _ : Nat => 1).sum = n
 | 0 => rfl
 | n + 1 => by rw [List.range_succ, List.map_append, List.sum_append, ones n]; rfl
theorem rowsOf_flat (xs : List Int) (many : List Nat) (h : many.length = xs.length) : (rowsOf xs many).flatten.length = xs.length + many.sum := by
 unfold rowsOf
 rw [List.length_flatten, List.map_map]
 have e : (List.length ∘ fun i : Nat => xs.getD i 0 :: List.replicate (many.getD i 0) (1600 : Int)) = fun i => 1 + many.getD i 0 := by
  funext i
  simp
  omega
 rw [e, sum_map_add (fun _ => 1) (fun i => many.getD i 0), ← h, sum_getD many, ones]
end UStretch
end
section
namespace UStretch
open KBehind
def addAt (l : List Nat) (b v : Nat) : List Nat := l.set b (l.getD b 0 + v)
theorem addAt_zero (l : List Nat) (b : Nat) : addAt l b 0 = l := by
 unfold addAt
 by_cases h : b < l.length
 ·rw [qgD, qgG h]
  simp
 ·rw [List.set_eq_of_length_le (by omega)]
theorem addAt_same (l : List Nat) (b v u : Nat) : addAt (addAt l b v) b u = addAt l b (v + u) := by
 unfold addAt
 by_cases h : b < l.length
 ·simp [qgD, h, Nat.add_assoc]
 ·rw [List.set_eq_of_length_le (by simp; omega), List.set_eq_of_length_le (by omega), List.set_eq_of_length_le (by omega)]
theorem addAt_comm (l : List Nat) (b c v u : Nat) : addAt (addAt l b v) c u = addAt (addAt l c u) b v := by
 by_cases e : b = c
 ·subst e; rw [addAt_same, addAt_same, Nat.add_comm]
 ·unfold addAt
  rw [List.set_comm _ _ e]
  have h1 : (l.set b (l.getD b 0 + v)).getD c 0 = l.getD c 0 := by rw [qgD, List.getElem?_set_ne e, ← qgD]
  have h2 : (l.set c (l.getD c 0 + u)).getD b 0 = l.getD b 0 := by rw [qgD, List.getElem?_set_ne (fun h => e h.symm), ← qgD]
  rw [h1, h2]
theorem share_succ (n m i : Nat) (hm : 0 < m) : share (n + 1) m i = share n m i + (if i = n % m then 1 else 0) ∨ m ≤ i := by
 by_cases hi : m ≤ i
 ·exact .inr hi
 ·refine .inl ?_
  unfold share
  have hr := Nat.mod_lt n hm
  by_cases h : n % m + 1 = m
  ·have e1 : (n + 1) / m = n / m + 1 := by
    have h2 := Nat.div_add_mod n m
    rw [show n + 1 = m * (n / m + 1) by rw [Nat.mul_add, Nat.mul_one]; omega, Nat.mul_div_cancel_left _ hm]
   have e2 : (n + 1) % m = 0 := by
    have h2 := Nat.div_add_mod n m
    rw [show n + 1 = m * (n / m + 1) by rw [Nat.mul_add, Nat.mul_one]; omega, Nat.mul_mod_right]
   rw [e1, e2, if_neg (Nat.not_lt_zero i)]
   split <;> split <;> omega
  ·have h2 := Nat.div_add_mod n m
   have e1 : (n + 1) / m = n / m := by
    rw [show n + 1 = m * (n / m) + (n % m + 1) by omega, Nat.mul_add_div hm, Nat.div_eq_of_lt (show n % m + 1 < m by omega), Nat.add_zero]
   have e2 : (n + 1) % m = n % m + 1 := by
    rw [show n + 1 = m * (n / m) + (n % m + 1) by omega, Nat.mul_add_mod, Nat.mod_eq_of_lt (show n % m + 1 < m by omega)]
   rw [e1, e2]
   split <;> split <;> split <;> omega
theorem manyTo_next (ts : List Int) (N n : Nat) (ps : List Nat) (hm : 0 < ps.length) : ∀ i, i ≤ ps.length → manyTo ts N (n + 1) ps i = if n % ps.length < i then addAt (manyTo ts N n ps i) (mEnd ts N (ps.getD (n % ps.length) 0)) 1 else manyTo ts N n ps i
 | 0, _ => by simp [manyTo]
 | i + 1, h => by
  have ih := manyTo_next ts N n ps hm i (by omega)
  have hs := (share_succ n ps.length i hm).resolve_right (by omega)
  have e1 : manyTo ts N (n + 1) ps (i + 1) = addAt (manyTo ts N (n + 1) ps i) (mEnd ts N (ps.getD i 0)) (share (n + 1) ps.length i) := rfl
  have e2 : manyTo ts N n ps (i + 1) = addAt (manyTo ts N n ps i) (mEnd ts N (ps.getD i 0)) (share n ps.length i) := rfl
  rw [e1, e2, ih, hs]
  by_cases h1 : n % ps.length < i
  ·rw [if_pos h1, if_pos (show n % ps.length < i + 1 by omega), if_neg (show ¬ i = n % ps.length by omega), Nat.add_zero, addAt_comm]
  ·rw [if_neg h1]
   by_cases h2 : i = n % ps.length
   ·rw [if_pos h2, if_pos (show n % ps.length < i + 1 by omega), ← addAt_same, ← h2]
   ·rw [if_neg h2, if_neg (show ¬ n % ps.length < i + 1 by omega), Nat.add_zero]
def docTo (ts : List Int) (N : Nat) (ps : List Nat) : Nat → List Nat
 | 0 => List.replicate N 0
 | k + 1 => addAt (docTo ts N ps k) (mEnd ts N (ps.getD (k % ps.length) 0)) 1
theorem manyTo_none (ts : List Int) (N : Nat) (ps : List Nat) : ∀ i, manyTo ts N 0 ps i = List.replicate N 0
 | 0 => rfl
 | i + 1 => by
  have e2 : manyTo ts N 0 ps (i + 1) = addAt (manyTo ts N 0 ps i) (mEnd ts N (ps.getD i 0)) (share 0 ps.length i) := rfl
  have e3 : share 0 ps.length i = 0 := by simp [share]
  rw [e2, e3, addAt_zero, manyTo_none ts N ps i]
theorem docTo_is (ts : List Int) (N : Nat) (ps : List Nat) (hm : 0 < ps.length) : ∀ n, docTo ts N ps n = manyTo ts N n ps ps.length
 | 0 => (manyTo_none ts N ps ps.length).symm
 | n + 1 => by
  rw [docTo, docTo_is ts N ps hm n, manyTo_next ts N n ps hm ps.length (qlR _), if_pos (Nat.mod_lt _ hm)]
theorem docTo_len (ts : List Int) (N : Nat) (ps : List Nat) : ∀ k, (docTo ts N ps k).length = N
 | 0 => by simp [docTo]
 | k + 1 => by rw [docTo, addAt, List.length_set, docTo_len ts N ps k]
theorem docTo_sum (ts : List Int) (N : Nat) (ps : List Nat) (hts : ts.length = N) (hm : 0 < ps.length) (hp : ∀ p ∈ ps, p < N) : ∀ k, (docTo ts N ps k).sum = k
 | 0 => by simp [docTo]
 | k + 1 => by
  have hk := Nat.mod_lt k hm
  have hpi : ps.getD (k % ps.length) 0 < N := by
   rw [qgD, qgG hk]
   exact hp _ (List.getElem_mem _)
  have hb := mEnd_lt ts N (ps.getD (k % ps.length) 0) (by omega)
  rw [docTo, addAt, sum_set _ _ _ (by rw [docTo_len]; omega), docTo_sum ts N ps hts hm hp k]
theorem rowsOf_add (xs : List Int) (M : List Nat) (b : Nat) (h : M.length = xs.length) (hb : b < xs.length) : (rowsOf xs M).set b ((rowsOf xs M).getD b [] ++ [1600]) = rowsOf xs (addAt M b 1) := by
 apply List.ext_getElem
 ·simp [rowsOf]
 ·intro i h1 h2
  have hi : i < xs.length := by simpa [rowsOf] using h1
  rw [List.getElem_set]
  by_cases e : b = i
  ·subst e
   rw [if_pos rfl]
   simp [rowsOf, addAt, qgD, hi, h, List.replicate_succ']
  ·rw [if_neg e]
   simp [rowsOf, addAt, qgD, List.getElem?_set_ne e]
end UStretch
end
section
namespace PKashidaStretches
open PJoinForms (naskhref13_Behind.f naskhref13_Behind.calls naskhref13_Joined.f naskhref13_Joined.calls)
open U (SLk.mk)

attribute [local go_sem] max2_int min2_int max_two min_two max_three min_three max_four min_four
noncomputable def naskhref07_Joins.f (k : Nat) (l : List Int) : Option (List Int) := if l.length ≤ 1000000 then some (l.map CJoins.jn) else none
theorem naskhref07_Joins.calls (k : Nat) (A0 : Option Addr) (c0 : Nat) (l0 : List Int) (r : List Int) (w : World) (hr0 : Kd.C (Kd.int .i64) w A0 l0.length l0) (hc0 : l0.length ≤ c0) (h : naskhref07_Joins.f k l0 = some r) :
 Calls Tryz.prog 23 #[.slice A0 l0.length c0] w fun e w' => ∃ v0_ : Value, e = .returned (v0_) ∧ Kd.R (Kd.int .i64) 3 w' w.heap.size (fun _ => True) v0_ r ∧ Below w.heap.size w w' := by
 unfold naskhref07_Joins.f at h
 split at h
 ·rename_i hm
  obtain rfl := qoI h
  exact CJoins.joinsR_c (SLk.mk hr0 hc0) hm
 ·cases h
open U KRank KPlace in
theorem refRank_c {w : World} {A0 A1 : Option Addr} {c0 c1 : Nat} {l0 l1 : List Int} (hx : SL w (.slice A0 l0.length c0) l0) (ht : SL w (.slice A1 l1.length c1) l1) (hm : l1.length ≤ 1000000) (i b : Int) (h0 : 0 ≤ i) (h1 : i < l0.length) (hb : b = UJoin.behindI l1 i) (h2 : 0 ≤ b) (h3 : b < l0.length) :
 Calls Tryz.prog 67 #[.slice A0 l0.length c0, .slice A1 l1.length c1, .int .i64 i] w fun e w' => e = .returned (.int .i64 (rk2 (rankO (rd l0 i)) (rankO (rd l0 b)))) ∧ Below w.heap.size w w' := by
 obtain ⟨ad, cx, ea, k0⟩ := SLk.at_int hx i h0 h1
 obtain ⟨ad', cx', ea', k1⟩ := SLk.at_int hx b h2 h3
 injection ea with ea e2 e3
 clear e2 e3
 subst ea
 injection ea' with ea' e2 e3
 clear e2 e3
 obtain rfl := qoI ea'
 clear ea'
 generalize rd l0 i = x at k0 ⊢
 generalize rd l0 b = y at k1 ⊢
 have HX := aMk hx
 have HT := aMk ht
 have HM := aMk hm
 have HBE := aMk hb
 have HK1 := aMk k1
 clear hx ht hm hb k1
 obtain ⟨z, hz⟩ : ∃ z, z = rk2 (rankO x) (rankO y) := ⟨_, rfl⟩
 rw [← hz]
 have HZ := aMk hz; clear hz
 have TOK : Aside0 True := ⟨trivial⟩
 go_enter Tryz.func67, Tryz.ntmps67
 go_upto_region 2 with (first | (go_at_call 22; clear TOK; refine (rrank_c x _).mono ?_; rintro e w1 ⟨rfl, hb⟩; have HB1 := aMk hb; clear hb) | (go_at_call 26; refine (CJoin3.rbehind_c (SLk.below HT.out HB1.out) HM.out i).mono ?_; rintro e w2 ⟨rfl, hb⟩; rw [← HBE.out]; have HB2 := aMk (qbP HB1.out hb); have k1 := (HB2.out.cell (qwL _ _ HK1.out)).trans HK1.out; clear hb) | (go_at_call 22; refine (rrank_c y _).mono ?_; rintro e w3 ⟨rfl, hb⟩; have HB3 := aMk (qbP HB2.out hb); clear hb))
 generalize rankO x = rx at HZ ⊢
 generalize rankO y = ry at HZ ⊢
 unfold rk2 mn at HZ
 by_cases c1 : rx > 2 <;> by_cases c2 : ry < 3
 all_goals
  go_wp2 <;> (go_ret; refine ⟨?_, HB3.out⟩; refine congrArg (fun t : Int => Ending.returned (Value.int .i64 t)) ?_; rw [HZ.out]; (repeat' split) <;> omega)
noncomputable def naskhref42_rank.f (k : Nat) (l0 : List Int) (l1 : List Int) (a2 : Int) : Option Int := if 0 ≤ a2 ∧ a2 < (l0.length : Int) ∧ 0 ≤ UJoin.behindI l1 a2 ∧ UJoin.behindI l1 a2 < (l0.length : Int) ∧ l1.length ≤ 1000000 then some (KPlace.prank l0 l1 a2) else none
theorem naskhref42_rank.calls (k : Nat) (A0 : Option Addr) (c0 : Nat) (l0 : List Int) (A1 : Option Addr) (c1 : Nat) (l1 : List Int) (a2 : Int) (r : Int) (w : World) (hr0 : Kd.C (Kd.int .i64) w A0 l0.length l0) (hc0 : l0.length ≤ c0) (hr1 : Kd.C (Kd.int .i64) w A1 l1.length l1) (hc1 : l1.length ≤ c1) (h : naskhref42_rank.f k l0 l1 a2 = some r) :
 Calls Tryz.prog 67 #[.slice A0 l0.length c0, .slice A1 l1.length c1, .int .i64 a2] w fun e w' => e = .returned (.int .i64 r) ∧ Below w.heap.size w w' := by
 unfold naskhref42_rank.f at h
 split at h
 ·rename_i hc
  obtain ⟨h0, h1, h2, h3, h4⟩ := hc
  obtain rfl := qoI h
  exact refRank_c (SLk.mk hr0 hc0) (SLk.mk hr1 hc1) h4 a2 _ h0 h1 rfl h2 h3
 ·cases h
mutual
noncomputable def naskhref42_Places.l0 : Nat → List Int → List Int → List Int → Int → Option (List Int)
 | 0, _, _, _, _ => none
 | k + 1, x0, x3, x4, x5 => if x5 ≤ 6 then (naskhref42_Places.l1 k x0 x3 x4 x5 (wrap64 ((x0.length : Int) - 1))) else (some x4)
noncomputable def naskhref42_Places.l1 : Nat → List Int → List Int → List Int → Int → Int → Option (List Int)
 | 0, _, _, _, _, _ => none
 | k + 1, x0, x3, x4, x5, x6 => if x6 ≥ 0 then ((naskhref13_Joined.f k x3 x6).bind fun t274 => (if t274 = true then (if 0 ≤ x6 then (if x6 < (x0.length : Int) then (if (rd x0 x6) = 1604 then ((naskhref13_Behind.f k x3 x6).bind fun t276 => (if 0 ≤ t276 then (if t276 < (x0.length : Int) then ((naskhref14_Alef.f k (rd x0 t276)).bind fun t278 => (naskhref42_Places.j2 k x0 x3 x4 x5 x6 t278)) else (none)) else (none))) else (naskhref42_Places.j2 k x0 x3 x4 x5 x6 false)) else (none)) else (none)) else (naskhref42_Places.j2 k x0 x3 x4 x5 x6 true))) else (naskhref42_Places.l0 k x0 x3 x4 (wrap64 (x5 + 1)))
noncomputable def naskhref42_Places.j2 : Nat → List Int → List Int → List Int → Int → Int → Bool → Option (List Int)
 | 0, _, _, _, _, _, _ => none
 | k + 1, x0, x3, x4, x5, x6, x39 => if x39 = true then (naskhref42_Places.l1 k x0 x3 x4 x5 (wrap64 (x6 - 1))) else ((naskhref42_rank.f k x0 x3 x6).bind fun t279 => (if t279 = x5 then (if x4.length < 17592186044416 then (naskhref42_Places.l1 k x0 x3 (x4 ++ [x6]) x5 (wrap64 (x6 - 1))) else (none)) else (naskhref42_Places.l1 k x0 x3 x4 x5 (wrap64 (x6 - 1)))))
end
noncomputable def naskhref42_Places.f (k : Nat) (l0 : List Int) : Option (List Int) := (naskhref07_Joins.f k l0).bind fun t271 => (naskhref42_Places.l0 k l0 t271 ([] : List Int) 1)
theorem naskhref42_Places.calls (k : Nat) (A0 : Option Addr) (c0 : Nat) (l0 : List Int) (r : List Int) (w : World) (hr0 : Kd.C (Kd.int .i64) w A0 l0.length l0) (hc0 : l0.length ≤ c0) (h : naskhref42_Places.f k l0 = some r) :
 Calls Tryz.prog 20 #[.slice A0 l0.length c0] w fun e w' => ∃ v0_ : Value, e = .returned (v0_) ∧ Kd.R (Kd.int .i64) 3 w' w.heap.size (fun _ => True) v0_ r ∧ Below w.heap.size w w' := by
 have HR0 := aMk hr0
 have HC0 := aMk hc0
 clear hr0 hc0
 have HB := aMk (qBr w.heap.size w)
 have H : ((naskhref07_Joins.f k l0).bind fun t271 => (naskhref42_Places.l0 k l0 t271 ([] : List Int) 1)) = some r := h
 clear h
 replace H := qoB.mp H
 obtain ⟨t271, A20, H⟩ := H
 try dsimp only at H
 have A2 := aMk A20; clear A20
 have H' := aMk H
 clear H
 go_enter Tryz.func20, Tryz.ntmps20
 go_wp2_with (first | ((with_reducible refine gate_callee (f := 23) rfl ?_); refine goesL_ (some 8) rfl rfl Tryz.func23 (by kernel_rfl) rfl #[.slice A0 l0.length c0] rfl (by (try simp only [lm0, lm1, lm2]); first | done | rfl | (simp only [lm3, lm4]; rfl)) ?_; (with_reducible refine (naskhref07_Joins.calls k _ _ l0 t271 _ ?side1 ?side2 A2.out).mono ?_); (case side1 => exact HR0.out); (case side2 => exact HC0.out); rintro e w3 ⟨v272, rfl, ho0, hb⟩; refine ⟨_, rfl, ?_⟩; have n0_ := aMk (Kd.R_lower ho0 (qbZ HB.out)); have n1_ := aMk (qbP HB.out hb); clear HB; have HO273 := n0_; have HB := n1_; clear n0_ n1_; (try clear ho0)))
 go_loopg [4, 5] k (fun kq v4 v5 w' => ∃ (x4_1 : List Int) (x5_1 : Int), v5 = .int .i64 x5_1 ∧ Aside0 (naskhref42_Places.l0 kq l0 t271 x4_1 x5_1 = some r) ∧ Aside0 (kq ≤ k) ∧ Aside0 (Kd.R (Kd.int .i64) 3 w' w.heap.size (fun k_ => some k_ ≠ (v4 : Value).ownBlock) v272 t271) ∧ Aside0 (Kd.R (Kd.int .i64) 3 w' w.heap.size (fun k_ => some k_ ≠ (v272 : Value).ownBlock) v4 x4_1) ∧ Aside0 (Below w.heap.size w w'))
 case atStart => exact ⟨(([] : List Int)), (1), rfl, H', ⟨qlR _⟩, ⟨by (with_reducible repeat (first | apply qrA | apply qrN | apply qrD)); exact qrM HO273.out (fun _ hk => (by simp [Value.ownBlock]))⟩, ⟨by first | exact Kd.R_nil _ _ _ _ _ | exact Kd.N_nil _ _ _ _ _ | exact Kd.V_nil _ _ _ _ _ | exact Kd.Q_nil _ _ _ _ _ | exact Kd.S_nil _ _ _ _ _⟩, ⟨by repeat (first | (with_reducible first | exact HB.out | apply qbA | apply qbN | apply qb1) | exact HB.out)⟩⟩
 case round =>
  clear H'
  obtain ⟨x4_1, x5_1, rfl, HA, HK1, HO_3, HO_4, HB⟩ := hrel
  cases gk with
  | zero => exact absurd HA.out (by simp [naskhref42_Places.l0])
  | succ k1 =>
   have H := HA.out
   clear HA
   simp only [naskhref42_Places.l0] at H
   by_cases c4 : x5_1 ≤ 6
   ·rw [if_pos c4] at H
    have c4b0 := qdT c4
    clear c4
    have H' := aMk H
    clear H
    go_wp2
    go_loopg [4, 6] k1 (fun kq v4 v6 w' => ∃ (x4_2 : List Int) (x6_2 : Int), v6 = .int .i64 x6_2 ∧ Aside0 (naskhref42_Places.l1 kq l0 t271 x4_2 x5_1 x6_2 = some r) ∧ Aside0 (kq ≤ k1) ∧ Aside0 (Kd.R (Kd.int .i64) 3 w' w.heap.size (fun k_ => some k_ ≠ (v4 : Value).ownBlock) v272 t271) ∧ Aside0 (Kd.R (Kd.int .i64) 3 w' w.heap.size (fun k_ => some k_ ≠ (v272 : Value).ownBlock) v4 x4_2) ∧ Aside0 (Below w.heap.size w w'))
    case atStart => exact ⟨(x4_1), (wrap64 ((l0.length : Int) - 1)), rfl, H', ⟨qlR _⟩, ⟨by (with_reducible repeat (first | apply qrA | apply qrN | apply qrD)); exact HO_3.out⟩, ⟨by (with_reducible repeat (first | apply qrA | apply qrN | apply qrD)); exact HO_4.out⟩, ⟨by repeat (first | (with_reducible first | exact HB.out | apply qbA | apply qbN | apply qb1) | exact HB.out)⟩⟩
    case round =>
     clear H'
     obtain ⟨x4_2, x6_2, rfl, HA, HK2, HO_3, HO_4, HB⟩ := hrel
     cases gk with
     | zero => exact absurd HA.out (by simp [naskhref42_Places.l1])
     | succ k2 =>
      have H := HA.out
      clear HA
      simp only [naskhref42_Places.l1] at H
      by_cases c5 : x6_2 ≥ 0
      ·rw [if_pos c5] at H
       have c5b0 := qdT c5
       clear c5
       have HC6 := aMk H; clear H
       go_upto_region 9 with (fail)
       go_cut [39] (fun v39 wc => ∃ (kq : Nat) (x39_5 : Bool), v39 = .bool x39_5 ∧ Aside0 (naskhref42_Places.j2 kq l0 t271 x4_2 x5_1 x6_2 x39_5 = some r) ∧ Aside0 (kq ≤ k2) ∧ Aside0 (Kd.R (Kd.int .i64) 3 wc w.heap.size (fun k_ => some k_ ≠ (u4 : Value).ownBlock) v272 t271) ∧ Aside0 (Kd.R (Kd.int .i64) 3 wc w.heap.size (fun k_ => some k_ ≠ (v272 : Value).ownBlock) u4 x4_2) ∧ Aside0 (Below w.heap.size w wc))
       case first =>
        have H := HC6.out
        clear HC6
        replace H := qoB.mp H
        obtain ⟨t274, A70, H⟩ := H
        try dsimp only at H
        have A7 := aMk A70; clear A70
        by_cases c8 : t274 = true
        ·subst c8
         rw [if_pos rfl] at H
         by_cases c9 : 0 ≤ x6_2
         ·rw [if_pos c9] at H
          have c9b0 := qdT c9
          clear c9
          (first | rw [c9b0] | (simp only [i64_w, i32_w]; rw [c9b0]) | skip)
          by_cases c10 : x6_2 < (l0.length : Int)
          ·rw [if_pos c10] at H
           have c10b0 := qdT c10
           clear c10
           by_cases c11 : (rd l0 x6_2) = 1604
           ·rw [if_pos c11] at H
            have c11b0 : ((rd l0 x6_2) == 1604) = true := beq_iff_eq.mpr c11
            have c11b1 : ((rd l0 x6_2) != 1604) = false := bne_eq_false_iff_eq.mpr c11
            clear c11
            replace H := qoB.mp H
            obtain ⟨t276, A120, H⟩ := H
            try dsimp only at H
            have A12 := aMk A120; clear A120
            by_cases c13 : 0 ≤ t276
            ·rw [if_pos c13] at H
             have c13b0 := qdT c13
             clear c13
             by_cases c14 : t276 < (l0.length : Int)
             ·rw [if_pos c14] at H
              have c14b0 := qdT c14
              clear c14
              replace H := qoB.mp H
              obtain ⟨t278, A150, H⟩ := H
              try dsimp only at H
              have A15 := aMk A150; clear A150
              have H' := aMk H
              clear H
              obtain ⟨Ao16, co16, eo16⟩ := Kd.R_slice HO_3.out
              subst eo16
              go_wp2_with (first | ((with_reducible refine gate_callee (f := 24) rfl ?_); refine goesL_ (some 22) rfl rfl Tryz.func24 (by kernel_rfl) rfl #[.slice Ao16 t271.length co16, .int .i64 x6_2] rfl (by (try simp only [lm0, lm1, lm2]); first | done | rfl | (simp only [lm3, lm4]; rfl)) ?_; (with_reducible refine (naskhref13_Joined.calls k2 _ _ t271 x6_2 true _ ?side1 ?side2 A7.out).mono ?_); (case side1 => repeat (first | exact (Kd.R_reads' HO_3.out).2.2 | (with_reducible refine Kd.C_alloc ?_ _) | (with_reducible refine Kd.C_drewN ?_ _) | (with_reducible refine Kd.C_drew ?_))); (case side2 => exact (Kd.R_reads' HO_3.out).2.1); rintro e w' ⟨rfl, ⟨nd, rfl⟩⟩; refine ⟨_, rfl, ?_⟩; have p275 : 0 ≤ (x6_2 : Int) := qoD (by assumption); have q275 : x6_2 < (l0.length : Int) := qoD (by assumption); obtain ⟨ad275, e275, hx275_0⟩ := Kd.at_int HR0.out x6_2 p275 q275; cases e275; replace hx275_0 := (HB.out.cell (qwL w _ hx275_0)).trans hx275_0; replace p275 := eq_true p275; replace q275 := eq_true q275) | (go_at_call 26; (with_reducible refine (naskhref13_Behind.calls k2 _ _ t271 x6_2 t276 _ ?side1 ?side2 A12.out).mono ?_); (case side1 => repeat (first | exact (Kd.R_reads' HO_3.out).2.2 | (with_reducible refine Kd.C_alloc ?_ _) | (with_reducible refine Kd.C_drewN ?_ _) | (with_reducible refine Kd.C_drew ?_))); (case side2 => exact (Kd.R_reads' HO_3.out).2.1); rintro e w' ⟨rfl, ⟨nd, rfl⟩⟩; have p277 : 0 ≤ (t276 : Int) := qoD (by assumption); have q277 : t276 < (l0.length : Int) := qoD (by assumption); obtain ⟨ad277, e277, hx277_0⟩ := Kd.at_int HR0.out t276 p277 q277; obtain rfl : ad275 = ad277 := (by injection e277); replace hx277_0 := (HB.out.cell (qwL w _ hx277_0)).trans hx277_0; replace p277 := eq_true p277; replace q277 := eq_true q277) | (go_at_call 66; (with_reducible refine (naskhref14_Alef.calls k2 (rd l0 t276) t278 _ A15.out).mono ?_); rintro e w17 ⟨rfl, hb⟩; have n0_ := aMk (qrB (by (with_reducible repeat (first | apply qrA | apply qrN | apply qrD)); exact HO_3.out) hb); have n1_ := aMk (qrB (by (with_reducible repeat (first | apply qrA | apply qrN | apply qrD)); exact HO_4.out) hb); have n2_ := aMk (qbP (by repeat (first | (with_reducible first | exact HB.out | apply qbA | apply qbN | apply qb1) | exact HB.out)) hb); clear HO_3; clear HO_4; clear HB; have HO_3 := n0_; have HO_4 := n1_; have HB := n2_; clear n0_ n1_ n2_; (try clear hi)))
              go_meet
              case rel => exact ⟨_, (t278), rfl, H', ⟨by have := HK1.out; have := HK2.out; first | omega | exact qlR _⟩, ⟨by (with_reducible repeat (first | apply qrA | apply qrN | apply qrD)); exact HO_3.out⟩, ⟨by (with_reducible repeat (first | apply qrA | apply qrN | apply qrD)); exact HO_4.out⟩, ⟨by repeat (first | (with_reducible first | exact HB.out | apply qbA | apply qbN | apply qb1) | exact HB.out)⟩⟩
             ·rw [if_neg c14] at H
              exact absurd H (by simp)
            ·rw [if_neg c13] at H
             exact absurd H (by simp)
           ·rw [if_neg c11] at H
            have c11b0 : ((rd l0 x6_2) == 1604) = false := beq_eq_false_iff_ne.mpr c11
            have c11b1 : ((rd l0 x6_2) != 1604) = true := bne_iff_ne.mpr c11
            have H' := aMk H
            clear H
            obtain ⟨Ao18, co18, eo18⟩ := Kd.R_slice HO_3.out
            subst eo18
            go_wp2_with (first | ((with_reducible refine gate_callee (f := 24) rfl ?_); refine goesL_ (some 22) rfl rfl Tryz.func24 (by kernel_rfl) rfl #[.slice Ao18 t271.length co18, .int .i64 x6_2] rfl (by (try simp only [lm0, lm1, lm2]); first | done | rfl | (simp only [lm3, lm4]; rfl)) ?_; (with_reducible refine (naskhref13_Joined.calls k2 _ _ t271 x6_2 true _ ?side1 ?side2 A7.out).mono ?_); (case side1 => repeat (first | exact (Kd.R_reads' HO_3.out).2.2 | (with_reducible refine Kd.C_alloc ?_ _) | (with_reducible refine Kd.C_drewN ?_ _) | (with_reducible refine Kd.C_drew ?_))); (case side2 => exact (Kd.R_reads' HO_3.out).2.1); rintro e w' ⟨rfl, ⟨nd, rfl⟩⟩; refine ⟨_, rfl, ?_⟩; have p275 : 0 ≤ (x6_2 : Int) := qoD (by assumption); have q275 : x6_2 < (l0.length : Int) := qoD (by assumption); obtain ⟨ad275, e275, hx275_0⟩ := Kd.at_int HR0.out x6_2 p275 q275; cases e275; replace hx275_0 := (HB.out.cell (qwL w _ hx275_0)).trans hx275_0; replace p275 := eq_true p275; replace q275 := eq_true q275))
            go_meet
            case rel => exact ⟨_, (false), rfl, H', ⟨by have := HK1.out; have := HK2.out; first | omega | exact qlR _⟩, ⟨by (with_reducible repeat (first | apply qrA | apply qrN | apply qrD)); exact HO_3.out⟩, ⟨by (with_reducible repeat (first | apply qrA | apply qrN | apply qrD)); exact HO_4.out⟩, ⟨by repeat (first | (with_reducible first | exact HB.out | apply qbA | apply qbN | apply qb1) | exact HB.out)⟩⟩
          ·rw [if_neg c10] at H
           exact absurd H (by simp)
         ·rw [if_neg c9] at H
          exact absurd H (by simp)
        ·replace c8 := qbE.mpr c8
         subst c8
         rw [if_neg (show ¬ (false = true) by decide)] at H
         have H' := aMk H
         clear H
         obtain ⟨Ao19, co19, eo19⟩ := Kd.R_slice HO_3.out
         subst eo19
         go_wp2_with (first | ((with_reducible refine gate_callee (f := 24) rfl ?_); refine goesL_ (some 22) rfl rfl Tryz.func24 (by kernel_rfl) rfl #[.slice Ao19 t271.length co19, .int .i64 x6_2] rfl (by (try simp only [lm0, lm1, lm2]); first | done | rfl | (simp only [lm3, lm4]; rfl)) ?_; (with_reducible refine (naskhref13_Joined.calls k2 _ _ t271 x6_2 false _ ?side1 ?side2 A7.out).mono ?_); (case side1 => repeat (first | exact (Kd.R_reads' HO_3.out).2.2 | (with_reducible refine Kd.C_alloc ?_ _) | (with_reducible refine Kd.C_drewN ?_ _) | (with_reducible refine Kd.C_drew ?_))); (case side2 => exact (Kd.R_reads' HO_3.out).2.1); rintro e w' ⟨rfl, ⟨nd, rfl⟩⟩; refine ⟨_, rfl, ?_⟩))
         go_meet
         case rel => exact ⟨_, (true), rfl, H', ⟨by have := HK1.out; have := HK2.out; first | omega | exact qlR _⟩, ⟨by (with_reducible repeat (first | apply qrA | apply qrN | apply qrD)); exact HO_3.out⟩, ⟨by (with_reducible repeat (first | apply qrA | apply qrN | apply qrD)); exact HO_4.out⟩, ⟨by repeat (first | (with_reducible first | exact HB.out | apply qbA | apply qbN | apply qb1) | exact HB.out)⟩⟩
       case rest =>
        clear HC6
        obtain ⟨kq, x39_5, rfl, HA, HJ5, HO_3, HO_4, HB⟩ := hcut
        cases kq with
        | zero => exact absurd HA.out (by simp [naskhref42_Places.j2])
        | succ kj5 =>
         have H := HA.out
         clear HA
         simp only [naskhref42_Places.j2] at H
         by_cases c20 : x39_5 = true
         ·subst c20
          rw [if_pos rfl] at H
          have H' := aMk H
          clear H
          go_wp2
          go_roundg kj5
          case measure => have := HK1.out; have := HK2.out; have := HJ5.out; omega
          case rel => exact ⟨(x4_2), (wrap64 (x6_2 - 1)), rfl, H', ⟨by have := HK1.out; have := HK2.out; have := HJ5.out; omega⟩, ⟨by (with_reducible repeat (first | apply qrA | apply qrN | apply qrD)); exact HO_3.out⟩, ⟨by (with_reducible repeat (first | apply qrA | apply qrN | apply qrD)); exact HO_4.out⟩, ⟨by repeat (first | (with_reducible first | exact HB.out | apply qbA | apply qbN | apply qb1) | exact HB.out)⟩⟩
         ·replace c20 := qbE.mpr c20
          subst c20
          rw [if_neg (show ¬ (false = true) by decide)] at H
          replace H := qoB.mp H
          obtain ⟨t279, A210, H⟩ := H
          try dsimp only at H
          have A21 := aMk A210; clear A210
          by_cases c22 : t279 = x5_1
          ·rw [if_pos c22] at H
           have c22b0 : (t279 == x5_1) = true := beq_iff_eq.mpr c22
           have c22b1 : (t279 != x5_1) = false := bne_eq_false_iff_eq.mpr c22
           clear c22
           by_cases c23 : x4_2.length < 17592186044416
           ·rw [if_pos c23] at H
            have LMc23 := aMk c23; clear c23
            obtain ⟨y280, hy280⟩ : ∃ y_ : List Int, y_ = (x4_2 ++ [x6_2]) := ⟨_, rfl⟩
            replace H : (naskhref42_Places.l1 kj5 l0 t271 y280 x5_1 (wrap64 (x6_2 - 1))) = some r := by first | (rw [hy280]; with_reducible exact H) | (have H2_ := (qoS _ _).symm.trans H; rw [hy280]; with_reducible exact H2_) | (have H2_ := (qoS _ _).symm.trans H; with_reducible exact H2_) | with_reducible exact H | (rw [hy280]; exact H) | exact H
            have Ny280 := aMk hy280; clear hy280
            have H' := aMk H
            clear H
            obtain ⟨Ao24, co24, eo24⟩ := Kd.R_slice HO_3.out
            subst eo24
            go_wp2_with (first | ((with_reducible refine gate_callee (f := 67) rfl ?_); refine goesL_ (some 43) rfl rfl Tryz.func67 (by kernel_rfl) rfl #[.slice A0 l0.length c0, .slice Ao24 t271.length co24, .int .i64 x6_2] rfl (by (try simp only [lm0, lm1, lm2]); first | done | rfl | (simp only [lm3, lm4]; rfl)) ?_; (with_reducible refine (naskhref42_rank.calls kj5 _ _ l0 _ _ t271 x6_2 t279 _ ?side1 ?side2 ?side3 ?side4 A21.out).mono ?_); (case side1 => repeat (first | exact (Kd.C_below HR0.out HB.out) | (with_reducible refine Kd.C_alloc ?_ _) | (with_reducible refine Kd.C_drewN ?_ _) | (with_reducible refine Kd.C_drew ?_))); (case side2 => exact HC0.out); (case side3 => repeat (first | exact (Kd.R_reads' HO_3.out).2.2 | (with_reducible refine Kd.C_alloc ?_ _) | (with_reducible refine Kd.C_drewN ?_ _) | (with_reducible refine Kd.C_drew ?_))); (case side4 => exact (Kd.R_reads' HO_3.out).2.1); rintro e w25 ⟨rfl, hb⟩; refine ⟨_, rfl, ?_⟩; have n0_ := aMk (qrB HO_3.out hb); have n1_ := aMk (qrB HO_4.out hb); have n2_ := aMk (qbP HB.out hb); clear HO_3; clear HO_4; clear HB; have HO_3 := n0_; have HO_4 := n1_; have HB := n2_; clear n0_ n1_ n2_; (try clear hi)) | ((with_reducible refine gate_builtin (b := .append) (xs := #[.tmp 46, .tmp 48]) rfl ?_); at_builtin; refine Kd.R_append (Kd.int .i64) (w0 := w) w.heap.size rfl (.tmp 46) (.tmp 48) 22 3 (.int .i64 0) 8 rfl Tryz.underlying22 info3 rfl (by decide) (by omega) u4 x4_2 x6_2 [.int .i64 x6_2] (fun k_ => some k_ ≠ (.slice Ao24 t271.length co24 : Value).ownBlock) (fun _ => False) rfl rfl ?aP (fun _ hk => hk.elim) ?aF ?aO ?aB ?aS ?aL ?_; (case aP => exact rfl); (case aB => exact HB.out); (case aF => exact (fun k_ hk => Kd.fresh' (Kd.R_lt HO_3.out) k_ hk)); (case aO => exact HO_4.out); (case aS => exact (qbZ HB.out)); (case aL => have := LMc23.out; omega); intro v281 w26 ho hb hg hat; rw [← Ny280.out] at ho; have n0_ := aMk (Kd.R_after (ok := (fun _ => True)) (by (with_reducible repeat (first | apply qrA | apply qrN | apply qrD)); exact qrM HO_3.out (fun _ hk => ⟨trivial, hk⟩)) hg hat); have n1_ := aMk (hb); have n2_ := aMk (ho); clear HO_3; clear HB; clear HO_4; have HO_3 := n0_; have HB := n1_; have HO282 := n2_; clear n0_ n1_ n2_; clear ho hb hg hat))
            go_roundg kj5
            case measure => have := HK1.out; have := HK2.out; have := HJ5.out; omega
            case rel => exact ⟨(y280), (wrap64 (x6_2 - 1)), rfl, H', ⟨by have := HK1.out; have := HK2.out; have := HJ5.out; omega⟩, ⟨by (with_reducible repeat (first | apply qrA | apply qrN | apply qrD)); exact qrM HO_3.out (fun _ hk => hk.2)⟩, ⟨by (with_reducible repeat (first | apply qrA | apply qrN | apply qrD)); exact HO282.out⟩, ⟨by repeat (first | (with_reducible first | exact HB.out | apply qbA | apply qbN | apply qb1) | exact HB.out)⟩⟩
           ·rw [if_neg c23] at H
            exact absurd H (by simp)
          ·rw [if_neg c22] at H
           have c22b0 : (t279 == x5_1) = false := beq_eq_false_iff_ne.mpr c22
           have c22b1 : (t279 != x5_1) = true := bne_iff_ne.mpr c22
           have H' := aMk H
           clear H
           obtain ⟨Ao27, co27, eo27⟩ := Kd.R_slice HO_3.out
           subst eo27
           go_wp2_with (first | ((with_reducible refine gate_callee (f := 67) rfl ?_); refine goesL_ (some 43) rfl rfl Tryz.func67 (by kernel_rfl) rfl #[.slice A0 l0.length c0, .slice Ao27 t271.length co27, .int .i64 x6_2] rfl (by (try simp only [lm0, lm1, lm2]); first | done | rfl | (simp only [lm3, lm4]; rfl)) ?_; (with_reducible refine (naskhref42_rank.calls kj5 _ _ l0 _ _ t271 x6_2 t279 _ ?side1 ?side2 ?side3 ?side4 A21.out).mono ?_); (case side1 => repeat (first | exact (Kd.C_below HR0.out HB.out) | (with_reducible refine Kd.C_alloc ?_ _) | (with_reducible refine Kd.C_drewN ?_ _) | (with_reducible refine Kd.C_drew ?_))); (case side2 => exact HC0.out); (case side3 => repeat (first | exact (Kd.R_reads' HO_3.out).2.2 | (with_reducible refine Kd.C_alloc ?_ _) | (with_reducible refine Kd.C_drewN ?_ _) | (with_reducible refine Kd.C_drew ?_))); (case side4 => exact (Kd.R_reads' HO_3.out).2.1); rintro e w28 ⟨rfl, hb⟩; refine ⟨_, rfl, ?_⟩; have n0_ := aMk (qrB HO_3.out hb); have n1_ := aMk (qrB HO_4.out hb); have n2_ := aMk (qbP HB.out hb); clear HO_3; clear HO_4; clear HB; have HO_3 := n0_; have HO_4 := n1_; have HB := n2_; clear n0_ n1_ n2_; (try clear hi)))
           go_roundg kj5
           case measure => have := HK1.out; have := HK2.out; have := HJ5.out; omega
           case rel => exact ⟨(x4_2), (wrap64 (x6_2 - 1)), rfl, H', ⟨by have := HK1.out; have := HK2.out; have := HJ5.out; omega⟩, ⟨by (with_reducible repeat (first | apply qrA | apply qrN | apply qrD)); exact HO_3.out⟩, ⟨by (with_reducible repeat (first | apply qrA | apply qrN | apply qrD)); exact HO_4.out⟩, ⟨by repeat (first | (with_reducible first | exact HB.out | apply qbA | apply qbN | apply qb1) | exact HB.out)⟩⟩
      ·rw [if_neg c5] at H
       have c5b0 := qdF c5
       clear c5
       have H' := aMk H
       clear H
       go_wp2
       go_roundg k2
       case measure => have := HK1.out; have := HK2.out; omega
       case rel => exact ⟨(x4_2), (wrap64 (x5_1 + 1)), rfl, H', ⟨by have := HK1.out; have := HK2.out; omega⟩, ⟨by (with_reducible repeat (first | apply qrA | apply qrN | apply qrD)); exact HO_3.out⟩, ⟨by (with_reducible repeat (first | apply qrA | apply qrN | apply qrD)); exact HO_4.out⟩, ⟨by repeat (first | (with_reducible first | exact HB.out | apply qbA | apply qbN | apply qb1) | exact HB.out)⟩⟩
   ·rw [if_neg c4] at H
    have c4b0 := qdF c4
    clear c4
    obtain rfl := qoI H
    go_wp2
    go_ret
    exact ⟨_, rfl, by (with_reducible repeat (first | apply qrA | apply qrN | apply qrD)); exact qrM HO_4.out (fun _ hk => trivial), by repeat (first | (with_reducible first | exact HB.out | apply qbA | apply qbN | apply qb1) | exact HB.out)⟩
end PKashidaStretches
end
section
namespace KRefPl
open U PKashidaStretches KRank KPlace UKash UJoin
theorem joined_lt {ts : List Int} {i : Int} (hj : joinedI ts i = true) : 0 ≤ behindI ts i ∧ behindI ts i < ts.length := by
 have h1 : 0 ≤ behindI ts i := by
  unfold joinedI at hj
  simp only [Bool.and_eq_true, decide_eq_true_eq] at hj
  exact hj.1.1
 have h2 := PureJoin.behindI_range ts i
 omega
theorem refRank_ev (xs ts : List Int) (hl : ts.length = xs.length) (hm : xs.length ≤ 1000000) (i : Nat) (hi : i < xs.length) (hj : joinedI ts i = true) : Ev (fun k => naskhref42_rank.f k xs ts i) (prank xs ts i) := by
 obtain ⟨h0, h1⟩ := joined_lt hj
 exact ev_const (if_pos ⟨by omega, by omega, h0, by omega, by omega⟩)
theorem byRank_succ (xs ts : List Int) (i : Nat) (r : Int) : byRank xs ts (i + 1) r = (if (placeB xs ts (i : Int) && decide (prank xs ts (i : Int) = r)) = true then [i] else []) ++ byRank xs ts i r := by
 unfold byRank
 rw [List.range_succ, List.reverse_append, List.reverse_singleton, List.singleton_append, List.filter_cons]
 split <;> rfl
theorem pl_inner (xs ts : List Int) (hl : ts.length = xs.length) (hm : xs.length ≤ 1000000) (r : Int) (X : List Int) : ∀ (i : Nat) (acc : List Int), i ≤ xs.length → acc.length + i ≤ 8000000 →
 Ev (fun k => naskhref42_Places.l0 k xs ts (acc ++ (byRank xs ts i r).map fun i : Nat => (i : Int)) (wrap64 (r + 1))) X → Ev (fun k => naskhref42_Places.l1 k xs ts acc r ((i : Int) - 1)) X
 | 0, acc, _, _, h => by
  refine Ev.step (fun k => by rw [naskhref42_Places.l1]) (ev_neg (by omega) ?_)
  have e : acc ++ (byRank xs ts 0 r).map (fun i : Nat => (i : Int)) = acc := by simp [byRank]
  rw [e] at h
  exact h
 | i + 1, acc, hi, ha, h => by
  rw [byRank_succ] at h
  rw [show ((i + 1 : Nat) : Int) - 1 = (i : Int) by omega]
  have hnext : ∀ acc', acc'.length + i ≤ 8000000 → Ev (fun k => naskhref42_Places.l0 k xs ts (acc' ++ (byRank xs ts i r).map fun i : Nat => (i : Int)) (wrap64 (r + 1))) X → Ev (fun k => naskhref42_Places.l1 k xs ts acc' r (wrap64 ((i : Int) - 1))) X := fun acc' h1 h2 => by
   rw [w64 (by omega) (by omega)]
   exact pl_inner xs ts hl hm r X i acc' (by omega) h1 h2
  have hskip : placeB xs ts (i : Int) = false → Ev (fun k => naskhref42_Places.j2 k xs ts acc r (i : Int) true) X := fun hp => by
   refine Ev.step (fun k => by rw [naskhref42_Places.j2]) (ev_pos rfl (hnext acc (by omega) ?_))
   rw [hp, Bool.false_and, if_neg (by decide), List.nil_append] at h
   exact h
  have hgo : placeB xs ts (i : Int) = true → joinedI ts i = true → Ev (fun k => naskhref42_Places.j2 k xs ts acc r (i : Int) false) X := fun hp hj => by
   refine Ev.step (fun k => by rw [naskhref42_Places.j2]) (ev_neg (by decide) (ev_bind (refRank_ev xs ts hl hm i (by omega) hj) ?_))
   rw [hp, Bool.true_and] at h
   refine ev_ite (fun e => ?_) (fun e => ?_)
   ·rw [qdT e, if_pos rfl] at h
    refine ev_pos (by omega) (hnext _ (by rw [List.length_append]; simp only [List.length_singleton]; omega) ?_)
    rw [List.append_assoc]
    exact h
   ·rw [qdF e, if_neg (by decide), List.nil_append] at h
    exact hnext acc (by omega) h
  refine Ev.step (fun k => by rw [naskhref42_Places.l1]) (ev_pos (by omega) (ev_bind (PureJoin.rjoined_ev ts (by omega) i) ?_))
  cases hj : joinedI ts i with
  | false => exact ev_neg (by decide) (hskip (by unfold placeB; rw [hj, Bool.false_and]))
  | true =>
   obtain ⟨h0, h1⟩ := joined_lt hj
   refine ev_pos rfl (ev_pos (by omega) (ev_pos (by omega) ?_))
   refine ev_ite (fun e => ?_) (fun e => ?_)
   ·refine ev_bind (PureJoin.rbehind_ev ts (by omega) i) (ev_pos h0 (ev_pos (by omega) (ev_bind (ev_at (naskhref14_Alef.mono _) 20 (ralef_f _)) ?_)))
    cases ha : alefB (rd xs (behindI ts i)) with
    | true => exact hskip (by unfold placeB; rw [hj, e, ha]; rfl)
    | false => exact hgo (by unfold placeB; rw [hj, ha, Bool.and_false]; rfl) hj
   ·exact hgo (by unfold placeB; rw [hj, qdF e, Bool.false_and]; rfl) hj
def pre (xs ts : List Int) (j : Nat) : List Nat := (List.range j).flatMap fun k : Nat => byRank xs ts xs.length ((k : Int) + 1)
theorem pre_succ (xs ts : List Int) (j : Nat) : pre xs ts (j + 1) = pre xs ts j ++ byRank xs ts xs.length ((j : Int) + 1) := by
 unfold pre
 rw [List.range_succ, List.flatMap_append, List.flatMap_cons, List.flatMap_nil, List.append_nil]
theorem byRank_len (xs ts : List Int) (n : Nat) (r : Int) : (byRank xs ts n r).length ≤ n := by
 unfold byRank
 exact qlT (List.length_filter_le _ _) (by simp)
theorem pre_len (xs ts : List Int) : ∀ j, (pre xs ts j).length ≤ j * xs.length
 | 0 => by simp [pre]
 | j + 1 => by
  rw [pre_succ, List.length_append, Nat.add_mul, Nat.one_mul]
  exact Nat.add_le_add (pre_len xs ts j) (byRank_len _ _ _ _)
theorem pl_outer (xs ts : List Int) (hl : ts.length = xs.length) (hm : xs.length ≤ 1000000) : ∀ d j, j + d = 6 → Ev (fun k => naskhref42_Places.l0 k xs ts ((pre xs ts j).map fun i : Nat => (i : Int)) ((j : Int) + 1)) ((placesN xs ts xs.length).map fun i : Nat => (i : Int))
 | 0, j, h => by
  obtain rfl : j = 6 := by omega
  refine Ev.step (fun k => by rw [naskhref42_Places.l0]) ?_
  exact ev_neg (by omega) (ev_eq (ev_now _) rfl)
 | d + 1, j, h => by
  refine Ev.step (fun k => by rw [naskhref42_Places.l0]) ?_
  refine (ev_pos (by omega) ?_)
  rw [w64 (by omega) (by omega)]
  refine pl_inner xs ts hl hm _ _ xs.length _ (qlR _) ?_ ?_
  ·have h1 := pre_len xs ts j
   have h2 : j * xs.length ≤ 6 * xs.length := Nat.mul_le_mul_right _ (by omega)
   rw [qlm]
   omega
  ·have h3 := pl_outer xs ts hl hm d (j + 1) (by omega)
   rw [pre_succ, List.map_append, show ((j + 1 : Nat) : Int) + 1 = (j : Int) + 1 + 1 by omega] at h3
   rw [w64 (by omega) (by omega)]
   exact h3
theorem refPlaces_c {w : World} {v : Value} {xs : List Int} (hx : SL w v xs) (hm : xs.length ≤ 1000000) :
 Calls Tryz.prog 20 #[v] w fun e w' => ∃ u, e = .returned u ∧ Kd.R (Kd.int .i64) 3 w' w.heap.size (fun _ => True) u ((placesN xs (xs.map CJoins.jn) xs.length).map fun i : Nat => (i : Int)) ∧ Below w.heap.size w w' := by
 obtain ⟨A, c, rfl, hc, hC⟩ := hx
 have h0 := pl_outer xs (xs.map CJoins.jn) (by rw [qlm]) hm 6 0 rfl
 have h1 : Ev (fun k => naskhref42_Places.f k xs) ((placesN xs (xs.map CJoins.jn) xs.length).map fun i : Nat => (i : Int)) := by
  unfold naskhref42_Places.f
  refine ev_bindc (a := xs.map CJoins.jn) ?_ h0
  exact if_pos hm
 obtain ⟨k, hk⟩ := Ev.rounds h1
 exact naskhref42_Places.calls k A c xs _ w hC hc hk
end KRefPl
end
section
namespace Cel
open U PClusterFinest
structure Eff (w W : World) (S : Nat → Prop) : Prop where
 os : W.os = w.os
 tape : W.tape = w.tape
 output : W.output = w.output
 kept : Kept w W S
variable {w W W2 : World} {S S2 D D2 : Nat → Prop}
theorem Eff.refl (w : World) (S : Nat → Prop) : Eff w w S := ⟨rfl, rfl, rfl, Kept.refl w S⟩
theorem Eff.of_below (h : Below w.heap.size w W) (S : Nat → Prop) : Eff w W S := ⟨h.os, h.tape, h.output, Kept.of_below h S⟩
theorem Eff.then_ (h : Eff w W S) (k : Eff W W2 S2) (hs : ∀ k, S2 k → S k ∨ w.heap.size ≤ k) : Eff w W2 S := ⟨k.os.trans h.os, k.tape.trans h.tape, k.output.trans h.output, h.kept.then_ k.kept hs⟩
theorem Eff.below_ (h : Eff w W S) (k : Below W.heap.size W W2) : Eff w W2 S := h.then_ (Eff.of_below k (fun _ => False)) (fun _ h => h.elim)
theorem Eff.size (h : Eff w W S) : w.heap.size ≤ W.heap.size := h.kept.1
theorem Eff.below {B : Nat} (h : Eff w W S) (hB : B ≤ w.heap.size) (hS : ∀ k, S k → B ≤ k) : Below B w W := ⟨h.os, h.tape, h.output, h.kept.1, fun k hk => h.kept.2 k (by omega) (fun hs => by have := hS k hs; omega)⟩
theorem Eff.of_grown {row : Option Nat} (hg : w.grownBy W row) (hr : ∀ k, row = some k → S k) : Eff w W S := ⟨hg.os, hg.tape, hg.output, Kept.of_grown hg (Kept.refl w S) (fun k hk => .inl (hr k hk))⟩
theorem Eff.drew (h : Eff w W S) : Eff w W.drew S := h.below_ (below_drew (qBr _ _))
theorem Eff.drewN (h : Eff w W S) (n : Nat) : Eff w (W.drewN n) S := h.below_ (qbN (qBr _ _) n)
theorem add_block (a : Addr) (n : Nat) : (a.add n).block = a.block := by
 unfold Addr.add
 first | rfl | (split <;> rfl)
def SLD (w : World) (D : Nat → Prop) (v : Value) (x : List Int) : Prop := SL w v x ∧ ∀ ad n c, v = .slice (some ad) n c → 0 < n → D ad.block
theorem SL.kept {v : Value} {x : List Int} (h : SLD w D v x) (hk : Kept w W S) (hne : ∀ k, D k → ¬ S k) : SL W v x := by
 obtain ⟨⟨A, c, rfl, hc, h1, h2, h3⟩, hd⟩ := h
 refine ⟨A, c, rfl, hc, h1, h2, fun hn => ?_⟩
 obtain ⟨ad, rfl, hcell⟩ := h3 hn
 refine ⟨ad, rfl, fun j p hj => ?_⟩
 obtain ⟨cs, hl, hK, hcc⟩ := hcell j p hj
 exact ⟨cs, hl, hK, fun k u hu => cell_kept (hcc k u hu) hk (by rw [add_block]; exact hne _ (hd ad _ _ rfl hn))⟩
theorem SLD.kept {v : Value} {x : List Int} (h : SLD w D v x) (hk : Kept w W S) (hne : ∀ k, D k → ¬ S k) : SLD W D v x := ⟨SL.kept h hk hne, h.2⟩
theorem SLD.mono {v : Value} {x : List Int} (h : SLD w D v x) (hs : ∀ k, D k → D2 k) : SLD w D2 v x := ⟨h.1, fun ad n c e hn => hs _ (h.2 ad n c e hn)⟩
theorem SLD.bound {v : Value} {x : List Int} (h : SLD w D v x) : SLD w (fun k => D k ∧ k < w.heap.size) v x := by
 refine ⟨h.1, fun ad n c e hn => ⟨h.2 ad n c e hn, ?_⟩⟩
 obtain ⟨A, c', e', hc, h1, h2, h3⟩ := h.1
 subst e
 injection e' with e1 e2 e3
 obtain ⟨ad', e4, hcell⟩ := h3 (by omega)
 subst e1
 obtain rfl := qoI e4
 obtain ⟨cs, hl, hK, hcc⟩ := hcell 0 (x[0]'(by omega)) (qgG (by omega))
 have hk' : cs = [.int .i64 (x[0]'(by omega))] := hK
 have := qwL _ _ (hcc 0 (.int .i64 (x[0]'(by omega))) (by rw [hk']; rfl))
 rwa [add_block] at this
theorem SLD.nil (w : World) (D : Nat → Prop) : SLD w D (.slice none 0 0) [] := ⟨SLk.nil w, fun ad n c e hn => by injection e with e1; cases e1⟩
theorem SLD.of_R {base : Nat} {v : Value} {x : List Int} (h : Kd.R (Kd.int .i64) 3 w base D v x) : SLD w D v x := by
 refine ⟨SLk.of_R h, fun ad n c e hn => ?_⟩
 subst e
 obtain ⟨hn', _, _⟩ := Kd.R_reads' h
 obtain ⟨g, cap, e, _⟩ := Kd.R_form h (by omega)
 injection e with e1 e2 e3
 injection e1 with e1
 subst e1
 exact h.1 g (by simp [Value.ownBlock])
theorem SLD.set_slice {v : Value} {x : List Int} (h : SLD w D v x) {g i : Nat} {hd : Hd} (hc : w.cell? ⟨g, i, none⟩ = some (encH hd)) (u : Value) : SLD (w.setCell ⟨g, i, none⟩ u) D v x := ⟨SL.set_slice h.1 hc u, h.2⟩
def RowAt (w : World) (D : Nat → Prop) (v : Value) (L : List (List Int)) : Prop :=
 ∃ hs : List Hd, Kd.R KH 22 w 0 D v hs ∧ hs.length = L.length ∧ ∀ (i : Nat) (x : List Int), L[i]? = some x → ∃ h : Hd, hs[i]? = some h ∧ SLD w D (encH h) x
theorem RowAt.kept {v : Value} {L : List (List Int)} (h : RowAt w D v L) (hk : Kept w W S) (hne : ∀ k, D k → ¬ S k) : RowAt W D v L := by
 obtain ⟨hs, h1, h2, h3⟩ := h
 exact ⟨hs, Kd.R_kept h1 hk hne, h2, fun i x hx => let ⟨hd, a, b⟩ := h3 i x hx; ⟨hd, a, b.kept hk hne⟩⟩
theorem RowAt.mono {v : Value} {L : List (List Int)} (h : RowAt w D v L) (hs : ∀ k, D k → D2 k) : RowAt w D2 v L := by
 obtain ⟨hl, h1, h2, h3⟩ := h
 exact ⟨hl, qrM h1 hs, h2, fun i x hx => let ⟨hd, a, b⟩ := h3 i x hx; ⟨hd, a, b.mono hs⟩⟩
theorem RowAt.bound {v : Value} {L : List (List Int)} (h : RowAt w D v L) : RowAt w (fun k => D k ∧ k < w.heap.size) v L := by
 obtain ⟨hl, h1, h2, h3⟩ := h
 exact ⟨hl, qrM (Kd.R_bound h1) (fun k hk => ⟨hk.1, hk.2.2.1⟩), h2, fun i x hx => let ⟨hd, a, b⟩ := h3 i x hx; ⟨hd, a, b.bound⟩⟩
theorem RowAt.slice {v : Value} {L : List (List Int)} (h : RowAt w D v L) : ∃ A c, v = .slice A L.length c := by
 obtain ⟨hs, h1, h2, h3⟩ := h
 obtain ⟨A, c, rfl⟩ := Kd.R_slice h1
 exact ⟨A, c, by rw [h2]⟩
theorem RowAt.form {v : Value} {L : List (List Int)} (h : RowAt w D v L) (hn : 0 < L.length) : ∃ g cap cells, v = .slice (some ⟨g, 0, none⟩) L.length cap ∧ D g ∧ g < w.heap.size ∧ w.heap[g]? = some (.cells cells 22 (0, 0)) := by
 obtain ⟨hs, h1, h2, h3⟩ := h
 obtain ⟨g, cap, e, _, hg, cells, hc⟩ := Kd.R_form h1 (by omega)
 refine ⟨g, cap, cells, by rw [e, h2], ?_, hg, hc⟩
 subst e
 exact h1.1 g (by simp [Value.ownBlock])
theorem RowAt.cell {g n cap : Nat} {L : List (List Int)} (h : RowAt w D (.slice (some ⟨g, 0, none⟩) n cap) L) (i : Nat) (hi : i < L.length) : ∃ hd : Hd, w.cell? ⟨g, i, none⟩ = some (encH hd) ∧ w.frozen? ⟨g, i, none⟩ = false ∧ SLD w D (encH hd) L[i] := by
 obtain ⟨hs, h1, h2, h3⟩ := h
 obtain ⟨hd, a, b⟩ := h3 i L[i] (qgG hi)
 have hn := (Kd.R_reads' h1).1
 have hc := Kd.R_celln ((none, 0, 0) : Hd) h1 (i : Int) (by omega) (by omega)
 rw [qtN] at hc
 have e : rdOf ((none, 0, 0) : Hd) hs (i : Int) = hd := by
  unfold rdOf
  rw [qtN, qgD, a]
  rfl
 rw [e] at hc
 exact ⟨hd, hc.1, hc.2, b⟩
theorem RowAt.put {g n cap : Nat} {L : List (List Int)} (h : RowAt w D (.slice (some ⟨g, 0, none⟩) n cap) L) (i : Nat) (hi : i < L.length) {v' : Value} {x : List Int} (hx : SLD w D v' x) :
 RowAt (w.setCell ⟨g, i, none⟩ v') D (.slice (some ⟨g, 0, none⟩) n cap) (L.set i x) := by
 obtain ⟨hd0, hc, _, _⟩ := h.cell i hi
 obtain ⟨hs, h1, h2, h3⟩ := h
 obtain ⟨hd, rfl⟩ := SL.header hx.1
 have hp := Kd.R_putg h1 (i : Int) hd
 rw [qtN] at hp
 refine ⟨hs.set i hd, hp.1, by simp [h2], fun j y hy => ?_⟩
 by_cases hji : j = i
 ·subst hji
  rw [List.getElem?_set_self hi] at hy
  obtain rfl := qoI hy
  exact ⟨hd, List.getElem?_set_self (by omega), SLD.set_slice hx hc _⟩
 ·rw [List.getElem?_set_ne (Ne.symm hji)] at hy
  obtain ⟨hd', a, b⟩ := h3 j y hy
  exact ⟨hd', by rw [List.getElem?_set_ne (Ne.symm hji)]; exact a, SLD.set_slice b hc _⟩
theorem RowAt.nils {base n : Nat} {v : Value} (h : Kd.R KH 22 w base D v (List.replicate n ((none, 0, 0) : Hd))) : RowAt w D v (List.replicate n []) := by
 refine ⟨_, Kd.R_lower h (Nat.zero_le _), by simp, fun i x hx => ?_⟩
 rw [List.getElem?_replicate] at hx
 split at hx
 ·rename_i hi
  obtain rfl := qoI hx
  exact ⟨(none, 0, 0), by rw [List.getElem?_replicate, if_pos hi], SLD.nil w D⟩
 ·cases hx
theorem RowAt.reads {v : Value} {L : List (List Int)} (h : RowAt w D v L) (t : Nat) : SLk (Kd.slice t (Kd.int .i64)) w v L := by
 obtain ⟨hs, h1, h2, h3⟩ := h
 obtain ⟨A, c, rfl, hc, hC⟩ := Kd.R_reads h1
 rw [h2] at hC hc ⊢
 refine ⟨A, c, rfl, hc, rfl, hC.2.1, fun hn => ?_⟩
 obtain ⟨ad, rfl, hcell⟩ := hC.2.2 hn
 refine ⟨ad, rfl, fun j p hj => ?_⟩
 obtain ⟨hd, a, b⟩ := h3 j p hj
 obtain ⟨cs, _, hk, hcc⟩ := hcell j hd a
 obtain ⟨A', c', e', hl, hC'⟩ := b.1
 refine ⟨[encH hd], rfl, ⟨A', c', by rw [e'], hl, hC'⟩, fun k u hu => ?_⟩
 have hk' : cs = [encH hd] := hk
 subst hk'
 exact hcc k u hu
def CellsAt (T : Nat) (w : World) (D : Nat → Prop) (b : Nat) (L : List (List Int)) (J : List S33) : Prop :=
 ∃ (Dr Dt : Nat → Prop) (vr vt : Value), (∀ k, Dr k → D k ∧ k ≠ b) ∧ (∀ k, Dt k → D k ∧ k ≠ b ∧ ¬ Dr k) ∧ D b ∧ w.heap[b]? = some (.cells #[vr, vt] T (0, 0)) ∧ RowAt w Dr vr L ∧ Kd.R k33 34 w 0 Dt vt J
theorem CellsAt.kept {T b : Nat} {L : List (List Int)} {J : List S33} (h : CellsAt T w D b L J) (hk : Kept w W S) (hne : ∀ k, D k → ¬ S k) : CellsAt T W D b L J := by
 obtain ⟨Dr, Dt, vr, vt, hr, ht, h0, h1, h2, h3⟩ := h
 exact ⟨Dr, Dt, vr, vt, hr, ht, h0, blk_kept h1 hk (hne b h0), h2.kept hk (fun k hk => hne k (hr k hk).1), Kd.R_kept h3 hk (fun k hk => hne k (ht k hk).1)⟩
theorem CellsAt.below {T b : Nat} {L : List (List Int)} {J : List S33} (h : CellsAt T w D b L J) (hb : Below w.heap.size w W) : CellsAt T W D b L J := h.kept (Kept.of_below hb (fun _ => False)) (fun _ _ h => h)
theorem CellsAt.mono {T b : Nat} {L : List (List Int)} {J : List S33} (h : CellsAt T w D b L J) (hs : ∀ k, D k → D2 k) : CellsAt T w D2 b L J := by
 obtain ⟨Dr, Dt, vr, vt, hr, ht, h0, h1, h2, h3⟩ := h
 exact ⟨Dr, Dt, vr, vt, fun k hk => ⟨hs k (hr k hk).1, (hr k hk).2⟩, fun k hk => ⟨hs k (ht k hk).1, (ht k hk).2⟩, hs _ h0, h1, h2, h3⟩
structure Parts (T : Nat) (w : World) (D Dr Dt : Nat → Prop) (b : Nat) (A : Option Addr) (c : Nat) (vt : Value) (L : List (List Int)) (J : List S33) : Prop where
 hr : ∀ k, Dr k → D k ∧ k ≠ b ∧ k < w.heap.size
 ht : ∀ k, Dt k → D k ∧ k ≠ b ∧ ¬ Dr k ∧ k < w.heap.size
 h0 : D b
 h1 : w.heap[b]? = some (.cells #[.slice A L.length c, vt] T (0, 0))
 h2 : RowAt w Dr (.slice A L.length c) L
 h3 : Kd.R k33 34 w 0 Dt vt J
theorem CellsAt.open_ {T b : Nat} {L : List (List Int)} {J : List S33} (h : CellsAt T w D b L J) : ∃ Dr Dt A c vt, Parts T w D Dr Dt b A c vt L J := by
 obtain ⟨Dr, Dt, vr, vt, hr, ht, h0, h1, h2, h3⟩ := h
 obtain ⟨A, c, rfl⟩ := h2.slice
 exact ⟨fun k => Dr k ∧ k < w.heap.size, fun k => Dt k ∧ k < w.heap.size, A, c, vt, fun k hk => ⟨(hr k hk.1).1, (hr k hk.1).2, hk.2⟩, fun k hk => ⟨(ht k hk.1).1, (ht k hk.1).2.1, fun hr' => (ht k hk.1).2.2 hr'.1, hk.2⟩, h0, h1, h2.bound, qrM (Kd.R_bound h3) (fun k hk => ⟨hk.1, hk.2.2.1⟩)⟩
theorem Parts.below {T b c : Nat} {Dr Dt : Nat → Prop} {A : Option Addr} {vt : Value} {L : List (List Int)} {J : List S33} (h : Parts T w D Dr Dt b A c vt L J) (hb : Below w.heap.size w W) : Parts T W D Dr Dt b A c vt L J :=
 ⟨fun k hk => ⟨(h.hr k hk).1, (h.hr k hk).2.1, Nat.lt_of_lt_of_le (h.hr k hk).2.2 hb.size⟩, fun k hk => ⟨(h.ht k hk).1, (h.ht k hk).2.1, (h.ht k hk).2.2.1, Nat.lt_of_lt_of_le (h.ht k hk).2.2.2 hb.size⟩, h.h0, (hb.block _ (blk_lt h.h1)).trans h.h1, h.h2.kept (S := fun _ => False) (Kept.of_below hb _) (fun _ _ h => h), qrB h.h3 hb⟩
theorem Parts.put {T b g cap : Nat} {Dr Dt : Nat → Prop} {vt : Value} {L : List (List Int)} {J : List S33} (h : Parts T w D Dr Dt b (some ⟨g, 0, none⟩) cap vt L J) (hw : Below w.heap.size w W) (i : Nat) (hi : i < L.length) {v' : Value} {x : List Int} (hx : SLD W (fun k => w.heap.size ≤ k) v' x) :
 CellsAt T (W.setCell ⟨g, i, none⟩ v') (fun q => D q ∨ w.heap.size ≤ q) b (L.set i x) J ∧ D g ∧ Eff w (W.setCell ⟨g, i, none⟩ v') D := by
 obtain ⟨g', cap', cells, e, hg, hlt, hblk⟩ := h.h2.form (by omega)
 injection e with e1 e2 e3
 injection e1 with e1
 injection e1 with e1 e4 e5
 subst e1
 have h' := h.below hw
 have hgr := h.hr g hg
 have hb0 : b < w.heap.size := blk_lt h.h1
 refine ⟨⟨fun k => Dr k ∨ w.heap.size ≤ k, Dt, _, vt, fun k hk => ?_, fun k hk => ?_, .inl h.h0, ?_, (h'.h2.mono (fun k hk => .inl hk)).put i hi (hx.mono (fun k hk => .inr hk)), ?_⟩, hgr.1, ?_⟩
 ·rcases hk with hk | hk
  ·exact ⟨.inl (h.hr k hk).1, (h.hr k hk).2.1⟩
  ·exact ⟨.inr hk, by omega⟩
 ·have := h.ht k hk
  exact ⟨.inl this.1, this.2.1, fun hc => hc.elim this.2.2.1 (fun hc => by omega)⟩
 ·exact ((grown_set W g i v').block b (blk_lt h'.h1) (fun e => hgr.2.1 (qoI e).symm)).trans h'.h1
 ·exact Kd.R_grown h'.h3 (grown_set W g i v') (fun k hk e => by obtain rfl := qoI e; exact (h.ht k hk).2.2.1 hg)
 ·exact (Eff.of_below hw D).then_ (Eff.of_grown (S := fun q => q = g) (grown_set W g i v') (fun q e => (qoI e).symm)) (fun q e => by rw [e]; exact .inl hgr.1)
end Cel
end
end Go.Proofs.YtemhccjjcioodaaGreat
