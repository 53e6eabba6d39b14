/- Texts of this claim, cut to what it needs. -/
import Derived.Test.YtohhobcipfmkbaaKUTurn
import Derived.Test.YtohhobcipfmkbaaKCTurnR
import Derived.Test.YtohhobcipfmkbaaKCStabC
import Derived.Test.YtohhobcipfmkbaaKCStab2
namespace Go.Proofs.Ytohhobcipfmkbaa.CTurn
open Go.RowKit Go.Maps Go.Proofs.YtohhobcipfmkbaaW.PrintWords Go.Proofs.YtohhobcipfmkbaaW.PrintMore Go.Proofs.YtohhobcipfmkbaaW.PrintLast Go.Proofs.Ytohhobcipfmkbaa.U Go.Proofs.Ytohhobcipfmkbaa.PClusterFinest Go.Proofs.Ytohhobcipfmkbaa.CFin Go.Proofs.Ytohhobcipfmkbaa.UFinEv Go.Proofs.Ytohhobcipfmkbaa.UTurn
open Go.Shelf
set_option linter.unusedVariables false
set_option linter.unusedSimpArgs false
shelf_lay_g SlLaysF0.n20 Slsf 20 at Try 95 as lins45
instance : Inhabited S45 := ⟨z45⟩
def encA (x : An) : List Value := [.int .i64 x.1.f0.f0, .int .i64 x.1.f0.f1, .int .i64 x.1.f1.f0, .int .i64 x.1.f1.f1]
def cfA (x y : An) : Int := Lib.compareInt x.1.f0.f0 y.1.f0.f0
theorem ltA (x y : An) : ltOf cfA x y = decide (x.1.f0.f0 < y.1.f0.f0) := CSort.lt33 x.1.f0 y.1.f0
theorem grow_drew (W : World) (a b : Array Obj) (q : Nat) : Go.Sort.grow ((Go.Sort.grow W a).drewN q) b = Go.Sort.grow (W.drewN q) (a ++ b) := by
  rw [← Go.Sort.grow_grow]
  rfl
theorem swoA : Go.Sort.SWO (ltOf cfA) where
  irrefl x := by rw [ltA]; simp
  trans x y z h1 h2 := by rw [ltA] at *; simp at *; omega
  ntrans x y z h1 h2 := by rw [ltA] at *; simp at *; omega
set_option maxHeartbeats 1000000 in
theorem byIn_c (x y : An) (W : World) : Calls Try.prog 70 #[.agg #[.int .i64 x.1.f0.f0, .int .i64 x.1.f0.f1, .int .i64 x.1.f1.f0, .int .i64 x.1.f1.f1], .agg #[.int .i64 y.1.f0.f0, .int .i64 y.1.f0.f1, .int .i64 y.1.f1.f0, .int .i64 y.1.f1.f1]] W fun e w' => e = .returned (.int .i64 (cfA x y)) ∧ ∃ q os', w' = Go.Sort.grow (W.drewN q) os' := by
  have hcon := fun W' => CSort.byLo_c x.1.f0 y.1.f0 W'
  have hr : CSort.cf33 x.1.f0 y.1.f0 = cfA x y := rfl
  rw [hr] at hcon
  generalize cfA x y = r at hcon ⊢
  clear hr
  go_enter Try.func70, Try.ntmps70
  go_wp2_with (go_at_call 54; refine (hcon _).mono ?_; rintro e w' ⟨rfl, q, os, rfl⟩)
  go_ret
  refine ⟨rfl, q, (#[.cells #[.int .i64 x.1.f0.f0, .int .i64 x.1.f0.f1, .int .i64 x.1.f1.f0, .int .i64 x.1.f1.f1] 45] ++ #[.cells #[.int .i64 y.1.f0.f0, .int .i64 y.1.f0.f1, .int .i64 y.1.f1.f0, .int .i64 y.1.f1.f1] 45]) ++ os, ?_⟩
  rw [Go.Sort.alloc_eq_grow, Go.Sort.alloc_eq_grow, Go.Sort.grow_grow]
  exact grow_drew W _ os q
theorem getA (f : List An) (i : Nat) (h : i < f.length) : (f.toArray[i]! : An) = f[i] := by
  rw [getElem!_pos f.toArray i (by simpa using h)]
  simp
theorem encA_at (x : An) (j : Nat) : (encA x)[j]! = if j = 0 then .int .i64 x.1.f0.f0 else if j = 1 then .int .i64 x.1.f0.f1 else if j = 2 then .int .i64 x.1.f1.f0 else if j = 3 then .int .i64 x.1.f1.f1 else default := by
  match j with
  | 0 => rfl
  | 1 => rfl
  | 2 => rfl
  | 3 => rfl
  | j + 4 => rfl
theorem holdsA {w : World} {base : Nat} {ok : Nat → Prop} {g cap : Nat} {f : List S45} (h : Kd.R k45 45 w base ok (.slice (some ⟨g, 0, none⟩) f.length cap) f) : Go.Sort.HoldsK encA 4 w g 0 f.zipIdx.toArray := by
  intro t ht
  rw [Go.Sort.size_flatK] at ht
  have ht' : t < f.length * 4 := by simpa using ht
  rw [Go.Sort.get_flatK _ _ _ t ht, getA _ (t / 4) (by simp; omega), encA_at]
  obtain ⟨c, hc, hM, hcell, hfr⟩ := Kd.R_elem h z45 ((t / 4 : Nat) : Int) (by omega) (by omega)
  obtain rfl := k45_openM hM
  have er : f.getD (t / 4) z45 = f[t / 4]'(by omega) := by rw [List.getD_eq_getElem?_getD, List.getElem?_eq_getElem (by omega)]; rfl
  rw [Int.toNat_natCast] at hcell hfr
  have hsz : k45.sz = 4 := rfl
  rw [hsz] at hcell hfr
  rw [er] at hcell
  rw [Nat.zero_add]
  have ez : (f.zipIdx[t / 4]'(by simp; omega)).1 = f[t / 4]'(by omega) := by simp
  rw [ez]
  have e4 : t % 4 = 0 ∨ t % 4 = 1 ∨ t % 4 = 2 ∨ t % 4 = 3 := by omega
  rcases e4 with e | e | e | e
  · have e2 : t / 4 * 4 + 0 = t := by omega
    have h1 := hcell 0 _ rfl
    have h2 := hfr 0
    rw [e2] at h1 h2
    rw [e]
    exact ⟨h1, h2⟩
  · have e2 : t / 4 * 4 + 1 = t := by omega
    have h1 := hcell 1 _ rfl
    have h2 := hfr 1
    rw [e2] at h1 h2
    rw [e]
    exact ⟨h1, h2⟩
  · have e2 : t / 4 * 4 + 2 = t := by omega
    have h1 := hcell 2 _ rfl
    have h2 := hfr 2
    rw [e2] at h1 h2
    rw [e]
    exact ⟨h1, h2⟩
  · have e2 : t / 4 * 4 + 3 = t := by omega
    have h1 := hcell 3 _ rfl
    have h2 := hfr 3
    rw [e2] at h1 h2
    rw [e]
    exact ⟨h1, h2⟩
theorem readsA {w : World} {g cap : Nat} {d : Array An} (h : Go.Sort.HoldsK encA 4 w g 0 d) (hc : d.size ≤ cap) (hm : d.size ≤ 1000000) : SLk k45 w (.slice (some ⟨g, 0, none⟩) d.size cap) (d.toList.map (·.1)) := by
  refine ⟨_, cap, by rw [List.length_map]; simp; rfl, by simpa using hc, rfl, by simp; omega, fun hn => ⟨_, rfl, fun j p hj => ?_⟩⟩
  obtain ⟨hl, hp⟩ := List.getElem?_eq_some_iff.1 hj
  have hl' : j < d.size := by simpa using hl
  have hg : ∀ i, i < 4 → w.cell? ⟨g, j * 4 + i, none⟩ = some ((encA d[j])[i]!) := fun i hi => by
    have h1 := (h (j * 4 + i) (by rw [Go.Sort.size_flatK]; omega)).1
    rw [Nat.zero_add, Go.Sort.get_flatK _ _ _ _ (by omega), show (j * 4 + i) / 4 = j by omega, show (j * 4 + i) % 4 = i by omega, getElem!_pos d j hl'] at h1
    exact h1
  have e : d[j].1 = p := by simpa using hp
  subst e
  refine ⟨_, rfl, k45_mk w _, fun i u hu => ?_⟩
  have ea : (⟨g, 0, none⟩ : Addr).add (j * k45.sz + i) = ⟨g, j * 4 + i, none⟩ := by rw [add_plain]; rfl
  rw [ea]
  match i, hu with
  | 0, hu => obtain rfl := Option.some.inj hu; exact hg 0 (by omega)
  | 1, hu => obtain rfl := Option.some.inj hu; exact hg 1 (by omega)
  | 2, hu => obtain rfl := Option.some.inj hu; exact hg 2 (by omega)
  | 3, hu => obtain rfl := Option.some.inj hu; exact hg 3 (by omega)
theorem sizeA (w : World) (g : Nat) (d : Array An) : (Go.Sort.putRowK encA 4 w g 0 d).heap.size = w.heap.size := by simp [Go.Sort.putRowK, Go.Sort.putRow, Go.Sort.mapBlock]
theorem grown_sortedA {w : World} {g n : Nat} {d : Array An} {os : Array Obj} : w.grownBy (sortWorldK encA 4 w g 0 n d os) (some g) := by
  have h1 : (Go.Sort.putRowK encA 4 (Go.Sort.ahead w n) g 0 d).heap.size = w.heap.size := sizeA _ g d
  refine ⟨rfl, rfl, rfl, ?_, fun k hk hne => ?_⟩
  · unfold sortWorldK
    rw [Go.Sort.size_grow, h1]
    omega
  · unfold sortWorldK
    rw [Go.Sort.heap_grow_old _ _ (by rw [h1]; exact hk)]
    unfold Go.Sort.putRowK Go.Sort.putRow Go.Sort.mapBlock
    show ((Go.Sort.ahead w n).heap.modify g _)[k]? = _
    rw [Array.getElem?_modify, if_neg (fun e => hne (by rw [e]))]
    rfl
theorem permA {f : List An} {d' : Array An} (hp : Go.Sort.PermIn 0 f.length f.toArray d') : d'.toList.Perm f := by
  have hsz : d'.size = f.length := by simpa using hp.1
  have := hp.2.2
  have e : List.take f.length d'.toList = d'.toList := List.take_of_length_le (by simp [hsz])
  have h2 : (List.take f.length d'.toList).Perm f := by simpa [hsz] using this
  rwa [e] at h2
theorem sp45 : CluS.SP Try.prog 4 where
  mixed := by kernel_rfl
  f111 := Try.func111
  f100 := Try.func100
  f96 := Try.func96
  t0 := Try.underlying0
  a0 := Try.isAgg0
  z0 := Try.sizeOf0
  v0 := Try.zeroValue0
  t3 := Try.underlying3
  a3 := Try.isAgg3
  z3 := Try.sizeOf3
  t4 := Try.underlying4
  a4 := Try.isAgg4
  z4 := Try.sizeOf4
  t124 := Try.underlying124
  a124 := Try.isAgg124
  z124 := Try.sizeOf124
  tsl := Try.underlying40
  asl := Try.isAgg40
  zsl := Try.sizeOf40
  tfn := Try.underlying97
  afn := Try.isAgg97
  zfn := Try.sizeOf97
  aE := Try.isAgg45
  zE := Try.sizeOf45
set_option maxRecDepth 100000 in
set_option maxHeartbeats 2000000 in
theorem stab45_some {w : World} {base : Nat} {ok : Nat → Prop} {v : Value} {f : List S45} (h : Kd.R k45 45 w base ok v f) (h0 : 0 < f.length) (hm : f.length < 1000000) :
    Calls Try.prog 69 #[v, .func (.func 70) #[] #[]] w fun e w' => e = .returned (.tuple #[]) ∧ SLk k45 w' v (sortT f) ∧ w.grownBy w' v.ownBlock := by
  obtain ⟨g, cap, rfl, hg, hgs, _⟩ := Kd.R_form h h0
  have hH := holdsA h
  obtain ⟨_, hcap, _⟩ := Kd.R_reads' h
  obtain ⟨n, hn⟩ : ∃ n, n = f.length := ⟨_, rfl⟩
  obtain ⟨fa, hfa⟩ : ∃ fa, fa = f.zipIdx := ⟨_, rfl⟩
  have hfl : fa.length = n := by rw [hfa, hn]; simp
  rw [← hfa] at hH
  have hsa : fa.toArray.size = n := by simp [hfl]
  have hR : RowK encA 4 w g 0 fa.toArray := ⟨fun _ => rfl, fun x v hv => by simp [encA] at hv; rcases hv with rfl | rfl | rfl | rfl <;> rfl, hH, hgs⟩
  have eg : ∀ args w, (callFunc 70 args).run Try.prog w = .ok (.enter 70 args) w := enters_of Try.func70 (by kernel_rfl) rfl
  have hcmp : CmpLays Try.prog 70 #[] encA 4 cfA g 0 n w := fun m os dk _ x y => byIn_c x y _
  have hcon := CluS.stab_c encA cfA 70 #[] g 0 cap n w (by omega)
    (fun a b d w1 hd S hab hb => by
      have := AnyQ.insertionSortCmpFunc_w lins45 4 Try.isAgg45 Try.sizeOf45 encA cfA 70 #[] g 0 cap a b fa.toArray d w w1 eg (by rw [hsa]; exact hcmp) hR (hsa.trans hd.symm) S swoA hab (by omega) (by omega)
      change Calls Try.prog 95 _ _ _ at this
      rw [hd] at this
      exact this)
    (fun a b d hd hab hb => ((Go.Sort.insertionSort_holds swoA d a b hab (by omega)).1.1).trans hd)
    (fun a m b d w1 hd S h1 h2 h3 => CluS.sym_c sp45 encA cfA 70 #[] g 0 cap n fa.toArray w hR hsa eg hcmp (by omega) n a m b d w1 hd S h1 h2 h3 (by omega))
    fa.toArray w hsa (SWK.start hH)
  have hs := UStable.stable_ok swoX (ltOf cfA) n fa.toArray (by omega) (fun k j hkj hj => by
    have hk1 : k < f.length := by omega
    have hj1 : j < f.length := by omega
    have hjn : j < fa.length := by omega
    have hkn : k < fa.length := by omega
    rw [getA fa j hjn, getA fa k hkn]
    have e1 : fa[j] = (f[j], j) := by subst hfa; simp
    have e2 : fa[k] = (f[k], k) := by subst hfa; simp
    rw [e1, e2, ltA, Bool.eq_iff_iff, lx_true, decide_eq_true_iff]
    unfold key
    dsimp only
    omega)
  rw [← hn]
  obtain ⟨r, hr⟩ : ∃ r, r = UStable.stable (ltOf cfA) n fa.toArray := ⟨_, rfl⟩
  rw [← hr] at hcon hs
  have HCON : Aside0 (Calls Try.prog 90 #[.slice (some ⟨g, 0, none⟩) n cap, .int .i64 n, .func (.func 70) #[] #[]] w _) := ⟨hcon⟩
  have HS := Aside0.mk hs
  have HH := Aside0.mk hH
  have HN := Aside0.mk hn
  have HFA := Aside0.mk hfa
  have HFL := Aside0.mk hfl
  have HA := Aside0.mk hsa
  clear hcon hs hH hcmp hR eg hn hsa hr hfa hfl
  go_enter Try.func69, Try.ntmps69
  go_wp2_with (go_at_call 90; refine HCON.out.mono ?_; rintro e w2 ⟨rfl, hS⟩; have HS9 := Aside0.mk hS; clear hS)
  go_end0
  have hsz : r.size = n := by rw [HS.out.1.1]; exact HA.out
  obtain ⟨q, os, hw2⟩ := HS9.out
  subst hw2
  have hp := HS.out.1
  rw [← HFL.out] at hp
  have hrd := readsA (cap := cap) (holdsK_sortWorldK encA 4 w g 0 q fa.toArray r os hgs HH.out (by rw [hsz, HA.out])) (by have := HN.out; omega) (by have := HN.out; omega)
  have hfin : r.toList.map (·.1) = sortT f := stable_is f r.toList (by rw [← HFA.out]; exact permA hp) (by
    unfold Sorted
    rw [List.pairwise_iff_getElem]
    intro i j hi hj hij
    have := HS.out.2 i j (Nat.zero_le _) hij (by rw [← hsz]; simpa using hj)
    rw [getElem!_pos _ i (by simpa using hi), getElem!_pos _ j (by simpa using hj)] at this
    simpa using this)
  rw [hfin, hsz] at hrd
  exact ⟨rfl, hrd, grown_sortedA⟩
set_option maxRecDepth 100000 in
set_option maxHeartbeats 2000000 in
theorem stab45_none {w : World} {base : Nat} {ok : Nat → Prop} {v : Value} {f : List S45} (h : Kd.R k45 45 w base ok v f) (h0 : f.length = 0) :
    Calls Try.prog 69 #[v, .func (.func 70) #[] #[]] w fun e w' => e = .returned (.tuple #[]) ∧ SLk k45 w' v (sortT f) ∧ w.grownBy w' v.ownBlock := by
  obtain ⟨A, c, rfl, hl, hr⟩ := Kd.R_reads h
  have hsl : SLk k45 w (.slice A f.length c) f := SLk.of_R h
  have hf : f = [] := List.eq_nil_of_length_eq_zero h0
  subst hf
  have HS := Aside0.mk hsl
  have hcon := fun W => AnyF.insertionSortCmpFunc_none lins45 A c (.func (.func 70) #[] #[]) W
  change ∀ W, Calls Try.prog 95 _ _ _ at hcon
  have HCON := Aside0.mk hcon
  clear hcon hsl h hr hl h0
  go_enter Try.func69, Try.ntmps69
  go_wp2_with (go_at_call 90; go_enter Try.func90, Try.ntmps90)
  refine wp_loop_rounds 1 ?_
  rw [rounds_succ]
  go_wp2_with (go_at_call 95; refine (HCON.out _).mono ?_; rintro e w2 ⟨rfl, rfl⟩)
  refine wp_loop_rounds 1 ?_
  rw [rounds_succ]
  go_wp2_with fail
  go_end0
  go_wp2_with fail
  go_end0
  first | exact ⟨HS.out, World.grownBy.refl _ _⟩ | exact ⟨rfl, HS.out, World.grownBy.refl _ _⟩
theorem stab45_c {w : World} {base : Nat} {ok : Nat → Prop} {v : Value} {f : List S45} (h : Kd.R k45 45 w base ok v f) (hm : f.length < 1000000) :
    Calls Try.prog 69 #[v, .func (.func 70) #[] #[]] w fun e w' => e = .returned (.tuple #[]) ∧ SLk k45 w' v (sortT f) ∧ w.grownBy w' v.ownBlock := by
  rcases Nat.eq_zero_or_pos f.length with h0 | h0
  · exact stab45_none h h0
  · exact stab45_some h h0 hm
end Go.Proofs.Ytohhobcipfmkbaa.CTurn
