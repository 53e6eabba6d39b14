/- slices.SortFunc at spans, by the shelf's contract. -/
import Derived.Shelf.SlSortCmp.WholeK
import Derived.Shelf.SlSortCmp.NoneTotal
import Derived.Shelf.SlicesG.Cmp
import Derived.Ground.SlgcProg
import Derived.Ground.SlsfProg
import Derived.Test.YtohhobcipfmkbaaCFin13
namespace Go.Proofs.Ytohhobcipfmkbaa.CSort
open Go.RowKit Go.Proofs.YtohhobcipfmkbaaW.PrintWords Go.Proofs.YtohhobcipfmkbaaW.PrintMore Go.Proofs.YtohhobcipfmkbaaW.PrintLast Go.Proofs.Ytohhobcipfmkbaa.U Go.Proofs.Ytohhobcipfmkbaa.PClusterFinest
open Go.Shelf
set_option linter.unusedVariables false
set_option linter.unusedSimpArgs false
shelf_lay_g SlLaysF0.n6 Slsf 6 at Try 94 as lsort
shelf_lay_g SlLaysC2.n5 Slgc 5 at Try 80 as lcmp
instance : Inhabited S33 := ⟨z33⟩
def enc33 (x : S33) : List Value := [.int .i64 x.f0, .int .i64 x.f1]
def cf33 (x y : S33) : Int := Lib.compareInt x.f0 y.f0
theorem lt33 (x y : S33) : ltOf cf33 x y = decide (x.f0 < y.f0) := by
  unfold ltOf cf33 Lib.compareInt
  by_cases h1 : x.f0 < y.f0
  · simp [h1]
  · by_cases h2 : y.f0 < x.f0 <;> simp [h1, h2]
theorem swo33 : Go.Sort.SWO (ltOf cf33) where
  irrefl x := by rw [lt33]; simp
  trans x y z h1 h2 := by rw [lt33] at *; simp at *; omega
  ntrans x y z h1 h2 := by rw [lt33] at *; simp at *; omega
set_option maxHeartbeats 1000000 in
theorem byLo_c (x y : S33) (W : World) : Calls Try.prog 54 #[.agg #[.int .i64 x.f0, .int .i64 x.f1], .agg #[.int .i64 y.f0, .int .i64 y.f1]] W fun e w' => e = .returned (.int .i64 (cf33 x y)) ∧ ∃ q os', w' = Go.Sort.grow (W.drewN q) os' := by
  have hcon := fun W' => AnyG.cmp_Compare_int lcmp x.f0 y.f0 W'
  change ∀ W', Calls Try.prog 80 _ _ _ at hcon
  unfold cf33
  generalize Lib.compareInt x.f0 y.f0 = r at hcon ⊢
  go_enter Try.func54, Try.ntmps54
  go_wp2_with (go_at_call 80; refine (hcon _).mono ?_; rintro e w' ⟨rfl, rfl⟩)
  go_ret
  exact ⟨rfl, 0, _, by rw [Go.Sort.alloc_eq_grow, Go.Sort.alloc_eq_grow, Go.Sort.grow_grow]; rfl⟩
theorem size_put33 (w : World) (g : Nat) (d : Array S33) : (Go.Sort.putRowK enc33 2 w g 0 d).heap.size = w.heap.size := by simp [Go.Sort.putRowK, Go.Sort.putRow, Go.Sort.mapBlock]
theorem grown_sorted {w : World} {g n : Nat} {d : Array S33} {os : Array Obj} : w.grownBy (sortWorldK enc33 2 w g 0 n d os) (some g) := by
  have h1 : (Go.Sort.putRowK enc33 2 (Go.Sort.ahead w n) g 0 d).heap.size = w.heap.size := size_put33 _ g d
  refine ⟨rfl, rfl, rfl, ?_, fun k hk hne => ?_⟩
  · unfold sortWorldK
    rw [Go.Sort.size_grow, h1]
    omega
  · unfold sortWorldK
    rw [Go.Sort.heap_grow_old _ _ (by rw [h1]; exact hk)]
    unfold Go.Sort.putRowK Go.Sort.putRow Go.Sort.mapBlock
    show ((Go.Sort.ahead w n).heap.modify g _)[k]? = _
    rw [Array.getElem?_modify, if_neg (fun e => hne (by rw [e]))]
    rfl
theorem get33 (f : List S33) (i : Nat) (h : i < f.length) : (f.toArray[i]! : S33) = f.getD i z33 := by
  rw [List.getD_eq_getElem?_getD, List.getElem?_eq_getElem h, getElem!_pos f.toArray i (by simpa using h)]
  simp
theorem enc_at (x : S33) (j : Nat) : (enc33 x)[j]! = if j = 0 then .int .i64 x.f0 else if j = 1 then .int .i64 x.f1 else default := by
  match j with
  | 0 => rfl
  | 1 => rfl
  | j + 2 => rfl
theorem holds33 {w : World} {base : Nat} {ok : Nat → Prop} {g cap : Nat} {f : List S33} (h : Kd.R k33 33 w base ok (.slice (some ⟨g, 0, none⟩) f.length cap) f) : Go.Sort.HoldsK enc33 2 w g 0 f.toArray := by
  intro t ht
  rw [Go.Sort.size_flatK] at ht
  have ht' : t < f.length * 2 := by simpa using ht
  rw [Go.Sort.get_flatK _ _ _ t ht, get33 f (t / 2) (by omega), enc_at]
  obtain ⟨c, hc, hM, hcell, hfr⟩ := Kd.R_elem h z33 ((t / 2 : Nat) : Int) (by omega) (by omega)
  obtain rfl := k33_openM hM
  rw [Int.toNat_natCast] at hcell hfr
  have hsz : k33.sz = 2 := rfl
  rw [hsz] at hcell hfr
  rw [Nat.zero_add]
  rcases Nat.mod_two_eq_zero_or_one t with e | e
  · have e2 : t / 2 * 2 + 0 = t := by omega
    have h1 := hcell 0 _ rfl
    have h2 := hfr 0
    rw [e2] at h1 h2
    rw [e]
    exact ⟨h1, h2⟩
  · have e2 : t / 2 * 2 + 1 = t := by omega
    have h1 := hcell 1 _ rfl
    have h2 := hfr 1
    rw [e2] at h1 h2
    rw [e]
    exact ⟨h1, h2⟩
theorem reads33 {w : World} {g cap : Nat} {d : Array S33} (h : Go.Sort.HoldsK enc33 2 w g 0 d) (hc : d.size ≤ cap) (hm : d.size ≤ 1000000) : SLk k33 w (.slice (some ⟨g, 0, none⟩) d.toList.length cap) d.toList := by
  refine ⟨_, _, rfl, by simpa using hc, rfl, by simp; omega, fun hn => ⟨_, rfl, fun j p hj => ?_⟩⟩
  obtain ⟨hl, hp⟩ := List.getElem?_eq_some_iff.1 hj
  have hl' : j < d.size := by simpa using hl
  have hg : ∀ i, i < 2 → w.cell? ⟨g, j * 2 + i, none⟩ = some ((enc33 p)[i]!) := fun i hi => by
    have h1 := (h (j * 2 + i) (by rw [Go.Sort.size_flatK]; omega)).1
    rw [Nat.zero_add, Go.Sort.get_flatK _ _ _ _ (by omega), show (j * 2 + i) / 2 = j by omega, show (j * 2 + i) % 2 = i by omega, getElem!_pos d j hl'] at h1
    have e : d[j] = p := by simpa using hp
    rw [e] at h1
    exact h1
  refine ⟨_, rfl, k33_mk w p, fun i u hu => ?_⟩
  have ea : (⟨g, 0, none⟩ : Addr).add (j * k33.sz + i) = ⟨g, j * 2 + i, none⟩ := by rw [add_plain]; rfl
  rw [ea]
  match i, hu with
  | 0, hu => obtain rfl := Option.some.inj hu; exact hg 0 (by omega)
  | 1, hu => obtain rfl := Option.some.inj hu; exact hg 1 (by omega)
theorem perm_of {f : List S33} {d' : Array S33} (hp : Go.Sort.PermIn 0 f.length f.toArray d') : d'.toList.Perm f := by
  have hsz : d'.size = f.length := by simpa using hp.1
  have := hp.2.2
  have e : List.take f.length d'.toList = d'.toList := List.take_of_length_le (by simp [hsz])
  have h2 : (List.take f.length d'.toList).Perm f := by simpa [hsz] using this
  rwa [e] at h2
theorem sort_c {w : World} {base : Nat} {ok : Nat → Prop} {v : Value} {f : List S33} (h : Kd.R k33 33 w base ok v f) (hm : f.length ≤ 1000000) :
    Calls Try.prog 94 #[v, .func (.func 54) #[] #[]] w fun e w' => e = .returned (.tuple #[]) ∧ ∃ d : List S33, d.Perm f ∧ d.Pairwise (fun a b => ¬ b.f0 < a.f0) ∧ SLk k33 w' v d ∧ w.grownBy w' v.ownBlock := by
  by_cases h0 : 0 < f.length
  · obtain ⟨g, cap, rfl, hg, hgs, _⟩ := Kd.R_form h h0
    have hH := holds33 h
    obtain ⟨_, hcap, _⟩ := Kd.R_reads' h
    have hcon := AnyQ.slices_SortFunc lsort 2 Try.isAgg33 Try.sizeOf33 enc33 (fun _ => rfl) (fun x v hv => by simp [enc33] at hv; rcases hv with rfl | rfl <;> rfl) cf33 swo33 54 #[] g 0 cap f.toArray w (enters_of Try.func54 (by kernel_rfl) rfl) (fun _ _ _ _ x y => byLo_c x y _) hH hgs (by simp; omega)
    refine hcon.mono ?_
    rintro e w' ⟨rfl, d', n, os, hp, hs, rfl⟩
    have hsz : d'.size = f.length := by simpa using hp.1
    refine ⟨rfl, d'.toList, perm_of (by simpa using hp), ?_, ?_, grown_sorted⟩
    · rw [List.pairwise_iff_getElem]
      intro i j hi hj hij
      have := hs i j (Nat.zero_le _) hij (by simpa [hsz] using hj)
      rw [lt33, getElem!_pos d' i (by simpa using hi), getElem!_pos d' j (by simpa using hj)] at this
      simpa using this
    · have := reads33 (cap := cap) (holdsK_sortWorldK enc33 2 w g 0 n f.toArray d' os hgs hH (by simpa using hsz)) (by omega) (by omega)
      rw [show d'.toList.length = f.length by simpa using hsz] at this
      exact this
  · obtain rfl : f = [] := List.eq_nil_of_length_eq_zero (by omega)
    obtain ⟨A, c, rfl⟩ := Kd.R_slice h
    refine (AnyF.slices_SortFunc_none lsort A c _ w).mono ?_
    rintro e w' ⟨rfl, rfl⟩
    exact ⟨rfl, [], List.Perm.refl _, List.Pairwise.nil, SLk.of_R h, World.grownBy.refl _ _⟩
end Go.Proofs.Ytohhobcipfmkbaa.CSort
