/- slices.SortStableFunc at a few spans; spans that are parts; cluster.Check at a few clusters. -/
import Derived.Test.YtohhobcipfmkbaaCFin15
import Derived.Test.YtohhobcipfmkbaaCRow45
namespace Go.Proofs.Ytohhobcipfmkbaa.CSort
open Go.RowKit Go.Proofs.YtohhobcipfmkbaaW.PrintWords Go.Proofs.YtohhobcipfmkbaaW.PrintMore Go.Proofs.YtohhobcipfmkbaaW.PrintLast Go.Proofs.Ytohhobcipfmkbaa.U Go.Proofs.Ytohhobcipfmkbaa.PClusterFinest
open Go.Shelf
set_option linter.unusedVariables false
set_option linter.unusedSimpArgs false
shelf_lay_g SlLaysF0.n20 Slsf 20 at Try 91 as lins
set_option maxRecDepth 100000 in
set_option maxHeartbeats 2000000 in
theorem stable_few {w : World} {base : Nat} {ok : Nat → Prop} {v : Value} {f : List S33} (h : Kd.R k33 33 w base ok v f) (h0 : 0 < f.length) (hm : f.length < 20) :
    Calls Try.prog 53 #[v, .func (.func 54) #[] #[]] w fun e w' => e = .returned (.tuple #[]) ∧ ∃ d : List S33, d.Perm f ∧ d.Pairwise (fun a b => ¬ b.f0 < a.f0) ∧ SLk k33 w' v d ∧ w.grownBy w' v.ownBlock := by
  obtain ⟨g, cap, rfl, hg, hgs, _⟩ := Kd.R_form h h0
  have hH := holds33 h
  obtain ⟨_, hcap, _⟩ := Kd.R_reads' h
  have hcon := AnyQ.insertionSortCmpFunc lins 2 Try.isAgg33 Try.sizeOf33 enc33 (fun _ => rfl) (fun x v hv => by simp [enc33] at hv; rcases hv with rfl | rfl <;> rfl) cf33 54 #[] g 0 cap 0 f.length f.toArray w (enters_of Try.func54 (by kernel_rfl) rfl) (fun _ _ _ _ x y => byLo_c x y _) hH hgs (Nat.zero_le _) (by simp) (by simp; omega)
  have hs := Go.Sort.insertionSort_holds (lt := ltOf cf33) swo33 f.toArray 0 f.length (Nat.zero_le _) (by simp)
  change Calls Try.prog 91 _ _ _ at hcon
  have hsize : f.toArray.size = f.length := by simp
  rw [hsize] at hcon
  have HCON : Aside0 (Calls Try.prog 91 #[.slice (some ⟨g, 0, none⟩) f.length cap, .int .i64 (0 : Nat), .int .i64 f.length, .func (.func 54) #[] #[]] w _) := ⟨hcon⟩
  have HS := Aside0.mk hs
  have HH := Aside0.mk hH
  clear hcon hs hH
  have q1 : ¬ (20 : Int) ≤ (f.length : Int) := by omega
  have q2 : ¬ (20 : Int) < (f.length : Int) := by omega
  go_enter Try.func53, Try.ntmps53
  go_wp2_with (go_at_call 79; go_enter Try.func79, Try.ntmps79)
  refine wp_loop_rounds 1 ?_
  rw [rounds_succ]
  go_wp2_with (go_at_call 91; refine HCON.out.mono ?_; rintro e w2 ⟨rfl, n, os, rfl⟩)
  refine wp_loop_rounds 1 ?_
  rw [rounds_succ]
  go_wp2_with fail
  go_end0
  go_wp2_with fail
  go_end0
  have hsz : (Go.Sort.insertionSort (ltOf cf33) f.toArray 0 f.length).size = f.length := by rw [HS.out.1.1]; simp
  refine ⟨rfl, _, perm_of HS.out.1, ?_, ?_, grown_sorted⟩
  · rw [List.pairwise_iff_getElem]
    intro i j hi hj hij
    have := HS.out.2 i j (Nat.zero_le _) hij (by rw [← hsz]; simpa using hj)
    rw [lt33, getElem!_pos _ i (by simpa using hi), getElem!_pos _ j (by simpa using hj)] at this
    simpa using this
  · have := reads33 (cap := cap) (holdsK_sortWorldK enc33 2 w g 0 n f.toArray _ os hgs HH.out (by rw [hsz]; simp)) (by omega) (by omega)
    rw [show (Go.Sort.insertionSort (ltOf cf33) f.toArray 0 f.length).toList.length = f.length by simpa using hsz] at this
    exact this
/-- spans that are the parts of n places, from e on -/
def partsTo (n : Int) : List S33 → Int → Bool
  | [], e => decide (e = n)
  | s :: r, e => if s.f0 = e ∧ 0 ≤ s.f0 ∧ s.f0 < s.f1 then partsTo n r s.f1 else false
theorem parts_loop (n : Int) (l : List S33) (hl : l.length ≤ 1000000) (d : Nat) : ∀ (i : Nat) (e : Int), i + d = l.length → Ev (fun k => span_Parts.l0 k n e l (l.length : Int) (i : Int)) (partsTo n (l.drop i) e) := by
  induction d with
  | zero =>
    intro i e hd
    rw [List.drop_of_length_le (by omega), partsTo]
    refine Ev.step (fun k => by rw [span_Parts.l0]) (ev_neg (by omega) (ev_eq (ev_now _) ?_))
    rw [Bool.eq_iff_iff]; simp
  | succ d ih =>
    intro i e hd
    have hlt : i < l.length := by omega
    rw [List.drop_eq_getElem_cons hlt, partsTo]
    refine Ev.step (fun k => by rw [span_Parts.l0]) (ev_pos (by omega) (ev_pos (by omega) (ev_pos (by omega) ?_)))
    rw [CFin.rd33 hlt]
    by_cases h1 : l[i].f0 = e
    · refine ev_pos h1 ?_
      unfold span_Right.f
      by_cases h2 : 0 ≤ l[i].f0
      · rw [if_pos h2]
        refine ev_bindc rfl ?_
        by_cases h3 : l[i].f0 < l[i].f1
        · rw [if_pos ⟨h1, h2, h3⟩]
          refine ev_pos (decide_eq_true h3) ?_
          rw [w64 (by omega) (by omega), show (i : Int) + 1 = ((i + 1 : Nat) : Int) by omega]
          exact ih (i + 1) _ (by omega)
        · rw [if_neg (fun h => h3 h.2.2)]
          exact ev_neg (by simpa using h3) (ev_now _)
      · rw [if_neg h2, if_neg (fun h => h2 h.2.1)]
        exact ev_bindc rfl (ev_neg (by simp) (ev_now _))
    · rw [if_neg (fun h => h1 h.1)]
      exact ev_neg h1 (ev_now _)
theorem parts_c (n : Int) {w : World} {v : Value} {l : List S33} (h : SLk k33 w v l) (hl : l.length ≤ 1000000) : Calls Try.prog 55 #[v, .int .i64 n] w fun e w' => e = .returned (.bool (partsTo n l 0)) ∧ Below w.heap.size w w' := by
  obtain ⟨A, c, rfl, hc, hC⟩ := h
  obtain ⟨k, hk⟩ := CFin.ev_some (parts_loop n l hl l.length 0 0 (by omega))
  exact span_Parts.calls k A c l n _ w hC hc hk
/-- which spans come out of a sort makes no odds: they are parts or not -/
theorem partsTo_ge (n : Int) : ∀ (l : List S33) (e : Int), partsTo n l e = true → ∀ s ∈ l, e ≤ s.f0 ∧ s.f0 < s.f1
  | [], e, _, s, hs => by cases hs
  | x :: r, e, h, s, hs => by
    unfold partsTo at h
    split at h
    · rename_i hc
      rcases List.mem_cons.1 hs with rfl | hs
      · omega
      · have := partsTo_ge n r _ h s hs
        omega
    · cases h
theorem partsTo_sorted (n : Int) (l : List S33) (e : Int) (h : partsTo n l e = true) : l.Pairwise (fun a b => a.f0 < b.f0) := by
  induction l generalizing e with
  | nil => exact List.Pairwise.nil
  | cons x r ih =>
    unfold partsTo at h
    split at h
    · rename_i hc
      exact List.pairwise_cons.2 ⟨fun y hy => by have := partsTo_ge n r _ h y hy; omega, ih _ h⟩
    · cases h
theorem sorted_uniq : ∀ (a b : List S33), a.Perm b → a.Pairwise (fun x y => x.f0 < y.f0) → b.Pairwise (fun x y => ¬ y.f0 < x.f0) → a = b
  | [], b, hp, _, _ => (List.nil_perm.1 hp).symm
  | x :: r, b, hp, ha, hb => by
    cases b with
    | nil => exact absurd (List.perm_nil.1 hp) (by simp)
    | cons y t =>
      rw [List.pairwise_cons] at ha hb
      have hxy : x = y := by
        rcases List.mem_cons.1 (hp.mem_iff.2 List.mem_cons_self) with h | h
        · exact h.symm
        · have h1 := ha.1 y h
          rcases List.mem_cons.1 (hp.mem_iff.1 List.mem_cons_self) with h2 | h2
          · exact h2
          · exact absurd h1 (hb.1 x h2)
      subst hxy
      rw [sorted_uniq r t hp.cons_inv ha.2 hb.2]
theorem parts_perm (n : Int) (a b : List S33) (hp : a.Perm b) (ha : a.Pairwise (fun x y => ¬ y.f0 < x.f0)) (hb : b.Pairwise (fun x y => ¬ y.f0 < x.f0)) (e : Int) : partsTo n a e = partsTo n b e := by
  rw [Bool.eq_iff_iff]
  constructor
  · intro h
    rw [← sorted_uniq a b hp (partsTo_sorted n a e h) hb]
    exact h
  · intro h
    rw [← sorted_uniq b a hp.symm (partsTo_sorted n b e h) ha]
    exact h
/-- clusters that are a map: d is what comes out, sorted -/
def checkB (n m : Int) (l : List S45) (d : List S33) : Bool := partsTo n (l.map (·.f0)) 0 && partsTo m d 0
set_option maxRecDepth 100000 in
set_option maxHeartbeats 2000000 in
/-- cluster.Check over any contract of the stable sort at its spans -/
theorem check_by {w : World} {v : Value} {l : List S45} (n m : Int) (h : SLk k45 w v l) (hl : l.length ≤ 1000000)
    (hsort : ∀ (w1 : World) (u : Value) (base : Nat) (ok : Nat → Prop), Kd.R k33 33 w1 base ok u (l.map (·.f1)) → Calls Try.prog 53 #[u, .func (.func 54) #[] #[]] w1 fun e w' => e = .returned (.tuple #[]) ∧ ∃ d : List S33, d.Perm (l.map (·.f1)) ∧ d.Pairwise (fun a b => ¬ b.f0 < a.f0) ∧ SLk k33 w' u d ∧ w1.grownBy w' u.ownBlock) :
    Calls Try.prog 29 #[v, .int .i64 n, .int .i64 m] w fun e w' => ∃ d : List S33, d.Perm (l.map (·.f1)) ∧ d.Pairwise (fun a b => ¬ b.f0 < a.f0) ∧ e = .returned (.bool (checkB n m l d)) ∧ Below w.heap.size w w' := by
  have H := Aside0.mk h
  have HSO := Aside0.mk hsort
  clear h hsort
  go_enter Try.func29, Try.ntmps29
  go_upto_region 3 with (first | (go_at_call 52; refine (CFin.sides_c H.out hl).mono ?_; rintro e w1 ⟨u1, u2, rfl, a1, a2, a3, a4⟩; have HR1 := Aside0.mk a1; have HR2 := Aside0.mk a2; have HNE := Aside0.mk a3; have HB1 := Aside0.mk a4; clear a1 a2 a3 a4) | (go_at_call 53; refine (HSO.out _ _ _ _ HR2.out).mono ?_; rintro e w2 ⟨rfl, d, p1, p2, p3, p4⟩; have HP := Aside0.mk p1; have HPW := Aside0.mk p2; have HS2 := Aside0.mk p3; have HI2 : Aside0 (SLk k33 w2 u1 (l.map (·.f0))) := ⟨SLk.of_R (Kd.R_grown HR1.out p4 (fun k hk e => HNE.out k hk.symm e.symm))⟩; have HB2 : Aside0 (Below w.heap.size w w2) := ⟨HB1.out.grown p4 HB1.out.size (fun j hj => Kd.R_base HR2.out j hj)⟩; clear p1 p2 p3 p4 HR1 HR2 HB1 HNE))
  have hdl : d.length = l.length := by rw [HP.out.length_eq, List.length_map]
  have hdm : d.length ≤ 1000000 := by omega
  have him : (l.map (·.f0)).length ≤ 1000000 := by rw [List.length_map]; exact hl
  have HDM := Aside0.mk hdm
  have HIM := Aside0.mk him
  obtain ⟨b1, hb1⟩ : ∃ b1, partsTo n (l.map (·.f0)) 0 = b1 := ⟨_, rfl⟩
  obtain ⟨b2, hb2⟩ : ∃ b2, partsTo m d 0 = b2 := ⟨_, rfl⟩
  have HC : Aside0 (checkB n m l d = (b1 && b2)) := ⟨by unfold checkB; rw [hb1, hb2]⟩
  have HB1 := Aside0.mk hb1
  have HB2' := Aside0.mk hb2
  have T1 : Aside0 True := ⟨trivial⟩
  clear hdl hdm him hb1 hb2
  cases b1 with
  | false =>
    go_wp2_with (first | (go_at_call 55; have tk := T1.out; clear T1 tk; refine (parts_c n HI2.out HIM.out).mono ?_; rintro e w3 ⟨rfl, hb3⟩; rw [HB1.out]; have HB3 : Aside0 (Below w.heap.size w w3) := ⟨below_step HB2.out hb3⟩; have HS3 := Aside0.mk (SLk.below HS2.out hb3); clear hb3 HS2 HB2))
    go_ret
    exact ⟨d, HP.out, HPW.out, by rw [HC.out]; rfl, HB3.out⟩
  | true =>
    go_wp2_with (first | (go_at_call 55; have tk := T1.out; clear T1 tk; refine (parts_c n HI2.out HIM.out).mono ?_; rintro e w3 ⟨rfl, hb3⟩; rw [HB1.out]; have HB3 : Aside0 (Below w.heap.size w w3) := ⟨below_step HB2.out hb3⟩; have HS3 := Aside0.mk (SLk.below HS2.out hb3); clear hb3 HS2 HB2) | (go_at_call 55; refine (parts_c m HS3.out HDM.out).mono ?_; rintro e w4 ⟨rfl, hb4⟩; rw [HB2'.out]; have HB4 : Aside0 (Below w.heap.size w w4) := ⟨below_step HB3.out hb4⟩; clear hb4 HS3 HB3))
    go_ret
    exact ⟨d, HP.out, HPW.out, by rw [HC.out]; rfl, HB4.out⟩
end Go.Proofs.Ytohhobcipfmkbaa.CSort
