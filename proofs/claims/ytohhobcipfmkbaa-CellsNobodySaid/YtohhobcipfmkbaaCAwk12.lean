/- slices.Equal on whole numbers; naskhlaw12.awake answers true. -/
import Derived.Test.YtohhobcipfmkbaaCCells5
import Derived.Test.YtohhobcipfmkbaaCEqI
import Derived.Test.YtohhobcipfmkbaaCFin15
import Derived.Test.YtohhobcipfmkbaaCAwk
namespace Go.Proofs.Ytohhobcipfmkbaa.Cel
open Go.RowKit Go.Maps Go.Proofs.YtohhobcipfmkbaaW.PrintWords Go.Proofs.YtohhobcipfmkbaaW.PrintMore Go.Proofs.YtohhobcipfmkbaaW.PrintLast Go.Proofs.Ytohhobcipfmkbaa.U Go.Proofs.Ytohhobcipfmkbaa.PClusterFinest Go.Proofs.Ytohhobcipfmkbaa.UFinest Go.Proofs.Ytohhobcipfmkbaa.UGroups Go.Proofs.Ytohhobcipfmkbaa.UFinEv
open Go.Proofs.Ytohhobcipfmkbaa.CFin (rd33 ev_some finest_c finest_bad cluS toS eq45_c nil_slk drawn0_below)
set_option linter.unusedVariables false
set_option linter.unusedSimpArgs false
theorem eqI_loop (xs : List Int) (hm : xs.length ≤ 1000000000) (n : Nat) : ∀ i : Nat, i + n = xs.length → Ev (fun k => slices_Equal_int_int.l0 k xs xs (xs.length : Int) i) true := by
  induction n with
  | zero =>
    intro i hi
    exact Ev.step (fun k => by rw [slices_Equal_int_int.l0]) (ev_neg (by omega) (ev_now _))
  | succ n ih =>
    intro i hi
    refine Ev.step (fun k => by rw [slices_Equal_int_int.l0]) (ev_pos (by omega) (ev_pos (by omega) (ev_pos (by omega) (ev_pos (by omega) (ev_pos rfl ?_)))))
    rw [w64 (by omega) (by omega)]
    exact ih (i + 1) (by omega)
theorem eqI_c {u v : Value} {xs : List Int} {w : World} (h1 : SL w u xs) (h2 : SL w v xs) (hm : xs.length ≤ 1000000000) : Calls Try.prog 16 #[u, v] w fun e w' => e = .returned (.bool true) ∧ Below w.heap.size w w' := by
  obtain ⟨A, c, rfl, hc, hC⟩ := h1
  obtain ⟨B, d, rfl, hd, hD⟩ := h2
  have he : Ev (fun k => slices_Equal_int_int.f k xs xs) true := ev_pos rfl (eqI_loop xs hm xs.length 0 (by omega))
  obtain ⟨k, hk⟩ := ev_some he
  refine (slices_Equal_int_int.calls k A c xs B d xs true w hC hc hD hd hk).mono ?_
  rintro e w' ⟨rfl, hb⟩
  first | exact ⟨rfl, hb⟩ | exact ⟨rfl, drawn0_below hb⟩
/-- the links of the cells that awake makes -/
theorem aw_links : linksOf [[], [7, 8]] (groups 2 []) = ([⟨⟨1, 2⟩, ⟨0, 2⟩⟩], 2) := by kernel_rfl
abbrev awK : List S45 := [⟨⟨1, 2⟩, ⟨0, 2⟩⟩]
theorem awK_wrong : wrongR (2 : Nat) (2 : Nat) awK = 0 := by decide
theorem awK_cluS {L : Lab} (h : FinOk 2 2 (awK.map lkOf) L) : cluS 2 2 L 2 = [⟨⟨0, 2⟩, ⟨0, 2⟩⟩] := by
  have hb := h.closed.both ⟨1, 2, 0, 2⟩ (by simp [lkOf])
  have ho := h.closed.outs ⟨1, 2, 0, 2⟩ (by simp [lkOf]) 1 (by decide) (by decide)
  have ha := h.closed.ahead 0 (by decide) (by decide)
  have e1 : L 1 = L 2 := hb
  have e2 : L 2 = L 3 := ho
  have e3 : L 0 = L 1 := ha
  unfold cluS cluTo
  simp [List.range_succ, List.filterMap, hullL, e1, e3, ← e2, toS]
theorem sl78 {w : World} {g : Nat} (h : w.heap[g]? = some (.cells #[.int .i64 7, .int .i64 8] 3 (0, 0))) : SL w (.slice (some ⟨g, 0, none⟩) 2 2) [7, 8] := by
  refine ⟨_, _, rfl, Nat.le_refl _, rfl, by simp, fun _ => ⟨_, rfl, fun j p hj => ?_⟩⟩
  match j, hj with
  | 0, hj =>
    obtain rfl := Option.some.inj hj
    refine ⟨[.int .i64 7], rfl, rfl, fun k u hu => ?_⟩
    cases k with
    | zero => rw [add_plain, blk_cell h]; exact hu
    | succ k => simp at hu
  | 1, hj =>
    obtain rfl := Option.some.inj hj
    refine ⟨[.int .i64 8], rfl, rfl, fun k u hu => ?_⟩
    cases k with
    | zero => rw [add_plain, blk_cell h]; exact hu
    | succ k => simp at hu
theorem slClu {W : World} {b : Nat} {p : S45} (h : W.heap[b]? = some (.cells #[.int .i64 p.f0.f0, .int .i64 p.f0.f1, .int .i64 p.f1.f0, .int .i64 p.f1.f1] 45 (0, 0))) : SLk k45 W (.slice (some ⟨b, 0, none⟩) 1 1) [p] := by
  refine ⟨_, _, rfl, Nat.le_refl _, rfl, by simp, fun hn => ⟨_, rfl, fun j x hj => ?_⟩⟩
  match j, hj with
  | 0, hj =>
    obtain rfl := Option.some.inj hj
    refine ⟨_, rfl, k45_mk W _, fun i u hu => ?_⟩
    rw [show (⟨b, 0, none⟩ : Addr).add (0 * k45.sz + i) = ⟨b, i, none⟩ by rw [add_plain]; simp, blk_cell h]
    match i, hu with
    | 0, hu => exact hu
    | 1, hu => exact hu
    | 2, hu => exact hu
    | 3, hu => exact hu
set_option maxRecDepth 100000 in
set_option maxHeartbeats 4000000 in
theorem awake12_c {w : World} : Calls Try.prog 12 #[] w fun e w' => e = .returned (.bool true) ∧ Below w.heap.size w w' := by
  go_enter Try.func12, Try.ntmps12
  go_wp2_with (first | (go_at_call 13; refine (new_c 2 (by decide)).mono ?_; rintro e w1 ⟨b, rfl, hc, hb⟩; have HC1 := Aside0.mk hc; have HB1 := Aside0.mk hb; clear hc hb) | (go_at_call 24; refine (set_c (CellsAt.below HC1.out (below_alloc (Below.refl _ _) _)) 1 (by simp) (sl78 (MapKept.heap_alloc w1 _).1) (by simp)).mono ?_; rintro e w2 ⟨rfl, hc, he⟩; have HC2 : Aside0 (CellsAt 51 w2 (fun q => w.heap.size ≤ q) b [[], [7, 8]] []) := ⟨CellsAt.mono hc (fun q hq => hq.elim (fun h => h) (fun h => Nat.le_trans HB1.out.size (Nat.le_trans (below_alloc (Below.refl _ _) _).size h)))⟩; have HB2 : Aside0 (Below w.heap.size w w2) := ⟨((Eff.of_below (below_alloc HB1.out _) (fun _ => False)).then_ he (fun k hk => .inr hk)).below (Nat.le_refl _) (fun _ h => h.elim)⟩; clear hc he) | (go_at_call 21; refine (clusters_c HC2.out (by decide) (by decide) (by decide) (fun u r w' => (0 : Int) = r ∧ SLk k45 w' u [⟨⟨0, 2⟩, ⟨0, 2⟩⟩]) (fun w1 u hs hb => by rw [show linksOf [[], [7, 8]] (groups ([[], [7, 8]] : List (List Int)).length []) = (awK, 2) from aw_links] at hs ⊢; exact (finest_c 2 2 hs (by decide) (by decide) (by decide) (by decide) awK_wrong).mono (by rintro e w' ⟨u, L2, rfl, hf, hR, hb⟩; rw [awK_cluS hf] at hR; exact ⟨_, _, rfl, ⟨rfl, SLk.of_R hR⟩, hb⟩))).mono ?_; rintro e w3 ⟨u3, r, rfl, ⟨rfl, hs⟩, hb⟩; have HU3 := Aside0.mk hs; have HC3 := Aside0.mk (HC2.out.below hb); have HB3 : Aside0 (Below w.heap.size w w3) := ⟨below_step HB2.out hb⟩; clear hs hb) | (go_at_call 17; refine (text_c HC3.out (by decide) (by decide)).mono ?_; rintro e w4 ⟨u4, rfl, hu, hb⟩; have HT4 : Aside0 (SL w4 u4 [7, 8]) := ⟨SLk.of_R hu⟩; have HU4 := Aside0.mk (SLk.below HU3.out hb); have HB4 : Aside0 (Below w.heap.size w w4) := ⟨below_step HB3.out hb⟩; clear hu hb) | (go_at_call 16; refine (eqI_c (SLk.below HT4.out (below_alloc (Below.refl _ _) _)) (sl78 (MapKept.heap_alloc w4 _).1) (by simp)).mono ?_; rintro e w5 ⟨rfl, hb⟩; have HB5 : Aside0 (Below w.heap.size w w5) := ⟨below_step (below_alloc HB4.out _) hb⟩; have HU5 := Aside0.mk (SLk.below (SLk.below HU4.out (below_alloc (Below.refl _ _) _)) hb); clear hb) | (go_at_call 23; refine (eq45_c (xs := [⟨⟨0, 2⟩, ⟨0, 2⟩⟩]) (SLk.below HU5.out (below_alloc (Below.refl _ _) _)) (slClu (MapKept.heap_alloc w5 _).1) (by simp)).mono ?_; rintro e w6 ⟨rfl, hd⟩; have HB6 : Aside0 (Below w.heap.size w w6) := ⟨below_step (below_alloc HB5.out _) (drawn0_below hd)⟩; clear hd))
  go_ret
  exact ⟨rfl, HB6.out⟩
end Go.Proofs.Ytohhobcipfmkbaa.Cel
