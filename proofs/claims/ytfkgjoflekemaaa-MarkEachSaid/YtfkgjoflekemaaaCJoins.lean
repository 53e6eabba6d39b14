/- The document's Joins: how each code joins, out of api's list of ranges. -/
import Derived.Test.YtfkgjoflekemaaaPGetx1
import Derived.Test.YtfkgjoflekemaaaUClosed
import Derived.Test.YtfkgjoflekemaaaCBase
namespace Go.Proofs.Ytfkgjoflekemaaa.CJoins
open Go.RowKit Go.Proofs.Ytfkgjoflekemaaa.PGet Go.Proofs.YtfkgjoflekemaaaW.PrintWords Go.Proofs.YtfkgjoflekemaaaW.PrintMore Go.Proofs.Ytfkgjoflekemaaa.U Go.Proofs.Ytfkgjoflekemaaa.CBase
set_option linter.unusedVariables false
set_option linter.unusedSimpArgs false
def getR : List S127 → Int → Int → Int
  | [], d, _ => d
  | r :: t, d, c => if r.f0 ≤ c ∧ c ≤ r.f1 then r.f2 else getR t d c
theorem get_loop (rs : List S127) (d c : Int) (hm : rs.length ≤ 1000000) (n : Nat) : ∀ i : Nat, i + n = rs.length → Ev (fun k => naskhref06_Get.l0 k rs d c i) (getR (rs.drop i) d c) := by
  induction n with
  | zero =>
    intro i hi
    refine Ev.step (fun k => by rw [naskhref06_Get.l0]) (ev_neg (by omega) (ev_eq (ev_now _) ?_))
    rw [List.drop_of_length_le (by omega)]
    rfl
  | succ n ih =>
    intro i hi
    have hrd : rd_T127 rs i = rs[i] := by
      unfold rd_T127
      rw [Int.toNat_natCast, List.getD_eq_getElem?_getD, List.getElem?_eq_getElem (by omega)]
      rfl
    refine Ev.step (fun k => by rw [naskhref06_Get.l0]) (ev_pos (by omega) (ev_pos (by omega) ?_))
    rw [hrd, List.drop_eq_getElem_cons (l := rs) (show i < rs.length by omega), getR, w64 (by omega) (by omega)]
    have go := ih (i + 1) (by omega)
    refine ev_ite (fun h1 => ev_ite (fun h2 => ?_) (fun h2 => ?_)) (fun h1 => ?_)
    · rw [if_pos ⟨h1, h2⟩]; exact ev_now _
    · rw [if_neg (fun h => h2 h.2)]; exact go
    · rw [if_neg (fun h => h1 h.1)]; exact go
theorem get_ev (rs : List S127) (d c : Int) (hm : rs.length ≤ 1000000) : Ev (fun k => naskhref06_Get.f k rs d c) (getR rs d c) := get_loop rs d c hm rs.length 0 (by omega)

/-! ### a row of triples, laid flat -/
def flat3 (rs : List S127) : List Value := rs.flatMap fun x => [.int .i64 x.f0, .int .i64 x.f1, .int .i64 x.f2]
def chunk3 : List Value → List S127
  | .int _ a :: .int _ b :: .int _ c :: r => ⟨a, b, c⟩ :: chunk3 r
  | _ => []
theorem flat3_get (rs : List S127) : ∀ (j : Nat) (x : S127), rs[j]? = some x → ∀ (i : Nat) (u : Value), ([.int .i64 x.f0, .int .i64 x.f1, .int .i64 x.f2] : List Value)[i]? = some u → (flat3 rs)[j * 3 + i]? = some u := by
  induction rs with
  | nil => intro j x h; simp at h
  | cons r t ih =>
    intro j x h i u hu
    have hi : i < 3 := by
      have := (List.getElem?_eq_some_iff.1 hu).1
      simpa using this
    cases j with
    | zero =>
      obtain rfl := Option.some.inj h
      unfold flat3
      rw [List.flatMap_cons, List.getElem?_append_left (by simp; omega)]
      simpa using hu
    | succ j =>
      have := ih j x h i u hu
      unfold flat3 at this ⊢
      rw [List.flatMap_cons, List.getElem?_append_right (by simp; omega)]
      simp only [List.length_cons, List.length_nil]
      rw [show (j + 1) * 3 + i - (0 + 1 + 1 + 1) = j * 3 + i by omega]
      exact this
theorem C_flat3 (w : World) (rs : List S127) (t : TypeId) (hm : rs.length ≤ 1000000) : Kd.C k127 (w.alloc (.cells (flat3 rs).toArray t)) (some ⟨w.heap.size, 0, none⟩) rs.length rs := by
  refine ⟨rfl, by omega, fun _ => ⟨_, rfl, fun j p hj => ⟨_, rfl, k127_mk _ p, fun i u hu => ?_⟩⟩⟩
  rw [add_plain, World.cell?_alloc_new]
  have := flat3_get rs j p hj i u hu
  show (flat3 rs).toArray[j * 3 + i]? = some u
  simpa using this

/-! ### api's list -/
noncomputable def cellsJ : Array Value := match runF Try.prog 10 1 96 #[] (default : World) with
  | some (_, w') => match (w' : World).heap[0]? with | some (Obj.cells c _ _) => c | _ => #[]
  | none => #[]
noncomputable def rsJ : List S127 := chunk3 cellsJ.toList
theorem run96 (w : World) : runF Try.prog 10 1 96 #[] w = some (.slice (some ⟨w.heap.size, 0, none⟩) 68 68, w.alloc (.cells cellsJ 127)) := by kernel_rfl
theorem rsJ_length : rsJ.length = 68 := by kernel_rfl
theorem cellsJ_flat : cellsJ = (flat3 rsJ).toArray := by kernel_rfl
theorem ranges_c (w : World) : Calls Try.prog 96 #[] w fun e w' => e = .returned (.slice (some ⟨w.heap.size, 0, none⟩) rsJ.length 68) ∧ Kd.C k127 w' (some ⟨w.heap.size, 0, none⟩) rsJ.length rsJ ∧ Below w.heap.size w w' := by
  refine (runF_ok 10 1 96 #[] w _ _ (run96 w)).mono ?_
  rintro e W ⟨rfl, rfl⟩
  rw [rsJ_length]
  refine ⟨rfl, ?_, below_alloc (Below.refl _ _) _⟩
  have := C_flat3 w rsJ 127 (by rw [rsJ_length]; decide)
  rw [← cellsJ_flat, rsJ_length] at this
  exact this
noncomputable def jn (c : Int) : Int := getR rsJ 0 c
theorem join_c (c : Int) (w : World) : Calls Try.prog 84 #[.int .i64 c] w fun e w' => e = .returned (.int .i64 (jn c)) ∧ Below w.heap.size w w' := by
  obtain ⟨k, hk⟩ := (get_ev rsJ 0 c (by rw [rsJ_length]; decide)).rounds
  have HK := Aside0.mk hk
  clear hk
  go_enter Try.func84, Try.ntmps84
  go_wp2_with fail
  refine (ranges_c _).mono ?_
  rintro e w1 ⟨rfl, hC, hb⟩
  have HC := Aside0.mk hC
  have HB := Aside0.mk hb
  clear hC hb
  go_wp2_with fail
  refine (naskhref06_Get.calls k _ _ rsJ 0 c _ _ HC.out (by rw [rsJ_length]; decide) HK.out).mono ?_
  rintro e w2 ⟨rfl, hb⟩
  have HB2 := Aside0.mk (below_step HB.out hb.below)
  clear hb
  go_wp2
  go_ret
  exact ⟨rfl, HB2.out⟩
theorem info3 : (Try.prog.info? 3).map (fun i => (i.zero, i.size, i.bytes)) = some (some (.int .i64 0), 1, 8) := by kernel_rfl
set_option maxRecDepth 100000 in
set_option maxHeartbeats 1000000 in
theorem joins_c {v : Value} {xs : List Int} {w : World} (h : SL w v xs) (hm : xs.length ≤ 1000000) : Calls Try.prog 42 #[v] w fun e w' => ∃ u, e = .returned u ∧ SL w' u (xs.map jn) ∧ Below w.heap.size w w' := by
  have H := Aside0.mk h
  obtain ⟨A, c, rfl, _, hC⟩ := h
  have HC := Aside0.mk hC
  clear hC
  go_enter Try.func42, Try.ntmps42
  go_wp2_with fail
  go_loopw [4, 3] (fun v r wr => ∃ k : Nat, v = .int .i64 k ∧ k ≤ xs.length ∧ Aside0 (Kd.R (Kd.int .i64) 3 wr w.heap.size (fun _ => True) r ((xs.take k).map jn)) ∧ Aside0 (Below w.heap.size w wr)) (fun v _ _ => xs.length - (intOf v).toNat)
  case atStart => exact ⟨0, rfl, Nat.zero_le _, ⟨Kd.R_nil _ _ _ _ _⟩, ⟨Below.refl _ _⟩⟩
  case round =>
    obtain ⟨k, rfl, hk, HR, HB⟩ := hrel
    by_cases hlt : k < xs.length
    · have hltI : (k : Int) < (xs.length : Int) := by omega
      have hkI : 0 ≤ (k : Int) := by omega
      obtain ⟨ad, ea, hx⟩ := Kd.at_int (Kd.C_below HC.out HB.out) (k : Int) hkI hltI
      cases ea
      simp only [Int.toNat_natCast] at hx
      have HS : Aside0 ((xs.take (k + 1)).map jn = (xs.take k).map jn ++ [jn (rd xs k)]) := ⟨by
        rw [List.take_succ_eq_append_getElem hlt, List.map_append, rd_get hlt]; rfl⟩
      have hl : ((xs.take k).map jn).length ≤ 1000000 := by rw [List.length_map, List.length_take]; omega
      generalize (xs.take k).map jn = out at HR HS hl
      go_wp2_with fail
      refine (join_c _ _).mono ?_
      generalize jn (rd xs k) = y at HS
      rintro e w2 ⟨rfl, hb⟩
      have HB2 := Aside0.mk (below_step HB.out hb)
      have HR2 := Aside0.mk (Kd.R_below HR.out hb)
      clear hb HB HR hx
      go_wp2_with (first | (at_builtin; refine Kd.R_append (Kd.int .i64) (w0 := w) w.heap.size rfl (.tmp 11) (.tmp 17) 22 3 (.int .i64 0) 8 rfl Try.underlying22 info3 rfl (by decide) (by omega) _ _ y [.int .i64 y] (fun _ => True) (fun _ => False) rfl rfl rfl (fun _ h => h.elim) (fun _ _ => trivial) HR2.out HB2.out HB2.out.size (by omega) ?_; intro v1 w1 hv1 hb1 hg1 hn1; have HV1 := Aside0.mk hv1; have HB1 := Aside0.mk hb1; clear hv1 hb1 hg1 hn1))
      exact ⟨⟨k + 1, by go_num, by omega, ⟨by rw [HS.out]; exact HV1.out⟩, HB1⟩, by simp [intOf]; omega⟩
    · go_wp2
      go_ret
      refine ⟨_, rfl, ?_, HB.out⟩
      have := SLk.of_R HR.out
      rwa [List.take_of_length_le (by omega)] at this
end Go.Proofs.Ytfkgjoflekemaaa.CJoins
