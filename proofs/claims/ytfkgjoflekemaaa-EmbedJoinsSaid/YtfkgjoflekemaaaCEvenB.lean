/- Merged of own texts: CEven8, CEven9, CEven10, CEven11, CEven12. -/
import Derived.Test.YtfkgjoflekemaaaCEven7
import Derived.Test.YtfkgjoflekemaaaCProps
import Derived.Laws.CopyOwn
/-! props.each, (*Props).Classes: each code's class; para.Split: a text's paragraphs: walked. -/
namespace Go.Proofs.Ytfkgjoflekemaaa.CEven
open Go.RowKit Go.Shelf Go.Proofs.YtfkgjoflekemaaaW.PrintWords Go.Proofs.YtfkgjoflekemaaaW.PrintMore Go.Proofs.YtfkgjoflekemaaaW.PrintLast Go.Proofs.Ytfkgjoflekemaaa.U Go.Proofs.Ytfkgjoflekemaaa.CBase Go.Proofs.Ytfkgjoflekemaaa.CSlices Go.Proofs.Ytfkgjoflekemaaa.UEven Go.Proofs.Ytfkgjoflekemaaa.CFunc Go.Proofs.Ytfkgjoflekemaaa.CBack Go.Proofs.Ytfkgjoflekemaaa.CProps
set_option linter.unusedVariables false
set_option linter.unusedSimpArgs false
def mapTo (f : Int → Int) (xs : List Int) (k : Nat) : List Int := (xs.take k).map f ++ List.replicate (xs.length - k) 0
theorem mapTo_zero (f : Int → Int) (xs : List Int) : mapTo f xs 0 = List.replicate xs.length 0 := by simp [mapTo]
theorem mapTo_all (f : Int → Int) (xs : List Int) : mapTo f xs xs.length = xs.map f := by simp [mapTo]
theorem mapTo_succ (f : Int → Int) (xs : List Int) (k : Nat) (hk : k < xs.length) : (mapTo f xs k).set k (f xs[k]) = mapTo f xs (k + 1) := by
  unfold mapTo
  rw [List.take_succ_eq_append_getElem hk, List.map_append, List.append_assoc, List.set_append_right _ _ (by simp; omega)]
  congr 1
  rw [List.length_map, List.length_take, Nat.min_eq_left (by omega), Nat.sub_self]
  rw [show xs.length - k = (xs.length - (k + 1)) + 1 by omega, List.replicate_succ]
  rfl
set_option maxRecDepth 100000 in
set_option maxHeartbeats 1000000 in
theorem each_c {w : World} {v : Value} {xs : List Int} (h : SL w v xs) (hm : xs.length ≤ 1000000) (g : Nat) (p : Value) (eg : ∀ args w, (callFunc g args).run Try.prog w = .ok (.enter g args) w) (f : Int → Int)
    (hstep : ∀ (wx : World) (x : Int), Below w.heap.size w wx → Calls Try.prog g #[p, .int .i64 x] wx fun e w' => e = .returned (.int .i64 (f x)) ∧ Below wx.heap.size wx w') :
    Calls Try.prog 176 #[v, .func (.func g) #[p] #[]] w fun e w' => ∃ u, e = .returned u ∧ Kd.R (Kd.int .i64) 3 w' w.heap.size (fun _ => True) u (xs.map f) ∧ Below w.heap.size w w' := by
  have H := Aside0.mk h
  have HS := Aside0.mk hstep
  obtain ⟨A, c, rfl, _, _⟩ := h
  clear hstep
  go_enter Try.func176, Try.ntmps176
  go_wp2_with (first | (refine Kd.R_make (Kd.int .i64) (w0 := w) w.heap.size 3 rfl (N := 10) rfl 22 _ _ rfl xs.length rfl rfl Try.underlying22 (.int .i64 0) 8 CSlices.info3 rfl (by decide) (by omega) 0 (ok := fun _ => True) (okp := fun _ => True) rfl (fun _ hk => hk) trivial (by omega) (by omega) (Below.refl _ _) (Nat.le_refl _) ?_; intro v w1 hv hb hg hnew; obtain ⟨go, cap, ev, hgo⟩ := R_form hv (hnew.imp fun _ h => h.1); subst ev; have HV := Aside0.mk hv; have HB1 := Aside0.mk hb; have HGO := Aside0.mk hgo; clear hv hb hg hnew hgo))
  have HV0 : Aside0 (Kd.R (Kd.int .i64) 3 w1 w.heap.size (fun _ => True) (.slice (some ⟨go, 0, none⟩) xs.length cap) (mapTo f xs 0)) := ⟨by
    have h := HV.out
    rw [mapTo_zero]
    simpa using h⟩
  clear HV
  go_loopw [13] (fun v wr => ∃ k : Nat, v = .int .i64 k ∧ k ≤ xs.length ∧ Aside0 (Kd.R (Kd.int .i64) 3 wr w.heap.size (fun _ => True) (.slice (some ⟨go, 0, none⟩) xs.length cap) (mapTo f xs k)) ∧ Aside0 (Below w.heap.size w wr)) (fun v _ => xs.length - (intOf v).toNat)
  case atStart => exact ⟨0, rfl, Nat.zero_le _, HV0, HB1⟩
  case round =>
    clear HV0 HB1
    obtain ⟨k, rfl, hk, HV, HB1⟩ := hrel
    by_cases hlt : k < xs.length
    · obtain ⟨ad, c1, ea, hct⟩ := SLk.at_int (SLk.below H.out HB1.out) (k : Int) (by omega) (by omega)
      injection ea with e1 e2 e3
      subst e1
      rw [rd_get hlt] at hct
      simp only [Int.toNat_natCast] at hct
      have HSU := Aside0.mk (mapTo_succ f xs k hlt)
      obtain ⟨x, hx⟩ : ∃ x, x = xs[k] := ⟨_, rfl⟩
      rw [← hx] at hct HSU
      clear e2 e3 hx
      go_wp2_with fail
      refine (HS.out _ x HB1.out).mono ?_
      rintro e w2 ⟨rfl, hb⟩
      have hr := Kd.R_below HV.out hb
      obtain ⟨hy, hz⟩ := Kd.R_celln (0 : Int) hr (k : Int) (by omega) (by omega)
      have hp := Kd.R_putg hr (k : Int) (f x)
      rw [Int.toNat_natCast] at hy hz hp
      rw [HSU.out] at hp
      have HP := Aside0.mk hp
      have HB2 : Aside0 (Below w.heap.size w w2) := ⟨below_step HB1.out hb⟩
      clear hb hr hp HV HB1 hct
      have hkI : (k : Int) < (xs.length : Int) := by omega
      go_wp2_with fail
      exact ⟨⟨k + 1, by go_num, by omega, ⟨HP.out.1⟩, ⟨HB2.out.setCell (p := ⟨go, k, none⟩) HGO.out _⟩⟩, by simp [intOf]; omega⟩
    · go_wp2
      go_ret
      have ek : k = xs.length := by omega
      subst ek
      exact ⟨_, rfl, by rw [← mapTo_all]; exact HV.out, HB1.out⟩
set_option maxRecDepth 100000 in
set_option maxHeartbeats 1000000 in
theorem classes_c {w : World} {g : Nat} {v : Value} {xs : List Int} (hp : PropsAt w g) (h : SL w v xs) (hm : xs.length ≤ 1000000) :
    Calls Try.prog 149 #[.pointer (some ⟨g, 0, none⟩), v] w fun e w' => ∃ u, e = .returned u ∧ Kd.R (Kd.int .i64) 3 w' w.heap.size (fun _ => True) u (xs.map cl) ∧ Below w.heap.size w w' := by
  have H := Aside0.mk h
  have HP := Aside0.mk hp
  obtain ⟨A, c, rfl, _, _⟩ := h
  clear hp
  go_enter Try.func149, Try.ntmps149
  go_wp2_with fail
  refine (each_c H.out hm 145 (.pointer (some ⟨g, 0, none⟩)) (enters_of Try.func145 (by kernel_rfl) rfl) cl (fun wx x hb => class_c (HP.out.below hb) x)).mono ?_
  rintro e w1 ⟨u, rfl, hu, hb⟩
  obtain ⟨Au, lu, cu, rfl⟩ : ∃ A l c, u = .slice A l c := by obtain ⟨A, c, e⟩ := Kd.R_slice hu; exact ⟨_, _, _, e⟩
  have HU := Aside0.mk hu
  have HB := Aside0.mk hb
  clear hu hb
  go_wp2
  go_ret
  exact ⟨_, rfl, HU.out, HB.out⟩
end Go.Proofs.Ytfkgjoflekemaaa.CEven
/-! para.Split: a text's paragraphs: walked. -/
namespace Go.Proofs.Ytfkgjoflekemaaa.CEven
open Go.RowKit Go.Shelf Go.Proofs.YtfkgjoflekemaaaW.PrintWords Go.Proofs.YtfkgjoflekemaaaW.PrintMore Go.Proofs.YtfkgjoflekemaaaW.PrintLast Go.Proofs.Ytfkgjoflekemaaa.U Go.Proofs.Ytfkgjoflekemaaa.CBase Go.Proofs.Ytfkgjoflekemaaa.CSlices Go.Proofs.Ytfkgjoflekemaaa.UEven Go.Proofs.Ytfkgjoflekemaaa.CFunc Go.Proofs.Ytfkgjoflekemaaa.CBack Go.Proofs.Ytfkgjoflekemaaa.CProps
set_option linter.unusedVariables false
set_option linter.unusedSimpArgs false
/-- a span: from Lo on, below Hi -/
structure Sp where
  lo : Int
  hi : Int
deriving DecidableEq
def zSp : Sp := ⟨0, 0⟩
def kSp : Kd Sp := Kd.iso (Kd.pair (Kd.int .i64) (Kd.int .i64)) (fun x : Sp => (x.lo, x.hi))
theorem kSp_open {w : World} {x : Sp} {cs : List Value} (h : kSp.K w x cs) : cs = [.int .i64 x.lo, .int .i64 x.hi] := by
  obtain ⟨a, b, rfl, ha, hb⟩ := h
  have ha' : a = [.int .i64 x.lo] := ha
  have hb' : b = [.int .i64 x.hi] := hb
  rw [ha', hb']; rfl
theorem kSp_mkM (w : World) (base : Nat) (ok : Nat → Prop) (x : Sp) : kSp.M w base ok x [.int .i64 x.lo, .int .i64 x.hi] := ⟨[.int .i64 x.lo], [.int .i64 x.hi], rfl, rfl, rfl⟩
theorem infoSp : (Try.prog.info? 24).map (fun i => (i.zero, i.size, i.bytes)) = some (some (.agg #[(.int .i64 0), (.int .i64 0)]), 2, 16) := by kernel_rfl
/-- a carriage return ahead of a line feed -/
def bothB (text : List Int) (i : Nat) : Bool := decide (text.getD i 0 = 13) && (decide (i + 1 < text.length) && decide (text.getD (i + 1) 0 = 10))
structure SplitS where
  out : List Sp
  lo : Int
  hi : Int
def splitStep (cf : Int → Int) (text : List Int) (i : Nat) (s : SplitS) : SplitS :=
  if cf (text.getD i 0) ≠ 10 ∨ bothB text i = true then { s with hi := (i : Int) + 1 } else ⟨s.out ++ [⟨s.lo, (i : Int) + 1⟩], (i : Int) + 1, 0⟩
def splitTo (cf : Int → Int) (text : List Int) : Nat → SplitS
  | 0 => ⟨[], 0, 0⟩
  | k + 1 => splitStep cf text k (splitTo cf text k)
def splitL (cf : Int → Int) (text : List Int) : List Sp :=
  let s := splitTo cf text text.length
  if s.lo < s.hi then s.out ++ [⟨s.lo, s.hi⟩] else s.out
theorem splitTo_le (cf : Int → Int) (text : List Int) : ∀ k : Nat, (splitTo cf text k).out.length ≤ k ∧ 0 ≤ (splitTo cf text k).lo ∧ (splitTo cf text k).lo ≤ k ∧ 0 ≤ (splitTo cf text k).hi ∧ (splitTo cf text k).hi ≤ k := by
  intro k
  induction k with
  | zero => simp [splitTo]
  | succ k ih =>
    unfold splitTo splitStep
    split
    · simp; omega
    · simp; omega
theorem sp_lo {w : World} {B : Nat} {a b : Int} (h : w.heap[B]? = some (.cells #[.int .i64 a, .int .i64 b] 24 (0, 0))) : w.cell? ⟨B, 0, none⟩ = some (.int .i64 a) := (blk_cell h 0).trans rfl
theorem sp_hi {w : World} {B : Nat} {a b : Int} (h : w.heap[B]? = some (.cells #[.int .i64 a, .int .i64 b] 24 (0, 0))) : w.cell? ⟨B, 1, none⟩ = some (.int .i64 b) := (blk_cell h 1).trans rfl
set_option maxRecDepth 100000 in
set_option maxHeartbeats 4000000 in
theorem split_c {w : World} {g : Nat} {v : Value} {text : List Int} (hp : PropsAt w g) (h : SL w v text) (hm : text.length ≤ 1000000) :
    Calls Try.prog 147 #[.pointer (some ⟨g, 0, none⟩), v] w fun e w' => ∃ u, e = .returned u ∧ Kd.R kSp 24 w' w.heap.size (fun _ => True) u (splitL cl text) ∧ Below w.heap.size w w' := by
  have H := Aside0.mk h
  have HP := Aside0.mk hp
  obtain ⟨A, c, rfl, _, _⟩ := h
  clear hp
  go_enter Try.func147, Try.ntmps147
  go_wp2_with fail
  have HX0 : Aside0 ((w.alloc (.cells #[.int .i64 0, .int .i64 0] 24)).heap[w.heap.size]? = some (.cells #[.int .i64 0, .int .i64 0] 24 (0, 0))) := ⟨blk_new w _⟩
  have HB0 : Aside0 (Below w.heap.size w (w.alloc (.cells #[.int .i64 0, .int .i64 0] 24))) := ⟨below_alloc (Below.refl _ _) _⟩
  go_loopw [5, 13] (fun v a wr => ∃ k : Nat, a = .int .i64 k ∧ k ≤ text.length ∧ Aside0 (Kd.R kSp 24 wr w.heap.size (fun j => j ≠ w.heap.size) v (splitTo cl text k).out) ∧ Aside0 (wr.heap[w.heap.size]? = some (.cells #[.int .i64 (splitTo cl text k).lo, .int .i64 (splitTo cl text k).hi] 24 (0, 0))) ∧ Aside0 (Below w.heap.size w wr)) (fun _ a _ => text.length - (intOf a).toNat)
  case atStart => exact ⟨0, rfl, Nat.zero_le _, ⟨Kd.R_nil _ _ _ _ _⟩, HX0, HB0⟩
  case round =>
    clear HX0 HB0
    obtain ⟨k, rfl, hk, HV, HX, HB⟩ := hrel
    obtain ⟨Ao, co, rfl⟩ := Kd.R_slice HV.out
    have HLE := Aside0.mk (splitTo_le cl text k)
    by_cases hlt : k < text.length
    · have HST : Aside0 (splitTo cl text (k + 1) = splitStep cl text k (splitTo cl text k)) := ⟨rfl⟩
      obtain ⟨s, hs⟩ : ∃ s, s = splitTo cl text k := ⟨_, rfl⟩
      rw [← hs] at HV HX HLE HST ⊢
      obtain ⟨out, lo, hi⟩ := s
      dsimp only at HV HX HLE ⊢
      obtain ⟨ad, c1, ea, hct⟩ := SLk.at_int (SLk.below H.out HB.out) (k : Int) (by omega) (by omega)
      injection ea with e1 e2 e3
      subst e1
      rw [rd_nat, Int.toNat_natCast] at hct
      have d1 := sp_hi HX.out
      have f1 := blk_frozen HX.out 1
      obtain ⟨x, hx⟩ : ∃ x, x = text.getD k 0 := ⟨_, rfl⟩
      rw [← hx] at hct
      have HXX := Aside0.mk hx
      have hnx : ∀ W, Below w.heap.size w W → k + 1 < text.length → W.cell? (ad.add (k + 1)) = some (.int .i64 (text.getD (k + 1) 0)) := fun W hb hl => by
        obtain ⟨ad', c', ea, hc'⟩ := SLk.at_int (SLk.below H.out hb) ((k + 1 : Nat) : Int) (by omega) (by omega)
        injection ea with e1
        cases e1
        rw [rd_nat, Int.toNat_natCast] at hc'
        exact hc'
      have HNX := Aside0.mk hnx
      clear e2 e3 hs hx hnx
      go_upto_region 7 with fail
      obtain ⟨W1, hW1⟩ : ∃ W1, W1 = wr.setCell ⟨w.heap.size, 1, none⟩ (.int .i64 ((k : Int) + 1)) := ⟨_, rfl⟩
      have HX1 : Aside0 (W1.heap[w.heap.size]? = some (.cells #[.int .i64 lo, .int .i64 ((k : Int) + 1)] 24 (0, 0))) := ⟨by rw [hW1]; exact (blk_set HX.out 1 _).trans rfl⟩
      have HB1 : Aside0 (Below w.heap.size w W1) := ⟨by rw [hW1]; exact HB.out.setCell (p := ⟨w.heap.size, 1, none⟩) (Nat.le_refl _) _⟩
      have HV1 : Aside0 (Kd.R kSp 24 W1 w.heap.size (fun j => j ≠ w.heap.size) (.slice Ao out.length co) out) := ⟨by rw [hW1]; exact Kd.R_far HV.out (fun _ hj => hj) _⟩
      rw [← hW1]
      clear hW1 HX HB HV d1 f1 hct
      obtain ⟨y, hy⟩ : ∃ y, y = cl x := ⟨_, rfl⟩
      have HY := Aside0.mk hy
      have hkm : (k : Int) ≤ 1000000 := by omega
      clear hy
      by_cases hc13 : x = 13
      · subst hc13
        by_cases hnl : k + 1 < text.length
        · have hnlI : (k : Int) + 1 < (text.length : Int) := by omega
          have hn1 := HNX.out W1 HB1.out hnl
          have hnb1 : decide ((k : Int) + 1 < (text.length : Int)) = true := decide_eq_true hnlI
          obtain ⟨z, hz⟩ : ∃ z, z = text.getD (k + 1) 0 := ⟨_, rfl⟩
          rw [← hz] at hn1
          have HZ := Aside0.mk hz
          have hn1b : W1.cell? ⟨ad.block, ad.off + (k + 1), none⟩ = some (.int .i64 z) := hn1
          clear hz
          by_cases hz10 : z = 10
          · subst hz10
            have HR : Aside0 (splitTo cl text (k + 1) = ⟨out, lo, (k : Int) + 1⟩) := ⟨by rw [HST.out]; unfold splitStep; rw [if_pos (.inr (by unfold bothB; rw [← HXX.out, ← HZ.out]; simp [hnl]))]⟩
            by_cases hy10 : y = 10
            · subst hy10
              clear HST
              go_wp2_with (go_at_call 145; refine (class_c (HP.out.below HB1.out) _).mono ?_; rintro e w2 ⟨rfl, hb2⟩; rw [← HY.out]; have HX2 : Aside0 (w2.heap[w.heap.size]? = some (.cells #[.int .i64 lo, .int .i64 ((k : Int) + 1)] 24 (0, 0))) := ⟨(hb2.block _ (blk_lt HX1.out)).trans HX1.out⟩; have HB2 : Aside0 (Below w.heap.size w w2) := ⟨below_step HB1.out hb2⟩; have HV2 : Aside0 (Kd.R kSp 24 w2 w.heap.size (fun j => j ≠ w.heap.size) (.slice Ao out.length co) out) := ⟨Kd.R_below HV1.out hb2⟩; have d0 := sp_lo HX2.out; have d1 := sp_hi HX2.out; clear hb2 HX1 HB1 HV1)
              exact ⟨⟨k + 1, by go_num, by omega, ⟨by rw [HR.out]; exact HV2.out⟩, ⟨by rw [HR.out]; exact HX2.out⟩, HB2⟩, by simp [intOf]; omega⟩
            · have hyb : (y == 10) = false := by simpa using hy10
              clear HST
              go_wp2_with (go_at_call 145; refine (class_c (HP.out.below HB1.out) _).mono ?_; rintro e w2 ⟨rfl, hb2⟩; rw [← HY.out]; have HX2 : Aside0 (w2.heap[w.heap.size]? = some (.cells #[.int .i64 lo, .int .i64 ((k : Int) + 1)] 24 (0, 0))) := ⟨(hb2.block _ (blk_lt HX1.out)).trans HX1.out⟩; have HB2 : Aside0 (Below w.heap.size w w2) := ⟨below_step HB1.out hb2⟩; have HV2 : Aside0 (Kd.R kSp 24 w2 w.heap.size (fun j => j ≠ w.heap.size) (.slice Ao out.length co) out) := ⟨Kd.R_below HV1.out hb2⟩; have d0 := sp_lo HX2.out; have d1 := sp_hi HX2.out; clear hb2 HX1 HB1 HV1)
              exact ⟨⟨k + 1, by go_num, by omega, ⟨by rw [HR.out]; exact HV2.out⟩, ⟨by rw [HR.out]; exact HX2.out⟩, HB2⟩, by simp [intOf]; omega⟩
          · have hzb : (z == 10) = false := by simpa using hz10
            have HNB : Aside0 (¬ (bothB text k = true)) := ⟨by unfold bothB; rw [← HXX.out, ← HZ.out]; simp [hz10]⟩
            by_cases hy10 : y = 10
            · have HR : Aside0 (splitTo cl text (k + 1) = ⟨out ++ [⟨lo, (k : Int) + 1⟩], (k : Int) + 1, 0⟩) := ⟨by rw [HST.out]; unfold splitStep; rw [if_neg (fun h => h.elim (fun h => h (by rw [← HXX.out, ← HY.out]; exact hy10)) HNB.out)]⟩
              subst hy10
              clear HST HNB
              go_wp2_with (first | (go_at_call 145; refine (class_c (HP.out.below HB1.out) _).mono ?_; rintro e w2 ⟨rfl, hb2⟩; rw [← HY.out]; have HX2 : Aside0 (w2.heap[w.heap.size]? = some (.cells #[.int .i64 lo, .int .i64 ((k : Int) + 1)] 24 (0, 0))) := ⟨(hb2.block _ (blk_lt HX1.out)).trans HX1.out⟩; have HB2 : Aside0 (Below w.heap.size w w2) := ⟨below_step HB1.out hb2⟩; have HV2 : Aside0 (Kd.R kSp 24 w2 w.heap.size (fun j => j ≠ w.heap.size) (.slice Ao out.length co) out) := ⟨Kd.R_below HV1.out hb2⟩; have d0 := sp_lo HX2.out; have d1 := sp_hi HX2.out; clear hb2 HX1 HB1 HV1) | (at_builtin; refine Kd.R_append kSp (w0 := w) w.heap.size rfl (.tmp 45) (.tmp 47) 138 24 (.agg #[.int .i64 0, .int .i64 0]) 16 rfl Try.underlying138 infoSp rfl (by decide) (by omega) (.slice Ao out.length co) out (⟨lo, (k : Int) + 1⟩ : Sp) [.int .i64 lo, .int .i64 ((k : Int) + 1)] (fun j => j ≠ w.heap.size) (fun _ => False) rfl rfl (kSp_mkM _ _ _ _) (fun _ hk => hk.elim) (fun j hj => by have := blk_lt HX2.out; omega) HV2.out HB2.out HB2.out.size (by have := HLE.out; omega) ?_; intro v1 w3 hv hb hg hat; obtain ⟨A4, l4, c4, e4⟩ : ∃ A l c, v1 = .slice A l c := (by obtain ⟨A, c, e⟩ := Kd.R_slice hv; exact ⟨_, _, _, e⟩); subst e4; have HV3 := Aside0.mk hv; have HB3 := Aside0.mk hb; have HX3 : Aside0 (w3.heap[w.heap.size]? = some (.cells #[.int .i64 lo, .int .i64 ((k : Int) + 1)] 24 (0, 0))) := ⟨(hg.block _ (blk_lt HX2.out) (Kd.R_away HV2.out (fun _ hj => hj))).trans HX2.out⟩; have g0 := sp_lo HX3.out; have g1 := sp_hi HX3.out; have k0 := blk_frozen HX3.out 0; have k1 := blk_frozen HX3.out 1; clear hv hb hg hat d0 d1))
              exact ⟨⟨k + 1, by go_num, by omega, ⟨by rw [HR.out]; exact Kd.R_far (Kd.R_far HV3.out (fun _ hj => hj) _) (fun _ hj => hj) _⟩, ⟨by rw [HR.out]; exact (blk_set ((blk_set HX3.out 0 _).trans rfl) 1 _).trans rfl⟩, ⟨(HB3.out.setCell (p := ⟨w.heap.size, 0, none⟩) (Nat.le_refl _) _).setCell (p := ⟨w.heap.size, 1, none⟩) (Nat.le_refl _) _⟩⟩, by simp [intOf]; omega⟩
            · have HR : Aside0 (splitTo cl text (k + 1) = ⟨out, lo, (k : Int) + 1⟩) := ⟨by rw [HST.out]; unfold splitStep; rw [if_pos (.inl (by rw [← HXX.out, ← HY.out]; exact hy10))]⟩
              have hyb : (y == 10) = false := by simpa using hy10
              clear HST HNB
              go_wp2_with (go_at_call 145; refine (class_c (HP.out.below HB1.out) _).mono ?_; rintro e w2 ⟨rfl, hb2⟩; rw [← HY.out]; have HX2 : Aside0 (w2.heap[w.heap.size]? = some (.cells #[.int .i64 lo, .int .i64 ((k : Int) + 1)] 24 (0, 0))) := ⟨(hb2.block _ (blk_lt HX1.out)).trans HX1.out⟩; have HB2 : Aside0 (Below w.heap.size w w2) := ⟨below_step HB1.out hb2⟩; have HV2 : Aside0 (Kd.R kSp 24 w2 w.heap.size (fun j => j ≠ w.heap.size) (.slice Ao out.length co) out) := ⟨Kd.R_below HV1.out hb2⟩; have d0 := sp_lo HX2.out; have d1 := sp_hi HX2.out; clear hb2 HX1 HB1 HV1)
              exact ⟨⟨k + 1, by go_num, by omega, ⟨by rw [HR.out]; exact HV2.out⟩, ⟨by rw [HR.out]; exact HX2.out⟩, HB2⟩, by simp [intOf]; omega⟩
        · have hnlI : ¬ ((k : Int) + 1 < (text.length : Int)) := by omega
          have hnb1 : decide ((k : Int) + 1 < (text.length : Int)) = false := decide_eq_false hnlI
          have HNB : Aside0 (¬ (bothB text k = true)) := ⟨by unfold bothB; simp [hnl]⟩
          by_cases hy10 : y = 10
          · have HR : Aside0 (splitTo cl text (k + 1) = ⟨out ++ [⟨lo, (k : Int) + 1⟩], (k : Int) + 1, 0⟩) := ⟨by rw [HST.out]; unfold splitStep; rw [if_neg (fun h => h.elim (fun h => h (by rw [← HXX.out, ← HY.out]; exact hy10)) HNB.out)]⟩
            subst hy10
            clear HST HNB
            go_wp2_with (first | (go_at_call 145; refine (class_c (HP.out.below HB1.out) _).mono ?_; rintro e w2 ⟨rfl, hb2⟩; rw [← HY.out]; have HX2 : Aside0 (w2.heap[w.heap.size]? = some (.cells #[.int .i64 lo, .int .i64 ((k : Int) + 1)] 24 (0, 0))) := ⟨(hb2.block _ (blk_lt HX1.out)).trans HX1.out⟩; have HB2 : Aside0 (Below w.heap.size w w2) := ⟨below_step HB1.out hb2⟩; have HV2 : Aside0 (Kd.R kSp 24 w2 w.heap.size (fun j => j ≠ w.heap.size) (.slice Ao out.length co) out) := ⟨Kd.R_below HV1.out hb2⟩; have d0 := sp_lo HX2.out; have d1 := sp_hi HX2.out; clear hb2 HX1 HB1 HV1) | (at_builtin; refine Kd.R_append kSp (w0 := w) w.heap.size rfl (.tmp 45) (.tmp 47) 138 24 (.agg #[.int .i64 0, .int .i64 0]) 16 rfl Try.underlying138 infoSp rfl (by decide) (by omega) (.slice Ao out.length co) out (⟨lo, (k : Int) + 1⟩ : Sp) [.int .i64 lo, .int .i64 ((k : Int) + 1)] (fun j => j ≠ w.heap.size) (fun _ => False) rfl rfl (kSp_mkM _ _ _ _) (fun _ hk => hk.elim) (fun j hj => by have := blk_lt HX2.out; omega) HV2.out HB2.out HB2.out.size (by have := HLE.out; omega) ?_; intro v1 w3 hv hb hg hat; obtain ⟨A4, l4, c4, e4⟩ : ∃ A l c, v1 = .slice A l c := (by obtain ⟨A, c, e⟩ := Kd.R_slice hv; exact ⟨_, _, _, e⟩); subst e4; have HV3 := Aside0.mk hv; have HB3 := Aside0.mk hb; have HX3 : Aside0 (w3.heap[w.heap.size]? = some (.cells #[.int .i64 lo, .int .i64 ((k : Int) + 1)] 24 (0, 0))) := ⟨(hg.block _ (blk_lt HX2.out) (Kd.R_away HV2.out (fun _ hj => hj))).trans HX2.out⟩; have g0 := sp_lo HX3.out; have g1 := sp_hi HX3.out; have k0 := blk_frozen HX3.out 0; have k1 := blk_frozen HX3.out 1; clear hv hb hg hat d0 d1))
            exact ⟨⟨k + 1, by go_num, by omega, ⟨by rw [HR.out]; exact Kd.R_far (Kd.R_far HV3.out (fun _ hj => hj) _) (fun _ hj => hj) _⟩, ⟨by rw [HR.out]; exact (blk_set ((blk_set HX3.out 0 _).trans rfl) 1 _).trans rfl⟩, ⟨(HB3.out.setCell (p := ⟨w.heap.size, 0, none⟩) (Nat.le_refl _) _).setCell (p := ⟨w.heap.size, 1, none⟩) (Nat.le_refl _) _⟩⟩, by simp [intOf]; omega⟩
          · have HR : Aside0 (splitTo cl text (k + 1) = ⟨out, lo, (k : Int) + 1⟩) := ⟨by rw [HST.out]; unfold splitStep; rw [if_pos (.inl (by rw [← HXX.out, ← HY.out]; exact hy10))]⟩
            have hyb : (y == 10) = false := by simpa using hy10
            clear HST HNB
            go_wp2_with (go_at_call 145; refine (class_c (HP.out.below HB1.out) _).mono ?_; rintro e w2 ⟨rfl, hb2⟩; rw [← HY.out]; have HX2 : Aside0 (w2.heap[w.heap.size]? = some (.cells #[.int .i64 lo, .int .i64 ((k : Int) + 1)] 24 (0, 0))) := ⟨(hb2.block _ (blk_lt HX1.out)).trans HX1.out⟩; have HB2 : Aside0 (Below w.heap.size w w2) := ⟨below_step HB1.out hb2⟩; have HV2 : Aside0 (Kd.R kSp 24 w2 w.heap.size (fun j => j ≠ w.heap.size) (.slice Ao out.length co) out) := ⟨Kd.R_below HV1.out hb2⟩; have d0 := sp_lo HX2.out; have d1 := sp_hi HX2.out; clear hb2 HX1 HB1 HV1)
            exact ⟨⟨k + 1, by go_num, by omega, ⟨by rw [HR.out]; exact HV2.out⟩, ⟨by rw [HR.out]; exact HX2.out⟩, HB2⟩, by simp [intOf]; omega⟩
      · have hxb : (x == 13) = false := by simpa using hc13
        have HNB : Aside0 (¬ (bothB text k = true)) := ⟨by unfold bothB; rw [← HXX.out]; simp [hc13]⟩
        by_cases hy10 : y = 10
        · have HR : Aside0 (splitTo cl text (k + 1) = ⟨out ++ [⟨lo, (k : Int) + 1⟩], (k : Int) + 1, 0⟩) := ⟨by rw [HST.out]; unfold splitStep; rw [if_neg (fun h => h.elim (fun h => h (by rw [← HXX.out, ← HY.out]; exact hy10)) HNB.out)]⟩
          subst hy10
          clear HST HNB
          go_wp2_with (first | (go_at_call 145; refine (class_c (HP.out.below HB1.out) _).mono ?_; rintro e w2 ⟨rfl, hb2⟩; rw [← HY.out]; have HX2 : Aside0 (w2.heap[w.heap.size]? = some (.cells #[.int .i64 lo, .int .i64 ((k : Int) + 1)] 24 (0, 0))) := ⟨(hb2.block _ (blk_lt HX1.out)).trans HX1.out⟩; have HB2 : Aside0 (Below w.heap.size w w2) := ⟨below_step HB1.out hb2⟩; have HV2 : Aside0 (Kd.R kSp 24 w2 w.heap.size (fun j => j ≠ w.heap.size) (.slice Ao out.length co) out) := ⟨Kd.R_below HV1.out hb2⟩; have d0 := sp_lo HX2.out; have d1 := sp_hi HX2.out; clear hb2 HX1 HB1 HV1) | (at_builtin; refine Kd.R_append kSp (w0 := w) w.heap.size rfl (.tmp 45) (.tmp 47) 138 24 (.agg #[.int .i64 0, .int .i64 0]) 16 rfl Try.underlying138 infoSp rfl (by decide) (by omega) (.slice Ao out.length co) out (⟨lo, (k : Int) + 1⟩ : Sp) [.int .i64 lo, .int .i64 ((k : Int) + 1)] (fun j => j ≠ w.heap.size) (fun _ => False) rfl rfl (kSp_mkM _ _ _ _) (fun _ hk => hk.elim) (fun j hj => by have := blk_lt HX2.out; omega) HV2.out HB2.out HB2.out.size (by have := HLE.out; omega) ?_; intro v1 w3 hv hb hg hat; obtain ⟨A4, l4, c4, e4⟩ : ∃ A l c, v1 = .slice A l c := (by obtain ⟨A, c, e⟩ := Kd.R_slice hv; exact ⟨_, _, _, e⟩); subst e4; have HV3 := Aside0.mk hv; have HB3 := Aside0.mk hb; have HX3 : Aside0 (w3.heap[w.heap.size]? = some (.cells #[.int .i64 lo, .int .i64 ((k : Int) + 1)] 24 (0, 0))) := ⟨(hg.block _ (blk_lt HX2.out) (Kd.R_away HV2.out (fun _ hj => hj))).trans HX2.out⟩; have g0 := sp_lo HX3.out; have g1 := sp_hi HX3.out; have k0 := blk_frozen HX3.out 0; have k1 := blk_frozen HX3.out 1; clear hv hb hg hat d0 d1))
          exact ⟨⟨k + 1, by go_num, by omega, ⟨by rw [HR.out]; exact Kd.R_far (Kd.R_far HV3.out (fun _ hj => hj) _) (fun _ hj => hj) _⟩, ⟨by rw [HR.out]; exact (blk_set ((blk_set HX3.out 0 _).trans rfl) 1 _).trans rfl⟩, ⟨(HB3.out.setCell (p := ⟨w.heap.size, 0, none⟩) (Nat.le_refl _) _).setCell (p := ⟨w.heap.size, 1, none⟩) (Nat.le_refl _) _⟩⟩, by simp [intOf]; omega⟩
        · have HR : Aside0 (splitTo cl text (k + 1) = ⟨out, lo, (k : Int) + 1⟩) := ⟨by rw [HST.out]; unfold splitStep; rw [if_pos (.inl (by rw [← HXX.out, ← HY.out]; exact hy10))]⟩
          have hyb : (y == 10) = false := by simpa using hy10
          clear HST HNB
          go_wp2_with (go_at_call 145; refine (class_c (HP.out.below HB1.out) _).mono ?_; rintro e w2 ⟨rfl, hb2⟩; rw [← HY.out]; have HX2 : Aside0 (w2.heap[w.heap.size]? = some (.cells #[.int .i64 lo, .int .i64 ((k : Int) + 1)] 24 (0, 0))) := ⟨(hb2.block _ (blk_lt HX1.out)).trans HX1.out⟩; have HB2 : Aside0 (Below w.heap.size w w2) := ⟨below_step HB1.out hb2⟩; have HV2 : Aside0 (Kd.R kSp 24 w2 w.heap.size (fun j => j ≠ w.heap.size) (.slice Ao out.length co) out) := ⟨Kd.R_below HV1.out hb2⟩; have d0 := sp_lo HX2.out; have d1 := sp_hi HX2.out; clear hb2 HX1 HB1 HV1)
          exact ⟨⟨k + 1, by go_num, by omega, ⟨by rw [HR.out]; exact HV2.out⟩, ⟨by rw [HR.out]; exact HX2.out⟩, HB2⟩, by simp [intOf]; omega⟩
    · have ek : k = text.length := by omega
      subst ek
      have HF : Aside0 (splitL cl text = if (splitTo cl text text.length).lo < (splitTo cl text text.length).hi then (splitTo cl text text.length).out ++ [⟨(splitTo cl text text.length).lo, (splitTo cl text text.length).hi⟩] else (splitTo cl text text.length).out) := ⟨rfl⟩
      obtain ⟨s, hs⟩ : ∃ s, s = splitTo cl text text.length := ⟨_, rfl⟩
      rw [← hs] at HV HX HLE HF ⊢
      obtain ⟨out, lo, hi⟩ := s
      dsimp only at HV HX HLE HF ⊢
      have d0 := sp_lo HX.out
      have d1 := sp_hi HX.out
      clear hs
      by_cases hlh : lo < hi
      · have HF2 : Aside0 (splitL cl text = out ++ [⟨lo, hi⟩]) := ⟨by rw [HF.out, if_pos hlh]⟩
        clear HF
        go_wp2_with (at_builtin; refine Kd.R_append kSp (w0 := w) w.heap.size rfl (.tmp 58) (.tmp 60) 138 24 (.agg #[.int .i64 0, .int .i64 0]) 16 rfl Try.underlying138 infoSp rfl (by decide) (by omega) (.slice Ao out.length co) out (⟨lo, hi⟩ : Sp) [.int .i64 lo, .int .i64 hi] (fun j => j ≠ w.heap.size) (fun _ => False) rfl rfl (kSp_mkM _ _ _ _) (fun _ hk => hk.elim) (fun j hj => by have := blk_lt HX.out; omega) HV.out HB.out HB.out.size (by have := HLE.out; omega) ?_; intro v1 w3 hv hb hg hat; obtain ⟨A4, l4, c4, e4⟩ : ∃ A l c, v1 = .slice A l c := (by obtain ⟨A, c, e⟩ := Kd.R_slice hv; exact ⟨_, _, _, e⟩); subst e4; have HV3 := Aside0.mk hv; have HB3 := Aside0.mk hb; clear hv hb hg hat)
        go_ret
        exact ⟨_, rfl, by rw [HF2.out]; exact Kd.R_mono HV3.out (fun _ _ => trivial), HB3.out⟩
      · have HF2 : Aside0 (splitL cl text = out) := ⟨by rw [HF.out, if_neg hlh]⟩
        clear HF
        go_wp2
        go_ret
        exact ⟨_, rfl, by rw [HF2.out]; exact Kd.R_mono HV.out (fun _ _ => trivial), HB.out⟩
end Go.Proofs.Ytfkgjoflekemaaa.CEven
/-! balance.Even of a text that no class B parts: walked. -/
namespace Go.Proofs.Ytfkgjoflekemaaa.CEven
open Go.RowKit Go.Shelf Go.Proofs.YtfkgjoflekemaaaW.PrintWords Go.Proofs.YtfkgjoflekemaaaW.PrintMore Go.Proofs.YtfkgjoflekemaaaW.PrintLast Go.Proofs.Ytfkgjoflekemaaa.U Go.Proofs.Ytfkgjoflekemaaa.CBase Go.Proofs.Ytfkgjoflekemaaa.CSlices Go.Proofs.Ytfkgjoflekemaaa.CCut Go.Proofs.Ytfkgjoflekemaaa.UEven Go.Proofs.Ytfkgjoflekemaaa.CFunc Go.Proofs.Ytfkgjoflekemaaa.CBack Go.Proofs.Ytfkgjoflekemaaa.CProps
set_option linter.unusedVariables false
set_option linter.unusedSimpArgs false
theorem splitTo_plain (text : List Int) (hB : ∀ c ∈ text, cl c ≠ 10) : ∀ k : Nat, k ≤ text.length → splitTo cl text k = ⟨[], 0, k⟩ := by
  intro k
  induction k with
  | zero => intro _; rfl
  | succ k ih =>
    intro h
    unfold splitTo splitStep
    rw [ih (by omega), if_pos (.inl (hB _ (by rw [List.getD_eq_getElem?_getD, List.getElem?_eq_getElem (by omega)]; exact List.getElem_mem _)))]
    simp
theorem splitL_plain (text : List Int) (hB : ∀ c ∈ text, cl c ≠ 10) : splitL cl text = if 0 < text.length then [⟨0, text.length⟩] else [] := by
  unfold splitL
  rw [splitTo_plain text hB text.length (Nat.le_refl _)]
  dsimp only
  by_cases h : 0 < text.length
  · rw [if_pos (by omega), if_pos h]; rfl
  · rw [if_neg (by omega), if_neg h]
theorem evenP_eq (text : List Int) : evenP text (text.map cl) = even cl text := by
  unfold evenP stAt
  rw [List.take_length]
  refine even_of_walk cl text (rd (text.map cl)) (fun k hk => ?_)
  rw [rd_get (by simpa using hk)]
  simp
theorem even_len (text : List Int) : (even cl text).length ≤ 2 * text.length := by
  rw [← evenP_eq]
  unfold evenP
  rw [List.length_append]
  have h1 := stays_length (stAt (text.map cl) (text.map cl).length).loose text text.length 0
  have h2 := (stAt_ok (text.map cl) (text.map cl).length (Nat.le_refl _)).len
  have h3 : (ends (rd (text.map cl)) (stAt (text.map cl) (text.map cl).length).stack).length = (stAt (text.map cl) (text.map cl).length).stack.length := by unfold ends; simp
  rw [List.length_map] at h2
  rw [List.length_map] at h1 h3 ⊢
  omega
theorem at_Sp {w : World} {A : Option Addr} {n : Nat} {xs : List Sp} (h : Kd.C kSp w A n xs) (i : Int) (h0 : 0 ≤ i) (h1 : i < n) : ∃ ad , A = some ad ∧ w.cell? (ad.add (i.toNat * 2)) = some (.int .i64 (xs.getD i.toNat zSp).lo) ∧ w.cell? ⟨(ad.add (i.toNat * 2)).block, (ad.add (i.toNat * 2)).off + 1, none⟩ = some (.int .i64 (xs.getD i.toNat zSp).hi) := by
  obtain ⟨ad, c, e, _, hK, hc0⟩ := Kd.C_get h zSp i h0 h1
  have hc : ∀ j u, c[j]? = some u → w.cell? (ad.add (i.toNat * 2 + j)) = some u := hc0
  obtain rfl := kSp_open hK
  exact ⟨ad, e, hc 0 _ rfl, by rw [← add_field _ _ 1 (by omega)]; exact hc 1 _ rfl⟩
set_option maxRecDepth 100000 in
set_option maxHeartbeats 4000000 in
theorem even_c {w : World} {g : Nat} {v : Value} {text : List Int} (hp : PropsAt w g) (h : SL w v text) (hm : text.length ≤ 100000) (hB : ∀ c ∈ text, cl c ≠ 10) :
    Calls Try.prog 126 #[.pointer (some ⟨g, 0, none⟩), v] w fun e w' => ∃ u, e = .returned u ∧ Kd.R (Kd.int .i64) 3 w' w.heap.size (fun _ => True) u (even cl text) ∧ Below w.heap.size w w' := by
  have H := Aside0.mk h
  have HP := Aside0.mk hp
  have HNB := Aside0.mk hB
  have HSL := Aside0.mk (splitL_plain text hB)
  obtain ⟨A, c, rfl, _, _⟩ := h
  clear hp hB
  go_enter Try.func126, Try.ntmps126
  go_wp2_with fail
  refine (split_c HP.out H.out (by omega)).mono ?_
  rintro e w1 ⟨u, rfl, hu, hb1⟩
  have HB1 := Aside0.mk hb1
  have HB1' := Aside0.mk hb1
  by_cases h0 : 0 < text.length
  · rw [HSL.out, if_pos h0] at hu
    obtain ⟨Au, cu, rfl⟩ := Kd.R_slice hu
    have HU := Aside0.mk hu
    have h0I : (0 : Int) < (text.length : Int) := by omega
    clear hu hb1
    rw [show ([(⟨0, (text.length : Int)⟩ : Sp)]).length = 1 from rfl] at HU ⊢
    go_wp2_with fail
    go_loopw [5, 13] (fun v a wr => ∃ k : Nat, a = .int .i64 k ∧ k ≤ 1 ∧ Aside0 (Kd.R (Kd.int .i64) 3 wr w1.heap.size (fun _ => True) v (if k = 0 then [] else even cl text)) ∧ Aside0 (Below w1.heap.size w1 wr)) (fun _ a _ => 1 - (intOf a).toNat)
    case atStart => exact ⟨0, rfl, by omega, ⟨Kd.R_nil _ _ _ _ _⟩, ⟨Below.refl _ _⟩⟩
    case round =>
      clear HB1
      obtain ⟨k, rfl, hk, HV, HBw⟩ := hrel
      have HB : Aside0 (Below w.heap.size w wr) := ⟨below_step HB1'.out HBw.out⟩
      obtain ⟨Av, lv, cv, e5⟩ : ∃ A l c, u5 = .slice A l c := by obtain ⟨A, c, e⟩ := Kd.R_slice HV.out; exact ⟨_, _, _, e⟩
      subst e5
      by_cases hk0 : k = 0
      · subst hk0
        obtain ⟨ad, ea, g0, g1⟩ := at_Sp (Kd.R_reads' (Kd.R_below HU.out HBw.out)).2.2 0 (by omega) (by simp)
        subst ea
        have g0' : wr.cell? ad = some (.int .i64 0) := g0
        have g1' : wr.cell? ⟨ad.block, ad.off + 1, none⟩ = some (.int .i64 (text.length : Int)) := g1
        have g0a : (wr.alloc (.cells #[.int .i64 0, .int .i64 text.length] 24)).cell? ⟨wr.heap.size, 0, none⟩ = some (.int .i64 0) := (blk_cell (blk_new wr _) 0).trans rfl
        have g1a : (wr.alloc (.cells #[.int .i64 0, .int .i64 text.length] 24)).cell? ⟨wr.heap.size, 1, none⟩ = some (.int .i64 (text.length : Int)) := (blk_cell (blk_new wr _) 1).trans rfl
        have HAL : Aside0 (Below wr.heap.size wr (wr.alloc (.cells #[.int .i64 0, .int .i64 text.length] 24))) := ⟨below_alloc (Below.refl _ _) _⟩
        obtain ⟨V, hcut, hV⟩ := cut_c (SLk.below H.out (below_step HB.out HAL.out)) 0 (text.length : Int) (by omega) (by omega) (by omega)
        rw [show ((text.drop (0 : Int).toNat).take ((text.length : Int).toNat - (0 : Int).toNat)) = text by simp] at hV
        obtain ⟨AV, lV, cV, eV⟩ : ∃ A l c, V = .slice A l c := by obtain ⟨A, c, e, _⟩ := hV; exact ⟨_, _, _, e⟩
        subst eV
        have HTV := Aside0.mk hV
        have HV0 : Aside0 (Kd.R (Kd.int .i64) 3 wr w1.heap.size (fun _ => True) (.slice Av lv cv) ([] : List Int)) := ⟨HV.out⟩
        clear hV g0 g1 HV
        go_wp2_with fail
        refine (classes_c (HP.out.below (below_step HB1'.out (below_step HBw.out HAL.out))) HTV.out (by omega)).mono ?_
        rintro e w2 ⟨uc, rfl, huc, hb2⟩
        obtain ⟨Ac, lc, cc, ec⟩ : ∃ A l c, uc = .slice A l c := by obtain ⟨A, c, e⟩ := Kd.R_slice huc; exact ⟨_, _, _, e⟩
        subst ec
        have HUC := Aside0.mk (SLk.of_R huc)
        have HTV2 : Aside0 (SL w2 (.slice AV lV cV) text) := ⟨SLk.below HTV.out hb2⟩
        have HB2 : Aside0 (Below wr.heap.size wr w2) := ⟨HAL.out.trans (below_to hb2 HAL.out.size)⟩
        clear huc hb2 HTV HAL g0a g1a hcut
        go_wp2_with fail
        refine (evened_c HTV2.out HUC.out (by simp) hm (fun c hc => by
          obtain ⟨x, hx, rfl⟩ := List.mem_map.1 hc
          exact HNB.out x hx)).mono ?_
        rintro e w3 ⟨ue, rfl, hue, hb3⟩
        rw [evenP_eq] at hue
        obtain ⟨Ae, le, ce, ee⟩ : ∃ A l c, ue = .slice A l c := by obtain ⟨A, c, e⟩ := Kd.R_slice hue; exact ⟨_, _, _, e⟩
        subst ee
        have hb13 : Below wr.heap.size wr w3 := HB2.out.trans (below_to hb3 HB2.out.size)
        have HBw3 : Aside0 (Below w1.heap.size w1 w3) := ⟨below_step HBw.out hb13⟩
        have HV3 : Aside0 (Kd.R (Kd.int .i64) 3 w3 w1.heap.size (fun _ => True) (.slice Av lv cv) ([] : List Int)) := ⟨Kd.R_below HV0.out hb13⟩
        obtain ⟨Ae', ce', eqe, _, hCe⟩ := SLk.of_R hue
        injection eqe with q1 q2 q3
        subst q1 q2
        have HCE := Aside0.mk hCe
        have HEL : Aside0 ((even cl text).length ≤ 200000) := ⟨by have := even_len text; omega⟩
        clear hue hb3 hb13 HB2 HTV2 HUC hCe HB HBw HV0 q3
        go_wp2_with (first | (at_builtin; refine Kd.R_append_rows (Kd.int .i64) (w0 := w1) w1.heap.size rfl (.tmp 23) (.tmp 28) 22 3 (.int .i64 0) 8 rfl Try.underlying22 CSlices.info3 rfl (by decide) (by omega) _ [] (even cl text) _ _ _ (fun _ => True) (fun _ => False) rfl rfl HV3.out HCE.out (fun _ _ h => h) (fun _ h => h.elim) (fun _ _ => trivial) HBw3.out HBw3.out.size (by have := HEL.out; simp; omega) ?_; intro v1 w4 hv1 hb1 hg1 hn1; obtain ⟨A4, l4, c4, e4⟩ : ∃ A l c, v1 = .slice A l c := (by obtain ⟨A, c, e⟩ := Kd.R_slice hv1; exact ⟨_, _, _, e⟩); subst e4; have HV4 := Aside0.mk hv1; have HBw4 := Aside0.mk hb1; clear hv1 hb1 hg1 hn1))
        exact ⟨⟨1, by go_num, by omega, ⟨by have := HV4.out; rw [List.nil_append] at this; exact this⟩, HBw4⟩, by simp [intOf]⟩
      · have ek : k = 1 := by omega
        subst ek
        have HV2 : Aside0 (Kd.R (Kd.int .i64) 3 wr w1.heap.size (fun _ => True) (.slice Av lv cv) (even cl text)) := ⟨HV.out⟩
        clear hk0
        go_wp2
        go_ret
        exact ⟨_, rfl, Kd.R_lower HV2.out HB1'.out.size, HB.out⟩
  · rw [HSL.out, if_neg h0] at hu
    obtain ⟨Au, cu, rfl⟩ := Kd.R_slice hu
    rw [show ([] : List Sp).length = 0 from rfl]
    have et : even cl text = [] := by
      have := even_len text
      exact List.eq_nil_of_length_eq_zero (by omega)
    have HET := Aside0.mk et
    clear hu hb1 et
    go_wp2_with fail
    go_loopw [5, 13] (fun v a wr => v = .slice none 0 0 ∧ a = .int .i64 0 ∧ wr = w1) (fun _ _ _ => 0)
    case atStart => exact ⟨rfl, rfl, rfl⟩
    case round =>
      obtain ⟨rfl, rfl, rfl⟩ := hrel
      go_wp2
      go_ret
      exact ⟨_, rfl, by rw [HET.out]; exact Kd.R_nil _ _ _ _ _, HB1.out⟩
end Go.Proofs.Ytfkgjoflekemaaa.CEven
/-! embed.may, wrapped: walked. -/
namespace Go.Proofs.Ytfkgjoflekemaaa.CEven
open Go.RowKit Go.Shelf Go.Proofs.YtfkgjoflekemaaaW.PrintWords Go.Proofs.YtfkgjoflekemaaaW.PrintMore Go.Proofs.YtfkgjoflekemaaaW.PrintLast Go.Proofs.Ytfkgjoflekemaaa.U Go.Proofs.Ytfkgjoflekemaaa.CBase Go.Proofs.Ytfkgjoflekemaaa.CSlices Go.Proofs.Ytfkgjoflekemaaa.CCut Go.Proofs.Ytfkgjoflekemaaa.UEven Go.Proofs.Ytfkgjoflekemaaa.CFunc Go.Proofs.Ytfkgjoflekemaaa.CBack Go.Proofs.Ytfkgjoflekemaaa.CProps
set_option linter.unusedVariables false
set_option linter.unusedSimpArgs false
set_option maxRecDepth 100000 in
set_option maxHeartbeats 1000000 in
theorem partsB_c {w : World} {B g : Nat} (hb : w.cell? ⟨B, 0, none⟩ = some (.pointer (some ⟨g, 0, none⟩))) (hp : PropsAt w g) (x : Int) :
    Calls Try.prog 144 #[.int .i64 x, .pointer (some ⟨B, 0, none⟩)] w fun e w' => e = .returned (.bool (decide (cl x = 10))) ∧ Below w.heap.size w w' := by
  have HP := Aside0.mk hp
  clear hp
  go_enter Try.func144, Try.ntmps144
  go_wp2_with (go_at_call 145; refine (class_c HP.out _).mono ?_; rintro e w1 ⟨rfl, hb1⟩; have HB1 := Aside0.mk hb1; clear hb1)
  go_ret
  exact ⟨rfl, HB1.out⟩
noncomputable def partsL (text : List Int) : Bool := text.any fun c => decide (cl c = 10)
noncomputable def mayL (text : List Int) : Int := if partsL text then 14 else 0
set_option maxRecDepth 100000 in
set_option maxHeartbeats 1000000 in
theorem may_c {w : World} {g : Nat} {v : Value} {text : List Int} (hp : PropsAt w g) (h : SL w v text) (hm : text.length ≤ 1000000) (d : Int) (hd : d = 0 ∨ d = 1 ∨ d = 2) :
    Calls Try.prog 124 #[.pointer (some ⟨g, 0, none⟩), v, .int .i64 d] w fun e w' => e = .returned (.int .i64 (mayL text)) ∧ Below w.heap.size w w' := by
  have H := Aside0.mk h
  have HP := Aside0.mk hp
  obtain ⟨A, c, rfl, _, _⟩ := h
  have HAL : Aside0 (Below w.heap.size w (w.alloc (.cells #[.pointer (some ⟨g, 0, none⟩)] 49))) := ⟨below_alloc (Below.refl _ _) _⟩
  have b0 : (w.alloc (.cells #[.pointer (some ⟨g, 0, none⟩)] 49)).cell? ⟨w.heap.size, 0, none⟩ = some (.pointer (some ⟨g, 0, none⟩)) := (blk_cell (blk_new w _) 0).trans rfl
  have HB0 := Aside0.mk b0
  clear hp b0
  rcases hd with rfl | rfl | rfl
  all_goals
    go_enter Try.func124, Try.ntmps124
    go_wp2_with fail
    refine (containsFunc_c (SLk.below H.out HAL.out) hm 144 #[.pointer (some ⟨w.heap.size, 0, none⟩)] (enters_of Try.func144 (by kernel_rfl) rfl) (fun c => decide (cl c = 10)) (fun wx x hx hb => partsB_c ((hb.cell (World.block_lt_of_cell? _ _ HB0.out)).trans HB0.out) (HP.out.below (below_step HAL.out hb)) x)).mono ?_
    rintro e w1 ⟨rfl, hb1⟩
    have HB1 : Aside0 (Below w.heap.size w w1) := ⟨below_step HAL.out hb1⟩
    clear hb1
    rw [show (text.any fun c => decide (cl c = 10)) = partsL text from rfl]
    obtain ⟨b, hb⟩ : ∃ b, b = partsL text := ⟨_, rfl⟩
    rw [← hb]
    have HBB : Aside0 (mayL text = if b then 14 else 0) := ⟨by unfold mayL; rw [hb]⟩
    clear hb
    cases b with
    | true =>
      go_wp2
      go_ret
      exact ⟨by rw [HBB.out]; rfl, HB1.out⟩
    | false =>
      go_wp2
      go_ret
      exact ⟨by rw [HBB.out]; rfl, HB1.out⟩
theorem R_blk {w : World} {g base cap : Nat} {cur : Array Value} {xs : List Int} (h : w.heap[g]? = some (.cells cur 3 (0, 0))) (hb : base ≤ g) (hc : cur.size = cap) (hn : xs.length ≤ cap) (hm : cap ≤ maxLen) (ht : cur.toList.take xs.length = xs.map (Value.int .i64)) : Kd.R (Kd.int .i64) 3 w base (fun _ => True) (.slice (some ⟨g, 0, none⟩) xs.length cap) xs :=
  Kd.R_of_own (h1 := fun _ => rfl) ⟨by simp [encs], .inr ⟨g, cap, cur, rfl, hb, h, hn, hm, by omega, by rw [Nat.mul_one]; exact ht⟩⟩ (fun _ _ => trivial)
theorem blk_R {w : World} {g base n cap : Nat} {ok : Nat → Prop} {xs : List Int} (h : Kd.R (Kd.int .i64) 3 w base ok (.slice (some ⟨g, 0, none⟩) n cap) xs) (hx : 0 < n) : ∃ cur : Array Value, w.heap[g]? = some (.cells cur 3 (0, 0)) ∧ base ≤ g ∧ cur.size = cap ∧ n ≤ cap ∧ cap ≤ maxLen ∧ cur.toList.take n = xs.map (Value.int .i64) ∧ n = xs.length := by
  have hl := (Kd.R_reads' h).1
  subst hl
  obtain ⟨_, h⟩ := Kd.own_of_R h
  rcases h with ⟨h, _⟩ | ⟨g', cap', cur, e, hb, hh, hn, hm, hs, ht⟩
  · cases h
  · injection e with e1 e2 e3
    injection e1 with e1
    injection e1 with e1
    subst e1 e3
    exact ⟨cur, hh, hb, by omega, hn, hm, by rw [Nat.mul_one] at ht; exact ht, rfl⟩
theorem size3 : (Try.prog.info? 3).map (·.size) = some 1 := by kernel_rfl
theorem cur_get {cur : Array Value} {n cap : Nat} {xs : List Int} (ht : cur.toList.take n = xs.map (Value.int .i64)) (hc : cur.size = cap) (hn : n ≤ cap) (i : Nat) (hi : i < n) : ∃ x, cur[i]? = some (.int .i64 x) := by
  have h := congrArg (fun l : List Value => l[i]?) ht
  rw [List.getElem?_take, if_pos hi, List.getElem?_map] at h
  have hlt : i < cur.size := by omega
  rw [Array.getElem?_toList, Array.getElem?_eq_getElem hlt] at h
  cases hx : xs[i]? with
  | none => rw [hx] at h; cases h
  | some x =>
    rw [hx] at h
    exact ⟨x, by rw [Array.getElem?_eq_getElem hlt]; exact h⟩
theorem cur_other (cur : Array Value) (i j : Nat) (v : Value) (h : i ≠ j) : (cur.setIfInBounds i v)[j]? = cur[j]? := by
  rw [Array.getElem?_setIfInBounds_ne h]
theorem wrap_take (cur : Array Value) (n : Nat) (h : n + 2 ≤ cur.size) (a b : Value) (cs : List Value) (hl : cs.length = n) : (splice ((cur.setIfInBounds 0 a).setIfInBounds (n + 1) b).toList 1 cs).take (n + 2) = a :: (cs ++ [b]) := by
  unfold splice
  rw [Array.toList_setIfInBounds, Array.toList_setIfInBounds]
  have hs : n + 2 ≤ cur.toList.length := by simpa using h
  generalize cur.toList = l at hs
  cases l with
  | nil => simp at hs
  | cons x t =>
    have ht : n < t.length := by simp at hs; omega
    rw [List.set_cons_zero, List.set_cons_succ, hl, Nat.add_comm 1 n, List.drop_succ_cons]
    have hd : (t.set n b).drop n = b :: t.drop (n + 1) := by
      rw [List.drop_eq_getElem_cons (by simpa using ht), List.getElem_set_self, List.drop_set_of_lt (by omega)]
    rw [hd]
    simp only [List.take_succ_cons, List.take_zero, List.singleton_append]
    congr 1
    rw [← hl, List.take_append, List.take_of_length_le (by omega), show cs.length + 1 - cs.length = 1 by omega]
    rfl
theorem copy_src {w w1 : World} {A : Option Addr} {n c go m : Nat} {codes : List Int} {a b : Value} (H : SL w (.slice A n c) codes) (hn : n = codes.length) (hb : Below w.heap.size w w1) (hg : w.heap.size ≤ go) (hp : 0 < (codes.map (Value.int .i64)).length) :
    ∃ ad, A = some ad ∧ ∀ j v, (codes.map (Value.int .i64))[j]? = some v → ((w1.setCell ⟨go, 0, none⟩ a).setCell ⟨go, m, none⟩ b).cell? (ad.add j) = some v := by
  have hB : Below w.heap.size w ((w1.setCell ⟨go, 0, none⟩ a).setCell ⟨go, m, none⟩ b) := (hb.setCell (p := ⟨go, 0, none⟩) hg _).setCell (p := ⟨go, m, none⟩) hg _
  obtain ⟨A', c', e, _, hC⟩ := SLk.below H hB
  injection e with e1 e2 e3
  subst e1
  obtain ⟨ad, ea, _⟩ := Kd.at_int hC 0 (by omega) (by simp at hp; omega)
  refine ⟨ad, ea, fun j v hv => ?_⟩
  rw [List.getElem?_map] at hv
  cases hx : codes[j]? with
  | none => rw [hx] at hv; cases hv
  | some x =>
    rw [hx] at hv
    obtain rfl := Option.some.inj hv
    have hj := (List.getElem?_eq_some_iff.1 hx).1
    obtain ⟨ad', ea', hc⟩ := Kd.at_int hC (j : Int) (by omega) (by omega)
    rw [ea] at ea'
    cases ea'
    rw [rd_nat, Int.toNat_natCast, List.getD_eq_getElem?_getD, hx] at hc
    exact hc
set_option maxRecDepth 100000 in
set_option maxHeartbeats 2000000 in
theorem wrapped_c {w : World} {v : Value} {codes : List Int} (h : SL w v codes) (hm : codes.length ≤ 1000000) (first last : Int) :
    Calls Try.prog 125 #[v, .int .i64 first, .int .i64 last] w fun e w' => ∃ u, e = .returned u ∧ Kd.R (Kd.int .i64) 3 w' w.heap.size (fun _ => True) u (first :: (codes ++ [last])) ∧ Below w.heap.size w w' := by
  have H := Aside0.mk h
  obtain ⟨A, c, rfl, _, _⟩ := h
  obtain ⟨n, hn⟩ : ∃ n, n = codes.length := ⟨_, rfl⟩
  rw [← hn] at H hm ⊢
  have HN := Aside0.mk hn
  clear hn
  obtain ⟨m, hmm⟩ : ∃ m, m = n + 2 := ⟨_, rfl⟩
  obtain ⟨q, hqq⟩ : ∃ q, q = n + 1 := ⟨_, rfl⟩
  have e1 : IntKind.i64.wrap ((n : Int) + 2) = (m : Int) := by rw [IntWalk.i64_in _ (by omega)]; omega
  have e2 : IntKind.i64.wrap ((m : Int) - 1) = (q : Int) := by rw [IntWalk.i64_in _ (by omega)]; omega
  have e3 : (q : Int) < (m : Int) := by omega
  have e4 : (m : Int) ≤ 2000000 := by omega
  have e5 : (0 : Int) < (m : Int) := by omega
  have e6 : (1 : Int) ≤ (m : Int) := by omega
  have HM := Aside0.mk hmm
  have HQ := Aside0.mk hqq
  clear hmm hqq
  go_enter Try.func125, Try.ntmps125
  go_upto_region 2 with (first | (refine Kd.R_make (Kd.int .i64) (w0 := w) w.heap.size 3 rfl (N := 11) rfl 22 _ _ rfl (m : Int) rfl rfl Try.underlying22 (.int .i64 0) 8 CSlices.info3 rfl (by decide) (by omega) 0 (ok := fun _ => True) (okp := fun _ => True) rfl (fun _ hk => hk) trivial (by omega) (by omega) (Below.refl _ _) (Nat.le_refl _) ?_; intro v w1 hv hb hg hnew; obtain ⟨go, cap, ev, hgo⟩ := R_form hv (hnew.imp fun _ h => h.1); subst ev; have HV := Aside0.mk hv; have HB1 := Aside0.mk hb; have HGO := Aside0.mk hgo; clear hv hb hg hnew hgo))
  have hv := HV.out
  rw [show (List.replicate (m : Int).toNat (0 : Int)).length = m by (rw [List.length_replicate]; omega)] at hv
  obtain ⟨cur, hblk, hw0, hcs, hnc, hmx, htk, hl0⟩ := blk_R hv (by omega)
  have e7 : ¬ cap = 1 := by have := HM.out; omega
  have HBK := Aside0.mk hblk
  have HCS := Aside0.mk hcs
  have HMX := Aside0.mk hmx
  have HNC := Aside0.mk hnc
  obtain ⟨x0, hx0⟩ := cur_get htk hcs hnc 0 (by omega)
  obtain ⟨x1, hx1⟩ := cur_get htk hcs hnc q (by omega)
  have c0 := (blk_cell hblk 0).trans hx0
  have f0 := blk_frozen hblk 0
  have hb2 := blk_set hblk 0 (.int .i64 first)
  have c1 := (blk_cell hb2 q).trans ((cur_other _ _ _ _ (by have := HQ.out; omega)).trans hx1)
  have f1 := blk_frozen hb2 q
  clear hw0 hl0 hv htk hcs hmx hblk hb2 hx0 hx1 hnc HV
  go_upto_region 3 with fail
  go_wp2_with ((with_reducible refine gate_builtin (b := .copy) (xs := #[.tmp 22, .tmp 23]) rfl ?_); refine wpList_copy_splice rfl (.tmp 22) (.tmp 23) 22 22 rfl 3 Try.underlying22 size3 _ _ _ _ _ _ rfl rfl go 1 ((cur.setIfInBounds 0 (.int .i64 first)).setIfInBounds q (.int .i64 last)).toList 3 ?hg (codes.map (Value.int .i64)) ?hn ?hpos ?hfit ?h1 w.heap.size w ?hb ?hBg ?_; (case hg => exact (blk_set (blk_set HBK.out 0 _) q _).trans (by rw [Array.toArray_toList])); (case hn => rw [List.length_map, ← HN.out]; exact (Nat.min_eq_left (by have := HM.out; omega)).symm); (case hpos => intro hp; refine ⟨rfl, ?_⟩; exact copy_src H.out HN.out HB1.out HGO.out hp); (case hfit => have := HCS.out; have := HNC.out; have := HN.out; have := HM.out; simp; omega); (case h1 => intro v hv; obtain ⟨q, _, rfl⟩ := List.mem_map.1 hv; rfl); (case hb => exact (HB1.out.setCell (p := ⟨go, 0, none⟩) HGO.out _).setCell (p := ⟨go, q, none⟩) HGO.out _); (case hBg => exact HGO.out); intro w' hh hb'; have HH := Aside0.mk hh; have HB' := Aside0.mk hb'; clear hh hb' c0 c1 f0 f1)
  go_ret
  have hxl : (first :: (codes ++ [last])).length = m := by have := HM.out; have := HN.out; simp; omega
  refine ⟨_, rfl, ?_, HB'.out⟩
  have hh := HH.out
  have hcl : (codes.map (Value.int .i64)).length = n := by rw [List.length_map, ← HN.out]
  have hms : n + 2 ≤ cur.size := by have := HCS.out; have := HNC.out; have := HM.out; omega
  rw [HQ.out] at hh
  have ht := wrap_take cur n hms (.int .i64 first) (.int .i64 last) (codes.map (Value.int .i64)) hcl
  have hr := R_blk (xs := first :: (codes ++ [last])) (cap := cap) hh HGO.out (by
      have hsz := length_splice ((cur.setIfInBounds 0 (.int .i64 first)).setIfInBounds (n + 1) (.int .i64 last)).toList 1 (codes.map (Value.int .i64)) (by simp; have := HN.out; omega)
      have := HCS.out
      simp at hsz ⊢
      omega) (by have := HNC.out; omega) HMX.out (by
      rw [hxl, HM.out, List.toList_toArray, ht]
      simp)
  rw [hxl] at hr
  exact hr
end Go.Proofs.Ytfkgjoflekemaaa.CEven
/-! embed.Isolate, Join: walked. -/
namespace Go.Proofs.Ytfkgjoflekemaaa.CEven
open Go.RowKit Go.Shelf Go.Proofs.YtfkgjoflekemaaaW.PrintWords Go.Proofs.YtfkgjoflekemaaaW.PrintMore Go.Proofs.YtfkgjoflekemaaaW.PrintLast Go.Proofs.Ytfkgjoflekemaaa.U Go.Proofs.Ytfkgjoflekemaaa.CBase Go.Proofs.Ytfkgjoflekemaaa.CSlices Go.Proofs.Ytfkgjoflekemaaa.CCut Go.Proofs.Ytfkgjoflekemaaa.UEven Go.Proofs.Ytfkgjoflekemaaa.CFunc Go.Proofs.Ytfkgjoflekemaaa.CBack Go.Proofs.Ytfkgjoflekemaaa.CProps
set_option linter.unusedVariables false
set_option linter.unusedSimpArgs false
theorem parts_none {text : List Int} (h : partsL text = false) : ∀ c ∈ text, cl c ≠ 10 := by
  intro c hc e
  unfold partsL at h
  have := List.any_eq_false.1 h c hc
  simp at this
  exact this e
set_option maxRecDepth 100000 in
set_option maxHeartbeats 1000000 in
theorem isolate_no {w : World} {g : Nat} {v : Value} {text : List Int} (hp : PropsAt w g) (h : SL w v text) (hm : text.length ≤ 100000) (d : Int) (hd : d = 0 ∨ d = 1 ∨ d = 2) (hb : partsL text = true) :
    Calls Try.prog 93 #[.pointer (some ⟨g, 0, none⟩), v, .int .i64 d] w fun e w' => e = .returned (.tuple #[.slice none 0 0, .int .i64 14]) ∧ Below w.heap.size w w' := by
  have H := Aside0.mk h
  have HP := Aside0.mk hp
  have HM : Aside0 (mayL text = 14) := ⟨by unfold mayL; rw [hb]; rfl⟩
  have HD := Aside0.mk hd
  obtain ⟨A, c, rfl, _, _⟩ := h
  clear hp hb hd
  go_enter Try.func93, Try.ntmps93
  go_wp2_with (go_at_call 124; refine (may_c HP.out H.out (by omega) d HD.out).mono ?_; rintro e w1 ⟨rfl, hb1⟩; rw [HM.out]; have HB1 := Aside0.mk hb1; clear hb1)
  refine bodyPost_ret (results_tmp2 rfl _ _ _) rfl ?_
  exact ⟨rfl, HB1.out⟩
set_option maxRecDepth 100000 in
set_option maxHeartbeats 1000000 in
theorem isolate_c {w : World} {g : Nat} {v : Value} {text : List Int} (hp : PropsAt w g) (h : SL w v text) (hm : text.length ≤ 100000) (d : Int) (hd : d = 0 ∨ d = 1 ∨ d = 2) (hb : partsL text = false) :
    Calls Try.prog 93 #[.pointer (some ⟨g, 0, none⟩), v, .int .i64 d] w fun e w' => ∃ u, e = .returned (.tuple #[u, .int .i64 0]) ∧ Kd.R (Kd.int .i64) 3 w' w.heap.size (fun _ => True) u (isol cl d text) ∧ Below w.heap.size w w' := by
  have H := Aside0.mk h
  have HP := Aside0.mk hp
  have HM : Aside0 (mayL text = 0) := ⟨by unfold mayL; rw [hb]; rfl⟩
  have HNB := Aside0.mk (parts_none hb)
  have HD := Aside0.mk hd
  have hd0 : 0 ≤ d := by omega
  have hd1 : d ≤ 2 := by omega
  obtain ⟨A, c, rfl, _, _⟩ := h
  clear hp hb hd
  go_enter Try.func93, Try.ntmps93
  go_wp2_with (first | (go_at_call 124; refine (may_c HP.out H.out (by omega) d HD.out).mono ?_; rintro e w1 ⟨rfl, hb1⟩; rw [HM.out]; have HB1 := Aside0.mk hb1; clear hb1) | (go_at_call 126; refine (even_c (HP.out.below HB1.out) (SLk.below H.out HB1.out) hm HNB.out).mono ?_; rintro e w2 ⟨u, rfl, hu, hb2⟩; obtain ⟨Au, lu, cu, eu⟩ : ∃ A l c, u = .slice A l c := (by obtain ⟨A, c, e⟩ := Kd.R_slice hu; exact ⟨_, _, _, e⟩); subst eu; have HU := Aside0.mk (SLk.of_R hu); have HB2 : Aside0 (Below w.heap.size w w2) := ⟨below_step HB1.out hb2⟩; clear hu hb2 HB1) | (go_at_call 125; refine (wrapped_c HU.out (by have := even_len text; omega) _ _).mono ?_; rintro e w3 ⟨u, rfl, hu, hb3⟩; obtain ⟨A3, l3, c3, eu⟩ : ∃ A l c, u = .slice A l c := (by obtain ⟨A, c, e⟩ := Kd.R_slice hu; exact ⟨_, _, _, e⟩); subst eu; have HU3 := Aside0.mk hu; have HB3 : Aside0 (Below w.heap.size w w3) := ⟨below_step HB2.out hb3⟩; clear hu hb3))
  refine bodyPost_ret (results_tmp2 rfl _ _ _) rfl ?_
  exact ⟨_, rfl, Kd.R_lower HU3.out HB2.out.size, HB3.out⟩
noncomputable def joinL (d : Int) (xss : List (List Int)) : List Int := (xss.map (isol cl d)).flatten
theorem isol_len (d : Int) (l : List Int) : (isol cl d l).length ≤ 2 * l.length + 2 := by
  unfold isol
  have := even_len l
  simp; omega
theorem joinL_len (d : Int) (xss : List (List Int)) (h : ∀ x ∈ xss, x.length ≤ 100000) : (joinL d xss).length ≤ xss.length * 200002 := by
  induction xss with
  | nil => simp [joinL]
  | cons x t ih =>
    have h1 := isol_len d x
    have h2 := h x List.mem_cons_self
    have h3 := ih (fun y hy => h y (List.mem_cons_of_mem _ hy))
    unfold joinL at h3 ⊢
    simp only [List.map_cons, List.flatten_cons, List.length_append, List.length_cons]
    omega
theorem joinL_take (d : Int) (xss : List (List Int)) (k : Nat) (hk : k < xss.length) : joinL d (xss.take (k + 1)) = joinL d (xss.take k) ++ isol cl d xss[k] := by
  unfold joinL
  rw [List.take_succ_eq_append_getElem hk, List.map_append, List.flatten_append]
  simp
set_option maxRecDepth 100000 in
set_option maxHeartbeats 2000000 in
theorem join_c {w : World} {g : Nat} {v : Value} {xss : List (List Int)} (hp : PropsAt w g) (h : SLs w v xss) (hn : xss.length ≤ 1000) (hm : ∀ x ∈ xss, x.length ≤ 100000) (d : Int) (hd : d = 0 ∨ d = 1 ∨ d = 2) :
    Calls Try.prog 53 #[.pointer (some ⟨g, 0, none⟩), .int .i64 d, v] w fun e w' => ((xss.any partsL = true ∧ e = .returned (.tuple #[.slice none 0 0, .int .i64 14])) ∨ (xss.any partsL = false ∧ ∃ u, e = .returned (.tuple #[u, .int .i64 0]) ∧ Kd.R (Kd.int .i64) 3 w' w.heap.size (fun _ => True) u (joinL d xss))) ∧ Below w.heap.size w w' := by
  have H := Aside0.mk h
  have HP := Aside0.mk hp
  have HM := Aside0.mk hm
  have HD := Aside0.mk hd
  obtain ⟨A, c, rfl, _, _⟩ := h
  clear hp hm hd
  go_enter Try.func53, Try.ntmps53
  go_wp2_with fail
  go_loopw [8, 15] (fun v a wr => ∃ k : Nat, a = .int .i64 k ∧ k ≤ xss.length ∧ Aside0 ((xss.take k).any partsL = false) ∧ Aside0 (Kd.R (Kd.int .i64) 3 wr w.heap.size (fun _ => True) v (joinL d (xss.take k))) ∧ Aside0 (Below w.heap.size w wr)) (fun _ a _ => xss.length - (intOf a).toNat)
  case atStart => exact ⟨0, rfl, Nat.zero_le _, ⟨rfl⟩, ⟨Kd.R_nil _ _ _ _ _⟩, ⟨Below.refl _ _⟩⟩
  case round =>
    obtain ⟨k, rfl, hk, HN, HV, HB⟩ := hrel
    obtain ⟨Av, lv, cv, e8⟩ : ∃ A l c, u8 = .slice A l c := by obtain ⟨A, c, e⟩ := Kd.R_slice HV.out; exact ⟨_, _, _, e⟩
    subst e8
    by_cases hlt : k < xss.length
    · obtain ⟨ad, c1, ev, A0, c0, hcell, hsl⟩ := SLs.at_ (SLk.below H.out HB.out) k hlt
      injection ev with e1 e2 e3
      subst e1
      have hx : xss.getD k [] = xss[k] := by rw [List.getD_eq_getElem?_getD, List.getElem?_eq_getElem hlt]; rfl
      rw [hx] at hcell hsl
      have hany : (xss.take (k + 1)).any partsL = ((xss.take k).any partsL || partsL xss[k]) := by rw [List.take_succ_eq_append_getElem hlt, List.any_append]; simp
      have hall : partsL xss[k] = true → xss.any partsL = true := fun hp => List.any_eq_true.2 ⟨_, List.getElem_mem hlt, hp⟩
      have HT := Aside0.mk (joinL_take d xss k hlt)
      have HJ : Aside0 ((joinL d (xss.take k)).length ≤ 200200000) := ⟨by
        have := joinL_len d (xss.take k) (fun x hx => HM.out x (List.mem_of_mem_take hx))
        rw [List.length_take] at this
        have h2 : min k xss.length ≤ 1000 := by omega
        have h3 := Nat.mul_le_mul_right 200002 h2
        omega⟩
      have HXM : Aside0 (xss[k].length ≤ 100000) := ⟨HM.out _ (List.getElem_mem hlt)⟩
      obtain ⟨x, hxx⟩ : ∃ x, x = xss[k] := ⟨_, rfl⟩
      rw [← hxx] at hcell hsl hany hall HT HXM
      have HSL := Aside0.mk hsl
      have HANY := Aside0.mk hany
      have hkI : (k : Int) < (xss.length : Int) := by omega
      clear e2 e3 hx hxx hsl hany
      obtain ⟨lx, hlx⟩ : ∃ l, l = x.length := ⟨_, rfl⟩
      rw [← hlx] at hcell HSL
      clear hlx
      obtain ⟨b, hb⟩ : ∃ b, b = partsL x := ⟨_, rfl⟩
      rw [← hb] at hall
      have HPB := Aside0.mk hb
      cases b with
      | true =>
        have HALL := Aside0.mk (hall rfl)
        clear hall hb
        go_wp2_with (go_at_call 93; refine (isolate_no (HP.out.below HB.out) HSL.out HXM.out d HD.out HPB.out.symm).mono ?_; rintro e w2 ⟨rfl, hb2⟩; have HB2 : Aside0 (Below w.heap.size w w2) := ⟨below_step HB.out hb2⟩; clear hb2)
        refine bodyPost_ret (results_tmp2 rfl _ _ _) rfl ?_
        exact ⟨.inl ⟨HALL.out, rfl⟩, HB2.out⟩
      | false =>
        clear hall hb
        go_wp2_with (first | (go_at_call 93; refine (isolate_c (HP.out.below HB.out) HSL.out HXM.out d HD.out HPB.out.symm).mono ?_; rintro e w2 ⟨u, rfl, hu, hb2⟩; obtain ⟨Au, lu, cu, eu⟩ : ∃ A l c, u = .slice A l c := (by obtain ⟨A, c, e⟩ := Kd.R_slice hu; exact ⟨_, _, _, e⟩); subst eu; obtain ⟨Ae', ce', eqe, _, hCe⟩ := SLk.of_R hu; injection eqe with q1 q2 q3; subst q1 q2; have HCE := Aside0.mk hCe; have HB2 : Aside0 (Below w.heap.size w w2) := ⟨below_step HB.out hb2⟩; have HV2 : Aside0 (Kd.R (Kd.int .i64) 3 w2 w.heap.size (fun _ => True) (.slice Av lv cv) (joinL d (xss.take k))) := ⟨Kd.R_below HV.out hb2⟩; clear hu hb2 hCe q3) | (at_builtin; refine Kd.R_append_rows (Kd.int .i64) (w0 := w) w.heap.size rfl (.tmp 29) (.tmp 30) 22 3 (.int .i64 0) 8 rfl Try.underlying22 CSlices.info3 rfl (by decide) (by omega) _ (joinL d (xss.take k)) (isol cl d x) _ _ _ (fun _ => True) (fun _ => False) rfl rfl HV2.out HCE.out (fun _ _ h => h) (fun _ h => h.elim) (fun _ _ => trivial) HB2.out HB2.out.size (by have := HJ.out; have := isol_len d x; have := HXM.out; omega) ?_; intro v1 w4 hv1 hb1 hg1 hn1; obtain ⟨A4, l4, c4, e4⟩ : ∃ A l c, v1 = .slice A l c := (by obtain ⟨A, c, e⟩ := Kd.R_slice hv1; exact ⟨_, _, _, e⟩); subst e4; have HV4 := Aside0.mk hv1; have HB4 := Aside0.mk hb1; clear hv1 hb1 hg1 hn1))
        exact ⟨⟨k + 1, by go_num, by omega, ⟨by rw [HANY.out, HN.out, ← HPB.out]; rfl⟩, ⟨by rw [HT.out]; exact HV4.out⟩, HB4⟩, by simp [intOf]; omega⟩
    · go_wp2
      refine bodyPost_ret (results_tmp2 rfl _ _ _) rfl ?_
      have h1 := HN.out
      have h2 := HV.out
      rw [List.take_of_length_le (by omega)] at h1 h2
      exact ⟨.inr ⟨h1, _, rfl, h2⟩, HB.out⟩
end Go.Proofs.Ytfkgjoflekemaaa.CEven
