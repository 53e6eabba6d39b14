/- join.Forms: what it answers, as a plain function of the types; its closure and its helpers. -/
import Derived.Test.YtfkgjoflekemaaaPJoinFormsx1
import Derived.Test.YtfkgjoflekemaaaUJoin
import Derived.Test.YtfkgjoflekemaaaUKit
namespace Go.Proofs.Ytfkgjoflekemaaa.CJoin
open Go.RowKit Go.Proofs.Ytfkgjoflekemaaa.PJoinForms Go.Proofs.YtfkgjoflekemaaaW.PrintWords Go.Proofs.YtfkgjoflekemaaaW.PrintLast Go.Proofs.YtfkgjoflekemaaaW.PrintMore Go.Proofs.Ytfkgjoflekemaaa.U Go.Proofs.Ytfkgjoflekemaaa.UJoin
set_option linter.unusedVariables false
set_option linter.unusedSimpArgs false
theorem shapes_any (t : Int) (w : World) : Calls Try.prog 64 #[.int .i64 t] w fun e w' => e = .returned (.bool (shapesB t)) ∧ w = w' := by
  go_enter Try.func64, Try.ntmps64
  go_wp2
  all_goals
    go_ret
    refine ⟨?_, rfl⟩
    congr 2
    unfold shapesB
    simp_all
theorem form_any (b a : Bool) (w : World) : Calls Try.prog 65 #[.bool b, .bool a] w fun e w' => e = .returned (.int .i64 (formOf b a)) ∧ w = w' := by
  cases b <;> cases a
  all_goals
    go_enter Try.func65, Try.ntmps65
    go_wp2
    go_ret
    exact ⟨rfl, rfl⟩
structure FS (w0 w : World) (gl gt gb gp go cap : Nat) (A : Option Addr) (cA : Nat) (types out : List Int) (last : Int) (bef : Bool) : Prop where
  l : w.heap[gl]? = some (.cells #[.int .i64 last] 3 (0, 0))
  t : w.heap[gt]? = some (.cells #[.slice A types.length cA] 22 (0, 0))
  b : w.heap[gb]? = some (.cells #[.bool bef] 4 (0, 0))
  o : w.heap[gp]? = some (.cells #[.slice (some ⟨go, 0, none⟩) types.length cap] 22 (0, 0))
  r : Kd.R (Kd.int .i64) 3 w w0.heap.size (fun _ => True) (.slice (some ⟨go, 0, none⟩) types.length cap) out
  c : Kd.C (Kd.int .i64) w0 A types.length types
  bw : Below w0.heap.size w0 w
  nl : gl ≠ go
  bl : w0.heap.size ≤ gl
  bb : w0.heap.size ≤ gb
theorem FS.far {w0 w w' : World} {gl gt gb gp go cap : Nat} {A : Option Addr} {cA : Nat} {types out : List Int} {last : Int} {bef : Bool} (h : FS w0 w gl gt gb gp go cap A cA types out last bef) (hb : Below w.heap.size w w') : FS w0 w' gl gt gb gp go cap A cA types out last bef :=
  ⟨blk_below h.l hb, blk_below h.t hb, blk_below h.b hb, blk_below h.o hb, Kd.R_below h.r hb, h.c, below_step h.bw hb, h.nl, h.bl, h.bb⟩
set_option maxRecDepth 100000 in
set_option maxHeartbeats 1000000 in
theorem settle_yes (w0 w : World) (gl gt gb gp go cap : Nat) (A : Option Addr) (cA : Nat) (types out : List Int) (last : Int) (bef aft : Bool) (h : FS w0 w gl gt gb gp go cap A cA types out last bef)
    (h0 : 0 ≤ last) (h1 : last < types.length) (h2 : shapesB (rd types last) = true) :
    Calls Try.prog 63 #[.bool aft, .pointer (some ⟨gl, 0, none⟩), .pointer (some ⟨gt, 0, none⟩), .pointer (some ⟨gb, 0, none⟩), .pointer (some ⟨gp, 0, none⟩)] w fun e w' => e = .returned (.tuple #[]) ∧ ∃ n, w' = (w.drewN n).setCell ⟨go, last.toNat, none⟩ (.int .i64 (formOf bef aft)) := by
  have hl : w.cell? ⟨gl, 0, none⟩ = some (.int .i64 last) := (blk_cell h.l 0).trans rfl
  have ht : w.cell? ⟨gt, 0, none⟩ = some (.slice A types.length cA) := (blk_cell h.t 0).trans rfl
  have hb : w.cell? ⟨gb, 0, none⟩ = some (.bool bef) := (blk_cell h.b 0).trans rfl
  have ho : w.cell? ⟨gp, 0, none⟩ = some (.slice (some ⟨go, 0, none⟩) types.length cap) := (blk_cell h.o 0).trans rfl
  obtain ⟨ad, ea, hx⟩ := Kd.at_int (Kd.C_below h.c h.bw) last h0 h1
  cases ea
  obtain ⟨hy, hz⟩ := Kd.R_celln (0 : Int) h.r last h0 h1
  go_enter Try.func63, Try.ntmps63
  go_wp2_with (go_at_call 64; refine (shapes_any _ _).mono ?_; rintro e w' ⟨rfl, rfl⟩; rw [h2])
  go_still_tail 6, (by kernel_rfl)
  still_call ((form_any _ _ _).mono fun e w' h => ⟨h.1, h.2.symm⟩)
  repeat still_step
  refine wpStill_nil ?_
  change wpList _ _ _ _ _ w.drew
  go_wp2
  go_end0
  exact ⟨rfl, 1, rfl⟩

theorem settle_no (w0 w : World) (gl gt gb gp go cap : Nat) (A : Option Addr) (cA : Nat) (types out : List Int) (last : Int) (bef aft : Bool) (h : FS w0 w gl gt gb gp go cap A cA types out last bef)
    (h1 : last < types.length) (h2 : ¬ (0 ≤ last ∧ shapesB (rd types last) = true)) :
    Calls Try.prog 63 #[.bool aft, .pointer (some ⟨gl, 0, none⟩), .pointer (some ⟨gt, 0, none⟩), .pointer (some ⟨gb, 0, none⟩), .pointer (some ⟨gp, 0, none⟩)] w fun e w' => e = .returned (.tuple #[]) ∧ w' = w := by
  have hl : w.cell? ⟨gl, 0, none⟩ = some (.int .i64 last) := (blk_cell h.l 0).trans rfl
  have ht : w.cell? ⟨gt, 0, none⟩ = some (.slice A types.length cA) := (blk_cell h.t 0).trans rfl
  by_cases h0 : 0 ≤ last
  · obtain ⟨ad, ea, hx⟩ := Kd.at_int (Kd.C_below h.c h.bw) last h0 h1
    cases ea
    have h3 : shapesB (rd types last) = false := by
      cases hb : shapesB (rd types last)
      · rfl
      · exact absurd ⟨h0, hb⟩ h2
    have H3 := Lib.hid h3
    clear h2 h3
    go_enter Try.func63, Try.ntmps63
    go_wp2_with (go_at_call 64; refine (shapes_any _ _).mono ?_; rintro e w' ⟨rfl, rfl⟩; rw [H3.out])
    go_end0
    exact ⟨rfl, rfl⟩
  · clear h2
    have hb : decide (0 ≤ last) = false := decide_eq_false h0
    go_enter Try.func63, Try.ntmps63
    go_wp2
    go_end0
    exact ⟨rfl, rfl⟩
theorem settle (w0 w : World) (gl gt gb gp go cap : Nat) (A : Option Addr) (cA : Nat) (types out : List Int) (last : Int) (bef aft : Bool) (h : FS w0 w gl gt gb gp go cap A cA types out last bef)
    (h1 : last < types.length) :
    Calls Try.prog 63 #[.bool aft, .pointer (some ⟨gl, 0, none⟩), .pointer (some ⟨gt, 0, none⟩), .pointer (some ⟨gb, 0, none⟩), .pointer (some ⟨gp, 0, none⟩)] w fun e w' => e = .returned (.tuple #[]) ∧ FS w0 w' gl gt gb gp go cap A cA types (outAfter types out last bef aft) last bef := by
  by_cases hc : 0 ≤ last ∧ shapesB (rd types last) = true
  · refine (settle_yes w0 w gl gt gb gp go cap A cA types out last bef aft h hc.1 h1 hc.2).mono ?_
    rintro e w' ⟨he, n, rfl⟩
    have hb : w0.heap.size ≤ go := Kd.R_base h.r go rfl
    have h' := Kd.R_putg (Kd.R_drewN h.r n) last (formOf bef aft)
    refine ⟨he, ⟨?_, ?_, ?_, ?_, ?_, h.c, (pw_below_drewN h.bw n).setCell hb _, h.nl, h.bl, h.bb⟩⟩
    · exact blk_grown (blk_drewN h.l n) h'.2 (by simpa using h.nl)
    · exact blk_grown (blk_drewN h.t n) h'.2 (Kd.R_ne h.r h.t (by decide))
    · exact blk_grown (blk_drewN h.b n) h'.2 (Kd.R_ne h.r h.b (by decide))
    · exact blk_grown (blk_drewN h.o n) h'.2 (Kd.R_ne h.r h.o (by decide))
    · unfold outAfter
      rw [if_pos hc]
      exact h'.1
  · refine (settle_no w0 w gl gt gb gp go cap A cA types out last bef aft h h1 hc).mono ?_
    rintro e w' ⟨he, rfl⟩
    refine ⟨he, ?_⟩
    unfold outAfter
    rw [if_neg hc]
    exact h

theorem behind_any (t : Int) (w : World) : Calls Try.prog 66 #[.int .i64 t] w fun e w' => e = .returned (.bool (behindB t)) ∧ w = w' := by
  go_enter Try.func66, Try.ntmps66
  go_wp2
  all_goals
    go_ret
    refine ⟨?_, rfl⟩
    congr 2
    unfold behindB
    simp_all
theorem ahead_any (t : Int) (w : World) : Calls Try.prog 67 #[.int .i64 t] w fun e w' => e = .returned (.bool (aheadB t)) ∧ w = w' := by
  go_enter Try.func67, Try.ntmps67
  go_wp2
  all_goals
    go_ret
    refine ⟨?_, rfl⟩
    congr 2
    unfold aheadB
    simp_all
theorem FS.put {w0 w : World} {gl gt gb gp go cap : Nat} {A : Option Addr} {cA : Nat} {types out : List Int} {last : Int} {bef : Bool} (h : FS w0 w gl gt gb gp go cap A cA types out last bef) (x : Int) (m : Bool) :
    FS w0 ((w.setCell ⟨gl, 0, none⟩ (.int .i64 x)).setCell ⟨gb, 0, none⟩ (.bool m)) gl gt gb gp go cap A cA types out x m := by
  have hlb : gl ≠ gb := blk_ne h.l h.b (by decide)
  have hlt : gl ≠ gt := blk_ne h.l h.t (by decide)
  have hlp : gl ≠ gp := blk_ne h.l h.o (by decide)
  have hbt : gb ≠ gt := blk_ne h.b h.t (by decide)
  have hbp : gb ≠ gp := blk_ne h.b h.o (by decide)
  have hbo : some gb ≠ (Value.slice (some ⟨go, 0, none⟩) types.length cap).ownBlock := Kd.R_ne h.r h.b (by decide)
  refine ⟨?_, ?_, ?_, ?_, ?_, h.c, (h.bw.setCell h.bl _).setCell h.bb _, h.nl, h.bl, h.bb⟩
  · exact blk_far (blk_set h.l 0 _) hlb _
  · exact blk_far (blk_far h.t hlt.symm _) hbt.symm _
  · exact blk_set (blk_far h.b hlb.symm _) 0 _
  · exact blk_far (blk_far h.o hlp.symm _) hbp.symm _
  · exact Kd.R_grown1 (Kd.R_grown1 h.r rfl (grown_set _ gl 0 _) (by simpa [Value.ownBlock] using h.nl)) rfl (grown_set _ gb 0 _) hbo
set_option maxRecDepth 100000 in
set_option maxHeartbeats 1000000 in
theorem forms_any (A : Option Addr) (cA : Nat) (types : List Int) (w : World) (hm : types.length ≤ 1000000) (hc : Kd.C (Kd.int .i64) w A types.length types) :
    Calls Try.prog 24 #[.slice A types.length cA] w fun e w' => ∃ v, e = .returned v ∧ Kd.R (Kd.int .i64) 3 w' w.heap.size (fun _ => True) v (formsOf types) ∧ Below w.heap.size w w' := by
  have HC := Aside0.mk hc
  clear hc
  go_enter Try.func24, Try.ntmps24
  go_wp2_with (first | (refine Kd.R_make (Kd.int .i64) (w0 := w) w.heap.size 3 rfl (N := 12) rfl 22 _ _ rfl types.length rfl rfl Try.underlying22 (.int .i64 0) 8 info3 rfl (by decide) (by omega) 0 (ok := fun _ => True) (okp := fun _ => True) rfl (fun _ hk => hk) trivial (by omega) (by omega) (below_alloc (Below.refl _ _) _) (by simp) ?_; intro v w1 hv hb hg hnew; obtain ⟨go, cap, ev, hgo⟩ := R_form hv (hnew.imp fun _ h => h.1); subst ev; have HV := Aside0.mk hv; have HB := Aside0.mk hb; have HT : Aside0 (w1.heap[w.heap.size]? = some (.cells #[.slice A types.length cA] 22 (0, 0))) := ⟨blk_grown (blk_new w _) hg (by simp)⟩; clear hv hb hg hnew hgo; have hct : w1.cell? ⟨w.heap.size, 0, none⟩ = some (.slice A types.length cA) := (blk_cell HT.out 0).trans rfl; have hlt : w.heap.size < w1.heap.size := blk_lt HT.out; have hlt1 : w.heap.size < w1.heap.size + 1 := Nat.lt_succ_of_lt hlt; have hlt2 : w.heap.size < w1.heap.size + 1 + 1 := Nat.lt_succ_of_lt hlt1; simp only [List.length_replicate, Int.toNat_natCast]))
  clear hct hlt hlt1 hlt2
  obtain ⟨gl, egl⟩ : ∃ gl, gl = w1.heap.size + 1 := ⟨_, rfl⟩
  obtain ⟨gb, egb⟩ : ∃ gb, gb = w1.heap.size + 1 + 1 := ⟨_, rfl⟩
  obtain ⟨gp, egp⟩ : ∃ gp, gp = w1.heap.size := ⟨_, rfl⟩
  obtain ⟨gt, egt⟩ : ∃ gt, gt = w.heap.size := ⟨_, rfl⟩
  have HF : Aside0 (FS w (((w1.alloc (Obj.cells #[Value.slice (some { block := go, off := 0 }) types.length cap] 22)).alloc (Obj.cells #[Value.int IntKind.i64 (-1)] 3)).alloc (Obj.cells #[Value.bool false] 4)) gl gt gb gp go cap A cA types (List.replicate types.length 0) (-1) false) := by
    subst egl egb egp egt
    have hv := HV.out
    simp only [List.length_replicate, Int.toNat_natCast] at hv
    have hlt := Kd.R_lt hv go rfl
    refine ⟨⟨?_, ?_, ?_, ?_, ?_, HC.out, ?_, ?_, ?_, ?_⟩⟩
    · have := blk_alloc (blk_new (w1.alloc (Obj.cells #[Value.slice (some { block := go, off := 0 }) types.length cap] 22)) (Obj.cells #[Value.int IntKind.i64 (-1)] 3)) (Obj.cells #[Value.bool false] 4)
      simpa using this
    · exact blk_alloc (blk_alloc (blk_alloc HT.out _) _) _
    · have := blk_new ((w1.alloc (Obj.cells #[Value.slice (some { block := go, off := 0 }) types.length cap] 22)).alloc (Obj.cells #[Value.int IntKind.i64 (-1)] 3)) (Obj.cells #[Value.bool false] 4)
      simpa using this
    · exact blk_alloc (blk_alloc (blk_new _ _) _) _
    · exact Kd.R_alloc (Kd.R_alloc (Kd.R_alloc hv _) _) _
    · exact below_alloc (below_alloc (below_alloc HB.out _) _) _
    · omega
    · have := HB.out.size; omega
    · have := HB.out.size; omega
  rw [← egb, ← egl, ← egp, ← egt]
  clear egl egb egp egt
  go_loopw [16] (fun v wr => ∃ k : Nat, v = .int .i64 k ∧ k ≤ types.length ∧ Aside0 (FS w wr gl gt gb gp go cap A cA types (runF types k).2.2 (runF types k).1 (runF types k).2.1)) (fun v _ => types.length - (intOf v).toNat)
  case atStart => exact ⟨0, rfl, Nat.zero_le _, HF⟩
  case round =>
    clear HF
    obtain ⟨k, rfl, hk, HF⟩ := hrel
    have hrl := runF_last types k
    generalize hs : runF types k = s at HF hrl
    have HS := Aside0.mk hs
    clear hs
    obtain ⟨last, bef, out⟩ := s
    dsimp only at HF hrl
    obtain ⟨hr1, hr2⟩ := hrl
    have hF := HF.out
    have hcl : wr.cell? ⟨gl, 0, none⟩ = some (.int .i64 last) := (blk_cell hF.l 0).trans rfl
    have hct : wr.cell? ⟨gt, 0, none⟩ = some (.slice A types.length cA) := (blk_cell hF.t 0).trans rfl
    have hcb : wr.cell? ⟨gb, 0, none⟩ = some (.bool bef) := (blk_cell hF.b 0).trans rfl
    have hco : wr.cell? ⟨gp, 0, none⟩ = some (.slice (some ⟨go, 0, none⟩) types.length cap) := (blk_cell hF.o 0).trans rfl
    clear hF
    by_cases hlt : k < types.length
    · have hltI : (k : Int) < (types.length : Int) := by omega
      have hkI : 0 ≤ (k : Int) := by omega
      obtain ⟨ad, ea, hx⟩ := Kd.at_int (Kd.C_below HC.out HF.out.bw) (k : Int) hkI hltI
      cases ea
      simp only [Int.toNat_natCast] at hx
      by_cases ht : rd types (k : Int) = 1
      · have ht' : (rd types (k : Int) == 1) = true := by simpa using ht
        have HT' := Aside0.mk ht
        clear ht
        go_wp2
        refine ⟨⟨k + 1, by go_num, by omega, ⟨?_⟩⟩, by simp [intOf]; omega⟩
        have : runF types (k + 1) = runF types k := by rw [runF, stepF, if_pos HT'.out]
        rw [this, HS.out]
        exact HF.out
      · have ht' : (rd types (k : Int) == 1) = false := by simpa using ht
        have HN : Aside0 (runF types (k + 1) = ((k : Int), meetsB types last (rd types k), outAfter types out last bef (meetsB types last (rd types k)))) := ⟨by rw [runF, stepF, if_neg ht, HS.out]⟩
        clear ht
        have fin : ∀ (wx : World), FS w wx gl gt gb gp go cap (some ad) cA types (outAfter types out last bef (meetsB types last (rd types k))) last bef → Aside0 (FS w ((wx.setCell ⟨gl, 0, none⟩ (.int .i64 k)).setCell ⟨gb, 0, none⟩ (.bool (meetsB types last (rd types k)))) gl gt gb gp go cap (some ad) cA types (runF types (k + 1)).2.2 (runF types (k + 1)).1 (runF types (k + 1)).2.1) := by
          intro wx hx
          rw [HN.out]
          exact ⟨hx.put _ _⟩
        by_cases h0 : 0 ≤ last
        · have hlI : last < (types.length : Int) := by omega
          obtain ⟨ad2, ea2, hx2⟩ := Kd.at_int (Kd.C_below HC.out HF.out.bw) last h0 hlI
          cases ea2
          have hg0 : decide (0 ≤ last) = true := decide_eq_true h0
          have HM : Aside0 (meetsB types last (rd types k) = (behindB (rd types last) && aheadB (rd types k))) := ⟨by unfold meetsB; rw [hg0]; simp⟩
          have HBH : Aside0 (∀ wx, Calls Try.prog 66 #[.int .i64 (rd types last)] wx fun e w' => e = .returned (.bool (behindB (rd types last))) ∧ wx = w') := ⟨fun wx => behind_any _ wx⟩
          have HAH : Aside0 (∀ wx, Calls Try.prog 67 #[.int .i64 (rd types k)] wx fun e w' => e = .returned (.bool (aheadB (rd types k))) ∧ wx = w') := ⟨fun wx => ahead_any _ wx⟩
          generalize behindB (rd types last) = bb at HM HBH
          generalize aheadB (rd types k) = aa at HM HAH
          generalize meetsB types last (rd types k) = mm at HM HN fin
          obtain rfl : mm = (bb && aa) := HM.out
          have FIN := Aside0.mk fin
          clear fin HM hg0
          have hS : ∀ m, Calls Try.prog 63 #[.bool m, .pointer (some ⟨gl, 0, none⟩), .pointer (some ⟨gt, 0, none⟩), .pointer (some ⟨gb, 0, none⟩), .pointer (some ⟨gp, 0, none⟩)] wr fun e w' => e = .returned (.tuple #[]) ∧ FS w w' gl gt gb gp go cap (some ad) cA types (outAfter types out last bef m) last bef := fun m => settle w wr gl gt gb gp go cap _ cA types out last bef m HF.out (by omega)
          have SS := Aside0.mk hS
          clear hS
          cases bb
          · go_wp2_with (go_at_call 66; refine (HBH.out _).mono ?_; rintro e w' ⟨rfl, rfl⟩)
            refine (SS.out false).mono ?_
            rintro e w2 ⟨rfl, hF2⟩
            have hcl2 : w2.cell? ⟨gl, 0, none⟩ = some (.int .i64 last) := (blk_cell hF2.l 0).trans rfl
            have hcb2 : w2.cell? ⟨gb, 0, none⟩ = some (.bool bef) := (blk_cell hF2.b 0).trans rfl
            have hfl2 := blk_frozen hF2.l 0
            have hfb2 := blk_frozen hF2.b 0
            have hne : gl ≠ gb := blk_ne hF2.l hF2.b (by decide)
            have F2 := FIN.out w2 hF2
            clear hF2
            go_wp2
            exact ⟨⟨k + 1, by go_num, by omega, F2⟩, by simp [intOf]; omega⟩
          · cases aa
            all_goals
              go_wp2_with (first | (go_at_call 66; refine (HBH.out _).mono ?_; rintro e w' ⟨rfl, rfl⟩) | (go_at_call 67; refine (HAH.out _).mono ?_; rintro e w' ⟨rfl, rfl⟩))
              refine (SS.out _).mono ?_
              rintro e w2 ⟨rfl, hF2⟩
              have hcl2 : w2.cell? ⟨gl, 0, none⟩ = some (.int .i64 last) := (blk_cell hF2.l 0).trans rfl
              have hcb2 : w2.cell? ⟨gb, 0, none⟩ = some (.bool bef) := (blk_cell hF2.b 0).trans rfl
              have hfl2 := blk_frozen hF2.l 0
              have hfb2 := blk_frozen hF2.b 0
              have hne : gl ≠ gb := blk_ne hF2.l hF2.b (by decide)
              have F2 := FIN.out w2 hF2
              clear hF2
              go_wp2
              exact ⟨⟨k + 1, by go_num, by omega, F2⟩, by simp [intOf]; omega⟩
        · have hg0 : decide (0 ≤ last) = false := decide_eq_false h0
          have HM : Aside0 (meetsB types last (rd types k) = false) := ⟨by unfold meetsB; rw [hg0]; simp⟩
          rw [HM.out] at fin
          have FIN := Aside0.mk fin
          clear fin
          go_wp2_with fail
          refine (settle w wr gl gt gb gp go cap _ cA types out last bef false HF.out (by omega)).mono ?_
          rintro e w2 ⟨rfl, hF2⟩
          have hcl2 : w2.cell? ⟨gl, 0, none⟩ = some (.int .i64 last) := (blk_cell hF2.l 0).trans rfl
          have hcb2 : w2.cell? ⟨gb, 0, none⟩ = some (.bool bef) := (blk_cell hF2.b 0).trans rfl
          have hfl2 := blk_frozen hF2.l 0
          have hfb2 := blk_frozen hF2.b 0
          have hne : gl ≠ gb := blk_ne hF2.l hF2.b (by decide)
          have F2 := FIN.out w2 hF2
          clear hF2
          go_wp2
          exact ⟨⟨k + 1, by go_num, by omega, F2⟩, by simp [intOf]; omega⟩
    · have ek : k = types.length := by omega
      have EK := Aside0.mk ek
      clear ek
      go_wp2_with fail
      refine (settle w wr gl gt gb gp go cap _ cA types out last bef false HF.out (by omega)).mono ?_
      rintro e w2 ⟨rfl, hF2⟩
      have hco2 : w2.cell? ⟨gp, 0, none⟩ = some (.slice (some ⟨go, 0, none⟩) types.length cap) := (blk_cell hF2.o 0).trans rfl
      have F2 := Aside0.mk hF2
      clear hF2
      go_wp2
      go_ret
      refine ⟨_, rfl, ?_, F2.out.bw⟩
      have h2 := F2.out.r
      unfold formsOf
      rw [← EK.out, HS.out]
      rw [EK.out]
      exact h2
end Go.Proofs.Ytfkgjoflekemaaa.CJoin
