/- ResolveStays answers true: the law's own function, walked over the contract of resolve.Line. -/
import Derived.Test.YtfkgjoflekemaaaPureResolveLine
namespace Go.Proofs.Ytfkgjoflekemaaa.WalkResolveStays
open Go.RowKit Go.Proofs.Ytfkgjoflekemaaa.PResolveLine Go.Proofs.YtfkgjoflekemaaaW.PrintWords Go.Proofs.YtfkgjoflekemaaaW.PrintLast Go.Proofs.YtfkgjoflekemaaaW.PrintMore Go.Proofs.Ytfkgjoflekemaaa.U
set_option linter.unusedVariables false
set_option linter.unusedSimpArgs false
set_option maxHeartbeats 1000000 in
set_option maxRecDepth 100000 in
theorem inside (k : Nat) (r : List Int) (A0 : Option Addr) (c0 : Nat) (l0 : List Int) (A1 : Option Addr) (c1 : Nat) (l1 : List Int) (a b c : Int) (w : World) (hr0 : Kd.C (Kd.int .i64) w A0 l0.length l0) (hc0 : l0.length ≤ c0) (hr1 : Kd.C (Kd.int .i64) w A1 l1.length l1) (hc1 : l1.length ≤ c1)
   (g1 : ¬ (l0.length : Int) > 200) (g2 : l0.length = l1.length) (g3 : 0 ≤ a) (g4 : a < b) (g5 : b ≤ l0.length) (hf : resolve_Line.f k l0 l1 a b c = some r) (hl : (r.length : Int) = b - a)
   (hq : ∀ i : Int, 0 ≤ i → i < r.length → rd r i = rd l1 (a + i) ∨ rd r i = c) (hst : ∀ i : Int, 0 ≤ i → i < r.length → (rd l0 (a + i) = 0 ∨ rd l0 (a + i) = 1 ∨ rd l0 (a + i) = 2 ∨ rd l0 (a + i) = 3 ∨ rd l0 (a + i) = 6) → rd r i = rd l1 (a + i)) :
    Calls Try.prog 4 #[.slice A0 l0.length c0, .slice A1 l1.length c1, .agg #[.int .i64 a, .int .i64 b], .int .i64 c] w fun e w' => e = .returned (.bool true) ∧ Below w.heap.size w w' := by
  have hu24 := Try.underlying24
  have HR0 := Aside0.mk hr0
  have HC0 := Aside0.mk hc0
  have HR1 := Aside0.mk hr1
  have HC1 := Aside0.mk hc1
  clear hr0 hc0 hr1 hc1
  have b1 : decide (200 < (l0.length : Int)) = false := decide_eq_false (by omega)
  have b1' : decide (200 < l0.length) = false := decide_eq_false (by omega)
  have b2 : (l0.length == l1.length) = true := by simpa using g2
  have b2' : ((l0.length : Int) != (l1.length : Int)) = false := by simp [g2]
  have b3 : decide (a < 0) = false := decide_eq_false (by omega)
  have b4 : decide (b ≤ a) = false := decide_eq_false (by omega)
  have b5 : decide ((l0.length : Int) < b) = false := decide_eq_false (by omega)
  have b6 : ((r.length : Int) != b - a) = false := by simp [hl]
  have G := Aside0.mk g2
  have F := Aside0.mk hf
  have HL := Aside0.mk hl
  have HQ := Aside0.mk hq
  have HS := Aside0.mk hst
  clear g2 hf hl hq hst
  go_enter Try.func4, Try.ntmps4
  go_wp2_with fail
  refine (resolve_Line.calls k _ _ l0 _ _ l1 a b c r _ (Kd.C_alloc HR0.out _) HC0.out (Kd.C_alloc HR1.out _) HC1.out F.out).mono ?_
  rintro e w1 ⟨v0, rfl, ho, hb⟩
  have HB : Aside0 (Below w.heap.size w w1) := ⟨below_step (below_alloc (Below.refl _ _) _) hb⟩
  have HX : Aside0 (w1.heap[w.heap.size]? = some (.cells #[.int .i64 a, .int .i64 b] 24 (0, 0))) := ⟨blk_below (blk_new _ _) hb⟩
  obtain ⟨Ao, co, eo⟩ := Kd.R_slice ho
  subst eo
  have HO := Aside0.mk ho
  clear ho hb
  have hc0 : w1.cell? ⟨w.heap.size, 0, none⟩ = some (.int .i64 a) := (blk_cell HX.out 0).trans rfl
  have hc1 : w1.cell? ⟨w.heap.size, 1, none⟩ = some (.int .i64 b) := (blk_cell HX.out 1).trans rfl
  go_wp2_with fail
  have h1 := HL.out
  go_loopw [58] (fun v wr => ∃ x : Int, v = .int .i64 x ∧ 0 ≤ x ∧ x ≤ r.length ∧ Aside0 (Kd.R (Kd.int .i64) 3 wr w.heap.size (fun _ => True) (.slice Ao r.length co) r) ∧ Aside0 (wr.heap[w.heap.size]? = some (.cells #[.int .i64 a, .int .i64 b] 24 (0, 0))) ∧ Aside0 (Below w.heap.size w wr)) (fun v _ => r.length - (intOf v).toNat)
  case atStart => exact ⟨0, rfl, by omega, by omega, ⟨Kd.R_lower HO.out (by simp)⟩, HX, HB⟩
  case round =>
    clear h1
    obtain ⟨x, rfl, h0, hi, HO, HX, HB⟩ := hrel
    clear hc0 hc1 b6
    have hc0 : wr.cell? ⟨w.heap.size, 0, none⟩ = some (.int .i64 a) := (blk_cell HX.out 0).trans rfl
    have hc1 : wr.cell? ⟨w.heap.size, 1, none⟩ = some (.int .i64 b) := (blk_cell HX.out 1).trans rfl
    by_cases hlt : x < r.length
    · have H1 := HL.out
      have hq := HQ.out x h0 hlt
      have hs := HS.out x h0 hlt
      have hai : a + x < (l0.length : Int) := by omega
      have hai' : a + x < (l1.length : Int) := by have := G.out; omega
      clear H1
      have ha0 : 0 ≤ a + x := by omega
      obtain ⟨ad, ea, hxo⟩ := Kd.at_int (Kd.R_reads' HO.out).2.2 x h0 hlt
      obtain ⟨ad0, ea0, hx0⟩ := Kd.at_int (Kd.C_below HR0.out HB.out) (a + x) ha0 hai
      obtain ⟨ad1, ea1, hx1⟩ := Kd.at_int (Kd.C_below HR1.out HB.out) (a + x) ha0 hai'
      cases ea; cases ea0; cases ea1
      go_wp2_with fail
      all_goals first
        | exact ⟨⟨x + 1, rfl, by omega, by omega, HO, HX, HB⟩, by simp [intOf]; omega⟩
        | (exfalso; clear HO HX HB; grind)
        | (exfalso; omega)
    · go_wp2_with fail
      refine (naskhlaw27_awake.calls 20 true _ (by decide +kernel)).mono ?_
      rintro e w2 ⟨rfl, hb⟩
      go_wp2
      go_ret
      exact ⟨rfl, below_step HB.out hb⟩


set_option maxHeartbeats 1000000 in
set_option maxRecDepth 100000 in
theorem outside (A0 : Option Addr) (c0 : Nat) (l0 : List Int) (A1 : Option Addr) (c1 : Nat) (l1 : List Int) (a b c : Int) (w : World) (hm0 : l0.length ≤ maxLen) (hm1 : l1.length ≤ maxLen)
   (g : ¬ (l0.length ≤ 200 ∧ l0.length = l1.length ∧ 0 ≤ a ∧ a < b ∧ b ≤ l0.length)) :
    Calls Try.prog 4 #[.slice A0 l0.length c0, .slice A1 l1.length c1, .agg #[.int .i64 a, .int .i64 b], .int .i64 c] w fun e w' => e = .returned (.bool true) ∧ Below w.heap.size w w' := by
  have hu24 := Try.underlying24
  unfold maxLen at hm0 hm1
  by_cases g1 : (200 : Int) < (l0.length : Int)
  · have b1 : decide (200 < (l0.length : Int)) = true := decide_eq_true g1
    have b1' : decide (200 < l0.length) = true := decide_eq_true (by omega)
    clear g1 g
    go_enter Try.func4, Try.ntmps4
    go_wp2_with fail
    refine (naskhlaw27_awake.calls 20 true _ (by decide +kernel)).mono ?_
    rintro e w2 ⟨rfl, hb⟩
    go_wp2
    go_ret
    exact ⟨rfl, below_step (below_alloc (Below.refl _ _) _) hb⟩
  have b1 : decide (200 < (l0.length : Int)) = false := decide_eq_false g1
  have b1' : decide (200 < l0.length) = false := decide_eq_false (by omega)
  by_cases g2 : l0.length = l1.length
  case neg =>
    have b2 : (l0.length == l1.length) = false := by simpa using g2
    have b2' : ((l0.length : Int) != (l1.length : Int)) = true := by simp; omega
    clear g1 g2 g
    go_enter Try.func4, Try.ntmps4
    go_wp2_with fail
    refine (naskhlaw27_awake.calls 20 true _ (by decide +kernel)).mono ?_
    rintro e w2 ⟨rfl, hb⟩
    go_wp2
    go_ret
    exact ⟨rfl, below_step (below_alloc (Below.refl _ _) _) hb⟩
  have b2 : (l0.length == l1.length) = true := by simpa using g2
  have b2' : ((l0.length : Int) != (l1.length : Int)) = false := by simp [g2]
  by_cases g3 : a < 0
  · have b3 : decide (a < 0) = true := decide_eq_true g3
    clear g1 g2 g3 g
    go_enter Try.func4, Try.ntmps4
    go_wp2_with fail
    refine (naskhlaw27_awake.calls 20 true _ (by decide +kernel)).mono ?_
    rintro e w2 ⟨rfl, hb⟩
    go_wp2
    go_ret
    exact ⟨rfl, below_step (below_alloc (Below.refl _ _) _) hb⟩
  have b3 : decide (a < 0) = false := decide_eq_false g3
  by_cases g4 : b ≤ a
  · have b4 : decide (b ≤ a) = true := decide_eq_true g4
    clear g1 g2 g3 g4 g
    go_enter Try.func4, Try.ntmps4
    go_wp2_with fail
    refine (naskhlaw27_awake.calls 20 true _ (by decide +kernel)).mono ?_
    rintro e w2 ⟨rfl, hb⟩
    go_wp2
    go_ret
    exact ⟨rfl, below_step (below_alloc (Below.refl _ _) _) hb⟩
  have b4 : decide (b ≤ a) = false := decide_eq_false g4
  have g5 : (l0.length : Int) < b := by omega
  have b5 : decide ((l0.length : Int) < b) = true := decide_eq_true g5
  clear g1 g2 g3 g4 g5 g
  go_enter Try.func4, Try.ntmps4
  go_wp2_with fail
  refine (naskhlaw27_awake.calls 20 true _ (by decide +kernel)).mono ?_
  rintro e w2 ⟨rfl, hb⟩
  go_wp2
  go_ret
  exact ⟨rfl, below_step (below_alloc (Below.refl _ _) _) hb⟩

open PureResolveLine in
theorem tail_get (c l : List Int) (base : Int) (n : Nat) : ∀ i j, j < n → (tailOf c l base i n).getD j 0 = lev c l base (i + j) (n - j) := by
  induction n with
  | zero => intro i j h; omega
  | succ n ih =>
    intro i j h
    cases j with
    | zero => rfl
    | succ j =>
      have := ih (i + 1) j (by omega)
      rw [show i + 1 + j = i + (j + 1) by omega] at this
      rw [show n + 1 - (j + 1) = n - j by omega, ← this]
      rfl

open PureResolveLine in
theorem _root_.Go.Proofs.Ytfkgjoflekemaaa.resolveStaysWalk (l0 l1 : List Int) (a b c : Int) (w : World) (A0 : Option Addr) (c0 : Nat) (hr0 : Kd.C (Kd.int .i64) w A0 l0.length l0) (hc0 : l0.length ≤ c0) (hm0 : l0.length ≤ maxLen) (_ : l0.length * 8 ≤ 140737488351232) (_ : ∀ x ∈ l0, (Lit.int .i64 x).wf = true)
    (A1 : Option Addr) (c1 : Nat) (hr1 : Kd.C (Kd.int .i64) w A1 l1.length l1) (hc1 : l1.length ≤ c1) (hm1 : l1.length ≤ maxLen) (_ : l1.length * 8 ≤ 140737488351232) (_ : ∀ x ∈ l1, (Lit.int .i64 x).wf = true) (_ : (Lit.int .i64 a).wf = true) (_ : (Lit.int .i64 b).wf = true) (_ : (Lit.int .i64 c).wf = true) :
    Calls Try.prog 4 #[.slice A0 l0.length c0, .slice A1 l1.length c1, .agg #[.int .i64 a, .int .i64 b], .int .i64 c] w fun e w' => e = .returned (.bool true) ∧ Below w.heap.size w w' := by
  by_cases g : l0.length ≤ 200 ∧ l0.length = l1.length ∧ 0 ≤ a ∧ a < b ∧ b ≤ l0.length
  · obtain ⟨g1, g2, g3, g4, g5⟩ := g
    obtain ⟨k, hk⟩ := (line_ev l0 l1 a b c (by omega)).rounds
    have hs : spec l0 l1 a b c = tailOf l0 l1 c a.toNat (b.toNat - a.toNat) := by unfold spec; rw [if_pos ⟨g2, g3, g4, by omega⟩]
    have hlen : (spec l0 l1 a b c).length = b.toNat - a.toNat := by rw [hs, tailOf_length]
    have hget : ∀ x : Int, 0 ≤ x → x < (spec l0 l1 a b c).length → rd (spec l0 l1 a b c) x = lev l0 l1 c (a + x).toNat (b.toNat - (a + x).toNat) := by
      intro x h0 h1
      unfold rd
      rw [hs, tail_get _ _ _ _ _ _ (by omega)]
      congr 1 <;> omega
    have hlev : ∀ (i n : Nat), lev l0 l1 c i n = if endsN l0 i n then c else rd l1 i := by
      intro i n; unfold lev; rw [rd_nat]
    refine inside k _ A0 c0 l0 A1 c1 l1 a b c w hr0 hc0 hr1 hc1 (by omega) g2 g3 g4 g5 hk (by omega) (fun x h0 h1 => ?_) (fun x h0 h1 hh => ?_)
    · rw [hget x h0 h1, hlev, show ((a + x).toNat : Int) = a + x by omega]
      split
      · exact .inr rfl
      · exact .inl rfl
    · rw [hget x h0 h1, hlev, show ((a + x).toNat : Int) = a + x by omega, if_neg]
      obtain ⟨n, hn⟩ : ∃ n, b.toNat - (a + x).toNat = n + 1 := ⟨b.toNat - (a + x).toNat - 1, by omega⟩
      rw [hn, endsN, ← rd_nat, show ((a + x).toNat : Int) = a + x by omega]
      have hk : kind (rd l0 (a + x)) = 0 := by
        unfold kind
        rcases hh with h | h | h | h | h <;> rw [h] <;> decide
      rw [hk]
      simp
  · exact outside A0 c0 l0 A1 c1 l1 a b c w hm0 hm1 g
end Go.Proofs.Ytfkgjoflekemaaa.WalkResolveStays
