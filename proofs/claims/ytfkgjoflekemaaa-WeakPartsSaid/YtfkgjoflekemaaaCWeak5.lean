/- All of the weak steps, one behind the other: walked. -/
import Derived.Test.YtfkgjoflekemaaaCWeak4
namespace Go.Proofs.Ytfkgjoflekemaaa.CWeak
open Go.RowKit Go.Proofs.YtfkgjoflekemaaaW.PrintWords Go.Proofs.YtfkgjoflekemaaaW.PrintMore Go.Proofs.YtfkgjoflekemaaaW.PrintLast Go.Proofs.Ytfkgjoflekemaaa.U Go.Proofs.Ytfkgjoflekemaaa.CBase Go.Proofs.Ytfkgjoflekemaaa.CInsert
def t1 (s : Int) (l : List Int) : List Int := eachL o1 o1 s l
def t2 (s : Int) (l : List Int) : List Int := eachL o2 nx2 s (t1 s l)
def t3 (s : Int) (l : List Int) : List Int := eachL o3 (fun s _ => s) 0 (t2 s l)
def t4 (s : Int) (l : List Int) : List Int := w4L (t3 s l)
def t5 (s : Int) (l : List Int) : List Int := w5L (t4 s l)
def t6 (s : Int) (l : List Int) : List Int := eachL o6 (fun s _ => s) 0 (t5 s l)
def t7 (s : Int) (l : List Int) : List Int := eachL o7 nx7 s (t6 s l)
def steps (s : Int) (l : List Int) : Nat → List Int
  | 0 => l | 1 => t1 s l | 2 => t2 s l | 3 => t3 s l | 4 => t4 s l | 5 => t5 s l | 6 => t6 s l | _ => t7 s l
abbrev allW (s : Int) (l : List Int) : List Int := t7 s l
theorem eachL_length (o nx : Int → Int → Int) (s : Int) (l : List Int) : (eachL o nx s l).length = l.length := by simp [eachL]
theorem t1_length (s : Int) (l : List Int) : (t1 s l).length = l.length := eachL_length _ _ _ _
theorem t2_length (s : Int) (l : List Int) : (t2 s l).length = l.length := (eachL_length _ _ _ _).trans (t1_length s l)
theorem t3_length (s : Int) (l : List Int) : (t3 s l).length = l.length := (eachL_length _ _ _ _).trans (t2_length s l)
theorem t4_length (s : Int) (l : List Int) : (t4 s l).length = l.length := (show (w4L (t3 s l)).length = (t3 s l).length by simp [w4L]).trans (t3_length s l)
theorem t5_length (s : Int) (l : List Int) : (t5 s l).length = l.length := (show (w5L (t4 s l)).length = (t4 s l).length by simp [w5L]).trans (t4_length s l)
theorem t6_length (s : Int) (l : List Int) : (t6 s l).length = l.length := (eachL_length _ _ _ _).trans (t5_length s l)
theorem t7_length (s : Int) (l : List Int) : (t7 s l).length = l.length := (eachL_length _ _ _ _).trans (t6_length s l)
def gf : Nat → Nat
  | 0 => 72 | 1 => 72 | 2 => 76 | 3 => 77 | 4 => 78 | 5 => 79 | _ => 72
abbrev pt (b : Nat) : Value := .pointer (some ⟨b, 0, none⟩)
def cbs (B : Nat) : Nat → Array Value
  | 0 => #[pt (B + 1), pt B] | 1 => #[pt (B + 1 + 1), pt B] | 2 => #[] | 3 => #[] | 4 => #[] | 5 => #[] | _ => #[pt (B + 1 + 1 + 1), pt B]
theorem gf_eg (k : Nat) : ∀ args w, (callFunc (gf k) args).run Try.prog w = .ok (.enter (gf k) args) w := by
  have h72 : ∀ args w, (callFunc 72 args).run Try.prog w = .ok (.enter 72 args) w := enters_of Try.func72 (by kernel_rfl) rfl
  match k with
  | 0 => exact h72
  | 1 => exact h72
  | 2 => exact enters_of Try.func76 (by kernel_rfl) rfl
  | 3 => exact enters_of Try.func77 (by kernel_rfl) rfl
  | 4 => exact enters_of Try.func78 (by kernel_rfl) rfl
  | 5 => exact enters_of Try.func79 (by kernel_rfl) rfl
  | k + 6 => exact h72
theorem seven_c (W0 : World) (xs : Array Value) (t : TypeId) (B : Nat) (hB : W0.heap.size = B) (k : Nat) (v : Value) (h : xs[k]? = some v) : (W0.alloc (.cells xs t (0, 0))).cell? ((⟨B, 0, none⟩ : Addr).add k) = some v := by
  subst hB
  have := (blk_cell (blk_new W0 (.cells xs t (0, 0))) k).trans h
  cases k <;> simpa [Addr.add] using this
theorem seven_cb (B : Nat) (k : Nat) (hk : k < 7) : (#[.func (.func 72) #[] #[pt (B + 1), pt B], .func (.func 72) #[] #[pt (B + 1 + 1), pt B], .func (.func 76) #[] #[], .func (.func 77) #[] #[], .func (.func 78) #[] #[], .func (.func 79) #[] #[], .func (.func 72) #[] #[pt (B + 1 + 1 + 1), pt B]] : Array Value)[k]? = some (.func (.func (gf k)) #[] (cbs B k)) := by
  match k, hk with
  | 0, _ => rfl
  | 1, _ => rfl
  | 2, _ => rfl
  | 3, _ => rfl
  | 4, _ => rfl
  | 5, _ => rfl
  | 6, _ => rfl
theorem step0 {B : Nat} {v : Value} {l : List Int} {w : World} (s : Int) (h : SL w v l) (hm : l.length ≤ 1000000) (c0 : w.cell? ⟨B, 0, none⟩ = some (.int .i64 s)) (c1 : w.cell? ⟨B + 1, 0, none⟩ = some (.func (.func 74) #[] #[])) : Calls Try.prog 72 #[v, pt (B + 1), pt B] w fun e w' => ∃ u, e = .returned u ∧ SL w' u (t1 s l) ∧ Below w.heap.size w w' :=
  f72_c 74 (enters_of Try.func74 (by kernel_rfl) rfl) t1 (fun s v l w h hm => w1_c s h hm) h hm s _ _ c1 c0
theorem step1 {B : Nat} {v : Value} {l : List Int} {w : World} (s : Int) (h : SL w v (t1 s l)) (hm : l.length ≤ 1000000) (c0 : w.cell? ⟨B, 0, none⟩ = some (.int .i64 s)) (c1 : w.cell? ⟨B + 1 + 1, 0, none⟩ = some (.func (.func 75) #[] #[])) : Calls Try.prog 72 #[v, pt (B + 1 + 1), pt B] w fun e w' => ∃ u, e = .returned u ∧ SL w' u (t2 s l) ∧ Below w.heap.size w w' :=
  f72_c 75 (enters_of Try.func75 (by kernel_rfl) rfl) (fun s l => eachL o2 nx2 s l) (fun s v l w h hm => w2_c s h hm) h (by rw [t1_length]; exact hm) s _ _ c1 c0
theorem step6 {B : Nat} {v : Value} {l : List Int} {w : World} (s : Int) (h : SL w v (t6 s l)) (hm : l.length ≤ 1000000) (c0 : w.cell? ⟨B, 0, none⟩ = some (.int .i64 s)) (c1 : w.cell? ⟨B + 1 + 1 + 1, 0, none⟩ = some (.func (.func 80) #[] #[])) : Calls Try.prog 72 #[v, pt (B + 1 + 1 + 1), pt B] w fun e w' => ∃ u, e = .returned u ∧ SL w' u (t7 s l) ∧ Below w.heap.size w w' :=
  f72_c 80 (enters_of Try.func80 (by kernel_rfl) rfl) (fun s l => eachL o7 nx7 s l) (fun s v l w h hm => w7_c s h hm) h (by rw [t6_length]; exact hm) s _ _ c1 c0
theorem steps_c {B : Nat} {l : List Int} {w : World} (s : Int) (hm : l.length ≤ 1000000) (c0 : w.cell? ⟨B, 0, none⟩ = some (.int .i64 s)) (c1 : w.cell? ⟨B + 1, 0, none⟩ = some (.func (.func 74) #[] #[])) (c2 : w.cell? ⟨B + 1 + 1, 0, none⟩ = some (.func (.func 75) #[] #[])) (c3 : w.cell? ⟨B + 1 + 1 + 1, 0, none⟩ = some (.func (.func 80) #[] #[])) :
    ∀ (k : Nat), k < 7 → ∀ v, SL w v (steps s l k) → Calls Try.prog (gf k) (#[v] ++ cbs B k) w fun e w' => ∃ u, e = .returned u ∧ SL w' u (steps s l (k + 1)) ∧ Below w.heap.size w w' := by
  intro k hk v hv
  obtain rfl | rfl | rfl | rfl | rfl | rfl | rfl : k = 0 ∨ k = 1 ∨ k = 2 ∨ k = 3 ∨ k = 4 ∨ k = 5 ∨ k = 6 := by omega
  · exact step0 s hv hm c0 c1
  · exact step1 s hv hm c0 c2
  · exact w3_c hv (by rw [t2_length]; exact hm)
  · exact w4_c hv (by rw [t3_length]; exact hm)
  · exact w5_c hv (by rw [t4_length]; exact hm)
  · exact w6_c hv (by rw [t5_length]; exact hm)
  · exact step6 s hv hm c0 c3
theorem all_tail {B : Nat} {v : Value} {l : List Int} {W : World} (ad : Addr) (s : Int) (h : SL W v l) (hm : l.length ≤ 1000000) (c0 : W.cell? ⟨B, 0, none⟩ = some (.int .i64 s)) (c1 : W.cell? ⟨B + 1, 0, none⟩ = some (.func (.func 74) #[] #[])) (c2 : W.cell? ⟨B + 1 + 1, 0, none⟩ = some (.func (.func 75) #[] #[])) (c3 : W.cell? ⟨B + 1 + 1 + 1, 0, none⟩ = some (.func (.func 80) #[] #[]))
    (cc : ∀ k, k < 7 → W.cell? (ad.add k) = some (.func (.func (gf k)) #[] (cbs B k))) : Calls Try.prog 73 #[v, .slice (some ad) 7 7] W fun e w' => ∃ u, e = .returned u ∧ SL w' u (t7 s l) ∧ Below W.heap.size W w' := by
  have up : ∀ (a : Addr) (u : Value) (wx : World), Below W.heap.size W wx → W.cell? a = some u → wx.cell? a = some u := fun a u wx hb hc => (hb.cell (World.block_lt_of_cell? W _ hc)).trans hc
  exact through_c (n := 7) ad gf (cbs B) (steps s l) h (by omega) gf_eg cc (fun k hk v wx hb hv => steps_c s hm (up _ _ _ hb c0) (up _ _ _ hb c1) (up _ _ _ hb c2) (up _ _ _ hb c3) k hk v hv)
set_option maxHeartbeats 1000000 in
theorem all_c {v : Value} {l : List Int} {w : World} (s : Int) (h : SL w v l) (hm : l.length ≤ 1000000) : Calls Try.prog 36 #[v, .int .i64 s] w fun e w' => ∃ u, e = .returned u ∧ SL w' u (allW s l) ∧ Below w.heap.size w w' := by
  have H := Aside0.mk h
  obtain ⟨A, c, rfl, _, _⟩ := h
  go_enter Try.func36, Try.ntmps36
  go_wp2_with fail
  refine (with_c _ _ _).mono ?_
  rintro e w1 ⟨rfl, rfl⟩
  go_wp2_with fail
  refine (with_c _ _ _).mono ?_
  rintro e w1 ⟨rfl, rfl⟩
  go_wp2_with fail
  refine (with_c _ _ _).mono ?_
  rintro e w1 ⟨rfl, rfl⟩
  go_wp2_with fail
  generalize hWA : World.alloc _ _ = W
  have HB : Aside0 (Below w.heap.size w W) := ⟨by rw [← hWA]; exact below_alloc (below_alloc (below_alloc (below_alloc (below_alloc (Below.refl _ _) _) _) _) _) _⟩
  have HSL := Aside0.mk (SLk.below H.out HB.out)
  have c0 : W.cell? ⟨w.heap.size, 0, none⟩ = some (.int .i64 s) := by rw [← hWA]; simp [go_sem]
  have c1 : W.cell? ⟨w.heap.size + 1, 0, none⟩ = some (.func (.func 74) #[] #[]) := by rw [← hWA]; simp [go_sem]
  have c2 : W.cell? ⟨w.heap.size + 1 + 1, 0, none⟩ = some (.func (.func 75) #[] #[]) := by rw [← hWA]; simp [go_sem]
  have c3 : W.cell? ⟨w.heap.size + 1 + 1 + 1, 0, none⟩ = some (.func (.func 80) #[] #[]) := by rw [← hWA]; simp [go_sem]
  have cc : ∀ k, k < 7 → W.cell? ((⟨w.heap.size + 1 + 1 + 1 + 1, 0, none⟩ : Addr).add k) = some (.func (.func (gf k)) #[] (cbs w.heap.size k)) := fun k hk => by
    rw [← hWA]
    exact seven_c _ _ _ _ (by simp only [World.size_alloc]) k _ (seven_cb w.heap.size k hk)
  have C0 := Aside0.mk c0
  have C1 := Aside0.mk c1
  have C2 := Aside0.mk c2
  have C3 := Aside0.mk c3
  have CC := Aside0.mk cc
  clear c0 c1 c2 c3 cc
  refine (all_tail ⟨w.heap.size + 1 + 1 + 1 + 1, 0, none⟩ s HSL.out hm C0.out C1.out C2.out C3.out CC.out).mono ?_
  · rintro e w2 ⟨u, rfl, hu, hb⟩
    have HU := Aside0.mk hu
    have HB2 := Aside0.mk (below_step HB.out hb)
    clear hu hb
    go_wp2
    go_ret
    exact ⟨_, rfl, HU.out, HB2.out⟩
theorem awake_list : allW 0 [2, 3, 8] = [1, 6, 6] := by decide
set_option maxHeartbeats 1000000 in
theorem awake_c (w : World) : Calls Try.prog 35 #[] w fun e w' => e = .returned (.bool true) ∧ Below w.heap.size w w' := by
  go_enter Try.func35, Try.ntmps35
  go_wp2_with fail
  refine (all_c (l := [2, 3, 8]) 0 (SL_lit w 3 [2, 3, 8] (by decide)) (by decide)).mono ?_
  rintro e w1 ⟨u, rfl, hu, hb⟩
  rw [awake_list] at hu
  have HU := Aside0.mk hu
  have HB := Aside0.mk (below_step (below_alloc (Below.refl _ _) _) hb)
  clear hu hb
  go_wp2_with fail
  refine (equal_c (SLk.below HU.out (below_alloc (Below.refl _ _) _)) (SL_lit w1 3 [1, 6, 6] (by decide)) (by decide)).mono ?_
  rintro e w2 ⟨rfl, hb⟩
  have HB2 := Aside0.mk (below_step (below_alloc HB.out _) hb)
  clear hb
  rw [decide_eq_true rfl]
  go_wp2
  go_ret
  exact ⟨rfl, HB2.out⟩
end Go.Proofs.Ytfkgjoflekemaaa.CWeak
