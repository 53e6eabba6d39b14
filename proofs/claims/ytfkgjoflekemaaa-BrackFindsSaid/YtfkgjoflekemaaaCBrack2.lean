/- brack.Find: the sort by the shelf's contract, and the walk of the loop. -/
import Derived.Shelf.SlSortCmp.WholeK
import Derived.Shelf.SlSortCmp.NoneTotal
import Derived.Shelf.SlicesG.Cmp
import Derived.Ground.SlgcProg
import Derived.Ground.SlsfProg
import Derived.Test.YtfkgjoflekemaaaCBrack1
import Derived.Test.YtfkgjoflekemaaaCInsert
import Derived.WalkMore
namespace Go.Proofs.Ytfkgjoflekemaaa.CBrack
open Go.RowKit Go.Proofs.YtfkgjoflekemaaaW.PrintWords Go.Proofs.YtfkgjoflekemaaaW.PrintMore Go.Proofs.Ytfkgjoflekemaaa.U Go.Proofs.Ytfkgjoflekemaaa.PBrackFinds Go.Proofs.Ytfkgjoflekemaaa.UBrack Go.Proofs.Ytfkgjoflekemaaa.CBase
open Go.Shelf
set_option linter.unusedVariables false
set_option linter.unusedSimpArgs false
shelf_lay_g SlLaysF0.n6 Slsf 6 at Try 102 as lsort
shelf_lay_g SlLaysC2.n5 Slgc 5 at Try 104 as lcmp
instance : Inhabited S58 := ⟨z58⟩
def enc58 (x : S58) : List Value := [.int .i64 x.f0, .int .i64 x.f1]
def cf58 (x y : S58) : Int := Lib.compareInt x.f0 y.f0
theorem lt58 (x y : S58) : ltOf cf58 x y = decide (x.f0 < y.f0) := by
  unfold ltOf cf58 Lib.compareInt
  by_cases h1 : x.f0 < y.f0
  · simp [h1]
  · by_cases h2 : y.f0 < x.f0 <;> simp [h1, h2]
theorem swo58 : Go.Sort.SWO (ltOf cf58) where
  irrefl x := by rw [lt58]; simp
  trans x y z h1 h2 := by rw [lt58] at *; simp at *; omega
  ntrans x y z h1 h2 := by rw [lt58] at *; simp at *; omega
set_option maxHeartbeats 1000000 in
theorem closure103 (x y : S58) (W : World) : Calls Try.prog 103 #[.agg #[.int .i64 x.f0, .int .i64 x.f1], .agg #[.int .i64 y.f0, .int .i64 y.f1]] W fun e w' => e = .returned (.int .i64 (cf58 x y)) ∧ ∃ q os', w' = Go.Sort.grow (W.drewN q) os' := by
  have hcon := fun W' => AnyG.cmp_Compare_int lcmp x.f0 y.f0 W'
  change ∀ W', Calls Try.prog 104 _ _ _ at hcon
  unfold cf58
  generalize Lib.compareInt x.f0 y.f0 = r at hcon ⊢
  go_enter Try.func103, Try.ntmps103
  go_wp2_with (go_at_call 104; refine (hcon _).mono ?_; rintro e w' ⟨rfl, rfl⟩)
  go_ret
  exact ⟨rfl, 0, _, by rw [Go.Sort.alloc_eq_grow, Go.Sort.alloc_eq_grow, Go.Sort.grow_grow]; rfl⟩
theorem size_put58 (w : World) (g : Nat) (d : Array S58) : (Go.Sort.putRowK enc58 2 w g 0 d).heap.size = w.heap.size := by simp [Go.Sort.putRowK, Go.Sort.putRow, Go.Sort.mapBlock]
theorem below_sorted {B : Nat} {w0 w : World} {g n : Nat} {d : Array S58} {os : Array Obj} (h : Below B w0 w) (hB : B ≤ w0.heap.size) (hg : B ≤ g) : Below B w0 (sortWorldK enc58 2 w g 0 n d os) := by
  have h1 : (Go.Sort.putRowK enc58 2 (Go.Sort.ahead w n) g 0 d).heap.size = w.heap.size := size_put58 _ g d
  refine ⟨h.os, h.tape, h.output, ?_, fun k hk => ?_⟩
  · unfold sortWorldK
    rw [Go.Sort.size_grow, h1]
    have := h.size
    omega
  · have hkw : w0.heap[k]? = w.heap[k]? := (h.block k hk).symm
    have hlt : k < w.heap.size := Nat.lt_of_lt_of_le (Nat.lt_of_lt_of_le hk hB) h.size
    rw [hkw]
    unfold sortWorldK
    rw [Go.Sort.heap_grow_old _ _ (by rw [h1]; exact hlt)]
    unfold Go.Sort.putRowK Go.Sort.putRow Go.Sort.mapBlock
    show ((Go.Sort.ahead w n).heap.modify g _)[k]? = _
    rw [Array.getElem?_modify, if_neg (by omega)]
    rfl
theorem get58 (f : List S58) (i : Nat) (h : i < f.length) : (f.toArray[i]! : S58) = rd_T58 f i := by
  rw [rd58_get h, getElem!_pos f.toArray i (by simpa using h)]
  simp
theorem enc_at (x : S58) (j : Nat) : (enc58 x)[j]! = if j = 0 then .int .i64 x.f0 else if j = 1 then .int .i64 x.f1 else default := by
  match j with
  | 0 => rfl
  | 1 => rfl
  | j + 2 => rfl
theorem holds58 {w : World} {base : Nat} {ok : Nat → Prop} {g cap : Nat} {f : List S58} (h : Kd.R k58 58 w base ok (.slice (some ⟨g, 0, none⟩) f.length cap) f) : Go.Sort.HoldsK enc58 2 w g 0 f.toArray := by
  intro t ht
  rw [Go.Sort.size_flatK] at ht
  have ht' : t < f.length * 2 := by simpa using ht
  rw [Go.Sort.get_flatK _ _ _ t ht, get58 f (t / 2) (by omega), enc_at]
  obtain ⟨c, hc, hM, hcell, hfr⟩ := Kd.R_elem h z58 ((t / 2 : Nat) : Int) (by omega) (by omega)
  obtain rfl := k58_openM hM
  rw [Int.toNat_natCast] at hcell hfr
  have hsz : k58.sz = 2 := rfl
  rw [hsz] at hcell hfr
  rw [Nat.zero_add]
  rcases Nat.mod_two_eq_zero_or_one t with e | e
  · have e2 : t / 2 * 2 + 0 = t := by omega
    have h1 := hcell 0 _ rfl
    have h2 := hfr 0
    rw [e2] at h1 h2
    rw [e]
    exact ⟨h1, h2⟩
  · have e2 : t / 2 * 2 + 1 = t := by omega
    have h1 := hcell 1 _ rfl
    have h2 := hfr 1
    rw [e2] at h1 h2
    rw [e]
    exact ⟨h1, h2⟩
theorem reads58 {w : World} {g cap : Nat} {d : Array S58} (h : Go.Sort.HoldsK enc58 2 w g 0 d) (hc : d.size ≤ cap) (hm : d.size ≤ 1000000) : SLk k58 w (.slice (some ⟨g, 0, none⟩) d.toList.length cap) d.toList := by
  refine ⟨_, _, rfl, by simpa using hc, rfl, by simp; omega, fun hn => ⟨_, rfl, fun j p hj => ?_⟩⟩
  obtain ⟨hl, hp⟩ := List.getElem?_eq_some_iff.1 hj
  have hl' : j < d.size := by simpa using hl
  have hg : ∀ i, i < 2 → w.cell? ⟨g, j * 2 + i, none⟩ = some ((enc58 p)[i]!) := fun i hi => by
    have h1 := (h (j * 2 + i) (by rw [Go.Sort.size_flatK]; omega)).1
    rw [Nat.zero_add, Go.Sort.get_flatK _ _ _ _ (by omega), show (j * 2 + i) / 2 = j by omega, show (j * 2 + i) % 2 = i by omega, getElem!_pos d j hl'] at h1
    have e : d[j] = p := by simpa using hp
    rw [e] at h1
    exact h1
  refine ⟨_, rfl, k58_mk w p, fun i u hu => ?_⟩
  have ea : (⟨g, 0, none⟩ : Addr).add (j * k58.sz + i) = ⟨g, j * 2 + i, none⟩ := by rw [add_plain]; rfl
  rw [ea]
  match i, hu with
  | 0, hu => obtain rfl := Option.some.inj hu; exact hg 0 (by omega)
  | 1, hu => obtain rfl := Option.some.inj hu; exact hg 1 (by omega)
theorem sort_c {w : World} {base : Nat} {ok : Nat → Prop} {v : Value} {f : List S58} (h : Kd.R k58 58 w base ok v f) (hb : base ≤ w.heap.size) (hm : f.length ≤ 1000000) :
    Calls Try.prog 102 #[v, .func (.func 103) #[] #[]] w fun e w' => e = .returned (.tuple #[]) ∧ ∃ d : List S58, d.Perm f ∧ d.Pairwise (fun a b => ¬ b.f0 < a.f0) ∧ SLk k58 w' v d ∧ Below base w w' := by
  by_cases h0 : 0 < f.length
  · obtain ⟨g, cap, rfl, hg, hgs, _⟩ := Kd.R_form h h0
    have hH := holds58 h
    obtain ⟨_, hcap, _⟩ := Kd.R_reads' h
    have hcon := AnyQ.slices_SortFunc lsort 2 Try.isAgg58 Try.sizeOf58 enc58 (fun _ => rfl) (fun x v hv => by simp [enc58] at hv; rcases hv with rfl | rfl <;> rfl) cf58 swo58 103 #[] g 0 cap f.toArray w (enters_of Try.func103 (by kernel_rfl) rfl) (fun _ _ _ _ x y => closure103 x y _) hH hgs (by simp; omega)
    refine hcon.mono ?_
    rintro e w' ⟨rfl, d', n, os, hp, hs, rfl⟩
    have hsz : d'.size = f.length := by simpa using hp.1
    have hpm : d'.toList.Perm f := by
      have := hp.2.2
      have e : List.take f.length d'.toList = d'.toList := List.take_of_length_le (by simp [hsz])
      have h2 : (List.take f.length d'.toList).Perm f := by simpa [hsz] using this
      rwa [e] at h2
    refine ⟨rfl, d'.toList, hpm, ?_, ?_, below_sorted (Below.refl _ _) hb hg⟩
    · rw [List.pairwise_iff_getElem]
      intro i j hi hj hij
      have := hs i j (Nat.zero_le _) hij (by simpa [hsz] using hj)
      rw [lt58, getElem!_pos d' i (by simpa using hi), getElem!_pos d' j (by simpa using hj)] at this
      simpa using this
    · have := reads58 (cap := cap) (holdsK_sortWorldK enc58 2 w g 0 n f.toArray d' os hgs hH (by simpa using hsz)) (by omega) (by omega)
      rw [show d'.toList.length = f.length by simpa using hsz] at this
      exact this
  · obtain rfl : f = [] := List.eq_nil_of_length_eq_zero (by omega)
    obtain ⟨A, c, rfl⟩ := Kd.R_slice h
    refine (AnyF.slices_SortFunc_none lsort A c _ w).mono ?_
    rintro e w' ⟨rfl, rfl⟩
    exact ⟨rfl, [], List.Perm.refl _, List.Pairwise.nil, SLk.of_R h, Below.refl _ _⟩
theorem info93 : (Try.prog.info? 93).map (fun i => (i.zero, i.size, i.bytes)) = some (some (.agg #[(.int .i64 0), (.int .i64 0)]), 2, 16) := by kernel_rfl
theorem hi93x : ∃ i, Try.prog.info? 93 = some i := by
  have h := info93
  cases hi : Try.prog.info? 93 with
  | none => rw [hi] at h; cases h
  | some i => exact ⟨i, rfl⟩
theorem e58 : ∀ q, q ∈ 58 :: k58.E → q ≠ 93 := fun q hq => by
  rcases List.mem_cons.1 hq with rfl | hq
  · decide
  · cases hq
theorem e93 : ∀ q, q ∈ 93 :: k93.E → q ≠ 58 := fun q hq => by
  rcases List.mem_cons.1 hq with rfl | hq
  · decide
  · cases hq
theorem below_join {B : Nat} {a b c : World} (h : Below B a b) (h2 : Below B b c) : Below B a c := ⟨h2.os.trans h.os, h2.tape.trans h.tape, h2.output.trans h.output, Nat.le_trans h.size h2.size, fun k hk => (h2.block k hk).trans (h.block k hk)⟩
set_option maxRecDepth 100000 in
set_option maxHeartbeats 4000000 in
theorem find58_c {w : World} {vc vl : Value} {codes l : List Int} (hc : SL w vc codes) (hl : SL w vl l) (hm : codes.length ≤ 1000000) (hml : l.length ≤ 1000000) :
    Calls Try.prog 58 #[vc, vl] w fun e w' => ∃ u, e = .returned u ∧ SLk k58 w' u (findL codes l) ∧ Below w.heap.size w w' := by
  have HC := Aside0.mk hc
  have HL := Aside0.mk hl
  have HM := Aside0.mk hm
  obtain ⟨Ac, cc, rfl, _, _⟩ := hc
  obtain ⟨Al, cl, rfl, _, _⟩ := hl
  obtain ⟨i93, hi93⟩ := hi93x
  by_cases hlen : codes.length = l.length
  · have HF : Aside0 (findL codes l = srt [] (foundF codes l)) := ⟨if_pos hlen⟩
    have hne : ((codes.length : Int) != (l.length : Int)) = false := by simp; omega
    have HLEN := Aside0.mk hlen
    clear hlen
    go_enter Try.func58, Try.ntmps58
    go_wp2
    go_step3
    go_wp2
    go_step3
    go_wp2
    go_loopw [5, 6, 19] (fun v5 v6 v wr => ∃ (k : Nat) (f : List S58) (ws : List S93), v = .int .i64 k ∧ k ≤ codes.length ∧ f.length ≤ k ∧ ws.length ≤ k ∧ Aside0 (UBrack.runF codes l (codes.length - k) k f ws = foundF codes l) ∧ Aside0 (Kd.R k58 58 wr w.heap.size (fun _ => True) v5 f) ∧ Aside0 (Kd.R k93 93 wr w.heap.size (fun _ => True) v6 ws) ∧ Aside0 (Below w.heap.size w wr)) (fun _ _ v _ => codes.length - (intOf v).toNat)
    case atStart => exact ⟨0, [], [], rfl, Nat.zero_le _, Nat.zero_le _, Nat.zero_le _, ⟨rfl⟩, ⟨Kd.R_nil _ _ _ _ _⟩, ⟨Kd.R_nil _ _ _ _ _⟩, ⟨Below.refl _ _⟩⟩
    case round =>
      rename_i wr
      obtain ⟨k, f, ws, rfl, hk, hfk, hwk, HR, HF5, HW6, HB⟩ := hrel
      by_cases hlt : k < codes.length
      · obtain ⟨ad, c1, ea, hct⟩ := SLk.at_int (SLk.below HC.out HB.out) (k : Int) (by omega) (by omega)
        injection ea with e1 e2 e3
        subst e1
        simp only [Int.toNat_natCast] at hct
        clear e2 e3
        obtain ⟨ad2, c2, ea, hlt2⟩ := SLk.at_int (SLk.below HL.out HB.out) (k : Int) (by omega) (by have := HLEN.out; omega)
        injection ea with e1 e2 e3
        subst e1
        simp only [Int.toNat_natCast] at hlt2
        clear e2 e3
        have hkI : (k : Int) < (codes.length : Int) := by omega
        have hkL : (k : Int) < (l.length : Int) := by have := HLEN.out; omega
        have hru := HR.out
        rw [show codes.length - k = (codes.length - (k + 1)) + 1 by omega, UBrack.runF] at hru
        clear HR
        by_cases h13 : rd l (k : Int) = 13
        · have q13 : (rd l (k : Int) != 13) = false := by simpa using h13
          rw [if_pos h13] at hru
          have HR := Aside0.mk hru
          clear hru h13
          go_wp2_with fail
          refine (bracket_c (rd codes (k : Int)) _).mono ?_
          rintro e w1 ⟨rfl, hb⟩
          have HF51 := Aside0.mk (Kd.R_below HF5.out hb)
          have HW61 := Aside0.mk (Kd.R_below HW6.out hb)
          have HB1 := Aside0.mk (below_step HB.out hb)
          have hru := HR.out
          generalize brk (rd codes (k : Int)) = b at hru
          clear hb HF5 HW6 HB HR hct hlt2
          by_cases k1 : b.1 = 1
          · have hb1 : (b.1 == 1) = true := by simpa using k1
            rw [if_pos k1] at hru
            clear k1
            obtain ⟨W, cw, rfl⟩ := Kd.R_slice HW61.out
            by_cases h63 : ws.length = 63
            · have q63 : ((ws.length : Int) == 63) = true := by simp; omega
              rw [if_pos h63] at hru
              have HR := Aside0.mk hru
              clear hru h63
              go_wp2_with fail
              refine (sort_c HF51.out HB1.out.size (by omega)).mono ?_
              rintro e w2 ⟨rfl, d, hp, hs, hd, hb⟩
              have hd2 : d = srt [] (foundF codes l) := sorted_eq codes l d (by rw [← HR.out]; exact hp) hs
              rw [hd2, ← HF.out] at hd
              have HD := Aside0.mk hd
              have HB2 := Aside0.mk (below_join HB1.out hb)
              clear hp hs hd hb hd2
              go_wp2
              simp only [Exit.noGoto]
              go_ret
              exact ⟨_, rfl, HD.out, HB2.out⟩
            · have q63 : ((ws.length : Int) == 63) = false := by simp; omega
              rw [if_neg h63] at hru
              have HR := Aside0.mk hru
              clear hru h63
              go_wp2_with (first | ((with_reducible refine gate_builtin (b := .append) (xs := #[.tmp 40, .tmp 44]) rfl ?_); at_builtin; refine Kd.R_append k93 (w0 := w) w.heap.size rfl (.tmp 40) (.tmp 44) 89 93 (.agg #[.int .i64 0, .int .i64 0]) 16 rfl Try.underlying89 info93 rfl (by decide) (by omega) (.slice W ws.length cw) ws (⟨k, b.2⟩ : S93) [.int .i64 k, .int .i64 b.2] (fun _ => True) (fun _ => False) rfl rfl (k93_mkM _ _ _ _) (fun _ hk => hk.elim) (fun _ _ => trivial) HW61.out HB1.out HB1.out.size (by omega) ?_; intro v6 w2 hv hb hg hat; have HW62 := Aside0.mk hv; have HF52 := Aside0.mk (Kd.R_over HF51.out HW61.out e58 hg); have HB2 := Aside0.mk hb; clear hv hb hg hat HW61 HF51 HB1))
              exact ⟨⟨k + 1, f, ws ++ [⟨k, b.2⟩], by go_num, by omega, by omega, by simp; omega, ⟨HR.out⟩, HF52, HW62, HB2⟩, by simp [intOf]; omega⟩
          · have hb1 : (b.1 == 1) = false := by simpa using k1
            rw [if_neg k1] at hru
            clear k1
            by_cases k2 : b.1 = 2
            · have hb2 : (b.1 == 2) = true := by simpa using k2
              rw [if_pos k2] at hru
              have HR := Aside0.mk hru
              clear hru k2
              obtain ⟨W, cw, rfl⟩ := Kd.R_slice HW61.out
              go_wp2_with fail
              refine (lastWith_c b.2 (SLk.of_R HW61.out) (by omega)).mono ?_
              rintro e w2 ⟨rfl, hb⟩
              have HF52 := Aside0.mk (Kd.R_below HF51.out hb)
              have HW62 := Aside0.mk (Kd.R_below HW61.out hb)
              have HB2 := Aside0.mk (below_step HB1.out hb)
              have hru := HR.out
              clear hb HF51 HW61 HB1 HR
              rcases lastW_range ws b.2 with e | ⟨j, hj, e⟩
              · rw [e] at hru ⊢
                rw [if_neg (by decide)] at hru
                have HR := Aside0.mk hru
                clear hru e
                go_wp2_with fail
                exact ⟨⟨k + 1, f, ws, by go_num, by omega, by omega, by omega, ⟨HR.out⟩, HF52, HW62, HB2⟩, by simp [intOf]; omega⟩
              · rw [e] at hru ⊢
                rw [if_pos (by omega), Int.toNat_natCast] at hru
                have HR := Aside0.mk hru
                have hj0 : 0 ≤ (j : Int) := by omega
                have hj1 : (j : Int) < (ws.length : Int) := by omega
                clear hru e
                obtain ⟨ad3, rfl, g1, g2⟩ := at_T93 (Kd.R_reads' HW62.out).2.2 (j : Int) hj0 hj1
                rw [Int.toNat_natCast] at g1 g2
                have hcut := cut_to (P := Try.prog) 89 93 .i64 Try.underlying89 hi93 (some ad3) ws.length cw (j : Int) (by omega) (by omega) (Kd.R_reads' HW62.out).2.1
                rw [Int.toNat_natCast] at hcut
                go_wp2_with (first | ((with_reducible refine gate_builtin (b := .append) (xs := #[.tmp 53, .tmp 61]) rfl ?_); at_builtin; refine Kd.R_append k58 (w0 := w) w.heap.size rfl (.tmp 53) (.tmp 61) 56 58 (.agg #[.int .i64 0, .int .i64 0]) 16 rfl Try.underlying56 info58 rfl (by decide) (by omega) _ f (⟨(rd_T93 ws j).f0, k⟩ : S58) [.int .i64 (rd_T93 ws j).f0, .int .i64 k] (fun _ => True) (fun _ => False) rfl rfl (k58_mkM _ _ _ _) (fun _ hk => hk.elim) (fun _ _ => trivial) HF52.out HB2.out HB2.out.size (by omega) ?_; intro v5 w3 hv hb hg hat; have HF53 := Aside0.mk hv; have HW63 := Aside0.mk (Kd.R_take (m := j) (Kd.R_over HW62.out HF52.out e93 hg) (by omega)); have HB3 := Aside0.mk hb; clear hv hb hg hat HW62 HF52 HB2 g1 g2))
                exact ⟨⟨k + 1, _, _, by go_num, by omega, by simp; omega, by simp; omega, ⟨HR.out⟩, HF53, HW63, HB3⟩, by simp [intOf]; omega⟩
            · have hb2 : (b.1 == 2) = false := by simpa using k2
              rw [if_neg k2] at hru
              have HR := Aside0.mk hru
              clear hru k2
              go_wp2_with fail
              exact ⟨⟨k + 1, f, ws, by go_num, by omega, by omega, by omega, ⟨HR.out⟩, HF51, HW61, HB1⟩, by simp [intOf]; omega⟩
        · have q13 : (rd l (k : Int) != 13) = true := by simpa using h13
          rw [if_neg h13] at hru
          have HR := Aside0.mk hru
          clear hru h13
          go_wp2_with fail
          exact ⟨⟨k + 1, f, ws, by go_num, by omega, by omega, by omega, ⟨HR.out⟩, HF5, HW6, HB⟩, by simp [intOf]; omega⟩
      · have hke : k = codes.length := by omega
        have hru := HR.out
        rw [show codes.length - k = 0 by omega, UBrack.runF] at hru
        clear HR
        have HR := Aside0.mk hru
        clear hru
        have hkI : ¬ ((k : Int) < (codes.length : Int)) := by omega
        go_wp2_with fail
        refine (sort_c HF5.out HB.out.size (by omega)).mono ?_
        rintro e w2 ⟨rfl, d, hp, hs, hd, hb⟩
        have hd2 : d = srt [] (foundF codes l) := sorted_eq codes l d (by rw [← HR.out]; exact hp) hs
        rw [hd2, ← HF.out] at hd
        have HD := Aside0.mk hd
        have HB2 := Aside0.mk (below_join HB.out hb)
        clear hp hs hd hb hd2
        go_wp2
        simp only [Exit.noGoto]
        go_ret
        exact ⟨_, rfl, HD.out, HB2.out⟩
  · have HF : Aside0 (findL codes l = []) := ⟨if_neg hlen⟩
    have hne : ((codes.length : Int) != (l.length : Int)) = true := by simp; omega
    go_enter Try.func58, Try.ntmps58
    go_wp2
    go_step3
    go_wp2
    simp only [Exit.noGoto]
    go_ret
    exact ⟨_, rfl, by rw [HF.out]; exact SLk.nil _, Below.refl _ _⟩
end Go.Proofs.Ytfkgjoflekemaaa.CBrack
