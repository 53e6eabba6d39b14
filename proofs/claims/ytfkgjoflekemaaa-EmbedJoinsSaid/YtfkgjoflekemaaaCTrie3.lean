/- The stages' add: a block that is there, or one more: walked. -/
import Derived.Test.YtfkgjoflekemaaaCTrie2
namespace Go.Proofs.Ytfkgjoflekemaaa.CTrie
open Go.RowKit Go.Proofs.YtfkgjoflekemaaaW.PrintWords Go.Proofs.YtfkgjoflekemaaaW.PrintMore Go.Proofs.YtfkgjoflekemaaaW.PrintLast Go.Proofs.Ytfkgjoflekemaaa.U Go.Proofs.Ytfkgjoflekemaaa.UTrie Go.Proofs.Ytfkgjoflekemaaa.PEmbedJoins
set_option linter.unusedVariables false
set_option linter.unusedSimpArgs false
/-- blocks in a row -/
def kb : Kd (List Int) := Kd.arr 128 (Kd.int .i64) (by decide)
theorem kb_open {w : World} {xs : List Int} {cs : List Value} (h : kb.K w xs cs) : xs.length = 128 ∧ cs = (vs xs).toList := by
  obtain ⟨h1, h2⟩ := Kd.arr_cells (enc := Value.int .i64) h
  exact ⟨h1, h2.trans (by simp [vs, encs])⟩
theorem kb_mk (w : World) (base : Nat) (ok : Nat → Prop) {xs : List Int} (h : xs.length = 128) : kb.M w base ok xs (vs xs).toList := by
  have := Kd.arr_of_cells (enc := Value.int .i64) (h1 := fun _ => rfl) (hs := by decide) (w := w) (base := base) (ok := ok) h
  rwa [show encs (Value.int .i64) xs = (vs xs).toList by simp [vs, encs]] at this
theorem kb_at {w : World} {A : Option Addr} {n : Nat} {bs : List (List Int)} (h : Kd.C kb w A n bs) (i : Nat) (hi : i < n) : ∃ ad, A = some ad ∧ (bs.getD i []).length = 128 ∧ ∀ j v, (vs (bs.getD i [])).toList[j]? = some v → w.cell? ((ad.add (i * 128)).add j) = some v := by
  obtain ⟨ad, c, e, _, hK, hc⟩ := Kd.C_get h [] (i : Int) (by omega) (by omega)
  rw [Int.toNat_natCast] at hK hc
  obtain ⟨h1, rfl⟩ := kb_open hK
  refine ⟨ad, e, h1, fun j v hv => ?_⟩
  have := hc j v hv
  rw [Addr.add_add]
  exact this
abbrev tabCells (f s : Value) (n : Int) : Array Value := #[f, s, .int .i64 n, .bool true]
theorem info122b : (Try.prog.info? 122).map (fun i => (i.zero, i.size, i.bytes)) = some (some (.agg (vs (evenL 0))), 128, 1024) := by kernel_rfl
theorem fold_sets : ∀ (l : List Value) (k : Nat) (a : Array Value), k + l.length = a.size → (l.zipIdx k).foldl (fun cs p => cs.setIfInBounds (0 + p.2) p.1) a = (a.toList.take k ++ l).toArray
  | [], k, a, h => by
    rw [List.zipIdx_nil, List.foldl_nil, List.append_nil, List.take_of_length_le (by simp at h ⊢; omega)]
  | x :: l, k, a, h => by
    rw [List.zipIdx_cons, List.foldl_cons, fold_sets l (k + 1) _ (by simp at h ⊢; omega)]
    congr 1
    simp only [Nat.zero_add, Array.toList_setIfInBounds]
    rw [List.take_add_one, List.take_set_of_le (Nat.le_refl k), List.getElem?_set_self (by simp at h ⊢; omega), List.append_assoc]
    rfl
theorem fold_vs (b : List Int) (z : Array Value) (hz : z.size = (vs b).size) : (vs b).zipIdx.foldl (fun cs p => cs.setIfInBounds (0 + p.2) p.1) z = vs b := by
  have h := fold_sets (vs b).toList 0 z (by simpa using hz.symm)
  rw [List.take_zero, List.nil_append, Array.toArray_toList] at h
  rw [← Array.foldl_toList, Array.toList_zipIdx]
  exact h
/-- one block, as a row -/
theorem build_one {o : Oper} {a : Act} {w : World} {b : List Int} (hl : b.length = 128) (ho : o.op = .buildSlice 116 1 #[(0, .tmp 30)]) (hx : a.eval (.tmp 30) = .agg (vs b)) : (execOp a.eval o).run Try.prog w = .ok (.value (.slice (some ⟨w.heap.size, 0, none⟩) 1 1)) (w.alloc (.cells (vs b) 122)) := by
  unfold execOp
  have hz : (Array.map (fun x => (Value.agg Try.zeroCells122).cells[x % (Value.agg Try.zeroCells122).cells.size]!) (Array.range 128)).size = (vs b).size := by simp [vs, hl]
  have hf : Instr.fill (fun i => some (i * 128, 128)) (Array.map (fun x => (Value.agg Try.zeroCells122).cells[x % (Value.agg Try.zeroCells122).cells.size]!) (Array.range 128)) [(0, Value.agg (vs b))] = some (vs b) := by
    generalize (Array.map (fun x => (Value.agg Try.zeroCells122).cells[x % (Value.agg Try.zeroCells122).cells.size]!) (Array.range 128)) = z at hz ⊢
    have h1 : (vs b).size = 128 := by simp [vs, hl]
    have h2 : (Value.agg (vs b)).cells = vs b := rfl
    unfold Instr.fill
    simp only [h2, h1, hz, Nat.zero_mul, Nat.zero_add, gt_iff_lt, Nat.lt_irrefl, ne_eq, not_true_eq_false, decide_false, Bool.or_self, or_self, if_false]
    have h3 := fold_vs b z hz
    simp only [Nat.zero_add] at h3
    rw [h3]
    rfl
  simp [ho, hx, Instr.buildSlice, hf, newRow]
theorem below_less {B C : Nat} {a b : World} (h : Below B a b) (hc : C ≤ B) : Below C a b := ⟨h.os, h.tape, h.output, h.size, fun k hk => h.block k (Nat.lt_of_lt_of_le hk hc)⟩
set_option maxRecDepth 100000 in
set_option maxHeartbeats 4000000 in
theorem add_c {w : World} {gt : Nat} {vf v2 : Value} {n : Int} {b : List Int} {bs : List (List Int)} {base : Nat} (hT : w.heap[gt]? = some (.cells (tabCells vf v2 n) 120 (0, 0))) (hR : Kd.R kb 122 w base (fun k => k ≠ gt) v2 bs) (hb : b.length = 128) (hm : bs.length ≤ 8704) (hbase : base ≤ w.heap.size) :
    Calls Try.prog 129 #[.pointer (some ⟨gt, 0, none⟩), .agg (vs b)] w fun e w' => ∃ (i : Nat) (bs' : List (List Int)) (v2' : Value), e = .returned (.int .i64 i) ∧ (bs' = bs ∨ bs' = bs ++ [b]) ∧ i < bs'.length ∧ bs'.getD i [] = b ∧ w'.heap[gt]? = some (.cells (tabCells vf v2' n) 120 (0, 0)) ∧ Kd.R kb 122 w' base (fun k => k ≠ gt) v2' bs' ∧
      w'.os = w.os ∧ w'.tape = w.tape ∧ w'.output = w.output ∧ w.heap.size ≤ w'.heap.size ∧ ∀ k, k < w.heap.size → k ≠ gt → some k ≠ v2.ownBlock → w'.heap[k]? = w.heap[k]? := by
  have HT := Aside0.mk hT
  have HR := Aside0.mk hR
  have HL := Aside0.mk hb
  have HM := Aside0.mk hm
  obtain ⟨A2, c2, rfl⟩ := Kd.R_slice hR
  clear hT hR hb
  have HB0 := Aside0.mk (below_alloc (Below.refl w.heap.size w) (.cells (vs b) 122))
  have HX0 : Aside0 (Arr (w.alloc (.cells (vs b) 122)) w.heap.size b) := ⟨blk_new w _⟩
  have HT0 : Aside0 ((w.alloc (.cells (vs b) 122)).heap[gt]? = some (.cells (tabCells vf (.slice A2 bs.length c2) n) 120 (0, 0))) := ⟨(HB0.out.block _ (blk_lt HT.out)).trans HT.out⟩
  have d1 : (w.alloc (.cells (vs b) 122)).cell? ⟨gt, 1, none⟩ = some (.slice A2 bs.length c2) := (blk_cell HT0.out 1).trans rfl
  go_enter Try.func129, Try.ntmps129
  go_wp2
  obtain ⟨W, hW⟩ : ∃ W, W = w.alloc (.cells (vs b) 122) := ⟨_, rfl⟩
  rw [← hW] at HB0 HX0 HT0 ⊢
  clear d1 hW
  go_loopw [11] (fun v wr => ∃ k : Nat, v = .int .i64 k ∧ k ≤ bs.length ∧ Aside0 (∃ m, wr = W.drewN m)) (fun v _ => bs.length - (intOf v).toNat)
  case atStart => exact ⟨0, rfl, Nat.zero_le _, ⟨0, rfl⟩⟩
  case round =>
    obtain ⟨k, rfl, hk, HD⟩ := hrel
    have HBr : Aside0 (Below W.heap.size W wr) := ⟨by obtain ⟨m, hm⟩ := HD.out; rw [hm]; exact pw_below_drewN (Below.refl _ _) m⟩
    have HTr : Aside0 (wr.heap[gt]? = some (.cells (tabCells vf (.slice A2 bs.length c2) n) 120 (0, 0))) := ⟨(HBr.out.block _ (blk_lt HT0.out)).trans HT0.out⟩
    have HXr : Aside0 (Arr wr w.heap.size b) := ⟨(HBr.out.block _ (blk_lt HX0.out)).trans HX0.out⟩
    have HBw : Aside0 (Below w.heap.size w wr) := ⟨below_step HB0.out HBr.out⟩
    have HBd : Aside0 (Below base w wr.drew) := ⟨below_less (below_drew HBw.out) hbase⟩
    have HRr : Aside0 (Kd.R kb 122 wr base (fun k => k ≠ gt) (.slice A2 bs.length c2) bs) := ⟨Kd.R_below HR.out HBw.out⟩
    have d1 : wr.cell? ⟨gt, 1, none⟩ = some (.slice A2 bs.length c2) := (blk_cell HTr.out 1).trans rfl
    by_cases hlt : k < bs.length
    · have hkI : (k : Int) < (bs.length : Int) := by omega
      obtain ⟨ad, ea, h1, h2⟩ := kb_at (Kd.R_reads' HRr.out).2.2 k hlt
      subst ea
      have HL1 := Aside0.mk h1
      have HLD := Aside0.mk h2
      clear h1 h2
      go_wp2
      refine start_ (n := 9) (S := fun W => Below wr.heap.size wr W) (ds := []) #[false, false, false, false, false, false, false, false, false] (by kernel_rfl) (by kernel_rfl) (by rfl) (below_drew (Below.refl _ _)) (fun hS0 => ?_)
      refine pure_ (i := 0) (N := (some 14)) (v := ?_) (a' := ?_) #[true, false, false, false, false, false, false, false, false] rfl rfl (by kernel_rfl) (fun _ _ _ h => h) (Or.inl ⟨by rfl, ?_⟩) ?_ ?_
      rotate_left
      · intro w'
        go_simp
        with_reducible rfl
      rotate_left
      · simp only [Act.put, List.setIfInBounds_toArray, List.set_cons_zero, List.set_cons_succ]
        rfl
      refine pure_ (i := 1) (N := (some 15)) (v := ?_) (a' := ?_) #[true, true, false, false, false, false, false, false, false] rfl rfl (by kernel_rfl) (fun _ _ _ h => h) (Or.inl ⟨by rfl, ?_⟩) ?_ ?_
      rotate_left
      · intro w'
        go_simp
        with_reducible rfl
      rotate_left
      · simp only [Act.put, List.setIfInBounds_toArray, List.set_cons_zero, List.set_cons_succ]
        rfl
      refine pure_ (i := 2) (N := (some 16)) (v := ?_) (a' := ?_) #[true, true, true, false, false, false, false, false, false] rfl rfl (by kernel_rfl) (fun _ _ _ h => h) (Or.inl ⟨by rfl, ?_⟩) ?_ ?_
      rotate_left
      · intro w'
        go_simp
        with_reducible rfl
      rotate_left
      · simp only [Act.put, List.setIfInBounds_toArray, List.set_cons_zero, List.set_cons_succ]
        rfl
      refine take_ (i := 3) (N := (some 17)) (v := ?_) (a' := ?_) #[true, true, true, true, false, false, false, false, false] rfl rfl (by kernel_rfl) (fun _ _ _ h => h) (Or.inl ⟨by rfl, ?_⟩) hS0 ?_ ?_
      rotate_left
      · intro w' s0
        have hx := (s0.cell (World.block_lt_of_cell? _ _ d1)).trans d1
        go_simp
        with_reducible rfl
      rotate_left
      · simp only [Act.put, List.setIfInBounds_toArray, List.set_cons_zero, List.set_cons_succ]
        rfl
      refine pure_ (i := 4) (N := (some 18)) (v := ?_) (a' := ?_) #[true, true, true, true, true, false, false, false, false] rfl rfl (by kernel_rfl) (fun _ _ _ h => h) (Or.inl ⟨by rfl, ?_⟩) ?_ ?_
      rotate_left
      · intro w'
        go_simp
        with_reducible rfl
      rotate_left
      · simp only [Act.put, List.setIfInBounds_toArray, List.set_cons_zero, List.set_cons_succ]
        rfl
      refine pure_ (i := 5) (N := (some 19)) (v := ?_) (a' := ?_) #[true, true, true, true, true, true, false, false, false] rfl rfl (by kernel_rfl) (fun _ _ _ h => h) (Or.inl ⟨by rfl, ?_⟩) ?_ ?_
      rotate_left
      · intro w'
        go_simp
        with_reducible rfl
      rotate_left
      · simp only [Act.put, List.setIfInBounds_toArray, List.set_cons_zero, List.set_cons_succ]
        rfl
      refine take_ (i := 6) (N := (some 20)) (v := ?_) (a' := ?_) #[true, true, true, true, true, true, true, false, false] rfl rfl (by kernel_rfl) (fun _ _ _ h => h) (Or.inl ⟨by rfl, ?_⟩) hS0 ?_ ?_
      rotate_left
      · intro w' s0
        refine exec_load (.tmp 19) (xs := bs.getD k []) (ad := ad.add (k * 128)) ?_ ?_ ?_
        · rfl
        · rfl
        · exact load_mid (fun j v hv => by have hc := HLD.out j v hv; exact (s0.cell (World.block_lt_of_cell? _ _ hc)).trans hc) HL1.out
      rotate_left
      · simp only [Act.put, List.setIfInBounds_toArray, List.set_cons_zero, List.set_cons_succ]
        rfl
      refine take_ (i := 7) (N := (some 21)) (v := ?_) (a' := ?_) #[true, true, true, true, true, true, true, true, false] rfl rfl (by kernel_rfl) (fun _ _ _ h => h) (Or.inl ⟨by rfl, ?_⟩) hS0 ?_ ?_
      rotate_left
      · intro w' s0
        refine exec_load (.tmp 3) (xs := b) (ad := ⟨w.heap.size, 0, none⟩) ?_ ?_ ?_
        · rfl
        · rfl
        · exact arr_load ((s0.block _ (blk_lt HXr.out)).trans HXr.out) HL.out
      rotate_left
      · simp only [Act.put, List.setIfInBounds_toArray, List.set_cons_zero, List.set_cons_succ]
        rfl
      refine pure_ (i := 8) (N := (some 22)) (v := ?_) (a' := ?_) #[true, true, true, true, true, true, true, true, true] rfl rfl (by kernel_rfl) (fun _ _ _ h => h) (Or.inl ⟨by rfl, ?_⟩) ?_ ?_
      rotate_left
      · intro w'
        refine exec_eql w' (.tmp 20) (.tmp 21) 122 (xs := bs.getD k []) (ys := b) ?_ ?_ ?_ HL1.out HL.out
        · rfl
        · rfl
        · rfl
      rotate_left
      · simp only [Act.put, List.setIfInBounds_toArray, List.set_cons_zero, List.set_cons_succ]
        rfl
      refine done_ (by kernel_rfl) ?_
      clear hS0
      by_cases heq : bs.getD k [] = b
      · have hbb : (bs.getD k [] == b) = true := by simpa using heq
        have HEQ := Aside0.mk heq
        clear heq
        rw [hbb]
        go_wp2
        go_ret
        exact ⟨k, bs, _, rfl, .inl rfl, hlt, HEQ.out, by rw [← HTr.out]; rfl, Kd.R_drew HRr.out, HBw.out.os, HBw.out.tape, HBw.out.output, HBw.out.size, fun j hj _ _ => HBw.out.block j hj⟩
      · have hbb : (bs.getD k [] == b) = false := by simpa using heq
        clear heq
        rw [hbb]
        go_wp2
        exact ⟨⟨k + 1, by go_num, by omega, ⟨by obtain ⟨m, hm⟩ := HD.out; exact ⟨m + 1, by rw [hm]; rfl⟩⟩⟩, by simp [intOf]; omega⟩
    · have hkI : ¬ ((k : Int) < (bs.length : Int)) := by omega
      go_wp2
      refine start_ (n := 11) (S := fun W => Below wr.heap.size wr W) (ds := [7, 10]) #[false, false, false, false, false, false, false, false, false, false, false] (by kernel_rfl) (by kernel_rfl) (by rfl) (below_drew (Below.refl _ _)) (fun hS0 => ?_)
      refine pure_ (i := 0) (N := (some 25)) (v := ?_) (a' := ?_) #[true, false, false, false, false, false, false, false, false, false, false] rfl rfl (by kernel_rfl) (fun _ _ _ h => h) (Or.inl ⟨by rfl, ?_⟩) ?_ ?_
      rotate_left
      · intro w'
        go_simp
        with_reducible rfl
      rotate_left
      · simp only [Act.put, List.setIfInBounds_toArray, List.set_cons_zero, List.set_cons_succ]
        rfl
      refine pure_ (i := 1) (N := (some 26)) (v := ?_) (a' := ?_) #[true, true, false, false, false, false, false, false, false, false, false] rfl rfl (by kernel_rfl) (fun _ _ _ h => h) (Or.inl ⟨by rfl, ?_⟩) ?_ ?_
      rotate_left
      · intro w'
        go_simp
        with_reducible rfl
      rotate_left
      · simp only [Act.put, List.setIfInBounds_toArray, List.set_cons_zero, List.set_cons_succ]
        rfl
      refine pure_ (i := 2) (N := (some 27)) (v := ?_) (a' := ?_) #[true, true, true, false, false, false, false, false, false, false, false] rfl rfl (by kernel_rfl) (fun _ _ _ h => h) (Or.inl ⟨by rfl, ?_⟩) ?_ ?_
      rotate_left
      · intro w'
        go_simp
        with_reducible rfl
      rotate_left
      · simp only [Act.put, List.setIfInBounds_toArray, List.set_cons_zero, List.set_cons_succ]
        rfl
      refine pure_ (i := 3) (N := (some 28)) (v := ?_) (a' := ?_) #[true, true, true, true, false, false, false, false, false, false, false] rfl rfl (by kernel_rfl) (fun _ _ _ h => h) (Or.inl ⟨by rfl, ?_⟩) ?_ ?_
      rotate_left
      · intro w'
        go_simp
        with_reducible rfl
      rotate_left
      · simp only [Act.put, List.setIfInBounds_toArray, List.set_cons_zero, List.set_cons_succ]
        rfl
      refine take_ (i := 4) (N := (some 29)) (v := ?_) (a' := ?_) #[true, true, true, true, true, false, false, false, false, false, false] rfl rfl (by kernel_rfl) (fun _ _ _ h => h) (Or.inl ⟨by rfl, ?_⟩) hS0 ?_ ?_
      rotate_left
      · intro w' s0
        have hx := (s0.cell (World.block_lt_of_cell? _ _ d1)).trans d1
        go_simp
        with_reducible rfl
      rotate_left
      · simp only [Act.put, List.setIfInBounds_toArray, List.set_cons_zero, List.set_cons_succ]
        rfl
      refine take_ (i := 5) (N := (some 30)) (v := ?_) (a' := ?_) #[true, true, true, true, true, true, false, false, false, false, false] rfl rfl (by kernel_rfl) (fun _ _ _ h => h) (Or.inl ⟨by rfl, ?_⟩) hS0 ?_ ?_
      rotate_left
      · intro w' s0
        refine exec_load (.tmp 3) (xs := b) (ad := ⟨w.heap.size, 0, none⟩) ?_ ?_ ?_
        · rfl
        · rfl
        · exact arr_load ((s0.block _ (blk_lt HXr.out)).trans HXr.out) HL.out
      rotate_left
      · simp only [Act.put, List.setIfInBounds_toArray, List.set_cons_zero, List.set_cons_succ]
        rfl
      clear hS0
      refine one_ (i := 6) (N := (some 31)) #[true, true, true, true, true, true, true, false, false, false, false] rfl rfl (by kernel_rfl) (by decide) (fun K hK => ?_)
      refine value_ (w1 := wr.drew.alloc (.cells (vs b) 122)) (v := .slice (some ⟨wr.drew.heap.size, 0, none⟩) 1 1) (by rfl) rfl (build_one HL.out rfl rfl) ?_
      refine hK.out (Act.put _ (some 31) _) _ (below_alloc (below_drew (Below.refl _ _)) _) (fun hS0 => ?_)
      clear hK
      refine norm_ (a' := ?_) ?_ ?_
      rotate_left
      · simp only [Act.put, List.setIfInBounds_toArray, List.set_cons_zero, List.set_cons_succ]
        rfl
      clear hS0
      refine last_ (i := 7) (N := (some 32)) #[true, true, true, true, true, true, true, true, false, false, false] rfl rfl (by kernel_rfl) (by decide) (fun K hK => ?_)
      refine Kd.R_append_step kb (w0 := w) base (by rfl) (.tmp 29) (.tmp 31) 116 122 (.agg (vs (evenL 0))) 1024 rfl Try.underlying116 info122b (by simp [vs, evenL, Value.cells]; rfl) (by decide) (by omega) (.slice A2 bs.length c2) bs b (vs b).toList (fun k => k ≠ gt) (fun _ => False) rfl rfl (kb_mk _ _ _ HL.out) (fun _ hk => hk.elim) (fun k hk => by have := blk_lt HTr.out; intro e; subst e; exact absurd hk (by show ¬ wr.drew.heap.size ≤ _; have h9 : wr.drew.heap.size = wr.heap.size := rfl; omega)) (Kd.R_drew HRr.out) HBd.out (Nat.le_trans hbase HBd.out.size) (by omega) ?_
      intro v3 w3 hv hb hg hat
      obtain ⟨A3, c3, rfl⟩ := Kd.R_slice hv
      have HV3 := Aside0.mk hv
      have HB3 := Aside0.mk hb
      have HG3 := Aside0.mk hg
      have HT3 : Aside0 (w3.heap[gt]? = some (.cells (tabCells vf (.slice A2 bs.length c2) n) 120 (0, 0))) := ⟨(hg.block _ (blk_lt HTr.out) (fun e => (Kd.R_away HRr.out (g := gt) (fun k hk => hk)) e)).trans HTr.out⟩
      clear hv hb hg hat
      refine hK.out (Act.put _ (some 32) _) _ ?_
      clear hK
      refine norm_ (a' := ?_) ?_ ?_
      rotate_left
      · simp only [Act.put, List.setIfInBounds_toArray, List.set_cons_zero, List.set_cons_succ]
        rfl
      refine pure_ (i := 8) (N := (some 33)) (v := ?_) (a' := ?_) #[true, true, true, true, true, true, true, true, true, false, false] rfl rfl (by kernel_rfl) (fun _ _ _ h => h) (Or.inl ⟨by rfl, ?_⟩) ?_ ?_
      rotate_left
      · intro w'
        go_simp
        with_reducible rfl
      rotate_left
      · simp only [Act.put, List.setIfInBounds_toArray, List.set_cons_zero, List.set_cons_succ]
        rfl
      refine pure_ (i := 9) (N := (some 34)) (v := ?_) (a' := ?_) #[true, true, true, true, true, true, true, true, true, true, false] rfl rfl (by kernel_rfl) (fun _ _ _ h => h) (Or.inl ⟨by rfl, ?_⟩) ?_ ?_
      rotate_left
      · intro w'
        go_simp
        with_reducible rfl
      rotate_left
      · simp only [Act.put, List.setIfInBounds_toArray, List.set_cons_zero, List.set_cons_succ]
        rfl
      refine last_ (i := 10) (N := none) #[true, true, true, true, true, true, true, true, true, true, true] rfl rfl (by kernel_rfl) (by decide) (fun K hK => ?_)
      have e1 : w3.cell? ⟨gt, 1, none⟩ = some (.slice A2 bs.length c2) := (blk_cell HT3.out 1).trans rfl
      have e2 : w3.frozen? ⟨gt, 1, none⟩ = false := blk_frozen HT3.out 1
      refine skip_ (w1 := w3.setCell ⟨gt, 1, none⟩ (.slice A3 (bs ++ [b]).length c3)) (by rfl) rfl ?_ ?_
      · go_simp
      refine hK.out _ _ ?_
      clear hK
      refine done_ (by kernel_rfl) ?_
      have HT4 : Aside0 ((w3.setCell ⟨gt, 1, none⟩ (.slice A3 (bs ++ [b]).length c3)).heap[gt]? = some (.cells (tabCells vf (.slice A3 (bs ++ [b]).length c3) n) 120 (0, 0))) := ⟨(blk_set HT3.out 1 _).trans rfl⟩
      have HV4 : Aside0 (Kd.R kb 122 (w3.setCell ⟨gt, 1, none⟩ (.slice A3 (bs ++ [b]).length c3)) base (fun k => k ≠ gt) (.slice A3 (bs ++ [b]).length c3) (bs ++ [b])) := ⟨Kd.R_far HV3.out (fun k hk => hk) _⟩
      have f1 : (w3.setCell ⟨gt, 1, none⟩ (.slice A3 (bs ++ [b]).length c3)).cell? ⟨gt, 1, none⟩ = some (.slice A3 (bs ++ [b]).length c3) := (blk_cell HT4.out 1).trans rfl
      have hln : (bs ++ [b]).length = bs.length + 1 := by simp
      rw [hln] at f1 HT4 HV4 ⊢
      clear d1 e1 e2
      go_wp2
      go_ret
      refine ⟨bs.length, bs ++ [b], _, by go_num, .inr rfl, by simp, by simp [List.getD_eq_getElem?_getD], HT4.out, HV4.out, ?_, ?_, ?_, ?_, fun j hj hne hno => ?_⟩
      · exact HG3.out.os.trans HBw.out.os
      · exact HG3.out.tape.trans HBw.out.tape
      · exact HG3.out.output.trans HBw.out.output
      · exact Nat.le_trans HBw.out.size (Nat.le_trans HG3.out.size (by simp [World.setCell]))
      · rw [Below.heap_setCell w3 ⟨gt, 1, none⟩ _ j hne, HG3.out.block j (Nat.lt_of_lt_of_le hj HBw.out.size) hno]
        exact HBw.out.block j hj
end Go.Proofs.Ytfkgjoflekemaaa.CTrie
