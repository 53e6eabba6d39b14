/- Words for cells: a struct of a row of slices and of spans, kept apart from all else by the set of its blocks. -/
import Derived.Test.YtohhobcipfmkbaaCFinA
import Derived.Test.YtohhobcipfmkbaaCFinQ
namespace Go.Proofs.Ytohhobcipfmkbaa.Cel
open Go.RowKit Go.Proofs.YtohhobcipfmkbaaW.PrintWords Go.Proofs.YtohhobcipfmkbaaW.PrintMore Go.Proofs.YtohhobcipfmkbaaW.PrintLast Go.Proofs.Ytohhobcipfmkbaa.U Go.Proofs.Ytohhobcipfmkbaa.PClusterFinest
set_option linter.unusedVariables false
set_option linter.unusedSimpArgs false
/-- what a call does: it writes the blocks of S alone -/
structure Eff (w W : World) (S : Nat → Prop) : Prop where
  os : W.os = w.os
  tape : W.tape = w.tape
  output : W.output = w.output
  kept : Kept w W S
variable {w W W2 : World} {S S2 D D2 : Nat → Prop}
theorem Eff.refl (w : World) (S : Nat → Prop) : Eff w w S := ⟨rfl, rfl, rfl, Kept.refl w S⟩
theorem Eff.of_below (h : Below w.heap.size w W) (S : Nat → Prop) : Eff w W S := ⟨h.os, h.tape, h.output, Kept.of_below h S⟩
theorem Eff.then_ (h : Eff w W S) (k : Eff W W2 S2) (hs : ∀ k, S2 k → S k ∨ w.heap.size ≤ k) : Eff w W2 S := ⟨k.os.trans h.os, k.tape.trans h.tape, k.output.trans h.output, h.kept.then_ k.kept hs⟩
theorem Eff.below_ (h : Eff w W S) (k : Below W.heap.size W W2) : Eff w W2 S := h.then_ (Eff.of_below k (fun _ => False)) (fun _ h => h.elim)
theorem Eff.mono (h : Eff w W S) (hs : ∀ k, S k → S2 k) : Eff w W S2 := ⟨h.os, h.tape, h.output, h.kept.mono hs⟩
theorem Eff.size (h : Eff w W S) : w.heap.size ≤ W.heap.size := h.kept.1
theorem Eff.below {B : Nat} (h : Eff w W S) (hB : B ≤ w.heap.size) (hS : ∀ k, S k → B ≤ k) : Below B w W := ⟨h.os, h.tape, h.output, h.kept.1, fun k hk => h.kept.2 k (by omega) (fun hs => by have := hS k hs; omega)⟩
theorem Eff.of_grown {row : Option Nat} (hg : w.grownBy W row) (hr : ∀ k, row = some k → S k) : Eff w W S := ⟨hg.os, hg.tape, hg.output, Kept.of_grown hg (Kept.refl w S) (fun k hk => .inl (hr k hk))⟩
theorem Eff.drew (h : Eff w W S) : Eff w W.drew S := h.below_ (below_drew (Below.refl _ _))
theorem Eff.drewN (h : Eff w W S) (n : Nat) : Eff w (W.drewN n) S := h.below_ (pw_below_drewN (Below.refl _ _) n)
theorem add_block (a : Addr) (n : Nat) : (a.add n).block = a.block := by
  unfold Addr.add
  first | rfl | (split <;> rfl)
/-- numbers whose block is in D -/
def SLD (w : World) (D : Nat → Prop) (v : Value) (x : List Int) : Prop := SL w v x ∧ ∀ ad n c, v = .slice (some ad) n c → 0 < n → D ad.block
theorem SL.kept {v : Value} {x : List Int} (h : SLD w D v x) (hk : Kept w W S) (hne : ∀ k, D k → ¬ S k) : SL W v x := by
  obtain ⟨⟨A, c, rfl, hc, h1, h2, h3⟩, hd⟩ := h
  refine ⟨A, c, rfl, hc, h1, h2, fun hn => ?_⟩
  obtain ⟨ad, rfl, hcell⟩ := h3 hn
  refine ⟨ad, rfl, fun j p hj => ?_⟩
  obtain ⟨cs, hl, hK, hcc⟩ := hcell j p hj
  exact ⟨cs, hl, hK, fun k u hu => cell_kept (hcc k u hu) hk (by rw [add_block]; exact hne _ (hd ad _ _ rfl hn))⟩
theorem SLD.kept {v : Value} {x : List Int} (h : SLD w D v x) (hk : Kept w W S) (hne : ∀ k, D k → ¬ S k) : SLD W D v x := ⟨SL.kept h hk hne, h.2⟩
theorem SLD.mono {v : Value} {x : List Int} (h : SLD w D v x) (hs : ∀ k, D k → D2 k) : SLD w D2 v x := ⟨h.1, fun ad n c e hn => hs _ (h.2 ad n c e hn)⟩
theorem SLD.bound {v : Value} {x : List Int} (h : SLD w D v x) : SLD w (fun k => D k ∧ k < w.heap.size) v x := by
  refine ⟨h.1, fun ad n c e hn => ⟨h.2 ad n c e hn, ?_⟩⟩
  obtain ⟨A, c', e', hc, h1, h2, h3⟩ := h.1
  subst e
  injection e' with e1 e2 e3
  obtain ⟨ad', e4, hcell⟩ := h3 (by omega)
  subst e1
  obtain rfl := Option.some.inj e4
  obtain ⟨cs, hl, hK, hcc⟩ := hcell 0 (x[0]'(by omega)) (List.getElem?_eq_getElem (by omega))
  have hk' : cs = [.int .i64 (x[0]'(by omega))] := hK
  have := World.block_lt_of_cell? _ _ (hcc 0 (.int .i64 (x[0]'(by omega))) (by rw [hk']; rfl))
  rwa [add_block] at this
theorem SLD.any {v : Value} {x : List Int} (h : SL w v x) : SLD w (fun k => k < w.heap.size) v x := ⟨h, fun ad n c e hn => (SLD.bound (D := fun _ => True) ⟨h, fun _ _ _ _ _ => trivial⟩).2 ad n c e hn |>.2⟩
theorem SLD.nil (w : World) (D : Nat → Prop) : SLD w D (.slice none 0 0) [] := ⟨SLk.nil w, fun ad n c e hn => by injection e with e1; cases e1⟩
theorem SLD.of_R {base : Nat} {v : Value} {x : List Int} (h : Kd.R (Kd.int .i64) 3 w base D v x) : SLD w D v x := by
  refine ⟨SLk.of_R h, fun ad n c e hn => ?_⟩
  subst e
  obtain ⟨hn', _, _⟩ := Kd.R_reads' h
  obtain ⟨g, cap, e, _⟩ := Kd.R_form h (by omega)
  injection e with e1 e2 e3
  injection e1 with e1
  subst e1
  exact h.1 g (by simp [Value.ownBlock])
theorem SLD.set_slice {v : Value} {x : List Int} (h : SLD w D v x) {g i : Nat} {hd : Hd} (hc : w.cell? ⟨g, i, none⟩ = some (encH hd)) (u : Value) : SLD (w.setCell ⟨g, i, none⟩ u) D v x := ⟨SL.set_slice h.1 hc u, h.2⟩
/-- a row of slices; all its blocks are in D -/
def RowAt (w : World) (D : Nat → Prop) (v : Value) (L : List (List Int)) : Prop :=
  ∃ hs : List Hd, Kd.R KH 31 w 0 D v hs ∧ hs.length = L.length ∧ ∀ (i : Nat) (x : List Int), L[i]? = some x → ∃ h : Hd, hs[i]? = some h ∧ SLD w D (encH h) x
theorem RowAt.kept {v : Value} {L : List (List Int)} (h : RowAt w D v L) (hk : Kept w W S) (hne : ∀ k, D k → ¬ S k) : RowAt W D v L := by
  obtain ⟨hs, h1, h2, h3⟩ := h
  exact ⟨hs, Kd.R_kept h1 hk hne, h2, fun i x hx => let ⟨hd, a, b⟩ := h3 i x hx; ⟨hd, a, b.kept hk hne⟩⟩
theorem RowAt.mono {v : Value} {L : List (List Int)} (h : RowAt w D v L) (hs : ∀ k, D k → D2 k) : RowAt w D2 v L := by
  obtain ⟨hl, h1, h2, h3⟩ := h
  exact ⟨hl, Kd.R_mono h1 hs, h2, fun i x hx => let ⟨hd, a, b⟩ := h3 i x hx; ⟨hd, a, b.mono hs⟩⟩
theorem RowAt.bound {v : Value} {L : List (List Int)} (h : RowAt w D v L) : RowAt w (fun k => D k ∧ k < w.heap.size) v L := by
  obtain ⟨hl, h1, h2, h3⟩ := h
  exact ⟨hl, Kd.R_mono (Kd.R_bound h1) (fun k hk => ⟨hk.1, hk.2.2.1⟩), h2, fun i x hx => let ⟨hd, a, b⟩ := h3 i x hx; ⟨hd, a, b.bound⟩⟩
theorem RowAt.slice {v : Value} {L : List (List Int)} (h : RowAt w D v L) : ∃ A c, v = .slice A L.length c := by
  obtain ⟨hs, h1, h2, h3⟩ := h
  obtain ⟨A, c, rfl⟩ := Kd.R_slice h1
  exact ⟨A, c, by rw [h2]⟩
theorem RowAt.form {v : Value} {L : List (List Int)} (h : RowAt w D v L) (hn : 0 < L.length) : ∃ g cap cells, v = .slice (some ⟨g, 0, none⟩) L.length cap ∧ D g ∧ g < w.heap.size ∧ w.heap[g]? = some (.cells cells 31 (0, 0)) := by
  obtain ⟨hs, h1, h2, h3⟩ := h
  obtain ⟨g, cap, e, _, hg, cells, hc⟩ := Kd.R_form h1 (by omega)
  refine ⟨g, cap, cells, by rw [e, h2], ?_, hg, hc⟩
  subst e
  exact h1.1 g (by simp [Value.ownBlock])
/-- the cells of a row's block -/
theorem RowAt.cell {g n cap : Nat} {L : List (List Int)} (h : RowAt w D (.slice (some ⟨g, 0, none⟩) n cap) L) (i : Nat) (hi : i < L.length) : ∃ hd : Hd, w.cell? ⟨g, i, none⟩ = some (encH hd) ∧ w.frozen? ⟨g, i, none⟩ = false ∧ SLD w D (encH hd) L[i] := by
  obtain ⟨hs, h1, h2, h3⟩ := h
  obtain ⟨hd, a, b⟩ := h3 i L[i] (List.getElem?_eq_getElem hi)
  have hn := (Kd.R_reads' h1).1
  have hc := Kd.R_celln ((none, 0, 0) : Hd) h1 (i : Int) (by omega) (by omega)
  rw [Int.toNat_natCast] at hc
  have e : rdOf ((none, 0, 0) : Hd) hs (i : Int) = hd := by
    unfold rdOf
    rw [Int.toNat_natCast, List.getD_eq_getElem?_getD, a]
    rfl
  rw [e] at hc
  exact ⟨hd, hc.1, hc.2, b⟩
theorem RowAt.put {g n cap : Nat} {L : List (List Int)} (h : RowAt w D (.slice (some ⟨g, 0, none⟩) n cap) L) (i : Nat) (hi : i < L.length) {v' : Value} {x : List Int} (hx : SLD w D v' x) :
    RowAt (w.setCell ⟨g, i, none⟩ v') D (.slice (some ⟨g, 0, none⟩) n cap) (L.set i x) := by
  obtain ⟨hd0, hc, _, _⟩ := h.cell i hi
  obtain ⟨hs, h1, h2, h3⟩ := h
  obtain ⟨hd, rfl⟩ := SL.header hx.1
  have hp := Kd.R_putg h1 (i : Int) hd
  rw [Int.toNat_natCast] at hp
  refine ⟨hs.set i hd, hp.1, by simp [h2], fun j y hy => ?_⟩
  by_cases hji : j = i
  · subst hji
    rw [List.getElem?_set_self hi] at hy
    obtain rfl := Option.some.inj hy
    exact ⟨hd, List.getElem?_set_self (by omega), SLD.set_slice hx hc _⟩
  · rw [List.getElem?_set_ne (Ne.symm hji)] at hy
    obtain ⟨hd', a, b⟩ := h3 j y hy
    exact ⟨hd', by rw [List.getElem?_set_ne (Ne.symm hji)]; exact a, SLD.set_slice b hc _⟩
theorem RowAt.nils {base n : Nat} {v : Value} (h : Kd.R KH 31 w base D v (List.replicate n ((none, 0, 0) : Hd))) : RowAt w D v (List.replicate n []) := by
  refine ⟨_, Kd.R_lower h (Nat.zero_le _), by simp, fun i x hx => ?_⟩
  rw [List.getElem?_replicate] at hx
  split at hx
  · rename_i hi
    obtain rfl := Option.some.inj hx
    exact ⟨(none, 0, 0), by rw [List.getElem?_replicate, if_pos hi], SLD.nil w D⟩
  · cases hx
theorem RowAt.reads {v : Value} {L : List (List Int)} (h : RowAt w D v L) (t : Nat) : SLk (Kd.slice t (Kd.int .i64)) w v L := by
  obtain ⟨hs, h1, h2, h3⟩ := h
  obtain ⟨A, c, rfl, hc, hC⟩ := Kd.R_reads h1
  rw [h2] at hC hc ⊢
  refine ⟨A, c, rfl, hc, rfl, hC.2.1, fun hn => ?_⟩
  obtain ⟨ad, rfl, hcell⟩ := hC.2.2 hn
  refine ⟨ad, rfl, fun j p hj => ?_⟩
  obtain ⟨hd, a, b⟩ := h3 j p hj
  obtain ⟨cs, _, hk, hcc⟩ := hcell j hd a
  obtain ⟨A', c', e', hl, hC'⟩ := b.1
  refine ⟨[encH hd], rfl, ⟨A', c', by rw [e'], hl, hC'⟩, fun k u hu => ?_⟩
  have hk' : cs = [encH hd] := hk
  subst hk'
  exact hcc k u hu
/-- a cell of another block is written -/
theorem RowAt.other {v : Value} {L : List (List Int)} (h : RowAt w D v L) {g t j : Nat} {cells : Array Value} (hb : w.heap[g]? = some (.cells cells t (0, 0))) (ht : 31 ≠ t) (hc : ∃ hd : Hd, w.cell? ⟨g, j, none⟩ = some (encH hd)) (u : Value) : RowAt (w.setCell ⟨g, j, none⟩ u) D v L := by
  obtain ⟨hs, h1, h2, h3⟩ := h
  obtain ⟨hd, hc⟩ := hc
  refine ⟨hs, Kd.R_set h1 hb (fun q hq => ?_) j u, h2, fun i x hx => let ⟨hd', a, b⟩ := h3 i x hx; ⟨hd', a, b.set_slice hc u⟩⟩
  have hE : (KH : Kd Hd).E = [] := rfl
  rw [hE, List.mem_singleton] at hq
  rw [hq]; exact ht
/-- cells of a struct of type T: the row L, the spans J; all that it is made of is in D -/
def CellsAt (T : Nat) (w : World) (D : Nat → Prop) (b : Nat) (L : List (List Int)) (J : List S33) : Prop :=
  ∃ (Dr Dt : Nat → Prop) (vr vt : Value), (∀ k, Dr k → D k ∧ k ≠ b) ∧ (∀ k, Dt k → D k ∧ k ≠ b ∧ ¬ Dr k) ∧ D b ∧ w.heap[b]? = some (.cells #[vr, vt] T (0, 0)) ∧ RowAt w Dr vr L ∧ Kd.R k33 33 w 0 Dt vt J
theorem CellsAt.kept {T b : Nat} {L : List (List Int)} {J : List S33} (h : CellsAt T w D b L J) (hk : Kept w W S) (hne : ∀ k, D k → ¬ S k) : CellsAt T W D b L J := by
  obtain ⟨Dr, Dt, vr, vt, hr, ht, h0, h1, h2, h3⟩ := h
  exact ⟨Dr, Dt, vr, vt, hr, ht, h0, blk_kept h1 hk (hne b h0), h2.kept hk (fun k hk => hne k (hr k hk).1), Kd.R_kept h3 hk (fun k hk => hne k (ht k hk).1)⟩
theorem CellsAt.below {T b : Nat} {L : List (List Int)} {J : List S33} (h : CellsAt T w D b L J) (hb : Below w.heap.size w W) : CellsAt T W D b L J := h.kept (Kept.of_below hb (fun _ => False)) (fun _ _ h => h)
theorem CellsAt.mono {T b : Nat} {L : List (List Int)} {J : List S33} (h : CellsAt T w D b L J) (hs : ∀ k, D k → D2 k) : CellsAt T w D2 b L J := by
  obtain ⟨Dr, Dt, vr, vt, hr, ht, h0, h1, h2, h3⟩ := h
  exact ⟨Dr, Dt, vr, vt, fun k hk => ⟨hs k (hr k hk).1, (hr k hk).2⟩, fun k hk => ⟨hs k (ht k hk).1, (ht k hk).2⟩, hs _ h0, h1, h2, h3⟩
theorem CellsAt.bound {T b : Nat} {L : List (List Int)} {J : List S33} (h : CellsAt T w D b L J) : CellsAt T w (fun k => D k ∧ k < w.heap.size) b L J := by
  obtain ⟨Dr, Dt, vr, vt, hr, ht, h0, h1, h2, h3⟩ := h
  exact ⟨fun k => Dr k ∧ k < w.heap.size, fun k => Dt k ∧ k < w.heap.size, vr, vt, fun k hk => ⟨⟨(hr k hk.1).1, hk.2⟩, (hr k hk.1).2⟩, fun k hk => ⟨⟨(ht k hk.1).1, hk.2⟩, (ht k hk.1).2.1, fun hr' => (ht k hk.1).2.2 hr'.1⟩, ⟨h0, blk_lt h1⟩, h1, h2.bound, Kd.R_mono (Kd.R_bound h3) (fun k hk => ⟨hk.1, hk.2.2.1⟩)⟩
/-- what cells are made of, taken apart -/
structure Parts (T : Nat) (w : World) (D Dr Dt : Nat → Prop) (b : Nat) (A : Option Addr) (c : Nat) (vt : Value) (L : List (List Int)) (J : List S33) : Prop where
  hr : ∀ k, Dr k → D k ∧ k ≠ b ∧ k < w.heap.size
  ht : ∀ k, Dt k → D k ∧ k ≠ b ∧ ¬ Dr k ∧ k < w.heap.size
  h0 : D b
  h1 : w.heap[b]? = some (.cells #[.slice A L.length c, vt] T (0, 0))
  h2 : RowAt w Dr (.slice A L.length c) L
  h3 : Kd.R k33 33 w 0 Dt vt J
theorem CellsAt.open_ {T b : Nat} {L : List (List Int)} {J : List S33} (h : CellsAt T w D b L J) : ∃ Dr Dt A c vt, Parts T w D Dr Dt b A c vt L J := by
  obtain ⟨Dr, Dt, vr, vt, hr, ht, h0, h1, h2, h3⟩ := h
  obtain ⟨A, c, rfl⟩ := h2.slice
  exact ⟨fun k => Dr k ∧ k < w.heap.size, fun k => Dt k ∧ k < w.heap.size, A, c, vt, fun k hk => ⟨(hr k hk.1).1, (hr k hk.1).2, hk.2⟩, fun k hk => ⟨(ht k hk.1).1, (ht k hk.1).2.1, fun hr' => (ht k hk.1).2.2 hr'.1, hk.2⟩, h0, h1, h2.bound, Kd.R_mono (Kd.R_bound h3) (fun k hk => ⟨hk.1, hk.2.2.1⟩)⟩
theorem Parts.below {T b c : Nat} {Dr Dt : Nat → Prop} {A : Option Addr} {vt : Value} {L : List (List Int)} {J : List S33} (h : Parts T w D Dr Dt b A c vt L J) (hb : Below w.heap.size w W) : Parts T W D Dr Dt b A c vt L J :=
  ⟨fun k hk => ⟨(h.hr k hk).1, (h.hr k hk).2.1, Nat.lt_of_lt_of_le (h.hr k hk).2.2 hb.size⟩, fun k hk => ⟨(h.ht k hk).1, (h.ht k hk).2.1, (h.ht k hk).2.2.1, Nat.lt_of_lt_of_le (h.ht k hk).2.2.2 hb.size⟩, h.h0, (hb.block _ (blk_lt h.h1)).trans h.h1, h.h2.kept (S := fun _ => False) (Kept.of_below hb _) (fun _ _ h => h), Kd.R_below h.h3 hb⟩
/-- a cell of the row is written: its codes' block is new since -/
theorem Parts.put {T b g cap : Nat} {Dr Dt : Nat → Prop} {vt : Value} {L : List (List Int)} {J : List S33} (h : Parts T w D Dr Dt b (some ⟨g, 0, none⟩) cap vt L J) (hw : Below w.heap.size w W) (i : Nat) (hi : i < L.length) {v' : Value} {x : List Int} (hx : SLD W (fun k => w.heap.size ≤ k) v' x) :
    CellsAt T (W.setCell ⟨g, i, none⟩ v') (fun q => D q ∨ w.heap.size ≤ q) b (L.set i x) J ∧ D g ∧ Eff w (W.setCell ⟨g, i, none⟩ v') D := by
  obtain ⟨g', cap', cells, e, hg, hlt, hblk⟩ := h.h2.form (by omega)
  injection e with e1 e2 e3
  injection e1 with e1
  injection e1 with e1 e4 e5
  subst e1
  have h' := h.below hw
  have hgr := h.hr g hg
  have hb0 : b < w.heap.size := blk_lt h.h1
  refine ⟨⟨fun k => Dr k ∨ w.heap.size ≤ k, Dt, _, vt, fun k hk => ?_, fun k hk => ?_, .inl h.h0, ?_, (h'.h2.mono (fun k hk => .inl hk)).put i hi (hx.mono (fun k hk => .inr hk)), ?_⟩, hgr.1, ?_⟩
  · rcases hk with hk | hk
    · exact ⟨.inl (h.hr k hk).1, (h.hr k hk).2.1⟩
    · exact ⟨.inr hk, by omega⟩
  · have := h.ht k hk
    exact ⟨.inl this.1, this.2.1, fun hc => hc.elim this.2.2.1 (fun hc => by omega)⟩
  · exact ((grown_set W g i v').block b (blk_lt h'.h1) (fun e => hgr.2.1 (Option.some.inj e).symm)).trans h'.h1
  · exact Kd.R_grown h'.h3 (grown_set W g i v') (fun k hk e => by obtain rfl := Option.some.inj e; exact (h.ht k hk).2.2.1 hg)
  · exact (Eff.of_below hw D).then_ (Eff.of_grown (S := fun q => q = g) (grown_set W g i v') (fun q e => (Option.some.inj e).symm)) (fun q e => by rw [e]; exact .inl hgr.1)
end Go.Proofs.Ytohhobcipfmkbaa.Cel
