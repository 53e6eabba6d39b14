/- A part of a slice of whole numbers: the operation and what it reads as. -/
import Derived.Test.YtfkgjoflekemaaaCSlices
namespace Go.Proofs.Ytfkgjoflekemaaa.CCut
open Go.RowKit Go.Proofs.YtfkgjoflekemaaaW.PrintWords Go.Proofs.Ytfkgjoflekemaaa.U Go.Proofs.Ytfkgjoflekemaaa.CBase Go.Proofs.Ytfkgjoflekemaaa.CSlices
theorem cut_c {w : World} {A : Option Addr} {c : Nat} {xs : List Int} (h : SL w (.slice A xs.length c) xs) (lo hi : Int) (h0 : 0 ≤ lo) (h1 : lo ≤ hi) (h2 : hi ≤ xs.length) :
    ∃ V, (∀ W : World, (Instr.slice 22 (.slice A xs.length c) (some (.int .i64 lo)) (some (.int .i64 hi)) none).run Try.prog W = .ok V W) ∧ SL w V ((xs.drop lo.toNat).take (hi.toNat - lo.toNat)) := by
  obtain ⟨A', c', e, hc, hC⟩ := h
  injection e with e1 e2 e3
  subst e1 e3
  obtain ⟨i0, hi0, _, hsz0, _⟩ := info_parts info3
  have hcut := cut_mid (P := Try.prog) 22 3 .i64 .i64 Try.underlying22 hi0 1 hsz0 A xs.length c lo hi h0 h1 h2 hc
  refine ⟨_, hcut, ?_⟩
  have h1 := Kd.C_take (m := hi.toNat - lo.toNat) (Kd.C_drop (m := lo.toNat) hC (by omega) hc) (by rw [List.length_drop]; omega)
  have hl : ((xs.drop lo.toNat).take (hi.toNat - lo.toNat)).length = hi.toNat - lo.toNat := by rw [List.length_take, List.length_drop]; omega
  refine ⟨_, c - lo.toNat, ?_, ?_, h1⟩
  · rw [hl]; rfl
  · rw [hl]; omega
end Go.Proofs.Ytfkgjoflekemaaa.CCut
