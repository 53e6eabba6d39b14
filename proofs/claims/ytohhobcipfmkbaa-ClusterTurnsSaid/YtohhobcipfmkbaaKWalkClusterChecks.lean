/- Texts of this claim, cut to what it needs. -/
import Derived.Test.YtohhobcipfmkbaaKCStab2
import Derived.RegionTactic
import Derived.IntWalk
import Derived.Test.YtohhobcipfmkbaaKPClusterFinestx0
import Derived.Test.YtohhobcipfmkbaaKPClusterFinestx1
import Derived.Test.YtohhobcipfmkbaaKCFinQ
import Derived.Test.YtohhobcipfmkbaaKCAwk
namespace Go.Proofs.Ytohhobcipfmkbaa.CSort
open Go.RowKit Go.Proofs.YtohhobcipfmkbaaW.PrintWords Go.Proofs.YtohhobcipfmkbaaW.PrintMore Go.Proofs.YtohhobcipfmkbaaW.PrintLast Go.Proofs.Ytohhobcipfmkbaa.U Go.Proofs.Ytohhobcipfmkbaa.PClusterFinest Go.Proofs.Ytohhobcipfmkbaa.CFin
set_option linter.unusedVariables false
set_option linter.unusedSimpArgs false
theorem below_grown2 {B : Nat} {a w w' : World} {row : Option Nat} (h : Below B a w) (hB : B ≤ a.heap.size) (hg : w.grownBy w' row) (hr : ∀ k, row = some k → B ≤ k) : Below B a w' :=
  ⟨hg.os.trans h.os, hg.tape.trans h.tape, hg.output.trans h.output, Nat.le_trans h.size hg.size, fun k hk => (hg.block k (by have := h.size; omega) (fun e => by have := hr k e.symm; omega)).trans (h.block k hk)⟩
theorem own_hat {N M : Nat} {u v : Value} (h : ∀ k, u.ownBlock = some k → N ≤ k) (hat : v.ownBlock = u.ownBlock ∨ ∃ b, v.ownBlock = some b ∧ M ≤ b) (hNM : N ≤ M) : ∀ k, v.ownBlock = some k → N ≤ k := fun k hk => by
  rcases hat with e | ⟨b, e, hb⟩
  · exact h k (by rw [← e]; exact hk)
  · rw [e] at hk
    injection hk with hk
    omega
end Go.Proofs.Ytohhobcipfmkbaa.CSort
