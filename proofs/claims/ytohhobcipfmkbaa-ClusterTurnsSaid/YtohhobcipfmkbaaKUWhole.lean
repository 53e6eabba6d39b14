/- Texts of this claim, cut to what it needs. -/
import Derived.Test.YtohhobcipfmkbaaKCChk1
namespace Go.Proofs.Ytohhobcipfmkbaa.UWhole
open Go.Proofs.Ytohhobcipfmkbaa.PClusterFinest Go.Proofs.Ytohhobcipfmkbaa.UFinest Go.Proofs.Ytohhobcipfmkbaa.UFinEv Go.Proofs.Ytohhobcipfmkbaa.CFin Go.Proofs.Ytohhobcipfmkbaa.CSort
set_option linter.unusedVariables false
set_option linter.unusedSimpArgs false
def one (i : Nat) : S33 := ⟨(i : Int), (i : Int) + 1⟩
def idS (n : Nat) : List S45 := (List.range n).map fun i => ⟨one i, one i⟩
theorem idS_len (n : Nat) : (idS n).length = n := by simp [idS]
end Go.Proofs.Ytohhobcipfmkbaa.UWhole
