/- Texts laid together: F22 F23. -/
import Derived.Test.YtkknhcpjiehgiaaDoorFD
import Derived.Test.YtkknhcpjiehgiaaDoorPC
import Derived.Test.YtkknhcpjiehgiaaDoorWC
import Derived.Test.YtkknhcpjiehgiaaDoorFE
/- Contracts: StandardAutomorphisms, SymmetryType, on both sides. -/
namespace Go.Proofs.YtkknhcpjiehgiaaDoor
open Go.Mem Go.RowKit
set_option linter.unusedVariables false


theorem l01Own_any (v : Value) (xs : List Int) (w : World) (hv : IL w v xs) (hl : xs.length ≤ 1000000) :
    Ret Tryd.prog 42 #[v] w fun r w' => OI w' w.heap.size 2 r xs ∧ Below w.heap.size w w' := by
  refine enter1 6 Tryd.func42 rfl Tryd.ntmps42 rfl (fun fr => ?_)
  refine go ?_
  refine s_build0 (B := w.heap.size) (wn rfl) rfl (Nat.le_refl _) (fun ob w1 ho so hg1 _ => ?_)
  have hb1 := below_of_grownBy hg1
  have hv := hv.below hb1
  have h1 := hb1.size
  refine go ?_
  refine s_appendI (wn rfl) rfl rfl rfl ho hv (by simp; omega) h1 (fun ob' w2 ho2 so2 hg2 _ => ?_)
  have hb2 := hb1.trans (ho.below_of hg2 h1)
  refine go ?_
  exact end_one Tryd.results42 rfl ⟨by simpa using ho2, hb2⟩

theorem move_comm {ms : List (List Int)} (hm : IsMan ms) {j : Nat} (hj : j < ms.length) : Comm (nf ms) (auts ms) (gr ms j) := by
  refine ⟨(hm.syst.row (j := (j : Int)) (by omega) (by omega)).1, fun x h0 hx => hm.syst.at (j := (j : Int)) (by omega) (by omega) ⟨h0, hx⟩, fun p hp x h0 hx => ?_⟩
  exact (((mem_auts hm).1 hp).mv j hj x h0 hx).symm
theorem map_take_succ {g : List Int → List Int} {ms : List (List Int)} {i : Nat} (h : i < ms.length) : (ms.take (i + 1)).map g = (ms.take i).map g ++ [g (gr ms i)] := by
  rw [List.take_succ_eq_append_getElem h, List.map_append]
  simp [gr, List.getD, h]

end Go.Proofs.YtkknhcpjiehgiaaDoor

/- Contracts: coverings given, fibres; FibreOf, on both sides. -/
namespace Go.Proofs.YtkknhcpjiehgiaaDoor
open Go.Mem Go.RowKit
set_option linter.unusedVariables false
end Go.Proofs.YtkknhcpjiehgiaaDoor
