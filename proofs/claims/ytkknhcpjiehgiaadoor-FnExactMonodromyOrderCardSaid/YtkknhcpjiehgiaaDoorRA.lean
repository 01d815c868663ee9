/- Texts laid together: Opn Row. -/
import Derived.Test.YtkknhcpjiehgiaaDoorWB
import Derived.ProofKit
import Derived.OpenShut
import Derived.ChangeOld
import Derived.Below
import Derived.Deep.Matrix
import Derived.Test.YtkknhcpjiehgiaaDoorTy
import Derived.WalkKit
import Derived.ShutString
/- Arguments opened, in the walk's own words. Over any program. -/
namespace Go.Mem
open Go.ChangeShapes Go.WideShapes Go.ChangeAt Go.RowKit Go.Deep

section
variable {H : Type} {enc : TypeId × Value → H} {P : Program} {w : World} {base : Nat} {held : Bool}
theorem open_RL {t e q : TypeId} {fuel : Nat} {u : Value} {x : DataW H × List MemPlace} (ht : P.underlying t = some (.slice e)) (he : P.underlying e = some (.slice q)) (hq : P.underlying q = some (.int .i64))
    (ce : P.cellsOf e = 1) (cq : P.cellsOf q = 1) (h : DataW.trod enc P w base (fun _ => true) held fuel t [u] = some x) : ∃ xss, RL w u xss := by
  rcases open_int_rows ht he hq ce cq h with ⟨hu, _⟩ | ⟨a, len, cap, A, L, C, Z, hu, _, hl, hm, _, hr⟩
  · obtain rfl : u = .slice none 0 0 := by simpa using hu
    exact ⟨[], RL.nil w⟩
  · obtain rfl : u = .slice (some a) len cap := by simpa using hu
    refine ⟨(List.range len).map fun r => (Z r).take (L r), (List.range len).map fun r => .slice (A r) (L r) (C r), ?_, by simp, ?_⟩
    · refine ⟨some a, cap, by simp, by simp, by simp; omega, fun i u hu => ?_⟩
      rw [List.getElem?_map] at hu
      by_cases hi : i < len
      · simp [hi] at hu
        subst hu
        exact (hr i (by omega)).1
      · simp [hi] at hu
    · intro i u xs hu hx
      rw [List.getElem?_map] at hu hx
      by_cases hi : i < len
      · simp [hi] at hu hx
        subst hu hx
        obtain ⟨h1, h2, h3, h4, _, h6, h7⟩ := hr i (by omega)
        have hlen : ((Z i).take (L i)).length = L i := by simp; omega
        refine ⟨A i, C i, by simp; omega, fun hne e => ?_, by simp; omega, fun c u hu => ?_⟩
        · have := h6 e
          have h0 : (Z i).take (L i) = [] := List.length_eq_zero_iff.1 (by omega)
          exact hne (by simp [h0])
        · rw [List.getElem?_map] at hu
          by_cases hc : c < L i
          · have hcz : c < (Z i).length := by omega
            simp [hc, hcz] at hu
            subst hu
            cases hA : A i with
            | none => have := h6 hA; omega
            | some a' =>
              have := (h7 a' hA).2 c (by omega)
              simpa [List.getD, hcz, addrOf] using this
          · have : ((Z i).take (L i))[c]? = none := by rw [List.getElem?_eq_none]; omega
            simp [this] at hu
      · simp [hi] at hu
theorem open_IL {t e : TypeId} {fuel : Nat} {u : Value} {x : DataW H × List MemPlace} (ht : P.underlying t = some (.slice e)) (he : P.underlying e = some (.int .i64))
    (ce : P.cellsOf e = 1) (h : DataW.trod enc P w base (fun _ => true) held fuel t [u] = some x) : ∃ xs, IL w u xs := by
  rcases open_ints ht he ce h with ⟨hu, _⟩ | ⟨a, len, cap, zs, hu, _, hl, hm, hz, _, hcell, _⟩
  · obtain rfl : u = .slice none 0 0 := by simpa using hu
    exact ⟨[], IL.nil w⟩
  · obtain rfl : u = .slice (some a) len cap := by simpa using hu
    have hz : zs.length = cap := by simpa using hz
    refine ⟨zs.take len, some a, cap, by simp; omega, by simp, by simp; omega, fun c u hu => ?_⟩
    rw [List.getElem?_map] at hu
    by_cases hc : c < len
    · have hcz : c < zs.length := by omega
      simp [hc, hcz] at hu
      subst hu
      have := hcell c (by omega)
      simpa [List.getD, hcz, addrOf] using this
    · have : (zs.take len)[c]? = none := by rw [List.getElem?_eq_none]; simp; omega
      simp [this] at hu
/-- a struct of one field that holds rows of numbers -/
theorem open_man {s t e q : TypeId} {f0 : Field} {r : Reach} {b0 b : Nat} {v : Value} {d : DataW H} {ps : List MemPlace} (hs : P.underlying s = some (.struct #[f0])) (hf : f0.type = t) (ho : f0.offset = 0) (cs : P.cellsOf s = 1)
    (ht : P.underlying t = some (.slice e)) (ct : P.cellsOf t = 1) (he : P.underlying e = some (.slice q)) (hq : P.underlying q = some (.int .i64)) (ce : P.cellsOf e = 1) (cq : P.cellsOf q = 1)
    (hok : Value.okWide P w r b0 s v) (h : DataW.Trod enc P w b (fun _ => true) held s v d ps) : ∃ u xss, v = .agg #[u] ∧ RL w u xss := by
  obtain ⟨cells, rfl, hsz⟩ := okWide_struct hs hok
  rw [cs] at hsz
  obtain ⟨u, rfl⟩ : ∃ u, cells = #[u] := by
    match cells, hsz with
    | ⟨[u]⟩, _ => exact ⟨u, rfl⟩
  obtain ⟨fuel, hfu⟩ := h
  have hfu : DataW.trod enc P w b (fun _ => true) held fuel s [u] = some (d, ps) := hfu
  obtain ⟨y0, m, _, _, hy⟩ := trod_struct1 hs hfu
  rw [hf, ho, ct] at hy
  obtain ⟨xss, hx⟩ := open_RL ht he hq ce cq (u := u) (by simpa using hy)
  exact ⟨u, xss, rfl, hx⟩
end
end Go.Mem

/- What the rows share: an argument opened. -/
namespace Go.Proofs.YtkknhcpjiehgiaaDoor
open Go.Mem Go.ChangeShapes Go.WideShapes Go.ChangeAt Go.RowKit
set_option linter.unusedVariables false

set_option maxRecDepth 100000 in
theorem own : ownKnob Tryd.prog.godebug = none := by kernel_rfl
set_option maxRecDepth 100000 in
theorem laidOut : laidOutB Tryd.prog = true := by kernel_rfl
section
variable {w : World} {b0 b : Nat} {v : Value} {H : Type} {enc : TypeId × Value → H} {d : DataW H} {ps : List MemPlace}
set_option maxRecDepth 100000 in
/-- an argument that is a maniplex -/
theorem open_arg (hok : Value.okWide Tryd.prog w .any b0 24 v) (h : DataW.Trod enc Tryd.prog w b (fun _ => true) true 24 v d ps) : ∃ u xss, v = .agg #[u] ∧ RL w u xss :=
  open_man Tryd.underlying24 rfl rfl (by kernel_rfl) Tryd.underlying22 (by kernel_rfl) Tryd.underlying40 Tryd.underlying2 (by kernel_rfl) (by kernel_rfl) hok h
set_option maxRecDepth 100000 in
/-- an argument that is a list of numbers -/
theorem open_arg_I (hok : Value.okWide Tryd.prog w .any b0 40 v) (h : DataW.Trod enc Tryd.prog w b (fun _ => true) true 40 v d ps) : ∃ xs, IL w v xs := by
  obtain ⟨a, len, cap, rfl⟩ := okWide_slice Tryd.underlying40 hok
  obtain ⟨fuel, hf⟩ := h
  exact open_IL Tryd.underlying40 Tryd.underlying2 (by kernel_rfl) (u := .slice a len cap) hf
set_option maxRecDepth 100000 in
/-- an argument that is a list of rows -/
theorem open_arg_R (hok : Value.okWide Tryd.prog w .any b0 22 v) (h : DataW.Trod enc Tryd.prog w b (fun _ => true) true 22 v d ps) : ∃ xs, RL w v xs := by
  obtain ⟨a, len, cap, rfl⟩ := okWide_slice Tryd.underlying22 hok
  obtain ⟨fuel, hf⟩ := h
  exact open_RL Tryd.underlying22 Tryd.underlying40 Tryd.underlying2 (by kernel_rfl) (by kernel_rfl) (u := .slice a len cap) hf
set_option maxRecDepth 100000 in
/-- an argument that is a number -/
theorem open_arg_n (hok : Value.okWide Tryd.prog w .any b0 2 v) : ∃ n, v = .int .i64 n := okWide_int Tryd.underlying2 hok
end
end Go.Proofs.YtkknhcpjiehgiaaDoor
