/- The walk's own words, continued: rows that the call owns, and what is read beside them. Over any program. -/
import Derived.Test.YtmfegkjjfmmoaaaCl
import Derived.Test.YtmfegkjjfmmoaaaP10
namespace Go.Mem
open Go.RowKit
section
variable {w w' : World} {B E : Nat} {T U : TypeId} {v : Value} {xss : List (List Int)} {xs : List Int}
/-- what lies between B and E is kept by a turn elsewhere -/
theorem OM.apart2 (h : OM w B E T U v xss) (hv : ∀ g, v.ownBlock = some g → g < E) {r : Option Nat} (hg : w.grownBy w' r) (hr : ∀ g, r = some g → g < B ∨ E ≤ g) : OM w' B E T U v xss := by
  obtain ⟨vs, h1, h2, h3, h4, h5, h6⟩ := h.out
  have ne : ∀ (u : Value), (∀ g, u.ownBlock = some g → B ≤ g ∧ g < E) → u.ownBlock = none ∨ u.ownBlock ≠ r := fun u hu => by
    cases e : u.ownBlock with
    | none => exact .inl rfl
    | some g =>
      right
      intro e2
      have := hu g e
      have := hr g e2.symm
      omega
  refine ⟨vs, h1.kept hg (ne v fun g e => ⟨(h1.lt g e).1, hv g e⟩), h2, h3, fun i u xs hu hx => ?_, h5, h6⟩
  have hrow := h4 i u xs hu hx
  exact hrow.kept hg (ne u fun g e => ⟨(hrow.lt g e).1, h5 i u hu g e⟩)
theorem OM.ownlt (h : OM w B E T U v xss) : ∀ g, v.ownBlock = some g → B ≤ g ∧ g < w.heap.size := by
  obtain ⟨vs, h1, _⟩ := h.out
  exact h1.lt
theorem OI.apart2 (h : OI w B T v xs) (hv : ∀ g, v.ownBlock = some g → g < E) {r : Option Nat} (hg : w.grownBy w' r) (hr : ∀ g, r = some g → g < B ∨ E ≤ g) : OI w' B T v xs := by
  refine h.kept hg ?_
  cases e : v.ownBlock with
  | none => exact .inl rfl
  | some g =>
    right
    intro e2
    have := h.lt g e
    have := hv g e
    have := hr g e2.symm
    omega
end
/-- append(v, u), u a new row; where the list lies then -/
theorem s_appendM2 {P : Program} {ops : Array Oper} {Q : Exit → Fm → World → Prop} {n : Nat} {f : Fm} {w : World} {rest : List Oper} {ty : TypeId} {pos : String} {after : Array Edge} {g : Option (Nat × Bool)} {d : Nat}
    {B E : Nat} {t e U : TypeId} {z : Value} {bytes : Nat} [ht : SliceTy P t e] [he : CellTy P e z bytes] {x y : Operand} {v sv u : Value} {xss : List (List Int)} {xs : List Int}
    (hw : Wants ⟨some d, .call ⟨.builtin .append, #[x, y], #[t, t]⟩, ty, pos, after, g⟩ ops n f) (hd : Nat.ble (d + 1) n = true)
    (hx : lk n f x = some v) (hy : lk n f y = some sv) (hv : OM w B E e U v xss) (hs : Rd w sv [u]) (hu : OI w E U u xs) (hBE : B ≤ E) (hT : e ≠ U) (hlen : xss.length + 1 ≤ 1000000000000) (hB : B ≤ w.heap.size)
    (k : ∀ v' w', OM w' B w'.heap.size e U v' (xss ++ [xs]) → SV v' (xss.length + 1) → w.grownBy w' v.ownBlock → (v'.ownBlock = v.ownBlock ∨ v'.ownBlock = some w.heap.size) → WL P ops Q rest n (.upd f d v') w') :
    WL P ops Q (⟨some d, .call ⟨.builtin .append, #[x, y], #[t, t]⟩, ty, pos, after, g⟩ :: rest) n f w := by
  obtain ⟨vs, h1, h2, h3, h4, h5, h6⟩ := hv.out
  refine s_append hw hd hx hy h1 hs (by intro a ha; simp at ha; subst ha; exact hu.sv.one) (by simp; omega) hB fun v' w' ho hg hb => ?_
  have hOM : OM w' B w'.heap.size e U v' (xss ++ [xs]) := by
    refine OM.top (E := w'.heap.size) ⟨vs ++ [u], ho, ?_, by simp [h3], ?_, ?_, ?_⟩
    · intro a ha
      rcases List.mem_append.1 ha with ha | ha
      · exact h2 a ha
      · simp at ha; subst ha; exact hu.sv.one
    · intro i a ys ha hys
      rw [List.getElem?_append] at ha hys
      rw [h3] at ha
      split at ha
      · rename_i hlt
        rw [if_pos hlt] at hys
        have hr := h4 i a ys ha hys
        exact hr.kept hg (hr.own.apart_type h1 (fun e => hT e.symm))
      · rename_i hlt
        rw [if_neg hlt] at hys
        have hi : i - xss.length = 0 := by
          have := (List.getElem?_eq_some_iff.1 ha).1
          simpa using this
        rw [hi] at ha hys
        simp at ha hys
        subst ha hys
        exact (hu.mono hBE).kept hg (hu.own.apart_type h1 (fun e => hT e.symm))
    · intro i a ha g' hg'
      have hsz := hg.size
      rw [List.getElem?_append] at ha
      split at ha
      · rename_i hlt
        have := ((h4 i a (xss[i]'(by omega)) ha (by simp)).lt g' hg').2
        omega
      · have : a = u := by
          have := List.mem_of_getElem? ha
          simpa using this
        subst this
        have := (hu.lt g' hg').2
        omega
    · intro i j a b hij ha hb'
      rw [List.getElem?_append] at ha hb'
      split at hb'
      · rename_i hlt
        rw [if_pos (by omega)] at ha
        exact h6 i j a b hij ha hb'
      · rename_i hge
        have hbu : b = u := by
          have := List.mem_of_getElem? hb'
          simpa using this
        subst hbu
        have hjl := (List.getElem?_eq_some_iff.1 hb').1
        simp at hjl
        rw [if_pos (by omega)] at ha
        cases e1 : a.ownBlock with
        | none => exact .inl rfl
        | some g1 =>
          refine .inr fun e2 => ?_
          have := h5 i a ha g1 e1
          have := (hu.lt g1 e2.symm).1
          omega
  exact k v' w' hOM (by simpa using hOM.sv) hg hb
end Go.Mem
