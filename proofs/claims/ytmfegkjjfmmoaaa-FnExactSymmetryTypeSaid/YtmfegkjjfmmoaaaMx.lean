/- The walk's own words, continued: nil slices; lists of lists that the call owns, rows and all. Over any program. -/
import Derived.Test.YtmfegkjjfmmoaaaBt
import Derived.WalkSpells
namespace Go.Mem
open Go.RowKit

/-- the value is a nil slice -/
def nilV : Value → Bool
  | .slice none _ _ => true
  | _ => false
theorem nilV_of {v : Value} {m : Nat} (h : SV v m) (hm : m ≠ 0) : nilV v = false := by
  obtain ⟨a, cap, rfl, h1, _⟩ := h.out
  cases a with
  | none => exact absurd rfl (h1 hm)
  | some a => rfl
theorem SV.one {v : Value} {m : Nat} (h : SV v m) : v.oneCell' = true := by
  obtain ⟨a, cap, rfl, _⟩ := h.out
  rfl
section
variable {P : Program} {n : Nat} {f : Fm} {w : World} {dst : Option Tmp} {ty : TypeId} {pos : String} {after : Array Edge} {g : Option (Nat × Bool)}
theorem y_neqNil {x : Operand} {t e ty' : TypeId} [ht : SliceTy P t e] {v : Value} {m : Nat} (hx : lk n f x = some v) (hv : SV v m) :
    Yld P (evo n f) ⟨dst, .binOp .neq t x (.const (.slice none 0 0)) ty', ty, pos, after, g⟩ w (.bool (!nilV v)) := by
  replace hx := lk_evo hx
  obtain ⟨a, cap, rfl, h1, _⟩ := hv.out
  have hc : evo n f (.const (.slice none 0 0)) = .slice none 0 0 := rfl
  have h := run_neq_slice_nil_any (P := P) w t e a m cap 0 0 ht.under
  constructor
  cases a <;> simp [execOp, hx, hc, eqGuard, nilV, h]
theorem y_eqlNil {x : Operand} {t e ty' : TypeId} [ht : SliceTy P t e] {v : Value} {m : Nat} (hx : lk n f x = some v) (hv : SV v m) :
    Yld P (evo n f) ⟨dst, .binOp .eql t x (.const (.slice none 0 0)) ty', ty, pos, after, g⟩ w (.bool (nilV v)) := by
  replace hx := lk_evo hx
  obtain ⟨a, cap, rfl, h1, _⟩ := hv.out
  have hc : evo n f (.const (.slice none 0 0)) = .slice none 0 0 := rfl
  have h : (binOp .eql t (.slice a m cap) (.slice none 0 0)).run P w = .ok (.bool a.isNone) w := by
    simp only [binOp]
    simp [Op.equal, Op.maxDepth, Lib.run_equalIn_slice_nil w 9999 t e a m cap 0 0 ht.under]
  constructor
  cases a <;> simp [execOp, hx, hc, eqGuard, nilV, h]
/-- t is the type bool -/
class BoolTy (P : Program) (t : TypeId) : Prop where
  under : P.underlying t = some .bool
theorem y_neqB {x y : Operand} {t ty' : TypeId} [ht : BoolTy P t] {a b : Bool} (hx : lk n f x = some (.bool a)) (hy : lk n f y = some (.bool b)) :
    Yld P (evo n f) ⟨dst, .binOp .neq t x y ty', ty, pos, after, g⟩ w (.bool (decide (a ≠ b))) := by
  replace hx := lk_evo hx
  replace hy := lk_evo hy
  constructor
  cases a <;> cases b <;> simp [execOp, hx, hy, eqGuard, binOp, run_equal_bool w t _ _ ht.under]
theorem y_eqlB {x y : Operand} {t ty' : TypeId} [ht : BoolTy P t] {a b : Bool} (hx : lk n f x = some (.bool a)) (hy : lk n f y = some (.bool b)) :
    Yld P (evo n f) ⟨dst, .binOp .eql t x y ty', ty, pos, after, g⟩ w (.bool (decide (a = b))) := by
  replace hx := lk_evo hx
  replace hy := lk_evo hy
  constructor
  cases a <;> cases b <;> simp [execOp, hx, hy, eqGuard, binOp, run_equal_bool w t _ _ ht.under]
end

/-- OWNING a list of lists: v lies in a block from B on; so do the rows, in blocks below E, each in its own. -/
structure OM (w : World) (B E : Nat) (T U : TypeId) (v : Value) (xss : List (List Int)) : Prop where
  out : ∃ vs, Own w B T v vs ∧ (∀ u ∈ vs, u.oneCell' = true) ∧ vs.length = xss.length ∧ (∀ (i : Nat) u xs, vs[i]? = some u → xss[i]? = some xs → OI w B U u xs) ∧
    (∀ (i : Nat) u, vs[i]? = some u → ∀ g, u.ownBlock = some g → g < E) ∧
    ∀ (i j : Nat) u u', i < j → vs[i]? = some u → vs[j]? = some u' → u.ownBlock = none ∨ u.ownBlock ≠ u'.ownBlock
section
variable {w w' : World} {B E : Nat} {T U : TypeId} {v : Value} {xss : List (List Int)}
theorem OM.rl (h : OM w B E T U v xss) : RL w v xss := by
  obtain ⟨vs, h1, _, h2, h3, _⟩ := h.out
  exact ⟨vs, h1.rd, h2, fun i u xs hu hx => (h3 i u xs hu hx).il⟩
theorem OM.sv (h : OM w B E T U v xss) : SV v xss.length := h.rl.sv
theorem OM.below (h : OM w B E T U v xss) (hb : Below w.heap.size w w') : OM w' B E T U v xss := by
  obtain ⟨vs, h1, h2, h3, h4, h5, h6⟩ := h.out
  exact ⟨vs, h1.below hb, h2, h3, fun i u xs hu hx => (h4 i u xs hu hx).below hb, h5, h6⟩
theorem OM.mono {B' : Nat} (h : OM w B E T U v xss) (hB : B' ≤ B) : OM w B' E T U v xss := by
  obtain ⟨vs, h1, h2, h3, h4, h5, h6⟩ := h.out
  exact ⟨vs, h1.mono hB, h2, h3, fun i u xs hu hx => (h4 i u xs hu hx).mono hB, h5, h6⟩
theorem OM.top (h : OM w B E T U v xss) : OM w B w.heap.size T U v xss := by
  obtain ⟨vs, h1, h2, h3, h4, h5, h6⟩ := h.out
  refine ⟨vs, h1, h2, h3, h4, fun i u hu g hg => ?_, h6⟩
  have hi : i < xss.length := by rw [← h3]; exact (List.getElem?_eq_some_iff.1 hu).1
  exact ((h4 i u xss[i] hu (by simp [hi])).lt g hg).2
theorem OM.wide {E' : Nat} (h : OM w B E T U v xss) (hE : E ≤ E') : OM w B E' T U v xss := by
  obtain ⟨vs, h1, h2, h3, h4, h5, h6⟩ := h.out
  exact ⟨vs, h1, h2, h3, h4, fun i u hu g hg => Nat.lt_of_lt_of_le (h5 i u hu g hg) hE, h6⟩
theorem OM.nil (w : World) (B E : Nat) (T U : TypeId) : OM w B E T U (.slice none 0 0) [] :=
  ⟨[], Own.nil w B T, by simp, rfl, by simp, by simp, by simp⟩
theorem OM.empty (h : Own w B T v []) : OM w B E T U v [] := ⟨[], h, by simp, rfl, by simp, by simp, by simp⟩
theorem OM.below_of (h : OM w B E T U v xss) (hg : w.grownBy w' v.ownBlock) (hB : B ≤ w.heap.size) : Below B w w' := by
  obtain ⟨vs, h1, _⟩ := h.out
  exact grownBy_below hg hB (fun k hk => (h1.lt k hk).1)
/-- a row, as it is owned -/
theorem OM.row (h : OM w B E T U v xss) {j : Int} (h0 : 0 ≤ j) (hj : j < xss.length) : ∃ u, OI w B U u (gr xss j) ∧ w.cell? (addrOf v j.toNat) = some u := by
  obtain ⟨vs, h1, h2, h3, h4, _⟩ := h.out
  have hlt : j.toNat < vs.length := by omega
  have hlt' : j.toNat < xss.length := by omega
  refine ⟨vs[j.toNat], ?_, h1.rd.cell (by simp [hlt])⟩
  refine h4 j.toNat _ _ (by simp [hlt]) ?_
  simp [gr, List.getD, hlt']
end

section steps
variable {P : Program} {ops : Array Oper} {Q : Exit → Fm → World → Prop} {n : Nat} {f : Fm} {w : World} {rest : List Oper} {ty : TypeId} {pos : String} {after : Array Edge} {g : Option (Nat × Bool)} {d : Nat}
/-- []T{u} for a value of one cell -/
theorem s_build1V {B : Nat} {t e : TypeId} {z : Value} {bytes : Nat} {x : Operand} {u : Value} [ht : SliceTy P t e] [he : CellTy P e z bytes]
    (hw : Wants ⟨some d, .buildSlice t 1 #[(0, x)], ty, pos, after, g⟩ ops n f) (hd : Nat.ble (d + 1) n = true)
    (hx : lk n f x = some u) (hu : u.oneCell' = true) (hB : B ≤ w.heap.size)
    (k : ∀ v w', Own w' B e v [u] → SV v 1 → w.grownBy w' none → v.ownBlock = some w.heap.size → WL P ops Q rest n (.upd f d v) w') :
    WL P ops Q (⟨some d, .buildSlice t 1 #[(0, x)], ty, pos, after, g⟩ :: rest) n f w :=
  s_build [u] hw hd (by simp [lk_evo hx]) (by decide) rfl (by simpa using hu) hB fun v w' ho hg hb => k v w' ho ho.rd.sv hg hb
/-- append(v, u), u a new row -/
theorem s_appendM {B E : Nat} {t e U : TypeId} {z : Value} {bytes : Nat} [ht : SliceTy P t e] [he : CellTy P e z bytes] {x y : Operand} {v sv u : Value} {xss : List (List Int)} {xs : List Int}
    (hw : Wants ⟨some d, .call ⟨.builtin .append, #[x, y], #[t, t]⟩, ty, pos, after, g⟩ ops n f) (hd : Nat.ble (d + 1) n = true)
    (hx : lk n f x = some v) (hy : lk n f y = some sv) (hv : OM w B E e U v xss) (hs : Rd w sv [u]) (hu : OI w E U u xs) (hBE : B ≤ E) (hT : e ≠ U) (hlen : xss.length + 1 ≤ 1000000000000) (hB : B ≤ w.heap.size)
    (k : ∀ v' w', OM w' B w'.heap.size e U v' (xss ++ [xs]) → SV v' (xss.length + 1) → w.grownBy w' v.ownBlock → WL P ops Q rest n (.upd f d v') w') :
    WL P ops Q (⟨some d, .call ⟨.builtin .append, #[x, y], #[t, t]⟩, ty, pos, after, g⟩ :: rest) n f w := by
  obtain ⟨vs, h1, h2, h3, h4, h5, h6⟩ := hv.out
  refine s_append hw hd hx hy h1 hs (by intro a ha; simp at ha; subst ha; exact hu.sv.one) (by simp; omega) hB fun v' w' ho hg hb => ?_
  have hOM : OM w' B w'.heap.size e U v' (xss ++ [xs]) := by
    refine OM.top (E := w'.heap.size) ⟨vs ++ [u], ho, ?_, by simp [h3], ?_, ?_, ?_⟩
    · intro a ha
      rcases List.mem_append.1 ha with ha | ha
      · exact h2 a ha
      · simp at ha; subst ha; exact hu.sv.one
    · intro i a ys ha hys
      rw [List.getElem?_append] at ha hys
      rw [h3] at ha
      split at ha
      · rename_i hlt
        rw [if_pos hlt] at hys
        have hr := h4 i a ys ha hys
        exact hr.kept hg (hr.own.apart_type h1 (fun e => hT e.symm))
      · rename_i hlt
        rw [if_neg hlt] at hys
        have hi : i - xss.length = 0 := by
          have := (List.getElem?_eq_some_iff.1 ha).1
          simpa using this
        rw [hi] at ha hys
        simp at ha hys
        subst ha hys
        exact (hu.mono hBE).kept hg (hu.own.apart_type h1 (fun e => hT e.symm))
    · intro i a ha g' hg'
      have hsz := hg.size
      rw [List.getElem?_append] at ha
      split at ha
      · rename_i hlt
        have := ((h4 i a (xss[i]'(by omega)) ha (by simp)).lt g' hg').2
        omega
      · have : a = u := by
          have := List.mem_of_getElem? ha
          simpa using this
        subst this
        have := (hu.lt g' hg').2
        omega
    · intro i j a b hij ha hb'
      rw [List.getElem?_append] at ha hb'
      split at hb'
      · rename_i hlt
        rw [if_pos (by omega)] at ha
        exact h6 i j a b hij ha hb'
      · rename_i hge
        have hbu : b = u := by
          have := List.mem_of_getElem? hb'
          simpa using this
        subst hbu
        have hjl := (List.getElem?_eq_some_iff.1 hb').1
        simp at hjl
        rw [if_pos (by omega)] at ha
        cases e1 : a.ownBlock with
        | none => exact .inl rfl
        | some g1 =>
          refine .inr fun e2 => ?_
          have := h5 i a ha g1 e1
          have := (hu.lt g1 e2.symm).1
          omega
  exact k v' w' hOM (by simpa using hOM.sv) hg
end steps
end Go.Mem
