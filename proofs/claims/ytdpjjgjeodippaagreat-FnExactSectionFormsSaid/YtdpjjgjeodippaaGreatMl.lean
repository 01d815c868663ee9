/- Memory words for lists of maniplexes: a slice of structs, each of which holds rows. Over any program. -/
import Derived.Test.YtdpjjgjeodippaaGreatEl
import Derived.Test.YtdpjjgjeodippaaGreatF45
namespace Go.Mem
open Go.RowKit
set_option linter.unusedVariables false
/-- the values vs are maniplexes with the rows mss, in memory of the program's own making -/
structure Els (w : World) (T U : TypeId) (vs : List Value) (mss : List (List (List Int))) : Prop where
  len : vs.length = mss.length
  row : ∀ (i : Nat) u xss, vs[i]? = some u → mss[i]? = some xss → ∃ B E, OM w B E T U u xss
/-- an owned list of maniplexes -/
structure ML (w : World) (B : Nat) (TM T U : TypeId) (v : Value) (mss : List (List (List Int))) : Prop where
  out : ∃ vs, Own w B TM v vs ∧ Els w T U vs mss
section
variable {w w' : World} {B B' : Nat} {TM T U : TypeId} {v u : Value} {vs us : List Value} {mss kss : List (List (List Int))} {xss : List (List Int)}
theorem Els.one (h : Els w T U vs mss) : ∀ u ∈ vs, u.oneCell' = true := fun u hu => by
  obtain ⟨i, hi, rfl⟩ := List.getElem_of_mem hu
  have hl := h.len
  obtain ⟨B, E, ho⟩ := h.row i vs[i] (mss[i]'(by omega)) (by simp) (by simp)
  exact ho.sv.one
theorem Els.below (h : Els w T U vs mss) (hb : Below w.heap.size w w') : Els w' T U vs mss :=
  ⟨h.len, fun i u xss hu hx => by obtain ⟨B, E, ho⟩ := h.row i u xss hu hx; exact ⟨B, E, ho.below hb⟩⟩
theorem Els.kept (h : Els w T U vs mss) (ho : Own w B' TM u us) (h1 : T ≠ TM) (h2 : U ≠ TM) (hg : w.grownBy w' u.ownBlock) : Els w' T U vs mss :=
  ⟨h.len, fun i a xss ha hx => by obtain ⟨B, E, hm⟩ := h.row i a xss ha hx; exact ⟨B, E, hm.kept_type ho h1 (fun e => h2 e.symm) hg⟩⟩
theorem Els.nil (w : World) (T U : TypeId) : Els w T U [] [] := ⟨rfl, by simp⟩
theorem Els.single {E : Nat} (h : OM w B E T U u xss) : Els w T U [u] [xss] := by
  refine ⟨rfl, fun i a ys ha hy => ?_⟩
  match i, ha, hy with
  | 0, ha, hy =>
    obtain rfl := Option.some.inj ha
    obtain rfl := Option.some.inj hy
    exact ⟨_, _, h⟩
theorem Els.app (h : Els w T U vs mss) (k : Els w T U us kss) : Els w T U (vs ++ us) (mss ++ kss) := by
  have hl := h.len
  have kl := k.len
  refine ⟨by simp [hl, kl], fun i a ys ha hy => ?_⟩
  rw [List.getElem?_append] at ha hy
  by_cases hi : i < vs.length
  · rw [if_pos hi] at ha; rw [if_pos (by omega)] at hy; exact h.row i a ys ha hy
  · rw [if_neg hi] at ha; rw [if_neg (by omega), ← hl] at hy; exact k.row _ a ys ha hy
theorem Els.take (h : Els w T U vs mss) (k : Nat) : Els w T U (vs.take k) (mss.take k) := by
  refine ⟨by simp [h.len], fun i a ys ha hy => ?_⟩
  rw [List.getElem?_take] at ha hy
  split at ha
  · rename_i hlt; rw [if_pos hlt] at hy; exact h.row i a ys ha hy
  · cases ha
theorem Els.drop (h : Els w T U vs mss) (k : Nat) : Els w T U (vs.drop k) (mss.drop k) := by
  refine ⟨by simp [h.len], fun i a ys ha hy => ?_⟩
  rw [List.getElem?_drop] at ha hy
  exact h.row _ a ys ha hy
theorem Els.set {E : Nat} (h : Els w T U vs mss) (j : Nat) (hm : OM w B E T U u xss) : Els w T U (vs.set j u) (mss.set j xss) := by
  refine ⟨by simp [h.len], fun i a ys ha hy => ?_⟩
  have hl := h.len
  rw [List.getElem?_set] at ha hy
  by_cases e : j = i
  · subst e
    rw [if_pos rfl] at ha hy
    by_cases hj : j < vs.length
    · rw [if_pos hj] at ha; rw [if_pos (by omega)] at hy
      obtain rfl := Option.some.inj ha
      obtain rfl := Option.some.inj hy
      exact ⟨_, _, hm⟩
    · rw [if_neg hj] at ha; cases ha
  · rw [if_neg e] at ha hy; exact h.row i a ys ha hy
theorem ML.sv (h : ML w B TM T U v mss) : SV v mss.length := by
  obtain ⟨vs, h1, h2⟩ := h.out
  rw [← h2.len]; exact h1.rd.sv
theorem ML.below (h : ML w B TM T U v mss) (hb : Below w.heap.size w w') : ML w' B TM T U v mss := by
  obtain ⟨vs, h1, h2⟩ := h.out
  exact ⟨vs, h1.below hb, h2.below hb⟩
theorem ML.mono (h : ML w B TM T U v mss) (hB : B' ≤ B) : ML w B' TM T U v mss := by
  obtain ⟨vs, h1, h2⟩ := h.out
  exact ⟨vs, h1.mono hB, h2⟩
theorem ML.nil (w : World) (B : Nat) (TM T U : TypeId) : ML w B TM T U (.slice none 0 0) [] := ⟨[], Own.nil w B TM, Els.nil w T U⟩
theorem ML.lt (h : ML w B TM T U v mss) : ∀ g, v.ownBlock = some g → B ≤ g ∧ g < w.heap.size := by
  obtain ⟨vs, h1, _⟩ := h.out
  exact h1.lt
theorem ML.below_of (h : ML w B TM T U v mss) (hg : w.grownBy w' v.ownBlock) (hB : B ≤ w.heap.size) : Below B w w' := grownBy_below hg hB (fun k hk => (h.lt k hk).1)
/-- an element -/
theorem ML.el (h : ML w B TM T U v mss) {j : Int} (h0 : 0 ≤ j) (hj : j < mss.length) : ∃ u B' E, OM w B' E T U u (mss.getD j.toNat []) ∧ w.cell? (addrOf v j.toNat) = some u := by
  obtain ⟨vs, h1, h2⟩ := h.out
  have hl := h2.len
  have hlt : j.toNat < vs.length := by omega
  have hlm : j.toNat < mss.length := by omega
  have hu : vs[j.toNat]? = some vs[j.toNat] := by simp [hlt]
  obtain ⟨B', E, ho⟩ := h2.row j.toNat _ (mss[j.toNat]) hu (by simp [hlm])
  refine ⟨_, B', E, ?_, h1.rd.cell hu⟩
  simpa [List.getD, hlm] using ho
end
end Go.Mem
