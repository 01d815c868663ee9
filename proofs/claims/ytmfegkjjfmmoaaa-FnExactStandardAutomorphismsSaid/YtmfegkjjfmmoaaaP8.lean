/- Plain words: what the laws' own helpers say. No program in sight. -/
import Derived.Test.YtmfegkjjfmmoaaaP7
import Derived.Test.YtmfegkjjfmmoaaaBv
namespace Go.Mem
open Go.RowKit
theorem SV.le {v : Value} {m : Nat} (h : SV v m) : m ≤ 9223372036854775807 := by
  obtain ⟨_, _, _, _, h2⟩ := h.out
  simpa [maxLen] using h2
/-- z is what is left of 'left' behind the rows -/
structure SzR (xss : List (List Int)) (left z : Int) : Prop where
  lo : -1 ≤ z
  hi : z ≤ left
  all : 0 ≤ z → (xss.length : Int) ≤ left ∧ ∀ xs ∈ xss, (xs.length : Int) ≤ left
theorem gr_in {xss : List (List Int)} {j : Nat} (h : j < xss.length) : gr xss j ∈ xss := by simp [gr, List.getD, h]
theorem rows_ext {xss yss : List (List Int)} (hl : xss.length = yss.length) (h : ∀ j : Nat, j < xss.length → gr xss j = gr yss j) : xss = yss := by
  refine List.ext_getElem hl fun j h1 h2 => ?_
  have := h j h1
  simpa [gr, List.getD, h1, h2] using this

/-- what is written elsewhere leaves them alone -/
theorem OM.kept {w w' : World} {B E : Nat} {T U : TypeId} {v : Value} {xss : List (List Int)} {g : Nat} (h : OM w B E T U v xss) (hg : w.grownBy w' (some g)) (hB : g < B) : OM w' B E T U v xss := by
  obtain ⟨vs, h1, h2, h3, h4, h5, h6⟩ := h.out
  have ne : ∀ (u : Value) (l : ∀ k, u.ownBlock = some k → B ≤ k ∧ k < w.heap.size), u.ownBlock = none ∨ u.ownBlock ≠ some g := fun u l => by
    cases e : u.ownBlock with
    | none => exact .inl rfl
    | some k => refine .inr fun e' => ?_; cases e'; have := (l g e).1; omega
  exact ⟨vs, h1.kept hg (ne _ h1.lt), h2, h3, fun i u xs hu hx => (h4 i u xs hu hx).kept hg (ne _ (h4 i u xs hu hx).lt), h5, h6⟩
/-- the first i rows lie there: each owned, in its own block below E; the rest is untouched -/
structure OMp (w : World) (B E : Nat) (T U : TypeId) (v : Value) (m : Nat) (xss : List (List Int)) : Prop where
  out : ∃ vs, Own w B T v vs ∧ (∀ u ∈ vs, u.oneCell' = true) ∧ vs.length = m ∧ xss.length ≤ m ∧ (∀ (i : Nat) u xs, vs[i]? = some u → xss[i]? = some xs → OI w B U u xs) ∧
    (∀ (i : Nat) u, i < xss.length → vs[i]? = some u → ∀ g, u.ownBlock = some g → g < E) ∧
    ∀ (i j : Nat) u u', i < j → j < xss.length → vs[i]? = some u → vs[j]? = some u' → u.ownBlock = none ∨ u.ownBlock ≠ u'.ownBlock
section
variable {w w' : World} {B E : Nat} {T U : TypeId} {v : Value} {xss : List (List Int)} {m : Nat}
theorem OMp.sv (h : OMp w B E T U v m xss) : SV v m := by
  obtain ⟨vs, h1, _, h3, _⟩ := h.out
  exact h3 ▸ h1.rd.sv
theorem OMp.below (h : OMp w B E T U v m xss) (hb : Below w.heap.size w w') : OMp w' B E T U v m xss := by
  obtain ⟨vs, h1, h2, h3, h3', h4, h5, h6⟩ := h.out
  exact ⟨vs, h1.below hb, h2, h3, h3', fun i u xs hu hx => (h4 i u xs hu hx).below hb, h5, h6⟩
theorem OMp.start {z : Value} (h : Own w B T v (List.replicate m z)) (hz : z.oneCell' = true) : OMp w B E T U v m [] :=
  ⟨_, h, by intro u hu; rw [(List.mem_replicate.1 hu).2]; exact hz, by simp, by simp, by simp, by simp, by simp⟩
theorem OMp.wide {E' : Nat} (h : OMp w B E T U v m xss) (hE : E ≤ E') : OMp w B E' T U v m xss := by
  obtain ⟨vs, h1, h2, h3, h3', h4, h5, h6⟩ := h.out
  exact ⟨vs, h1, h2, h3, h3', h4, fun i u hi hu g hg => Nat.lt_of_lt_of_le (h5 i u hi hu g hg) hE, h6⟩
theorem OMp.done (h : OMp w B E T U v m xss) (hm : xss.length = m) : OM w B E T U v xss := by
  obtain ⟨vs, h1, h2, h3, h3', h4, h5, h6⟩ := h.out
  refine ⟨vs, h1, h2, by omega, h4, fun i u hu => h5 i u ?_ hu, fun i j u u' hij hu hu' => h6 i j u u' hij ?_ hu hu'⟩
  · have := (List.getElem?_eq_some_iff.1 hu).1; omega
  · have := (List.getElem?_eq_some_iff.1 hu').1; omega
theorem OMp.below_of (h : OMp w B E T U v m xss) (hg : w.grownBy w' v.ownBlock) (hB : B ≤ w.heap.size) : Below B w w' := by
  obtain ⟨vs, h1, _⟩ := h.out
  exact grownBy_below hg hB (fun k hk => (h1.lt k hk).1)
theorem s_storeM {P : Program} {ops : Array Oper} {Q : Exit → Fm → World → Prop} {n : Nat} {f : Fm} {rest : List Oper} {ty : TypeId} {pos : String} {after : Array Edge} {g : Option (Nat × Bool)}
    {z : Value} {bytes : Nat} [he : CellTy P T z bytes] {x y : Operand} {u : Value} {xs : List Int} {j : Int}
    (hw : Wants ⟨none, .store T x y, ty, pos, after, g⟩ ops n f)
    (hx : lk n f x = some (.pointer (some (addrOf v j.toNat)))) (hy : lk n f y = some u) (hv : OMp w B E T U v m xss) (hu : OI w E U u xs) (hBE : B ≤ E) (hT : T ≠ U) (hj : j = xss.length) (hm : xss.length < m)
    (k : ∀ w', OMp w' B w'.heap.size T U v m (xss ++ [xs]) → w.grownBy w' v.ownBlock → WL P ops Q rest n f w') :
    WL P ops Q (⟨none, .store T x y, ty, pos, after, g⟩ :: rest) n f w := by
  obtain ⟨vs, h1, h2, h3, h3', h4, h5, h6⟩ := hv.out
  have hjn : j.toNat = xss.length := by omega
  refine s_store hw hx hy hu.sv.one h1 (by omega) fun w' ho hg => k w' ?_ hg
  rw [hjn] at ho
  have hsz := hg.size
  have old : ∀ (i : Nat) a, i < xss.length → (vs.set xss.length u)[i]? = some a → vs[i]? = some a := fun i a hi ha => by
    rwa [List.getElem?_set, if_neg (by omega)] at ha
  have new : ∀ a, (vs.set xss.length u)[xss.length]? = some a → a = u := fun a ha => by
    rw [List.getElem?_set, if_pos rfl, if_pos (by omega)] at ha
    simpa using ha.symm
  refine ⟨_, ho, ?_, by simpa using h3, by simp; omega, ?_, ?_, ?_⟩
  · intro a ha
    rcases List.mem_or_eq_of_mem_set ha with ha | ha
    · exact h2 a ha
    · subst ha; exact hu.sv.one
  · intro i a ys ha hys
    rw [List.getElem?_append] at hys
    split at hys
    · rename_i hlt
      have hr := h4 i a ys (old i a hlt ha) hys
      exact hr.kept hg (hr.own.apart_type h1 (fun e => hT e.symm))
    · rename_i hlt
      have hi : i = xss.length := by
        have := (List.getElem?_eq_some_iff.1 hys).1
        simp at this; omega
      subst hi
      simp at hys
      subst hys
      obtain rfl := new a ha
      exact (hu.mono hBE).kept hg (hu.own.apart_type h1 (fun e => hT e.symm))
  · intro i a hi ha g' hg'
    simp at hi
    by_cases hlt : i < xss.length
    · have hxi : xss[i]? = some xss[i] := by simp [hlt]
      have := ((h4 i a _ (old i a hlt ha) hxi).lt g' hg').2
      omega
    · obtain rfl : i = xss.length := by omega
      obtain rfl := new a ha
      have := (hu.lt g' hg').2
      omega
  · intro i i' a b hii hi' ha hb
    simp at hi'
    by_cases hlt : i' < xss.length
    · exact h6 i i' a b hii hlt (old i a (by omega) ha) (old i' b hlt hb)
    · obtain rfl : i' = xss.length := by omega
      obtain rfl := new b hb
      cases e1 : a.ownBlock with
      | none => exact .inl rfl
      | some g1 =>
        refine .inr fun e2 => ?_
        have := h5 i a (by omega) (old i a (by omega) ha) g1 e1
        have := (hu.lt g1 e2.symm).1
        omega
end
end Go.Mem
