/- Two lists of rows that grow side by side; arrays of two numbers; regions that draw, in which the last operation writes what the others read, with a fact of one's own. Over any program; the last part by program. -/
import Derived.Test.YtablpijnjkncfaaGreatMp
import Derived.Test.YtablpijnjkncfaaGreatWe
namespace Go.Mem
open Go.RowKit
set_option linter.unusedVariables false
section
variable {w w' w1 w2 : World} {B E : Nat} {T U : TypeId} {v u u' : Value} {vs us : List Value} {xss yss : List (List Int)} {ys : List Int}
/-- one row has been written, or has moved to the top -/
theorem Rws.set (h : Rws w B E U vs xss) {j : Nat} (hu : vs[j]? = some u) (hn : OI w' B U u' ys) (hg : w.grownBy w' u.ownBlock) (hE : E ≤ w.heap.size)
    (hb : u'.ownBlock = u.ownBlock ∨ u'.ownBlock = some w.heap.size) : Rws w' B w'.heap.size U (vs.set j u') (xss.set j ys) := by
  have hj : j < vs.length := (List.getElem?_eq_some_iff.1 hu).1
  have hsz := hg.size
  have hlt : ∀ (i : Nat) a, (vs.set j u')[i]? = some a → (i = j ∧ a = u') ∨ (i ≠ j ∧ vs[i]? = some a) := by
    intro i a ha
    rw [List.getElem?_set] at ha
    by_cases e : j = i
    · subst e; rw [if_pos rfl, if_pos hj] at ha; exact .inl ⟨rfl, by simpa using ha.symm⟩
    · rw [if_neg e] at ha; exact .inr ⟨fun e' => e e'.symm, ha⟩
  have hap : ∀ (i : Nat) a, i ≠ j → vs[i]? = some a → a.ownBlock = none ∨ a.ownBlock ≠ u.ownBlock := by
    intro i a hij ha
    rcases Nat.lt_or_gt_of_ne hij with hl | hl
    · exact h.apart i j a u hl ha hu
    · rcases h.apart j i u a hl hu ha with e | e
      · cases e' : a.ownBlock with
        | none => exact .inl rfl
        | some g => right; rw [e]; simp
      · exact .inr fun e' => e e'.symm
  have hap' : ∀ (i : Nat) a, i ≠ j → vs[i]? = some a → a.ownBlock = none ∨ a.ownBlock ≠ u'.ownBlock := by
    intro i a hij ha
    rcases hb with e | e
    · rw [e]; exact hap i a hij ha
    · cases e' : a.ownBlock with
      | none => exact .inl rfl
      | some g => right; rw [e]; have := h.lt i a ha g e'; simp; omega
  refine ⟨fun a ha => ?_, by simp [h.len], fun i a zs ha hz => ?_, fun i a ha g hgb => ?_, fun i k a b hik ha hb2 => ?_⟩
  · obtain ⟨i, hi, e⟩ := List.mem_iff_getElem.1 ha
    rcases hlt i a (by rw [List.getElem?_eq_getElem hi, e]) with ⟨_, rfl⟩ | ⟨_, h2⟩
    · exact hn.sv.one
    · exact h.one a (List.mem_of_getElem? h2)
  · rcases hlt i a ha with ⟨rfl, rfl⟩ | ⟨h1, h2⟩
    · have : i < xss.length := by rw [← h.len]; exact hj
      rw [List.getElem?_set, if_pos rfl, if_pos this] at hz
      simp at hz; subst hz; exact hn
    · rw [List.getElem?_set, if_neg (fun e => h1 e.symm)] at hz
      exact (h.row i a zs h2 hz).kept hg (hap i a h1 h2)
  · rcases hlt i a ha with ⟨rfl, rfl⟩ | ⟨h1, h2⟩
    · exact (hn.lt g hgb).2
    · have := h.lt i a h2 g hgb; omega
  · rcases hlt i a ha with ⟨rfl, rfl⟩ | ⟨h1, h2⟩
    · rcases hlt k b hb2 with ⟨rfl, _⟩ | ⟨h3, h4⟩
      · omega
      · rcases hap' k b h3 h4 with e | e
        · cases e' : a.ownBlock with
          | none => exact .inl rfl
          | some g => right; rw [e]; simp
        · exact .inr fun e' => e e'.symm
    · rcases hlt k b hb2 with ⟨rfl, rfl⟩ | ⟨h3, h4⟩
      · exact hap' i a h1 h2
      · exact h.apart i k a b hik h2 h4
/-- a row more, at the top -/
theorem Rws.snoc (h : Rws w B E U vs xss) (hn : OI w E U u ys) (hB : B ≤ E) : Rws w B w.heap.size U (vs ++ [u]) (xss ++ [ys]) := by
  have k := Rws.one' (E := w.heap.size) hn (fun g hg => (hn.lt g hg).2)
  have hE : E ≤ w.heap.size ∨ ∀ g, u.ownBlock ≠ some g := by
    cases e : u.ownBlock with
    | none => right; simp
    | some g => left; have := hn.lt g e; omega
  rcases hE with hE | hE
  · exact h.app k (.inl (Nat.le_refl _)) (Nat.le_refl _) hB hE (Nat.le_refl _)
  · -- u owns no block
    refine ⟨fun a ha => ?_, by simp [h.len], fun i a zs ha hz => ?_, fun i a ha g hg => ?_, fun i j a b hij ha hb => ?_⟩
    · rcases List.mem_append.1 ha with ha | ha
      · exact h.one a ha
      · simp at ha; subst ha; exact hn.sv.one
    · rw [List.getElem?_append] at ha hz
      rw [h.len] at ha
      split at ha
      · rename_i hi; rw [if_pos hi] at hz; exact h.row i a zs ha hz
      · rename_i hi; rw [if_neg hi] at hz
        exact (k.row _ a zs ha hz).mono hB
    · rw [List.getElem?_append] at ha
      split at ha
      · exact ((h.row i a (xss[i]'(by rw [← h.len]; assumption)) ha (by simp)).lt g hg).2
      · have := (List.getElem?_eq_some_iff.1 ha)
        obtain ⟨h1, h2⟩ := this
        simp at h2; subst h2; exact absurd hg (hE g)
    · rw [List.getElem?_append] at ha hb
      split at ha
      · split at hb
        · exact h.apart i j a b hij ha hb
        · obtain ⟨h1, h2⟩ := List.getElem?_eq_some_iff.1 hb
          simp at h2; subst h2
          cases e : a.ownBlock with
          | none => exact .inl rfl
          | some g => right; exact fun e' => hE g e'.symm
      · obtain ⟨h1, h2⟩ := List.getElem?_eq_some_iff.1 ha
        simp at h2; subst h2
        cases e : u.ownBlock with
        | none => exact .inl rfl
        | some g => exact absurd e (hE g)
theorem Rws.left (h : Rws w B E U (vs ++ us) (xss ++ yss)) (hl : vs.length = xss.length) : Rws w B E U vs xss := by
  have g : ∀ (i : Nat) a, vs[i]? = some a → (vs ++ us)[i]? = some a := fun i a ha => by
    rw [List.getElem?_append_left (List.getElem?_eq_some_iff.1 ha).1]; exact ha
  exact ⟨fun a ha => h.one a (List.mem_append.2 (.inl ha)), hl, fun i a zs ha hz => h.row i a zs (g i a ha) (by rw [List.getElem?_append_left (List.getElem?_eq_some_iff.1 hz).1]; exact hz),
    fun i a ha => h.lt i a (g i a ha), fun i j a b hij ha hb => h.apart i j a b hij (g i a ha) (g j b hb)⟩
theorem Rws.right (h : Rws w B E U (vs ++ us) (xss ++ yss)) (hl : vs.length = xss.length) : Rws w B E U us yss := by
  have hlen := h.len
  simp at hlen
  have g : ∀ (i : Nat) a, us[i]? = some a → (vs ++ us)[vs.length + i]? = some a := fun i a ha => by
    rw [List.getElem?_append_right (by omega), Nat.add_sub_cancel_left]; exact ha
  exact ⟨fun a ha => h.one a (List.mem_append.2 (.inr ha)), by omega, fun i a zs ha hz => h.row (vs.length + i) a zs (g i a ha) (by rw [hl, List.getElem?_append_right (by omega), Nat.add_sub_cancel_left]; exact hz),
    fun i a ha => h.lt _ a (g i a ha), fun i j a b hij ha hb => h.apart _ _ a b (by omega) (g i a ha) (g j b hb)⟩
/-- two owned lists of owned rows: ob (rows that are written), pb (rows that are not) -/
structure Tw (w : World) (B : Nat) (T U : TypeId) (ob pb : Value) (yss xss : List (List Int)) : Prop where
  out : ∃ us vs, Own w B T ob us ∧ Own w B T pb vs ∧ us.length = yss.length ∧ (ob.ownBlock = none ∨ ob.ownBlock ≠ pb.ownBlock) ∧ Rws w B w.heap.size U (us ++ vs) (yss ++ xss)
variable {ob pb : Value}
theorem Tw.below (h : Tw w B T U ob pb yss xss) (hb : Below w.heap.size w w') : Tw w' B T U ob pb yss xss := by
  obtain ⟨us, vs, h1, h2, h3, h4, h5⟩ := h.out
  exact ⟨us, vs, h1.below hb, h2.below hb, h3, h4, (h5.below hb).mono' (Nat.le_refl _) hb.size⟩
theorem Tw.map {r : Nat} {kv : List (Value × Value)} {B2 : Nat} (h : Tw w B T U ob pb yss xss) (k : MK w B2 r kv) (hg : w.grownBy w' (some r)) : Tw w' B T U ob pb yss xss := by
  obtain ⟨us, vs, h1, h2, h3, h4, h5⟩ := h.out
  exact ⟨us, vs, h1.kept hg (.inr (h1.apart_map k)), h2.kept hg (.inr (h2.apart_map k)), h3, h4,
    ⟨h5.one, h5.len, fun i a zs ha hz => (h5.row i a zs ha hz).kept hg (.inr ((h5.row i a zs ha hz).own.apart_map k)), fun i a ha g hgb => Nat.lt_of_lt_of_le (h5.lt i a ha g hgb) hg.size, h5.apart⟩⟩
theorem Tw.box {T2 : TypeId} {B2 : Nat} {p : Addr} {x : Value} (h : Tw w B T U ob pb yss xss) (k : Bx w B2 p T2 x) (h1 : T ≠ T2) (h2 : U ≠ T2) (hg : w.grownBy w' (some p.block)) : Tw w' B T U ob pb yss xss := by
  have ap : ∀ {B3 : Nat} {T3 : TypeId} {a : Value} {ws : List Value}, Own w B3 T3 a ws → T3 ≠ T2 → a.ownBlock ≠ some p.block := by
    intro B3 T3 a ws ha hT
    have h1 := k.row
    rcases ha with ⟨rfl, rfl⟩ | ⟨g, off, cap, cur, rfl, hb, hg, _⟩
    · simp [Value.ownBlock]
    · simp only [Value.ownBlock, ne_eq, Option.some.injEq]
      intro e
      rw [← e, hg] at h1
      simp only [Option.some.injEq, Obj.cells.injEq] at h1
      exact hT h1.2.1
  obtain ⟨us, vs, k1, k2, k3, k4, k5⟩ := h.out
  exact ⟨us, vs, k1.kept hg (.inr (ap k1 h1)), k2.kept hg (.inr (ap k2 h1)), k3, k4,
    ⟨k5.one, k5.len, fun i a zs ha hz => (k5.row i a zs ha hz).kept hg (.inr (ap (k5.row i a zs ha hz).own h2)), fun i a ha g hgb => Nat.lt_of_lt_of_le (k5.lt i a ha g hgb) hg.size, k5.apart⟩⟩
theorem Tw.pairs (h : Tw w B T U ob pb yss xss) : RL w pb xss := by
  obtain ⟨us, vs, h1, h2, h3, h4, h5⟩ := h.out
  have := h5.right h3
  exact ⟨vs, h2.rd, this.len, fun i u xs hu hx => (this.row i u xs hu hx).il⟩
theorem Tw.rows (h : Tw w B T U ob pb yss xss) : RL w ob yss := by
  obtain ⟨us, vs, h1, h2, h3, h4, h5⟩ := h.out
  have := h5.left h3
  exact ⟨us, h1.rd, this.len, fun i u xs hu hx => (this.row i u xs hu hx).il⟩
theorem Tw.omRows (h : Tw w B T U ob pb yss xss) : OM w B w.heap.size T U ob yss := by
  obtain ⟨us, vs, h1, h2, h3, h4, h5⟩ := h.out
  exact (h5.left h3).om h1
theorem Tw.omPairs (h : Tw w B T U ob pb yss xss) : OM w B w.heap.size T U pb xss := by
  obtain ⟨us, vs, h1, h2, h3, h4, h5⟩ := h.out
  exact (h5.right h3).om h2
/-- a row that is to be written -/
theorem Tw.row (h : Tw w B T U ob pb yss xss) (hT : T ≠ U) {j : Int} (h0 : 0 ≤ j) (hj : j < yss.length) :
    ∃ u us, OI w B U u (gr yss j) ∧ w.cell? (addrOf ob j.toNat) = some u ∧ u.oneCell' = true ∧ Own w B T ob us ∧ j.toNat < us.length ∧
      ∀ w1 u' ys, OI w1 B U u' ys → w.grownBy w1 u.ownBlock → (u'.ownBlock = u.ownBlock ∨ u'.ownBlock = some w.heap.size) →
        Own w1 B T ob us ∧ ∀ w2, Own w2 B T ob (us.set j.toNat u') → w1.grownBy w2 ob.ownBlock → Tw w2 B T U ob pb (yss.set j.toNat ys) xss := by
  obtain ⟨us, vs, h1, h2, h3, h4, h5⟩ := h.out
  have hlt : j.toNat < us.length := by omega
  have hu : us[j.toNat]? = some us[j.toNat] := by simp [hlt]
  have hu2 : (us ++ vs)[j.toNat]? = some us[j.toNat] := by rw [List.getElem?_append_left hlt]; exact hu
  have hl := h5.left h3
  have hy : yss[j.toNat]? = some (gr yss j) := by
    have : j.toNat < yss.length := by omega
    simp [gr, List.getD, this]
  have hrow := hl.row j.toNat _ _ hu hy
  refine ⟨us[j.toNat], us, hrow, h1.rd.cell hu, hrow.sv.one, h1, hlt, fun w1 u' ys hn hg hb => ?_⟩
  have k1 := h1.kept hg (h1.apart_type hrow.own hT)
  have k2 := h2.kept hg (h2.apart_type hrow.own hT)
  have k3 := h5.set hu2 hn hg (Nat.le_refl _) hb
  refine ⟨k1, fun w2 ho hg2 => ⟨us.set j.toNat u', vs, ho, k2.kept hg2 (by
    rcases h4 with e | e
    · cases e' : pb.ownBlock with
      | none => exact .inl rfl
      | some g => right; rw [e]; simp
    · exact .inr fun e' => e e'.symm), by simpa using h3, h4, ?_⟩⟩
  have e1 : (us ++ vs).set j.toNat u' = us.set j.toNat u' ++ vs := by rw [List.set_append_left _ _ hlt]
  have e2 : (yss ++ xss).set j.toNat ys = yss.set j.toNat ys ++ xss := by rw [List.set_append_left _ _ (by omega)]
  rw [e1, e2] at k3
  exact (k3.turn' k1 hT hg2).mono' (Nat.le_refl _) hg2.size
theorem Tw.start {n : Nat} (h1 : Own w B T ob us) (h2 : OM w B w.heap.size T U pb xss) (hu : us = List.replicate n (.slice none 0 0)) (hap : ob.ownBlock = none ∨ ob.ownBlock ≠ pb.ownBlock) (hB : B ≤ w.heap.size) : Tw w B T U ob pb (List.replicate n []) xss := by
  obtain ⟨vs, k1, k2⟩ := h2.rws
  subst hu
  have hz : Rws w B B U (List.replicate n (.slice none 0 0)) (List.replicate n []) := by
    refine ⟨fun a ha => ?_, by simp, fun i a zs ha hz => ?_, fun i a ha g hg => ?_, fun i j a b hij ha hb => ?_⟩
    · rw [(List.mem_replicate.1 ha).2]; rfl
    · have := (List.getElem?_eq_some_iff.1 ha); obtain ⟨h1, h2⟩ := this; simp at h2
      obtain ⟨h3, h4⟩ := List.getElem?_eq_some_iff.1 hz; simp at h4
      subst h2 h4; exact OI.nil _ _ _
    · obtain ⟨h1, h2⟩ := List.getElem?_eq_some_iff.1 ha; simp at h2; subst h2; simp [Value.ownBlock] at hg
    · obtain ⟨h1, h2⟩ := List.getElem?_eq_some_iff.1 ha; simp at h2; subst h2; exact .inl rfl
  exact ⟨_, vs, h1, k1, by simp, hap, hz.app k2 (.inl (Nat.le_refl _)) (Nat.le_refl _) (Nat.le_refl _) hB (Nat.le_refl _)⟩
/-- a pair more -/
theorem Tw.push (h : Tw w B T U ob pb yss xss) (hT : T ≠ U) {r : Value} (hb : Below w.heap.size w w1) (hr : OI w1 w.heap.size U r ys) (hB : B ≤ w.heap.size) :
    ∃ vs, Own w1 B T pb vs ∧ vs.length = xss.length ∧ ∀ pb' w', Own w' B T pb' (vs ++ [r]) → w1.grownBy w' pb.ownBlock → (pb'.ownBlock = pb.ownBlock ∨ pb'.ownBlock = some w1.heap.size) → Tw w' B T U ob pb' yss (xss ++ [ys]) := by
  obtain ⟨us, vs, h1, h2, h3, h4, h5⟩ := h.out
  have hsz := hb.size
  refine ⟨vs, h2.below hb, by have := h5.len; simp at this; omega, fun pb' w' ho hg hp => ?_⟩
  have k5 := (h5.below hb).snoc hr hB
  have k6 := (k5.turn' (h2.below hb) hT hg).mono' (B2 := B) (Nat.le_refl _) hg.size
  rw [List.append_assoc, List.append_assoc] at k6
  refine ⟨us, vs ++ [r], (h1.below hb).kept hg h4, ho, h3, ?_, k6⟩
  rcases hp with e | e
  · rw [e]; exact h4
  · cases e' : ob.ownBlock with
    | none => exact .inl rfl
    | some g =>
      right; rw [e]
      have := (h1.lt g e').2
      simp; omega
end
/-- a slice's block is no variable's block of another type -/
theorem Own.apart_box {w : World} {B B' : Nat} {T T' : TypeId} {v u : Value} {vs : List Value} {p : Addr} (h : Own w B T v vs) (k : Bx w B' p T' u) (hT : T ≠ T') : v.ownBlock ≠ some p.block := by
  have h1 := k.row
  rcases h with ⟨rfl, rfl⟩ | ⟨g, off, cap, cur, rfl, hb, hg, _⟩
  · simp [Value.ownBlock]
  · simp only [Value.ownBlock, ne_eq, Option.some.injEq]
    intro e
    rw [← e, hg] at h1
    simp only [Option.some.injEq, Obj.cells.injEq] at h1
    exact hT h1.2.1
theorem OM.box {w w' : World} {B E B2 : Nat} {T U T2 : TypeId} {v x : Value} {xss : List (List Int)} {p : Addr} (h : OM w B E T U v xss) (k : Bx w B2 p T2 x) (h1 : T ≠ T2) (h2 : U ≠ T2) (hg : w.grownBy w' (some p.block)) : OM w' B E T U v xss := by
  have ap : ∀ {B3 : Nat} {T3 : TypeId} {a : Value} {ws : List Value}, Own w B3 T3 a ws → T3 ≠ T2 → a.ownBlock ≠ some p.block := by
    intro B3 T3 a ws ha hT
    have h1 := k.row
    rcases ha with ⟨rfl, rfl⟩ | ⟨g, off, cap, cur, rfl, hb, hg, _⟩
    · simp [Value.ownBlock]
    · simp only [Value.ownBlock, ne_eq, Option.some.injEq]
      intro e
      rw [← e, hg] at h1
      simp only [Option.some.injEq, Obj.cells.injEq] at h1
      exact hT h1.2.1
  obtain ⟨vs, k1, k2⟩ := h.rws
  exact Rws.om ⟨k2.one, k2.len, fun i a zs ha hz => (k2.row i a zs ha hz).kept hg (.inr (ap (k2.row i a zs ha hz).own h2)), k2.lt, k2.apart⟩ (k1.kept hg (.inr (ap k1 h1)))
theorem addrOf_ownBlock {w : World} {B : Nat} {T : TypeId} {v : Value} {vs : List Value} {j : Nat} (h : Own w B T v vs) (hj : j < vs.length) : v.ownBlock = some (addrOf v j).block := by
  rcases h with ⟨rfl, rfl⟩ | ⟨g, off, cap, cur, rfl, _⟩
  · simp at hj
  · simp only [Value.ownBlock, addrOf, Addr.add]; split <;> rfl
/-- t is an array of two numbers of type e -/
class PairTy (P : Program) (t : TypeId) (e : outParam TypeId) : Prop where
  i0 : ∀ (g : Nat) k w, (Instr.indexAt t (.pointer (some ⟨g, 0, none⟩)) (.int k 0)).run P w = .ok (.pointer (some ⟨g, 0, none⟩)) w
  i1 : ∀ (g : Nat) k w, (Instr.indexAt t (.pointer (some ⟨g, 0, none⟩)) (.int k 1)).run P w = .ok (.pointer (some ⟨g, 1, none⟩)) w
  bld : ∀ (a b : Int) w, (Instr.build t #[(0, .int .i64 a), (1, .int .i64 b)]).run P w = .ok (.agg #[.int .i64 a, .int .i64 b]) w
  zero : ∀ w, (zeroValue t).run P w = .ok (.agg #[.int .i64 0, .int .i64 0]) w
  agg : ∀ w, (isAgg t).run P w = .ok true w
  size : ∀ w, (sizeOf t).run P w = .ok 2 w
/-- an array of two in a variable -/
structure Pr (w : World) (B g : Nat) (T : TypeId) (a b : Int) : Prop where
  low : B ≤ g
  row : w.heap[g]? = some (.cells #[.int .i64 a, .int .i64 b] T (0, 0))
section
variable {w w' : World} {B g : Nat} {T : TypeId} {a b : Int}
theorem Pr.lt (h : Pr w B g T a b) : g < w.heap.size := (Array.getElem?_eq_some_iff.1 h.row).1
theorem Pr.below (h : Pr w B g T a b) (hb : Below w.heap.size w w') : Pr w' B g T a b := ⟨h.low, by rw [hb.block _ h.lt]; exact h.row⟩
theorem Pr.kept {row : Option Nat} (h : Pr w B g T a b) (hg : w.grownBy w' row) (hne : row ≠ some g) : Pr w' B g T a b := ⟨h.low, by rw [hg.block _ h.lt (fun e => hne e.symm)]; exact h.row⟩
theorem Pr.below_of (h : Pr w B g T a b) (hg : w.grownBy w' (some g)) (hB : B ≤ w.heap.size) : Below B w w' := grownBy_below hg hB (fun k hk => by cases hk; exact h.low)
theorem Pr.c0 (h : Pr w B g T a b) : w.cell? ⟨g, 0, none⟩ = some (.int .i64 a) := by simp [World.cell?, h.row]
theorem Pr.c1 (h : Pr w B g T a b) : w.cell? ⟨g, 1, none⟩ = some (.int .i64 b) := by simp [World.cell?, h.row]
theorem Pr.apart_map {B2 r : Nat} {kv : List (Value × Value)} (h : Pr w B g T a b) (k : MK w B2 r kv) : (some r : Option Nat) ≠ some g := by
  obtain ⟨es, c, h1, _⟩ := k.out
  intro e
  cases e
  have := h.row
  rw [h1] at this
  cases this
end
section
variable {P : Program} {ops : Array Oper} {Q : Exit → Fm → World → Prop} {n : Nat} {f : Fm} {w w0 : World} {dst : Option Tmp} {rest : List Oper} {ty : TypeId} {pos : String} {after : Array Edge} {g : Option (Nat × Bool)} {d : Nat}
theorem y_pi0 {x : Operand} {t e : TypeId} {q : Nat} {k : IntKind} [h : PairTy P t e] (hx : lk n f x = some (.pointer (some ⟨q, 0, none⟩))) : Yld P (evo n f) ⟨dst, .indexAddr t x (.const (.int k 0)), ty, pos, after, g⟩ w (.pointer (some ⟨q, 0, none⟩)) := by
  replace hx := lk_evo hx
  have hc : evo n f (.const (.int k 0)) = .int k 0 := rfl
  constructor; simp [execOp, hx, hc, h.i0]
theorem y_pi1 {x : Operand} {t e : TypeId} {q : Nat} {k : IntKind} [h : PairTy P t e] (hx : lk n f x = some (.pointer (some ⟨q, 0, none⟩))) : Yld P (evo n f) ⟨dst, .indexAddr t x (.const (.int k 1)), ty, pos, after, g⟩ w (.pointer (some ⟨q, 1, none⟩)) := by
  replace hx := lk_evo hx
  have hc : evo n f (.const (.int k 1)) = .int k 1 := rfl
  constructor; simp [execOp, hx, hc, h.i1]
theorem y_bldP {x y : Operand} {t e : TypeId} {a b : Int} [h : PairTy P t e] (hx : lk n f x = some (.int .i64 a)) (hy : lk n f y = some (.int .i64 b)) :
    Yld P (evo n f) ⟨dst, .build t #[(0, x), (1, y)], ty, pos, after, g⟩ w (.agg #[.int .i64 a, .int .i64 b]) := by
  replace hx := lk_evo hx
  replace hy := lk_evo hy
  constructor; simp [execOp, hx, hy, h.bld]
theorem y_ldP {B q : Nat} {T t e : TypeId} {x : Operand} {a b : Int} [h : PairTy P t e] (hx : lk n f x = some (.pointer (some ⟨q, 0, none⟩))) (hp : Pr w B q T a b) :
    Yld P (evo n f) ⟨dst, .load t x, ty, pos, after, g⟩ w (.agg #[.int .i64 a, .int .i64 b]) := by
  replace hx := lk_evo hx
  have h0 := hp.c0
  have h1 := hp.c1
  constructor; simp [execOp, Instr.loadAt, Instr.sureAddr, hx, loadVar, h.agg, h.size, loadCells, loadCellsFrom, Addr.add, h0, h1]
theorem s_allocP {B : Nat} {t e : TypeId} [h : PairTy P t e]
    (hw : Wants ⟨some d, .alloc t, ty, pos, after, g⟩ ops n f) (hd : Nat.ble (d + 1) n = true) (hB : B ≤ w.heap.size)
    (k : ∀ w' q, Pr w' B q t 0 0 → w.grownBy w' none → q = w.heap.size → WL P ops Q rest n (.upd f d (.pointer (some ⟨q, 0, none⟩))) w') :
    WL P ops Q (⟨some d, .alloc t, ty, pos, after, g⟩ :: rest) n f w := by
  refine s_val hw hd (v := .pointer (some ⟨w.heap.size, 0, none⟩)) (w' := w.alloc (.cells #[.int .i64 0, .int .i64 0] t)) ?_ (k _ w.heap.size ⟨hB, heap_alloc_new w _⟩ (World.grownBy_alloc w _ none) rfl)
  have hc : (Value.agg #[.int .i64 0, .int .i64 0]).cells = #[.int .i64 0, .int .i64 0] := rfl
  simp [execOp, Instr.alloc, newVar, newRow, h.zero, hc]
theorem s_storeP {B q : Nat} {T t e : TypeId} {x y : Operand} {a b a0 b0 : Int} [h : PairTy P t e]
    (hw : Wants ⟨none, .store t x y, ty, pos, after, g⟩ ops n f)
    (hx : lk n f x = some (.pointer (some ⟨q, 0, none⟩))) (hy : lk n f y = some (.agg #[.int .i64 a, .int .i64 b])) (hv : Pr w B q T a0 b0)
    (k : ∀ w', Pr w' B q T a b → w.grownBy w' (some q) → WL P ops Q rest n f w') :
    WL P ops Q (⟨none, .store t x y, ty, pos, after, g⟩ :: rest) n f w := by
  replace hx := lk_evo hx
  replace hy := lk_evo hy
  have hr := hv.row
  have h0 := hv.c0
  have h1 := hv.c1
  have hf : w.frozen? ⟨q, 0, none⟩ = false := frozen?_in_block hr
  have hf1 : w.frozen? ⟨q, 1, none⟩ = false := frozen?_in_block hr
  have hrun : (storeVar t ⟨q, 0, none⟩ (.agg #[.int .i64 a, .int .i64 b])).run P w = .ok () ((w.setCell ⟨q, 0, none⟩ (.int .i64 a)).setCell ⟨q, 1, none⟩ (.int .i64 b)) := by
    have hst := run_store P w ⟨q, 0, none⟩ (.int .i64 a) .plain rfl
    simp only [h0, hf] at hst
    have hr2 : (w.setCell ⟨q, 0, none⟩ (.int .i64 a)).heap[q]? = some (.cells #[.int .i64 a, .int .i64 b0] T (0, 0)) := by simp [World.setCell, Array.getElem?_modify, hr]
    have h1' : (w.setCell ⟨q, 0, none⟩ (.int .i64 a)).cell? ⟨q, 1, none⟩ = some (.int .i64 b0) := by simp [World.cell?, hr2]
    have hf' : (w.setCell ⟨q, 0, none⟩ (.int .i64 a)).frozen? ⟨q, 1, none⟩ = false := frozen?_in_block hr2
    have hst2 := run_store P (w.setCell ⟨q, 0, none⟩ (.int .i64 a)) ⟨q, 1, none⟩ (.int .i64 b) .plain rfl
    simp only [h1', hf'] at hst2
    have hcs : (Value.agg #[.int .i64 a, .int .i64 b]).cells = #[.int .i64 a, .int .i64 b] := rfl
    simp [storeVar, h.size, hcs, storeCells, Addr.add, hst, hst2]
  refine s_unit hw (w' := (w.setCell ⟨q, 0, none⟩ (.int .i64 a)).setCell ⟨q, 1, none⟩ (.int .i64 b)) ?_ (k _ ⟨hv.low, ?_⟩ ?_)
  · simp [execOp, Instr.storeAt, Instr.sureAddr, hx, hy, hrun]
  · simp [World.setCell, Array.getElem?_modify, hr]
  · refine ⟨rfl, rfl, rfl, by simp, fun k _ hk => ?_⟩
    rw [Below.heap_setCell _ _ _ _ (fun e => hk (by rw [e])), Below.heap_setCell _ _ _ _ (fun e => hk (by rw [e]))]
theorem region_xS (S : World → Prop) (L : Nat) {id : Nat} (hm : P.follows .mixedOrders = true)
    (h : ∀ w', Below w.heap.size w w' → WX P ops S L Q ops.size (Array.replicate ops.size false) n f w') : WC P (.region id ops true) Q n f w :=
  ⟨wp_region_any hm (wpAny_of_L _ _ _ _ (h _ (Below.refl _ _).drew).out)⟩
end
end Go.Mem
