/- Memory words for the walks: a slice value that reads as a list, a slice that the call owns, and what each operation makes of them. Over any program. -/
import Derived.WalkKit
namespace Go.Mem
open Go.RowKit

/-- The address of element i behind a slice value. -/
def addrOf : Value → Nat → Addr
  | .slice (some a) _ _, i => a.add i
  | _, _ => ⟨0, 0, none⟩

theorem addrOf_block {a : Option Addr} {n c g i : Nat} (h : (Value.slice a n c).ownBlock = some g) : (addrOf (.slice a n c) i).block = g := by
  cases a with
  | none => simp [Value.ownBlock] at h
  | some a => simp [Value.ownBlock] at h; subst h; simp only [addrOf, Addr.add]; split <;> rfl

/-- READING: v is a slice whose elements (a cell each) are vs in w. -/
def Rd (w : World) (v : Value) (vs : List Value) : Prop :=
  ∃ a cap, v = .slice a vs.length cap ∧ (vs ≠ [] → a ≠ none) ∧ (vs.length ≤ maxLen ∧ vs.length ≤ cap) ∧ ∀ (i : Nat) (u : Value), vs[i]? = some u → w.cell? (addrOf v i) = some u

/-- v is a slice value of m elements (a fact of no world). -/
structure SV (v : Value) (m : Nat) : Prop where
  out : ∃ a cap, v = .slice a m cap ∧ (m ≠ 0 → a ≠ none) ∧ m ≤ maxLen
/-- v reads as the numbers xs -/
structure IL (w : World) (v : Value) (xs : List Int) : Prop where
  rd : Rd w v (xs.map (.int .i64))
/-- v reads as the Bools bs -/
structure BL (w : World) (v : Value) (bs : List Bool) : Prop where
  rd : Rd w v (bs.map .bool)
/-- v reads as the rows xss -/
structure RL (w : World) (v : Value) (xss : List (List Int)) : Prop where
  out : ∃ vs, Rd w v vs ∧ vs.length = xss.length ∧ ∀ (i : Nat) u xs, vs[i]? = some u → xss[i]? = some xs → IL w u xs
/-- the element of a list at a number of Go's -/
def gi (xs : List Int) (j : Int) : Int := xs.getD j.toNat 0
def gb (bs : List Bool) (j : Int) : Bool := bs.getD j.toNat false
def gr (xss : List (List Int)) (j : Int) : List Int := xss.getD j.toNat []

/-- OWNING: v is nil and empty, or a slice in a block from B on of element type T, not frozen; its elements are vs; the block's cells end with the capacity. -/
def Own (w : World) (B : Nat) (T : TypeId) (v : Value) (vs : List Value) : Prop :=
  (v = .slice none 0 0 ∧ vs = []) ∨
  ∃ g off cap cur, v = .slice (some ⟨g, off, none⟩) vs.length cap ∧ B ≤ g ∧ w.heap[g]? = some (.cells cur T (0, 0)) ∧ vs.length ≤ cap ∧ cap ≤ maxLen ∧ off + cap ≤ cur.size ∧
    ∀ (i : Nat) (u : Value), vs[i]? = some u → cur[off + i]? = some u

section rd
variable {P : Program} {w w' : World} {v : Value} {vs : List Value}

theorem Rd.lt (h : Rd w v vs) (hne : vs ≠ []) : ∃ g, v.ownBlock = some g ∧ g < w.heap.size := by
  obtain ⟨a, cap, rfl, h1, h2, h3⟩ := h
  cases a with
  | none => exact absurd rfl (h1 hne)
  | some a =>
    refine ⟨a.block, rfl, ?_⟩
    cases vs with
    | nil => exact absurd rfl hne
    | cons u vs =>
      have := World.block_lt_of_cell? w _ (h3 0 u rfl)
      simpa [addrOf, Addr.add] using this

/-- What reads as vs reads so in every world in which its block is as it was. -/
theorem Rd.same (h : Rd w v vs) (hs : ∀ g, v.ownBlock = some g → g < w.heap.size → w'.heap[g]? = w.heap[g]?) : Rd w' v vs := by
  have h0 := h
  obtain ⟨a, cap, rfl, h1, h2, h3⟩ := h
  refine ⟨a, cap, rfl, h1, h2, fun i u hu => ?_⟩
  have hne : vs ≠ [] := by intro e; subst e; simp at hu
  obtain ⟨g, hg, hlt⟩ := h0.lt hne
  have hb : (addrOf (.slice a vs.length cap) i).block = g := addrOf_block hg
  rw [World.cell?_of_block (w := w) (by rw [hb]; exact hs g hg hlt)]
  exact h3 i u hu

theorem Rd.below (h : Rd w v vs) (hb : Below w.heap.size w w') : Rd w' v vs := h.same fun g _ hl => hb.block g hl
theorem Rd.kept {row : Option Nat} (h : Rd w v vs) (hg : w.grownBy w' row) (hne : v.ownBlock = none ∨ v.ownBlock ≠ row) : Rd w' v vs :=
  h.same fun g hg' hl => hg.block g hl (by rcases hne with h | h <;> rw [hg'] at h; cases h; exact h)

theorem Rd.len (h : Rd w v vs) (t e ty : TypeId) (ht : P.underlying t = some (.slice e)) (w' : World) :
    (Builtin.len_ #[t] ty #[v]).run P w' = .ok (.int .i64 vs.length) w' := by
  obtain ⟨a, cap, rfl, h1, h2⟩ := h
  simp [Builtin.len_, run_underlying ht, goInt]

theorem Rd.idx (h : Rd w v vs) (t e : TypeId) (i : TypeInfo) (ht : P.underlying t = some (.slice e)) (hi : P.info? e = some i) (h1 : i.size = 1)
    (w' : World) (k : IntKind) (j : Int) (h0 : 0 ≤ j) (hj : j < vs.length) :
    (Instr.indexAt t v (.int k j)).run P w' = .ok (.pointer (some (addrOf v j.toNat))) w' := by
  obtain ⟨a, cap, rfl, h2, h3⟩ := h
  cases a with
  | none => exact absurd rfl (h2 (by intro e; subst e; simp at hj; omega))
  | some a => simp [Instr.indexAt, run_underlying ht, asIntOf, addrOf, sizeOf, typeInfo, hi, h1, h0, hj]

theorem Rd.cell (h : Rd w v vs) {i : Nat} {u : Value} (hu : vs[i]? = some u) : w.cell? (addrOf v i) = some u := by
  obtain ⟨a, cap, rfl, _, _, h3⟩ := h
  exact h3 i u hu

theorem Rd.nil (w : World) : Rd w (.slice none 0 0) [] := ⟨none, 0, rfl, fun h => absurd rfl h, by simp [maxLen], by simp⟩
end rd

theorem cell_below {w w' : World} {a : Addr} {u : Value} (h : w.cell? a = some u) (hb : Below w.heap.size w w') : w'.cell? a = some u := by
  rw [hb.cell (World.block_lt_of_cell? w a h)]; exact h
section lists
variable {w w' : World} {v : Value} {vs : List Value} {xs : List Int} {bs : List Bool} {xss : List (List Int)}
theorem Rd.sv (h : Rd w v vs) : SV v vs.length := by
  obtain ⟨a, cap, hv, h1, h2, _⟩ := h
  exact ⟨a, cap, hv, fun hm => h1 (by intro e; subst e; simp at hm), h2.1⟩
theorem IL.sv (h : IL w v xs) : SV v xs.length := by have := h.rd.sv; simpa using this
theorem BL.sv (h : BL w v bs) : SV v bs.length := by have := h.rd.sv; simpa using this
theorem RL.sv (h : RL w v xss) : SV v xss.length := by obtain ⟨vs, h1, h2, _⟩ := h.out; have := h1.sv; rwa [h2] at this
theorem IL.below (h : IL w v xs) (hb : Below w.heap.size w w') : IL w' v xs := ⟨h.rd.below hb⟩
theorem BL.below (h : BL w v bs) (hb : Below w.heap.size w w') : BL w' v bs := ⟨h.rd.below hb⟩
theorem RL.below (h : RL w v xss) (hb : Below w.heap.size w w') : RL w' v xss := by
  obtain ⟨vs, h1, h2, h3⟩ := h.out
  exact ⟨vs, h1.below hb, h2, fun i u xs hu hx => (h3 i u xs hu hx).below hb⟩
theorem IL.nil (w : World) : IL w (.slice none 0 0) [] := ⟨Rd.nil w⟩
theorem RL.nil (w : World) : RL w (.slice none 0 0) [] := ⟨[], Rd.nil w, rfl, by simp⟩
end lists

section own
variable {P : Program} {w w' : World} {B : Nat} {T : TypeId} {v : Value} {vs : List Value}

theorem Own.nil (w : World) (B : Nat) (T : TypeId) : Own w B T (.slice none 0 0) [] := .inl ⟨rfl, rfl⟩

theorem Own.rd (h : Own w B T v vs) : Rd w v vs := by
  rcases h with ⟨rfl, rfl⟩ | ⟨g, off, cap, cur, rfl, _, hg, hl, hc, _, hx⟩
  · exact Rd.nil w
  · refine ⟨_, cap, rfl, by simp, ⟨by omega, hl⟩, fun i u hu => ?_⟩
    simp only [addrOf, Addr.add_lit]
    rw [cell_of_row w g _ cur T (0, 0) hg]
    exact hx i u hu

theorem Own.lt (h : Own w B T v vs) : ∀ g, v.ownBlock = some g → B ≤ g ∧ g < w.heap.size := by
  intro k hk
  rcases h with ⟨rfl, rfl⟩ | ⟨g, off, cap, cur, rfl, hb, hg, _⟩
  · simp [Value.ownBlock] at hk
  · simp [Value.ownBlock] at hk
    subst hk
    exact ⟨hb, (Array.getElem?_eq_some_iff.1 hg).1⟩

theorem Own.same (h : Own w B T v vs) (hs : ∀ g, v.ownBlock = some g → B ≤ g → g < w.heap.size → w'.heap[g]? = w.heap[g]?) : Own w' B T v vs := by
  have h0 := h
  rcases h with ⟨rfl, rfl⟩ | ⟨g, off, cap, cur, rfl, hb, hg, r⟩
  · exact Own.nil w' B T
  · have := h0.lt g rfl
    exact .inr ⟨g, off, cap, cur, rfl, hb, by rw [hs g rfl this.1 this.2]; exact hg, r⟩

theorem Own.below (h : Own w B T v vs) (hb : Below w.heap.size w w') : Own w' B T v vs := h.same fun g _ _ hl => hb.block g hl
theorem Own.kept {row : Option Nat} (h : Own w B T v vs) (hg : w.grownBy w' row) (hne : v.ownBlock = none ∨ v.ownBlock ≠ row) : Own w' B T v vs :=
  h.same fun g hg' _ hl => hg.block g hl (by rcases hne with h | h <;> rw [hg'] at h; cases h; exact h)
theorem Own.mono {B' : Nat} (h : Own w B T v vs) (hB : B' ≤ B) : Own w B' T v vs := by
  rcases h with h | ⟨g, off, cap, cur, rfl, hb, r⟩
  · exact .inl h
  · exact .inr ⟨g, off, cap, cur, rfl, by omega, r⟩

/-- Two owned slices of different element types lie in different blocks. -/
theorem Own.apart_type {B' : Nat} {T' : TypeId} {v' : Value} {vs' : List Value} (h : Own w B T v vs) (h' : Own w B' T' v' vs') (hT : T ≠ T') : v.ownBlock = none ∨ v.ownBlock ≠ v'.ownBlock := by
  rcases h with ⟨rfl, rfl⟩ | ⟨g, off, cap, cur, rfl, hb, hg, r⟩
  · exact .inl rfl
  · rcases h' with ⟨rfl, rfl⟩ | ⟨g', off', cap', cur', rfl, hb', hg', r'⟩
    · right; simp [Value.ownBlock]
    · right
      simp only [Value.ownBlock, ne_eq, Option.some.injEq]
      rintro rfl
      rw [hg] at hg'
      simp only [Option.some.injEq, Obj.cells.injEq] at hg'
      exact hT hg'.2.1

end own
end Go.Mem
