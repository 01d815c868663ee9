/- Texts laid together: Mem Wk Ops Own Cal Ls Bt Mx Go. -/
import Derived.WalkKit
import Derived.Deep.Quiet
import Derived.DataReads
import Derived.OrdersHeld
import Derived.WalkSpells
/- Memory words for the walks: a slice value that reads as a list, a slice that the call owns, and what each operation makes of them. Over any program. -/
namespace Go.Mem
open Go.RowKit

/-- The address of element i behind a slice value. -/
def addrOf : Value → Nat → Addr
  | .slice (some a) _ _, i => a.add i
  | _, _ => ⟨0, 0, none⟩

theorem addrOf_block {a : Option Addr} {n c g i : Nat} (h : (Value.slice a n c).ownBlock = some g) : (addrOf (.slice a n c) i).block = g := by
  cases a with
  | none => simp [Value.ownBlock] at h
  | some a => simp [Value.ownBlock] at h; subst h; simp only [addrOf, Addr.add]; split <;> rfl

/-- READING: v is a slice whose elements (a cell each) are vs in w. -/
def Rd (w : World) (v : Value) (vs : List Value) : Prop :=
  ∃ a cap, v = .slice a vs.length cap ∧ (vs ≠ [] → a ≠ none) ∧ (vs.length ≤ maxLen ∧ vs.length ≤ cap) ∧ ∀ (i : Nat) (u : Value), vs[i]? = some u → w.cell? (addrOf v i) = some u

/-- v is a slice value of m elements (a fact of no world). -/
structure SV (v : Value) (m : Nat) : Prop where
  out : ∃ a cap, v = .slice a m cap ∧ (m ≠ 0 → a ≠ none) ∧ m ≤ maxLen
/-- v reads as the numbers xs -/
structure IL (w : World) (v : Value) (xs : List Int) : Prop where
  rd : Rd w v (xs.map (.int .i64))
/-- v reads as the Bools bs -/
structure BL (w : World) (v : Value) (bs : List Bool) : Prop where
  rd : Rd w v (bs.map .bool)
/-- v reads as the rows xss -/
structure RL (w : World) (v : Value) (xss : List (List Int)) : Prop where
  out : ∃ vs, Rd w v vs ∧ vs.length = xss.length ∧ ∀ (i : Nat) u xs, vs[i]? = some u → xss[i]? = some xs → IL w u xs
/-- the element of a list at a number of Go's -/
def gi (xs : List Int) (j : Int) : Int := xs.getD j.toNat 0
def gb (bs : List Bool) (j : Int) : Bool := bs.getD j.toNat false
def gr (xss : List (List Int)) (j : Int) : List Int := xss.getD j.toNat []

/-- OWNING: v is nil and empty, or a slice in a block from B on of element type T, not frozen; its elements are vs; the block's cells end with the capacity. -/
def Own (w : World) (B : Nat) (T : TypeId) (v : Value) (vs : List Value) : Prop :=
  (v = .slice none 0 0 ∧ vs = []) ∨
  ∃ g off cap cur, v = .slice (some ⟨g, off, none⟩) vs.length cap ∧ B ≤ g ∧ w.heap[g]? = some (.cells cur T (0, 0)) ∧ vs.length ≤ cap ∧ cap ≤ maxLen ∧ off + cap ≤ cur.size ∧
    ∀ (i : Nat) (u : Value), vs[i]? = some u → cur[off + i]? = some u

section rd
variable {P : Program} {w w' : World} {v : Value} {vs : List Value}

theorem Rd.lt (h : Rd w v vs) (hne : vs ≠ []) : ∃ g, v.ownBlock = some g ∧ g < w.heap.size := by
  obtain ⟨a, cap, rfl, h1, h2, h3⟩ := h
  cases a with
  | none => exact absurd rfl (h1 hne)
  | some a =>
    refine ⟨a.block, rfl, ?_⟩
    cases vs with
    | nil => exact absurd rfl hne
    | cons u vs =>
      have := World.block_lt_of_cell? w _ (h3 0 u rfl)
      simpa [addrOf, Addr.add] using this

/-- What reads as vs reads so in every world in which its block is as it was. -/
theorem Rd.same (h : Rd w v vs) (hs : ∀ g, v.ownBlock = some g → g < w.heap.size → w'.heap[g]? = w.heap[g]?) : Rd w' v vs := by
  have h0 := h
  obtain ⟨a, cap, rfl, h1, h2, h3⟩ := h
  refine ⟨a, cap, rfl, h1, h2, fun i u hu => ?_⟩
  have hne : vs ≠ [] := by intro e; subst e; simp at hu
  obtain ⟨g, hg, hlt⟩ := h0.lt hne
  have hb : (addrOf (.slice a vs.length cap) i).block = g := addrOf_block hg
  rw [World.cell?_of_block (w := w) (by rw [hb]; exact hs g hg hlt)]
  exact h3 i u hu

theorem Rd.below (h : Rd w v vs) (hb : Below w.heap.size w w') : Rd w' v vs := h.same fun g _ hl => hb.block g hl
theorem Rd.kept {row : Option Nat} (h : Rd w v vs) (hg : w.grownBy w' row) (hne : v.ownBlock = none ∨ v.ownBlock ≠ row) : Rd w' v vs :=
  h.same fun g hg' hl => hg.block g hl (by rcases hne with h | h <;> rw [hg'] at h; cases h; exact h)

theorem Rd.len (h : Rd w v vs) (t e ty : TypeId) (ht : P.underlying t = some (.slice e)) (w' : World) :
    (Builtin.len_ #[t] ty #[v]).run P w' = .ok (.int .i64 vs.length) w' := by
  obtain ⟨a, cap, rfl, h1, h2⟩ := h
  simp [Builtin.len_, run_underlying ht, goInt]

theorem Rd.idx (h : Rd w v vs) (t e : TypeId) (i : TypeInfo) (ht : P.underlying t = some (.slice e)) (hi : P.info? e = some i) (h1 : i.size = 1)
    (w' : World) (k : IntKind) (j : Int) (h0 : 0 ≤ j) (hj : j < vs.length) :
    (Instr.indexAt t v (.int k j)).run P w' = .ok (.pointer (some (addrOf v j.toNat))) w' := by
  obtain ⟨a, cap, rfl, h2, h3⟩ := h
  cases a with
  | none => exact absurd rfl (h2 (by intro e; subst e; simp at hj; omega))
  | some a => simp [Instr.indexAt, run_underlying ht, asIntOf, addrOf, sizeOf, typeInfo, hi, h1, h0, hj]

theorem Rd.cell (h : Rd w v vs) {i : Nat} {u : Value} (hu : vs[i]? = some u) : w.cell? (addrOf v i) = some u := by
  obtain ⟨a, cap, rfl, _, _, h3⟩ := h
  exact h3 i u hu

theorem Rd.nil (w : World) : Rd w (.slice none 0 0) [] := ⟨none, 0, rfl, fun h => absurd rfl h, by simp [maxLen], by simp⟩
end rd

theorem cell_below {w w' : World} {a : Addr} {u : Value} (h : w.cell? a = some u) (hb : Below w.heap.size w w') : w'.cell? a = some u := by
  rw [hb.cell (World.block_lt_of_cell? w a h)]; exact h
section lists
variable {w w' : World} {v : Value} {vs : List Value} {xs : List Int} {bs : List Bool} {xss : List (List Int)}
theorem Rd.sv (h : Rd w v vs) : SV v vs.length := by
  obtain ⟨a, cap, hv, h1, h2, _⟩ := h
  exact ⟨a, cap, hv, fun hm => h1 (by intro e; subst e; simp at hm), h2.1⟩
theorem IL.sv (h : IL w v xs) : SV v xs.length := by have := h.rd.sv; simpa using this
theorem BL.sv (h : BL w v bs) : SV v bs.length := by have := h.rd.sv; simpa using this
theorem RL.sv (h : RL w v xss) : SV v xss.length := by obtain ⟨vs, h1, h2, _⟩ := h.out; have := h1.sv; rwa [h2] at this
theorem IL.below (h : IL w v xs) (hb : Below w.heap.size w w') : IL w' v xs := ⟨h.rd.below hb⟩
theorem BL.below (h : BL w v bs) (hb : Below w.heap.size w w') : BL w' v bs := ⟨h.rd.below hb⟩
theorem RL.below (h : RL w v xss) (hb : Below w.heap.size w w') : RL w' v xss := by
  obtain ⟨vs, h1, h2, h3⟩ := h.out
  exact ⟨vs, h1.below hb, h2, fun i u xs hu hx => (h3 i u xs hu hx).below hb⟩
theorem IL.nil (w : World) : IL w (.slice none 0 0) [] := ⟨Rd.nil w⟩
theorem RL.nil (w : World) : RL w (.slice none 0 0) [] := ⟨[], Rd.nil w, rfl, by simp⟩
end lists

section own
variable {P : Program} {w w' : World} {B : Nat} {T : TypeId} {v : Value} {vs : List Value}

theorem Own.nil (w : World) (B : Nat) (T : TypeId) : Own w B T (.slice none 0 0) [] := .inl ⟨rfl, rfl⟩

theorem Own.rd (h : Own w B T v vs) : Rd w v vs := by
  rcases h with ⟨rfl, rfl⟩ | ⟨g, off, cap, cur, rfl, _, hg, hl, hc, _, hx⟩
  · exact Rd.nil w
  · refine ⟨_, cap, rfl, by simp, ⟨by omega, hl⟩, fun i u hu => ?_⟩
    simp only [addrOf, Addr.add_lit]
    rw [cell_of_row w g _ cur T (0, 0) hg]
    exact hx i u hu

theorem Own.lt (h : Own w B T v vs) : ∀ g, v.ownBlock = some g → B ≤ g ∧ g < w.heap.size := by
  intro k hk
  rcases h with ⟨rfl, rfl⟩ | ⟨g, off, cap, cur, rfl, hb, hg, _⟩
  · simp [Value.ownBlock] at hk
  · simp [Value.ownBlock] at hk
    subst hk
    exact ⟨hb, (Array.getElem?_eq_some_iff.1 hg).1⟩

theorem Own.same (h : Own w B T v vs) (hs : ∀ g, v.ownBlock = some g → B ≤ g → g < w.heap.size → w'.heap[g]? = w.heap[g]?) : Own w' B T v vs := by
  have h0 := h
  rcases h with ⟨rfl, rfl⟩ | ⟨g, off, cap, cur, rfl, hb, hg, r⟩
  · exact Own.nil w' B T
  · have := h0.lt g rfl
    exact .inr ⟨g, off, cap, cur, rfl, hb, by rw [hs g rfl this.1 this.2]; exact hg, r⟩

theorem Own.below (h : Own w B T v vs) (hb : Below w.heap.size w w') : Own w' B T v vs := h.same fun g _ _ hl => hb.block g hl
theorem Own.kept {row : Option Nat} (h : Own w B T v vs) (hg : w.grownBy w' row) (hne : v.ownBlock = none ∨ v.ownBlock ≠ row) : Own w' B T v vs :=
  h.same fun g hg' _ hl => hg.block g hl (by rcases hne with h | h <;> rw [hg'] at h; cases h; exact h)
theorem Own.mono {B' : Nat} (h : Own w B T v vs) (hB : B' ≤ B) : Own w B' T v vs := by
  rcases h with h | ⟨g, off, cap, cur, rfl, hb, r⟩
  · exact .inl h
  · exact .inr ⟨g, off, cap, cur, rfl, by omega, r⟩

/-- Two owned slices of different element types lie in different blocks. -/
theorem Own.apart_type {B' : Nat} {T' : TypeId} {v' : Value} {vs' : List Value} (h : Own w B T v vs) (h' : Own w B' T' v' vs') (hT : T ≠ T') : v.ownBlock = none ∨ v.ownBlock ≠ v'.ownBlock := by
  rcases h with ⟨rfl, rfl⟩ | ⟨g, off, cap, cur, rfl, hb, hg, r⟩
  · exact .inl rfl
  · rcases h' with ⟨rfl, rfl⟩ | ⟨g', off', cap', cur', rfl, hb', hg', r'⟩
    · right; simp [Value.ownBlock]
    · right
      simp only [Value.ownBlock, ne_eq, Option.some.injEq]
      rintro rfl
      rw [hg] at hg'
      simp only [Option.some.injEq, Obj.cells.injEq] at hg'
      exact hT hg'.2.1

end own
end Go.Mem

/- The walk's own words: a frame as a function from slots to values; a law for each operation, stated on the list of operations that is left. Over any program. -/
namespace Go.Mem
open Go.RowKit

abbrev Fr := Nat → Value
/-- n slots, as the function f has them; no deferred call. -/
def act (n : Nat) (f : Fr) : Act := ⟨Array.ofFn (n := n) (fun i => f i), []⟩
/-- A frame as the walk has it: a frame that is not looked into, and what has been written since. -/
inductive Fm where
  | base (f : Fr)
  | upd (F : Fm) (d : Nat) (v : Value)
def Fm.fn : Fm → Fr
  | .base f => f
  | .upd F d v => fun t => if t = d then v else F.fn t
noncomputable def Fm.look (F : Fm) (t : Nat) : Option Value := Fm.rec (motive := fun _ => Option Value) (fun _ => none) (fun _ d v r => bif Nat.beq t d then some v else r) F
theorem Fm.look_base (f : Fr) (t : Nat) : (Fm.base f).look t = none := rfl
theorem Fm.look_upd (F : Fm) (d : Nat) (v : Value) (t : Nat) : (Fm.upd F d v).look t = bif Nat.beq t d then some v else F.look t := rfl
def Fm.root : Fm → Fr
  | .base f => f
  | .upd F _ _ => F.root
theorem beq_no {t d : Nat} (h : ¬ t = d) : Nat.beq t d = false := by
  cases hb : Nat.beq t d with
  | false => rfl
  | true => exact absurd (Nat.eq_of_beq_eq_true hb) h
theorem Fm.fn_of_look : ∀ {F : Fm} {t : Nat} {v : Value}, F.look t = some v → F.fn t = v
  | .base _, _, _, h => by simp [Fm.look_base] at h
  | .upd F d u, t, v, h => by
    simp only [Fm.look_upd, Fm.fn] at h ⊢
    by_cases e : t = d
    · subst e; simpa using h
    · rw [if_neg e]
      have : Nat.beq t d = false := beq_no e
      rw [this] at h
      exact Fm.fn_of_look h
theorem Fm.fn_of_root : ∀ {F : Fm} {t : Nat}, F.look t = none → F.fn t = F.root t
  | .base _, _, _ => rfl
  | .upd F d u, t, h => by
    simp only [Fm.look_upd, Fm.fn, Fm.root] at h ⊢
    by_cases e : t = d
    · subst e; simp at h
    · rw [if_neg e]
      have : Nat.beq t d = false := beq_no e
      rw [this] at h
      exact Fm.fn_of_root h
/-- what an operand holds -/
def evo (n : Nat) (F : Fm) : Operand → Value
  | .tmp t => if t < n then F.fn t else undef
  | .const v => v
  | .global g => .pointer (some ⟨g, 0, none⟩)
  | .func g => .func (.func g) #[] #[]

theorem act_eval (n : Nat) (f : Fm) : (act n f.fn).eval = evo n f := by
  funext x
  cases x with
  | tmp t =>
    simp only [Act.eval, act, evo]
    split
    · rename_i h; simp [Array.getD, h]
    · rename_i h; simp [Array.getD, h]
  | _ => rfl

theorem act_put {n d : Nat} (f : Fm) (v : Value) (_h : d < n) : (act n f.fn).put (some d) v = act n (Fm.upd f d v).fn := by
  simp only [Act.put, act]
  congr 1
  apply Array.ext
  · simp
  · intro i h1 h2
    simp only [Array.size_setIfInBounds, Array.size_ofFn] at h1
    simp only [Array.getElem_ofFn, Fm.fn]
    rw [Array.getElem_setIfInBounds (by simpa using h1)]
    simp only [Array.getElem_ofFn]
    by_cases hi : i = d
    · simp [hi]
    · simp [hi, Ne.symm hi]

/-! ### The call: in and out -/

/-- What a call hands back, in which world. -/
def Ret (P : Program) (f : FuncId) (args : Array Value) (w : World) (R : Value → World → Prop) : Prop :=
  Calls P f args w fun e w' => ∃ v, e = .returned v ∧ R v w'

theorem Ret.mono {P : Program} {f : FuncId} {args : Array Value} {w : World} {R R' : Value → World → Prop} (h : Ret P f args w R) (hr : ∀ v w', R v w' → R' v w') : Ret P f args w R' :=
  Calls.mono h fun _ _ ⟨v, he, hv⟩ => ⟨v, he, hr _ _ hv⟩

def fr0 (args : Array Value) : Fr := fun t => args.getD t undef

theorem act_enter (n : Nat) (args : Array Value) (_h : args.size ≤ n) : (⟨args ++ Array.replicate (n - args.size) undef, []⟩ : Act) = act n (fr0 args) := by
  simp only [act]
  congr 1
  apply Array.ext
  · simp; omega
  · intro i h1 h2
    simp only [Array.size_append, Array.size_replicate] at h1
    simp only [Array.getElem_ofFn, fr0]
    by_cases hi : i < args.size
    · simp [hi, Array.getD]
    · simp [Array.getElem_append, hi, Array.getD]

/-! ### What a slot holds, by looking -/
noncomputable def lk (n : Nat) (F : Fm) : Operand → Option Value
  | .tmp t => bif Nat.ble (t + 1) n then F.look t else none
  | .const v => some v
  | .func g => some (.func (.func g) #[] #[])
  | .global _ => none
theorem lk_evo {n : Nat} {F : Fm} {x : Operand} {v : Value} (h : lk n F x = some v) : evo n F x = v := by
  cases x with
  | tmp t =>
    simp only [lk] at h
    cases hb : Nat.ble (t + 1) n with
    | false => rw [hb] at h; simp at h
    | true =>
      rw [hb] at h
      have : t < n := Nat.le_of_ble_eq_true hb
      simp only [evo, this, if_true]
      exact Fm.fn_of_look h
  | const c => simp [lk] at h; simp [evo, h]
  | func g => simp [lk] at h; simp [evo, h]
  | global g => simp [lk] at h

theorem results_one {P : Program} {fn : Func} {n t : Nat} {f : Fm} (h : fn.results = #[.tmp t]) (w : World) : (results fn (act n f.fn).tmps).run P w = .ok (evo n f (.tmp t)) w := by
  have e : (act n f.fn).tmps[t]?.getD undef = evo n f (.tmp t) := by rw [← act_eval]; simp [Act.eval]
  simp [results, h, e]
theorem results_two {P : Program} {fn : Func} {n t u : Nat} {f : Fm} (h : fn.results = #[.tmp t, .tmp u]) (w : World) : (results fn (act n f.fn).tmps).run P w = .ok (.tuple #[evo n f (.tmp t), evo n f (.tmp u)]) w := by
  have e (t : Nat) : (act n f.fn).tmps[t]?.getD undef = evo n f (.tmp t) := by rw [← act_eval]; simp [Act.eval]
  simp [results, h, e]
theorem results_three {P : Program} {fn : Func} {n t u x : Nat} {f : Fm} (h : fn.results = #[.tmp t, .tmp u, .tmp x]) (w : World) : (results fn (act n f.fn).tmps).run P w = .ok (.tuple #[evo n f (.tmp t), evo n f (.tmp u), evo n f (.tmp x)]) w := by
  have e (t : Nat) : (act n f.fn).tmps[t]?.getD undef = evo n f (.tmp t) := by rw [← act_eval]; simp [Act.eval]
  simp [results, h, e]
theorem results_zero {P : Program} {fn : Func} {n : Nat} {f : Fm} (h : fn.results = #[]) (w : World) : (results fn (act n f.fn).tmps).run P w = .ok (.tuple #[]) w := by
  simp [results, h]

/-- A post on frames, as a post on acts. -/
def lift (n : Nat) (Q : Exit → Fm → World → Prop) : Exit → Act → World → Prop := fun e a w => (∀ c, e ≠ .panic c) ∧ ∃ f : Fm, a = act n f.fn ∧ Q e f w
/-- The code c, from the frame f, in w, comes to Q. (A structure: Lean never opens it by itself.) -/
structure WC (P : Program) (c : Code) (Q : Exit → Fm → World → Prop) (n : Nat) (f : Fm) (w : World) : Prop where
  out : c.wp P (lift n Q) (act n f.fn) w
/-- The operations l, which are left of the region ops. -/
structure WL (P : Program) (ops : Array Oper) (Q : Exit → Fm → World → Prop) (l : List Oper) (n : Nat) (f : Fm) (w : World) : Prop where
  out : wpList P ops (lift n Q) l (act n f.fn) w

/-- The body's end. -/
def endPost (P : Program) (fn : Func) (n : Nat) (R : Value → World → Prop) : Exit → Fm → World → Prop
  | .normal, f, w | .ret, f, w => ∃ v, (results fn (act n f.fn).tmps).run P w = .ok v w ∧ R v w
  | _, _, _ => False
/-- What goes on behind a first part. -/
def seqP (K : Fm → World → Prop) (Q : Exit → Fm → World → Prop) : Exit → Fm → World → Prop
  | .normal, f, w => K f w
  | e, f, w => Q e f w
def blkP (id : Nat) (Q : Exit → Fm → World → Prop) : Exit → Fm → World → Prop
  | .exit id', f, w => if id' = id then Q .normal f w else Q (.exit id') f w
  | e, f, w => Q e f w

theorem enter {P : Program} {f : FuncId} {fn : Func} {c : Code} {args : Array Value} {w : World} {R : Value → World → Prop} (n : Nat)
    (hf : P.funcs[f]? = some fn) (hb : fn.body = some c) (hn : fn.ntmps = n) (hs : args.size ≤ n)
    (h : WC P c (endPost P fn n R) n (.base (fr0 args)) w) : Ret P f args w R := by
  refine calls_of_wp hf hb ?_
  rw [hn, act_enter n args hs]
  refine wp_mono h.out ?_
  rintro e a w' ⟨np, f', rfl, hq⟩
  cases e with
  | normal => obtain ⟨v, hr, hR⟩ := hq; exact ⟨rfl, v, hr, v, rfl, hR⟩
  | ret => obtain ⟨v, hr, hR⟩ := hq; exact ⟨rfl, v, hr, v, rfl, hR⟩
  | exit _ => exact hq.elim
  | goto _ => exact hq.elim
  | panic _ => exact hq.elim
  | outgrown => exact hq.elim

theorem end_one {P : Program} {fn : Func} {R : Value → World → Prop} {n t : Nat} {f : Fm} {w : World} {v : Value} (h : fn.results = #[.tmp t]) (hv : lk n f (.tmp t) = some v) (hR : R v w) : endPost P fn n R .ret f w :=
  ⟨v, by rw [← lk_evo hv]; exact results_one h w, hR⟩
theorem end_two {P : Program} {fn : Func} {R : Value → World → Prop} {n t u : Nat} {f : Fm} {w : World} {v v' : Value} (h : fn.results = #[.tmp t, .tmp u]) (hv : lk n f (.tmp t) = some v) (hv' : lk n f (.tmp u) = some v') (hR : R (.tuple #[v, v']) w) : endPost P fn n R .ret f w := by
  obtain rfl := lk_evo hv
  obtain rfl := lk_evo hv'
  exact ⟨_, results_two h w, hR⟩
theorem end_three {P : Program} {fn : Func} {R : Value → World → Prop} {n t u x : Nat} {f : Fm} {w : World} {v v' v'' : Value} (h : fn.results = #[.tmp t, .tmp u, .tmp x]) (hv : lk n f (.tmp t) = some v) (hv' : lk n f (.tmp u) = some v') (hv'' : lk n f (.tmp x) = some v'') (hR : R (.tuple #[v, v', v'']) w) : endPost P fn n R .ret f w := by
  obtain rfl := lk_evo hv
  obtain rfl := lk_evo hv'
  obtain rfl := lk_evo hv''
  exact ⟨_, results_three h w, hR⟩
theorem end_zero {P : Program} {fn : Func} {R : Value → World → Prop} {n : Nat} {f : Fm} {w : World} (h : fn.results = #[]) (hR : R (.tuple #[]) w) : endPost P fn n R .ret f w :=
  ⟨_, results_zero h w, hR⟩
/-- A body without results may end without a return. -/
theorem end_zero' {P : Program} {fn : Func} {R : Value → World → Prop} {n : Nat} {f : Fm} {w : World} (h : fn.results = #[]) (hR : R (.tuple #[]) w) : endPost P fn n R .normal f w :=
  ⟨_, results_zero h w, hR⟩

/-- A slot whose content is known is written down. -/
theorem upd_same {F : Fm} {t : Nat} {v : Value} (h : F.fn t = v) : (F.upd t v).fn = F.fn := by
  funext u
  simp only [Fm.fn]
  split
  · rename_i e; subst e; exact h.symm
  · rfl
theorem enter0 {P : Program} {f : FuncId} {fn : Func} {c : Code} {w : World} {R : Value → World → Prop} (n : Nat)
    (hf : P.funcs[f]? = some fn) (hb : fn.body = some c) (hn : fn.ntmps = n)
    (h : ∀ fr, WC P c (endPost P fn n R) n (.base fr) w) : Ret P f #[] w R := enter n hf hb hn (by simp) (h _)
theorem enter1 {P : Program} {f : FuncId} {fn : Func} {c : Code} {a0 : Value} {w : World} {R : Value → World → Prop} (n : Nat)
    (hf : P.funcs[f]? = some fn) (hb : fn.body = some c) (hn : fn.ntmps = n) (hs : Nat.ble 1 n = true)
    (h : ∀ fr : Fr, WC P c (endPost P fn n R) n (Fm.upd (.base fr) 0 a0) w) : Ret P f #[a0] w R := by
  refine enter n hf hb hn (Nat.le_of_ble_eq_true hs) ?_
  have e : ((Fm.upd (.base (fr0 #[a0])) 0 a0) : Fm).fn = (Fm.base (fr0 #[a0])).fn := by
    exact upd_same rfl
  have := (h (fr0 #[a0])).out
  rw [e] at this
  exact ⟨this⟩
theorem enter2 {P : Program} {f : FuncId} {fn : Func} {c : Code} {a0 a1 : Value} {w : World} {R : Value → World → Prop} (n : Nat)
    (hf : P.funcs[f]? = some fn) (hb : fn.body = some c) (hn : fn.ntmps = n) (hs : Nat.ble 2 n = true)
    (h : ∀ fr : Fr, WC P c (endPost P fn n R) n (Fm.upd (Fm.upd (.base fr) 0 a0) 1 a1) w) : Ret P f #[a0, a1] w R := by
  refine enter n hf hb hn (Nat.le_of_ble_eq_true hs) ?_
  have e : ((Fm.upd (Fm.upd (.base (fr0 #[a0, a1])) 0 a0) 1 a1) : Fm).fn = (Fm.base (fr0 #[a0, a1])).fn := by
    exact (upd_same rfl).trans (upd_same rfl)
  have := (h (fr0 #[a0, a1])).out
  rw [e] at this
  exact ⟨this⟩
theorem enter3 {P : Program} {f : FuncId} {fn : Func} {c : Code} {a0 a1 a2 : Value} {w : World} {R : Value → World → Prop} (n : Nat)
    (hf : P.funcs[f]? = some fn) (hb : fn.body = some c) (hn : fn.ntmps = n) (hs : Nat.ble 3 n = true)
    (h : ∀ fr : Fr, WC P c (endPost P fn n R) n (Fm.upd (Fm.upd (Fm.upd (.base fr) 0 a0) 1 a1) 2 a2) w) : Ret P f #[a0, a1, a2] w R := by
  refine enter n hf hb hn (Nat.le_of_ble_eq_true hs) ?_
  have e : ((Fm.upd (Fm.upd (Fm.upd (.base (fr0 #[a0, a1, a2])) 0 a0) 1 a1) 2 a2) : Fm).fn = (Fm.base (fr0 #[a0, a1, a2])).fn := by
    exact (upd_same rfl).trans ((upd_same rfl).trans (upd_same rfl))
  have := (h (fr0 #[a0, a1, a2])).out
  rw [e] at this
  exact ⟨this⟩
theorem enter4 {P : Program} {f : FuncId} {fn : Func} {c : Code} {a0 a1 a2 a3 : Value} {w : World} {R : Value → World → Prop} (n : Nat)
    (hf : P.funcs[f]? = some fn) (hb : fn.body = some c) (hn : fn.ntmps = n) (hs : Nat.ble 4 n = true)
    (h : ∀ fr : Fr, WC P c (endPost P fn n R) n (Fm.upd (Fm.upd (Fm.upd (Fm.upd (.base fr) 0 a0) 1 a1) 2 a2) 3 a3) w) : Ret P f #[a0, a1, a2, a3] w R := by
  refine enter n hf hb hn (Nat.le_of_ble_eq_true hs) ?_
  have e : ((Fm.upd (Fm.upd (Fm.upd (Fm.upd (.base (fr0 #[a0, a1, a2, a3])) 0 a0) 1 a1) 2 a2) 3 a3) : Fm).fn = (Fm.base (fr0 #[a0, a1, a2, a3])).fn := by
    exact (upd_same rfl).trans ((upd_same rfl).trans ((upd_same rfl).trans (upd_same rfl)))
  have := (h (fr0 #[a0, a1, a2, a3])).out
  rw [e] at this
  exact ⟨this⟩
theorem enter5 {P : Program} {f : FuncId} {fn : Func} {c : Code} {a0 a1 a2 a3 a4 : Value} {w : World} {R : Value → World → Prop} (n : Nat)
    (hf : P.funcs[f]? = some fn) (hb : fn.body = some c) (hn : fn.ntmps = n) (hs : Nat.ble 5 n = true)
    (h : ∀ fr : Fr, WC P c (endPost P fn n R) n (Fm.upd (Fm.upd (Fm.upd (Fm.upd (Fm.upd (.base fr) 0 a0) 1 a1) 2 a2) 3 a3) 4 a4) w) : Ret P f #[a0, a1, a2, a3, a4] w R := by
  refine enter n hf hb hn (Nat.le_of_ble_eq_true hs) ?_
  have e : ((Fm.upd (Fm.upd (Fm.upd (Fm.upd (Fm.upd (.base (fr0 #[a0, a1, a2, a3, a4])) 0 a0) 1 a1) 2 a2) 3 a3) 4 a4) : Fm).fn = (Fm.base (fr0 #[a0, a1, a2, a3, a4])).fn := by
    exact (upd_same rfl).trans ((upd_same rfl).trans ((upd_same rfl).trans ((upd_same rfl).trans (upd_same rfl))))
  have := (h (fr0 #[a0, a1, a2, a3, a4])).out
  rw [e] at this
  exact ⟨this⟩
theorem enter6 {P : Program} {f : FuncId} {fn : Func} {c : Code} {a0 a1 a2 a3 a4 a5 : Value} {w : World} {R : Value → World → Prop} (n : Nat)
    (hf : P.funcs[f]? = some fn) (hb : fn.body = some c) (hn : fn.ntmps = n) (hs : Nat.ble 6 n = true)
    (h : ∀ fr : Fr, WC P c (endPost P fn n R) n (Fm.upd (Fm.upd (Fm.upd (Fm.upd (Fm.upd (Fm.upd (.base fr) 0 a0) 1 a1) 2 a2) 3 a3) 4 a4) 5 a5) w) : Ret P f #[a0, a1, a2, a3, a4, a5] w R := by
  refine enter n hf hb hn (Nat.le_of_ble_eq_true hs) ?_
  have e : ((Fm.upd (Fm.upd (Fm.upd (Fm.upd (Fm.upd (Fm.upd (.base (fr0 #[a0, a1, a2, a3, a4, a5])) 0 a0) 1 a1) 2 a2) 3 a3) 4 a4) 5 a5) : Fm).fn = (Fm.base (fr0 #[a0, a1, a2, a3, a4, a5])).fn := by
    exact (upd_same rfl).trans ((upd_same rfl).trans ((upd_same rfl).trans ((upd_same rfl).trans ((upd_same rfl).trans (upd_same rfl)))))
  have := (h (fr0 #[a0, a1, a2, a3, a4, a5])).out
  rw [e] at this
  exact ⟨this⟩
theorem enter7 {P : Program} {f : FuncId} {fn : Func} {c : Code} {a0 a1 a2 a3 a4 a5 a6 : Value} {w : World} {R : Value → World → Prop} (n : Nat)
    (hf : P.funcs[f]? = some fn) (hb : fn.body = some c) (hn : fn.ntmps = n) (hs : Nat.ble 7 n = true)
    (h : ∀ fr : Fr, WC P c (endPost P fn n R) n (Fm.upd (Fm.upd (Fm.upd (Fm.upd (Fm.upd (Fm.upd (Fm.upd (.base fr) 0 a0) 1 a1) 2 a2) 3 a3) 4 a4) 5 a5) 6 a6) w) : Ret P f #[a0, a1, a2, a3, a4, a5, a6] w R := by
  refine enter n hf hb hn (Nat.le_of_ble_eq_true hs) ?_
  have e : ((Fm.upd (Fm.upd (Fm.upd (Fm.upd (Fm.upd (Fm.upd (Fm.upd (.base (fr0 #[a0, a1, a2, a3, a4, a5, a6])) 0 a0) 1 a1) 2 a2) 3 a3) 4 a4) 5 a5) 6 a6) : Fm).fn = (Fm.base (fr0 #[a0, a1, a2, a3, a4, a5, a6])).fn := by
    exact (upd_same rfl).trans ((upd_same rfl).trans ((upd_same rfl).trans ((upd_same rfl).trans ((upd_same rfl).trans ((upd_same rfl).trans (upd_same rfl))))))
  have := (h (fr0 #[a0, a1, a2, a3, a4, a5, a6])).out
  rw [e] at this
  exact ⟨this⟩

/-! ### Control -/
theorem then_normal {K : Fm → World → Prop} {Q : Exit → Fm → World → Prop} {f : Fm} {w : World} (h : K f w) : seqP K Q .normal f w := h
theorem then_exit {K : Fm → World → Prop} {Q : Exit → Fm → World → Prop} {f : Fm} {w : World} {i : Nat} (h : Q (.exit i) f w) : seqP K Q (.exit i) f w := h
theorem then_ret {K : Fm → World → Prop} {Q : Exit → Fm → World → Prop} {f : Fm} {w : World} (h : Q .ret f w) : seqP K Q .ret f w := h
theorem block_normal {i : Nat} {Q : Exit → Fm → World → Prop} {f : Fm} {w : World} (h : Q .normal f w) : blkP i Q .normal f w := h
theorem block_ret {i : Nat} {Q : Exit → Fm → World → Prop} {f : Fm} {w : World} (h : Q .ret f w) : blkP i Q .ret f w := h
theorem block_same {i : Nat} {Q : Exit → Fm → World → Prop} {f : Fm} {w : World} (h : Q .normal f w) : blkP i Q (.exit i) f w := by simp [blkP, h]
theorem block_other {i j : Nat} {Q : Exit → Fm → World → Prop} {f : Fm} {w : World} (hne : Nat.beq j i = false) (h : Q (.exit j) f w) : blkP i Q (.exit j) f w := by
  have : ¬ j = i := by intro e; subst e; simp at hne
  simp [blkP, this, h]

variable {P : Program} {ops : Array Oper} {Q : Exit → Fm → World → Prop} {n : Nat} {f : Fm} {w : World} {rest : List Oper}

theorem w_seq {x y : Code} (h : WC P x (seqP (fun f w => WC P y Q n f w) Q) n f w) : WC P (.seq x y) Q n f w := by
  refine ⟨wp_seq (wp_mono h.out ?_)⟩
  rintro e a w' ⟨np, f', rfl, hq⟩
  cases e <;> first | exact WC.out hq | exact ⟨np, f', rfl, hq⟩
theorem w_block {id : Nat} {c : Code} (h : WC P c (blkP id Q) n f w) : WC P (.block id c) Q n f w := by
  refine ⟨wp_block (wp_mono h.out ?_)⟩
  rintro e a w' ⟨np, f', rfl, hq⟩
  cases e with
  | exit id' =>
    by_cases hid : id' = id
    · simp only [blkP, hid, if_true] at hq
      simp only [Exit.inBlock, hid, if_true]
      exact ⟨nofun, f', rfl, hq⟩
    · simp only [blkP, hid, if_false] at hq
      simp only [Exit.inBlock, hid, if_false]
      exact ⟨nofun, f', rfl, hq⟩
  | panic c => exact absurd rfl (np c)
  | _ => exact ⟨nofun, f', rfl, hq⟩
theorem w_region {id : Nat} {l : List Oper} (h : WL P l.toArray Q l n f w) : WC P (.region id l.toArray false) Q n f w := ⟨wp_region_lit h.out⟩
theorem w_nil (h : Q .normal f w) : WL P ops Q [] n f w := ⟨⟨nofun, f, rfl, h⟩⟩
theorem w_skip (h : Q .normal f w) : WC P .skip Q n f w := ⟨wp_skip ⟨nofun, f, rfl, h⟩⟩
theorem w_ret (h : Q .ret f w) : WC P .ret Q n f w := ⟨wp_ret ⟨nofun, f, rfl, h⟩⟩
theorem w_exit {id : Nat} (h : Q (.exit id) f w) : WC P (.exit id) Q n f w := ⟨wp_exit ⟨nofun, f, rfl, h⟩⟩

theorem cond_true {c : Operand} {x y : Code} {b : Bool} (hc : lk n f c = some (.bool b)) (hb : b = true) (h : WC P x Q n f w) : WC P (.cond c x y) Q n f w :=
  ⟨wp_cond_true (by rw [act_eval, lk_evo hc, hb]) h.out⟩
theorem cond_false {c : Operand} {x y : Code} {b : Bool} (hc : lk n f c = some (.bool b)) (hb : b = false) (h : WC P y Q n f w) : WC P (.cond c x y) Q n f w :=
  ⟨wp_cond_false (by rw [act_eval, lk_evo hc, hb]) h.out⟩
theorem cond_split {c : Operand} {x y : Code} {b : Bool} (hc : lk n f c = some (.bool b)) (ht : b = true → WC P x Q n f w) (hf : b = false → WC P y Q n f w) : WC P (.cond c x y) Q n f w :=
  ⟨wp_cond_split (by rw [act_eval, lk_evo hc]) (fun h => (ht h).out) (fun h => (hf h).out)⟩
theorem cond_dec {c : Operand} {x y : Code} {p : Prop} [Decidable p] (hc : lk n f c = some (.bool (decide p))) (ht : p → WC P x Q n f w) (hf : ¬ p → WC P y Q n f w) : WC P (.cond c x y) Q n f w :=
  cond_split hc (fun h => ht (of_decide_eq_true h)) (fun h => hf (of_decide_eq_false h))

/-- A loop: I k f w at each round's head; each round that goes on lowers k. -/
theorem w_loop {c : Code} (I : Nat → Fr → World → Prop) (k : Nat) (h0 : I k f.fn w)
    (round : ∀ k f w, I k f w → WC P c (seqP (fun f' w' => ∃ k', k' < k ∧ I k' f'.fn w') Q) n (.base f) w) : WC P (.loop c) Q n f w := by
  refine ⟨fun b kk cs => ?_⟩
  have key : ∀ k f w, I k f w → ∃ e a' w', lift n Q e a' w' ∧ Arrives P (lone (b.at (act n f) (.code c :: .inLoop c :: kk)) cs w) b kk cs e a' w' := by
    intro k
    induction k using Nat.strongRecOn with
    | _ k ih =>
      intro f w hI
      obtain ⟨e, a₁, w₁, ⟨np, f', rfl, hq⟩, harr⟩ := (round k f w hI).out b (.inLoop c :: kk) cs
      cases e with
      | normal =>
        obtain ⟨k', hlt, hI'⟩ := hq
        obtain ⟨e₂, a₂, w₂, hq₂, harr₂⟩ := ih k' hlt f'.fn w₁ hI'
        exact ⟨e₂, a₂, w₂, hq₂, .of_steps (Steps.trans harr (.one step_inLoop)) harr₂⟩
      | exit id => exact ⟨_, _, w₁, ⟨np, f', rfl, hq⟩, .pass (x := .inLoop c) rfl (fun _ _ => .inl (by simp)) harr⟩
      | goto l => exact ⟨_, _, w₁, ⟨np, f', rfl, hq⟩, .pass (x := .inLoop c) rfl (fun _ _ => .inl (by simp)) harr⟩
      | ret => exact ⟨_, _, w₁, ⟨np, f', rfl, hq⟩, .pass (x := .inLoop c) rfl (fun _ _ => .inl (by simp)) harr⟩
      | panic ch => exact ⟨_, _, w₁, ⟨np, f', rfl, hq⟩, .pass (x := .inLoop c) rfl (fun _ _ => .inl (by simp)) harr⟩
      | outgrown => exact ⟨_, _, w₁, ⟨np, f', rfl, hq⟩, .pass (x := .inLoop c) rfl (fun _ _ => .inl (by simp)) harr⟩
  obtain ⟨e, a', w', hq, harr⟩ := key k f.fn w h0
  exact ⟨e, a', w', hq, .of_steps (.one step_loop) harr⟩
/-- Behind a loop's round. -/
theorem again {I : Nat → Fr → World → Prop} {k : Nat} (k' : Nat) (hk : k' < k) (h : I k' f.fn w) : ∃ k', k' < k ∧ I k' f.fn w := ⟨k', hk, h⟩
theorem know {c : Code} {t : Nat} {v : Value} (h : f.fn t = v) (k : WC P c Q n (f.upd t v) w) : WC P c Q n f w := by
  have := k.out
  rw [upd_same h] at this
  exact ⟨this⟩
/-- The ways through a first part meet at J. -/
theorem meet {c y : Code} (J : Fr → World → Prop) (h1 : WC P c (seqP (fun F w => J F.fn w) Q) n f w) (h2 : ∀ r w, J r w → WC P y Q n (.base r) w) : WC P c (seqP (fun f w => WC P y Q n f w) Q) n f w := by
  refine ⟨wp_mono h1.out ?_⟩
  rintro e a w' ⟨np, F, rfl, hq⟩
  refine ⟨np, F, rfl, ?_⟩
  cases e with
  | normal => exact ⟨(h2 F.fn w' hq).out⟩
  | _ => exact hq
/-- What the rest does not use is forgotten. -/
theorem forget {c : Code} (h : ∀ r : Fr, r = f.fn → WC P c Q n (.base r) w) : WC P c Q n f w := ⟨(h _ rfl).out⟩
end Go.Mem

/- The walk's own words, continued: the operations. Over any program. -/
namespace Go.Mem
open Go.RowKit

theorem split {p G : Prop} [Decidable p] (h1 : p → G) (h2 : ¬ p → G) : G := if h : p then h1 h else h2 h
theorem nb_t {b : Bool} (h : b = false) : (!b) = true := by simp [h]
theorem nb_f {b : Bool} (h : b = true) : (!b) = false := by simp [h]
theorem splitb {G : Prop} (b : Bool) (h1 : b = true → G) (h2 : b = false → G) : G := by cases b; exact h2 rfl; exact h1 rfl

/-- t is a slice type with elements of type e -/
class SliceTy (P : Program) (t : TypeId) (e : outParam TypeId) : Prop where
  under : P.underlying t = some (.slice e)
/-- e is a type of one cell, no struct and no array -/
class CellTy (P : Program) (e : TypeId) (z : outParam Value) (bytes : outParam Nat) : Prop where
  info : ∃ i, P.info? e = some i ∧ i.zero = some z ∧ i.size = 1 ∧ i.bytes = bytes
  agg : ∀ w, (isAgg e).run P w = .ok false w
  one : z.oneCell' = true
  small : bytes ≤ 24
/-- s is a struct type of one field, at the place 0 -/
class BoxTy (P : Program) (s : TypeId) : Prop where
  field : ∀ (a : Addr) w, (Instr.fieldAt s (.pointer (some a)) 0).run P w = .ok (.pointer (some a)) w
  agg : ∀ w, (isAgg s).run P w = .ok true w
  size : ∀ w, (sizeOf s).run P w = .ok 1 w

section
variable {P : Program} {ops : Array Oper} {Q : Exit → Fm → World → Prop} {n : Nat} {f : Fm} {w w' : World} {rest : List Oper}

/-- The operation o of the region is carried out; is passed over. -/
def Wants (o : Oper) (ops : Array Oper) (n : Nat) (f : Fm) : Prop := Region.wanted o (yielded ops (act n f.fn).tmps) = true
def Idle (o : Oper) (ops : Array Oper) (n : Nat) (f : Fm) : Prop := Region.wanted o (yielded ops (act n f.fn).tmps) = false
theorem wn {o : Oper} (hg : o.guard = none) : Wants o ops n f := by simp [Wants, Region.wanted, hg]
/-- The Bool that a value is. -/
def boolOf : Value → Option Bool
  | .bool b => some b
  | _ => none
theorem yielded_eq {j d : Nat} {oj : Oper} {v : Value} (hj : ops[j]? = some oj) (hd : oj.dst = some d) (hn : Nat.ble (d + 1) n = true) (hf : evo n f (.tmp d) = v) :
    yielded ops (act n f.fn).tmps j = boolOf v := by
  have hn' : d < n := Nat.le_of_ble_eq_true hn
  have e : (act n f.fn).tmps[d]? = some v := by
    rw [← hf]
    simp [act, hn', evo]
  simp only [yielded, hj, hd, Option.bind_some, e]
  cases v <;> rfl
theorem wy {o oj : Oper} {j d : Nat} {want b : Bool} (hg : o.guard = some (j, want)) (hj : ops[j]? = some oj) (hd : oj.dst = some d) (hn : Nat.ble (d + 1) n = true) (hf : lk n f (.tmp d) = some (.bool b)) (hb : b = want) :
    Wants o ops n f := by
  replace hf := lk_evo hf
  simp [Wants, Region.wanted, hg, yielded_eq hj hd hn hf, boolOf, hb]
theorem wx {o oj : Oper} {j d : Nat} {want b : Bool} (hg : o.guard = some (j, want)) (hj : ops[j]? = some oj) (hd : oj.dst = some d) (hn : Nat.ble (d + 1) n = true) (hf : lk n f (.tmp d) = some (.bool b)) (hb : b = !want) :
    Idle o ops n f := by
  replace hf := lk_evo hf
  subst hb
  simp [Idle, Region.wanted, hg, yielded_eq hj hd hn hf, boolOf]
/-- A guard whose guarding operation was itself passed over. -/
theorem wu {o oj : Oper} {j d : Nat} {want : Bool} (hg : o.guard = some (j, want)) (hj : ops[j]? = some oj) (hd : oj.dst = some d) (hn : Nat.ble (d + 1) n = true) (hf : evo n f (.tmp d) = undef) :
    Idle o ops n f := by
  simp [Idle, Region.wanted, hg, yielded_eq hj hd hn hf, boolOf, undef]

/-- The operation o, its operands read by ρ, yields v in w and leaves w as it is. -/
structure Yld (P : Program) (ρ : Operand → Value) (o : Oper) (w : World) (v : Value) : Prop where
  out : (execOp ρ o).run P w = .ok (.value v) w

theorem s_val {d : Nat} {op : Op} {ty : TypeId} {pos : String} {after : Array Edge} {g : Option (Nat × Bool)} {v : Value}
    (hw : Wants ⟨some d, op, ty, pos, after, g⟩ ops n f) (hd : Nat.ble (d + 1) n = true)
    (hrun : (execOp (evo n f) ⟨some d, op, ty, pos, after, g⟩).run P w = .ok (.value v) w') (k : WL P ops Q rest n (.upd f d v) w') :
    WL P ops Q (⟨some d, op, ty, pos, after, g⟩ :: rest) n f w := by
  unfold Wants at hw
  refine ⟨wpList_step fun K hK => ?_⟩
  rw [if_pos hw]
  unfold Oper.wp
  rw [act_eval, hrun, Oper.upon_value, act_put f v (Nat.le_of_ble_eq_true hd)]
  exact hK _ _ k.out

theorem s_p {d : Nat} {op : Op} {ty : TypeId} {pos : String} {after : Array Edge} {g : Option (Nat × Bool)} {v : Value}
    (hw : Wants ⟨some d, op, ty, pos, after, g⟩ ops n f) (hd : Nat.ble (d + 1) n = true)
    (hrun : Yld P (evo n f) ⟨some d, op, ty, pos, after, g⟩ w v) (k : WL P ops Q rest n (.upd f d v) w) :
    WL P ops Q (⟨some d, op, ty, pos, after, g⟩ :: rest) n f w := s_val hw hd hrun.out k

theorem s_no {d : Nat} {op : Op} {ty : TypeId} {pos : String} {after : Array Edge} {g : Option (Nat × Bool)}
    (hw : Idle ⟨some d, op, ty, pos, after, g⟩ ops n f) (hd : Nat.ble (d + 1) n = true)
    (k : WL P ops Q rest n (.upd f d undef) w) :
    WL P ops Q (⟨some d, op, ty, pos, after, g⟩ :: rest) n f w := by
  unfold Idle at hw
  refine ⟨wpList_step fun K hK => ?_⟩
  simp only [hw]
  rw [act_put f undef (Nat.le_of_ble_eq_true hd)]
  exact hK _ _ k.out

theorem s_unit {op : Op} {ty : TypeId} {pos : String} {after : Array Edge} {g : Option (Nat × Bool)}
    (hw : Wants ⟨none, op, ty, pos, after, g⟩ ops n f)
    (hrun : (execOp (evo n f) ⟨none, op, ty, pos, after, g⟩).run P w = .ok .skip w') (k : WL P ops Q rest n f w') :
    WL P ops Q (⟨none, op, ty, pos, after, g⟩ :: rest) n f w := by
  unfold Wants at hw
  refine ⟨wpList_step fun K hK => ?_⟩
  rw [if_pos hw]
  unfold Oper.wp
  rw [act_eval, hrun, Oper.upon_skip]
  exact hK _ _ k.out

/-! ### In a region that draws its order, and whose operations leave all that was there -/
structure WQ (P : Program) (ops : Array Oper) (w0 : World) (Q : Exit → Fm → World → Prop) (l : List Oper) (n : Nat) (f : Fm) : Prop where
  out : wpQuiet P ops (fun w' => Below w0.heap.size w0 w') (fun a' => ∀ w', Below w0.heap.size w0 w' → lift n Q .normal a' w') l (act n f.fn)
theorem q_p {w0 : World} {d : Nat} {op : Op} {ty : TypeId} {pos : String} {after : Array Edge} {g : Option (Nat × Bool)} {v : Value}
    (hw : Wants ⟨some d, op, ty, pos, after, g⟩ ops n f) (hd : Nat.ble (d + 1) n = true)
    (hrun : ∀ w, Below w0.heap.size w0 w → Yld P (evo n f) ⟨some d, op, ty, pos, after, g⟩ w v) (k : WQ P ops w0 Q rest n (.upd f d v)) :
    WQ P ops w0 Q (⟨some d, op, ty, pos, after, g⟩ :: rest) n f := by
  unfold Wants at hw
  refine ⟨wpQuiet_step fun K hK => ?_⟩
  rw [if_pos hw]
  refine ⟨v, fun w hw => ?_, ?_⟩
  · unfold Oper.quietAt
    have := (hrun w hw).out
    rw [act_eval, this]
    exact ⟨rfl, rfl⟩
  · rw [act_put f v (Nat.le_of_ble_eq_true hd)]
    exact hK _ k.out
theorem q_no {w0 : World} {d : Nat} {op : Op} {ty : TypeId} {pos : String} {after : Array Edge} {g : Option (Nat × Bool)}
    (hw : Idle ⟨some d, op, ty, pos, after, g⟩ ops n f) (hd : Nat.ble (d + 1) n = true)
    (k : WQ P ops w0 Q rest n (.upd f d undef)) :
    WQ P ops w0 Q (⟨some d, op, ty, pos, after, g⟩ :: rest) n f := by
  unfold Idle at hw
  refine ⟨wpQuiet_step fun K hK => ?_⟩
  simp only [hw]
  rw [act_put f undef (Nat.le_of_ble_eq_true hd)]
  exact hK _ k.out
theorem q_nil {w0 : World} (h : ∀ w', Below w0.heap.size w0 w' → Q .normal f w') : WQ P ops w0 Q [] n f :=
  ⟨wpQuiet_nil fun w' hw' => ⟨nofun, f, rfl, h w' hw'⟩⟩
theorem region_q {id : Nat} {l : List Oper} (hm : P.follows .mixedOrders = true) (hB : Region.lexB .any l.toArray = true)
    (h : WQ P l.toArray w Q l n f) : WC P (.region id l.toArray true) Q n f w :=
  ⟨wp_region_quiet (C := fun w' => Below w.heap.size w w') hm hB (Below.refl _ _).drew (by simpa using h.out)⟩
end

/-! ### The operations that leave the world as it is -/
section
variable {P : Program} {n : Nat} {f : Fm} {w : World} {dst : Option Tmp} {ty : TypeId} {pos : String} {after : Array Edge} {g : Option (Nat × Bool)}

theorem y_move {x : Operand} {v : Value} (hx : lk n f x = some v) : Yld P (evo n f) ⟨dst, .move x, ty, pos, after, g⟩ w v := by replace hx := lk_evo hx; subst hx; exact ⟨rfl⟩
theorem y_assign {x : Operand} {v : Value} (hx : lk n f x = some v) : Yld P (evo n f) ⟨dst, .assign x, ty, pos, after, g⟩ w v := by replace hx := lk_evo hx; subst hx; exact ⟨rfl⟩

theorem y_len {x : Operand} {t e : TypeId} {v : Value} {vs : List Value} [h : SliceTy P t e] (hx : lk n f x = some v) (hv : Rd w v vs) :
    Yld P (evo n f) ⟨dst, .call ⟨.builtin .len, #[x], #[t]⟩, ty, pos, after, g⟩ w (.int .i64 vs.length) := by
  replace hx := lk_evo hx
  obtain ⟨a, cap, rfl, h1, h2⟩ := hv
  constructor
  simp [execOp, resolve, invoke, builtin, Builtin.len_, run_underlying h.under, goInt, hx]

theorem y_idx {x i : Operand} {t e : TypeId} {v : Value} {vs : List Value} {k : IntKind} {j : Int} {z : Value} {bytes : Nat} [h : SliceTy P t e] [he : CellTy P e z bytes]
    (hx : lk n f x = some v) (hi : lk n f i = some (.int k j)) (hv : Rd w v vs) (h0 : 0 ≤ j) (hj : j < vs.length) :
    Yld P (evo n f) ⟨dst, .indexAddr t x i, ty, pos, after, g⟩ w (.pointer (some (addrOf v j.toNat))) := by
  replace hx := lk_evo hx
  replace hi := lk_evo hi
  obtain ⟨ti, hti, _, hs, _⟩ := he.info
  have := hv.idx t e ti h.under hti hs w k j h0 hj
  constructor
  simp [execOp, hx, hi, this]

theorem y_ld {x : Operand} {e : TypeId} {v u : Value} {vs : List Value} {j : Nat} {z : Value} {bytes : Nat} [he : CellTy P e z bytes]
    (hx : lk n f x = some (.pointer (some (addrOf v j)))) (hv : Rd w v vs) (hu : vs[j]? = some u) :
    Yld P (evo n f) ⟨dst, .load e x, ty, pos, after, g⟩ w u := by
  replace hx := lk_evo hx
  have := hv.cell hu
  constructor
  simp [execOp, Instr.loadAt, Instr.sureAddr, loadVar, hx, he.agg, this]

/-- A load through a pointer whose cell is known. -/
theorem y_ldc {x : Operand} {e : TypeId} {u : Value} {a : Addr} {z : Value} {bytes : Nat} [he : CellTy P e z bytes]
    (hx : lk n f x = some (.pointer (some a))) (hu : w.cell? a = some u) :
    Yld P (evo n f) ⟨dst, .load e x, ty, pos, after, g⟩ w u := by
  replace hx := lk_evo hx
  constructor
  simp [execOp, Instr.loadAt, Instr.sureAddr, loadVar, hx, he.agg, hu]
/-- A struct of one field, loaded whole. -/
theorem y_ldbox {x : Operand} {e : TypeId} {u : Value} {a : Addr} [he : BoxTy P e]
    (hx : lk n f x = some (.pointer (some a))) (hu : w.cell? a = some u) :
    Yld P (evo n f) ⟨dst, .load e x, ty, pos, after, g⟩ w (.agg #[u]) := by
  replace hx := lk_evo hx
  constructor
  simp [execOp, Instr.loadAt, Instr.sureAddr, loadVar, hx, he.agg, he.size, loadCells, loadCellsFrom, Addr.add_zero', hu]
theorem y_field {x : Operand} {s : TypeId} {a : Addr} [he : BoxTy P s] (hx : lk n f x = some (.pointer (some a))) :
    Yld P (evo n f) ⟨dst, .fieldAddr s x 0, ty, pos, after, g⟩ w (.pointer (some a)) := by
  replace hx := lk_evo hx
  constructor
  simp [execOp, hx, he.field]

theorem wrap_id {a : Int} (h : -9223372036854775808 ≤ a ∧ a ≤ 9223372036854775807) : IntKind.i64.wrap a = a := by
  rw [IntKind.wrap_i64]; omega

section bin
variable {x y : Operand} {tx ty' : TypeId} {a b : Int}
theorem y_add (hx : lk n f x = some (.int .i64 a)) (hy : lk n f y = some (.int .i64 b)) (h : -9223372036854775808 ≤ a + b ∧ a + b ≤ 9223372036854775807) :
    Yld P (evo n f) ⟨dst, .binOp .add tx x y ty', ty, pos, after, g⟩ w (.int .i64 (a + b)) := by
  replace hx := lk_evo hx
  replace hy := lk_evo hy
  constructor; simp [execOp, hx, hy, eqGuard, binOp, Op.intArith, wrap_id h]
theorem y_sub (hx : lk n f x = some (.int .i64 a)) (hy : lk n f y = some (.int .i64 b)) (h : -9223372036854775808 ≤ a - b ∧ a - b ≤ 9223372036854775807) :
    Yld P (evo n f) ⟨dst, .binOp .sub tx x y ty', ty, pos, after, g⟩ w (.int .i64 (a - b)) := by
  replace hx := lk_evo hx
  replace hy := lk_evo hy
  constructor; simp [execOp, hx, hy, eqGuard, binOp, Op.intArith, wrap_id h]
theorem y_mul (hx : lk n f x = some (.int .i64 a)) (hy : lk n f y = some (.int .i64 b)) (h : -9223372036854775808 ≤ a * b ∧ a * b ≤ 9223372036854775807) :
    Yld P (evo n f) ⟨dst, .binOp .mul tx x y ty', ty, pos, after, g⟩ w (.int .i64 (a * b)) := by
  replace hx := lk_evo hx
  replace hy := lk_evo hy
  constructor; simp [execOp, hx, hy, eqGuard, binOp, Op.intArith, wrap_id h]
theorem y_quo (hx : lk n f x = some (.int .i64 a)) (hy : lk n f y = some (.int .i64 b)) (h0 : 0 ≤ a) (h1 : 1 ≤ b) (h2 : a ≤ 9223372036854775807) :
    Yld P (evo n f) ⟨dst, .binOp .quo tx x y ty', ty, pos, after, g⟩ w (.int .i64 (a / b)) := by
  replace hx := lk_evo hx
  replace hy := lk_evo hy
  have hb : b ≠ 0 := by omega
  have e : a.tdiv b = a / b := Int.tdiv_eq_ediv_of_nonneg h0
  have hle : a / b ≤ a := Int.ediv_le_self _ h0
  have h0' : 0 ≤ a / b := Int.ediv_nonneg h0 (by omega)
  constructor; simp [execOp, hx, hy, eqGuard, binOp, Op.intDiv, hb, e, wrap_id (a := a / b) (by omega)]
theorem y_rem (hx : lk n f x = some (.int .i64 a)) (hy : lk n f y = some (.int .i64 b)) (h0 : 0 ≤ a) (h1 : 1 ≤ b) :
    Yld P (evo n f) ⟨dst, .binOp .rem tx x y ty', ty, pos, after, g⟩ w (.int .i64 (a % b)) := by
  replace hx := lk_evo hx
  replace hy := lk_evo hy
  have hb : b ≠ 0 := by omega
  have e : a.tmod b = a % b := Int.tmod_eq_emod_of_nonneg h0
  constructor; simp [execOp, hx, hy, eqGuard, binOp, Op.intDiv, hb, e]
theorem y_lss (hx : lk n f x = some (.int .i64 a)) (hy : lk n f y = some (.int .i64 b)) :
    Yld P (evo n f) ⟨dst, .binOp .lss tx x y ty', ty, pos, after, g⟩ w (.bool (decide (a < b))) := by
  replace hx := lk_evo hx
  replace hy := lk_evo hy
  constructor; simp [execOp, hx, hy, eqGuard, binOp, Op.intCmp]
theorem y_leq (hx : lk n f x = some (.int .i64 a)) (hy : lk n f y = some (.int .i64 b)) :
    Yld P (evo n f) ⟨dst, .binOp .leq tx x y ty', ty, pos, after, g⟩ w (.bool (decide (a ≤ b))) := by
  replace hx := lk_evo hx
  replace hy := lk_evo hy
  constructor; simp [execOp, hx, hy, eqGuard, binOp, Op.intCmp]
theorem y_gtr (hx : lk n f x = some (.int .i64 a)) (hy : lk n f y = some (.int .i64 b)) :
    Yld P (evo n f) ⟨dst, .binOp .gtr tx x y ty', ty, pos, after, g⟩ w (.bool (decide (b < a))) := by
  replace hx := lk_evo hx
  replace hy := lk_evo hy
  constructor; simp [execOp, hx, hy, eqGuard, binOp, Op.intCmp]
theorem y_geq (hx : lk n f x = some (.int .i64 a)) (hy : lk n f y = some (.int .i64 b)) :
    Yld P (evo n f) ⟨dst, .binOp .geq tx x y ty', ty, pos, after, g⟩ w (.bool (decide (b ≤ a))) := by
  replace hx := lk_evo hx
  replace hy := lk_evo hy
  constructor; simp [execOp, hx, hy, eqGuard, binOp, Op.intCmp]
theorem y_eql (hx : lk n f x = some (.int .i64 a)) (hy : lk n f y = some (.int .i64 b)) :
    Yld P (evo n f) ⟨dst, .binOp .eql tx x y ty', ty, pos, after, g⟩ w (.bool (decide (a = b))) := by
  replace hx := lk_evo hx
  replace hy := lk_evo hy
  constructor
  simp [execOp, hx, hy, eqGuard, binOp, Op.intCmp]
  by_cases h : a = b <;> simp [h]
theorem y_neq (hx : lk n f x = some (.int .i64 a)) (hy : lk n f y = some (.int .i64 b)) :
    Yld P (evo n f) ⟨dst, .binOp .neq tx x y ty', ty, pos, after, g⟩ w (.bool (decide (a ≠ b))) := by
  replace hx := lk_evo hx
  replace hy := lk_evo hy
  constructor
  simp [execOp, hx, hy, eqGuard, binOp, Op.intCmp]
  by_cases h : a = b <;> simp [h]
end bin
theorem y_not {x : Operand} {t : TypeId} {b : Bool} (hx : lk n f x = some (.bool b)) : Yld P (evo n f) ⟨dst, .unOp .not t x, ty, pos, after, g⟩ w (.bool (!b)) := by
  replace hx := lk_evo hx
  constructor; simp [execOp, hx, Op.unary]
theorem y_pick_true {c x y : Operand} {b : Bool} {v : Value} (hc : lk n f c = some (.bool b)) (hb : b = true) (hv : lk n f x = some v) : Yld P (evo n f) ⟨dst, .pick c x y, ty, pos, after, g⟩ w v := by
  replace hc := lk_evo hc
  replace hv := lk_evo hv
  constructor; simp [execOp, hc, hb, hv, asBool]
theorem y_pick_false {c x y : Operand} {b : Bool} {v : Value} (hc : lk n f c = some (.bool b)) (hb : b = false) (hv : lk n f y = some v) : Yld P (evo n f) ⟨dst, .pick c x y, ty, pos, after, g⟩ w v := by
  replace hc := lk_evo hc
  replace hv := lk_evo hv
  constructor; simp [execOp, hc, hb, hv, asBool]

theorem y_nil {x : Operand} {a : Addr} (hx : lk n f x = some (.pointer (some a))) : Yld P (evo n f) ⟨dst, .nilCheck x, ty, pos, after, g⟩ w (.pointer (some a)) := by
  replace hx := lk_evo hx
  constructor; simp [execOp, hx]

/-- The operations that only look at slots. -/
noncomputable def pop (n : Nat) (F : Fm) : Op → Option Value
  | .move x | .assign x => lk n F x
  | .binOp .lss _ x y _ => match lk n F x, lk n F y with
    | some (.int .i64 a), some (.int .i64 b) => some (.bool (decide (a < b)))
    | _, _ => none
  | .binOp .leq _ x y _ => match lk n F x, lk n F y with
    | some (.int .i64 a), some (.int .i64 b) => some (.bool (decide (a ≤ b)))
    | _, _ => none
  | .binOp .gtr _ x y _ => match lk n F x, lk n F y with
    | some (.int .i64 a), some (.int .i64 b) => some (.bool (decide (b < a)))
    | _, _ => none
  | .binOp .geq _ x y _ => match lk n F x, lk n F y with
    | some (.int .i64 a), some (.int .i64 b) => some (.bool (decide (b ≤ a)))
    | _, _ => none
  | .binOp .eql _ x y _ => match lk n F x, lk n F y with
    | some (.int .i64 a), some (.int .i64 b) => some (.bool (decide (a = b)))
    | _, _ => none
  | .binOp .neq _ x y _ => match lk n F x, lk n F y with
    | some (.int .i64 a), some (.int .i64 b) => some (.bool (decide (a ≠ b)))
    | _, _ => none
  | .nilCheck x => match lk n F x with
    | some (.pointer (some a)) => some (.pointer (some a))
    | _ => none
  | .unOp .not _ x => match lk n F x with
    | some (.bool b) => some (.bool (!b))
    | _ => none
  | .pick c x y => match lk n F c with
    | some (.bool true) => lk n F x
    | some (.bool false) => lk n F y
    | _ => none
  | _ => none
theorem y_pop {op : Op} {v : Value} (h : pop n f op = some v) : Yld P (evo n f) ⟨dst, op, ty, pos, after, g⟩ w v := by
  unfold pop at h
  split at h
  · exact y_move h
  · exact y_assign h
  · split at h
    · rename_i hx hy; cases h; exact y_lss hx hy
    · cases h
  · split at h
    · rename_i hx hy; cases h; exact y_leq hx hy
    · cases h
  · split at h
    · rename_i hx hy; cases h; exact y_gtr hx hy
    · cases h
  · split at h
    · rename_i hx hy; cases h; exact y_geq hx hy
    · cases h
  · split at h
    · rename_i hx hy; cases h; exact y_eql hx hy
    · cases h
  · split at h
    · rename_i hx hy; cases h; exact y_neq hx hy
    · cases h
  · split at h
    · rename_i hx; cases h; exact y_nil hx
    · cases h
  · split at h
    · rename_i hx; cases h; exact y_not hx
    · cases h
  · split at h
    · rename_i hx; exact y_pick_true hx rfl h
    · rename_i hx; exact y_pick_false hx rfl h
    · cases h
  · cases h
end
end Go.Mem

/- The walk's own words, continued: calls; the operations that make or write memory. Over any program. -/
namespace Go.Mem
open Go.RowKit

/-- Behind B: nothing there has turned; no block has gone; but for the block of 'row', nothing that was there at all. -/
theorem grownBy_below {w w' : World} {row : Option Nat} {B : Nat} (h : w.grownBy w' row) (hB : B ≤ w.heap.size) (hr : ∀ k, row = some k → B ≤ k) : Below B w w' :=
  (Below.refl B w).grown h hB hr

theorem grownBy_trans {a b c : World} {r : Option Nat} (h : a.grownBy b r) (k : b.grownBy c r) : a.grownBy c r :=
  ⟨k.os.trans h.os, k.tape.trans h.tape, k.output.trans h.output, Nat.le_trans h.size k.size, fun i hi hne => (k.block i (Nat.lt_of_lt_of_le hi h.size) hne).trans (h.block i hi hne)⟩
theorem grownBy_of_below {w w' : World} (h : Below w.heap.size w w') (r : Option Nat) : w.grownBy w' r := ⟨h.os, h.tape, h.output, h.size, fun k hk _ => h.block k hk⟩
theorem below_of_grownBy {w w' : World} (h : w.grownBy w' none) : Below w.heap.size w w' := ⟨h.os, h.tape, h.output, h.size, fun k hk => h.block k hk (by simp)⟩
theorem grownBy_none {w w' : World} (h : w.grownBy w' none) (r : Option Nat) : w.grownBy w' r := ⟨h.os, h.tape, h.output, h.size, fun k hk _ => h.block k hk (by simp)⟩

section run
variable {P : Program} {w : World} {B : Nat} {T : TypeId} {v : Value} {vs : List Value}

theorem storeVar_run {e : TypeId} {z : Value} {bytes : Nat} [he : CellTy P e z bytes] {a : Addr} {u u0 : Value} (hu : u.oneCell' = true) (hc : w.cell? a = some u0) (hf : w.frozen? a = false) :
    (storeVar e a u).run P w = .ok () (w.setCell a u) := by
  obtain ⟨ti, hti, _, hs, _⟩ := he.info
  have hcs : u.cells = #[u] := by cases u <;> first | rfl | simp [Value.oneCell'] at hu
  have hst := run_store P w a u .plain hu
  simp only [hc, hf] at hst
  simp [storeVar, sizeOf, typeInfo, hti, hs, hcs, storeCells, Addr.add_zero', hst]

theorem cell?_in_block {w : World} {g o : Nat} {cur : Array Value} {T : TypeId} {z : Nat × Nat} (h : w.heap[g]? = some (.cells cur T z)) : w.cell? ⟨g, o, none⟩ = cur[o]? := by simp [World.cell?, h]
theorem frozen?_in_block {w : World} {a : Addr} {cur : Array Value} {T : TypeId} (h : w.heap[a.block]? = some (.cells cur T (0, 0))) : w.frozen? a = false := by simp [World.frozen?, h]

/-- A store into an element that is owned. -/
theorem store_run {e : TypeId} {z : Value} {bytes : Nat} [he : CellTy P e z bytes] {j : Nat} {u : Value} (h : Own w B T v vs) (hj : j < vs.length) (hu : u.oneCell' = true) :
    ∃ w', (storeVar e (addrOf v j) u).run P w = .ok () w' ∧ Own w' B T v (vs.set j u) ∧ w.grownBy w' v.ownBlock := by
  rcases h with ⟨rfl, rfl⟩ | ⟨g, off, cap, cur, rfl, hb, hg, hl, hc, hs, hx⟩
  · simp at hj
  · have hin : off + j < cur.size := by omega
    have ha : addrOf (.slice (some ⟨g, off, none⟩) vs.length cap) j = ⟨g, off + j, none⟩ := by simp [addrOf, Addr.add_lit]
    have hcell : w.cell? ⟨g, off + j, none⟩ = some cur[off + j] := by rw [cell?_in_block hg]; simp [hin]
    refine ⟨w.setCell ⟨g, off + j, none⟩ u, ?_, ?_, ?_⟩
    · rw [ha]; exact storeVar_run hu hcell (frozen?_in_block hg)
    · refine .inr ⟨g, off, cap, cur.setIfInBounds (off + j) u, by simp, hb, ?_, by simpa using hl, hc, by simpa using hs, ?_⟩
      · simp [World.setCell, Array.getElem?_modify, hg]
      · intro i x hi
        rw [List.getElem?_set] at hi
        rw [Array.getElem?_setIfInBounds]
        by_cases hij : j = i
        · subst hij
          simp [hj] at hi
          simp [hin, hi]
        · rw [if_neg hij] at hi
          rw [if_neg (by omega)]
          exact hx i x hi
    · refine ⟨rfl, rfl, rfl, by simp, fun k _ hk => ?_⟩
      exact Below.heap_setCell _ _ _ _ (by simpa [Value.ownBlock] using hk)

theorem firstCells_run {sv : Value} {news : List Value} (h : Rd w sv news) : (Builtin.firstCells 1 news.length sv).run P w = .ok news.toArray w := by
  obtain ⟨a, cap, rfl, h1, h2, h3⟩ := h
  cases a with
  | none =>
    have : news = [] := by
      cases news with
      | nil => rfl
      | cons _ _ => exact absurd rfl (h1 (by simp))
    subst this
    simp [Builtin.firstCells]
  | some a => exact run_firstCells_some w 1 news.length a news.length cap news (by simp) (fun j u hu => h3 j u hu)

theorem loadCells_drew {sv : Value} {news : List Value} (h : Rd w sv news) : Rd w.drew sv news := h

/-- append(v, sv...): v owned (or nil), sv read. -/
theorem append_run {t ty e : TypeId} {z : Value} {bytes : Nat} [ht : SliceTy P t e] [he : CellTy P e z bytes] {sv : Value} {news : List Value} (h : Own w B e v vs) (hsrc : Rd w sv news) (h1 : ∀ u ∈ news, u.oneCell' = true)
    (hlen : vs.length + news.length ≤ 1000000000000) (hB : B ≤ w.heap.size) :
    ∃ v' w', (Builtin.append_ #[t, t] ty #[v, sv]).run P w = .ok v' w' ∧ Own w' B e v' (vs ++ news) ∧ w.grownBy w' v.ownBlock ∧ (v'.ownBlock = v.ownBlock ∨ v'.ownBlock = some w.heap.size) := by
  obtain ⟨i, hi, hz, hsz, hby⟩ := he.info
  have hf := firstCells_run (P := P) hsrc
  have hfd := firstCells_run (P := P) (loadCells_drew hsrc)
  have hlo : (Builtin.lenOf sv).run P w = .ok news.length w := by
    obtain ⟨a, cap, rfl, _⟩ := hsrc
    simp [Builtin.lenOf]
  have hz1 : z.cells = #[z] := by have := he.one; cases z <;> first | rfl | simp [Value.oneCell'] at this
  have hb24 := he.small
  have grow : ∀ (base : Option Addr) (old : Nat), v = .slice base vs.length old → old < vs.length + news.length →
      ∃ v' w', (Builtin.append_ #[t, t] ty #[v, sv]).run P w = .ok v' w' ∧ Own w' B e v' (vs ++ news) ∧ w.grownBy w' v.ownBlock ∧ (v'.ownBlock = v.ownBlock ∨ v'.ownBlock = some w.heap.size) := by
    intro base old hv ho
    have hrd : Rd w v vs := h.rd
    have hold := firstCells_run (P := P) (loadCells_drew hrd)
    have hfit : Builtin.nextslicecap (vs.length + news.length) old * bytes ≤ 281474976710656 := by
      refine growslice_fits ho ?_
      have : (vs.length + news.length) * bytes ≤ 1000000000000 * 24 := Nat.mul_le_mul hlen hb24
      omega
    have hge := grownCap_ge w (vs.length + news.length) old e
    have hcm : grownCap w (vs.length + news.length) old e ≤ maxLen := grownCap_le_maxLen w _ old e (by simp [maxLen]; omega)
    refine ⟨.slice (some ⟨w.heap.size, 0, none⟩) (vs.length + news.length) (grownCap w (vs.length + news.length) old e),
      w.drew.alloc (.cells (vs.toArray ++ news.toArray ++ Builtin.zeroCells z.cells (grownCap w (vs.length + news.length) old e - (vs.length + news.length))) e), ?_, ?_, ?_, ?_⟩
    · have hn : ¬ (vs.length + news.length ≤ old) := by omega
      have h63' : ¬ (9223372036854775807 < ((vs.length : Int) + (news.length : Int))) := by omega
      have h48' : ¬ (281474976710656 < Builtin.nextslicecap (vs.length + news.length) old * bytes) := by omega
      have hlo' := hlo
      rw [hv] at hold ⊢
      simp [Builtin.append_, run_underlying ht.under, sizeOf, typeInfo, zeroValue, hi, hz, hsz, hby, hlo, hn, h63', h48', Question.forced, hfd, hold, newRow, grownCap]
      congr 2
      apply Array.ext'
      simp [List.append_assoc]
    · refine .inr ⟨w.heap.size, 0, _, _, by simp, hB, heap_alloc_new w.drew _, by simpa using hge, hcm, ?_, ?_⟩
      · simp only [Array.size_append, List.size_toArray, size_zeroCells, hz1, List.size_toArray, List.length_cons, List.length_nil]
        omega
      · intro j u hu
        simp only [Nat.zero_add]
        rw [Array.getElem?_append_left (by
          have := (List.getElem?_eq_some_iff.1 hu).1
          simpa using this)]
        simpa using hu
    · exact ⟨rfl, rfl, rfl, by simp, fun k hk _ => Below.heap_alloc w.drew _ k hk⟩
    · exact .inr rfl
  rcases h with ⟨rfl, rfl⟩ | ⟨g, off, cap, cur, rfl, hb, hg, hl, hc, hs, hx⟩
  · by_cases hm : news = []
    · subst hm
      refine ⟨.slice none 0 0, w, ?_, Own.nil w B e, ⟨rfl, rfl, rfl, Nat.le_refl _, fun _ _ _ => rfl⟩, .inl rfl⟩
      simp only [List.length_nil] at hf hlo
      simp [Builtin.append_, run_underlying ht.under, sizeOf, typeInfo, hi, hsz, hlo, hf]
    · have : 0 < news.length := List.length_pos_iff.2 hm
      exact grow none 0 rfl (by simpa using this)
  · by_cases hroom : vs.length + news.length ≤ cap
    · refine ⟨.slice (some ⟨g, off, none⟩) (vs.length + news.length) cap, w.setRow g (cur.toList.take (off + vs.length) ++ news ++ cur.toList.drop (off + vs.length + news.length)).toArray, ?_, ?_, ?_, .inl rfl⟩
      · have hst := run_storeCells_at P g (off + vs.length) e news 0 cur w hg (by omega) h1
        simp only [Nat.add_zero] at hst
        simp [Builtin.append_, run_underlying ht.under, sizeOf, typeInfo, hi, hsz, hlo, hroom, hf, Addr.add_lit, hst]
      · refine .inr ⟨g, off, cap, _, by simp, hb, setRow_heap w g cur _ e _ hg, by simpa using hroom, hc, ?_, ?_⟩
        · simp only [List.size_toArray, List.length_append, List.length_take, List.length_drop, Array.length_toList]
          omega
        · intro j u hu
          simp only [List.getElem?_toArray]
          rw [List.getElem?_append] at hu
          rw [List.append_assoc, List.getElem?_append]
          have htl : (cur.toList.take (off + vs.length)).length = off + vs.length := by simp; omega
          rw [htl]
          by_cases hj : j < vs.length
          · rw [if_pos hj] at hu
            rw [if_pos (by omega), List.getElem?_take, if_pos (by omega)]
            simpa using hx j u hu
          · rw [if_neg hj] at hu
            rw [if_neg (by omega)]
            have e1 : off + j - (off + vs.length) = j - vs.length := by omega
            rw [e1, List.getElem?_append]
            have hlt := (List.getElem?_eq_some_iff.1 hu).1
            rw [if_pos hlt]
            exact hu
      · exact ⟨rfl, rfl, rfl, by simp, fun k _ hk => setRow_other w g k _ (fun e => hk (by simp [Value.ownBlock, e]))⟩
    · exact grow _ cap rfl (by omega)

/-- make([]T, n) -/
theorem make_run {t e : TypeId} {z : Value} {bytes : Nat} [ht : SliceTy P t e] [he : CellTy P e z bytes] {kl kc : IntKind} {m : Int} (h0 : 0 ≤ m) (hm : m ≤ 1000000000000) (hB : B ≤ w.heap.size) :
    ∃ w', (Instr.makeSlice t (.int kl m) (.int kc m)).run P w = .ok (.slice (some ⟨w.heap.size, 0, none⟩) m.toNat m.toNat) w' ∧
      Own w' B e (.slice (some ⟨w.heap.size, 0, none⟩) m.toNat m.toNat) (List.replicate m.toNat z) ∧ w.grownBy w' none := by
  obtain ⟨i, hi, hz, hsz, hby⟩ := he.info
  have hz1 : z.cells = #[z] := by have := he.one; cases z <;> first | rfl | simp [Value.oneCell'] at this
  have hb24 := he.small
  have hbytes : (i.bytes : Int) * m ≤ 281474976710656 := by
    have h24 : (i.bytes : Int) ≤ 24 := by omega
    have : (i.bytes : Int) * m ≤ 24 * 1000000000000 := Int.mul_le_mul h24 hm h0 (by omega)
    omega
  have hr := run_make (P := P) w t e i z ht.under hi hz kl kc m m h0 (Int.le_refl _) hbytes (by omega)
  refine ⟨_, hr, ?_, World.grownBy_alloc w _ none⟩
  refine .inr ⟨w.heap.size, 0, m.toNat, _, by simp, hB, heap_alloc_new w _, by simp, by simp [maxLen]; omega, by simp [size_madeCells, hsz], ?_⟩
  intro j u hu
  rw [List.getElem?_replicate] at hu
  have hj : j < m.toNat := by
    by_cases hj : j < m.toNat
    · exact hj
    · rw [if_neg hj] at hu; simp at hu
  rw [if_pos hj] at hu
  simp only [Option.some.injEq] at hu
  subst hu
  simp [madeCells, hz1, hsz, hj, Nat.mod_one]

end run

section steps
variable {P : Program} {ops : Array Oper} {Q : Exit → Fm → World → Prop} {n : Nat} {f : Fm} {w : World} {rest : List Oper} {ty : TypeId} {pos : String} {after : Array Edge} {g : Option (Nat × Bool)} {d : Nat}

/-- A store into an element that is owned. -/
theorem s_store {B : Nat} {T e : TypeId} {z : Value} {bytes : Nat} [he : CellTy P e z bytes] {x y : Operand} {v u : Value} {vs : List Value} {j : Nat}
    (hw : Wants ⟨none, .store e x y, ty, pos, after, g⟩ ops n f)
    (hx : lk n f x = some (.pointer (some (addrOf v j)))) (hy : lk n f y = some u) (hu : u.oneCell' = true) (hv : Own w B T v vs) (hj : j < vs.length)
    (k : ∀ w', Own w' B T v (vs.set j u) → w.grownBy w' v.ownBlock → WL P ops Q rest n f w') :
    WL P ops Q (⟨none, .store e x y, ty, pos, after, g⟩ :: rest) n f w := by
  replace hx := lk_evo hx
  replace hy := lk_evo hy
  obtain ⟨w', hr, ho, hg⟩ := store_run (P := P) (e := e) hv hj hu
  refine s_unit hw ?_ (k w' ho hg)
  simp [execOp, Instr.storeAt, Instr.sureAddr, hx, hy, hr]

theorem s_append {B : Nat} {t e : TypeId} {z : Value} {bytes : Nat} [ht : SliceTy P t e] [he : CellTy P e z bytes] {x y : Operand} {v sv : Value} {vs news : List Value}
    (hw : Wants ⟨some d, .call ⟨.builtin .append, #[x, y], #[t, t]⟩, ty, pos, after, g⟩ ops n f) (hd : Nat.ble (d + 1) n = true)
    (hx : lk n f x = some v) (hy : lk n f y = some sv) (hv : Own w B e v vs) (hs : Rd w sv news) (h1 : ∀ u ∈ news, u.oneCell' = true) (hlen : vs.length + news.length ≤ 1000000000000) (hB : B ≤ w.heap.size)
    (k : ∀ v' w', Own w' B e v' (vs ++ news) → w.grownBy w' v.ownBlock → (v'.ownBlock = v.ownBlock ∨ v'.ownBlock = some w.heap.size) → WL P ops Q rest n (.upd f d v') w') :
    WL P ops Q (⟨some d, .call ⟨.builtin .append, #[x, y], #[t, t]⟩, ty, pos, after, g⟩ :: rest) n f w := by
  replace hx := lk_evo hx
  replace hy := lk_evo hy
  obtain ⟨v', w', hr, ho, hg, hb⟩ := append_run (P := P) (t := t) (ty := ty) hv hs h1 hlen hB
  refine s_val hw hd ?_ (k v' w' ho hg hb)
  simp [execOp, resolve, invoke, builtin, hx, hy, hr]

theorem s_make {B : Nat} {t e : TypeId} {z : Value} {bytes : Nat} [ht : SliceTy P t e] [he : CellTy P e z bytes] {x y : Operand} {kl kc : IntKind} {m : Int}
    (hw : Wants ⟨some d, .makeSlice t x y, ty, pos, after, g⟩ ops n f) (hd : Nat.ble (d + 1) n = true)
    (hx : lk n f x = some (.int kl m)) (hy : lk n f y = some (.int kc m)) (h0 : 0 ≤ m) (hm : m ≤ 1000000000000) (hB : B ≤ w.heap.size)
    (k : ∀ v w', Own w' B e v (List.replicate m.toNat z) → w.grownBy w' none → v.ownBlock = some w.heap.size → WL P ops Q rest n (.upd f d v) w') :
    WL P ops Q (⟨some d, .makeSlice t x y, ty, pos, after, g⟩ :: rest) n f w := by
  replace hx := lk_evo hx
  replace hy := lk_evo hy
  obtain ⟨w', hr, ho, hg⟩ := make_run (P := P) (t := t) (kl := kl) (kc := kc) h0 hm hB
  refine s_val hw hd ?_ (k _ w' ho hg rfl)
  simp [execOp, hx, hy, hr]


theorem zcells {z : Value} (h : z.oneCell' = true) : z.cells = #[z] := by cases z <;> first | rfl | simp [Value.oneCell'] at h

theorem fill_gen : ∀ (vs : List Value) (k : Nat) (cells : Array Value), (∀ u ∈ vs, u.oneCell' = true) → k + vs.length ≤ cells.size →
    ∃ cs, Instr.fill (fun i => some (i, 1)) cells ((List.range' k vs.length).zip vs) = some cs ∧ cs.toList = cells.toList.take k ++ vs ++ cells.toList.drop (k + vs.length)
  | [], k, cells, _, _ => ⟨cells, by simp [Instr.fill], by simp⟩
  | u :: vs, k, cells, h1, hl => by
    have hu := zcells (h1 u (by simp))
    simp only [List.length_cons] at hl
    obtain ⟨cs, h2, h3⟩ := fill_gen vs (k + 1) (cells.setIfInBounds k u) (fun x hx => h1 x (by simp [hx])) (by simp; omega)
    refine ⟨cs, ?_, ?_⟩
    · have hle : ¬ (cells.size < k + 1) := by omega
      simp [List.range'_succ, Instr.fill, hu, hle, h2]
    · rw [h3]
      have := list_seg_step cells.toList k u vs (by simp; omega)
      simp only [List.length_cons]
      simpa [Array.toList_setIfInBounds, Nat.add_assoc, Nat.add_comm 1] using this

/-- []T{x1, .., xm} -/
theorem s_build {B : Nat} {t e : TypeId} {z : Value} {bytes m : Nat} {parts : Array (Nat × Operand)} [ht : SliceTy P t e] [he : CellTy P e z bytes] (vs : List Value)
    (hw : Wants ⟨some d, .buildSlice t m parts, ty, pos, after, g⟩ ops n f) (hd : Nat.ble (d + 1) n = true)
    (hp : parts.toList.map (fun x => (x.1, evo n f x.2)) = (List.range' 0 vs.length).zip vs) (hm : m ≤ 1000000) (hl : vs.length = m) (h1 : ∀ u ∈ vs, u.oneCell' = true) (hB : B ≤ w.heap.size)
    (k : ∀ v w', Own w' B e v vs → w.grownBy w' none → v.ownBlock = some w.heap.size → WL P ops Q rest n (.upd f d v) w') :
    WL P ops Q (⟨some d, .buildSlice t m parts, ty, pos, after, g⟩ :: rest) n f w := by
  obtain ⟨i, hi, hz, hsz, hby⟩ := he.info
  have hr : ∃ cells : Array Value, (Instr.buildSlice t m (parts.map fun (i, x) => (i, evo n f x))).run P w = .ok (.slice (some ⟨w.heap.size, 0, none⟩) m m) (w.alloc (.cells cells e)) ∧ cells.toList = vs := by
    have hm' : ¬ (16777216 < m * i.size) := by rw [hsz]; omega
    have key : ∀ cs : Array Value, cs.size = m → ∃ cells : Array Value, Instr.fill (fun i => some (i, 1)) cs ((List.range' 0 vs.length).zip vs) = some cells ∧ cells.toList = vs := by
      intro cs hcs
      obtain ⟨cells, c1, c2⟩ := fill_gen vs 0 cs h1 (by omega)
      refine ⟨cells, c1, ?_⟩
      rw [c2, hl, ← hcs]
      simp
    by_cases h0 : m = 0
    · obtain ⟨cells, c1, c2⟩ := key #[] (by simp [h0])
      refine ⟨cells, ?_, c2⟩
      subst h0
      have hv : vs = [] := List.eq_nil_of_length_eq_zero hl
      subst hv
      simp only [List.length_nil, List.range'_zero, List.zip_nil_left, List.map_eq_nil_iff, Array.toList_eq_nil_iff] at hp
      subst hp
      simp [Instr.fill] at c1
      simp [Instr.buildSlice, run_underlying ht.under, sizeOf, typeInfo, hi, Instr.fill, newRow, Array.range_zero', c1]
    · obtain ⟨cells, c1, c2⟩ := key ((Array.range (m * i.size)).map (z.cells[· % z.cells.size]!)) (by simp [hsz])
      refine ⟨cells, ?_, c2⟩
      simp only [hsz, Nat.mul_one] at c1 hm'
      simp [Instr.buildSlice, run_underlying ht.under, sizeOf, typeInfo, zeroValue, hi, hz, hsz, hm', h0, newRow]
      rw [hp, c1]
      rfl
  obtain ⟨cells, hr, hcl⟩ := hr
  refine s_val hw hd (v := .slice (some ⟨w.heap.size, 0, none⟩) m m) (w' := w.alloc (.cells cells e)) ?_ (k _ (w.alloc (.cells cells e)) ?_ (World.grownBy_alloc w _ none) rfl)
  · simp [execOp, hr]
  · subst hcl
    refine .inr ⟨w.heap.size, 0, m, cells, by simp [hl], hB, heap_alloc_new w _, by omega, by simp [maxLen]; omega, by simp at hl; omega, ?_⟩
    intro j u hu
    simpa using hu
end steps
end Go.Mem

/- The walk's own words, continued: reslicing, boxes, calls of Go functions. Over any program. -/
namespace Go.Mem
open Go.RowKit

/-- g is a function with a body -/
class FunTy (P : Program) (g : FuncId) : Prop where
  enters : ∀ (args : Array Value) (w : World), (callFunc g args).run P w = .ok (.enter g args) w

theorem FunTy.of {P : Program} {g : FuncId} {fn : Func} {c : Code} (hf : P.funcs[g]? = some fn) (hname : (fn.name == "runtime.NumGoroutine") = false) (hb : fn.body = some c) : FunTy P g := by
  have h : ¬ fn.name = "runtime.NumGoroutine" := by simpa using hname
  exact ⟨fun args w => by simp [callFunc, hf, h, hb]⟩

section slice
variable {P : Program} {w : World} {B : Nat} {T : TypeId} {v : Value} {vs : List Value}

/-- v[l:h] as a value -/
def cut (v : Value) (l h : Nat) : Value :=
  match v with
  | .slice a _ cap => .slice (if cap = l then a else a.map (·.add l)) (h - l) (cap - l)
  | v => v

theorem cut_block (v : Value) (l h : Nat) : (cut v l h).ownBlock = v.ownBlock := by
  cases v <;> try rfl
  rename_i a n cap
  cases a with
  | none => by_cases h : cap = l <;> simp [cut, h, Value.ownBlock]
  | some a =>
    by_cases h : cap = l
    · simp [cut, h, Value.ownBlock]
    · by_cases h0 : l = 0 <;> simp [cut, h, Value.ownBlock, Addr.add, h0]

theorem addrOf_cut {a : Addr} {n cap l h i : Nat} (hc : cap ≠ l) (hs : a.spot = none) : addrOf (cut (.slice (some a) n cap) l h) i = addrOf (.slice (some a) n cap) (l + i) := by
  obtain ⟨b, o, s⟩ := a
  simp only at hs
  subst hs
  by_cases h0 : l = 0 <;> by_cases hi : i = 0 <;> simp [cut, hc, addrOf, Addr.add, h0, hi, Nat.add_assoc]

theorem Rd.cut (h : Rd w v vs) {l r : Nat} (hl : l ≤ r) (hr : r ≤ vs.length) : Rd w (Mem.cut v l r) ((vs.take r).drop l) := by
  obtain ⟨a, cap, rfl, h1, h2, h3⟩ := h
  have hlen : ((vs.take r).drop l).length = r - l := by simp; omega
  refine ⟨_, _, by rw [hlen]; rfl, ?_, by omega, ?_⟩
  · intro hne
    have hvs : vs ≠ [] := by intro e; subst e; simp at hne
    have ha := h1 hvs
    cases a with
    | none => exact absurd rfl ha
    | some a => split <;> simp
  · intro i u hu
    rw [List.getElem?_drop, List.getElem?_take] at hu
    split at hu
    · rename_i hlt
      have hin := (List.getElem?_eq_some_iff.1 hu).1
      cases a with
      | none => exact absurd rfl (h1 (by intro e; subst e; simp at hu))
      | some a =>
        have h0 := h3 0 (vs[0]'(by omega)) (by simp)
        have hsp : a.spot = none := World.cell?_spot (a := a) (by simpa [addrOf, Addr.add] using h0)
        rw [addrOf_cut (by omega) hsp]
        exact h3 _ _ hu
    · simp at hu

theorem Own.cut (h : Own w B T v vs) {l r : Nat} (hl : l ≤ r) (hr : r ≤ vs.length) : Own w B T (Mem.cut v l r) ((vs.take r).drop l) := by
  rcases h with ⟨rfl, rfl⟩ | ⟨g, off, cap, cur, rfl, hb, hg, hlc, hc, hs, hx⟩
  · simp at hr
    subst hr
    have : l = 0 := by omega
    subst this
    exact .inl ⟨rfl, by simp⟩
  · have hlen : ((vs.take r).drop l).length = r - l := by simp; omega
    by_cases hcl : cap = l
    · have hrl : r = l := by omega
      refine .inr ⟨g, off, cap - l, cur, by simp [Mem.cut, hcl, hlen], hb, hg, by omega, by omega, by omega, ?_⟩
      intro i u hu
      have := (List.getElem?_eq_some_iff.1 hu).1
      omega
    · refine .inr ⟨g, off + l, cap - l, cur, by simp [Mem.cut, hcl, hlen, Addr.add_lit], hb, hg, by omega, by omega, by omega, ?_⟩
      intro i u hu
      rw [List.getElem?_drop, List.getElem?_take] at hu
      split at hu
      · rw [Nat.add_assoc]; exact hx _ _ hu
      · simp at hu

theorem cut_run {t e : TypeId} {z : Value} {bytes : Nat} [ht : SliceTy P t e] [he : CellTy P e z bytes] (h : Rd w v vs) {kl kh : IntKind} {l r : Int} (h0 : 0 ≤ l) (hl : l ≤ r) (hr : r ≤ vs.length) :
    (Instr.sliceAt t v (some (.int kl l)) (some (.int kh r)) none).run P w = .ok (cut v l.toNat r.toNat) w := by
  obtain ⟨a, cap, rfl, _, ⟨_, hcap⟩, _⟩ := h
  obtain ⟨i, hi, hz, hsz, hby⟩ := he.info
  have h0r : 0 ≤ r := by omega
  have hrc : r ≤ cap := by omega
  have hlr : l ≤ max r 0 := by omega
  simp [Instr.sliceAt, Instr.slice, run_underlying ht.under, Instr.sliceBounds, Instr.sliceBound, asIntOf, h0, h0r, hrc, hlr, sizeOf, typeInfo, hi, hsz, cut]
theorem cut_run_lo {t e : TypeId} {z : Value} {bytes : Nat} [ht : SliceTy P t e] [he : CellTy P e z bytes] (h : Rd w v vs) {kl : IntKind} {l : Int} (h0 : 0 ≤ l) (hl : l ≤ vs.length) :
    (Instr.sliceAt t v (some (.int kl l)) none none).run P w = .ok (cut v l.toNat vs.length) w := by
  obtain ⟨a, cap, rfl, _, ⟨_, hcap⟩, _⟩ := h
  obtain ⟨i, hi, hz, hsz, hby⟩ := he.info
  simp [Instr.sliceAt, Instr.slice, run_underlying ht.under, Instr.sliceBounds, Instr.sliceBound, asIntOf, h0, hl, sizeOf, typeInfo, hi, hsz, cut]
theorem cut_run_hi {t e : TypeId} {z : Value} {bytes : Nat} [ht : SliceTy P t e] [he : CellTy P e z bytes] (h : Rd w v vs) {kh : IntKind} {r : Int} (h0 : 0 ≤ r) (hr : r ≤ vs.length) :
    (Instr.sliceAt t v none (some (.int kh r)) none).run P w = .ok (cut v 0 r.toNat) w := by
  obtain ⟨a, cap, rfl, _, ⟨_, hcap⟩, _⟩ := h
  obtain ⟨i, hi, hz, hsz, hby⟩ := he.info
  have hrc : r ≤ cap := by omega
  simp [Instr.sliceAt, Instr.slice, run_underlying ht.under, Instr.sliceBounds, Instr.sliceBound, asIntOf, h0, hrc, sizeOf, typeInfo, hi, cut]
end slice

section
variable {P : Program} {n : Nat} {f : Fm} {w : World} {dst : Option Tmp} {ty : TypeId} {pos : String} {after : Array Edge} {g : Option (Nat × Bool)}
theorem y_cut {x lo hi : Operand} {t e : TypeId} {z : Value} {bytes : Nat} [ht : SliceTy P t e] [he : CellTy P e z bytes] {v : Value} {vs : List Value} {kl kh : IntKind} {l r : Int}
    (hx : lk n f x = some v) (hlo : lk n f lo = some (.int kl l)) (hhi : lk n f hi = some (.int kh r)) (h : Rd w v vs) (h0 : 0 ≤ l) (hl : l ≤ r) (hr : r ≤ vs.length) :
    Yld P (evo n f) ⟨dst, .slice t x (some lo) (some hi) none, ty, pos, after, g⟩ w (cut v l.toNat r.toNat) := by
  replace hx := lk_evo hx
  replace hlo := lk_evo hlo
  replace hhi := lk_evo hhi
  constructor; simp [execOp, hx, hlo, hhi, cut_run h h0 hl hr]
theorem y_cut_lo {x lo : Operand} {t e : TypeId} {z : Value} {bytes : Nat} [ht : SliceTy P t e] [he : CellTy P e z bytes] {v : Value} {vs : List Value} {kl : IntKind} {l : Int}
    (hx : lk n f x = some v) (hlo : lk n f lo = some (.int kl l)) (h : Rd w v vs) (h0 : 0 ≤ l) (hl : l ≤ vs.length) :
    Yld P (evo n f) ⟨dst, .slice t x (some lo) none none, ty, pos, after, g⟩ w (cut v l.toNat vs.length) := by
  replace hx := lk_evo hx
  replace hlo := lk_evo hlo
  constructor; simp [execOp, hx, hlo, cut_run_lo h h0 hl]
theorem y_cut_hi {x hi : Operand} {t e : TypeId} {z : Value} {bytes : Nat} [ht : SliceTy P t e] [he : CellTy P e z bytes] {v : Value} {vs : List Value} {kh : IntKind} {r : Int}
    (hx : lk n f x = some v) (hhi : lk n f hi = some (.int kh r)) (h : Rd w v vs) (h0 : 0 ≤ r) (hr : r ≤ vs.length) :
    Yld P (evo n f) ⟨dst, .slice t x none (some hi) none, ty, pos, after, g⟩ w (cut v 0 r.toNat) := by
  replace hx := lk_evo hx
  replace hhi := lk_evo hhi
  constructor; simp [execOp, hx, hhi, cut_run_hi h h0 hr]
end

section steps
variable {P : Program} {ops : Array Oper} {Q : Exit → Fm → World → Prop} {n : Nat} {f : Fm} {w : World} {rest : List Oper} {ty : TypeId} {pos : String} {after : Array Edge} {g : Option (Nat × Bool)} {d : Nat}

/-- A value of one cell (a number, a slice, a struct of one field) gets a place of its own. -/
theorem s_box {e : TypeId} {x : Operand} {v u : Value}
    (hw : Wants ⟨some d, .box e x, ty, pos, after, g⟩ ops n f) (hd : Nat.ble (d + 1) n = true)
    (hx : lk n f x = some v) (hc : v.cells = #[u])
    (k : ∀ w', w'.cell? ⟨w.heap.size, 0, none⟩ = some u → w'.frozen? ⟨w.heap.size, 0, none⟩ = false → w.heap.size < w'.heap.size → w.grownBy w' none → WL P ops Q rest n (.upd f d (.pointer (some ⟨w.heap.size, 0, none⟩))) w') :
    WL P ops Q (⟨some d, .box e x, ty, pos, after, g⟩ :: rest) n f w := by
  replace hx := lk_evo hx
  refine s_val hw hd (v := .pointer (some ⟨w.heap.size, 0, none⟩)) (w' := w.alloc (.cells #[u] e)) ?_ (k (w.alloc (.cells #[u] e)) ?_ ?_ (by simp) (World.grownBy_alloc w _ none))
  · simp [execOp, Instr.box, newVar, newRow, hx, hc]
  · simp
  · simp

theorem s_call {fn : FuncId} {xs : Array Operand} {ats : Array TypeId} {args : Array Value} {R : Value → World → Prop} [hf : FunTy P fn]
    (hw : Wants ⟨some d, .call ⟨.value (.func fn), xs, ats⟩, ty, pos, after, g⟩ ops n f) (hd : Nat.ble (d + 1) n = true)
    (hxs : xs.toList.map (evo n f) = args.toList) (hc : Ret P fn args w R)
    (k : ∀ v w', R v w' → WL P ops Q rest n (.upd f d v) w') :
    WL P ops Q (⟨some d, .call ⟨.value (.func fn), xs, ats⟩, ty, pos, after, g⟩ :: rest) n f w := by
  unfold Wants at hw
  refine ⟨wpList_step fun K hK => ?_⟩
  rw [if_pos hw]
  unfold Oper.wp
  have hargs : xs.map (evo n f) = args := by apply Array.ext'; simpa using hxs
  have hrun : (execOp (evo n f) ⟨some d, .call ⟨.value (.func fn), xs, ats⟩, ty, pos, after, g⟩).run P w = .ok (.enter fn args) w := by
    have := hf.enters (#[] ++ args ++ #[]) w
    simp only [Array.empty_append, Array.append_empty] at this
    rw [← this, ← hargs]
    simp [execOp, resolve, evo, Deferred.ofValue, invoke]
  rw [act_eval, hrun, Oper.upon_enter]
  refine Calls.mono hc ?_
  rintro e w' ⟨v, rfl, hR⟩
  show K _ w'
  rw [act_put f v (Nat.le_of_ble_eq_true hd)]
  exact hK _ _ (k v w' hR).out

theorem s_call0 {fn : FuncId} {ats : Array TypeId} {R : Value → World → Prop} [hf : FunTy P fn]
    (hw : Wants ⟨some d, .call ⟨.value (.func fn), #[], ats⟩, ty, pos, after, g⟩ ops n f) (hd : Nat.ble (d + 1) n = true)
    (hc : Ret P fn #[] w R) (k : ∀ v w', R v w' → WL P ops Q rest n (.upd f d v) w') :
    WL P ops Q (⟨some d, .call ⟨.value (.func fn), #[], ats⟩, ty, pos, after, g⟩ :: rest) n f w := s_call hw hd (by simp) hc k
theorem s_call1 {fn : FuncId} {x : Operand} {ats : Array TypeId} {a : Value} {R : Value → World → Prop} [hf : FunTy P fn]
    (hw : Wants ⟨some d, .call ⟨.value (.func fn), #[x], ats⟩, ty, pos, after, g⟩ ops n f) (hd : Nat.ble (d + 1) n = true)
    (hx : lk n f x = some a) (hc : Ret P fn #[a] w R) (k : ∀ v w', R v w' → WL P ops Q rest n (.upd f d v) w') :
    WL P ops Q (⟨some d, .call ⟨.value (.func fn), #[x], ats⟩, ty, pos, after, g⟩ :: rest) n f w := s_call hw hd (by simp [lk_evo hx]) hc k
theorem s_call2 {fn : FuncId} {x y : Operand} {ats : Array TypeId} {a b : Value} {R : Value → World → Prop} [hf : FunTy P fn]
    (hw : Wants ⟨some d, .call ⟨.value (.func fn), #[x, y], ats⟩, ty, pos, after, g⟩ ops n f) (hd : Nat.ble (d + 1) n = true)
    (hx : lk n f x = some a) (hy : lk n f y = some b) (hc : Ret P fn #[a, b] w R) (k : ∀ v w', R v w' → WL P ops Q rest n (.upd f d v) w') :
    WL P ops Q (⟨some d, .call ⟨.value (.func fn), #[x, y], ats⟩, ty, pos, after, g⟩ :: rest) n f w := s_call hw hd (by simp [lk_evo hx, lk_evo hy]) hc k
theorem s_call3 {fn : FuncId} {x y z : Operand} {ats : Array TypeId} {a b c : Value} {R : Value → World → Prop} [hf : FunTy P fn]
    (hw : Wants ⟨some d, .call ⟨.value (.func fn), #[x, y, z], ats⟩, ty, pos, after, g⟩ ops n f) (hd : Nat.ble (d + 1) n = true)
    (hx : lk n f x = some a) (hy : lk n f y = some b) (hz : lk n f z = some c) (hc : Ret P fn #[a, b, c] w R) (k : ∀ v w', R v w' → WL P ops Q rest n (.upd f d v) w') :
    WL P ops Q (⟨some d, .call ⟨.value (.func fn), #[x, y, z], ats⟩, ty, pos, after, g⟩ :: rest) n f w := s_call hw hd (by simp [lk_evo hx, lk_evo hy, lk_evo hz]) hc k
theorem s_call4 {fn : FuncId} {x y z u : Operand} {ats : Array TypeId} {a b c e : Value} {R : Value → World → Prop} [hf : FunTy P fn]
    (hw : Wants ⟨some d, .call ⟨.value (.func fn), #[x, y, z, u], ats⟩, ty, pos, after, g⟩ ops n f) (hd : Nat.ble (d + 1) n = true)
    (hx : lk n f x = some a) (hy : lk n f y = some b) (hz : lk n f z = some c) (hu : lk n f u = some e) (hc : Ret P fn #[a, b, c, e] w R) (k : ∀ v w', R v w' → WL P ops Q rest n (.upd f d v) w') :
    WL P ops Q (⟨some d, .call ⟨.value (.func fn), #[x, y, z, u], ats⟩, ty, pos, after, g⟩ :: rest) n f w := s_call hw hd (by simp [lk_evo hx, lk_evo hy, lk_evo hz, lk_evo hu]) hc k

/-- A call in a region that draws its order: ONE value, in every world that keeps what was there. -/
theorem q_call {fn : FuncId} {xs : Array Operand} {ats : Array TypeId} {args : Array Value} {v : Value} [hf : FunTy P fn] {w0 : World}
    (hw : Wants ⟨some d, .call ⟨.value (.func fn), xs, ats⟩, ty, pos, after, g⟩ ops n f) (hd : Nat.ble (d + 1) n = true)
    (hxs : xs.toList.map (evo n f) = args.toList) (hc : ∀ w, Below w0.heap.size w0 w → Ret P fn args w fun r w' => r = v ∧ Below w0.heap.size w0 w')
    (k : WQ P ops w0 Q rest n (.upd f d v)) :
    WQ P ops w0 Q (⟨some d, .call ⟨.value (.func fn), xs, ats⟩, ty, pos, after, g⟩ :: rest) n f := by
  unfold Wants at hw
  refine ⟨wpQuiet_step fun K hK => ?_⟩
  rw [if_pos hw]
  refine ⟨v, fun w hw => ?_, ?_⟩
  · unfold Oper.quietAt
    have hargs : xs.map (evo n f) = args := by apply Array.ext'; simpa using hxs
    have hrun : (execOp (evo n f) ⟨some d, .call ⟨.value (.func fn), xs, ats⟩, ty, pos, after, g⟩).run P w = .ok (.enter fn args) w := by
      have := hf.enters (#[] ++ args ++ #[]) w
      simp only [Array.empty_append, Array.append_empty] at this
      rw [← this, ← hargs]
      simp [execOp, resolve, evo, Deferred.ofValue, invoke]
    rw [act_eval, hrun]
    refine ⟨rfl, Calls.mono (hc w hw) ?_⟩
    rintro e w' ⟨_, rfl, rfl, hb⟩
    exact ⟨rfl, hb⟩
  · rw [act_put f v (Nat.le_of_ble_eq_true hd)]
    exact hK _ k.out
end steps
end Go.Mem

/- The walk's own words, continued: slices of numbers, of Bools, of rows. Over any program. -/
namespace Go.Mem
open Go.RowKit

/-- owned numbers, Bools -/
structure OI (w : World) (B : Nat) (T : TypeId) (v : Value) (xs : List Int) : Prop where
  own : Own w B T v (xs.map (.int .i64))
structure OB (w : World) (B : Nat) (T : TypeId) (v : Value) (bs : List Bool) : Prop where
  own : Own w B T v (bs.map .bool)
/-- An owned slice of rows, which are read. -/
structure OR (w : World) (B : Nat) (T : TypeId) (v : Value) (xss : List (List Int)) : Prop where
  out : ∃ vs, Own w B T v vs ∧ (∀ u ∈ vs, u.oneCell' = true) ∧ vs.length = xss.length ∧ ∀ (i : Nat) u xs, vs[i]? = some u → xss[i]? = some xs → IL w u xs

def seti (xs : List Int) (j a : Int) : List Int := xs.set j.toNat a
def setb (bs : List Bool) (j : Int) (b : Bool) : List Bool := bs.set j.toNat b
@[simp] theorem length_seti (xs : List Int) (j a : Int) : (seti xs j a).length = xs.length := by simp [seti]
@[simp] theorem length_setb (bs : List Bool) (j : Int) (b : Bool) : (setb bs j b).length = bs.length := by simp [setb]

section
variable {w w' : World} {B : Nat} {T : TypeId} {v : Value} {xs : List Int} {bs : List Bool} {xss : List (List Int)}
theorem OI.il (h : OI w B T v xs) : IL w v xs := ⟨h.own.rd⟩
theorem OB.bl (h : OB w B T v bs) : BL w v bs := ⟨h.own.rd⟩
theorem OR.rl (h : OR w B T v xss) : RL w v xss := by obtain ⟨vs, h1, _, h2, h3⟩ := h.out; exact ⟨vs, h1.rd, h2, h3⟩
theorem OI.sv (h : OI w B T v xs) : SV v xs.length := h.il.sv
theorem OB.sv (h : OB w B T v bs) : SV v bs.length := h.bl.sv
theorem OR.sv (h : OR w B T v xss) : SV v xss.length := h.rl.sv
theorem OI.below (h : OI w B T v xs) (hb : Below w.heap.size w w') : OI w' B T v xs := ⟨h.own.below hb⟩
theorem OB.below (h : OB w B T v bs) (hb : Below w.heap.size w w') : OB w' B T v bs := ⟨h.own.below hb⟩
theorem OR.below (h : OR w B T v xss) (hb : Below w.heap.size w w') : OR w' B T v xss := by
  obtain ⟨vs, h1, h2, h3, h4⟩ := h.out
  exact ⟨vs, h1.below hb, h2, h3, fun i u xs hu hx => (h4 i u xs hu hx).below hb⟩
theorem OI.kept {row : Option Nat} (h : OI w B T v xs) (hg : w.grownBy w' row) (hne : v.ownBlock = none ∨ v.ownBlock ≠ row) : OI w' B T v xs := ⟨h.own.kept hg hne⟩
theorem OB.kept {row : Option Nat} (h : OB w B T v bs) (hg : w.grownBy w' row) (hne : v.ownBlock = none ∨ v.ownBlock ≠ row) : OB w' B T v bs := ⟨h.own.kept hg hne⟩
theorem OI.mono {B' : Nat} (h : OI w B T v xs) (hB : B' ≤ B) : OI w B' T v xs := ⟨h.own.mono hB⟩
theorem OB.mono {B' : Nat} (h : OB w B T v bs) (hB : B' ≤ B) : OB w B' T v bs := ⟨h.own.mono hB⟩
theorem OR.mono {B' : Nat} (h : OR w B T v xss) (hB : B' ≤ B) : OR w B' T v xss := by obtain ⟨vs, h1, h2⟩ := h.out; exact ⟨vs, h1.mono hB, h2⟩
theorem IL.kept {row : Option Nat} (h : IL w v xs) (hg : w.grownBy w' row) (hne : v.ownBlock = none ∨ v.ownBlock ≠ row) : IL w' v xs := ⟨h.rd.kept hg hne⟩
theorem OI.lt (h : OI w B T v xs) : ∀ g, v.ownBlock = some g → B ≤ g ∧ g < w.heap.size := h.own.lt
theorem OB.lt (h : OB w B T v bs) : ∀ g, v.ownBlock = some g → B ≤ g ∧ g < w.heap.size := h.own.lt
theorem OI.nil (w : World) (B : Nat) (T : TypeId) : OI w B T (.slice none 0 0) [] := ⟨Own.nil w B T⟩
theorem OR.nil (w : World) (B : Nat) (T : TypeId) : OR w B T (.slice none 0 0) [] := ⟨[], Own.nil w B T, by simp, rfl, by simp⟩
theorem OI.apart_OB {B' : Nat} {T' : TypeId} {v' : Value} (h : OI w B T v xs) (h' : OB w B' T' v' bs) (hT : T ≠ T') : v.ownBlock = none ∨ v.ownBlock ≠ v'.ownBlock := h.own.apart_type h'.own hT
theorem OB.apart_OI {B' : Nat} {T' : TypeId} {v' : Value} (h : OB w B T v bs) (h' : OI w B' T' v' xs) (hT : T ≠ T') : v.ownBlock = none ∨ v.ownBlock ≠ v'.ownBlock := h.own.apart_type h'.own hT
/-- What lies below B is apart from what is owned from B on. -/
theorem OI.apart_low {u : Value} (h : OI w B T v xs) (hu : ∀ g, u.ownBlock = some g → g < B) : u.ownBlock = none ∨ u.ownBlock ≠ v.ownBlock := by
  cases e : u.ownBlock with
  | none => exact .inl rfl
  | some g =>
    refine .inr fun e' => ?_
    have := (h.own.lt g e'.symm).1
    have := hu g e
    omega
theorem OI.apart_high {u : Value} (h : OI w B T v xs) (hu : ∀ g, u.ownBlock = some g → g < B) : v.ownBlock = none ∨ v.ownBlock ≠ u.ownBlock := by
  cases e : v.ownBlock with
  | none => exact .inl rfl
  | some g =>
    refine .inr fun e' => ?_
    have := (h.own.lt g e).1
    have := hu g e'.symm
    omega
/-- What is owned from B on is written: below B nothing turns. -/
theorem OI.below_of {row : Value} (h : OI w B T row xs) (hg : w.grownBy w' row.ownBlock) (hB : B ≤ w.heap.size) : Below B w w' := grownBy_below hg hB (fun k hk => (h.lt k hk).1)
theorem OB.below_of {row : Value} (h : OB w B T row bs) (hg : w.grownBy w' row.ownBlock) (hB : B ≤ w.heap.size) : Below B w w' := grownBy_below hg hB (fun k hk => (h.lt k hk).1)
theorem OR.below_of {row : Value} (h : OR w B T row xss) (hg : w.grownBy w' row.ownBlock) (hB : B ≤ w.heap.size) : Below B w w' := by
  obtain ⟨vs, h1, _⟩ := h.out
  exact grownBy_below hg hB (fun k hk => (h1.lt k hk).1)
end

section ops
variable {P : Program} {n : Nat} {f : Fm} {w : World} {dst : Option Tmp} {ty : TypeId} {pos : String} {after : Array Edge} {g : Option (Nat × Bool)}

theorem y_lenS {x : Operand} {t e : TypeId} {v : Value} {m : Nat} [h : SliceTy P t e] (hx : lk n f x = some v) (hv : SV v m) :
    Yld P (evo n f) ⟨dst, .call ⟨.builtin .len, #[x], #[t]⟩, ty, pos, after, g⟩ w (.int .i64 m) := by
  replace hx := lk_evo hx
  obtain ⟨a, cap, rfl, h1, h2⟩ := hv.out
  constructor
  simp [execOp, resolve, invoke, builtin, Builtin.len_, run_underlying h.under, goInt, hx]

theorem y_idxS {x i : Operand} {t e : TypeId} {v : Value} {m : Nat} {k : IntKind} {j : Int} {z : Value} {bytes : Nat} [h : SliceTy P t e] [he : CellTy P e z bytes]
    (hx : lk n f x = some v) (hi : lk n f i = some (.int k j)) (hv : SV v m) (h0 : 0 ≤ j) (hj : j < m) :
    Yld P (evo n f) ⟨dst, .indexAddr t x i, ty, pos, after, g⟩ w (.pointer (some (addrOf v j.toNat))) := by
  replace hx := lk_evo hx
  replace hi := lk_evo hi
  obtain ⟨ti, hti, _, hs, _⟩ := he.info
  obtain ⟨a, cap, rfl, h1, h2⟩ := hv.out
  constructor
  cases a with
  | none => exact absurd rfl (h1 (by omega))
  | some a => simp [execOp, hx, hi, Instr.indexAt, run_underlying h.under, asIntOf, addrOf, sizeOf, typeInfo, hti, hs, h0, hj]

theorem get_map {α : Type} (c : α → Value) (l : List α) (d : α) {j : Int} (h0 : 0 ≤ j) (hj : j < l.length) : (l.map c)[j.toNat]? = some (c (l.getD j.toNat d)) := by
  have hlt : j.toNat < l.length := by omega
  simp [List.getD, hlt]

theorem y_ldI {x : Operand} {e : TypeId} {v : Value} {xs : List Int} {j : Int} {z : Value} {bytes : Nat} [he : CellTy P e z bytes]
    (hx : lk n f x = some (.pointer (some (addrOf v j.toNat)))) (hv : IL w v xs) (h0 : 0 ≤ j) (hj : j < xs.length) :
    Yld P (evo n f) ⟨dst, .load e x, ty, pos, after, g⟩ w (.int .i64 (gi xs j)) := y_ld hx hv.rd (get_map (.int .i64) xs 0 h0 hj)
theorem y_ldB {x : Operand} {e : TypeId} {v : Value} {bs : List Bool} {j : Int} {z : Value} {bytes : Nat} [he : CellTy P e z bytes]
    (hx : lk n f x = some (.pointer (some (addrOf v j.toNat)))) (hv : BL w v bs) (h0 : 0 ≤ j) (hj : j < bs.length) :
    Yld P (evo n f) ⟨dst, .load e x, ty, pos, after, g⟩ w (.bool (gb bs j)) := y_ld hx hv.rd (get_map .bool bs false h0 hj)
theorem y_ldOI {x : Operand} {e : TypeId} {v : Value} {xs : List Int} {j : Int} {z : Value} {bytes B : Nat} {T : TypeId} [he : CellTy P e z bytes]
    (hx : lk n f x = some (.pointer (some (addrOf v j.toNat)))) (hv : OI w B T v xs) (h0 : 0 ≤ j) (hj : j < xs.length) :
    Yld P (evo n f) ⟨dst, .load e x, ty, pos, after, g⟩ w (.int .i64 (gi xs j)) := y_ldI hx hv.il h0 hj
theorem y_ldOB {x : Operand} {e : TypeId} {v : Value} {bs : List Bool} {j : Int} {z : Value} {bytes B : Nat} {T : TypeId} [he : CellTy P e z bytes]
    (hx : lk n f x = some (.pointer (some (addrOf v j.toNat)))) (hv : OB w B T v bs) (h0 : 0 ≤ j) (hj : j < bs.length) :
    Yld P (evo n f) ⟨dst, .load e x, ty, pos, after, g⟩ w (.bool (gb bs j)) := y_ldB hx hv.bl h0 hj

theorem RL.row {v : Value} {xss : List (List Int)} (h : RL w v xss) {j : Int} (h0 : 0 ≤ j) (hj : j < xss.length) : ∃ u, IL w u (gr xss j) ∧ w.cell? (addrOf v j.toNat) = some u := by
  obtain ⟨vs, h1, h2, h3⟩ := h.out
  have hlt : j.toNat < vs.length := by omega
  have hlt' : j.toNat < xss.length := by omega
  refine ⟨vs[j.toNat], ?_, h1.cell (by simp [hlt])⟩
  refine h3 j.toNat _ _ (by simp [hlt]) ?_
  simp [gr, List.getD, hlt']
end ops

section steps
variable {P : Program} {ops : Array Oper} {Q : Exit → Fm → World → Prop} {n : Nat} {f : Fm} {w : World} {rest : List Oper} {ty : TypeId} {pos : String} {after : Array Edge} {g : Option (Nat × Bool)} {d : Nat}

/-- A row is loaded. -/
theorem s_ldR {x : Operand} {e : TypeId} {v : Value} {xss : List (List Int)} {j : Int} {z : Value} {bytes : Nat} [he : CellTy P e z bytes]
    (hw : Wants ⟨some d, .load e x, ty, pos, after, g⟩ ops n f) (hd : Nat.ble (d + 1) n = true)
    (hx : lk n f x = some (.pointer (some (addrOf v j.toNat)))) (hv : RL w v xss) (h0 : 0 ≤ j) (hj : j < xss.length)
    (k : ∀ u, IL w u (gr xss j) → SV u (gr xss j).length → WL P ops Q rest n (.upd f d u) w) :
    WL P ops Q (⟨some d, .load e x, ty, pos, after, g⟩ :: rest) n f w := by
  obtain ⟨u, hu, hc⟩ := hv.row h0 hj
  exact s_p hw hd (y_ldc hx hc) (k u hu hu.sv)

theorem s_storeI {B : Nat} {T e : TypeId} {z : Value} {bytes : Nat} [he : CellTy P e z bytes] {x y : Operand} {v : Value} {xs : List Int} {j a : Int}
    (hw : Wants ⟨none, .store e x y, ty, pos, after, g⟩ ops n f)
    (hx : lk n f x = some (.pointer (some (addrOf v j.toNat)))) (hy : lk n f y = some (.int .i64 a)) (hv : OI w B T v xs) (h0 : 0 ≤ j) (hj : j < xs.length)
    (k : ∀ w', OI w' B T v (seti xs j a) → w.grownBy w' v.ownBlock → WL P ops Q rest n f w') :
    WL P ops Q (⟨none, .store e x y, ty, pos, after, g⟩ :: rest) n f w :=
  s_store hw hx hy rfl hv.own (by simp; omega) fun w' ho hg => k w' ⟨by simpa [seti, List.map_set] using ho⟩ hg
theorem s_storeB {B : Nat} {T e : TypeId} {z : Value} {bytes : Nat} [he : CellTy P e z bytes] {x y : Operand} {v : Value} {bs : List Bool} {j : Int} {b : Bool}
    (hw : Wants ⟨none, .store e x y, ty, pos, after, g⟩ ops n f)
    (hx : lk n f x = some (.pointer (some (addrOf v j.toNat)))) (hy : lk n f y = some (.bool b)) (hv : OB w B T v bs) (h0 : 0 ≤ j) (hj : j < bs.length)
    (k : ∀ w', OB w' B T v (setb bs j b) → w.grownBy w' v.ownBlock → WL P ops Q rest n f w') :
    WL P ops Q (⟨none, .store e x y, ty, pos, after, g⟩ :: rest) n f w :=
  s_store hw hx hy rfl hv.own (by simp; omega) fun w' ho hg => k w' ⟨by simpa [setb, List.map_set] using ho⟩ hg

/-- make([]int64, m), make([]bool, m) -/
theorem s_makeI {B : Nat} {t e : TypeId} {bytes : Nat} [ht : SliceTy P t e] [he : CellTy P e (.int .i64 0) bytes] {x y : Operand} {kl kc : IntKind} {m : Int}
    (hw : Wants ⟨some d, .makeSlice t x y, ty, pos, after, g⟩ ops n f) (hd : Nat.ble (d + 1) n = true)
    (hx : lk n f x = some (.int kl m)) (hy : lk n f y = some (.int kc m)) (h0 : 0 ≤ m) (hm : m ≤ 1000000000000) (hB : B ≤ w.heap.size)
    (k : ∀ v w', OI w' B e v (List.replicate m.toNat 0) → SV v m.toNat → w.grownBy w' none → v.ownBlock = some w.heap.size → WL P ops Q rest n (.upd f d v) w') :
    WL P ops Q (⟨some d, .makeSlice t x y, ty, pos, after, g⟩ :: rest) n f w :=
  s_make hw hd hx hy h0 hm hB fun v w' ho hg hb => by
    have h : OI w' B e v (List.replicate m.toNat 0) := ⟨by simpa using ho⟩
    exact k v w' h (by simpa using h.sv) hg hb
theorem s_makeB {B : Nat} {t e : TypeId} {bytes : Nat} [ht : SliceTy P t e] [he : CellTy P e (.bool false) bytes] {x y : Operand} {kl kc : IntKind} {m : Int}
    (hw : Wants ⟨some d, .makeSlice t x y, ty, pos, after, g⟩ ops n f) (hd : Nat.ble (d + 1) n = true)
    (hx : lk n f x = some (.int kl m)) (hy : lk n f y = some (.int kc m)) (h0 : 0 ≤ m) (hm : m ≤ 1000000000000) (hB : B ≤ w.heap.size)
    (k : ∀ v w', OB w' B e v (List.replicate m.toNat false) → SV v m.toNat → w.grownBy w' none → v.ownBlock = some w.heap.size → WL P ops Q rest n (.upd f d v) w') :
    WL P ops Q (⟨some d, .makeSlice t x y, ty, pos, after, g⟩ :: rest) n f w :=
  s_make hw hd hx hy h0 hm hB fun v w' ho hg hb => by
    have h : OB w' B e v (List.replicate m.toNat false) := ⟨by simpa using ho⟩
    exact k v w' h (by simpa using h.sv) hg hb

/-- append(v, sv...) over numbers -/
theorem s_appendI {B : Nat} {t e : TypeId} {z : Value} {bytes : Nat} [ht : SliceTy P t e] [he : CellTy P e z bytes] {x y : Operand} {v sv : Value} {xs ys : List Int}
    (hw : Wants ⟨some d, .call ⟨.builtin .append, #[x, y], #[t, t]⟩, ty, pos, after, g⟩ ops n f) (hd : Nat.ble (d + 1) n = true)
    (hx : lk n f x = some v) (hy : lk n f y = some sv) (hv : OI w B e v xs) (hs : IL w sv ys) (hlen : xs.length + ys.length ≤ 1000000000000) (hB : B ≤ w.heap.size)
    (k : ∀ v' w', OI w' B e v' (xs ++ ys) → SV v' (xs.length + ys.length) → w.grownBy w' v.ownBlock → (v'.ownBlock = v.ownBlock ∨ v'.ownBlock = some w.heap.size) → WL P ops Q rest n (.upd f d v') w') :
    WL P ops Q (⟨some d, .call ⟨.builtin .append, #[x, y], #[t, t]⟩, ty, pos, after, g⟩ :: rest) n f w :=
  s_append hw hd hx hy hv.own hs.rd (by intro u hu; obtain ⟨a, _, rfl⟩ := List.mem_map.1 hu; rfl) (by simpa using hlen) hB fun v' w' ho hg hb => by
    have h : OI w' B e v' (xs ++ ys) := ⟨by simpa using ho⟩
    exact k v' w' h (by simpa using h.sv) hg hb

/-- []int64{..} -/
theorem s_buildI {B : Nat} {t e : TypeId} {z : Value} {bytes m : Nat} {parts : Array (Nat × Operand)} [ht : SliceTy P t e] [he : CellTy P e z bytes] (xs : List Int)
    (hw : Wants ⟨some d, .buildSlice t m parts, ty, pos, after, g⟩ ops n f) (hd : Nat.ble (d + 1) n = true)
    (hp : parts.toList.map (fun x => (x.1, evo n f x.2)) = (List.range' 0 xs.length).zip (xs.map (.int .i64))) (hm : Nat.ble m 1000000 = true) (hl : xs.length = m) (hB : B ≤ w.heap.size)
    (k : ∀ v w', OI w' B e v xs → SV v m → w.grownBy w' none → v.ownBlock = some w.heap.size → WL P ops Q rest n (.upd f d v) w') :
    WL P ops Q (⟨some d, .buildSlice t m parts, ty, pos, after, g⟩ :: rest) n f w :=
  s_build (xs.map (.int .i64)) hw hd (by simpa using hp) (Nat.le_of_ble_eq_true hm) (by simpa using hl) (by intro u hu; obtain ⟨a, _, rfl⟩ := List.mem_map.1 hu; rfl) hB fun v w' ho hg hb => by
    have h : OI w' B e v xs := ⟨ho⟩
    exact k v w' h (by rw [← hl]; exact h.sv) hg hb
theorem s_build1 {B : Nat} {t e : TypeId} {z : Value} {bytes : Nat} {x : Operand} {a : Int} [ht : SliceTy P t e] [he : CellTy P e z bytes]
    (hw : Wants ⟨some d, .buildSlice t 1 #[(0, x)], ty, pos, after, g⟩ ops n f) (hd : Nat.ble (d + 1) n = true)
    (hx : lk n f x = some (.int .i64 a)) (hB : B ≤ w.heap.size)
    (k : ∀ v w', OI w' B e v [a] → SV v 1 → w.grownBy w' none → v.ownBlock = some w.heap.size → WL P ops Q rest n (.upd f d v) w') :
    WL P ops Q (⟨some d, .buildSlice t 1 #[(0, x)], ty, pos, after, g⟩ :: rest) n f w := s_buildI [a] hw hd (by simp [lk_evo hx]) rfl rfl hB k
theorem s_build2 {B : Nat} {t e : TypeId} {z : Value} {bytes : Nat} {x y : Operand} {a b : Int} [ht : SliceTy P t e] [he : CellTy P e z bytes]
    (hw : Wants ⟨some d, .buildSlice t 2 #[(0, x), (1, y)], ty, pos, after, g⟩ ops n f) (hd : Nat.ble (d + 1) n = true)
    (hx : lk n f x = some (.int .i64 a)) (hy : lk n f y = some (.int .i64 b)) (hB : B ≤ w.heap.size)
    (k : ∀ v w', OI w' B e v [a, b] → SV v 2 → w.grownBy w' none → v.ownBlock = some w.heap.size → WL P ops Q rest n (.upd f d v) w') :
    WL P ops Q (⟨some d, .buildSlice t 2 #[(0, x), (1, y)], ty, pos, after, g⟩ :: rest) n f w := s_buildI [a, b] hw hd (by simp [lk_evo hx, lk_evo hy, List.range'_succ]) rfl rfl hB k
theorem s_build0 {B : Nat} {t e : TypeId} {z : Value} {bytes : Nat} [ht : SliceTy P t e] [he : CellTy P e z bytes]
    (hw : Wants ⟨some d, .buildSlice t 0 #[], ty, pos, after, g⟩ ops n f) (hd : Nat.ble (d + 1) n = true) (hB : B ≤ w.heap.size)
    (k : ∀ v w', OI w' B e v [] → SV v 0 → w.grownBy w' none → v.ownBlock = some w.heap.size → WL P ops Q rest n (.upd f d v) w') :
    WL P ops Q (⟨some d, .buildSlice t 0 #[], ty, pos, after, g⟩ :: rest) n f w := s_buildI [] hw hd (by simp) rfl rfl hB k
end steps
end Go.Mem

/- The walk's own words, continued: numbers without a sign, conversions, min and max, tuples, copies. Over any program. -/
namespace Go.Mem
open Go.RowKit

/-- t is a type of whole numbers of kind k -/
class IntTy (P : Program) (t : TypeId) (k : outParam IntKind) : Prop where
  under : P.underlying t = some (.int k)

theorem wrap_small {k : IntKind} {a : Int} (hk : k = .i64 ∨ k = .u64) (h : 0 ≤ a ∧ a ≤ 9223372036854775807) : k.wrap a = a := by
  rcases hk with rfl | rfl
  · rw [IntKind.wrap_i64]; omega
  · rw [IntKind.wrap_u64]; omega

section
variable {P : Program} {n : Nat} {f : Fm} {w : World} {dst : Option Tmp} {ty : TypeId} {pos : String} {after : Array Edge} {g : Option (Nat × Bool)}

theorem y_conv {x : Operand} {s t : TypeId} {k k0 : IntKind} {a : Int} [ht : IntTy P t k] [hs : IntTy P s k0] (hx : lk n f x = some (.int k0 a)) (hk : k = .i64 ∨ k = .u64) (h : 0 ≤ a ∧ a ≤ 9223372036854775807) :
    Yld P (evo n f) ⟨dst, .convert s t x, ty, pos, after, g⟩ w (.int k a) := by
  replace hx := lk_evo hx
  constructor
  simp [execOp, convert, run_underlying ht.under, run_underlying hs.under, hx, Conv.intToInt, wrap_small hk h]
theorem y_and32 {x : Operand} {a : Int} {tx ty' : TypeId} (hx : lk n f x = some (.int .u64 a)) (h : 0 ≤ a ∧ a < 4294967296) :
    Yld P (evo n f) ⟨dst, .binOp .and tx x (.const (.int .u64 4294967295)) ty', ty, pos, after, g⟩ w (.int .u64 a) := by
  replace hx := lk_evo hx
  constructor
  obtain ⟨m, rfl⟩ : ∃ m : Nat, a = m := ⟨a.toNat, by omega⟩
  have hm : m < 4294967296 := by omega
  have e : (BitVec.ofInt 64 (m : Int) &&& BitVec.ofInt 64 4294967295).toNat = m := by
    rw [BitVec.toNat_and]
    have h1 : (BitVec.ofInt 64 (m : Int)).toNat = m := by rw [BitVec.toNat_ofInt]; omega
    have h2 : (BitVec.ofInt 64 4294967295).toNat = 2 ^ 32 - 1 := by decide
    rw [h1, h2, Nat.and_two_pow_sub_one_eq_mod]
    omega
  have e2 := wrap_small (k := .u64) (a := m) (.inr rfl) (by omega)
  have e' : IntKind.u64.wrap ((BitVec.ofInt IntKind.u64.bits (m : Int) &&& BitVec.ofInt IntKind.u64.bits 4294967295).toNat : Int) = m := by
    show IntKind.u64.wrap ((BitVec.ofInt 64 (m : Int) &&& BitVec.ofInt 64 4294967295).toNat : Int) = m
    rw [e, e2]
  have hc : evo n f (.const (.int .u64 4294967295)) = .int .u64 4294967295 := rfl
  simp [execOp, hx, hc, eqGuard, binOp, Op.intBits, -BitVec.toNat_and]
  simpa [-BitVec.toNat_and] using e'
theorem y_shr32 {x : Operand} {a : Int} {tx ty' : TypeId} (hx : lk n f x = some (.int .u64 a)) (h : 0 ≤ a ∧ a < 4294967296) :
    Yld P (evo n f) ⟨dst, .binOp .shr tx x (.const (.int .u64 32)) ty', ty, pos, after, g⟩ w (.int .u64 0) := by
  replace hx := lk_evo hx
  constructor
  have e : a.fdiv 4294967296 = 0 := by
    rw [Int.fdiv_eq_ediv_of_nonneg _ (by omega)]; omega
  have hb : min 32 IntKind.u64.bits = 32 := by decide
  have hc : evo n f (.const (.int .u64 32)) = .int .u64 32 := rfl
  simp [execOp, hx, hc, eqGuard, binOp, Op.shift, hb, e]
theorem y_mulU {x y : Operand} {a b : Int} {tx ty' : TypeId} (hx : lk n f x = some (.int .u64 a)) (hy : lk n f y = some (.int .u64 b)) (h : 0 ≤ a * b ∧ a * b ≤ 9223372036854775807) :
    Yld P (evo n f) ⟨dst, .binOp .mul tx x y ty', ty, pos, after, g⟩ w (.int .u64 (a * b)) := by
  replace hx := lk_evo hx
  replace hy := lk_evo hy
  constructor; simp [execOp, hx, hy, eqGuard, binOp, Op.intArith, wrap_small (.inr rfl) h]
theorem y_addU {x y : Operand} {a b : Int} {tx ty' : TypeId} (hx : lk n f x = some (.int .u64 a)) (hy : lk n f y = some (.int .u64 b)) (h : 0 ≤ a + b ∧ a + b ≤ 9223372036854775807) :
    Yld P (evo n f) ⟨dst, .binOp .add tx x y ty', ty, pos, after, g⟩ w (.int .u64 (a + b)) := by
  replace hx := lk_evo hx
  replace hy := lk_evo hy
  constructor; simp [execOp, hx, hy, eqGuard, binOp, Op.intArith, wrap_small (.inr rfl) h]
theorem y_gtrU {x y : Operand} {a b : Int} {tx ty' : TypeId} (hx : lk n f x = some (.int .u64 a)) (hy : lk n f y = some (.int .u64 b)) :
    Yld P (evo n f) ⟨dst, .binOp .gtr tx x y ty', ty, pos, after, g⟩ w (.bool (decide (b < a))) := by
  replace hx := lk_evo hx
  replace hy := lk_evo hy
  constructor; simp [execOp, hx, hy, eqGuard, binOp, Op.intCmp]
theorem y_min {x y : Operand} {a b : Int} {ats : Array TypeId} (hx : lk n f x = some (.int .i64 a)) (hy : lk n f y = some (.int .i64 b)) :
    Yld P (evo n f) ⟨dst, .call ⟨.builtin .min, #[x, y], ats⟩, ty, pos, after, g⟩ w (.int .i64 (min a b)) := by
  replace hx := lk_evo hx
  replace hy := lk_evo hy
  have e : (if b < a then b else a) = min a b := by split <;> omega
  constructor; simp [execOp, resolve, invoke, builtin, Builtin.min_, Builtin.min2, hx, hy, e]
theorem y_ext {x : Operand} {vs : Array Value} {i : Nat} {v : Value} (hx : lk n f x = some (.tuple vs)) (hv : vs[i]? = some v) :
    Yld P (evo n f) ⟨dst, .extract x i, ty, pos, after, g⟩ w v := by
  replace hx := lk_evo hx
  constructor; simp [execOp, Instr.extract, hx, hv]
theorem y_ext20 {x : Operand} {a b : Value} (hx : lk n f x = some (.tuple #[a, b])) : Yld P (evo n f) ⟨dst, .extract x 0, ty, pos, after, g⟩ w a := y_ext hx rfl
theorem y_ext21 {x : Operand} {a b : Value} (hx : lk n f x = some (.tuple #[a, b])) : Yld P (evo n f) ⟨dst, .extract x 1, ty, pos, after, g⟩ w b := y_ext hx rfl
end

section
variable {P : Program} {w : World} {B : Nat} {T : TypeId} {v : Value} {vs : List Value}
theorem firstCells_take {sv : Value} {news : List Value} (h : Rd w sv news) (m : Nat) (hm : m ≤ news.length) : (Builtin.firstCells 1 m sv).run P w = .ok (news.take m).toArray w := by
  obtain ⟨a, cap, rfl, h1, h2, h3⟩ := h
  cases a with
  | none =>
    have : news = [] := by
      cases news with
      | nil => rfl
      | cons _ _ => exact absurd rfl (h1 (by simp))
    subst this
    simp [Builtin.firstCells]
  | some a =>
    refine run_firstCells_some w 1 m a news.length cap (news.take m) (by simp; omega) (fun j u hu => h3 j u ?_)
    rw [List.getElem?_take] at hu
    split at hu
    · exact hu
    · simp at hu

/-- copy(v[l:], sv) -/
theorem copy_run {t ty e : TypeId} {z : Value} {bytes : Nat} [ht : SliceTy P t e] [he : CellTy P e z bytes] {sv : Value} {news : List Value} {l : Nat} (h : Own w B e v vs) (hl : l ≤ vs.length) (hsrc : Rd w sv news) (h1 : ∀ u ∈ news, u.oneCell' = true) :
    ∃ w', (Builtin.copy_ #[t, t] ty #[cut v l vs.length, sv]).run P w = .ok (.int .i64 (min news.length (vs.length - l) : Nat)) w' ∧
      Own w' B e v (vs.take l ++ news.take (vs.length - l) ++ vs.drop (l + news.length)) ∧ w.grownBy w' v.ownBlock := by
  obtain ⟨i, hi, hz, hsz, hby⟩ := he.info
  have hlo : (Builtin.lenOf sv).run P w = .ok news.length w := by
    obtain ⟨a, cap, rfl, _⟩ := hsrc
    simp [Builtin.lenOf]
  have hf := firstCells_take (P := P) hsrc (min news.length (vs.length - l)) (Nat.min_le_left _ _)
  have htk : news.take (min news.length (vs.length - l)) = news.take (vs.length - l) := by
    by_cases h : news.length ≤ vs.length - l
    · rw [Nat.min_eq_left h, List.take_of_length_le h, List.take_of_length_le (Nat.le_refl _)]
    · rw [Nat.min_eq_right (by omega)]
  rw [htk] at hf
  have hnm : Nat.min news.length (vs.length - l) = min news.length (vs.length - l) := rfl
  rcases h with ⟨rfl, rfl⟩ | ⟨g, off, cap, cur, rfl, hb, hg, hlc, hc, hs, hx⟩
  · have hl0 : l = 0 := by simpa using hl
    subst hl0
    refine ⟨w, ?_, ?_, ⟨rfl, rfl, rfl, Nat.le_refl _, fun _ _ _ => rfl⟩⟩
    · simp only [List.length_nil, Nat.sub_zero, List.take_zero] at hf ⊢
      simp at hf
      simp [Builtin.copy_, run_underlying ht.under, sizeOf, typeInfo, hi, hsz, hlo, hf, cut, goInt]
    · simpa using Own.nil w B e
  · have hcells : off + l + (news.take (vs.length - l)).length ≤ cur.size := by simp; omega
    have hst := run_storeCells_at P g (off + l) e (news.take (vs.length - l)) 0 cur w hg (by simp at hcells ⊢; omega) (fun u hu => h1 u (List.mem_of_mem_take hu))
    simp only [Nat.add_zero] at hst
    by_cases hcl : cap = l
    · have hvl : vs.length = l := by omega
      have ht0 : news.take (vs.length - l) = [] := by rw [hvl]; simp
      rw [ht0] at hf
      refine ⟨w, ?_, ?_, ⟨rfl, rfl, rfl, Nat.le_refl _, fun _ _ _ => rfl⟩⟩
      · simp only [hvl] at hf ⊢
        simp at hf
        simp [Builtin.copy_, run_underlying ht.under, sizeOf, typeInfo, hi, hsz, hlo, hf, cut, goInt, storeCells, hcl]
      · rw [ht0, ← hvl, List.take_of_length_le (Nat.le_refl _), List.drop_of_length_le (by omega)]
        simp only [List.append_nil]
        exact .inr ⟨g, off, cap, cur, rfl, hb, hg, hlc, hc, hs, hx⟩
    · refine ⟨w.setRow g (cur.toList.take (off + l) ++ news.take (vs.length - l) ++ cur.toList.drop (off + l + (news.take (vs.length - l)).length)).toArray, ?_, ?_, ?_⟩
      · simp [Builtin.copy_, run_underlying ht.under, sizeOf, typeInfo, hi, hsz, hlo, hf, cut, goInt, hcl, Addr.add_lit, hst, hnm]
      · have hlen : (vs.take l ++ news.take (vs.length - l) ++ vs.drop (l + news.length)).length = vs.length := by simp; omega
        refine .inr ⟨g, off, cap, _, by rw [hlen], hb, setRow_heap w g cur _ e _ hg, by rw [hlen]; exact hlc, hc, ?_, ?_⟩
        · simp only [List.size_toArray, List.length_append, List.length_take, List.length_drop, Array.length_toList]
          omega
        · intro j u hu
          simp only [List.getElem?_toArray]
          have hjl := (List.getElem?_eq_some_iff.1 hu).1
          rw [hlen] at hjl
          rw [List.append_assoc, List.getElem?_append] at hu ⊢
          have htl : (cur.toList.take (off + l)).length = off + l := by simp; omega
          have htl' : (vs.take l).length = l := by simp; omega
          rw [htl]
          rw [htl'] at hu
          by_cases hj : j < l
          · rw [if_pos hj] at hu
            rw [if_pos (by omega), List.getElem?_take, if_pos (by omega)]
            rw [List.getElem?_take, if_pos hj] at hu
            simpa using hx j u hu
          · rw [if_neg hj] at hu
            rw [if_neg (by omega)]
            have e1 : off + j - (off + l) = j - l := by omega
            rw [e1]
            rw [List.getElem?_append] at hu ⊢
            by_cases hj2 : j - l < (news.take (vs.length - l)).length
            · rw [if_pos hj2] at hu ⊢; exact hu
            · rw [if_neg hj2] at hu ⊢
              have hnl : (news.take (vs.length - l)).length = news.length := by
                simp only [List.length_take] at hj2 ⊢
                omega
              rw [hnl] at hu hj2 ⊢
              rw [List.getElem?_drop] at hu ⊢
              have := hx j u (by rw [← hu]; congr 1; omega)
              rw [← this]
              simp only [Array.getElem?_toList]
              congr 1; omega
      · exact ⟨rfl, rfl, rfl, by simp, fun k _ hk => setRow_other w g k _ (fun e => hk (by simp [Value.ownBlock, e]))⟩
end

section steps
variable {P : Program} {ops : Array Oper} {Q : Exit → Fm → World → Prop} {n : Nat} {f : Fm} {w : World} {rest : List Oper} {ty : TypeId} {pos : String} {after : Array Edge} {g : Option (Nat × Bool)} {d : Nat}
theorem s_copyI {B : Nat} {t e : TypeId} {z : Value} {bytes : Nat} [ht : SliceTy P t e] [he : CellTy P e z bytes] {x y : Operand} {v sv : Value} {xs ys : List Int} {l : Nat}
    (hw : Wants ⟨some d, .call ⟨.builtin .copy, #[x, y], #[t, t]⟩, ty, pos, after, g⟩ ops n f) (hd : Nat.ble (d + 1) n = true)
    (hx : lk n f x = some (cut v l xs.length)) (hy : lk n f y = some sv) (hv : OI w B e v xs) (hl : l ≤ xs.length) (hs : IL w sv ys)
    (k : ∀ w', OI w' B e v (xs.take l ++ ys.take (xs.length - l) ++ xs.drop (l + ys.length)) → w.grownBy w' v.ownBlock → WL P ops Q rest n (.upd f d (.int .i64 (min ys.length (xs.length - l) : Nat))) w') :
    WL P ops Q (⟨some d, .call ⟨.builtin .copy, #[x, y], #[t, t]⟩, ty, pos, after, g⟩ :: rest) n f w := by
  replace hx := lk_evo hx
  replace hy := lk_evo hy
  obtain ⟨w', hr, ho, hg⟩ := copy_run (P := P) (t := t) (ty := ty) (l := l) hv.own (by simpa using hl) hs.rd (by intro u hu; obtain ⟨a, _, rfl⟩ := List.mem_map.1 hu; rfl)
  simp only [List.length_map] at hr
  refine s_val hw hd ?_ (k w' ⟨by simpa [List.map_take, List.map_drop] using ho⟩ hg)
  simp [execOp, resolve, invoke, builtin, hx, hy, hr]
theorem cut_all {v : Value} {m : Nat} (h : SV v m) : cut v 0 m = v := by
  obtain ⟨a, cap, rfl, _⟩ := h.out
  cases a <;> simp [cut, Addr.add]
theorem IL.cut {v : Value} {xs : List Int} {l r : Nat} (h : IL w v xs) (hl : l ≤ r) (hr : r ≤ xs.length) : IL w (Mem.cut v l r) ((xs.take r).drop l) :=
  ⟨by simpa [List.map_take, List.map_drop] using h.rd.cut hl (by simpa using hr)⟩
theorem OI.cut {B : Nat} {T : TypeId} {v : Value} {xs : List Int} {l r : Nat} (h : OI w B T v xs) (hl : l ≤ r) (hr : r ≤ xs.length) : OI w B T (Mem.cut v l r) ((xs.take r).drop l) :=
  ⟨by simpa [List.map_take, List.map_drop] using h.own.cut hl (by simpa using hr)⟩
theorem RL.cut {v : Value} {xss : List (List Int)} {l r : Nat} (h : RL w v xss) (hl : l ≤ r) (hr : r ≤ xss.length) : RL w (Mem.cut v l r) ((xss.take r).drop l) := by
  obtain ⟨vs, h1, h2, h3⟩ := h.out
  refine ⟨_, h1.cut hl (by omega), by simp [h2], fun i u xs hu hx => ?_⟩
  rw [List.getElem?_drop, List.getElem?_take] at hu hx
  split at hu
  · rename_i hlt; rw [if_pos hlt] at hx; exact h3 _ u xs hu hx
  · simp at hu
theorem SV.cut {v : Value} {m l r : Nat} (h : SV v m) (hl : l ≤ r) (hr : r ≤ m) : SV (Mem.cut v l r) (r - l) := by
  obtain ⟨a, cap, rfl, h1, h2⟩ := h.out
  refine ⟨_, _, rfl, fun hm => ?_, by omega⟩
  have := h1 (by omega)
  cases a with
  | none => exact absurd rfl this
  | some a => split <;> simp
end steps

section
variable {P : Program} {n : Nat} {f : Fm} {w : World} {dst : Option Tmp} {ty : TypeId} {pos : String} {after : Array Edge} {g : Option (Nat × Bool)}
/-- v[l:], v[:r] of a slice of m elements, l and r no more than m; where the capacity is not looked at -/
theorem y_cutI {x lo : Operand} {t e : TypeId} {z : Value} {bytes : Nat} [ht : SliceTy P t e] [he : CellTy P e z bytes] {v : Value} {xs : List Int} {kl : IntKind} {l : Int}
    (hx : lk n f x = some v) (hlo : lk n f lo = some (.int kl l)) (h : IL w v xs) (h0 : 0 ≤ l) (hl : l ≤ xs.length) :
    Yld P (evo n f) ⟨dst, .slice t x (some lo) none none, ty, pos, after, g⟩ w (cut v l.toNat xs.length) := by
  have := y_cut_lo (P := P) (dst := dst) (ty := ty) (pos := pos) (after := after) (g := g) (t := t) hx hlo h.rd h0 (by simpa using hl)
  simpa using this
theorem y_cutI_hi {x hi : Operand} {t e : TypeId} {z : Value} {bytes : Nat} [ht : SliceTy P t e] [he : CellTy P e z bytes] {v : Value} {xs : List Int} {kh : IntKind} {r : Int}
    (hx : lk n f x = some v) (hhi : lk n f hi = some (.int kh r)) (h : IL w v xs) (h0 : 0 ≤ r) (hr : r ≤ xs.length) :
    Yld P (evo n f) ⟨dst, .slice t x none (some hi) none, ty, pos, after, g⟩ w (cut v 0 r.toNat) := y_cut_hi hx hhi h.rd h0 (by simpa using hr)
theorem y_cutR {x lo : Operand} {t e : TypeId} {z : Value} {bytes : Nat} [ht : SliceTy P t e] [he : CellTy P e z bytes] {v : Value} {xss : List (List Int)} {kl : IntKind} {l : Int}
    (hx : lk n f x = some v) (hlo : lk n f lo = some (.int kl l)) (h : RL w v xss) (h0 : 0 ≤ l) (hl : l ≤ xss.length) :
    Yld P (evo n f) ⟨dst, .slice t x (some lo) none none, ty, pos, after, g⟩ w (cut v l.toNat xss.length) := by
  obtain ⟨vs, h1, h2, _⟩ := h.out
  rw [← h2]
  exact y_cut_lo hx hlo h1 h0 (by omega)
end
end Go.Mem

/- The walk's own words, continued: nil slices; lists of lists that the call owns, rows and all. Over any program. -/
namespace Go.Mem
open Go.RowKit

/-- the value is a nil slice -/
def nilV : Value → Bool
  | .slice none _ _ => true
  | _ => false
theorem nilV_of {v : Value} {m : Nat} (h : SV v m) (hm : m ≠ 0) : nilV v = false := by
  obtain ⟨a, cap, rfl, h1, _⟩ := h.out
  cases a with
  | none => exact absurd rfl (h1 hm)
  | some a => rfl
theorem SV.one {v : Value} {m : Nat} (h : SV v m) : v.oneCell' = true := by
  obtain ⟨a, cap, rfl, _⟩ := h.out
  rfl
section
variable {P : Program} {n : Nat} {f : Fm} {w : World} {dst : Option Tmp} {ty : TypeId} {pos : String} {after : Array Edge} {g : Option (Nat × Bool)}
theorem y_neqNil {x : Operand} {t e ty' : TypeId} [ht : SliceTy P t e] {v : Value} {m : Nat} (hx : lk n f x = some v) (hv : SV v m) :
    Yld P (evo n f) ⟨dst, .binOp .neq t x (.const (.slice none 0 0)) ty', ty, pos, after, g⟩ w (.bool (!nilV v)) := by
  replace hx := lk_evo hx
  obtain ⟨a, cap, rfl, h1, _⟩ := hv.out
  have hc : evo n f (.const (.slice none 0 0)) = .slice none 0 0 := rfl
  have h := run_neq_slice_nil_any (P := P) w t e a m cap 0 0 ht.under
  constructor
  cases a <;> simp [execOp, hx, hc, eqGuard, nilV, h]
theorem y_eqlNil {x : Operand} {t e ty' : TypeId} [ht : SliceTy P t e] {v : Value} {m : Nat} (hx : lk n f x = some v) (hv : SV v m) :
    Yld P (evo n f) ⟨dst, .binOp .eql t x (.const (.slice none 0 0)) ty', ty, pos, after, g⟩ w (.bool (nilV v)) := by
  replace hx := lk_evo hx
  obtain ⟨a, cap, rfl, h1, _⟩ := hv.out
  have hc : evo n f (.const (.slice none 0 0)) = .slice none 0 0 := rfl
  have h : (binOp .eql t (.slice a m cap) (.slice none 0 0)).run P w = .ok (.bool a.isNone) w := by
    simp only [binOp]
    simp [Op.equal, Op.maxDepth, Lib.run_equalIn_slice_nil w 9999 t e a m cap 0 0 ht.under]
  constructor
  cases a <;> simp [execOp, hx, hc, eqGuard, nilV, h]
/-- t is the type bool -/
class BoolTy (P : Program) (t : TypeId) : Prop where
  under : P.underlying t = some .bool
theorem y_neqB {x y : Operand} {t ty' : TypeId} [ht : BoolTy P t] {a b : Bool} (hx : lk n f x = some (.bool a)) (hy : lk n f y = some (.bool b)) :
    Yld P (evo n f) ⟨dst, .binOp .neq t x y ty', ty, pos, after, g⟩ w (.bool (decide (a ≠ b))) := by
  replace hx := lk_evo hx
  replace hy := lk_evo hy
  constructor
  cases a <;> cases b <;> simp [execOp, hx, hy, eqGuard, binOp, run_equal_bool w t _ _ ht.under]
theorem y_eqlB {x y : Operand} {t ty' : TypeId} [ht : BoolTy P t] {a b : Bool} (hx : lk n f x = some (.bool a)) (hy : lk n f y = some (.bool b)) :
    Yld P (evo n f) ⟨dst, .binOp .eql t x y ty', ty, pos, after, g⟩ w (.bool (decide (a = b))) := by
  replace hx := lk_evo hx
  replace hy := lk_evo hy
  constructor
  cases a <;> cases b <;> simp [execOp, hx, hy, eqGuard, binOp, run_equal_bool w t _ _ ht.under]
end

/-- OWNING a list of lists: v lies in a block from B on; so do the rows, in blocks below E, each in its own. -/
structure OM (w : World) (B E : Nat) (T U : TypeId) (v : Value) (xss : List (List Int)) : Prop where
  out : ∃ vs, Own w B T v vs ∧ (∀ u ∈ vs, u.oneCell' = true) ∧ vs.length = xss.length ∧ (∀ (i : Nat) u xs, vs[i]? = some u → xss[i]? = some xs → OI w B U u xs) ∧
    (∀ (i : Nat) u, vs[i]? = some u → ∀ g, u.ownBlock = some g → g < E) ∧
    ∀ (i j : Nat) u u', i < j → vs[i]? = some u → vs[j]? = some u' → u.ownBlock = none ∨ u.ownBlock ≠ u'.ownBlock
section
variable {w w' : World} {B E : Nat} {T U : TypeId} {v : Value} {xss : List (List Int)}
theorem OM.rl (h : OM w B E T U v xss) : RL w v xss := by
  obtain ⟨vs, h1, _, h2, h3, _⟩ := h.out
  exact ⟨vs, h1.rd, h2, fun i u xs hu hx => (h3 i u xs hu hx).il⟩
theorem OM.sv (h : OM w B E T U v xss) : SV v xss.length := h.rl.sv
theorem OM.below (h : OM w B E T U v xss) (hb : Below w.heap.size w w') : OM w' B E T U v xss := by
  obtain ⟨vs, h1, h2, h3, h4, h5, h6⟩ := h.out
  exact ⟨vs, h1.below hb, h2, h3, fun i u xs hu hx => (h4 i u xs hu hx).below hb, h5, h6⟩
theorem OM.mono {B' : Nat} (h : OM w B E T U v xss) (hB : B' ≤ B) : OM w B' E T U v xss := by
  obtain ⟨vs, h1, h2, h3, h4, h5, h6⟩ := h.out
  exact ⟨vs, h1.mono hB, h2, h3, fun i u xs hu hx => (h4 i u xs hu hx).mono hB, h5, h6⟩
theorem OM.top (h : OM w B E T U v xss) : OM w B w.heap.size T U v xss := by
  obtain ⟨vs, h1, h2, h3, h4, h5, h6⟩ := h.out
  refine ⟨vs, h1, h2, h3, h4, fun i u hu g hg => ?_, h6⟩
  have hi : i < xss.length := by rw [← h3]; exact (List.getElem?_eq_some_iff.1 hu).1
  exact ((h4 i u xss[i] hu (by simp [hi])).lt g hg).2
theorem OM.wide {E' : Nat} (h : OM w B E T U v xss) (hE : E ≤ E') : OM w B E' T U v xss := by
  obtain ⟨vs, h1, h2, h3, h4, h5, h6⟩ := h.out
  exact ⟨vs, h1, h2, h3, h4, fun i u hu g hg => Nat.lt_of_lt_of_le (h5 i u hu g hg) hE, h6⟩
theorem OM.nil (w : World) (B E : Nat) (T U : TypeId) : OM w B E T U (.slice none 0 0) [] :=
  ⟨[], Own.nil w B T, by simp, rfl, by simp, by simp, by simp⟩
theorem OM.empty (h : Own w B T v []) : OM w B E T U v [] := ⟨[], h, by simp, rfl, by simp, by simp, by simp⟩
theorem OM.below_of (h : OM w B E T U v xss) (hg : w.grownBy w' v.ownBlock) (hB : B ≤ w.heap.size) : Below B w w' := by
  obtain ⟨vs, h1, _⟩ := h.out
  exact grownBy_below hg hB (fun k hk => (h1.lt k hk).1)
/-- a row, as it is owned -/
theorem OM.row (h : OM w B E T U v xss) {j : Int} (h0 : 0 ≤ j) (hj : j < xss.length) : ∃ u, OI w B U u (gr xss j) ∧ w.cell? (addrOf v j.toNat) = some u := by
  obtain ⟨vs, h1, h2, h3, h4, _⟩ := h.out
  have hlt : j.toNat < vs.length := by omega
  have hlt' : j.toNat < xss.length := by omega
  refine ⟨vs[j.toNat], ?_, h1.rd.cell (by simp [hlt])⟩
  refine h4 j.toNat _ _ (by simp [hlt]) ?_
  simp [gr, List.getD, hlt']
end

section steps
variable {P : Program} {ops : Array Oper} {Q : Exit → Fm → World → Prop} {n : Nat} {f : Fm} {w : World} {rest : List Oper} {ty : TypeId} {pos : String} {after : Array Edge} {g : Option (Nat × Bool)} {d : Nat}
/-- []T{u} for a value of one cell -/
theorem s_build1V {B : Nat} {t e : TypeId} {z : Value} {bytes : Nat} {x : Operand} {u : Value} [ht : SliceTy P t e] [he : CellTy P e z bytes]
    (hw : Wants ⟨some d, .buildSlice t 1 #[(0, x)], ty, pos, after, g⟩ ops n f) (hd : Nat.ble (d + 1) n = true)
    (hx : lk n f x = some u) (hu : u.oneCell' = true) (hB : B ≤ w.heap.size)
    (k : ∀ v w', Own w' B e v [u] → SV v 1 → w.grownBy w' none → v.ownBlock = some w.heap.size → WL P ops Q rest n (.upd f d v) w') :
    WL P ops Q (⟨some d, .buildSlice t 1 #[(0, x)], ty, pos, after, g⟩ :: rest) n f w :=
  s_build [u] hw hd (by simp [lk_evo hx]) (by decide) rfl (by simpa using hu) hB fun v w' ho hg hb => k v w' ho ho.rd.sv hg hb
/-- append(v, u), u a new row -/
theorem s_appendM {B E : Nat} {t e U : TypeId} {z : Value} {bytes : Nat} [ht : SliceTy P t e] [he : CellTy P e z bytes] {x y : Operand} {v sv u : Value} {xss : List (List Int)} {xs : List Int}
    (hw : Wants ⟨some d, .call ⟨.builtin .append, #[x, y], #[t, t]⟩, ty, pos, after, g⟩ ops n f) (hd : Nat.ble (d + 1) n = true)
    (hx : lk n f x = some v) (hy : lk n f y = some sv) (hv : OM w B E e U v xss) (hs : Rd w sv [u]) (hu : OI w E U u xs) (hBE : B ≤ E) (hT : e ≠ U) (hlen : xss.length + 1 ≤ 1000000000000) (hB : B ≤ w.heap.size)
    (k : ∀ v' w', OM w' B w'.heap.size e U v' (xss ++ [xs]) → SV v' (xss.length + 1) → w.grownBy w' v.ownBlock → WL P ops Q rest n (.upd f d v') w') :
    WL P ops Q (⟨some d, .call ⟨.builtin .append, #[x, y], #[t, t]⟩, ty, pos, after, g⟩ :: rest) n f w := by
  obtain ⟨vs, h1, h2, h3, h4, h5, h6⟩ := hv.out
  refine s_append hw hd hx hy h1 hs (by intro a ha; simp at ha; subst ha; exact hu.sv.one) (by simp; omega) hB fun v' w' ho hg hb => ?_
  have hOM : OM w' B w'.heap.size e U v' (xss ++ [xs]) := by
    refine OM.top (E := w'.heap.size) ⟨vs ++ [u], ho, ?_, by simp [h3], ?_, ?_, ?_⟩
    · intro a ha
      rcases List.mem_append.1 ha with ha | ha
      · exact h2 a ha
      · simp at ha; subst ha; exact hu.sv.one
    · intro i a ys ha hys
      rw [List.getElem?_append] at ha hys
      rw [h3] at ha
      split at ha
      · rename_i hlt
        rw [if_pos hlt] at hys
        have hr := h4 i a ys ha hys
        exact hr.kept hg (hr.own.apart_type h1 (fun e => hT e.symm))
      · rename_i hlt
        rw [if_neg hlt] at hys
        have hi : i - xss.length = 0 := by
          have := (List.getElem?_eq_some_iff.1 ha).1
          simpa using this
        rw [hi] at ha hys
        simp at ha hys
        subst ha hys
        exact (hu.mono hBE).kept hg (hu.own.apart_type h1 (fun e => hT e.symm))
    · intro i a ha g' hg'
      have hsz := hg.size
      rw [List.getElem?_append] at ha
      split at ha
      · rename_i hlt
        have := ((h4 i a (xss[i]'(by omega)) ha (by simp)).lt g' hg').2
        omega
      · have : a = u := by
          have := List.mem_of_getElem? ha
          simpa using this
        subst this
        have := (hu.lt g' hg').2
        omega
    · intro i j a b hij ha hb'
      rw [List.getElem?_append] at ha hb'
      split at hb'
      · rename_i hlt
        rw [if_pos (by omega)] at ha
        exact h6 i j a b hij ha hb'
      · rename_i hge
        have hbu : b = u := by
          have := List.mem_of_getElem? hb'
          simpa using this
        subst hbu
        have hjl := (List.getElem?_eq_some_iff.1 hb').1
        simp at hjl
        rw [if_pos (by omega)] at ha
        cases e1 : a.ownBlock with
        | none => exact .inl rfl
        | some g1 =>
          refine .inr fun e2 => ?_
          have := h5 i a ha g1 e1
          have := (hu.lt g1 e2.symm).1
          omega
  exact k v' w' hOM (by simpa using hOM.sv) hg
end steps
end Go.Mem

/- The walk's own words, at the end: whole runs of steps. A step's own look-up is a default of its premise. Over any program. -/
namespace Go.Mem
open Go.RowKit
/-- A goal that is kept aside. -/
structure Kp (G : Prop) : Prop where
  out : G
section
variable {P : Program} {ops : Array Oper} {Q : Exit → Fm → World → Prop} {n : Nat} {f : Fm} {w w0 : World} {rest : List Oper}
/-- a Bool that is known -/
theorem known {b c : Bool} (h : b = c := by first | rfl | with_reducible assumption | exact decide_eq_true (by with_reducible assumption) | exact decide_eq_false (by with_reducible assumption) | exact nb_t (by with_reducible assumption) | exact nb_f (by with_reducible assumption)) : b = c := h
/-- an operation that looks only, its value found -/
theorem yl {ρ : Operand → Value} {o : Oper} {v : Value} (h : Yld P ρ o w v := by first | exact y_pop rfl | exact y_lenS rfl (by with_reducible assumption) | exact y_idxS rfl rfl (by with_reducible assumption) (by omega) (by omega) | exact y_ldI rfl (by with_reducible assumption) (by omega) (by omega) | exact y_ldOI rfl (by with_reducible assumption) (by omega) (by omega) | exact y_ldB rfl (by with_reducible assumption) (by omega) (by omega) | exact y_ldOB rfl (by with_reducible assumption) (by omega) (by omega) | exact y_add rfl rfl (by constructor <;> omega) | exact y_sub rfl rfl (by constructor <;> omega) | exact y_pick_true rfl known rfl | exact y_pick_false rfl known rfl | exact y_field rfl | exact y_ldc rfl (by with_reducible assumption) | exact y_ldbox rfl (by with_reducible assumption) | exact y_rem rfl rfl (by omega) (by omega) | exact y_quo rfl rfl (by omega) (by omega) (by omega) | exact y_ext20 rfl | exact y_ext21 rfl | exact y_gtrU rfl rfl | exact y_neqNil rfl (by with_reducible assumption) | exact y_eqlNil rfl (by with_reducible assumption) | exact y_cutI rfl rfl (by with_reducible assumption) (by omega) (by omega) | exact y_cutI_hi rfl rfl (by with_reducible assumption) (by omega) (by omega) | exact y_cutI rfl rfl (OI.il (by with_reducible assumption)) (by omega) (by omega) | exact y_cutI_hi rfl rfl (OI.il (by with_reducible assumption)) (by omega) (by omega) | exact y_cutR rfl rfl (by with_reducible assumption) (by omega) (by omega) | exact y_min rfl rfl | exact y_conv rfl (by first | exact .inl rfl | exact .inr rfl) (by constructor <;> omega) | exact y_neqB rfl rfl | exact y_eqlB rfl rfl) : Yld P ρ o w v := h
theorem qyl {ρ : Operand → Value} {o : Oper} {v : Value} (h : ∀ w, Below w0.heap.size w0 w → Yld P ρ o w v := by intro w' hb; first | exact y_pop rfl | exact y_lenS rfl (by with_reducible assumption) | exact y_idxS rfl rfl (by with_reducible assumption) (by omega) (by omega) | exact y_ldI rfl (IL.below (by with_reducible assumption) hb) (by omega) (by omega) | exact y_ldOI rfl (OI.below (by with_reducible assumption) hb) (by omega) (by omega) | exact y_ldB rfl (BL.below (by with_reducible assumption) hb) (by omega) (by omega) | exact y_ldOB rfl (OB.below (by with_reducible assumption) hb) (by omega) (by omega) | exact y_add rfl rfl (by constructor <;> omega) | exact y_sub rfl rfl (by constructor <;> omega) | exact y_pick_true rfl known rfl | exact y_pick_false rfl known rfl | exact y_field rfl | exact y_ldc rfl (cell_below (by with_reducible assumption) hb) | exact y_ldbox rfl (cell_below (by with_reducible assumption) hb) | exact y_rem rfl rfl (by omega) (by omega) | exact y_quo rfl rfl (by omega) (by omega) (by omega) | exact y_ext20 rfl | exact y_ext21 rfl) : ∀ w, Below w0.heap.size w0 w → Yld P ρ o w v := h
/-- GO: as far as it goes without a choice -/
theorem go {G G' : Prop} (k : G') (h : Kp G' → G := by intro kk; (repeat (first | ((with_reducible show WL _ _ _ _ _ _ _); first | with_reducible refine w_nil ?_ | refine s_p (wn rfl) rfl yl ?_ | refine s_p (wy rfl rfl rfl rfl rfl known) rfl yl ?_ | refine s_no (wx rfl rfl rfl rfl rfl known) rfl ?_) | with_reducible refine then_normal ?_ | with_reducible refine w_seq ?_ | with_reducible refine w_region ?_ | ((with_reducible show WC _ (.cond _ _ _) _ _ _ _); first | refine cond_true rfl known ?_ | refine cond_false rfl known ?_) | with_reducible refine block_normal ?_ | with_reducible refine w_block ?_ | with_reducible refine then_exit ?_ | with_reducible refine block_same ?_ | with_reducible refine block_other (by with_unfolding_all rfl) ?_ | with_reducible refine then_ret ?_ | with_reducible refine block_ret ?_ | with_reducible refine w_ret ?_ | with_reducible refine w_skip ?_ | with_reducible refine w_exit ?_)); exact kk.out) : G := h ⟨k⟩
/-- in a region that draws -/
theorem qo {G G' : Prop} (k : G') (h : Kp G' → G := by intro kk; (repeat (first | refine q_p (wn rfl) rfl qyl ?_ | refine q_p (wy rfl rfl rfl rfl rfl known) rfl qyl ?_ | refine q_no (wx rfl rfl rfl rfl rfl known) rfl ?_)); exact kk.out) : G := h ⟨k⟩
end
end Go.Mem
