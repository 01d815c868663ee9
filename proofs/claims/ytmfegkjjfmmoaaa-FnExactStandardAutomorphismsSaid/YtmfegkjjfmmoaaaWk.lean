/- The walk's own words: a frame as a function from slots to values; a law for each operation, stated on the list of operations that is left. Over any program. -/
import Derived.Test.YtmfegkjjfmmoaaaMem
namespace Go.Mem
open Go.RowKit

abbrev Fr := Nat → Value
/-- n slots, as the function f has them; no deferred call. -/
def act (n : Nat) (f : Fr) : Act := ⟨Array.ofFn (n := n) (fun i => f i), []⟩
/-- A frame as the walk has it: a frame that is not looked into, and what has been written since. -/
inductive Fm where
  | base (f : Fr)
  | upd (F : Fm) (d : Nat) (v : Value)
def Fm.fn : Fm → Fr
  | .base f => f
  | .upd F d v => fun t => if t = d then v else F.fn t
noncomputable def Fm.look (F : Fm) (t : Nat) : Option Value := Fm.rec (motive := fun _ => Option Value) (fun _ => none) (fun _ d v r => bif Nat.beq t d then some v else r) F
theorem Fm.look_base (f : Fr) (t : Nat) : (Fm.base f).look t = none := rfl
theorem Fm.look_upd (F : Fm) (d : Nat) (v : Value) (t : Nat) : (Fm.upd F d v).look t = bif Nat.beq t d then some v else F.look t := rfl
def Fm.root : Fm → Fr
  | .base f => f
  | .upd F _ _ => F.root
theorem beq_no {t d : Nat} (h : ¬ t = d) : Nat.beq t d = false := by
  cases hb : Nat.beq t d with
  | false => rfl
  | true => exact absurd (Nat.eq_of_beq_eq_true hb) h
theorem Fm.fn_of_look : ∀ {F : Fm} {t : Nat} {v : Value}, F.look t = some v → F.fn t = v
  | .base _, _, _, h => by simp [Fm.look_base] at h
  | .upd F d u, t, v, h => by
    simp only [Fm.look_upd, Fm.fn] at h ⊢
    by_cases e : t = d
    · subst e; simpa using h
    · rw [if_neg e]
      have : Nat.beq t d = false := beq_no e
      rw [this] at h
      exact Fm.fn_of_look h
theorem Fm.fn_of_root : ∀ {F : Fm} {t : Nat}, F.look t = none → F.fn t = F.root t
  | .base _, _, _ => rfl
  | .upd F d u, t, h => by
    simp only [Fm.look_upd, Fm.fn, Fm.root] at h ⊢
    by_cases e : t = d
    · subst e; simp at h
    · rw [if_neg e]
      have : Nat.beq t d = false := beq_no e
      rw [this] at h
      exact Fm.fn_of_root h
/-- what an operand holds -/
def evo (n : Nat) (F : Fm) : Operand → Value
  | .tmp t => if t < n then F.fn t else undef
  | .const v => v
  | .global g => .pointer (some ⟨g, 0, none⟩)
  | .func g => .func (.func g) #[] #[]

theorem act_eval (n : Nat) (f : Fm) : (act n f.fn).eval = evo n f := by
  funext x
  cases x with
  | tmp t =>
    simp only [Act.eval, act, evo]
    split
    · rename_i h; simp [Array.getD, h]
    · rename_i h; simp [Array.getD, h]
  | _ => rfl

theorem act_put {n d : Nat} (f : Fm) (v : Value) (_h : d < n) : (act n f.fn).put (some d) v = act n (Fm.upd f d v).fn := by
  simp only [Act.put, act]
  congr 1
  apply Array.ext
  · simp
  · intro i h1 h2
    simp only [Array.size_setIfInBounds, Array.size_ofFn] at h1
    simp only [Array.getElem_ofFn, Fm.fn]
    rw [Array.getElem_setIfInBounds (by simpa using h1)]
    simp only [Array.getElem_ofFn]
    by_cases hi : i = d
    · simp [hi]
    · simp [hi, Ne.symm hi]

/-! ### The call: in and out -/

/-- What a call hands back, in which world. -/
def Ret (P : Program) (f : FuncId) (args : Array Value) (w : World) (R : Value → World → Prop) : Prop :=
  Calls P f args w fun e w' => ∃ v, e = .returned v ∧ R v w'

theorem Ret.mono {P : Program} {f : FuncId} {args : Array Value} {w : World} {R R' : Value → World → Prop} (h : Ret P f args w R) (hr : ∀ v w', R v w' → R' v w') : Ret P f args w R' :=
  Calls.mono h fun _ _ ⟨v, he, hv⟩ => ⟨v, he, hr _ _ hv⟩

def fr0 (args : Array Value) : Fr := fun t => args.getD t undef

theorem act_enter (n : Nat) (args : Array Value) (_h : args.size ≤ n) : (⟨args ++ Array.replicate (n - args.size) undef, []⟩ : Act) = act n (fr0 args) := by
  simp only [act]
  congr 1
  apply Array.ext
  · simp; omega
  · intro i h1 h2
    simp only [Array.size_append, Array.size_replicate] at h1
    simp only [Array.getElem_ofFn, fr0]
    by_cases hi : i < args.size
    · simp [hi, Array.getD]
    · simp [Array.getElem_append, hi, Array.getD]

/-! ### What a slot holds, by looking -/
noncomputable def lk (n : Nat) (F : Fm) : Operand → Option Value
  | .tmp t => bif Nat.ble (t + 1) n then F.look t else none
  | .const v => some v
  | .func g => some (.func (.func g) #[] #[])
  | .global _ => none
theorem lk_evo {n : Nat} {F : Fm} {x : Operand} {v : Value} (h : lk n F x = some v) : evo n F x = v := by
  cases x with
  | tmp t =>
    simp only [lk] at h
    cases hb : Nat.ble (t + 1) n with
    | false => rw [hb] at h; simp at h
    | true =>
      rw [hb] at h
      have : t < n := Nat.le_of_ble_eq_true hb
      simp only [evo, this, if_true]
      exact Fm.fn_of_look h
  | const c => simp [lk] at h; simp [evo, h]
  | func g => simp [lk] at h; simp [evo, h]
  | global g => simp [lk] at h

theorem results_one {P : Program} {fn : Func} {n t : Nat} {f : Fm} (h : fn.results = #[.tmp t]) (w : World) : (results fn (act n f.fn).tmps).run P w = .ok (evo n f (.tmp t)) w := by
  have e : (act n f.fn).tmps[t]?.getD undef = evo n f (.tmp t) := by rw [← act_eval]; simp [Act.eval]
  simp [results, h, e]
theorem results_two {P : Program} {fn : Func} {n t u : Nat} {f : Fm} (h : fn.results = #[.tmp t, .tmp u]) (w : World) : (results fn (act n f.fn).tmps).run P w = .ok (.tuple #[evo n f (.tmp t), evo n f (.tmp u)]) w := by
  have e (t : Nat) : (act n f.fn).tmps[t]?.getD undef = evo n f (.tmp t) := by rw [← act_eval]; simp [Act.eval]
  simp [results, h, e]
theorem results_three {P : Program} {fn : Func} {n t u x : Nat} {f : Fm} (h : fn.results = #[.tmp t, .tmp u, .tmp x]) (w : World) : (results fn (act n f.fn).tmps).run P w = .ok (.tuple #[evo n f (.tmp t), evo n f (.tmp u), evo n f (.tmp x)]) w := by
  have e (t : Nat) : (act n f.fn).tmps[t]?.getD undef = evo n f (.tmp t) := by rw [← act_eval]; simp [Act.eval]
  simp [results, h, e]
theorem results_zero {P : Program} {fn : Func} {n : Nat} {f : Fm} (h : fn.results = #[]) (w : World) : (results fn (act n f.fn).tmps).run P w = .ok (.tuple #[]) w := by
  simp [results, h]

/-- A post on frames, as a post on acts. -/
def lift (n : Nat) (Q : Exit → Fm → World → Prop) : Exit → Act → World → Prop := fun e a w => (∀ c, e ≠ .panic c) ∧ ∃ f : Fm, a = act n f.fn ∧ Q e f w
/-- The code c, from the frame f, in w, comes to Q. (A structure: Lean never opens it by itself.) -/
structure WC (P : Program) (c : Code) (Q : Exit → Fm → World → Prop) (n : Nat) (f : Fm) (w : World) : Prop where
  out : c.wp P (lift n Q) (act n f.fn) w
/-- The operations l, which are left of the region ops. -/
structure WL (P : Program) (ops : Array Oper) (Q : Exit → Fm → World → Prop) (l : List Oper) (n : Nat) (f : Fm) (w : World) : Prop where
  out : wpList P ops (lift n Q) l (act n f.fn) w

/-- The body's end. -/
def endPost (P : Program) (fn : Func) (n : Nat) (R : Value → World → Prop) : Exit → Fm → World → Prop
  | .normal, f, w | .ret, f, w => ∃ v, (results fn (act n f.fn).tmps).run P w = .ok v w ∧ R v w
  | _, _, _ => False
/-- What goes on behind a first part. -/
def seqP (K : Fm → World → Prop) (Q : Exit → Fm → World → Prop) : Exit → Fm → World → Prop
  | .normal, f, w => K f w
  | e, f, w => Q e f w
def blkP (id : Nat) (Q : Exit → Fm → World → Prop) : Exit → Fm → World → Prop
  | .exit id', f, w => if id' = id then Q .normal f w else Q (.exit id') f w
  | e, f, w => Q e f w

theorem enter {P : Program} {f : FuncId} {fn : Func} {c : Code} {args : Array Value} {w : World} {R : Value → World → Prop} (n : Nat)
    (hf : P.funcs[f]? = some fn) (hb : fn.body = some c) (hn : fn.ntmps = n) (hs : args.size ≤ n)
    (h : WC P c (endPost P fn n R) n (.base (fr0 args)) w) : Ret P f args w R := by
  refine calls_of_wp hf hb ?_
  rw [hn, act_enter n args hs]
  refine wp_mono h.out ?_
  rintro e a w' ⟨np, f', rfl, hq⟩
  cases e with
  | normal => obtain ⟨v, hr, hR⟩ := hq; exact ⟨rfl, v, hr, v, rfl, hR⟩
  | ret => obtain ⟨v, hr, hR⟩ := hq; exact ⟨rfl, v, hr, v, rfl, hR⟩
  | exit _ => exact hq.elim
  | goto _ => exact hq.elim
  | panic _ => exact hq.elim
  | outgrown => exact hq.elim

theorem end_one {P : Program} {fn : Func} {R : Value → World → Prop} {n t : Nat} {f : Fm} {w : World} {v : Value} (h : fn.results = #[.tmp t]) (hv : lk n f (.tmp t) = some v) (hR : R v w) : endPost P fn n R .ret f w :=
  ⟨v, by rw [← lk_evo hv]; exact results_one h w, hR⟩
theorem end_two {P : Program} {fn : Func} {R : Value → World → Prop} {n t u : Nat} {f : Fm} {w : World} {v v' : Value} (h : fn.results = #[.tmp t, .tmp u]) (hv : lk n f (.tmp t) = some v) (hv' : lk n f (.tmp u) = some v') (hR : R (.tuple #[v, v']) w) : endPost P fn n R .ret f w := by
  obtain rfl := lk_evo hv
  obtain rfl := lk_evo hv'
  exact ⟨_, results_two h w, hR⟩
theorem end_three {P : Program} {fn : Func} {R : Value → World → Prop} {n t u x : Nat} {f : Fm} {w : World} {v v' v'' : Value} (h : fn.results = #[.tmp t, .tmp u, .tmp x]) (hv : lk n f (.tmp t) = some v) (hv' : lk n f (.tmp u) = some v') (hv'' : lk n f (.tmp x) = some v'') (hR : R (.tuple #[v, v', v'']) w) : endPost P fn n R .ret f w := by
  obtain rfl := lk_evo hv
  obtain rfl := lk_evo hv'
  obtain rfl := lk_evo hv''
  exact ⟨_, results_three h w, hR⟩
theorem end_zero {P : Program} {fn : Func} {R : Value → World → Prop} {n : Nat} {f : Fm} {w : World} (h : fn.results = #[]) (hR : R (.tuple #[]) w) : endPost P fn n R .ret f w :=
  ⟨_, results_zero h w, hR⟩
/-- A body without results may end without a return. -/
theorem end_zero' {P : Program} {fn : Func} {R : Value → World → Prop} {n : Nat} {f : Fm} {w : World} (h : fn.results = #[]) (hR : R (.tuple #[]) w) : endPost P fn n R .normal f w :=
  ⟨_, results_zero h w, hR⟩

/-- A slot whose content is known is written down. -/
theorem upd_same {F : Fm} {t : Nat} {v : Value} (h : F.fn t = v) : (F.upd t v).fn = F.fn := by
  funext u
  simp only [Fm.fn]
  split
  · rename_i e; subst e; exact h.symm
  · rfl
theorem enter0 {P : Program} {f : FuncId} {fn : Func} {c : Code} {w : World} {R : Value → World → Prop} (n : Nat)
    (hf : P.funcs[f]? = some fn) (hb : fn.body = some c) (hn : fn.ntmps = n)
    (h : ∀ fr, WC P c (endPost P fn n R) n (.base fr) w) : Ret P f #[] w R := enter n hf hb hn (by simp) (h _)
theorem enter1 {P : Program} {f : FuncId} {fn : Func} {c : Code} {a0 : Value} {w : World} {R : Value → World → Prop} (n : Nat)
    (hf : P.funcs[f]? = some fn) (hb : fn.body = some c) (hn : fn.ntmps = n) (hs : Nat.ble 1 n = true)
    (h : ∀ fr : Fr, WC P c (endPost P fn n R) n (Fm.upd (.base fr) 0 a0) w) : Ret P f #[a0] w R := by
  refine enter n hf hb hn (Nat.le_of_ble_eq_true hs) ?_
  have e : ((Fm.upd (.base (fr0 #[a0])) 0 a0) : Fm).fn = (Fm.base (fr0 #[a0])).fn := by
    exact upd_same rfl
  have := (h (fr0 #[a0])).out
  rw [e] at this
  exact ⟨this⟩
theorem enter2 {P : Program} {f : FuncId} {fn : Func} {c : Code} {a0 a1 : Value} {w : World} {R : Value → World → Prop} (n : Nat)
    (hf : P.funcs[f]? = some fn) (hb : fn.body = some c) (hn : fn.ntmps = n) (hs : Nat.ble 2 n = true)
    (h : ∀ fr : Fr, WC P c (endPost P fn n R) n (Fm.upd (Fm.upd (.base fr) 0 a0) 1 a1) w) : Ret P f #[a0, a1] w R := by
  refine enter n hf hb hn (Nat.le_of_ble_eq_true hs) ?_
  have e : ((Fm.upd (Fm.upd (.base (fr0 #[a0, a1])) 0 a0) 1 a1) : Fm).fn = (Fm.base (fr0 #[a0, a1])).fn := by
    exact (upd_same rfl).trans (upd_same rfl)
  have := (h (fr0 #[a0, a1])).out
  rw [e] at this
  exact ⟨this⟩
theorem enter3 {P : Program} {f : FuncId} {fn : Func} {c : Code} {a0 a1 a2 : Value} {w : World} {R : Value → World → Prop} (n : Nat)
    (hf : P.funcs[f]? = some fn) (hb : fn.body = some c) (hn : fn.ntmps = n) (hs : Nat.ble 3 n = true)
    (h : ∀ fr : Fr, WC P c (endPost P fn n R) n (Fm.upd (Fm.upd (Fm.upd (.base fr) 0 a0) 1 a1) 2 a2) w) : Ret P f #[a0, a1, a2] w R := by
  refine enter n hf hb hn (Nat.le_of_ble_eq_true hs) ?_
  have e : ((Fm.upd (Fm.upd (Fm.upd (.base (fr0 #[a0, a1, a2])) 0 a0) 1 a1) 2 a2) : Fm).fn = (Fm.base (fr0 #[a0, a1, a2])).fn := by
    exact (upd_same rfl).trans ((upd_same rfl).trans (upd_same rfl))
  have := (h (fr0 #[a0, a1, a2])).out
  rw [e] at this
  exact ⟨this⟩
theorem enter4 {P : Program} {f : FuncId} {fn : Func} {c : Code} {a0 a1 a2 a3 : Value} {w : World} {R : Value → World → Prop} (n : Nat)
    (hf : P.funcs[f]? = some fn) (hb : fn.body = some c) (hn : fn.ntmps = n) (hs : Nat.ble 4 n = true)
    (h : ∀ fr : Fr, WC P c (endPost P fn n R) n (Fm.upd (Fm.upd (Fm.upd (Fm.upd (.base fr) 0 a0) 1 a1) 2 a2) 3 a3) w) : Ret P f #[a0, a1, a2, a3] w R := by
  refine enter n hf hb hn (Nat.le_of_ble_eq_true hs) ?_
  have e : ((Fm.upd (Fm.upd (Fm.upd (Fm.upd (.base (fr0 #[a0, a1, a2, a3])) 0 a0) 1 a1) 2 a2) 3 a3) : Fm).fn = (Fm.base (fr0 #[a0, a1, a2, a3])).fn := by
    exact (upd_same rfl).trans ((upd_same rfl).trans ((upd_same rfl).trans (upd_same rfl)))
  have := (h (fr0 #[a0, a1, a2, a3])).out
  rw [e] at this
  exact ⟨this⟩
theorem enter5 {P : Program} {f : FuncId} {fn : Func} {c : Code} {a0 a1 a2 a3 a4 : Value} {w : World} {R : Value → World → Prop} (n : Nat)
    (hf : P.funcs[f]? = some fn) (hb : fn.body = some c) (hn : fn.ntmps = n) (hs : Nat.ble 5 n = true)
    (h : ∀ fr : Fr, WC P c (endPost P fn n R) n (Fm.upd (Fm.upd (Fm.upd (Fm.upd (Fm.upd (.base fr) 0 a0) 1 a1) 2 a2) 3 a3) 4 a4) w) : Ret P f #[a0, a1, a2, a3, a4] w R := by
  refine enter n hf hb hn (Nat.le_of_ble_eq_true hs) ?_
  have e : ((Fm.upd (Fm.upd (Fm.upd (Fm.upd (Fm.upd (.base (fr0 #[a0, a1, a2, a3, a4])) 0 a0) 1 a1) 2 a2) 3 a3) 4 a4) : Fm).fn = (Fm.base (fr0 #[a0, a1, a2, a3, a4])).fn := by
    exact (upd_same rfl).trans ((upd_same rfl).trans ((upd_same rfl).trans ((upd_same rfl).trans (upd_same rfl))))
  have := (h (fr0 #[a0, a1, a2, a3, a4])).out
  rw [e] at this
  exact ⟨this⟩
theorem enter6 {P : Program} {f : FuncId} {fn : Func} {c : Code} {a0 a1 a2 a3 a4 a5 : Value} {w : World} {R : Value → World → Prop} (n : Nat)
    (hf : P.funcs[f]? = some fn) (hb : fn.body = some c) (hn : fn.ntmps = n) (hs : Nat.ble 6 n = true)
    (h : ∀ fr : Fr, WC P c (endPost P fn n R) n (Fm.upd (Fm.upd (Fm.upd (Fm.upd (Fm.upd (Fm.upd (.base fr) 0 a0) 1 a1) 2 a2) 3 a3) 4 a4) 5 a5) w) : Ret P f #[a0, a1, a2, a3, a4, a5] w R := by
  refine enter n hf hb hn (Nat.le_of_ble_eq_true hs) ?_
  have e : ((Fm.upd (Fm.upd (Fm.upd (Fm.upd (Fm.upd (Fm.upd (.base (fr0 #[a0, a1, a2, a3, a4, a5])) 0 a0) 1 a1) 2 a2) 3 a3) 4 a4) 5 a5) : Fm).fn = (Fm.base (fr0 #[a0, a1, a2, a3, a4, a5])).fn := by
    exact (upd_same rfl).trans ((upd_same rfl).trans ((upd_same rfl).trans ((upd_same rfl).trans ((upd_same rfl).trans (upd_same rfl)))))
  have := (h (fr0 #[a0, a1, a2, a3, a4, a5])).out
  rw [e] at this
  exact ⟨this⟩
theorem enter7 {P : Program} {f : FuncId} {fn : Func} {c : Code} {a0 a1 a2 a3 a4 a5 a6 : Value} {w : World} {R : Value → World → Prop} (n : Nat)
    (hf : P.funcs[f]? = some fn) (hb : fn.body = some c) (hn : fn.ntmps = n) (hs : Nat.ble 7 n = true)
    (h : ∀ fr : Fr, WC P c (endPost P fn n R) n (Fm.upd (Fm.upd (Fm.upd (Fm.upd (Fm.upd (Fm.upd (Fm.upd (.base fr) 0 a0) 1 a1) 2 a2) 3 a3) 4 a4) 5 a5) 6 a6) w) : Ret P f #[a0, a1, a2, a3, a4, a5, a6] w R := by
  refine enter n hf hb hn (Nat.le_of_ble_eq_true hs) ?_
  have e : ((Fm.upd (Fm.upd (Fm.upd (Fm.upd (Fm.upd (Fm.upd (Fm.upd (.base (fr0 #[a0, a1, a2, a3, a4, a5, a6])) 0 a0) 1 a1) 2 a2) 3 a3) 4 a4) 5 a5) 6 a6) : Fm).fn = (Fm.base (fr0 #[a0, a1, a2, a3, a4, a5, a6])).fn := by
    exact (upd_same rfl).trans ((upd_same rfl).trans ((upd_same rfl).trans ((upd_same rfl).trans ((upd_same rfl).trans ((upd_same rfl).trans (upd_same rfl))))))
  have := (h (fr0 #[a0, a1, a2, a3, a4, a5, a6])).out
  rw [e] at this
  exact ⟨this⟩

/-! ### Control -/
theorem then_normal {K : Fm → World → Prop} {Q : Exit → Fm → World → Prop} {f : Fm} {w : World} (h : K f w) : seqP K Q .normal f w := h
theorem then_exit {K : Fm → World → Prop} {Q : Exit → Fm → World → Prop} {f : Fm} {w : World} {i : Nat} (h : Q (.exit i) f w) : seqP K Q (.exit i) f w := h
theorem then_ret {K : Fm → World → Prop} {Q : Exit → Fm → World → Prop} {f : Fm} {w : World} (h : Q .ret f w) : seqP K Q .ret f w := h
theorem block_normal {i : Nat} {Q : Exit → Fm → World → Prop} {f : Fm} {w : World} (h : Q .normal f w) : blkP i Q .normal f w := h
theorem block_ret {i : Nat} {Q : Exit → Fm → World → Prop} {f : Fm} {w : World} (h : Q .ret f w) : blkP i Q .ret f w := h
theorem block_same {i : Nat} {Q : Exit → Fm → World → Prop} {f : Fm} {w : World} (h : Q .normal f w) : blkP i Q (.exit i) f w := by simp [blkP, h]
theorem block_other {i j : Nat} {Q : Exit → Fm → World → Prop} {f : Fm} {w : World} (hne : Nat.beq j i = false) (h : Q (.exit j) f w) : blkP i Q (.exit j) f w := by
  have : ¬ j = i := by intro e; subst e; simp at hne
  simp [blkP, this, h]

variable {P : Program} {ops : Array Oper} {Q : Exit → Fm → World → Prop} {n : Nat} {f : Fm} {w : World} {rest : List Oper}

theorem w_seq {x y : Code} (h : WC P x (seqP (fun f w => WC P y Q n f w) Q) n f w) : WC P (.seq x y) Q n f w := by
  refine ⟨wp_seq (wp_mono h.out ?_)⟩
  rintro e a w' ⟨np, f', rfl, hq⟩
  cases e <;> first | exact WC.out hq | exact ⟨np, f', rfl, hq⟩
theorem w_block {id : Nat} {c : Code} (h : WC P c (blkP id Q) n f w) : WC P (.block id c) Q n f w := by
  refine ⟨wp_block (wp_mono h.out ?_)⟩
  rintro e a w' ⟨np, f', rfl, hq⟩
  cases e with
  | exit id' =>
    by_cases hid : id' = id
    · simp only [blkP, hid, if_true] at hq
      simp only [Exit.inBlock, hid, if_true]
      exact ⟨nofun, f', rfl, hq⟩
    · simp only [blkP, hid, if_false] at hq
      simp only [Exit.inBlock, hid, if_false]
      exact ⟨nofun, f', rfl, hq⟩
  | panic c => exact absurd rfl (np c)
  | _ => exact ⟨nofun, f', rfl, hq⟩
theorem w_region {id : Nat} {l : List Oper} (h : WL P l.toArray Q l n f w) : WC P (.region id l.toArray false) Q n f w := ⟨wp_region_lit h.out⟩
theorem w_nil (h : Q .normal f w) : WL P ops Q [] n f w := ⟨⟨nofun, f, rfl, h⟩⟩
theorem w_skip (h : Q .normal f w) : WC P .skip Q n f w := ⟨wp_skip ⟨nofun, f, rfl, h⟩⟩
theorem w_ret (h : Q .ret f w) : WC P .ret Q n f w := ⟨wp_ret ⟨nofun, f, rfl, h⟩⟩
theorem w_exit {id : Nat} (h : Q (.exit id) f w) : WC P (.exit id) Q n f w := ⟨wp_exit ⟨nofun, f, rfl, h⟩⟩

theorem cond_true {c : Operand} {x y : Code} {b : Bool} (hc : lk n f c = some (.bool b)) (hb : b = true) (h : WC P x Q n f w) : WC P (.cond c x y) Q n f w :=
  ⟨wp_cond_true (by rw [act_eval, lk_evo hc, hb]) h.out⟩
theorem cond_false {c : Operand} {x y : Code} {b : Bool} (hc : lk n f c = some (.bool b)) (hb : b = false) (h : WC P y Q n f w) : WC P (.cond c x y) Q n f w :=
  ⟨wp_cond_false (by rw [act_eval, lk_evo hc, hb]) h.out⟩
theorem cond_split {c : Operand} {x y : Code} {b : Bool} (hc : lk n f c = some (.bool b)) (ht : b = true → WC P x Q n f w) (hf : b = false → WC P y Q n f w) : WC P (.cond c x y) Q n f w :=
  ⟨wp_cond_split (by rw [act_eval, lk_evo hc]) (fun h => (ht h).out) (fun h => (hf h).out)⟩
theorem cond_dec {c : Operand} {x y : Code} {p : Prop} [Decidable p] (hc : lk n f c = some (.bool (decide p))) (ht : p → WC P x Q n f w) (hf : ¬ p → WC P y Q n f w) : WC P (.cond c x y) Q n f w :=
  cond_split hc (fun h => ht (of_decide_eq_true h)) (fun h => hf (of_decide_eq_false h))

/-- A loop: I k f w at each round's head; each round that goes on lowers k. -/
theorem w_loop {c : Code} (I : Nat → Fr → World → Prop) (k : Nat) (h0 : I k f.fn w)
    (round : ∀ k f w, I k f w → WC P c (seqP (fun f' w' => ∃ k', k' < k ∧ I k' f'.fn w') Q) n (.base f) w) : WC P (.loop c) Q n f w := by
  refine ⟨fun b kk cs => ?_⟩
  have key : ∀ k f w, I k f w → ∃ e a' w', lift n Q e a' w' ∧ Arrives P (lone (b.at (act n f) (.code c :: .inLoop c :: kk)) cs w) b kk cs e a' w' := by
    intro k
    induction k using Nat.strongRecOn with
    | _ k ih =>
      intro f w hI
      obtain ⟨e, a₁, w₁, ⟨np, f', rfl, hq⟩, harr⟩ := (round k f w hI).out b (.inLoop c :: kk) cs
      cases e with
      | normal =>
        obtain ⟨k', hlt, hI'⟩ := hq
        obtain ⟨e₂, a₂, w₂, hq₂, harr₂⟩ := ih k' hlt f'.fn w₁ hI'
        exact ⟨e₂, a₂, w₂, hq₂, .of_steps (Steps.trans harr (.one step_inLoop)) harr₂⟩
      | exit id => exact ⟨_, _, w₁, ⟨np, f', rfl, hq⟩, .pass (x := .inLoop c) rfl (fun _ _ => .inl (by simp)) harr⟩
      | goto l => exact ⟨_, _, w₁, ⟨np, f', rfl, hq⟩, .pass (x := .inLoop c) rfl (fun _ _ => .inl (by simp)) harr⟩
      | ret => exact ⟨_, _, w₁, ⟨np, f', rfl, hq⟩, .pass (x := .inLoop c) rfl (fun _ _ => .inl (by simp)) harr⟩
      | panic ch => exact ⟨_, _, w₁, ⟨np, f', rfl, hq⟩, .pass (x := .inLoop c) rfl (fun _ _ => .inl (by simp)) harr⟩
      | outgrown => exact ⟨_, _, w₁, ⟨np, f', rfl, hq⟩, .pass (x := .inLoop c) rfl (fun _ _ => .inl (by simp)) harr⟩
  obtain ⟨e, a', w', hq, harr⟩ := key k f.fn w h0
  exact ⟨e, a', w', hq, .of_steps (.one step_loop) harr⟩
/-- Behind a loop's round. -/
theorem again {I : Nat → Fr → World → Prop} {k : Nat} (k' : Nat) (hk : k' < k) (h : I k' f.fn w) : ∃ k', k' < k ∧ I k' f.fn w := ⟨k', hk, h⟩
theorem know {c : Code} {t : Nat} {v : Value} (h : f.fn t = v) (k : WC P c Q n (f.upd t v) w) : WC P c Q n f w := by
  have := k.out
  rw [upd_same h] at this
  exact ⟨this⟩
/-- The ways through a first part meet at J. -/
theorem meet {c y : Code} (J : Fr → World → Prop) (h1 : WC P c (seqP (fun F w => J F.fn w) Q) n f w) (h2 : ∀ r w, J r w → WC P y Q n (.base r) w) : WC P c (seqP (fun f w => WC P y Q n f w) Q) n f w := by
  refine ⟨wp_mono h1.out ?_⟩
  rintro e a w' ⟨np, F, rfl, hq⟩
  refine ⟨np, F, rfl, ?_⟩
  cases e with
  | normal => exact ⟨(h2 F.fn w' hq).out⟩
  | _ => exact hq
/-- What the rest does not use is forgotten. -/
theorem forget {c : Code} (h : ∀ r : Fr, r = f.fn → WC P c Q n (.base r) w) : WC P c Q n f w := ⟨(h _ rfl).out⟩
end Go.Mem
