/- Plain words on lists: the order of lists of numbers, of lists of these; least forms. No program in sight. -/
import Derived.Test.YtkknhcpjiehgiaaDoorP20
namespace Go.Mem
set_option linter.unusedVariables false
section
variable {α : Type} [DecidableEq α] {lt : α → α → Bool}
/-- the order by the first place at which two lists differ -/
def lexL (lt : α → α → Bool) : List α → List α → Bool
  | [], [] => false
  | [], _ :: _ => true
  | _ :: _, [] => false
  | x :: xs, y :: ys => if x = y then lexL lt xs ys else lt x y
theorem lexL_app (p xs ys : List α) : lexL lt (p ++ xs) (p ++ ys) = lexL lt xs ys := by
  induction p with
  | nil => rfl
  | cons a p ih => simp [lexL, ih]
theorem lexL_self (xs : List α) : lexL lt xs xs = false := by
  induction xs with
  | nil => rfl
  | cons a p ih => simp [lexL, ih]
/-- they differ at i first -/
theorem lexL_at {xs ys : List α} {i : Nat} (he : xs.take i = ys.take i) (hx : i < xs.length) (hy : i < ys.length) (hne : xs[i] ≠ ys[i]) : lexL lt xs ys = lt xs[i] ys[i] ∧ xs ≠ ys := by
  have e1 : xs = xs.take i ++ xs[i] :: xs.drop (i + 1) := by rw [← List.drop_eq_getElem_cons hx, List.take_append_drop]
  have e2 : ys = ys.take i ++ ys[i] :: ys.drop (i + 1) := by rw [← List.drop_eq_getElem_cons hy, List.take_append_drop]
  refine ⟨?_, fun e => hne (by subst e; rfl)⟩
  have key : ∀ (p A B : List α) (a b : α), xs = p ++ a :: A → ys = p ++ b :: B → a ≠ b → lexL lt xs ys = lt a b := by
    rintro p A B a b rfl rfl hn
    rw [lexL_app]; simp [lexL, hn]
  exact key _ _ _ _ _ (by rw [← he]; exact e1) e2 hne
theorem lexL_short {xs ys : List α} (he : xs = ys.take xs.length) (hl : xs.length < ys.length) : lexL lt xs ys = true := by
  have e2 : ys = xs ++ ys.drop xs.length := by conv => lhs; rw [← List.take_append_drop xs.length ys, ← he]
  have : ys.drop xs.length ≠ [] := by intro e; rw [List.drop_eq_nil_iff] at e; omega
  rw [e2]
  conv => lhs; arg 2; rw [← List.append_nil xs]
  rw [lexL_app]
  cases h : ys.drop xs.length with
  | nil => exact absurd h this
  | cons a l => rfl
theorem lexL_long {xs ys : List α} (he : xs.take ys.length = ys) (hl : ys.length < xs.length) : lexL lt xs ys = false := by
  have e2 : xs = ys ++ xs.drop ys.length := by conv => lhs; rw [← List.take_append_drop ys.length xs, he]
  have : xs.drop ys.length ≠ [] := by intro e; rw [List.drop_eq_nil_iff] at e; omega
  rw [e2]
  conv => lhs; arg 3; rw [← List.append_nil ys]
  rw [lexL_app]
  cases h : xs.drop ys.length with
  | nil => exact absurd h this
  | cons a l => rfl
/-- less, equal, greater -/
def cmpL (lt : α → α → Bool) (xs ys : List α) : Int := if xs = ys then 0 else if lexL lt xs ys then -1 else 1
theorem cmpL_neg (xs ys : List α) : decide (cmpL lt xs ys < 0) = lexL lt xs ys := by
  unfold cmpL
  split
  · rename_i e; subst e; rw [lexL_self]; rfl
  · split
    · rename_i h; rw [h]; rfl
    · rename_i h; simp at h; rw [h]; rfl
theorem cmpL_zero (xs ys : List α) : cmpL lt xs ys = 0 ↔ xs = ys := by
  unfold cmpL
  split
  · rename_i e; simp [e]
  · rename_i e; split <;> simp [e]
end
def ltI (a b : Int) : Bool := decide (a < b)
def lessL : List Int → List Int → Bool := lexL ltI
def lessR : List (List Int) → List (List Int) → Bool := lexL lessL
def cmpI (a b : Int) : Int := if a = b then 0 else if a < b then -1 else 1
section
variable {xs ys : List Int} {xss yss : List (List Int)} {i : Nat}
theorem take_gi_eq (hx : i < xs.length) (hy : i < ys.length) (he : xs.take i = ys.take i) (h : gi xs i = gi ys i) : xs.take (i + 1) = ys.take (i + 1) := by
  rw [take_gi hx, take_gi hy, he, h]
theorem take_gr {xss : List (List Int)} {i : Nat} (h : i < xss.length) : xss.take (i + 1) = xss.take i ++ [gr xss i] := by
  rw [List.take_succ_eq_append_getElem h]; simp [gr, List.getD, h]
theorem take_gr_eq (hx : i < xss.length) (hy : i < yss.length) (he : xss.take i = yss.take i) (h : gr xss i = gr yss i) : xss.take (i + 1) = yss.take (i + 1) := by
  rw [take_gr hx, take_gr hy, he, h]
theorem gi_get (hx : i < xs.length) : gi xs i = xs[i] := by simp [gi, List.getD, hx]
theorem gr_get (hx : i < xss.length) : gr xss i = xss[i] := by simp [gr, List.getD, hx]
theorem lessL_at (he : xs.take i = ys.take i) (hx : i < xs.length) (hy : i < ys.length) (hne : gi xs i ≠ gi ys i) : lessL xs ys = decide (gi xs i < gi ys i) ∧ xs ≠ ys := by
  rw [gi_get hx, gi_get hy] at hne ⊢
  exact lexL_at he hx hy hne
theorem lessR_at (he : xss.take i = yss.take i) (hx : i < xss.length) (hy : i < yss.length) (hne : gr xss i ≠ gr yss i) : lessR xss yss = lessL (gr xss i) (gr yss i) ∧ xss ≠ yss := by
  rw [gr_get hx, gr_get hy] at hne ⊢
  exact lexL_at he hx hy hne
theorem cmpL_at (he : xs.take i = ys.take i) (hx : i < xs.length) (hy : i < ys.length) (hne : cmpI (gi xs i) (gi ys i) ≠ 0) : cmpL ltI xs ys = cmpI (gi xs i) (gi ys i) := by
  have h0 : gi xs i ≠ gi ys i := fun e => hne (by unfold cmpI; rw [if_pos e])
  obtain ⟨h1, h2⟩ := lessL_at he hx hy h0
  have h1' : lexL ltI xs ys = decide (gi xs i < gi ys i) := h1
  unfold cmpL cmpI
  rw [if_neg h2, if_neg h0, h1']
  simp
theorem cmpI_zero {a b : Int} : cmpI a b = 0 ↔ a = b := by
  unfold cmpI
  split
  · rename_i e; simp [e]
  · rename_i e; split <;> simp [e]
theorem cmpR_at (he : xss.take i = yss.take i) (hx : i < xss.length) (hy : i < yss.length) (hne : cmpL ltI (gr xss i) (gr yss i) ≠ 0) : cmpL lessL xss yss = cmpL ltI (gr xss i) (gr yss i) := by
  have h0 : gr xss i ≠ gr yss i := fun e => hne ((cmpL_zero _ _).2 e)
  obtain ⟨h1, h2⟩ := lessR_at he hx hy h0
  have h1' : lexL lessL xss yss = lexL ltI (gr xss i) (gr yss i) := h1
  unfold cmpL
  rw [if_neg h2, if_neg h0, h1']
end
/-- behind all places of the first list -/
theorem cmpL_end {α : Type} [DecidableEq α] {lt : α → α → Bool} {xs ys : List α} (he : xs.take xs.length = ys.take xs.length) (hl : xs.length ≤ ys.length) : cmpL lt xs ys = if xs.length < ys.length then -1 else 0 := by
  rw [List.take_length] at he
  by_cases h : xs.length < ys.length
  · rw [if_pos h]
    unfold cmpL
    rw [if_neg (fun e => by rw [e] at h; omega), if_pos (lexL_short he h)]
  · rw [if_neg h, cmpL_zero]
    rw [he, List.take_of_length_le (by omega)]
theorem cmpL_over {α : Type} [DecidableEq α] {lt : α → α → Bool} {xs ys : List α} (he : xs.take ys.length = ys.take ys.length) (hl : ys.length < xs.length) : cmpL lt xs ys = 1 := by
  rw [List.take_length] at he
  unfold cmpL
  rw [if_neg (fun e => by rw [e] at hl; omega), if_neg (by rw [lexL_long he hl]; simp)]
/-- least forms -/
def lstTo (ms : List (List Int)) : Nat → List (List Int)
  | 0 => frm (nf ms) ms 0
  | k + 1 => if lessR (frm (nf ms) ms (k : Nat)) (lstTo ms k) then frm (nf ms) ms (k : Nat) else lstTo ms k
def lst (ms : List (List Int)) : List (List Int) := lstTo ms (nf ms)
theorem lstTo_one (ms : List (List Int)) : lstTo ms 1 = lstTo ms 0 := by
  have e : lessR (frm (nf ms) ms ((0 : Nat) : Int)) (frm (nf ms) ms 0) = false := lexL_self _
  show (if lessR (frm (nf ms) ms ((0 : Nat) : Int)) (lstTo ms 0) then _ else lstTo ms 0) = _
  have e' : lessR (frm (nf ms) ms ((0 : Nat) : Int)) (lstTo ms 0) = false := e
  rw [e']; rfl
theorem lstTo_hit {ms : List (List Int)} {k : Nat} (h : lessR (frm (nf ms) ms (k : Nat)) (lstTo ms k) = true) : lstTo ms (k + 1) = frm (nf ms) ms (k : Nat) := by
  show (if lessR (frm (nf ms) ms (k : Nat)) (lstTo ms k) then _ else lstTo ms k) = _
  rw [h]; rfl
theorem lstTo_miss {ms : List (List Int)} {k : Nat} (h : lessR (frm (nf ms) ms (k : Nat)) (lstTo ms k) = false) : lstTo ms (k + 1) = lstTo ms k := by
  show (if lessR (frm (nf ms) ms (k : Nat)) (lstTo ms k) then _ else lstTo ms k) = _
  rw [h]; rfl
end Go.Mem
