/- Plain words on lists: the first word that does nothing on one maniplex but not on another one. No program in sight. -/
import Derived.Test.YtlodnhflfijomaaP23
import Derived.Test.YtlodnhflfijomaaP24
import Derived.Test.YtlodnhflfijomaaPB
namespace Go.Mem
set_option linter.unusedVariables false
/-- i may follow the word -/
def okLast (ok : Int → Int → Bool) (wd : List Int) (i : Int) : Bool :=
  match wd.getLast? with
  | none => true
  | some l => ok l i
def specOk (l i : Int) : Bool := !decide (l = i)
def implOk (l i : Int) : Bool := !(decide (i = l) || decide (i < l - 1))
/-- the first good word that goes on with k moves -/
def tryW (ok : Int → Int → Bool) (r : Nat) (good : List Int → Bool) (wd : List Int) : Nat → Option (List Int)
  | 0 => if good wd then some wd else none
  | k + 1 => (List.range r).findSome? fun i : Nat => if okLast ok wd i then tryW ok r good (wd ++ [(i : Int)]) k else none
/-- the word v may stand behind a move -/
def Vd (ok : Int → Int → Bool) (r : Nat) : Option Int → List Int → Prop
  | _, [] => True
  | l, i :: v => (0 ≤ i ∧ i < r) ∧ (∀ a, l = some a → ok a i = true) ∧ Vd ok r (some i) v
theorem findSome_hit {α : Type} {f : Nat → Option α} {r i : Nat} {u : α} (hi : i < r) (h0 : ∀ j, j < i → f j = none) (h : f i = some u) : (List.range r).findSome? f = some u := by
  have e : List.range r = List.range i ++ i :: (List.range (r - i - 1)).map (· + (i + 1)) := by
    apply List.ext_getElem?
    intro q
    rw [List.getElem?_append]
    simp only [List.length_range]
    split
    · rename_i hq; simp [hq, show q < r by omega]
    · rename_i hq
      rcases Nat.lt_or_ge q r with hqr | hqr
      · rcases Nat.eq_or_lt_of_le (Nat.not_lt.1 hq) with e | hlt
        · subst e; simp [hqr]
        · obtain ⟨d, rfl⟩ : ∃ d, q = i + 1 + d := ⟨q - (i + 1), by omega⟩
          rw [show i + 1 + d - i = d + 1 by omega]
          simp [hqr, show d < r - i - 1 by omega]; omega
      · rw [List.getElem?_eq_none (by simp; omega), List.getElem?_eq_none (by simp; omega)]
  rw [e, List.findSome?_append]
  have hn : (List.range i).findSome? f = none := by
    rw [List.findSome?_eq_none_iff]
    intro j hj
    exact h0 j (List.mem_range.1 hj)
  rw [hn]
  simp [h]
theorem findSome_none {α : Type} {f : Nat → Option α} {r : Nat} (h0 : ∀ j, j < r → f j = none) : (List.range r).findSome? f = none := by
  rw [List.findSome?_eq_none_iff]
  intro j hj
  exact h0 j (List.mem_range.1 hj)
theorem findSome_some {α : Type} {f : Nat → Option α} {u : α} : ∀ {r : Nat}, (List.range r).findSome? f = some u → ∃ i, i < r ∧ f i = some u ∧ ∀ j, j < i → f j = none
  | 0, h => by simp at h
  | r + 1, h => by
    rw [List.range_succ, List.findSome?_append] at h
    cases hp : (List.range r).findSome? f with
    | some v =>
      rw [hp] at h
      simp at h; subst h
      obtain ⟨i, h1, h2, h3⟩ := findSome_some hp
      exact ⟨i, by omega, h2, h3⟩
    | none =>
      rw [hp] at h
      refine ⟨r, by omega, by simpa using h, fun j hj => ?_⟩
      rw [List.findSome?_eq_none_iff] at hp
      exact hp j (List.mem_range.2 hj)
section
variable {ok : Int → Int → Bool} {r : Nat} {good : List Int → Bool} {wd : List Int} {k : Nat}
theorem okLast_vd {i : Nat} {v : List Int} (hi : i < r) : Vd ok r wd.getLast? ((i : Int) :: v) ↔ okLast ok wd i = true ∧ Vd ok r (wd ++ [(i : Int)]).getLast? v := by
  have e : (wd ++ [(i : Int)]).getLast? = some (i : Int) := by simp
  rw [e]
  unfold okLast
  cases h : wd.getLast? with
  | none => simp [Vd]; omega
  | some l => simp [Vd]; omega
theorem try_none : ∀ (k : Nat) (wd : List Int), tryW ok r good wd k = none → ∀ v, v.length = k → Vd ok r wd.getLast? v → good (wd ++ v) = false
  | 0, wd, h, v, hv, _ => by
    have : v = [] := List.length_eq_zero_iff.1 hv
    subst this
    unfold tryW at h
    cases hg : good wd with
    | false => simpa using hg
    | true => rw [hg] at h; simp at h
  | k + 1, wd, h, [], hv, _ => by simp at hv
  | k + 1, wd, h, i :: v, hv, hvd => by
    obtain ⟨q, rfl⟩ : ∃ q : Nat, i = q := ⟨i.toNat, by have := hvd.1; omega⟩
    have hq : q < r := by have := hvd.1; omega
    obtain ⟨h1, h2⟩ := (okLast_vd hq).1 hvd
    unfold tryW at h
    rw [List.findSome?_eq_none_iff] at h
    have h3 := h q (List.mem_range.2 hq)
    rw [if_pos h1] at h3
    have := try_none k _ h3 v (by simpa using hv) h2
    simpa using this
theorem try_some : ∀ (k : Nat) (wd u : List Int), tryW ok r good wd k = some u → ∃ v, u = wd ++ v ∧ v.length = k ∧ Vd ok r wd.getLast? v ∧ good u = true ∧ ∀ v', v'.length = k → Vd ok r wd.getLast? v' → lessL v' v = true → good (wd ++ v') = false
  | 0, wd, u, h => by
    unfold tryW at h
    cases hg : good wd with
    | false => rw [hg] at h; simp at h
    | true =>
      rw [hg] at h; simp at h; subst h
      refine ⟨[], by simp, rfl, trivial, hg, fun v' hv' _ hl => ?_⟩
      have : v' = [] := List.length_eq_zero_iff.1 hv'
      subst this; simp [lessL, lexL] at hl
  | k + 1, wd, u, h => by
    unfold tryW at h
    obtain ⟨i, hi, h1, h2⟩ := findSome_some h
    split at h1
    · rename_i hok
      obtain ⟨v, rfl, hvl, hvd, hg, hmin⟩ := try_some k _ u h1
      refine ⟨(i : Int) :: v, by simp, by simp [hvl], (okLast_vd hi).2 ⟨hok, hvd⟩, hg, fun v' hv' hvd' hl => ?_⟩
      match v', hv', hvd', hl with
      | j :: v', hv', hvd', hl =>
        obtain ⟨q, rfl⟩ : ∃ q : Nat, j = q := ⟨j.toNat, by have := hvd'.1; omega⟩
        have hq : q < r := by have := hvd'.1; omega
        obtain ⟨g1, g2⟩ := (okLast_vd hq).1 hvd'
        have hl' : (if (q : Int) = (i : Int) then lexL ltI v' v else ltI q i) = true := hl
        by_cases hqi : q = i
        · subst hqi
          rw [if_pos rfl] at hl'
          have := hmin v' (by simpa using hv') g2 hl'
          simpa using this
        · rw [if_neg (by omega)] at hl'
          have hlt : q < i := by
            have : (q : Int) < i := of_decide_eq_true hl'
            omega
          have h3 := h2 q hlt
          rw [if_pos g1] at h3
          have := try_none k _ h3 v' (by simpa using hv') g2
          simpa using this
    · simp at h1
end
theorem lessL_total : ∀ (xs ys : List Int), xs ≠ ys → lessL xs ys = true ∨ lessL ys xs = true
  | [], [], h => absurd rfl h
  | [], _ :: _, _ => .inl rfl
  | _ :: _, [], _ => .inr rfl
  | x :: xs, y :: ys, h => by
    show (if x = y then lexL ltI xs ys else ltI x y) = true ∨ (if y = x then lexL ltI ys xs else ltI y x) = true
    by_cases e : x = y
    · subst e
      rw [if_pos rfl, if_pos rfl]
      exact lessL_total xs ys (fun e => h (by rw [e]))
    · rw [if_neg e, if_neg (fun e' => e e'.symm)]
      unfold ltI
      rcases Int.lt_or_gt_of_ne e with h1 | h1
      · exact .inl (decide_eq_true h1)
      · exact .inr (decide_eq_true h1)
theorem Vd.sub {ok ok' : Int → Int → Bool} {r : Nat} (h : ∀ a i, ok a i = true → ok' a i = true) : ∀ (v : List Int) (l : Option Int), Vd ok r l v → Vd ok' r l v
  | [], _, _ => trivial
  | i :: v, l, hv => ⟨hv.1, fun a e => h a i (hv.2.1 a e), Vd.sub h v _ hv.2.2⟩
theorem Vd.rng {ok : Int → Int → Bool} {r : Nat} : ∀ {v : List Int} {l : Option Int}, Vd ok r l v → ∀ x ∈ v, 0 ≤ x ∧ x < r
  | [], _, _, x, hx => by simp at hx
  | i :: v, l, hv, x, hx => by
    rcases List.mem_cons.1 hx with rfl | hx
    · exact hv.1
    · exact Vd.rng hv.2.2 x hx
/-- two equal moves side by side -/
theorem Vd.twice {r : Nat} : ∀ (v : List Int) (l : Option Int), (∀ x ∈ v, 0 ≤ x ∧ x < r) → ¬ Vd specOk r l v → (∃ a y, l = some a ∧ v = a :: y) ∨ ∃ x a y, v = x ++ a :: a :: y
  | [], _, _, h => absurd trivial h
  | i :: v, l, hr, h => by
    by_cases h1 : ∀ a, l = some a → specOk a i = true
    · by_cases h2 : Vd specOk r (some i) v
      · exact absurd ⟨hr i (by simp), h1, h2⟩ h
      · rcases Vd.twice v (some i) (fun x hx => hr x (List.mem_cons_of_mem _ hx)) h2 with ⟨a, y, e1, e2⟩ | ⟨x, a, y, e⟩
        · cases e1; subst e2; exact .inr ⟨[], i, y, rfl⟩
        · subst e; exact .inr ⟨i :: x, a, y, rfl⟩
    · refine .inl ?_
      refine Classical.byContradiction fun hn => h1 fun a e => ?_
      unfold specOk
      by_cases hai : a = i
      · subst hai; exact absurd ⟨a, v, e, rfl⟩ hn
      · simp [hai]
/-- two far moves in the wrong order -/
theorem Vd.wrong {r : Nat} : ∀ (v : List Int) (l : Option Int), Vd specOk r l v → ¬ Vd implOk r l v → (∃ a b y, l = some a ∧ v = b :: y ∧ b + 2 ≤ a) ∨ ∃ x a b y, v = x ++ a :: b :: y ∧ b + 2 ≤ a
  | [], _, _, h => absurd trivial h
  | i :: v, l, hs, h => by
    by_cases h1 : ∀ a, l = some a → implOk a i = true
    · by_cases h2 : Vd implOk r (some i) v
      · exact absurd ⟨hs.1, h1, h2⟩ h
      · rcases Vd.wrong v (some i) hs.2.2 h2 with ⟨a, b, y, e1, e2, h3⟩ | ⟨x, a, b, y, e, h3⟩
        · cases e1; subst e2; exact .inr ⟨[], i, b, y, rfl, h3⟩
        · subst e; exact .inr ⟨i :: x, a, b, y, rfl, h3⟩
    · refine .inl ?_
      refine Classical.byContradiction fun hn => h1 fun a e => ?_
      have hsp := hs.2.1 a e
      unfold implOk
      unfold specOk at hsp
      have hai : ¬ a = i := by simpa using hsp
      have hlt : ¬ i < a - 1 := fun hlt => hn ⟨a, i, v, e, rfl, by omega⟩
      have hia : ¬ i = a := fun e => hai e.symm
      simp [hia, hlt]
section
variable {ms ks : List (List Int)}
theorem run_app (ms : List (List Int)) (x y : List Int) (f : Int) : run ms (x ++ y) f = run ms y (run ms x f) := by simp [run, List.foldl_append]
theorem run_swap (hm : IsMan ms) {x y : List Int} {a b : Int} (hr : ∀ z ∈ x ++ a :: b :: y, 0 ≤ z ∧ z < ms.length) (hab : b + 2 ≤ a) {f : Int} (hf : 0 ≤ f ∧ f < nf ms) : run ms (x ++ b :: a :: y) f = run ms (x ++ a :: b :: y) f := by
  have ha := hr a (by simp)
  have hb := hr b (by simp)
  have hx := run_rng hm.syst x (fun z hz => hr z (List.mem_append_left _ hz)) f hf
  rw [run_app, run_app]
  show run ms y (gi (gr ms a) (gi (gr ms b) (run ms x f))) = run ms y (gi (gr ms b) (gi (gr ms a) (run ms x f)))
  obtain ⟨p, rfl⟩ : ∃ p : Nat, a = p := ⟨a.toNat, by omega⟩
  obtain ⟨q, rfl⟩ : ∃ q : Nat, b = q := ⟨b.toNat, by omega⟩
  rw [(hm.like.far q p (by omega) (by omega) _ hx).1]
theorem run_drop (hm : IsMan ms) {x y : List Int} {a : Int} (hr : ∀ z ∈ x ++ a :: a :: y, 0 ≤ z ∧ z < ms.length) {f : Int} (hf : 0 ≤ f ∧ f < nf ms) : run ms (x ++ a :: a :: y) f = run ms (x ++ y) f := by
  have ha := hr a (by simp)
  have hx := run_rng hm.syst x (fun z hz => hr z (List.mem_append_left _ hz)) f hf
  rw [run_app, run_app]
  show run ms y (gi (gr ms a) (gi (gr ms a) (run ms x f))) = run ms y (run ms x f)
  obtain ⟨p, rfl⟩ : ∃ p : Nat, a = p := ⟨a.toNat, by omega⟩
  rw [hm.m0.twice (gr_in (by omega)) hx]
theorem still_of_run {v w : List Int} (h : ∀ f : Int, 0 ≤ f ∧ f < nf ms → run ms v f = run ms w f) : Still ms v ↔ Still ms w := by
  unfold Still
  constructor
  · intro hs f hf; rw [← h f (by omega)]; exact hs f hf
  · intro hs f hf; rw [h f (by omega)]; exact hs f hf
/-- the word does nothing on the one, but not on the other one -/
noncomputable def goodB (ms ks : List (List Int)) (w : List Int) : Bool := decide (Still ms w) && !decide (Still ks w)
theorem good_of {v w : List Int} (h1 : Still ms v ↔ Still ms w) (h2 : Still ks v ↔ Still ks w) : goodB ms ks v = goodB ms ks w := by
  unfold goodB
  rw [decide_eq_decide.2 h1, decide_eq_decide.2 h2]
theorem good_nil (ms ks : List (List Int)) : goodB ms ks [] = false := by
  have : Still ks [] := fun f hf => rfl
  unfold goodB
  rw [decide_eq_true this]; simp
/-- a good word gives a good one without equal moves side by side, that is not longer -/
theorem good_reduce (hm : IsMan ms) (hk : IsMan ks) (hl : ms.length = ks.length) : ∀ (n : Nat) (w : List Int), w.length ≤ n → (∀ x ∈ w, 0 ≤ x ∧ x < ms.length) → goodB ms ks w = true → ∃ w', w'.length ≤ w.length ∧ Vd specOk ms.length none w' ∧ goodB ms ks w' = true
  | 0, w, hn, _, hg => by
    have : w = [] := List.length_eq_zero_iff.1 (by omega)
    subst this; rw [good_nil] at hg; simp at hg
  | n + 1, w, hn, hr, hg => by
    by_cases hv : Vd specOk ms.length none w
    · exact ⟨w, Nat.le_refl _, hv, hg⟩
    · rcases Vd.twice w none hr hv with ⟨a, y, e, _⟩ | ⟨x, a, y, rfl⟩
      · cases e
      · have e : goodB ms ks (x ++ y) = true := by
          rw [← hg]
          exact (good_of (still_of_run fun f hf => run_drop hm hr hf) (still_of_run fun f hf => run_drop hk (fun z hz => by rw [← hl]; exact hr z hz) hf)).symm
        obtain ⟨w', h1, h2, h3⟩ := good_reduce hm hk hl n (x ++ y) (by simp at hn ⊢; omega) (fun z hz => hr z (by
          rcases List.mem_append.1 hz with h | h
          · exact List.mem_append_left _ h
          · exact List.mem_append_right _ (by simp [h]))) e
        exact ⟨w', by simp at h1 ⊢; omega, h2, h3⟩
theorem implOk_spec (a i : Int) (h : implOk a i = true) : specOk a i = true := by
  unfold implOk at h
  unfold specOk
  simp at h ⊢
  omega
/-- pruned and plain search find the same word, if there is no shorter one -/
theorem try_same (hm : IsMan ms) (hk : IsMan ks) (hl : ms.length = ks.length) {L : Nat} (h0 : ∀ j, 1 ≤ j → j < L → tryW specOk ms.length (goodB ms ks) [] j = none) :
    tryW implOk ms.length (goodB ms ks) [] L = tryW specOk ms.length (goodB ms ks) [] L := by
  cases hs : tryW specOk ms.length (goodB ms ks) [] L with
  | none =>
    cases hi : tryW implOk ms.length (goodB ms ks) [] L with
    | none => rfl
    | some u =>
      obtain ⟨v, e, h1, h2, h3, _⟩ := try_some L [] u hi
      simp at e; subst e
      have := try_none L [] hs u h1 (Vd.sub implOk_spec u _ h2)
      simp at this; rw [this] at h3; simp at h3
  | some u =>
    obtain ⟨v, e, h1, h2, h3, hmin⟩ := try_some L [] u hs
    simp at e; subst e
    have hv : Vd implOk ms.length none u := by
      refine Classical.byContradiction fun hn => ?_
      rcases Vd.wrong u none h2 hn with ⟨a, b, y, e, _⟩ | ⟨x, a, b, y, rfl, hab⟩
      · cases e
      · have hr := h2.rng
        have hg : goodB ms ks (x ++ b :: a :: y) = true := by
          rw [← h3]
          exact good_of (still_of_run fun f hf => run_swap hm hr hab hf) (still_of_run fun f hf => run_swap hk (fun z hz => by rw [← hl]; exact hr z hz) hab hf)
        have hr' : ∀ z ∈ x ++ b :: a :: y, 0 ≤ z ∧ z < ms.length := fun z hz => hr z (by
          simp only [List.mem_append, List.mem_cons] at hz ⊢
          rcases hz with h | h | h | h
          · exact .inl h
          · exact .inr (.inr (.inl h))
          · exact .inr (.inl h)
          · exact .inr (.inr (.inr h)))
        have hlen : (x ++ b :: a :: y).length = L := by simpa using h1
        by_cases hvd : Vd specOk ms.length none (x ++ b :: a :: y)
        · have hless : lessL (x ++ b :: a :: y) (x ++ a :: b :: y) = true := by
            show lexL ltI _ _ = true
            rw [lexL_app]
            show (if b = a then _ else ltI b a) = true
            rw [if_neg (by omega)]
            exact decide_eq_true (by omega)
          have := hmin _ hlen hvd hless
          simp at this; rw [this] at hg; simp at hg
        · rcases Vd.twice _ none hr' hvd with ⟨c, z, e, _⟩ | ⟨x2, c, y2, e⟩
          · cases e
          · have hg2 : goodB ms ks (x2 ++ y2) = true := by
              rw [e] at hg hr'
              rw [← hg]
              exact (good_of (still_of_run fun f hf => run_drop hm hr' hf) (still_of_run fun f hf => run_drop hk (fun z hz => by rw [← hl]; exact hr' z hz) hf)).symm
            rw [e] at hr' hlen
            obtain ⟨w', g1, g2, g3⟩ := good_reduce hm hk hl _ (x2 ++ y2) (Nat.le_refl _) (fun z hz => hr' z (by
              rcases List.mem_append.1 hz with h | h
              · exact List.mem_append_left _ h
              · exact List.mem_append_right _ (by simp [h]))) hg2
            have hpos : 1 ≤ w'.length := by
              rcases Nat.eq_zero_or_pos w'.length with h | h
              · have : w' = [] := List.length_eq_zero_iff.1 h
                subst this; rw [good_nil] at g3; simp at g3
              · exact h
            have := try_none _ [] (h0 w'.length hpos (by simp at g1 hlen; omega)) w' rfl g2
            simp at this; rw [this] at g3; simp at g3
    cases hi : tryW implOk ms.length (goodB ms ks) [] L with
    | none =>
      have := try_none L [] hi u h1 hv
      simp at this; rw [this] at h3; simp at h3
    | some u' =>
      obtain ⟨v', e', i1, i2, i3, imin⟩ := try_some L [] u' hi
      simp at e'; subst e'
      by_cases heq : u' = u
      · rw [heq]
      · rcases lessL_total u' u heq with hlt | hlt
        · have := hmin u' i1 (Vd.sub implOk_spec u' _ i2) hlt
          simp at this; rw [this] at i3; simp at i3
        · have := imin u h1 hv hlt
          simp at this; rw [this] at h3; simp at h3
/-- the first length at which there is one -/
noncomputable def firstW (ms ks : List (List Int)) (n : Nat) : Option (List Int) := (List.range n).findSome? fun j : Nat => tryW specOk ms.length (goodB ms ks) [] (j + 1)
noncomputable def fnC (ms ks : List (List Int)) (n : Int) : Int := if IsMan ms ∧ IsMan ks then (if 0 ≤ n ∧ n ≤ 12 then (if ms.length = ks.length then (if (firstW ms ks n.toNat).isSome then 0 else 4) else 5) else 2) else 1
noncomputable def fnL (ms ks : List (List Int)) (n : Int) : List Int := if fnC ms ks n = 0 then (firstW ms ks n.toNat).getD [] else []
variable {n : Int}
theorem fn_1 (h : ¬ (IsMan ms ∧ IsMan ks)) : fnL ms ks n = [] ∧ fnC ms ks n = 1 := by
  have e : fnC ms ks n = 1 := if_neg h
  exact ⟨if_neg (by rw [e]; decide), e⟩
theorem fn_2 (hm : IsMan ms) (hk : IsMan ks) (h : ¬ (0 ≤ n ∧ n ≤ 12)) : fnL ms ks n = [] ∧ fnC ms ks n = 2 := by
  have e : fnC ms ks n = 2 := by unfold fnC; rw [if_pos ⟨hm, hk⟩, if_neg h]
  exact ⟨if_neg (by rw [e]; decide), e⟩
theorem fn_3 (hm : IsMan ms) (hk : IsMan ks) (h : 0 ≤ n ∧ n ≤ 12) (h2 : ¬ ms.length = ks.length) : fnL ms ks n = [] ∧ fnC ms ks n = 5 := by
  have e : fnC ms ks n = 5 := by unfold fnC; rw [if_pos ⟨hm, hk⟩, if_pos h, if_neg h2]
  exact ⟨if_neg (by rw [e]; decide), e⟩
theorem fn_4 (hm : IsMan ms) (hk : IsMan ks) (h : 0 ≤ n ∧ n ≤ 12) (h2 : ms.length = ks.length) (h3 : firstW ms ks n.toNat = none) : fnL ms ks n = [] ∧ fnC ms ks n = 4 := by
  have e : fnC ms ks n = 4 := by unfold fnC; rw [if_pos ⟨hm, hk⟩, if_pos h, if_pos h2, h3]; rfl
  exact ⟨if_neg (by rw [e]; decide), e⟩
theorem fn_5 (hm : IsMan ms) (hk : IsMan ks) (h : 0 ≤ n ∧ n ≤ 12) (h2 : ms.length = ks.length) {u : List Int} (h3 : firstW ms ks n.toNat = some u) : fnL ms ks n = u ∧ fnC ms ks n = 0 := by
  have e : fnC ms ks n = 0 := by unfold fnC; rw [if_pos ⟨hm, hk⟩, if_pos h, if_pos h2, h3]; rfl
  exact ⟨by unfold fnL; rw [if_pos e, h3]; rfl, e⟩
theorem firstW_len {N : Nat} {u : List Int} (h : firstW ms ks N = some u) : 1 ≤ u.length ∧ u.length ≤ N := by
  obtain ⟨j, hj, h1, _⟩ := findSome_some h
  obtain ⟨v, e, h2, _⟩ := try_some _ _ _ h1
  simp at e; subst e
  omega
theorem fnL_len (ms ks : List (List Int)) (n : Int) : (fnL ms ks n).length ≤ 4000000000000000000 := by
  unfold fnL
  split
  · rename_i h
    cases hf : firstW ms ks n.toNat with
    | none => simp
    | some u =>
      have := firstW_len hf
      have hn : 0 ≤ n ∧ n ≤ 12 := by
        refine Classical.byContradiction fun hb => ?_
        by_cases hmk : IsMan ms ∧ IsMan ks
        · rw [(fn_2 hmk.1 hmk.2 hb).2] at h; exact absurd h (by decide)
        · rw [(fn_1 hmk).2] at h; exact absurd h (by decide)
      simp; omega
  · simp
end
end Go.Mem
