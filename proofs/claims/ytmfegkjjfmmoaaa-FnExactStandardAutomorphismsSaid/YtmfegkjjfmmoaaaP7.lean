/- Plain words on lists: the map that gives the flag 0 a flag, and agrees with the moves. No program in sight. -/
import Derived.Test.YtmfegkjjfmmoaaaP6
namespace Go.Mem
abbrev MapSt := Option (List Int × List Int)
def mapStep (s : MapSt) (a : Int × Int) : MapSt :=
  match s with
  | none => none
  | some (o, r) => if gi o a.1 < 0 then some (seti o a.1 a.2, r ++ [a.1]) else if gi o a.1 = a.2 then some (o, r) else none
def pairs (ms ks : List (List Int)) (o : List Int) (f : Int) : List (Int × Int) := (List.range ms.length).map fun j : Nat => (gi (gr ms j) f, gi (gr ks j) (gi o f))
def mapRow (ms ks : List (List Int)) (o r : List Int) (f : Int) : MapSt := (pairs ms ks o f).foldl mapStep (some (o, r))
def mbfs (ms ks : List (List Int)) (flag : Int) : Nat → MapSt
  | 0 => some (seti (List.replicate (nf ms) (-1)) 0 flag, [0])
  | i + 1 => match mbfs ms ks flag i with
    | none => none
    | some (o, r) => if i < r.length then mapRow ms ks o r (gi r i) else some (o, r)
/-- The map that gives the flag 0 a flag, and agrees with the moves, if there is one. -/
def mapTo (ms ks : List (List Int)) (flag : Int) : Option (List Int) := (mbfs ms ks flag 1000).map (·.1)

section
variable {ms ks : List (List Int)} {flag : Int} {o r o' r' : List Int} {i j : Nat}
theorem foldl_none (l : List (Int × Int)) : l.foldl mapStep none = none := by
  induction l with
  | nil => rfl
  | cons a l ih => simpa [List.foldl, mapStep] using ih
theorem mbfs_stable (h : mbfs ms ks flag i = some (o, r)) (hl : r.length ≤ i) : ∀ d, mbfs ms ks flag (i + d) = some (o, r)
  | 0 => h
  | d + 1 => by
    have ih := mbfs_stable h hl d
    show (match mbfs ms ks flag (i + d) with | none => none | some (o, r) => _) = _
    rw [ih]
    show (if i + d < r.length then _ else _) = _
    rw [if_neg (by omega)]
theorem mbfs_none (h : mbfs ms ks flag i = none) : ∀ d, mbfs ms ks flag (i + d) = none
  | 0 => h
  | d + 1 => by
    have ih := mbfs_none h d
    show (match mbfs ms ks flag (i + d) with | none => none | some (o, r) => _) = _
    rw [ih]
theorem mapTo_some (h : mbfs ms ks flag i = some (o, r)) (hl : r.length ≤ i) (hi : i ≤ 1000) : mapTo ms ks flag = some o := by
  have := mbfs_stable h hl (1000 - i)
  rw [show i + (1000 - i) = 1000 by omega] at this
  simp [mapTo, this]
theorem mapTo_none (h : mbfs ms ks flag i = none) (hi : i ≤ 1000) : mapTo ms ks flag = none := by
  have := mbfs_none h (1000 - i)
  rw [show i + (1000 - i) = 1000 by omega] at this
  simp [mapTo, this]
theorem mbfs_succ (h : mbfs ms ks flag i = some (o, r)) (hl : i < r.length) : mbfs ms ks flag (i + 1) = mapRow ms ks o r (gi r i) := by
  show (match mbfs ms ks flag i with | none => none | some (o, r) => _) = _
  rw [h]
  show (if i < r.length then _ else _) = _
  rw [if_pos hl]

/-- on the way -/
structure Mp (n n2 : Nat) (o r : List Int) : Prop where
  len : o.length = n
  rng : ∀ x : Int, 0 ≤ x → x < n → -1 ≤ gi o x ∧ gi o x < n2
  rr : ∀ x ∈ r, 0 ≤ x ∧ x < n ∧ 0 ≤ gi o x
  cnt : r.length + negs o = n
theorem Mp.le {n n2 : Nat} (h : Mp n n2 o r) : r.length ≤ n := by have := h.cnt; omega
theorem negs_replicate : ∀ n : Nat, negs (List.replicate n (-1)) = n
  | 0 => rfl
  | n + 1 => by
    have := negs_replicate n
    simp [List.replicate_succ, negs, this]; omega
theorem Mp.start {n n2 : Nat} (hn : 1 ≤ n) (hf : 0 ≤ flag ∧ flag < n2) : Mp n n2 (seti (List.replicate n (-1)) 0 flag) [0] := by
  have g : ∀ x : Int, 0 ≤ x → x < n → gi (List.replicate n (-1 : Int)) x = -1 := fun x h0 hx => by
    have : x.toNat < n := by omega
    simp [gi, List.getD, this]
  have g' : ∀ x : Int, 0 ≤ x → x < n → gi (seti (List.replicate n (-1)) 0 flag) x = if x = 0 then flag else -1 := fun x h0 hx => by
    rw [gi_seti _ _ _ _ (by omega) (by simp; omega) h0]
    split
    · rfl
    · exact g x h0 hx
  refine ⟨by simp, fun x h0 hx => ?_, fun x hx => ?_, ?_⟩
  · rw [g' x h0 hx]; split <;> omega
  · simp at hx; subst hx; refine ⟨by omega, by omega, ?_⟩; rw [g' 0 (by omega) (by omega), if_pos rfl]; exact hf.1
  · have := negs_seti (L := List.replicate n (-1)) (j := 0) (c := flag) (by omega) (by simp; omega) (by rw [g 0 (by omega) (by omega)]; omega) hf.1
    rw [negs_replicate] at this
    simp; omega
theorem Mp.push {n n2 : Nat} (h : Mp n n2 o r) {x y : Int} (hx : 0 ≤ x ∧ x < n) (hy : 0 ≤ y ∧ y < n2) (hn : gi o x < 0) : Mp n n2 (seti o x y) (r ++ [x]) := by
  have hl := h.len
  have g : ∀ z : Int, 0 ≤ z → gi (seti o x y) z = if z = x then y else gi o z := fun z h0 => gi_seti _ _ _ _ hx.1 (by omega) h0
  refine ⟨by simp [hl], fun z h0 hz => ?_, fun z hz => ?_, ?_⟩
  · rw [g z h0]
    split
    · omega
    · exact h.rng z h0 hz
  · rcases List.mem_append.1 hz with hz | hz
    · obtain ⟨a, b, c⟩ := h.rr z hz
      refine ⟨a, b, ?_⟩
      rw [g z a]; split <;> omega
    · simp at hz; subst hz; refine ⟨hx.1, hx.2, ?_⟩; rw [g z hx.1, if_pos rfl]; exact hy.1
  · have := negs_seti (L := o) (j := x) (c := y) hx.1 (by omega) hn hy.1
    have := h.cnt
    simp; omega

/-- the first j images of f are laid -/
structure Row (ms ks : List (List Int)) (o r : List Int) (f : Int) (j : Nat) (o' r' : List Int) : Prop where
  eq : ((pairs ms ks o f).take j).foldl mapStep (some (o, r)) = some (o', r')
  same : gi o' f = gi o f
  pre : ∃ e, r' = r ++ e
theorem length_pairs (ms ks : List (List Int)) (o : List Int) (f : Int) : (pairs ms ks o f).length = ms.length := by simp [pairs]
theorem pairs_take {f : Int} (hj : j < ms.length) : (pairs ms ks o f).take (j + 1) = (pairs ms ks o f).take j ++ [(gi (gr ms j) f, gi (gr ks j) (gi o f))] := by
  rw [List.take_succ_eq_append_getElem (by rw [length_pairs]; exact hj)]
  simp [pairs]
theorem Row.start (ms ks : List (List Int)) (o r : List Int) (f : Int) : Row ms ks o r f 0 o r := ⟨by simp, rfl, [], by simp⟩
theorem Row.push {f : Int} (h : Row ms ks o r f j o' r') (hj : j < ms.length) (hf : 0 ≤ f) (hfm : 0 ≤ gi o f) (hx : 0 ≤ gi (gr ms j) f ∧ gi (gr ms j) f < o'.length) (hn : gi o' (gi (gr ms j) f) < 0) :
    Row ms ks o r f (j + 1) (seti o' (gi (gr ms j) f) (gi (gr ks j) (gi o' f))) (r' ++ [gi (gr ms j) f]) := by
  have hs := h.same
  refine ⟨?_, ?_, ?_⟩
  · rw [pairs_take hj, List.foldl_append, h.eq]
    simp only [List.foldl, mapStep]
    rw [if_pos hn, hs]
  · rw [gi_seti _ _ _ _ hx.1 hx.2 hf]
    split
    · rename_i e; rw [← e, hs] at hn; omega
    · exact hs
  · obtain ⟨e, he⟩ := h.pre
    exact ⟨e ++ [gi (gr ms j) f], by rw [he, List.append_assoc]⟩
theorem Row.hit {f : Int} (h : Row ms ks o r f j o' r') (hj : j < ms.length) (hn : ¬ gi o' (gi (gr ms j) f) < 0) (he : ¬ gi o' (gi (gr ms j) f) ≠ gi (gr ks j) (gi o' f)) : Row ms ks o r f (j + 1) o' r' := by
  have hs := h.same
  refine ⟨?_, hs, h.pre⟩
  rw [pairs_take hj, List.foldl_append, h.eq]
  simp only [List.foldl, mapStep]
  rw [if_neg hn, if_pos (by rw [← hs]; exact Decidable.not_not.1 he)]
theorem Row.fail {f : Int} (h : Row ms ks o r f j o' r') (hj : j < ms.length) (hn : ¬ gi o' (gi (gr ms j) f) < 0) (he : gi o' (gi (gr ms j) f) ≠ gi (gr ks j) (gi o' f)) : mapRow ms ks o r f = none := by
  have hs := h.same
  unfold mapRow
  rw [← List.take_append_drop (j + 1) (pairs ms ks o f), List.foldl_append, pairs_take hj, List.foldl_append, h.eq]
  simp only [List.foldl, mapStep]
  rw [if_neg hn, if_neg (by rw [← hs]; exact he)]
  exact foldl_none _
theorem Row.done {f : Int} (h : Row ms ks o r f ms.length o' r') : mapRow ms ks o r f = some (o', r') := by
  unfold mapRow
  have := h.eq
  rwa [List.take_of_length_le (by rw [length_pairs]; exact Nat.le_refl _)] at this
theorem gi_pre {e : List Int} (h : i < r.length) : gi (r ++ e) i = gi r i := gi_append_left (by omega) (by omega)
end

/-- The covering that gives the flag 0 a flag. -/
def mapT (ms ks : List (List Int)) (flag : Int) : Option (List Int) := if ms.length = ks.length then mapTo ms ks flag else none
/-- All coverings, in the order of what they give the flag 0. -/
def covers (ms ks : List (List Int)) (n : Nat) : List (List Int) := (List.range n).filterMap fun f : Nat => mapT ms ks f
theorem covers_zero (ms ks : List (List Int)) : covers ms ks 0 = [] := rfl
theorem covers_some {ms ks : List (List Int)} {n : Nat} {p : List Int} (h : mapT ms ks n = some p) : covers ms ks (n + 1) = covers ms ks n ++ [p] := by
  unfold covers
  rw [List.range_succ, List.filterMap_append, List.filterMap_cons, h]
  rfl
theorem covers_none {ms ks : List (List Int)} {n : Nat} (h : mapT ms ks n = none) : covers ms ks (n + 1) = covers ms ks n := by
  unfold covers
  rw [List.range_succ, List.filterMap_append, List.filterMap_cons, h]
  simp
theorem covers_le (ms ks : List (List Int)) (n : Nat) : (covers ms ks n).length ≤ n := by
  unfold covers
  have := List.length_filterMap_le (fun f : Nat => mapT ms ks f) (List.range n)
  simpa using this
theorem covers_pre (ms ks : List (List Int)) (n d : Nat) : ∃ e, covers ms ks (n + d) = covers ms ks n ++ e := by
  induction d with
  | zero => exact ⟨[], by simp⟩
  | succ d ih =>
    obtain ⟨e, he⟩ := ih
    cases h : mapT ms ks (n + d : Nat) with
    | none => exact ⟨e, by rw [show n + (d + 1) = (n + d) + 1 from rfl, covers_none h, he]⟩
    | some p => exact ⟨e ++ [p], by rw [show n + (d + 1) = (n + d) + 1 from rfl, covers_some h, he, List.append_assoc]⟩
/-- The first isomorphism. -/
def isoOf (ms ks : List (List Int)) : Option (List Int) := if nf ms = nf ks then (covers ms ks (nf ks)).head? else none
theorem covers_far {ms ks : List (List Int)} (h : ms.length ≠ ks.length) : ∀ n, covers ms ks n = []
  | 0 => rfl
  | n + 1 => by rw [covers_none (by unfold mapT; rw [if_neg h]), covers_far h n]
theorem isoOf_far {ms ks : List (List Int)} (h : ¬ (ms.length = ks.length ∧ nf ms = nf ks)) : isoOf ms ks = none := by
  unfold isoOf
  split
  · rename_i e
    rw [covers_far (fun e' => h ⟨e', e⟩)]
    rfl
  · rfl
theorem isoOf_hit {ms ks : List (List Int)} (h : nf ms = nf ks) {f : Nat} (hf : f < nf ks) {p : List Int} (h0 : covers ms ks f = []) (hp : mapT ms ks f = some p) : isoOf ms ks = some p := by
  unfold isoOf
  rw [if_pos h]
  obtain ⟨e, he⟩ := covers_pre ms ks (f + 1) (nf ks - (f + 1))
  rw [show f + 1 + (nf ks - (f + 1)) = nf ks by omega] at he
  rw [he, covers_some hp, h0]
  rfl
theorem isoOf_miss {ms ks : List (List Int)} (h0 : covers ms ks (nf ks) = []) : isoOf ms ks = none := by
  unfold isoOf
  rw [h0]
  split <;> rfl
end Go.Mem
