/- Plain words on lists: what the functions on automorphisms and coverings come to. No program in sight. -/
import Derived.Test.YtmfegkjjfmmoaaaP12
import Derived.Test.YtmfegkjjfmmoaaaP10
namespace Go.Mem
/-- the code of a maniplex -/
noncomputable def manC (ms : List (List Int)) : Int := if IsMan ms then 0 else 1
theorem manC_yes {ms : List (List Int)} (h : IsMan ms) : manC ms = 0 := if_pos h
theorem manC_no {ms : List (List Int)} (h : ¬ IsMan ms) : manC ms = 1 := if_neg h
section
variable {ms ks : List (List Int)} {f : Int}
theorem mapT_self : mapT ms ms f = mapTo ms ms f := if_pos rfl
theorem opt_len {o : Option (List Int)} {n : Nat} (h : ∀ p, o = some p → p.length ≤ n) : (o.getD []).length ≤ n := by
  cases o with
  | none => simp
  | some p => exact h p rfl

noncomputable def autTo (ms : List (List Int)) (f : Int) : List Int := if IsMan ms ∧ 0 ≤ f ∧ f < nf ms then (mapTo ms ms f).getD [] else []
noncomputable def autToC (ms : List (List Int)) (f : Int) : Int := if IsMan ms then (if 0 ≤ f ∧ f < nf ms then (if (mapTo ms ms f).isSome then 0 else 4) else 2) else 1
theorem autTo_1 (h : ¬ IsMan ms) : autTo ms f = [] ∧ autToC ms f = 1 := ⟨if_neg fun h' => h h'.1, if_neg h⟩
theorem autTo_2 (hm : IsMan ms) (h : ¬ (0 ≤ f ∧ f < nf ms)) : autTo ms f = [] ∧ autToC ms f = 2 := ⟨if_neg fun h' => h h'.2, by unfold autToC; rw [if_pos hm, if_neg h]⟩
theorem autTo_3 (hm : IsMan ms) (h : 0 ≤ f ∧ f < nf ms) (e : (mapTo ms ms f).isSome = false) : autTo ms f = [] ∧ autToC ms f = 4 := by
  constructor
  · unfold autTo; rw [if_pos ⟨hm, h⟩]; rw [Option.isSome_eq_false_iff, Option.isNone_iff_eq_none] at e; rw [e]; rfl
  · unfold autToC; rw [if_pos hm, if_pos h, e]; rfl
theorem autTo_4 (hm : IsMan ms) (h : 0 ≤ f ∧ f < nf ms) (e : (mapTo ms ms f).isSome = true) : autTo ms f = (mapTo ms ms f).getD [] ∧ autToC ms f = 0 := by
  constructor
  · unfold autTo; rw [if_pos ⟨hm, h⟩]
  · unfold autToC; rw [if_pos hm, if_pos h, e]; rfl
theorem autTo_len (ms : List (List Int)) (f : Int) : (autTo ms f).length ≤ 4000000000000000000 := by
  unfold autTo
  split
  · rename_i h
    have := h.1.m0.f400
    have := opt_len (o := mapTo ms ms f) (n := nf ms) fun p hp => by rw [mapTo_len hp]; exact Nat.le_refl _
    omega
  · simp

noncomputable def autAll (ms : List (List Int)) : List (List Int) := if IsMan ms then auts ms else []
theorem autAll_yes (h : IsMan ms) : autAll ms = auts ms := if_pos h
theorem autAll_no (h : ¬ IsMan ms) : autAll ms = [] := if_neg h
theorem rows_tot {n : Nat} {xss : List (List Int)} (hl : xss.length ≤ n) (h : ∀ xs ∈ xss, xs.length ≤ n) (hn : n ≤ 1000000) : 1 + tot xss ≤ 4000000000000000000 := by
  have h1 := tot_le (xss := xss) (c := n) fun xs hx => by have := h xs hx; omega
  have h2 : (xss.length : Int) * n ≤ n * n := Int.mul_le_mul_of_nonneg_right (by omega) (by omega)
  have h3 : (n : Int) * n ≤ 1000000 * n := Int.mul_le_mul_of_nonneg_right (by omega) (by omega)
  omega
theorem autAll_len (ms : List (List Int)) : 1 + tot (autAll ms) ≤ 4000000000000000000 := by
  unfold autAll
  split
  · rename_i h
    have h4 := h.m0.f400
    exact rows_tot (n := nf ms) (covers_le _ _ _) (fun xs hx => by obtain ⟨f, _, e⟩ := covers_mem hx; rw [mapT_len e]; exact Nat.le_refl _) (by omega)
  · simp [tot]

noncomputable def covOf (ms ks : List (List Int)) : List Int := if IsMan ms ∧ IsMan ks then ((covers ms ks (nf ks)).head?).getD [] else []
noncomputable def covOfC (ms ks : List (List Int)) : Int := if IsMan ms ∧ IsMan ks then (if (covers ms ks (nf ks)).length = 0 then 4 else 0) else 1
theorem covOf_1 (h : ¬ (IsMan ms ∧ IsMan ks)) : covOf ms ks = [] ∧ covOfC ms ks = 1 := ⟨if_neg h, if_neg h⟩
theorem covOf_2 (hm : IsMan ms) (hk : IsMan ks) (h : (covers ms ks (nf ks)).length = 0) : covOf ms ks = [] ∧ covOfC ms ks = 4 := by
  constructor
  · unfold covOf; rw [if_pos ⟨hm, hk⟩, List.length_eq_zero_iff.1 h]; rfl
  · unfold covOfC; rw [if_pos ⟨hm, hk⟩, if_pos h]
theorem covOf_3 (hm : IsMan ms) (hk : IsMan ks) (h : ¬ (covers ms ks (nf ks)).length = 0) : covOf ms ks = gr (covers ms ks (nf ks)) 0 ∧ covOfC ms ks = 0 := by
  constructor
  · unfold covOf; rw [if_pos ⟨hm, hk⟩]
    cases covers ms ks (nf ks) <;> rfl
  · unfold covOfC; rw [if_pos ⟨hm, hk⟩, if_neg h]
theorem covOf_len (ms ks : List (List Int)) : (covOf ms ks).length ≤ 4000000000000000000 := by
  unfold covOf
  split
  · rename_i h
    have := h.1.m0.f400
    have := opt_len (o := (covers ms ks (nf ks)).head?) (n := nf ms) fun p hp => by
      have hx : p ∈ covers ms ks (nf ks) := List.mem_of_mem_head? hp
      obtain ⟨f, _, e⟩ := covers_mem hx; rw [mapT_len e]; exact Nat.le_refl _
    omega
  · simp

noncomputable def isoTo (ms ks : List (List Int)) : List Int := if IsMan ms ∧ IsMan ks then (isoOf ms ks).getD [] else []
noncomputable def isoToC (ms ks : List (List Int)) : Int := if IsMan ms ∧ IsMan ks then (if (isoOf ms ks).isSome then 0 else 4) else 1
theorem isoTo_1 (h : ¬ (IsMan ms ∧ IsMan ks)) : isoTo ms ks = [] ∧ isoToC ms ks = 1 := ⟨if_neg h, if_neg h⟩
theorem isoTo_2 (hm : IsMan ms) (hk : IsMan ks) (e : (isoOf ms ks).isSome = false) : isoTo ms ks = [] ∧ isoToC ms ks = 4 := by
  constructor
  · unfold isoTo; rw [if_pos ⟨hm, hk⟩]; rw [Option.isSome_eq_false_iff, Option.isNone_iff_eq_none] at e; rw [e]; rfl
  · unfold isoToC; rw [if_pos ⟨hm, hk⟩, e]; rfl
theorem isoTo_3 (hm : IsMan ms) (hk : IsMan ks) (e : (isoOf ms ks).isSome = true) : isoTo ms ks = (isoOf ms ks).getD [] ∧ isoToC ms ks = 0 := by
  constructor
  · unfold isoTo; rw [if_pos ⟨hm, hk⟩]
  · unfold isoToC; rw [if_pos ⟨hm, hk⟩, e]; rfl
theorem isoTo_len (ms ks : List (List Int)) : (isoTo ms ks).length ≤ 4000000000000000000 := by
  unfold isoTo
  split
  · rename_i h
    have := h.1.m0.f400
    have := opt_len (o := isoOf ms ks) (n := nf ms) fun p hp => by
      unfold isoOf at hp
      split at hp
      · have hx : p ∈ covers ms ks (nf ks) := List.mem_of_mem_head? hp
        obtain ⟨f, _, e⟩ := covers_mem hx; rw [mapT_len e]; exact Nat.le_refl _
      · simp at hp
    omega
  · simp

noncomputable def flagOrb (ms : List (List Int)) : List Int := if IsMan ms then labs (nf ms) (auts ms) else []
theorem flagOrb_yes (h : IsMan ms) : flagOrb ms = labs (nf ms) (auts ms) := if_pos h
theorem flagOrb_no (h : ¬ IsMan ms) : flagOrb ms = [] := if_neg h
theorem flagOrb_len (ms : List (List Int)) : (flagOrb ms).length ≤ 4000000000000000000 := by
  unfold flagOrb
  split
  · rename_i h
    have h4 := h.m0.f400
    rw [(labs_all (auts_sym h) (by omega)).len]; omega
  · simp
noncomputable def isReg (ms : List (List Int)) : Bool := if IsMan ms then decide (labc (nf ms) (auts ms) = 1) else false
theorem isReg_yes (h : IsMan ms) : isReg ms = decide (labc (nf ms) (auts ms) = 1) := if_pos h
theorem isReg_no (h : ¬ IsMan ms) : isReg ms = false := if_neg h
theorem isReg_cnt (h : IsMan ms) : isReg ms = decide (((auts ms).length : Int) = (nf ms : Int)) := by
  rw [isReg_yes h, decide_eq_decide, ← regular_iff h]
  omega
theorem auts_le (h : IsMan ms) : (auts ms).length ≤ 400 := by
  have := covers_le ms ms (nf ms)
  have := h.m0.f400
  unfold auts; omega
end
end Go.Mem
