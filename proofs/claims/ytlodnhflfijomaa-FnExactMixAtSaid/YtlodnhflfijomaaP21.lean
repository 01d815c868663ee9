/- Plain words on lists: reaching all flags from the flag 0, with a value for each; colourings. No program in sight. -/
import Derived.Test.YtlodnhflfijomaaPB
namespace Go.Mem
set_option linter.unusedVariables false
section
/-- on the way: the points r have values; those before i are done, of that at i the first j moves are -/
structure Bf (ms : List (List Int)) (n2 : Nat) (E S : Int → Int → Prop) (o r : List Int) (i j : Nat) : Prop where
  mp : Mp (nf ms) n2 o r
  mem : ∀ x : Int, 0 ≤ x → x < nf ms → 0 ≤ gi o x → x ∈ r
  z : (0 : Int) ∈ r
  snd : ∀ x ∈ r, S x (gi o x)
  bnd : ∀ x ∈ r, gi o x ≤ r.length
  done : ∀ k : Nat, k < i → k < r.length → ∀ q : Nat, q < ms.length → 0 ≤ gi o (gi (gr ms q) (gi r k)) ∧ E (gi o (gi r k)) (gi o (gi (gr ms q) (gi r k)))
  now : ∀ q : Nat, q < j → 0 ≤ gi o (gi (gr ms q) (gi r i)) ∧ E (gi o (gi r i)) (gi o (gi (gr ms q) (gi r i)))
variable {ms : List (List Int)} {n2 : Nat} {E E' S : Int → Int → Prop} {o r : List Int} {i j : Nat}
theorem Bf.start (hm : IsMan ms) {a : Int} (ha : 0 ≤ a ∧ a < n2) (ha1 : a ≤ 1) (hS : S 0 a) : Bf ms n2 E S (seti (List.replicate (nf ms) (-1)) 0 a) [0] 0 0 := by
  have h2 := hm.m0.f2
  have g : ∀ x : Int, 0 ≤ x → x < nf ms → gi (seti (List.replicate (nf ms) (-1)) 0 a) x = if x = 0 then a else -1 := fun x h0 hx => by
    rw [gi_seti _ _ _ _ (by omega) (by simp; omega) h0]
    split
    · rfl
    · have : x.toNat < nf ms := by omega
      simp [gi, List.getD, this]
  have g0 : gi (seti (List.replicate (nf ms) (-1)) 0 a) 0 = a := by rw [g 0 (by omega) (by omega), if_pos rfl]
  refine ⟨Mp.start (by omega) ha, fun x h0 hx h => ?_, by simp, fun x hx => ?_, fun x hx => ?_, fun k hk => by omega, fun q hq => by omega⟩
  · rw [g x h0 hx] at h
    split at h
    · rename_i e; simp [e]
    · omega
  · simp at hx; subst hx; rw [g0]; exact hS
  · simp at hx; subst hx; rw [g0]; simpa using ha1
theorem Bf.weaken (h : Bf ms n2 E S o r i j) (hE : ∀ a b, E a b → E' a b) : Bf ms n2 E' S o r i j :=
  ⟨h.mp, h.mem, h.z, h.snd, h.bnd, fun k hk hr q hq => ⟨(h.done k hk hr q hq).1, hE _ _ (h.done k hk hr q hq).2⟩, fun q hq => ⟨(h.now q hq).1, hE _ _ (h.now q hq).2⟩⟩
theorem Bf.at (h : Bf ms n2 E S o r i j) (hi : i < r.length) : 0 ≤ gi r i ∧ gi r i < nf ms ∧ 0 ≤ gi o (gi r i) ∧ gi r i ∈ r := by
  have hx := h.mp.rr _ (gi_in (xs := r) (j := i) hi)
  exact ⟨hx.1, hx.2.1, hx.2.2, gi_in hi⟩
theorem Bf.push (h : Bf ms n2 E S o r i j) (hm : IsMan ms) (hi : i < r.length) (hj : j < ms.length) {y b : Int} (hy : y = gi (gr ms j) (gi r i)) (hn : gi o y < 0) (hb : 0 ≤ b ∧ b < n2) (hb2 : b ≤ r.length + 1)
    (hS : y ≠ 0 → S y b) (hE : E (gi o (gi r i)) b) : Bf ms n2 E S (seti o y b) (r ++ [y]) i (j + 1) := by
  have hx := h.at hi
  have hyr : 0 ≤ y ∧ y < nf ms := by rw [hy]; exact hm.syst.at (by omega) (by omega) ⟨hx.1, hx.2.1⟩
  have hol := h.mp.len
  have g : ∀ x : Int, 0 ≤ x → gi (seti o y b) x = if x = y then b else gi o x := fun x h0 => gi_seti _ _ _ _ hyr.1 (by omega) h0
  have ne : ∀ x : Int, 0 ≤ gi o x → x ≠ y := fun x h0 e => by subst e; omega
  have keep : ∀ x : Int, 0 ≤ x → 0 ≤ gi o x → gi (seti o y b) x = gi o x := fun x h0 h1 => by rw [g x h0, if_neg (ne x h1)]
  have hz := h.mp.rr _ h.z
  have hy0 : y ≠ 0 := fun e => ne 0 hz.2.2 e.symm
  have gy : gi (seti o y b) y = b := by rw [g y hyr.1, if_pos rfl]
  have pre : ∀ k : Nat, k < r.length → gi (r ++ [y]) k = gi r k := fun k hk => gi_append_left (by omega) (by omega)
  have row : ∀ q : Nat, q < ms.length → ∀ x : Int, 0 ≤ x ∧ x < nf ms → 0 ≤ gi (gr ms q) x := fun q hq x hx => (hm.syst.at (by omega) (by omega) hx).1
  refine ⟨h.mp.push hyr hb hn, fun x h0 hxl hx1 => ?_, List.mem_append_left _ h.z, fun x hxr => ?_, fun x hxr => ?_, fun k hk hkr q hq => ?_, fun q hq => ?_⟩
  · rw [g x h0] at hx1
    split at hx1
    · rename_i e; simp [e]
    · exact List.mem_append_left _ (h.mem x h0 hxl hx1)
  · rcases List.mem_append.1 hxr with hxr | hxr
    · have := h.mp.rr x hxr; rw [keep x this.1 this.2.2]; exact h.snd x hxr
    · simp at hxr; subst hxr; rw [gy]; exact hS hy0
  · rcases List.mem_append.1 hxr with hxr | hxr
    · have := h.mp.rr x hxr; rw [keep x this.1 this.2.2]; have := h.bnd x hxr; simp; omega
    · simp at hxr; subst hxr; rw [gy]; simp; omega
  · have hk' : k < r.length := by omega
    rw [pre k hk']
    have hxk := h.mp.rr _ (gi_in (xs := r) (j := k) hk')
    have hd := h.done k hk hk' q hq
    rw [keep _ hxk.1 hxk.2.2, keep _ (row q hq _ ⟨hxk.1, hxk.2.1⟩) hd.1]
    exact hd
  · rw [pre i hi, keep _ hx.1 hx.2.2.1]
    by_cases hqj : q = j
    · subst hqj; rw [← hy, gy]; exact ⟨hb.1, hE⟩
    · have hd := h.now q (by omega)
      rw [keep _ (row q (by omega) _ ⟨hx.1, hx.2.1⟩) hd.1]
      exact hd
theorem Bf.hit (h : Bf ms n2 E S o r i j) {y : Int} (hy : y = gi (gr ms j) (gi r i)) (hn : ¬ gi o y < 0) (hE : E (gi o (gi r i)) (gi o y)) : Bf ms n2 E S o r i (j + 1) := by
  refine ⟨h.mp, h.mem, h.z, h.snd, h.bnd, h.done, fun q hq => ?_⟩
  by_cases hqj : q = j
  · subst hqj; rw [← hy]; exact ⟨by omega, hE⟩
  · exact h.now q (by omega)
theorem Bf.next (h : Bf ms n2 E S o r i ms.length) : Bf ms n2 E S o r (i + 1) 0 := by
  refine ⟨h.mp, h.mem, h.z, h.snd, h.bnd, fun k hk hr q hq => ?_, fun q hq => by omega⟩
  by_cases hki : k = i
  · subst hki; exact h.now q hq
  · exact h.done k (by omega) hr q hq
theorem Bf.full (h : Bf ms n2 E S o r i 0) (hm : IsMan ms) (hi : r.length ≤ i) {x : Int} (h0 : 0 ≤ x) (hx : x < nf ms) : x ∈ r := by
  have key : ∀ y : Int, Rch ms 0 y → y ∈ r := fun y hy => by
    induction hy with
    | refl => exact h.z
    | @step y m hr hmm ih =>
      obtain ⟨q, hq, rfl⟩ := mem_gr hmm
      obtain ⟨k, hk, rfl⟩ := in_gi ih
      have hxk := h.mp.rr _ ih
      have hd := h.done k (by omega) hk q hq
      have hr2 := hm.syst.at (j := (q : Int)) (by omega) (by omega) ⟨hxk.1, hxk.2.1⟩
      exact h.mem _ hr2.1 hr2.2 hd.1
  exact key x (hm.all h0 hx)
theorem Bf.rel (h : Bf ms n2 E S o r i 0) (hm : IsMan ms) (hi : r.length ≤ i) {x : Int} (h0 : 0 ≤ x) (hx : x < nf ms) {q : Nat} (hq : q < ms.length) : E (gi o x) (gi o (gi (gr ms q) x)) := by
  obtain ⟨k, hk, e⟩ := in_gi (h.full hm hi h0 hx)
  subst e
  exact (h.done k (by omega) hk q hq).2
/-- the values 0 and 1, such that all moves change them; that of the flag 0 is 0 -/
structure Valid (ms : List (List Int)) (c : List Int) : Prop where
  rng : ∀ x : Int, 0 ≤ x → x < nf ms → 0 ≤ gi c x ∧ gi c x ≤ 1
  z : gi c 0 = 0
  turn : ∀ q : Nat, q < ms.length → ∀ x : Int, 0 ≤ x → x < nf ms → gi c (gi (gr ms q) x) = 1 - gi c x
def ColS (ms : List (List Int)) (x a : Int) : Prop := (0 ≤ a ∧ a ≤ 1) ∧ (x = 0 → a = 0) ∧ ∀ c, Valid ms c → a = gi c x
def DisS (ms : List (List Int)) (x a : Int) : Prop := (x = 0 → a = 0) ∧ ∀ c, Valid ms c → a % 2 = gi c x
theorem ColS.zero (ms : List (List Int)) : ColS ms 0 0 := ⟨by omega, fun _ => rfl, fun c h => h.z.symm⟩
theorem DisS.zero (ms : List (List Int)) : DisS ms 0 0 := ⟨fun _ => rfl, fun c h => h.z.symm⟩
theorem ColS.turn {x a y : Int} {j : Nat} (h : ColS ms x a) (hj : j < ms.length) (hx : 0 ≤ x ∧ x < nf ms) (hy : y = gi (gr ms j) x) (h0 : y ≠ 0) : ColS ms y (1 - a) :=
  ⟨by have := h.1; omega, fun e => absurd e h0, fun c hc => by rw [hy, hc.turn j hj x hx.1 hx.2, h.2.2 c hc]⟩
theorem DisS.turn {x a y : Int} {j : Nat} (h : DisS ms x a) (hj : j < ms.length) (hx : 0 ≤ x ∧ x < nf ms) (hy : y = gi (gr ms j) x) (h0 : y ≠ 0) : DisS ms y (a + 1) :=
  ⟨fun e => absurd e h0, fun c hc => by
    have h1 := h.2 c hc
    have h2 := hc.rng x hx.1 hx.2
    rw [hy, hc.turn j hj x hx.1 hx.2, ← h1]; omega⟩
/-- there is a colouring -/
def Ori (ms : List (List Int)) : Prop := ∃ c, Valid ms c
noncomputable instance (ms : List (List Int)) : Decidable (Ori ms) := Classical.propDecidable _
end
/-- the first i numbers have been turned by g -/
def upTo (g : Int → Int) (L : List Int) (i : Nat) : List Int := (List.range L.length).map fun f : Nat => if f < i then g (gi L f) else gi L f
theorem upTo_len (g : Int → Int) (L : List Int) (i : Nat) : (upTo g L i).length = L.length := by simp [upTo]
theorem upTo_0 (g : Int → Int) (L : List Int) : upTo g L 0 = L := by
  refine list_ext_gi (upTo_len _ _ _) fun x h0 hx => ?_
  rw [upTo_len] at hx
  unfold upTo
  rw [gi_range_map h0 hx, if_neg (by omega), show ((x.toNat : Nat) : Int) = x by omega]
theorem gi_upTo {g : Int → Int} {L : List Int} {i : Nat} {x : Int} (h0 : 0 ≤ x) (hx : x < L.length) : gi (upTo g L i) x = if x < i then g (gi L x) else gi L x := by
  unfold upTo
  rw [gi_range_map h0 hx, show ((x.toNat : Nat) : Int) = x by omega]
  by_cases h : x < i
  · rw [if_pos (by omega), if_pos h]
  · rw [if_neg (by omega), if_neg h]
theorem upTo_step {g : Int → Int} {L : List Int} {i : Nat} (hi : i < L.length) : seti (upTo g L i) i (g (gi L i)) = upTo g L (i + 1) := by
  refine list_ext_gi (by simp [seti, upTo_len]) fun x h0 hx => ?_
  have hxk : x < L.length := by simpa [seti, upTo_len] using hx
  rw [gi_seti _ _ _ _ (by omega) (by rw [upTo_len]; omega) h0, gi_upTo h0 hxk, gi_upTo h0 hxk]
  split
  · rename_i e; subst e; rw [if_pos (by omega)]
  · rename_i e
    by_cases h : x < i
    · rw [if_pos h, if_pos (by omega)]
    · rw [if_neg h, if_neg (by omega)]
end Go.Mem
