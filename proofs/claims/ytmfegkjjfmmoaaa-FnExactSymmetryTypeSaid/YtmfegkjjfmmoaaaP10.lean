/- Plain words: marks. Lists of lists that are owned: a row is written. -/
import Derived.Test.YtmfegkjjfmmoaaaP8
namespace Go.Mem
open Go.RowKit
def iota (k : Int) (n : Nat) : List Int := (List.range n).map fun j : Nat => k + j
@[simp] theorem length_iota (k : Int) (n : Nat) : (iota k n).length = n := by simp [iota]
theorem gi_iota {k : Int} {n : Nat} {j : Int} (h0 : 0 ≤ j) (hj : j < n) : gi (iota k n) j = k + j := by
  unfold iota
  rw [gi_range_map h0 hj]
  congr 1
  omega
/-- how many numbers the rows hold -/
def tot : List (List Int) → Int
  | [] => 0
  | xs :: r => xs.length + tot r
def mkRows : List (List Int) → Int → List (List Int)
  | [], _ => []
  | xs :: r, k => iota k xs.length :: mkRows r (k + xs.length)
theorem length_mkRows : ∀ (xss : List (List Int)) (k : Int), (mkRows xss k).length = xss.length
  | [], _ => rfl
  | xs :: r, k => by simp [mkRows, length_mkRows r]
theorem tot_nonneg : ∀ xss : List (List Int), 0 ≤ tot xss
  | [] => by simp [tot]
  | xs :: r => by have := tot_nonneg r; simp [tot]; omega
theorem tot_take_succ : ∀ (xss : List (List Int)) (i : Nat), i < xss.length → tot (xss.take (i + 1)) = tot (xss.take i) + (gr xss i).length
  | [], i, h => by simp at h
  | xs :: r, 0, _ => by simp [tot, gr, List.getD]
  | xs :: r, i + 1, h => by
    have := tot_take_succ r i (by simpa using h)
    have e : gr (xs :: r) ((i + 1 : Nat) : Int) = gr r i := by simp [gr, List.getD]
    rw [e]
    simp only [List.take_succ_cons, tot]
    omega
theorem tot_take_le : ∀ (xss : List (List Int)) (i : Nat), tot (xss.take i) ≤ tot xss
  | [], i => by simp [tot]
  | xs :: r, 0 => by have := tot_nonneg (xs :: r); simpa [tot] using this
  | xs :: r, i + 1 => by
    have := tot_take_le r i
    simp only [List.take_succ_cons, tot]
    omega
theorem tot_le {xss : List (List Int)} {c : Int} (h : ∀ xs ∈ xss, (xs.length : Int) ≤ c) : tot xss ≤ xss.length * c := by
  induction xss with
  | nil => simp [tot]
  | cons xs r ih =>
    have h1 := ih fun ys hy => h ys (by simp [hy])
    have h2 := h xs (by simp)
    have e : ((xs :: r).length : Int) * c = r.length * c + c := by
      simp only [List.length_cons, Int.natCast_add, Int.add_mul]
      omega
    rw [e]
    simp only [tot]
    omega
theorem gr_mkRows : ∀ (xss : List (List Int)) (k : Int) (i : Nat), i < xss.length → gr (mkRows xss k) i = iota (k + tot (xss.take i)) (gr xss i).length
  | [], _, i, h => by simp at h
  | xs :: r, k, 0, _ => by simp [mkRows, gr, List.getD, tot]
  | xs :: r, k, i + 1, h => by
    have := gr_mkRows r (k + xs.length) i (by simpa using h)
    have e : gr (mkRows (xs :: r) k) ((i + 1 : Nat) : Int) = gr (mkRows r (k + xs.length)) i := by simp [gr, List.getD, mkRows]
    have e2 : gr (xs :: r) ((i + 1 : Nat) : Int) = gr r i := by simp [gr, List.getD]
    rw [e, e2, this]
    simp only [List.take_succ_cons, tot]
    congr 1
    omega

/-- between B and E something may have turned; elsewhere, of what was there, nothing -/
structure Btw (B E : Nat) (w w' : World) : Prop where
  os : w'.os = w.os
  tape : w'.tape = w.tape
  output : w'.output = w.output
  size : w.heap.size ≤ w'.heap.size
  block : ∀ k, k < w.heap.size → (k < B ∨ E ≤ k) → w'.heap[k]? = w.heap[k]?
theorem Btw.refl (B E : Nat) (w : World) : Btw B E w w := ⟨rfl, rfl, rfl, Nat.le_refl _, fun _ _ _ => rfl⟩
theorem Btw.trans {B E : Nat} {a b c : World} (h : Btw B E a b) (k : Btw B E b c) : Btw B E a c :=
  ⟨k.os.trans h.os, k.tape.trans h.tape, k.output.trans h.output, Nat.le_trans h.size k.size, fun i hi hb => (k.block i (Nat.lt_of_lt_of_le hi h.size) hb).trans (h.block i hi hb)⟩
theorem Btw.below {B E : Nat} {w w' : World} (h : Btw B E w w') (hB : B ≤ w.heap.size) : Below B w w' :=
  ⟨h.os, h.tape, h.output, h.size, fun k hk => h.block k (Nat.lt_of_lt_of_le hk hB) (.inl hk)⟩
theorem Btw.of_below {B E : Nat} {w w' : World} (h : Below w.heap.size w w') : Btw B E w w' := ⟨h.os, h.tape, h.output, h.size, fun k hk _ => h.block k hk⟩
theorem Btw.of_grown {B E : Nat} {w w' : World} {r : Option Nat} (h : w.grownBy w' r) (hr : ∀ g, r = some g → B ≤ g ∧ g < E) : Btw B E w w' :=
  ⟨h.os, h.tape, h.output, h.size, fun k hk hb => h.block k hk (by intro e; have := hr k e.symm; omega)⟩
theorem Own.btw {w w' : World} {B B' E : Nat} {T : TypeId} {v : Value} {vs : List Value} (h : Own w B' T v vs) (hb : Btw B E w w') (hE : E ≤ B') : Own w' B' T v vs :=
  h.same fun g _ hB hl => hb.block g hl (.inr (by omega))
theorem OI.btw {w w' : World} {B B' E : Nat} {T : TypeId} {v : Value} {xs : List Int} (h : OI w B' T v xs) (hb : Btw B E w w') (hE : E ≤ B') : OI w' B' T v xs := ⟨h.own.btw hb hE⟩
theorem OM.btw {w w' : World} {B B' E E' : Nat} {T U : TypeId} {v : Value} {xss : List (List Int)} (h : OM w B' E' T U v xss) (hb : Btw B E w w') (hE : E ≤ B') : OM w' B' E' T U v xss := by
  obtain ⟨vs, h1, h2, h3, h4, h5, h6⟩ := h.out
  exact ⟨vs, h1.btw hb hE, h2, h3, fun i u xs hu hx => (h4 i u xs hu hx).btw hb hE, h5, h6⟩
/-- a row, and what writing it makes of the whole -/
theorem OM.rowW {w : World} {B E : Nat} {T U : TypeId} {v : Value} {xss : List (List Int)} (h : OM w B E T U v xss) (hT : T ≠ U) {j : Int} (h0 : 0 ≤ j) (hj : j < xss.length) :
    ∃ u, OI w B U u (gr xss j) ∧ w.cell? (addrOf v j.toNat) = some u ∧ (∀ g, u.ownBlock = some g → g < E) ∧
      ∀ w' ys, OI w' B U u ys → w.grownBy w' u.ownBlock → OM w' B E T U v (xss.set j.toNat ys) := by
  obtain ⟨vs, h1, h2, h3, h4, h5, h6⟩ := h.out
  have hlt : j.toNat < vs.length := by omega
  have hlt' : j.toNat < xss.length := by omega
  have hrow := h4 j.toNat vs[j.toNat] xss[j.toNat] (by simp [hlt]) (by simp [hlt'])
  have eg : gr xss j = xss[j.toNat] := by simp [gr, List.getD, hlt']
  refine ⟨vs[j.toNat], by rw [eg]; exact hrow, h1.rd.cell (List.getElem?_eq_getElem hlt), h5 j.toNat vs[j.toNat] (List.getElem?_eq_getElem hlt), fun w' ys hys hg => ⟨vs, ?_, h2, by simpa using h3, ?_, h5, h6⟩⟩
  · exact h1.kept hg (h1.apart_type hrow.own hT)
  · intro i u xs hu hx
    rw [List.getElem?_set] at hx
    by_cases hij : j.toNat = i
    · subst hij
      rw [if_pos rfl, if_pos hlt'] at hx
      simp at hx
      subst hx
      have : u = vs[j.toNat] := by simpa [hlt] using hu.symm
      subst this
      exact hys
    · rw [if_neg hij] at hx
      have hr := h4 i u xs hu hx
      refine hr.kept hg ?_
      have hvj : vs[j.toNat]? = some vs[j.toNat] := by simp [hlt]
      by_cases hlt2 : i < j.toNat
      · exact h6 i j.toNat u _ hlt2 hu hvj
      · rcases h6 j.toNat i _ u (by omega) hvj hu with e | e
        · cases e' : u.ownBlock with
          | none => exact .inl rfl
          | some g => right; rw [e]; simp
        · right; exact fun e' => e e'.symm
end Go.Mem
