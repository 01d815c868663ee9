/- Plain words on lists: maniplexes. No program in sight. -/
import Derived.Test.YtmfegkjjfmmoaaaP5
namespace Go.Mem
/-- the number of flags -/
def nf (ms : List (List Int)) : Nat := (gr ms 0).length
/-- the moves a and k do the same in both orders, and never lead to the same flag -/
def FarAt (ms : List (List Int)) (a k f : Nat) : Prop := gi (gr ms k) (gi (gr ms a) f) = gi (gr ms a) (gi (gr ms k) f) ∧ gi (gr ms a) f ≠ gi (gr ms k) f
/-- a and all moves from a + 2 on, below q -/
def FarRow (ms : List (List Int)) (a q : Nat) : Prop := ∀ k : Nat, a + 2 ≤ k → k < q → ∀ f : Nat, f < nf ms → FarAt ms a k f
structure Man0 (ms : List (List Int)) : Prop where
  r1 : 1 ≤ ms.length
  r5 : ms.length ≤ 5
  f2 : 2 ≤ nf ms
  f400 : nf ms ≤ 400
  row : ∀ i : Nat, i < ms.length → (gr ms i).length = nf ms ∧ IsPerm (gr ms i) ∧ IsFree (gr ms i)
  far : ∀ i < ms.length, FarRow ms i ms.length
structure IsMan (ms : List (List Int)) : Prop where
  m0 : Man0 ms
  one : (orbit ms 0).length = nf ms
noncomputable instance (ms : List (List Int)) : Decidable (IsMan ms) := Classical.propDecidable _

theorem mem_gr {ms : List (List Int)} {m : List Int} (h : m ∈ ms) : ∃ i : Nat, i < ms.length ∧ gr ms i = m := by
  obtain ⟨i, hi, e⟩ := List.mem_iff_getElem.1 h
  exact ⟨i, hi, by simp [gr, List.getD, hi, e]⟩
theorem Man0.syst {ms : List (List Int)} (h : Man0 ms) : Syst (nf ms) ms := by
  intro m hm
  obtain ⟨i, hi, rfl⟩ := mem_gr hm
  have := h.row i hi
  exact ⟨this.1, fun x hx => by rw [← this.1]; exact this.2.1.2.1 x hx⟩
theorem Man0.twice {ms : List (List Int)} (h : Man0 ms) {m : List Int} (hm : m ∈ ms) {x : Int} (hx : 0 ≤ x ∧ x < nf ms) : gi m (gi m x) = x := by
  obtain ⟨i, hi, rfl⟩ := mem_gr hm
  have hr := h.row i hi
  have := (hr.2.2 x.toNat (by omega)).2
  have e : (x.toNat : Int) = x := by omega
  rwa [e] at this
theorem Rch.head {ms : List (List Int)} {m : List Int} {x y : Int} (hm : m ∈ ms) (h : Rch ms (gi m x) y) : Rch ms x y := (Rch.step (.refl x) hm).trans h
theorem sym_of_twice {n : Nat} {ms : List (List Int)} (hs : Syst n ms) (h2 : ∀ m ∈ ms, ∀ x : Int, 0 ≤ x ∧ x < n → gi m (gi m x) = x) : Sym n ms := by
  refine ⟨hs, fun x y h0 hx hr => ?_⟩
  induction hr with
  | refl => exact .refl _
  | @step y m hr hm ih =>
    have hy := hr.rng hs ⟨h0, hx⟩
    refine Rch.head (m := m) hm ?_
    rw [h2 m hm y hy]
    exact ih
theorem Man0.sym {ms : List (List Int)} (h : Man0 ms) : Sym (nf ms) ms := sym_of_twice h.syst fun _ hm _ hx => h.twice hm hx
theorem Man0.conn {ms : List (List Int)} (h : Man0 ms) : (orbit ms 0).length = nf ms ↔ labc (nf ms) ms = 1 := by
  have h2 := h.f2
  have h4 := h.f400
  rw [orbit_full h.syst (by omega) (by omega), labc_one h.sym (by omega) (by omega)]
theorem IsMan.syst {ms : List (List Int)} (h : IsMan ms) : Syst (nf ms) ms := h.m0.syst
theorem IsMan.sym {ms : List (List Int)} (h : IsMan ms) : Sym (nf ms) ms := h.m0.sym
theorem IsMan.all {ms : List (List Int)} (h : IsMan ms) {x : Int} (h0 : 0 ≤ x) (hx : x < nf ms) : Rch ms 0 x := by
  have h2 := h.m0.f2
  have h4 := h.m0.f400
  exact (orbit_full h.syst (by omega) (by omega)).1 h.one x h0 hx
theorem gr_drop {ms : List (List Int)} {q j : Nat} : gr (ms.drop q) j = gr ms (q + j : Nat) := by
  simp only [gr, List.getD, List.getElem?_drop]
  congr 2
end Go.Mem
