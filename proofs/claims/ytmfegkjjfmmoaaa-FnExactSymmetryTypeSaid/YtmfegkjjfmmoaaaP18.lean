/- Plain words on lists: faces, and what automorphisms do with them. No program in sight. -/
import Derived.Test.YtmfegkjjfmmoaaaP17
namespace Go.Mem
set_option linter.unusedVariables false
/-- numbers laid at places, one after the other -/
def laidTo (c : Nat) (L : List Int) (v : Nat → Int) : Nat → List Int
  | 0 => List.replicate c 0
  | k + 1 => seti (laidTo c L v k) (gi L k) (v k)
theorem length_laidTo (c : Nat) (L : List Int) (v : Nat → Int) : ∀ k, (laidTo c L v k).length = c
  | 0 => by simp [laidTo]
  | k + 1 => by simp [laidTo, length_laidTo c L v k]
theorem gi_laidTo {c : Nat} {L : List Int} {v : Nat → Int} (hL : ∀ j : Nat, j < L.length → 0 ≤ gi L j ∧ gi L j < c) (hv : ∀ i j : Nat, i < L.length → j < L.length → gi L i = gi L j → v i = v j) :
    ∀ k : Nat, k ≤ L.length → ∀ j : Nat, j < k → gi (laidTo c L v k) (gi L j) = v j
  | 0, _, j, hj => by omega
  | k + 1, hk, j, hj => by
    have h1 := hL k (by omega)
    have h2 := hL j (by omega)
    rw [laidTo, gi_seti _ _ _ _ h1.1 (by rw [length_laidTo]; exact h1.2) h2.1]
    split
    · rename_i e; exact hv k j (by omega) (by omega) e.symm
    · rename_i e
      by_cases hjk : j = k
      · subst hjk; exact absurd rfl e
      · exact gi_laidTo hL hv k (by omega) j (by omega)
section
variable {A ms ks : List (List Int)} {n : Nat} {L p : List Int} {c : Int}
/-- p is a map of the points that commutes with all of A -/
structure Comm (n : Nat) (A : List (List Int)) (p : List Int) : Prop where
  len : p.length = n
  rng : ∀ x : Int, 0 ≤ x → x < n → 0 ≤ gi p x ∧ gi p x < n
  com : ∀ m ∈ A, ∀ x : Int, 0 ≤ x → x < n → gi p (gi m x) = gi m (gi p x)
theorem Comm.rch (h : Comm n A p) (hs : Syst n A) {x y : Int} (hx : 0 ≤ x ∧ x < n) (hr : Rch A x y) : Rch A (gi p x) (gi p y) := by
  induction hr with
  | refl => exact .refl _
  | @step y m hr hm ih =>
    have hy := hr.rng hs hx
    rw [h.com m hm y hy.1 hy.2]
    exact .step ih hm
theorem Comm.lab (h : Comm n A p) (hs : Sym n A) (hn : n ≤ 1000) {x y : Int} (hx : 0 ≤ x ∧ x < n) (hy : 0 ≤ y ∧ y < n) (e : gi (labs n A) x = gi (labs n A) y) : gi (labs n A) (gi p x) = gi (labs n A) (gi p y) := by
  have hL := labs_all hs hn
  have hd := hL.done x hx.1 (by omega) hx.2
  have hr := h.rch hs.syst hx (hL.only x y hx.1 hx.2 hy.1 hy.2 hd e.symm)
  have hp := h.rng x hx.1 hx.2
  exact (hL.shut _ _ hp.1 hp.2 (hL.done _ hp.1 (by omega) hp.2) hr).symm
theorem symRow_laid (h : Comm n A p) (hs : Sym n A) (hn : n ≤ 1000) : laidTo (labc n A).toNat (labs n A) (fun f => gi (labs n A) (gi p f)) n = symRow (labs n A) (labc n A).toNat p := by
  have hL := labs_all hs hn
  have hc := hL.c0
  refine list_ext_gi (by simp [symRow, length_laidTo]) fun o h0 ho => ?_
  rw [length_laidTo] at ho
  obtain ⟨x, hx0, _, hx, e⟩ := hL.hit o h0 (by omega)
  have hmem : o ∈ labs n A := by rw [← e]; exact gi_mem hx0 (by rw [hL.len]; exact hx)
  obtain ⟨i0, i1, i2⟩ := idxOf_mem hmem
  rw [hL.len] at i1
  unfold symRow
  rw [gi_range_map h0 (by omega), show ((o.toNat : Nat) : Int) = o by omega]
  have := gi_laidTo (c := (labc n A).toNat) (L := labs n A) (v := fun f => gi (labs n A) (gi p f)) (fun j hj => by
    rw [hL.len] at hj
    have h1 := hL.done j (by omega) (by omega) (by omega)
    have h2 := hL.rng j (by omega) (by omega)
    omega) (fun i j hi hj e => by
    rw [hL.len] at hi hj
    exact h.lab hs hn (by omega) (by omega) e) n (by rw [hL.len]; exact Nat.le_refl _) (idxOf (labs n A) o).toNat (by omega)
  rw [show (((idxOf (labs n A) o).toNat : Nat) : Int) = idxOf (labs n A) o by omega, i2] at this
  exact this
theorem gi_symRow (h : Comm n A p) (hs : Sym n A) (hn : n ≤ 1000) {x : Int} (hx : 0 ≤ x ∧ x < n) : gi (symRow (labs n A) (labc n A).toNat p) (gi (labs n A) x) = gi (labs n A) (gi p x) := by
  have hL := labs_all hs hn
  have h0 := hL.done x hx.1 (by omega) hx.2
  have h1 := hL.rng x hx.1 hx.2
  obtain ⟨i0, i1, i2⟩ := idxOf_mem (xs := labs n A) (a := gi (labs n A) x) (gi_mem hx.1 (by rw [hL.len]; exact hx.2))
  rw [hL.len] at i1
  unfold symRow
  rw [gi_range_map h0 (by omega), show (((gi (labs n A) x).toNat : Nat) : Int) = gi (labs n A) x by omega]
  exact h.lab hs hn ⟨i0, i1⟩ hx i2
@[simp] theorem length_symRow (L : List Int) (c : Nat) (p : List Int) : (symRow L c p).length = c := by simp [symRow]

/-! ### Faces -/
/-- all moves but one -/
def oth (ms : List (List Int)) (i : Int) : List (List Int) := ms.eraseIdx i.toNat
theorem oth_mem {i : Int} {m : List Int} (h : m ∈ oth ms i) : m ∈ ms := List.mem_of_mem_eraseIdx h
theorem oth_sym (hm : IsMan ms) (i : Int) : Sym (nf ms) (oth ms i) :=
  sym_of_twice (fun m h => hm.syst m (oth_mem h)) fun m h x hx => hm.m0.twice (oth_mem h) hx
def facL (ms : List (List Int)) (i : Int) : List Int := labs (nf ms) (oth ms i)
def facC (ms : List (List Int)) (i : Int) : Int := labc (nf ms) (oth ms i)
theorem aut_comm (hm : IsMan ms) (hp : Hom ms ms p) (i : Int) : Comm (nf ms) (oth ms i) p :=
  ⟨hp.len, hp.rng, fun m h x h0 hx => by
    obtain ⟨j, hj, rfl⟩ := mem_gr (oth_mem h)
    exact hp.mv j hj x h0 hx⟩
/-- what the automorphisms do with the faces of rank i -/
def facA (ms : List (List Int)) (i : Int) : List (List Int) := (auts ms).map (symRow (facL ms i) (facC ms i).toNat)
theorem facL_all (hm : IsMan ms) (i : Int) : Labs (nf ms) (oth ms i) (nf ms) (facL ms i) (facC ms i) := labs_all (oth_sym hm i) (by have := hm.m0.f400; omega)
theorem facC_pos (hm : IsMan ms) (i : Int) : 1 ≤ facC ms i ∧ facC ms i ≤ 400 := by
  have h2 := hm.m0.f2
  have h4 := hm.m0.f400
  have h := facL_all hm i
  have h0 := h.done 0 (by omega) (by omega) (by omega)
  have h1 := h.rng 0 (by omega) (by omega)
  have := h.c0
  omega
theorem facA_at (hm : IsMan ms) (i : Int) {x : Int} (hx : 0 ≤ x ∧ x < nf ms) (hp : Hom ms ms p) : gi (symRow (facL ms i) (facC ms i).toNat p) (gi (facL ms i) x) = gi (facL ms i) (gi p x) :=
  gi_symRow (aut_comm hm hp i) (oth_sym hm i) (by have := hm.m0.f400; omega) hx
theorem facL_hit (hm : IsMan ms) (i : Int) {a : Int} (h0 : 0 ≤ a) (ha : a < facC ms i) : 0 ≤ idxOf (facL ms i) a ∧ idxOf (facL ms i) a < nf ms ∧ gi (facL ms i) (idxOf (facL ms i) a) = a := by
  have h := facL_all hm i
  obtain ⟨x, hx0, _, hx, e⟩ := h.hit a h0 ha
  have := idxOf_mem (xs := facL ms i) (a := a) (by rw [← e]; exact gi_mem hx0 (by rw [h.len]; exact hx))
  rw [h.len] at this
  exact this
theorem facL_rng (hm : IsMan ms) (i : Int) {x : Int} (hx : 0 ≤ x ∧ x < nf ms) : 0 ≤ gi (facL ms i) x ∧ gi (facL ms i) x < facC ms i := by
  have h := facL_all hm i
  exact ⟨h.done x hx.1 (by omega) hx.2, (h.rng x hx.1 hx.2).2⟩
theorem facA_syst (hm : IsMan ms) (i : Int) : Syst (facC ms i).toNat (facA ms i) := fun m h => by
  obtain ⟨p, hp, rfl⟩ := List.mem_map.1 h
  have hp := (mem_auts hm).1 hp
  have hc := facC_pos hm i
  refine ⟨by simp, fun x hx => ?_⟩
  obtain ⟨a, ha, rfl⟩ := in_gi hx
  rw [length_symRow] at ha
  obtain ⟨h1, h2, h3⟩ := facL_hit hm i (a := (a : Int)) (by omega) (by omega)
  rw [← h3, facA_at hm i ⟨h1, h2⟩ hp]
  have := facL_rng hm i (hp.rng _ h1 h2)
  omega
theorem facA_rch (hm : IsMan ms) (i : Int) {x y : Int} (hx : 0 ≤ x ∧ x < nf ms) : Rch (facA ms i) (gi (facL ms i) x) y ↔ ∃ p, Hom ms ms p ∧ gi (facL ms i) (gi p x) = y := by
  constructor
  · intro h
    induction h with
    | refl => exact ⟨_, Hom.idl hm, by rw [gi_idl hx.1 hx.2]⟩
    | @step y m hr hq ih =>
      obtain ⟨p, hp, rfl⟩ := ih
      obtain ⟨q, hq2, rfl⟩ := List.mem_map.1 hq
      have hq := (mem_auts hm).1 hq2
      refine ⟨_, hp.aft hq hm rfl, ?_⟩
      rw [gi_aft hx.1 (by rw [hp.len]; exact hx.2), facA_at hm i (hp.rng _ hx.1 hx.2) hq]
  · rintro ⟨p, hp, rfl⟩
    rw [← facA_at hm i hx hp]
    exact .step (.refl _) (List.mem_map_of_mem ((mem_auts hm).2 hp))
theorem facA_sym (hm : IsMan ms) (i : Int) : Sym (facC ms i).toNat (facA ms i) := by
  have hc := facC_pos hm i
  refine ⟨facA_syst hm i, fun a b h0 ha hr => ?_⟩
  obtain ⟨h1, h2, h3⟩ := facL_hit hm i (a := a) h0 (by omega)
  rw [← h3] at hr ⊢
  obtain ⟨p, hp, rfl⟩ := (facA_rch hm i ⟨h1, h2⟩).1 hr
  obtain ⟨q, hq, e, _⟩ := hp.inv hm hm rfl rfl
  have hy := hp.rng _ h1 h2
  exact (facA_rch hm i hy).2 ⟨q, hq, by rw [e _ h1 h2]⟩
theorem setAll_fac (hm : IsMan ms) (i : Int) {O : List Int} {c a : Int} (h0 : 0 ≤ a) (ha : a < facC ms i) (hl : O.length = (facC ms i).toNat) :
    setAll O c ((auts ms).map fun p => gi (facL ms i) (gi p (idxOf (facL ms i) a))) = lab1 (facA ms i) O c a := by
  have hc := facC_pos hm i
  obtain ⟨h1, h2, h3⟩ := facL_hit hm i (a := a) h0 ha
  have hrng : ∀ x ∈ (auts ms).map (fun p => gi (facL ms i) (gi p (idxOf (facL ms i) a))), 0 ≤ x ∧ x < ((facC ms i).toNat : Int) := fun x hx => by
    obtain ⟨p, hp, rfl⟩ := List.mem_map.1 hx
    have := facL_rng hm i (((mem_auts hm).1 hp).rng _ h1 h2)
    omega
  refine list_ext_gi (by rw [length_setAll, length_lab1]) fun x hx0 hx => ?_
  rw [length_setAll] at hx
  rw [gi_setAll c _ _ hl hrng x hx0, gi_lab1 hx0 hx]
  have hiff : x ∈ (auts ms).map (fun p => gi (facL ms i) (gi p (idxOf (facL ms i) a))) ↔ x ∈ orbit (facA ms i) a := by
    rw [mem_orbit (facA_syst hm i) (by omega) (by omega)]
    have := facA_rch hm i (x := idxOf (facL ms i) a) (y := x) ⟨h1, h2⟩
    rw [h3] at this
    rw [this, List.mem_map]
    exact ⟨fun ⟨p, hp, e⟩ => ⟨p, (mem_auts hm).1 hp, e⟩, fun ⟨p, hp, e⟩ => ⟨p, (mem_auts hm).2 hp, e⟩⟩
  by_cases h : x ∈ orbit (facA ms i) a
  · rw [if_pos h, if_pos (hiff.2 h)]
  · rw [if_neg h, if_neg fun h' => h (hiff.1 h')]

noncomputable def rkC (ms : List (List Int)) (i : Int) : Int := if IsMan ms then (if 0 ≤ i ∧ i < ms.length then 0 else 2) else 1
theorem rkC_1 {i : Int} (h : ¬ IsMan ms) : rkC ms i = 1 := if_neg h
theorem rkC_2 {i : Int} (h : IsMan ms) (hi : ¬ (0 ≤ i ∧ i < ms.length)) : rkC ms i = 2 := by unfold rkC; rw [if_pos h, if_neg hi]
theorem rkC_3 {i : Int} (h : IsMan ms) (hi : 0 ≤ i ∧ i < ms.length) : rkC ms i = 0 := by unfold rkC; rw [if_pos h, if_pos hi]
theorem rkC_0 {i : Int} (h : rkC ms i = 0) : IsMan ms ∧ 0 ≤ i ∧ i < ms.length := by
  unfold rkC at h
  split at h
  · rename_i hm
    split at h
    · rename_i hi; exact ⟨hm, hi⟩
    · omega
  · omega
noncomputable def facO (ms : List (List Int)) (i : Int) : List Int := if rkC ms i = 0 then labs (facC ms i).toNat (facA ms i) else []
theorem facO_no {i : Int} (h : rkC ms i ≠ 0) : facO ms i = [] := if_neg h
theorem facO_yes {i : Int} (h : rkC ms i = 0) : facO ms i = labs (facC ms i).toNat (facA ms i) := if_pos h
theorem facO_len (ms : List (List Int)) (i : Int) : (facO ms i).length ≤ 4000000000000000000 := by
  unfold facO
  split
  · rename_i h
    obtain ⟨hm, _⟩ := rkC_0 h
    have hc := facC_pos hm i
    rw [(labs_all (facA_sym hm i) (by omega)).len]; omega
  · simp
noncomputable def isTr (ms : List (List Int)) (i : Int) : Bool := if rkC ms i = 0 then decide (labc (facC ms i).toNat (facA ms i) = 1) else false
theorem isTr_no {i : Int} (h : rkC ms i ≠ 0) : isTr ms i = false := if_neg h
theorem isTr_yes {i : Int} (h : rkC ms i = 0) : isTr ms i = decide (labc (facC ms i).toNat (facA ms i) = 1) := if_pos h
end
end Go.Mem
