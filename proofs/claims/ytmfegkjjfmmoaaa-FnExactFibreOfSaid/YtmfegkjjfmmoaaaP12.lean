/- Plain words on lists: maps that agree with the moves, done one after the other; automorphisms. No program in sight. -/
import Derived.Test.YtmfegkjjfmmoaaaP11
namespace Go.Mem
/-- first p, then q -/
def aft (p q : List Int) : List Int := p.map (gi q)
def idl (n : Nat) : List Int := (List.range n).map fun i : Nat => (i : Int)
theorem gi_aft {p q : List Int} {x : Int} (h0 : 0 ≤ x) (hx : x < p.length) : gi (aft p q) x = gi q (gi p x) := by
  have : x.toNat < p.length := by omega
  simp [aft, gi, List.getD, this]
theorem gi_idl {n : Nat} {x : Int} (h0 : 0 ≤ x) (hx : x < n) : gi (idl n) x = x := by
  unfold idl
  rw [gi_range_map h0 hx]; omega
@[simp] theorem length_aft (p q : List Int) : (aft p q).length = p.length := by simp [aft]
@[simp] theorem length_idl (n : Nat) : (idl n).length = n := by simp [idl]
theorem surj_nodup {n : Nat} {p : List Int} (hl : p.length = n) (h : ∀ x : Int, 0 ≤ x → x < n → x ∈ p) : p.Nodup := by
  rw [List.nodup_iff_pairwise_ne, List.pairwise_iff_getElem]
  intro i j hi hj hij e
  have hsub := List.Nodup.length_le_of_subset (l₁ := idl n) (l₂ := p.eraseIdx j) (by
    unfold idl
    exact List.pairwise_map.2 (List.nodup_range.imp fun h e => h (by omega))) (by
    intro x hx
    obtain ⟨k, hk, rfl⟩ := List.mem_map.1 hx
    have := List.mem_range.1 hk
    obtain ⟨q, hq, e2⟩ := List.mem_iff_getElem.1 (h k (by omega) (by omega))
    rw [List.mem_eraseIdx_iff_getElem]
    by_cases hqj : q = j
    · subst hqj; exact ⟨i, hi, by omega, by rw [e, e2]⟩
    · exact ⟨q, hq, hqj, e2⟩)
  rw [List.length_eraseIdx_of_lt hj] at hsub
  simp at hsub
  omega
theorem gi_inj {p : List Int} (h : p.Nodup) {a b : Int} (ha : 0 ≤ a ∧ a < p.length) (hb : 0 ≤ b ∧ b < p.length) (e : gi p a = gi p b) : a = b := by
  have h1 : a.toNat < p.length := by omega
  have h2 : b.toNat < p.length := by omega
  simp only [gi, List.getD, List.getElem?_eq_getElem h1, List.getElem?_eq_getElem h2, Option.getD_some] at e
  rw [List.nodup_iff_pairwise_ne, List.pairwise_iff_getElem] at h
  rcases Nat.lt_trichotomy a.toNat b.toNat with hlt | he | hgt
  · exact absurd e (h _ _ h1 h2 hlt)
  · omega
  · exact absurd e.symm (h _ _ h2 h1 hgt)

section
variable {ms ks ls : List (List Int)} {p q : List Int}
theorem Hom.idl (hm : IsMan ms) : Hom ms ms (idl (nf ms)) := by
  refine ⟨by simp, fun x h0 hx => by rw [gi_idl h0 hx]; exact ⟨h0, hx⟩, fun j hj x h0 hx => ?_⟩
  have hy := hm.syst.at (j := (j : Int)) (by omega) (by omega) ⟨h0, hx⟩
  rw [gi_idl h0 hx, gi_idl hy.1 hy.2]
theorem Hom.aft (hp : Hom ms ks p) (hq : Hom ks ls q) (hm : IsMan ms) (hl : ms.length = ks.length) : Hom ms ls (aft p q) := by
  refine ⟨by simp [hp.len], fun x h0 hx => ?_, fun j hj x h0 hx => ?_⟩
  · rw [gi_aft h0 (by rw [hp.len]; exact hx)]
    have := hp.rng x h0 hx
    exact hq.rng _ this.1 this.2
  · have hy := hm.syst.at (j := (j : Int)) (by omega) (by omega) ⟨h0, hx⟩
    have := hp.rng x h0 hx
    rw [gi_aft h0 (by rw [hp.len]; exact hx), gi_aft hy.1 (by rw [hp.len]; exact hy.2), hp.mv j hj x h0 hx, hq.mv j (by omega) _ this.1 this.2]
theorem Hom.same (hm : IsMan ms) (hp : Hom ms ks p) (hq : Hom ms ks q) {a : Int} (ha : 0 ≤ a ∧ a < nf ms) (e : gi p a = gi q a) : p = q := by
  have h2 := hm.m0.f2
  have ha0 : Rch ms a 0 := hm.sym.back 0 a (by omega) (by omega) (hm.all ha.1 ha.2)
  refine list_ext_gi (by rw [hp.len, hq.len]) fun x h0 hx => ?_
  rw [hp.len] at hx
  have hr : Rch ms a x := ha0.trans (hm.all h0 hx)
  clear h0 hx
  induction hr with
  | refl => exact e
  | @step y m hr hmm ih =>
    obtain ⟨j, hj, rfl⟩ := mem_gr hmm
    have hy := hr.rng hm.syst ha
    rw [hp.mv j hj y hy.1 hy.2, hq.mv j hj y hy.1 hy.2, ih]
theorem Hom.onto (hm : IsMan ms) (hk : IsMan ks) (hl : ms.length = ks.length) (hp : Hom ms ks p) {y : Int} (h0 : 0 ≤ y) (hy : y < nf ks) : ∃ x : Int, 0 ≤ x ∧ x < nf ms ∧ gi p x = y := by
  have h2 := hm.m0.f2
  have hk2 := hk.m0.f2
  have h00 := hp.rng 0 (by omega) (by omega)
  have hr : Rch ks (gi p 0) y := (hk.sym.back 0 _ (by omega) (by omega) (hk.all h00.1 h00.2)).trans (hk.all h0 hy)
  clear h0 hy
  induction hr with
  | refl => exact ⟨0, by omega, by omega, rfl⟩
  | @step y m hr hmm ih =>
    obtain ⟨x, hx0, hx, rfl⟩ := ih
    obtain ⟨j, hj, rfl⟩ := mem_gr hmm
    have hv := hm.syst.at (j := (j : Int)) (by omega) (by omega) ⟨hx0, hx⟩
    exact ⟨_, hv.1, hv.2, hp.mv j (by omega) x hx0 hx⟩
theorem Hom.nodup (hm : IsMan ms) (hk : IsMan ks) (hl : ms.length = ks.length) (hn : nf ms = nf ks) (hp : Hom ms ks p) : p.Nodup := by
  refine surj_nodup hp.len fun y h0 hy => ?_
  obtain ⟨x, hx0, hx, e⟩ := hp.onto hm hk hl h0 (by omega)
  rw [← e]
  exact gi_mem hx0 (by rw [hp.len]; exact hx)
/-- the inverse -/
theorem Hom.inv (hm : IsMan ms) (hk : IsMan ks) (hl : ms.length = ks.length) (hn : nf ms = nf ks) (hp : Hom ms ks p) :
    ∃ q, Hom ks ms q ∧ (∀ x : Int, 0 ≤ x → x < nf ms → gi q (gi p x) = x) ∧ ∀ y : Int, 0 ≤ y → y < nf ks → gi p (gi q y) = y := by
  have hc : ∀ y : Nat, ∃ x : Int, y < nf ks → 0 ≤ x ∧ x < nf ms ∧ gi p x = y := fun y => by
    by_cases h : y < nf ks
    · obtain ⟨x, h1⟩ := hp.onto hm hk hl (y := y) (by omega) (by omega)
      exact ⟨x, fun _ => h1⟩
    · exact ⟨0, fun h' => absurd h' h⟩
  obtain ⟨g, hg⟩ := Classical.axiomOfChoice hc
  have gq : ∀ y : Int, 0 ≤ y → y < nf ks → 0 ≤ gi ((List.range (nf ks)).map g) y ∧ gi ((List.range (nf ks)).map g) y < nf ms ∧ gi p (gi ((List.range (nf ks)).map g) y) = y := fun y h0 hy => by
    rw [gi_range_map h0 hy]
    have := hg y.toNat (by omega)
    refine ⟨this.1, this.2.1, by omega⟩
  have hinj := hp.nodup hm hk hl hn
  have hlp := hp.len
  refine ⟨(List.range (nf ks)).map g, ⟨by simp, fun y h0 hy => ⟨(gq y h0 hy).1, (gq y h0 hy).2.1⟩, fun j hj y h0 hy => ?_⟩, fun x h0 hx => ?_, fun y h0 hy => (gq y h0 hy).2.2⟩
  · have hv := hk.syst.at (j := (j : Int)) (by omega) (by omega) ⟨h0, hy⟩
    have hq := gq y h0 hy
    have hx := hm.syst.at (j := (j : Int)) (by omega) (by omega) ⟨hq.1, hq.2.1⟩
    have hq2 := gq _ hv.1 hv.2
    exact gi_inj hinj ⟨hq2.1, by rw [hlp]; exact hq2.2.1⟩ ⟨hx.1, by rw [hlp]; exact hx.2⟩ (by rw [hq2.2.2, hp.mv j (by omega) _ hq.1 hq.2.1, hq.2.2])
  · have hr := hp.rng x h0 hx
    have hq := gq _ hr.1 hr.2
    exact gi_inj hinj ⟨hq.1, by rw [hlp]; exact hq.2.1⟩ ⟨h0, by rw [hlp]; exact hx⟩ hq.2.2

/-- all automorphisms -/
def auts (ms : List (List Int)) : List (List Int) := covers ms ms (nf ms)
theorem mem_auts (hm : IsMan ms) : p ∈ auts ms ↔ Hom ms ms p := by
  unfold auts
  rw [mem_covers hm hm]
  simp
theorem auts_syst (hm : IsMan ms) : Syst (nf ms) (auts ms) := fun p hp => by
  have h := (mem_auts hm).1 hp
  refine ⟨h.len, fun x hx => ?_⟩
  obtain ⟨i, hi, e⟩ := in_gi hx
  rw [← e]
  exact h.rng i (by omega) (by rw [← h.len]; omega)
theorem auts_sym (hm : IsMan ms) : Sym (nf ms) (auts ms) := by
  refine ⟨auts_syst hm, fun x y h0 hx hr => ?_⟩
  induction hr with
  | refl => exact .refl _
  | @step y p hr hpa ih =>
    obtain ⟨q, hq, e, _⟩ := ((mem_auts hm).1 hpa).inv hm hm rfl rfl
    have hy := hr.rng (auts_syst hm) ⟨h0, hx⟩
    refine Rch.head (m := q) ((mem_auts hm).2 hq) ?_
    rw [e y hy.1 hy.2]
    exact ih
theorem auts_rch (hm : IsMan ms) {x y : Int} (hx : 0 ≤ x ∧ x < nf ms) : Rch (auts ms) x y ↔ ∃ p, Hom ms ms p ∧ gi p x = y := by
  constructor
  · intro h
    induction h with
    | refl => exact ⟨_, Hom.idl hm, gi_idl hx.1 hx.2⟩
    | step hr hq ih =>
      obtain ⟨p, hp, rfl⟩ := ih
      refine ⟨_, hp.aft ((mem_auts hm).1 hq) hm rfl, gi_aft hx.1 (by rw [hp.len]; exact hx.2)⟩
  · rintro ⟨p, hp, rfl⟩
    exact .step (.refl _) ((mem_auts hm).2 hp)
theorem regular_iff (hm : IsMan ms) : (auts ms).length = nf ms ↔ labc (nf ms) (auts ms) = 1 := by
  have h2 := hm.m0.f2
  have h4 := hm.m0.f400
  rw [labc_one (auts_sym hm) (by omega) (by omega)]
  unfold auts
  rw [covers_full]
  constructor
  · intro h x h0 hx
    obtain ⟨p, hp⟩ := h x.toNat (by omega)
    rw [show ((x.toNat : Nat) : Int) = x by omega] at hp
    have := (mapT_iff hm hm ⟨h0, hx⟩).1 hp
    exact (auts_rch hm (by omega)).2 ⟨p, this.2.1, this.2.2⟩
  · intro h f hf
    obtain ⟨p, hp, e⟩ := (auts_rch hm (x := 0) (by omega)).1 (h f (by omega) (by omega))
    exact ⟨p, (mapT_iff hm hm ⟨by omega, by omega⟩).2 ⟨rfl, hp, e⟩⟩
end
end Go.Mem
