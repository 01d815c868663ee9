/- Texts laid together: P11 P12 P13 P14 P15. -/
import Derived.Test.YtkknhcpjiehgiaaDoorPA
/- Plain words on lists: maps that agree with the moves. No program in sight. -/
namespace Go.Mem
/-- p gives each flag of ms a flag of ks, and agrees with the moves -/
structure Hom (ms ks : List (List Int)) (p : List Int) : Prop where
  len : p.length = nf ms
  rng : ∀ x : Int, 0 ≤ x → x < nf ms → 0 ≤ gi p x ∧ gi p x < nf ks
  mv : ∀ j : Nat, j < ms.length → ∀ x : Int, 0 ≤ x → x < nf ms → gi p (gi (gr ms j) x) = gi (gr ks j) (gi p x)

/-- what is known of a state -/
structure St (n n2 : Nat) (o r : List Int) : Prop where
  mp : Mp n n2 o r
  all : ∀ x : Int, 0 ≤ x → x < n → 0 ≤ gi o x → x ∈ r

section
variable {ms ks : List (List Int)} {flag : Int} {o r o' r' p : List Int} {i j n n2 : Nat}
theorem St.step {a : Int × Int} (h : St n n2 o r) (hx : 0 ≤ a.1 ∧ a.1 < n) (hy : 0 ≤ a.2 ∧ a.2 < n2) (e : mapStep (some (o, r)) a = some (o', r')) :
    St n n2 o' r' ∧ gi o' a.1 = a.2 ∧ (∀ z : Int, 0 ≤ z → 0 ≤ gi o z → gi o' z = gi o z) ∧ ∃ t, r' = r ++ t := by
  unfold mapStep at e
  simp only at e
  have hl := h.mp.len
  split at e
  · rename_i hn
    simp only [Option.some.injEq, Prod.mk.injEq] at e
    obtain ⟨rfl, rfl⟩ := e
    have g : ∀ z : Int, 0 ≤ z → gi (seti o a.1 a.2) z = if z = a.1 then a.2 else gi o z := fun z h0 => gi_seti _ _ _ _ hx.1 (by omega) h0
    refine ⟨⟨h.mp.push hx hy hn, fun z h0 hz hg => ?_⟩, ?_, fun z h0 hz => ?_, ⟨_, rfl⟩⟩
    · rw [g z h0] at hg
      split at hg
      · rename_i e; subst e; simp
      · exact List.mem_append_left _ (h.all z h0 hz hg)
    · rw [g _ hx.1, if_pos rfl]
    · rw [g z h0]
      split
      · rename_i e; subst e; omega
      · rfl
  · split at e
    · rename_i he
      simp only [Option.some.injEq, Prod.mk.injEq] at e
      obtain ⟨rfl, rfl⟩ := e
      exact ⟨h, he, fun z _ _ => rfl, [], by simp⟩
    · simp at e
theorem St.fold : ∀ (l : List (Int × Int)) {o r : List Int}, St n n2 o r → (∀ a ∈ l, (0 ≤ a.1 ∧ a.1 < n) ∧ 0 ≤ a.2 ∧ a.2 < n2) → ∀ {o' r'}, l.foldl mapStep (some (o, r)) = some (o', r') →
    St n n2 o' r' ∧ (∀ a ∈ l, gi o' a.1 = a.2) ∧ (∀ z : Int, 0 ≤ z → 0 ≤ gi o z → gi o' z = gi o z) ∧ ∃ t, r' = r ++ t
  | [], o, r, h, _, o', r', e => by
    simp only [List.foldl, Option.some.injEq, Prod.mk.injEq] at e
    obtain ⟨rfl, rfl⟩ := e
    exact ⟨h, by simp, fun z _ _ => rfl, [], by simp⟩
  | a :: l, o, r, h, hl, o', r', e => by
    simp only [List.foldl] at e
    have ha := hl a (by simp)
    cases hs : mapStep (some (o, r)) a with
    | none => rw [hs, foldl_none] at e; simp at e
    | some q =>
      obtain ⟨o1, r1⟩ := q
      rw [hs] at e
      obtain ⟨h1, e1, k1, t1, rfl⟩ := h.step ha.1 ha.2 hs
      obtain ⟨h2, e2, k2, t2, rfl⟩ := St.fold l h1 (fun b hb => hl b (List.mem_cons_of_mem _ hb)) e
      refine ⟨h2, fun b hb => ?_, fun z h0 hz => ?_, t1 ++ t2, by rw [List.append_assoc]⟩
      · rcases List.mem_cons.1 hb with rfl | hb
        · rw [k2 _ ha.1.1 (by rw [e1]; exact ha.2.1), e1]
        · exact e2 b hb
      · rw [k2 z h0 (by rw [k1 z h0 hz]; exact hz), k1 z h0 hz]
theorem mem_pairs {f : Int} {a : Int × Int} : a ∈ pairs ms ks o f ↔ ∃ j : Nat, j < ms.length ∧ a = (gi (gr ms j) f, gi (gr ks j) (gi o f)) := by
  unfold pairs
  rw [List.mem_map]
  constructor
  · rintro ⟨j, hj, rfl⟩; exact ⟨j, List.mem_range.1 hj, rfl⟩
  · rintro ⟨j, hj, rfl⟩; exact ⟨j, List.mem_range.2 hj, rfl⟩
theorem pairs_rng (hm : IsMan ms) (hk : IsMan ks) (hl : ms.length = ks.length) {f : Int} (hf : 0 ≤ f ∧ f < nf ms) (ho : 0 ≤ gi o f ∧ gi o f < nf ks) :
    ∀ a ∈ pairs ms ks o f, (0 ≤ a.1 ∧ a.1 < nf ms) ∧ 0 ≤ a.2 ∧ a.2 < nf ks := by
  intro a ha
  obtain ⟨j, hj, rfl⟩ := mem_pairs.1 ha
  exact ⟨hm.syst.at (by omega) (by omega) hf, hk.syst.at (by omega) (by omega) ho⟩
/-- what is known after i flags -/
structure Mb (ms ks : List (List Int)) (flag : Int) (i : Nat) (o r : List Int) : Prop where
  st : St (nf ms) (nf ks) o r
  z0 : gi o 0 = flag
  dn : ∀ q : Nat, q < i → q < r.length → ∀ j : Nat, j < ms.length → gi o (gi (gr ms j) (gi r q)) = gi (gr ks j) (gi o (gi r q))
theorem Mb.at (hm : IsMan ms) (hk : IsMan ks) (hl : ms.length = ks.length) (hf : 0 ≤ flag ∧ flag < nf ks) : ∀ i o r, mbfs ms ks flag i = some (o, r) → Mb ms ks flag i o r
  | 0, o, r, e => by
    have h2 := hm.m0.f2
    simp only [mbfs, Option.some.injEq, Prod.mk.injEq] at e
    obtain ⟨rfl, rfl⟩ := e
    have g : gi (seti (List.replicate (nf ms) (-1)) 0 flag) 0 = flag := by rw [gi_seti _ _ _ _ (by omega) (by simp; omega) (by omega), if_pos rfl]
    refine ⟨⟨Mp.start (by omega) hf, fun x h0 hx hg => ?_⟩, g, fun q hq => by omega⟩
    rw [gi_seti _ _ _ _ (by omega) (by simp; omega) h0] at hg
    split at hg
    · rename_i e; subst e; simp
    · have : x.toNat < nf ms := by omega
      simp [gi, List.getD, this] at hg
  | i + 1, o, r, e => by
    unfold mbfs at e
    split at e
    · simp at e
    · rename_i o0 r0 h0
      have ih := Mb.at hm hk hl hf i o0 r0 h0
      split at e
      · rename_i hlt
        have hr := ih.st.mp.rr (gi r0 i) (gi_in hlt)
        have ho := ih.st.mp.rng (gi r0 i) hr.1 hr.2.1
        obtain ⟨h1, e1, k1, t, rfl⟩ := St.fold _ ih.st (pairs_rng hm hk hl ⟨hr.1, hr.2.1⟩ ⟨hr.2.2, ho.2⟩) e
        refine ⟨h1, ?_, fun q hq hql j hj => ?_⟩
        · rw [k1 0 (by omega) (by rw [ih.z0]; exact hf.1), ih.z0]
        · have hq0 : q < r0.length := by omega
          have eq : gi (r0 ++ t) q = gi r0 q := gi_pre hq0
          have hrq := ih.st.mp.rr (gi r0 q) (gi_in hq0)
          rw [eq, k1 _ hrq.1 hrq.2.2]
          by_cases hqi : q = i
          · subst hqi
            exact e1 _ (mem_pairs.2 ⟨j, hj, rfl⟩)
          · have hd := ih.dn q (by omega) hq0 j hj
            have hy := hm.syst.at (j := (j : Int)) (by omega) (by omega) ⟨hrq.1, hrq.2.1⟩
            have hoq := ih.st.mp.rng _ hrq.1 hrq.2.1
            have hv := hk.syst.at (j := (j : Int)) (by omega) (by omega) ⟨hrq.2.2, hoq.2⟩
            rw [k1 _ hy.1 (by rw [hd]; exact hv.1)]
            exact hd
      · rename_i hlt
        simp only [Option.some.injEq, Prod.mk.injEq] at e
        obtain ⟨rfl, rfl⟩ := e
        exact ⟨ih.st, ih.z0, fun q _ hql => ih.dn q (by omega) hql⟩
theorem mapTo_hom (hm : IsMan ms) (hk : IsMan ks) (hl : ms.length = ks.length) (hf : 0 ≤ flag ∧ flag < nf ks) (h : mapTo ms ks flag = some p) : Hom ms ks p ∧ gi p 0 = flag := by
  unfold mapTo at h
  rw [Option.map_eq_some_iff] at h
  obtain ⟨⟨o, r⟩, h1, rfl⟩ := h
  have hb := Mb.at hm hk hl hf _ o r h1
  have h4 := hm.m0.f400
  have h2 := hm.m0.f2
  have hle := hb.st.mp.le
  have hall : ∀ x : Int, Rch ms 0 x → x ∈ r := fun x hr => by
    induction hr with
    | refl => exact hb.st.all 0 (by omega) (by omega) (by rw [hb.z0]; exact hf.1)
    | @step y m hr hmm ih =>
      obtain ⟨q, hq, rfl⟩ := in_gi ih
      obtain ⟨j, hj, rfl⟩ := mem_gr hmm
      have hrq := hb.st.mp.rr _ ih
      have hoq := hb.st.mp.rng _ hrq.1 hrq.2.1
      have hy := hm.syst.at (j := (j : Int)) (by omega) (by omega) ⟨hrq.1, hrq.2.1⟩
      have hv := hk.syst.at (j := (j : Int)) (by omega) (by omega) ⟨hrq.2.2, hoq.2⟩
      exact hb.st.all _ hy.1 hy.2 (by rw [hb.dn q (by omega) hq j hj]; exact hv.1)
  refine ⟨⟨hb.st.mp.len, fun x h0 hx => ?_, fun j hj x h0 hx => ?_⟩, hb.z0⟩
  · have hxr := hb.st.mp.rr x (hall x (hm.all h0 hx))
    exact ⟨hxr.2.2, (hb.st.mp.rng x h0 hx).2⟩
  · obtain ⟨q, hq, rfl⟩ := in_gi (hall x (hm.all h0 hx))
    exact hb.dn q (by omega) hq j hj

theorem step_agree {a : Int × Int} (h : ∀ x : Int, 0 ≤ x → 0 ≤ gi o x → gi o x = gi p x) (hl : o.length = n) (hx : 0 ≤ a.1 ∧ a.1 < n) (e : gi p a.1 = a.2) :
    ∃ o' r', mapStep (some (o, r)) a = some (o', r') ∧ o'.length = n ∧ ∀ x : Int, 0 ≤ x → 0 ≤ gi o' x → gi o' x = gi p x := by
  by_cases hn : gi o a.1 < 0
  · refine ⟨_, _, by simp only [mapStep]; rw [if_pos hn], by simp [hl], fun x h0 hg => ?_⟩
    rw [gi_seti _ _ _ _ hx.1 (by omega) h0] at hg ⊢
    split
    · rename_i e'; subst e'; exact e.symm
    · rename_i e'; rw [if_neg e'] at hg; exact h x h0 hg
  · exact ⟨o, r, by simp only [mapStep]; rw [if_neg hn, if_pos (by rw [← e]; exact h _ hx.1 (by omega))], hl, h⟩
theorem fold_agree : ∀ (l : List (Int × Int)) {o r : List Int}, (∀ x : Int, 0 ≤ x → 0 ≤ gi o x → gi o x = gi p x) → o.length = n → (∀ a ∈ l, (0 ≤ a.1 ∧ a.1 < n) ∧ gi p a.1 = a.2) →
    ∃ o' r', l.foldl mapStep (some (o, r)) = some (o', r') ∧ ∀ x : Int, 0 ≤ x → 0 ≤ gi o' x → gi o' x = gi p x
  | [], o, r, h, _, _ => ⟨o, r, rfl, h⟩
  | a :: l, o, r, h, hl, ha => by
    obtain ⟨o1, r1, e1, l1, h1⟩ := step_agree (r := r) h hl (ha a (by simp)).1 (ha a (by simp)).2
    simp only [List.foldl]
    rw [e1]
    exact fold_agree l h1 l1 (fun b hb => ha b (List.mem_cons_of_mem _ hb))
theorem mbfs_agree (hm : IsMan ms) (hk : IsMan ks) (hl : ms.length = ks.length) (hp : Hom ms ks p) : ∀ i, ∃ o r, mbfs ms ks (gi p 0) i = some (o, r) ∧ ∀ x : Int, 0 ≤ x → 0 ≤ gi o x → gi o x = gi p x
  | 0 => by
    have h2 := hm.m0.f2
    refine ⟨_, _, rfl, fun x h0 hg => ?_⟩
    rw [gi_seti _ _ _ _ (by omega) (by simp; omega) h0] at hg ⊢
    split
    · rename_i e; subst e; rfl
    · rename_i e
      rw [if_neg e] at hg
      by_cases hx : x.toNat < nf ms
      · simp [gi, List.getD, hx] at hg
      · by_cases h' : x.toNat < p.length
        · have := hp.len; omega
        · simp [gi, List.getD, hx, h']
  | i + 1 => by
    have h2 := hm.m0.f2
    obtain ⟨o, r, e, h⟩ := mbfs_agree hm hk hl hp i
    have hb := Mb.at hm hk hl (hp.rng 0 (by omega) (by omega)) _ _ _ e
    by_cases hlt : i < r.length
    · rw [mbfs_succ e hlt]
      have hr := hb.st.mp.rr (gi r i) (gi_in hlt)
      refine fold_agree _ h hb.st.mp.len fun a ha => ?_
      have hrg := pairs_rng hm hk hl ⟨hr.1, hr.2.1⟩ ⟨hr.2.2, (hb.st.mp.rng _ hr.1 hr.2.1).2⟩ a ha
      refine ⟨hrg.1, ?_⟩
      obtain ⟨j, hj, rfl⟩ := mem_pairs.1 ha
      simp only
      rw [hp.mv j hj _ hr.1 hr.2.1, h _ hr.1 hr.2.2]
    · exact ⟨o, r, by unfold mbfs; rw [e]; simp only; rw [if_neg hlt], h⟩
theorem Hom.map (hm : IsMan ms) (hk : IsMan ks) (hl : ms.length = ks.length) (hp : Hom ms ks p) : mapTo ms ks (gi p 0) = some p := by
  have h2 := hm.m0.f2
  obtain ⟨o, r, e, h⟩ := mbfs_agree hm hk hl hp 1000
  have e1 : mapTo ms ks (gi p 0) = some o := by unfold mapTo; rw [e]; rfl
  obtain ⟨ho, _⟩ := mapTo_hom hm hk hl (hp.rng 0 (by omega) (by omega)) e1
  rw [e1]
  refine congrArg some (list_ext_gi (by rw [ho.len, hp.len]) fun x h0 hx => ?_)
  rw [ho.len] at hx
  exact h x h0 (ho.rng x h0 hx).1
theorem mapT_iff (hm : IsMan ms) (hk : IsMan ks) (hf : 0 ≤ flag ∧ flag < nf ks) : mapT ms ks flag = some p ↔ ms.length = ks.length ∧ Hom ms ks p ∧ gi p 0 = flag := by
  unfold mapT
  split
  · rename_i hl
    constructor
    · intro h; exact ⟨hl, mapTo_hom hm hk hl hf h⟩
    · rintro ⟨_, h, rfl⟩; exact h.map hm hk hl
  · rename_i hl
    simp [hl]
theorem mem_covers (hm : IsMan ms) (hk : IsMan ks) : p ∈ covers ms ks (nf ks) ↔ ms.length = ks.length ∧ Hom ms ks p := by
  have h2 := hm.m0.f2
  constructor
  · intro h
    obtain ⟨f, hf, e⟩ := covers_mem h
    have := (mapT_iff hm hk ⟨by omega, by omega⟩).1 e
    exact ⟨this.1, this.2.1⟩
  · rintro ⟨hl, hp⟩
    have h0 := hp.rng 0 (by omega) (by omega)
    have e := (mapT_iff hm hk h0).2 ⟨hl, hp, rfl⟩
    unfold covers
    refine List.mem_filterMap.2 ⟨(gi p 0).toNat, List.mem_range.2 (by omega), ?_⟩
    rw [show (((gi p 0).toNat : Nat) : Int) = gi p 0 by omega]
    exact e
theorem covers_full (ms ks : List (List Int)) : ∀ n : Nat, (covers ms ks n).length = n ↔ ∀ f : Nat, f < n → ∃ p, mapT ms ks f = some p
  | 0 => by simp [covers]
  | n + 1 => by
    have ih := covers_full ms ks n
    have hle := covers_le ms ks n
    cases h : mapT ms ks n with
    | none =>
      rw [covers_none h]
      constructor
      · intro e; omega
      · intro ha
        obtain ⟨p, hp⟩ := ha n (by omega)
        rw [h] at hp; simp at hp
    | some q =>
      rw [covers_some h]
      simp only [List.length_append, List.length_singleton, Nat.add_right_cancel_iff]
      rw [ih]
      constructor
      · intro ha f hf
        by_cases hfn : f = n
        · subst hfn; exact ⟨q, h⟩
        · exact ha f (by omega)
      · intro ha f hf; exact ha f (by omega)
end
end Go.Mem

/- Plain words on lists: maps that agree with the moves, done one after the other; automorphisms. No program in sight. -/
namespace Go.Mem
/-- first p, then q -/
def aft (p q : List Int) : List Int := p.map (gi q)
def idl (n : Nat) : List Int := (List.range n).map fun i : Nat => (i : Int)
theorem gi_aft {p q : List Int} {x : Int} (h0 : 0 ≤ x) (hx : x < p.length) : gi (aft p q) x = gi q (gi p x) := by
  have : x.toNat < p.length := by omega
  simp [aft, gi, List.getD, this]
theorem gi_idl {n : Nat} {x : Int} (h0 : 0 ≤ x) (hx : x < n) : gi (idl n) x = x := by
  unfold idl
  rw [gi_range_map h0 hx]; omega
@[simp] theorem length_aft (p q : List Int) : (aft p q).length = p.length := by simp [aft]
@[simp] theorem length_idl (n : Nat) : (idl n).length = n := by simp [idl]
theorem surj_nodup {n : Nat} {p : List Int} (hl : p.length = n) (h : ∀ x : Int, 0 ≤ x → x < n → x ∈ p) : p.Nodup := by
  rw [List.nodup_iff_pairwise_ne, List.pairwise_iff_getElem]
  intro i j hi hj hij e
  have hsub := List.Nodup.length_le_of_subset (l₁ := idl n) (l₂ := p.eraseIdx j) (by
    unfold idl
    exact List.pairwise_map.2 (List.nodup_range.imp fun h e => h (by omega))) (by
    intro x hx
    obtain ⟨k, hk, rfl⟩ := List.mem_map.1 hx
    have := List.mem_range.1 hk
    obtain ⟨q, hq, e2⟩ := List.mem_iff_getElem.1 (h k (by omega) (by omega))
    rw [List.mem_eraseIdx_iff_getElem]
    by_cases hqj : q = j
    · subst hqj; exact ⟨i, hi, by omega, by rw [e, e2]⟩
    · exact ⟨q, hq, hqj, e2⟩)
  rw [List.length_eraseIdx_of_lt hj] at hsub
  simp at hsub
  omega
theorem gi_inj {p : List Int} (h : p.Nodup) {a b : Int} (ha : 0 ≤ a ∧ a < p.length) (hb : 0 ≤ b ∧ b < p.length) (e : gi p a = gi p b) : a = b := by
  have h1 : a.toNat < p.length := by omega
  have h2 : b.toNat < p.length := by omega
  simp only [gi, List.getD, List.getElem?_eq_getElem h1, List.getElem?_eq_getElem h2, Option.getD_some] at e
  rw [List.nodup_iff_pairwise_ne, List.pairwise_iff_getElem] at h
  rcases Nat.lt_trichotomy a.toNat b.toNat with hlt | he | hgt
  · exact absurd e (h _ _ h1 h2 hlt)
  · omega
  · exact absurd e.symm (h _ _ h2 h1 hgt)

section
variable {ms ks ls : List (List Int)} {p q : List Int}
theorem Hom.idl (hm : IsMan ms) : Hom ms ms (idl (nf ms)) := by
  refine ⟨by simp, fun x h0 hx => by rw [gi_idl h0 hx]; exact ⟨h0, hx⟩, fun j hj x h0 hx => ?_⟩
  have hy := hm.syst.at (j := (j : Int)) (by omega) (by omega) ⟨h0, hx⟩
  rw [gi_idl h0 hx, gi_idl hy.1 hy.2]
theorem Hom.aft (hp : Hom ms ks p) (hq : Hom ks ls q) (hm : IsMan ms) (hl : ms.length = ks.length) : Hom ms ls (aft p q) := by
  refine ⟨by simp [hp.len], fun x h0 hx => ?_, fun j hj x h0 hx => ?_⟩
  · rw [gi_aft h0 (by rw [hp.len]; exact hx)]
    have := hp.rng x h0 hx
    exact hq.rng _ this.1 this.2
  · have hy := hm.syst.at (j := (j : Int)) (by omega) (by omega) ⟨h0, hx⟩
    have := hp.rng x h0 hx
    rw [gi_aft h0 (by rw [hp.len]; exact hx), gi_aft hy.1 (by rw [hp.len]; exact hy.2), hp.mv j hj x h0 hx, hq.mv j (by omega) _ this.1 this.2]
theorem Hom.same (hm : IsMan ms) (hp : Hom ms ks p) (hq : Hom ms ks q) {a : Int} (ha : 0 ≤ a ∧ a < nf ms) (e : gi p a = gi q a) : p = q := by
  have h2 := hm.m0.f2
  have ha0 : Rch ms a 0 := hm.sym.back 0 a (by omega) (by omega) (hm.all ha.1 ha.2)
  refine list_ext_gi (by rw [hp.len, hq.len]) fun x h0 hx => ?_
  rw [hp.len] at hx
  have hr : Rch ms a x := ha0.trans (hm.all h0 hx)
  clear h0 hx
  induction hr with
  | refl => exact e
  | @step y m hr hmm ih =>
    obtain ⟨j, hj, rfl⟩ := mem_gr hmm
    have hy := hr.rng hm.syst ha
    rw [hp.mv j hj y hy.1 hy.2, hq.mv j hj y hy.1 hy.2, ih]
theorem Hom.onto (hm : IsMan ms) (hk : IsMan ks) (hl : ms.length = ks.length) (hp : Hom ms ks p) {y : Int} (h0 : 0 ≤ y) (hy : y < nf ks) : ∃ x : Int, 0 ≤ x ∧ x < nf ms ∧ gi p x = y := by
  have h2 := hm.m0.f2
  have hk2 := hk.m0.f2
  have h00 := hp.rng 0 (by omega) (by omega)
  have hr : Rch ks (gi p 0) y := (hk.sym.back 0 _ (by omega) (by omega) (hk.all h00.1 h00.2)).trans (hk.all h0 hy)
  clear h0 hy
  induction hr with
  | refl => exact ⟨0, by omega, by omega, rfl⟩
  | @step y m hr hmm ih =>
    obtain ⟨x, hx0, hx, rfl⟩ := ih
    obtain ⟨j, hj, rfl⟩ := mem_gr hmm
    have hv := hm.syst.at (j := (j : Int)) (by omega) (by omega) ⟨hx0, hx⟩
    exact ⟨_, hv.1, hv.2, hp.mv j (by omega) x hx0 hx⟩
theorem Hom.nodup (hm : IsMan ms) (hk : IsMan ks) (hl : ms.length = ks.length) (hn : nf ms = nf ks) (hp : Hom ms ks p) : p.Nodup := by
  refine surj_nodup hp.len fun y h0 hy => ?_
  obtain ⟨x, hx0, hx, e⟩ := hp.onto hm hk hl h0 (by omega)
  rw [← e]
  exact gi_mem hx0 (by rw [hp.len]; exact hx)
/-- the inverse -/
theorem Hom.inv (hm : IsMan ms) (hk : IsMan ks) (hl : ms.length = ks.length) (hn : nf ms = nf ks) (hp : Hom ms ks p) :
    ∃ q, Hom ks ms q ∧ (∀ x : Int, 0 ≤ x → x < nf ms → gi q (gi p x) = x) ∧ ∀ y : Int, 0 ≤ y → y < nf ks → gi p (gi q y) = y := by
  have hc : ∀ y : Nat, ∃ x : Int, y < nf ks → 0 ≤ x ∧ x < nf ms ∧ gi p x = y := fun y => by
    by_cases h : y < nf ks
    · obtain ⟨x, h1⟩ := hp.onto hm hk hl (y := y) (by omega) (by omega)
      exact ⟨x, fun _ => h1⟩
    · exact ⟨0, fun h' => absurd h' h⟩
  obtain ⟨g, hg⟩ := Classical.axiomOfChoice hc
  have gq : ∀ y : Int, 0 ≤ y → y < nf ks → 0 ≤ gi ((List.range (nf ks)).map g) y ∧ gi ((List.range (nf ks)).map g) y < nf ms ∧ gi p (gi ((List.range (nf ks)).map g) y) = y := fun y h0 hy => by
    rw [gi_range_map h0 hy]
    have := hg y.toNat (by omega)
    refine ⟨this.1, this.2.1, by omega⟩
  have hinj := hp.nodup hm hk hl hn
  have hlp := hp.len
  refine ⟨(List.range (nf ks)).map g, ⟨by simp, fun y h0 hy => ⟨(gq y h0 hy).1, (gq y h0 hy).2.1⟩, fun j hj y h0 hy => ?_⟩, fun x h0 hx => ?_, fun y h0 hy => (gq y h0 hy).2.2⟩
  · have hv := hk.syst.at (j := (j : Int)) (by omega) (by omega) ⟨h0, hy⟩
    have hq := gq y h0 hy
    have hx := hm.syst.at (j := (j : Int)) (by omega) (by omega) ⟨hq.1, hq.2.1⟩
    have hq2 := gq _ hv.1 hv.2
    exact gi_inj hinj ⟨hq2.1, by rw [hlp]; exact hq2.2.1⟩ ⟨hx.1, by rw [hlp]; exact hx.2⟩ (by rw [hq2.2.2, hp.mv j (by omega) _ hq.1 hq.2.1, hq.2.2])
  · have hr := hp.rng x h0 hx
    have hq := gq _ hr.1 hr.2
    exact gi_inj hinj ⟨hq.1, by rw [hlp]; exact hq.2.1⟩ ⟨h0, by rw [hlp]; exact hx⟩ hq.2.2

/-- all automorphisms -/
def auts (ms : List (List Int)) : List (List Int) := covers ms ms (nf ms)
theorem mem_auts (hm : IsMan ms) : p ∈ auts ms ↔ Hom ms ms p := by
  unfold auts
  rw [mem_covers hm hm]
  simp
theorem auts_syst (hm : IsMan ms) : Syst (nf ms) (auts ms) := fun p hp => by
  have h := (mem_auts hm).1 hp
  refine ⟨h.len, fun x hx => ?_⟩
  obtain ⟨i, hi, e⟩ := in_gi hx
  rw [← e]
  exact h.rng i (by omega) (by rw [← h.len]; omega)
theorem auts_sym (hm : IsMan ms) : Sym (nf ms) (auts ms) := by
  refine ⟨auts_syst hm, fun x y h0 hx hr => ?_⟩
  induction hr with
  | refl => exact .refl _
  | @step y p hr hpa ih =>
    obtain ⟨q, hq, e, _⟩ := ((mem_auts hm).1 hpa).inv hm hm rfl rfl
    have hy := hr.rng (auts_syst hm) ⟨h0, hx⟩
    refine Rch.head (m := q) ((mem_auts hm).2 hq) ?_
    rw [e y hy.1 hy.2]
    exact ih
theorem auts_rch (hm : IsMan ms) {x y : Int} (hx : 0 ≤ x ∧ x < nf ms) : Rch (auts ms) x y ↔ ∃ p, Hom ms ms p ∧ gi p x = y := by
  constructor
  · intro h
    induction h with
    | refl => exact ⟨_, Hom.idl hm, gi_idl hx.1 hx.2⟩
    | step hr hq ih =>
      obtain ⟨p, hp, rfl⟩ := ih
      refine ⟨_, hp.aft ((mem_auts hm).1 hq) hm rfl, gi_aft hx.1 (by rw [hp.len]; exact hx.2)⟩
  · rintro ⟨p, hp, rfl⟩
    exact .step (.refl _) ((mem_auts hm).2 hp)
theorem regular_iff (hm : IsMan ms) : (auts ms).length = nf ms ↔ labc (nf ms) (auts ms) = 1 := by
  have h2 := hm.m0.f2
  have h4 := hm.m0.f400
  rw [labc_one (auts_sym hm) (by omega) (by omega)]
  unfold auts
  rw [covers_full]
  constructor
  · intro h x h0 hx
    obtain ⟨p, hp⟩ := h x.toNat (by omega)
    rw [show ((x.toNat : Nat) : Int) = x by omega] at hp
    have := (mapT_iff hm hm ⟨h0, hx⟩).1 hp
    exact (auts_rch hm (by omega)).2 ⟨p, this.2.1, this.2.2⟩
  · intro h f hf
    obtain ⟨p, hp, e⟩ := (auts_rch hm (x := 0) (by omega)).1 (h f (by omega) (by omega))
    exact ⟨p, (mapT_iff hm hm ⟨by omega, by omega⟩).2 ⟨rfl, hp, e⟩⟩
end
end Go.Mem

/- Plain words on lists: what the functions on automorphisms and coverings come to. No program in sight. -/
namespace Go.Mem
/-- the code of a maniplex -/
noncomputable def manC (ms : List (List Int)) : Int := if IsMan ms then 0 else 1
theorem manC_yes {ms : List (List Int)} (h : IsMan ms) : manC ms = 0 := if_pos h
theorem manC_no {ms : List (List Int)} (h : ¬ IsMan ms) : manC ms = 1 := if_neg h
section
variable {ms ks : List (List Int)} {f : Int}
theorem mapT_self : mapT ms ms f = mapTo ms ms f := if_pos rfl
theorem opt_len {o : Option (List Int)} {n : Nat} (h : ∀ p, o = some p → p.length ≤ n) : (o.getD []).length ≤ n := by
  cases o with
  | none => simp
  | some p => exact h p rfl

noncomputable def autTo (ms : List (List Int)) (f : Int) : List Int := if IsMan ms ∧ 0 ≤ f ∧ f < nf ms then (mapTo ms ms f).getD [] else []
noncomputable def autToC (ms : List (List Int)) (f : Int) : Int := if IsMan ms then (if 0 ≤ f ∧ f < nf ms then (if (mapTo ms ms f).isSome then 0 else 4) else 2) else 1
theorem autTo_1 (h : ¬ IsMan ms) : autTo ms f = [] ∧ autToC ms f = 1 := ⟨if_neg fun h' => h h'.1, if_neg h⟩
theorem autTo_2 (hm : IsMan ms) (h : ¬ (0 ≤ f ∧ f < nf ms)) : autTo ms f = [] ∧ autToC ms f = 2 := ⟨if_neg fun h' => h h'.2, by unfold autToC; rw [if_pos hm, if_neg h]⟩
theorem autTo_3 (hm : IsMan ms) (h : 0 ≤ f ∧ f < nf ms) (e : (mapTo ms ms f).isSome = false) : autTo ms f = [] ∧ autToC ms f = 4 := by
  constructor
  · unfold autTo; rw [if_pos ⟨hm, h⟩]; rw [Option.isSome_eq_false_iff, Option.isNone_iff_eq_none] at e; rw [e]; rfl
  · unfold autToC; rw [if_pos hm, if_pos h, e]; rfl
theorem autTo_4 (hm : IsMan ms) (h : 0 ≤ f ∧ f < nf ms) (e : (mapTo ms ms f).isSome = true) : autTo ms f = (mapTo ms ms f).getD [] ∧ autToC ms f = 0 := by
  constructor
  · unfold autTo; rw [if_pos ⟨hm, h⟩]
  · unfold autToC; rw [if_pos hm, if_pos h, e]; rfl
theorem autTo_len (ms : List (List Int)) (f : Int) : (autTo ms f).length ≤ 4000000000000000000 := by
  unfold autTo
  split
  · rename_i h
    have := h.1.m0.f400
    have := opt_len (o := mapTo ms ms f) (n := nf ms) fun p hp => by rw [mapTo_len hp]; exact Nat.le_refl _
    omega
  · simp

noncomputable def autAll (ms : List (List Int)) : List (List Int) := if IsMan ms then auts ms else []
theorem autAll_yes (h : IsMan ms) : autAll ms = auts ms := if_pos h
theorem autAll_no (h : ¬ IsMan ms) : autAll ms = [] := if_neg h
theorem rows_tot {n : Nat} {xss : List (List Int)} (hl : xss.length ≤ n) (h : ∀ xs ∈ xss, xs.length ≤ n) (hn : n ≤ 1000000) : 1 + tot xss ≤ 4000000000000000000 := by
  have h1 := tot_le (xss := xss) (c := n) fun xs hx => by have := h xs hx; omega
  have h2 : (xss.length : Int) * n ≤ n * n := Int.mul_le_mul_of_nonneg_right (by omega) (by omega)
  have h3 : (n : Int) * n ≤ 1000000 * n := Int.mul_le_mul_of_nonneg_right (by omega) (by omega)
  omega
theorem autAll_len (ms : List (List Int)) : 1 + tot (autAll ms) ≤ 4000000000000000000 := by
  unfold autAll
  split
  · rename_i h
    have h4 := h.m0.f400
    exact rows_tot (n := nf ms) (covers_le _ _ _) (fun xs hx => by obtain ⟨f, _, e⟩ := covers_mem hx; rw [mapT_len e]; exact Nat.le_refl _) (by omega)
  · simp [tot]

noncomputable def covOf (ms ks : List (List Int)) : List Int := if IsMan ms ∧ IsMan ks then ((covers ms ks (nf ks)).head?).getD [] else []
noncomputable def covOfC (ms ks : List (List Int)) : Int := if IsMan ms ∧ IsMan ks then (if (covers ms ks (nf ks)).length = 0 then 4 else 0) else 1
theorem covOf_1 (h : ¬ (IsMan ms ∧ IsMan ks)) : covOf ms ks = [] ∧ covOfC ms ks = 1 := ⟨if_neg h, if_neg h⟩
theorem covOf_2 (hm : IsMan ms) (hk : IsMan ks) (h : (covers ms ks (nf ks)).length = 0) : covOf ms ks = [] ∧ covOfC ms ks = 4 := by
  constructor
  · unfold covOf; rw [if_pos ⟨hm, hk⟩, List.length_eq_zero_iff.1 h]; rfl
  · unfold covOfC; rw [if_pos ⟨hm, hk⟩, if_pos h]
theorem covOf_3 (hm : IsMan ms) (hk : IsMan ks) (h : ¬ (covers ms ks (nf ks)).length = 0) : covOf ms ks = gr (covers ms ks (nf ks)) 0 ∧ covOfC ms ks = 0 := by
  constructor
  · unfold covOf; rw [if_pos ⟨hm, hk⟩]
    cases covers ms ks (nf ks) <;> rfl
  · unfold covOfC; rw [if_pos ⟨hm, hk⟩, if_neg h]
theorem covOf_len (ms ks : List (List Int)) : (covOf ms ks).length ≤ 4000000000000000000 := by
  unfold covOf
  split
  · rename_i h
    have := h.1.m0.f400
    have := opt_len (o := (covers ms ks (nf ks)).head?) (n := nf ms) fun p hp => by
      have hx : p ∈ covers ms ks (nf ks) := List.mem_of_mem_head? hp
      obtain ⟨f, _, e⟩ := covers_mem hx; rw [mapT_len e]; exact Nat.le_refl _
    omega
  · simp

noncomputable def isoTo (ms ks : List (List Int)) : List Int := if IsMan ms ∧ IsMan ks then (isoOf ms ks).getD [] else []
noncomputable def isoToC (ms ks : List (List Int)) : Int := if IsMan ms ∧ IsMan ks then (if (isoOf ms ks).isSome then 0 else 4) else 1
theorem isoTo_1 (h : ¬ (IsMan ms ∧ IsMan ks)) : isoTo ms ks = [] ∧ isoToC ms ks = 1 := ⟨if_neg h, if_neg h⟩
theorem isoTo_2 (hm : IsMan ms) (hk : IsMan ks) (e : (isoOf ms ks).isSome = false) : isoTo ms ks = [] ∧ isoToC ms ks = 4 := by
  constructor
  · unfold isoTo; rw [if_pos ⟨hm, hk⟩]; rw [Option.isSome_eq_false_iff, Option.isNone_iff_eq_none] at e; rw [e]; rfl
  · unfold isoToC; rw [if_pos ⟨hm, hk⟩, e]; rfl
theorem isoTo_3 (hm : IsMan ms) (hk : IsMan ks) (e : (isoOf ms ks).isSome = true) : isoTo ms ks = (isoOf ms ks).getD [] ∧ isoToC ms ks = 0 := by
  constructor
  · unfold isoTo; rw [if_pos ⟨hm, hk⟩]
  · unfold isoToC; rw [if_pos ⟨hm, hk⟩, e]; rfl
theorem isoTo_len (ms ks : List (List Int)) : (isoTo ms ks).length ≤ 4000000000000000000 := by
  unfold isoTo
  split
  · rename_i h
    have := h.1.m0.f400
    have := opt_len (o := isoOf ms ks) (n := nf ms) fun p hp => by
      unfold isoOf at hp
      split at hp
      · have hx : p ∈ covers ms ks (nf ks) := List.mem_of_mem_head? hp
        obtain ⟨f, _, e⟩ := covers_mem hx; rw [mapT_len e]; exact Nat.le_refl _
      · simp at hp
    omega
  · simp

noncomputable def flagOrb (ms : List (List Int)) : List Int := if IsMan ms then labs (nf ms) (auts ms) else []
theorem flagOrb_yes (h : IsMan ms) : flagOrb ms = labs (nf ms) (auts ms) := if_pos h
theorem flagOrb_no (h : ¬ IsMan ms) : flagOrb ms = [] := if_neg h
theorem flagOrb_len (ms : List (List Int)) : (flagOrb ms).length ≤ 4000000000000000000 := by
  unfold flagOrb
  split
  · rename_i h
    have h4 := h.m0.f400
    rw [(labs_all (auts_sym h) (by omega)).len]; omega
  · simp
noncomputable def isReg (ms : List (List Int)) : Bool := if IsMan ms then decide (labc (nf ms) (auts ms) = 1) else false
theorem isReg_yes (h : IsMan ms) : isReg ms = decide (labc (nf ms) (auts ms) = 1) := if_pos h
theorem isReg_no (h : ¬ IsMan ms) : isReg ms = false := if_neg h
theorem isReg_cnt (h : IsMan ms) : isReg ms = decide (((auts ms).length : Int) = (nf ms : Int)) := by
  rw [isReg_yes h, decide_eq_decide, ← regular_iff h]
  omega
theorem auts_le (h : IsMan ms) : (auts ms).length ≤ 400 := by
  have := covers_le ms ms (nf ms)
  have := h.m0.f400
  unfold auts; omega
end
end Go.Mem

/- Plain words on lists: the same number laid at many places; the least number above all of a list. No program in sight. -/
namespace Go.Mem
def setAll (L : List Int) (c : Int) (xs : List Int) : List Int := xs.foldl (fun L x => seti L x c) L
@[simp] theorem length_setAll (c : Int) : ∀ (xs L : List Int), (setAll L c xs).length = L.length
  | [], _ => rfl
  | x :: xs, L => by
    show (setAll (seti L x c) c xs).length = _
    rw [length_setAll c xs]; simp
theorem setAll_take_succ {L : List Int} {c : Int} {xs : List Int} {k : Nat} (h : k < xs.length) : setAll L c (xs.take (k + 1)) = seti (setAll L c (xs.take k)) (gi xs k) c := by
  rw [take_gi h]
  simp [setAll, List.foldl_append]
theorem gi_setAll {n : Nat} (c : Int) : ∀ (xs L : List Int), L.length = n → (∀ x ∈ xs, 0 ≤ x ∧ x < n) → ∀ y : Int, 0 ≤ y → gi (setAll L c xs) y = if y ∈ xs then c else gi L y
  | [], L, _, _, y, _ => by simp [setAll]
  | x :: xs, L, hl, h, y, h0 => by
    have hx := h x (by simp)
    show gi (setAll (seti L x c) c xs) y = _
    rw [gi_setAll c xs (seti L x c) (by simpa using hl) (fun z hz => h z (List.mem_cons_of_mem _ hz)) y h0, gi_seti _ _ _ _ hx.1 (by omega) h0]
    by_cases h1 : y ∈ xs
    · rw [if_pos h1, if_pos (List.mem_cons_of_mem _ h1)]
    · rw [if_neg h1]
      by_cases h2 : y = x
      · rw [if_pos h2, if_pos (by rw [h2]; simp)]
      · rw [if_neg h2, if_neg (by simp [h1, h2])]
theorem setAll_orbit {n : Nat} {ms : List (List Int)} {L : List Int} {c i : Int} (hs : Syst n ms) (hi : 0 ≤ i ∧ i < n) (hn : n ≤ 1000) (hl : L.length = n) : setAll L c (orbit ms i) = lab1 ms L c i := by
  have ho : ∀ x ∈ orbit ms i, 0 ≤ x ∧ x < n := fun x hx => ((mem_orbit hs hi hn).1 hx).rng hs hi
  refine list_ext_gi (by rw [length_setAll, length_lab1]) fun x h0 hx => ?_
  rw [length_setAll] at hx
  rw [gi_setAll c _ _ hl ho x h0, gi_lab1 h0 hx]

/-- the least number that is above all (0, if there are none) -/
def gre (xs : List Int) : Int := xs.foldl (fun m x => if m ≤ x then x + 1 else m) 0
theorem gre_take_succ {xs : List Int} {k : Nat} (h : k < xs.length) : gre (xs.take (k + 1)) = if gre (xs.take k) ≤ gi xs k then gi xs k + 1 else gre (xs.take k) := by
  rw [take_gi h]
  unfold gre
  rw [List.foldl_append]
  rfl
theorem gre_inv : ∀ (xs : List Int) (m : Int), 0 ≤ m → m ≤ xs.foldl (fun m x => if m ≤ x then x + 1 else m) m ∧ (∀ x ∈ xs, x < xs.foldl (fun m x => if m ≤ x then x + 1 else m) m) ∧
    (xs.foldl (fun m x => if m ≤ x then x + 1 else m) m = m ∨ ∃ x ∈ xs, xs.foldl (fun m x => if m ≤ x then x + 1 else m) m = x + 1)
  | [], m, _ => by simp
  | x :: xs, m, h => by
    simp only [List.foldl_cons]
    by_cases hx : m ≤ x
    · rw [if_pos hx]
      obtain ⟨a, b, c⟩ := gre_inv xs (x + 1) (by omega)
      refine ⟨by omega, fun y hy => ?_, ?_⟩
      · rcases List.mem_cons.1 hy with rfl | hy
        · omega
        · exact b y hy
      · rcases c with c | ⟨y, hy, c⟩
        · exact .inr ⟨x, by simp, c⟩
        · exact .inr ⟨y, List.mem_cons_of_mem _ hy, c⟩
    · rw [if_neg hx]
      obtain ⟨a, b, c⟩ := gre_inv xs m h
      refine ⟨a, fun y hy => ?_, ?_⟩
      · rcases List.mem_cons.1 hy with rfl | hy
        · omega
        · exact b y hy
      · rcases c with c | ⟨y, hy, c⟩
        · exact .inl c
        · exact .inr ⟨y, List.mem_cons_of_mem _ hy, c⟩
theorem gre_eq {xs : List Int} {c : Int} (h0 : 0 ≤ c) (h : ∀ x ∈ xs, x < c) (hc : c = 0 ∨ c - 1 ∈ xs) : gre xs = c := by
  obtain ⟨a, b, d⟩ := gre_inv xs 0 (by omega)
  show xs.foldl _ 0 = c
  have h1 : c ≤ xs.foldl (fun m x => if m ≤ x then x + 1 else m) 0 := by
    rcases hc with hc | hc
    · omega
    · have := b _ hc; omega
  rcases d with d | ⟨x, hx, d⟩
  · omega
  · have := h x hx; omega
theorem gre_le {xs : List Int} {c : Int} (h0 : 0 ≤ c) (h : ∀ x ∈ xs, x < c) : 0 ≤ gre xs ∧ gre xs ≤ c := by
  obtain ⟨a, b, d⟩ := gre_inv xs 0 (by omega)
  refine ⟨a, ?_⟩
  show xs.foldl _ 0 ≤ c
  rcases d with d | ⟨x, hx, d⟩
  · omega
  · have := h x hx; omega
theorem Labs.mem {n : Nat} {ms : List (List Int)} {L : List Int} {c : Int} (h : Labs n ms n L c) : (∀ x ∈ L, 0 ≤ x ∧ x < c) := by
  intro x hx
  obtain ⟨j, hj, rfl⟩ := in_gi hx
  have hl := h.len
  exact ⟨h.done j (by omega) (by omega) (by omega), (h.rng j (by omega) (by omega)).2⟩
theorem gre_labs {n : Nat} {ms : List (List Int)} (hs : Sym n ms) (hn : n ≤ 1000) : gre (labs n ms) = labc n ms := by
  have h := labs_all hs hn
  have hc := h.c0
  refine gre_eq hc.1 (fun x hx => (h.mem x hx).2) ?_
  by_cases e : labc n ms = 0
  · exact .inl e
  · obtain ⟨x, h0, _, hx, e⟩ := h.hit (labc n ms - 1) (by omega) (by omega)
    right
    rw [← e]
    exact gi_mem h0 (by rw [h.len]; exact hx)

/-- two orbits, and each move leads each flag to the other one -/
def ChiAt (ms : List (List Int)) (L : List Int) : Prop := ∀ j : Nat, j < ms.length → ∀ f : Nat, f < nf ms → gi L (gi (gr ms j) f) ≠ gi L f
noncomputable instance (ms : List (List Int)) (L : List Int) : Decidable (ChiAt ms L) := Classical.propDecidable _
noncomputable def isChi (ms : List (List Int)) : Bool := if IsMan ms then decide (labc (nf ms) (auts ms) = 2 ∧ ChiAt ms (labs (nf ms) (auts ms))) else false
theorem isChi_no {ms : List (List Int)} (h : ¬ IsMan ms) : isChi ms = false := if_neg h
theorem isChi_yes {ms : List (List Int)} (h : IsMan ms) : isChi ms = decide (labc (nf ms) (auts ms) = 2 ∧ ChiAt ms (labs (nf ms) (auts ms))) := if_pos h
end Go.Mem

/- Plain words on lists: words, and what doing them comes to; coverings that are given. No program in sight. -/
namespace Go.Mem
section
variable {ms ks : List (List Int)} {wd xs : List Int}
def IsWord (ms : List (List Int)) (wd : List Int) : Prop := wd.length ≤ 64 ∧ ∀ x ∈ wd, 0 ≤ x ∧ x < ms.length
noncomputable instance (ms : List (List Int)) (wd : List Int) : Decidable (IsWord ms wd) := Classical.propDecidable _
/-- the flag to which a word leads -/
def run (ms : List (List Int)) (wd : List Int) (f : Int) : Int := wd.foldl (fun f x => gi (gr ms x) f) f
theorem run_take_succ {k : Nat} {f : Int} (h : k < wd.length) : run ms (wd.take (k + 1)) f = gi (gr ms (gi wd k)) (run ms (wd.take k) f) := by
  rw [take_gi h]; simp [run, List.foldl_append]
theorem run_rng {n : Nat} (hs : Syst n ms) : ∀ (wd : List Int), (∀ x ∈ wd, 0 ≤ x ∧ x < ms.length) → ∀ f : Int, 0 ≤ f ∧ f < n → 0 ≤ run ms wd f ∧ run ms wd f < n
  | [], _, f, hf => hf
  | x :: wd, h, f, hf => by
    have hx := h x (by simp)
    exact run_rng hs wd (fun y hy => h y (List.mem_cons_of_mem _ hy)) _ (hs.at hx.1 hx.2 hf)
/-- the list of the flags to which a word leads -/
def does (ms : List (List Int)) (wd : List Int) (n : Nat) : List Int := wd.foldl (fun p x => aft p (gr ms x)) (idl n)
theorem does_take_succ {k n : Nat} (h : k < wd.length) : does ms (wd.take (k + 1)) n = aft (does ms (wd.take k) n) (gr ms (gi wd k)) := by
  rw [take_gi h]; simp [does, List.foldl_append]
theorem does_gen : ∀ (wd : List Int) (p : List Int), (wd.foldl (fun p x => aft p (gr ms x)) p).length = p.length ∧ ∀ f : Int, 0 ≤ f → f < p.length → gi (wd.foldl (fun p x => aft p (gr ms x)) p) f = run ms wd (gi p f)
  | [], p => ⟨rfl, fun _ _ _ => rfl⟩
  | x :: wd, p => by
    obtain ⟨h1, h2⟩ := does_gen wd (aft p (gr ms x))
    refine ⟨by rw [List.foldl_cons, h1]; simp, fun f h0 hf => ?_⟩
    rw [List.foldl_cons, h2 f h0 (by simpa using hf), gi_aft h0 hf]; rfl
theorem length_does (ms : List (List Int)) (wd : List Int) (n : Nat) : (does ms wd n).length = n := by
  have := (does_gen (ms := ms) wd (idl n)).1
  simpa [does] using this
theorem gi_does {n : Nat} {f : Int} (h0 : 0 ≤ f) (hf : f < n) : gi (does ms wd n) f = run ms wd f := by
  have := (does_gen (ms := ms) wd (idl n)).2 f h0 (by simpa using hf)
  rw [gi_idl h0 hf] at this
  exact this
def Still (ms : List (List Int)) (wd : List Int) : Prop := ∀ f : Nat, f < nf ms → run ms wd f = f
noncomputable instance (ms : List (List Int)) (wd : List Int) : Decidable (Still ms wd) := Classical.propDecidable _
theorem still_does (ms : List (List Int)) (wd : List Int) : Still ms wd ↔ does ms wd (nf ms) = idl (nf ms) := by
  constructor
  · intro h
    refine list_ext_gi (by rw [length_does, length_idl]) fun x h0 hx => ?_
    rw [length_does] at hx
    rw [gi_does h0 hx, gi_idl h0 hx]
    have := h x.toNat (by omega)
    rwa [show ((x.toNat : Nat) : Int) = x by omega] at this
  · intro h f hf
    rw [← gi_does (ms := ms) (n := nf ms) (by omega) (by omega), h, gi_idl (by omega) (by omega)]
noncomputable def doesNo (ms : List (List Int)) (wd : List Int) : Bool := if IsMan ms ∧ IsWord ms wd then decide (Still ms wd) else false
noncomputable def wordC (ms : List (List Int)) (wd : List Int) : Int := if IsMan ms then (if IsWord ms wd then 0 else 2) else 1
theorem word_1 (h : ¬ IsMan ms) : doesNo ms wd = false ∧ wordC ms wd = 1 := ⟨if_neg fun h' => h h'.1, if_neg h⟩
theorem word_2 (hm : IsMan ms) (h : ¬ IsWord ms wd) : doesNo ms wd = false ∧ wordC ms wd = 2 := ⟨if_neg fun h' => h h'.2, by unfold wordC; rw [if_pos hm, if_neg h]⟩
theorem word_3 (hm : IsMan ms) (h : IsWord ms wd) : doesNo ms wd = decide (Still ms wd) ∧ wordC ms wd = 0 := ⟨if_pos ⟨hm, h⟩, by unfold wordC; rw [if_pos hm, if_pos h]⟩

/-- the list is a covering -/
def IsCov (ms ks : List (List Int)) (xs : List Int) : Prop := xs.length = nf ms ∧ (0 ≤ gi xs 0 ∧ gi xs 0 < nf ks) ∧ mapT ms ks (gi xs 0) = some xs
noncomputable instance (ms ks : List (List Int)) (xs : List Int) : Decidable (IsCov ms ks xs) := Classical.propDecidable _
theorem isCov_1 (h : xs.length ≠ nf ms) : decide (IsCov ms ks xs) = false := decide_eq_false fun e => h e.1
theorem isCov_2 (h : ¬ (0 ≤ gi xs 0 ∧ gi xs 0 < nf ks)) : decide (IsCov ms ks xs) = false := decide_eq_false fun e => h e.2.1
theorem isCov_3 (h1 : xs.length = nf ms) (h2 : 0 ≤ gi xs 0 ∧ gi xs 0 < nf ks) : decide (IsCov ms ks xs) = ((mapT ms ks (gi xs 0)).isSome && decide ((mapT ms ks (gi xs 0)).getD [] = xs)) := by
  cases h : mapT ms ks (gi xs 0) with
  | none =>
    rw [decide_eq_false (fun e : IsCov ms ks xs => by have := e.2.2; rw [h] at this; simp at this)]; rfl
  | some p =>
    by_cases e : p = xs
    · rw [decide_eq_true (show IsCov ms ks xs from ⟨h1, h2, by rw [h, e]⟩)]; simp [e]
    · rw [decide_eq_false (fun c : IsCov ms ks xs => e (by have := c.2.2; rw [h] at this; simpa using this))]; simp [e]
/-- the comparison alone tells, for xs that are some -/
theorem isCov_4 (h1 : xs.length = nf ms) (h2 : 0 ≤ gi xs 0 ∧ gi xs 0 < nf ks) (hne : 2 ≤ nf ms) : decide (IsCov ms ks xs) = decide ((mapT ms ks (gi xs 0)).getD [] = xs) := by
  rw [isCov_3 h1 h2]
  cases h : mapT ms ks (gi xs 0) with
  | none =>
    have : ¬ [] = xs := fun e => by subst e; simp at h1; omega
    simp [this]
  | some p => simp
noncomputable def isCovB (ms ks : List (List Int)) (xs : List Int) : Bool := if IsMan ms ∧ IsMan ks then decide (IsCov ms ks xs) else false
noncomputable def manC2 (ms ks : List (List Int)) : Int := if IsMan ms ∧ IsMan ks then 0 else 1
theorem isCovB_1 (h : ¬ (IsMan ms ∧ IsMan ks)) : isCovB ms ks xs = false ∧ manC2 ms ks = 1 := ⟨if_neg h, if_neg h⟩
theorem isCovB_2 (hm : IsMan ms) (hk : IsMan ks) : isCovB ms ks xs = decide (IsCov ms ks xs) ∧ manC2 ms ks = 0 := ⟨if_pos ⟨hm, hk⟩, if_pos ⟨hm, hk⟩⟩
/-- where the first is for which p holds (or -1) -/
def idxF (p : Int → Bool) (xs : List Int) : Int :=
  match xs.findIdx? p with
  | some i => i
  | none => -1
theorem idxF_some {p : Int → Bool} {i : Nat} (hi : i < xs.length) (h : p (gi xs i) = true) (hb : ∀ j : Nat, j < i → p (gi xs j) = false) : idxF p xs = i := by
  have : xs.findIdx? p = some i := by
    rw [List.findIdx?_eq_some_iff_getElem]
    refine ⟨hi, ?_, fun j hj => ?_⟩
    · simpa [gi, List.getD, hi] using h
    · have h' := hb j hj
      have hjl : j < xs.length := by omega
      simpa [gi, List.getD, hjl] using h'
  unfold idxF; rw [this]
theorem idxF_none {p : Int → Bool} (h : ∀ j : Nat, j < xs.length → p (gi xs j) = false) : idxF p xs = -1 := by
  have : xs.findIdx? p = none := by
    rw [List.findIdx?_eq_none_iff]
    intro x hx
    obtain ⟨j, hj, rfl⟩ := in_gi hx
    exact h j hj
  unfold idxF; rw [this]
theorem idxF_any (p : Int → Bool) (xs : List Int) : decide (0 ≤ idxF p xs) = xs.any p := by
  by_cases h : ∃ j : Nat, j < xs.length ∧ p (gi xs j) = true
  · obtain ⟨j, hj, h⟩ := h
    have h1 : xs.any p = true := List.any_eq_true.2 ⟨_, gi_in hj, h⟩
    rw [h1]
    unfold idxF
    cases e : xs.findIdx? p with
    | none => rw [List.findIdx?_eq_none_iff] at e; have := e _ (gi_in hj); rw [this] at h; simp at h
    | some i => simp
  · have hn : ∀ j : Nat, j < xs.length → p (gi xs j) = false := fun j hj => by
      by_cases e : p (gi xs j) = true
      · exact absurd ⟨j, hj, e⟩ h
      · simpa using e
    rw [idxF_none hn]
    have : xs.any p = false := by
      rw [List.any_eq_false]
      intro x hx e
      obtain ⟨j, hj, rfl⟩ := in_gi hx
      rw [hn j hj] at e; simp at e
    rw [this]; simp
theorem any_within {m : Nat} : (!(wd.any fun x => !inB x 0 ((m : Int) - 1))) = decide (∀ x ∈ wd, 0 ≤ x ∧ x < m) := by
  have e : ∀ x, inB x 0 ((m : Int) - 1) = decide (0 ≤ x ∧ x < m) := fun x => by
    unfold inB; by_cases h1 : 0 ≤ x <;> by_cases h2 : x ≤ (m : Int) - 1 <;> simp [h1, h2] <;> omega
  by_cases h : ∀ x ∈ wd, 0 ≤ x ∧ x < m
  · rw [decide_eq_true h]
    have : (wd.any fun x => !inB x 0 ((m : Int) - 1)) = false := by
      rw [List.any_eq_false]; intro x hx; rw [e, decide_eq_true (h x hx)]; simp
    rw [this]; rfl
  · rw [decide_eq_false h]
    have : (wd.any fun x => !inB x 0 ((m : Int) - 1)) = true := by
      rw [List.any_eq_true]
      refine Classical.byContradiction fun hn => h fun x hx => Classical.byContradiction fun hx' => hn ⟨x, hx, ?_⟩
      rw [e, decide_eq_false hx']; rfl
    rw [this]; rfl
end
end Go.Mem
