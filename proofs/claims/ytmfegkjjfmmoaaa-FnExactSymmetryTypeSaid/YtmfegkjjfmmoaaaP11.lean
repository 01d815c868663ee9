/- Plain words on lists: maps that agree with the moves. No program in sight. -/
import Derived.Test.YtmfegkjjfmmoaaaP9
namespace Go.Mem
/-- p gives each flag of ms a flag of ks, and agrees with the moves -/
structure Hom (ms ks : List (List Int)) (p : List Int) : Prop where
  len : p.length = nf ms
  rng : ∀ x : Int, 0 ≤ x → x < nf ms → 0 ≤ gi p x ∧ gi p x < nf ks
  mv : ∀ j : Nat, j < ms.length → ∀ x : Int, 0 ≤ x → x < nf ms → gi p (gi (gr ms j) x) = gi (gr ks j) (gi p x)

/-- what is known of a state -/
structure St (n n2 : Nat) (o r : List Int) : Prop where
  mp : Mp n n2 o r
  all : ∀ x : Int, 0 ≤ x → x < n → 0 ≤ gi o x → x ∈ r

section
variable {ms ks : List (List Int)} {flag : Int} {o r o' r' p : List Int} {i j n n2 : Nat}
theorem St.step {a : Int × Int} (h : St n n2 o r) (hx : 0 ≤ a.1 ∧ a.1 < n) (hy : 0 ≤ a.2 ∧ a.2 < n2) (e : mapStep (some (o, r)) a = some (o', r')) :
    St n n2 o' r' ∧ gi o' a.1 = a.2 ∧ (∀ z : Int, 0 ≤ z → 0 ≤ gi o z → gi o' z = gi o z) ∧ ∃ t, r' = r ++ t := by
  unfold mapStep at e
  simp only at e
  have hl := h.mp.len
  split at e
  · rename_i hn
    simp only [Option.some.injEq, Prod.mk.injEq] at e
    obtain ⟨rfl, rfl⟩ := e
    have g : ∀ z : Int, 0 ≤ z → gi (seti o a.1 a.2) z = if z = a.1 then a.2 else gi o z := fun z h0 => gi_seti _ _ _ _ hx.1 (by omega) h0
    refine ⟨⟨h.mp.push hx hy hn, fun z h0 hz hg => ?_⟩, ?_, fun z h0 hz => ?_, ⟨_, rfl⟩⟩
    · rw [g z h0] at hg
      split at hg
      · rename_i e; subst e; simp
      · exact List.mem_append_left _ (h.all z h0 hz hg)
    · rw [g _ hx.1, if_pos rfl]
    · rw [g z h0]
      split
      · rename_i e; subst e; omega
      · rfl
  · split at e
    · rename_i he
      simp only [Option.some.injEq, Prod.mk.injEq] at e
      obtain ⟨rfl, rfl⟩ := e
      exact ⟨h, he, fun z _ _ => rfl, [], by simp⟩
    · simp at e
theorem St.fold : ∀ (l : List (Int × Int)) {o r : List Int}, St n n2 o r → (∀ a ∈ l, (0 ≤ a.1 ∧ a.1 < n) ∧ 0 ≤ a.2 ∧ a.2 < n2) → ∀ {o' r'}, l.foldl mapStep (some (o, r)) = some (o', r') →
    St n n2 o' r' ∧ (∀ a ∈ l, gi o' a.1 = a.2) ∧ (∀ z : Int, 0 ≤ z → 0 ≤ gi o z → gi o' z = gi o z) ∧ ∃ t, r' = r ++ t
  | [], o, r, h, _, o', r', e => by
    simp only [List.foldl, Option.some.injEq, Prod.mk.injEq] at e
    obtain ⟨rfl, rfl⟩ := e
    exact ⟨h, by simp, fun z _ _ => rfl, [], by simp⟩
  | a :: l, o, r, h, hl, o', r', e => by
    simp only [List.foldl] at e
    have ha := hl a (by simp)
    cases hs : mapStep (some (o, r)) a with
    | none => rw [hs, foldl_none] at e; simp at e
    | some q =>
      obtain ⟨o1, r1⟩ := q
      rw [hs] at e
      obtain ⟨h1, e1, k1, t1, rfl⟩ := h.step ha.1 ha.2 hs
      obtain ⟨h2, e2, k2, t2, rfl⟩ := St.fold l h1 (fun b hb => hl b (List.mem_cons_of_mem _ hb)) e
      refine ⟨h2, fun b hb => ?_, fun z h0 hz => ?_, t1 ++ t2, by rw [List.append_assoc]⟩
      · rcases List.mem_cons.1 hb with rfl | hb
        · rw [k2 _ ha.1.1 (by rw [e1]; exact ha.2.1), e1]
        · exact e2 b hb
      · rw [k2 z h0 (by rw [k1 z h0 hz]; exact hz), k1 z h0 hz]
theorem mem_pairs {f : Int} {a : Int × Int} : a ∈ pairs ms ks o f ↔ ∃ j : Nat, j < ms.length ∧ a = (gi (gr ms j) f, gi (gr ks j) (gi o f)) := by
  unfold pairs
  rw [List.mem_map]
  constructor
  · rintro ⟨j, hj, rfl⟩; exact ⟨j, List.mem_range.1 hj, rfl⟩
  · rintro ⟨j, hj, rfl⟩; exact ⟨j, List.mem_range.2 hj, rfl⟩
theorem pairs_rng (hm : IsMan ms) (hk : IsMan ks) (hl : ms.length = ks.length) {f : Int} (hf : 0 ≤ f ∧ f < nf ms) (ho : 0 ≤ gi o f ∧ gi o f < nf ks) :
    ∀ a ∈ pairs ms ks o f, (0 ≤ a.1 ∧ a.1 < nf ms) ∧ 0 ≤ a.2 ∧ a.2 < nf ks := by
  intro a ha
  obtain ⟨j, hj, rfl⟩ := mem_pairs.1 ha
  exact ⟨hm.syst.at (by omega) (by omega) hf, hk.syst.at (by omega) (by omega) ho⟩
/-- what is known after i flags -/
structure Mb (ms ks : List (List Int)) (flag : Int) (i : Nat) (o r : List Int) : Prop where
  st : St (nf ms) (nf ks) o r
  z0 : gi o 0 = flag
  dn : ∀ q : Nat, q < i → q < r.length → ∀ j : Nat, j < ms.length → gi o (gi (gr ms j) (gi r q)) = gi (gr ks j) (gi o (gi r q))
theorem Mb.at (hm : IsMan ms) (hk : IsMan ks) (hl : ms.length = ks.length) (hf : 0 ≤ flag ∧ flag < nf ks) : ∀ i o r, mbfs ms ks flag i = some (o, r) → Mb ms ks flag i o r
  | 0, o, r, e => by
    have h2 := hm.m0.f2
    simp only [mbfs, Option.some.injEq, Prod.mk.injEq] at e
    obtain ⟨rfl, rfl⟩ := e
    have g : gi (seti (List.replicate (nf ms) (-1)) 0 flag) 0 = flag := by rw [gi_seti _ _ _ _ (by omega) (by simp; omega) (by omega), if_pos rfl]
    refine ⟨⟨Mp.start (by omega) hf, fun x h0 hx hg => ?_⟩, g, fun q hq => by omega⟩
    rw [gi_seti _ _ _ _ (by omega) (by simp; omega) h0] at hg
    split at hg
    · rename_i e; subst e; simp
    · have : x.toNat < nf ms := by omega
      simp [gi, List.getD, this] at hg
  | i + 1, o, r, e => by
    unfold mbfs at e
    split at e
    · simp at e
    · rename_i o0 r0 h0
      have ih := Mb.at hm hk hl hf i o0 r0 h0
      split at e
      · rename_i hlt
        have hr := ih.st.mp.rr (gi r0 i) (gi_in hlt)
        have ho := ih.st.mp.rng (gi r0 i) hr.1 hr.2.1
        obtain ⟨h1, e1, k1, t, rfl⟩ := St.fold _ ih.st (pairs_rng hm hk hl ⟨hr.1, hr.2.1⟩ ⟨hr.2.2, ho.2⟩) e
        refine ⟨h1, ?_, fun q hq hql j hj => ?_⟩
        · rw [k1 0 (by omega) (by rw [ih.z0]; exact hf.1), ih.z0]
        · have hq0 : q < r0.length := by omega
          have eq : gi (r0 ++ t) q = gi r0 q := gi_pre hq0
          have hrq := ih.st.mp.rr (gi r0 q) (gi_in hq0)
          rw [eq, k1 _ hrq.1 hrq.2.2]
          by_cases hqi : q = i
          · subst hqi
            exact e1 _ (mem_pairs.2 ⟨j, hj, rfl⟩)
          · have hd := ih.dn q (by omega) hq0 j hj
            have hy := hm.syst.at (j := (j : Int)) (by omega) (by omega) ⟨hrq.1, hrq.2.1⟩
            have hoq := ih.st.mp.rng _ hrq.1 hrq.2.1
            have hv := hk.syst.at (j := (j : Int)) (by omega) (by omega) ⟨hrq.2.2, hoq.2⟩
            rw [k1 _ hy.1 (by rw [hd]; exact hv.1)]
            exact hd
      · rename_i hlt
        simp only [Option.some.injEq, Prod.mk.injEq] at e
        obtain ⟨rfl, rfl⟩ := e
        exact ⟨ih.st, ih.z0, fun q _ hql => ih.dn q (by omega) hql⟩
theorem mapTo_hom (hm : IsMan ms) (hk : IsMan ks) (hl : ms.length = ks.length) (hf : 0 ≤ flag ∧ flag < nf ks) (h : mapTo ms ks flag = some p) : Hom ms ks p ∧ gi p 0 = flag := by
  unfold mapTo at h
  rw [Option.map_eq_some_iff] at h
  obtain ⟨⟨o, r⟩, h1, rfl⟩ := h
  have hb := Mb.at hm hk hl hf _ o r h1
  have h4 := hm.m0.f400
  have h2 := hm.m0.f2
  have hle := hb.st.mp.le
  have hall : ∀ x : Int, Rch ms 0 x → x ∈ r := fun x hr => by
    induction hr with
    | refl => exact hb.st.all 0 (by omega) (by omega) (by rw [hb.z0]; exact hf.1)
    | @step y m hr hmm ih =>
      obtain ⟨q, hq, rfl⟩ := in_gi ih
      obtain ⟨j, hj, rfl⟩ := mem_gr hmm
      have hrq := hb.st.mp.rr _ ih
      have hoq := hb.st.mp.rng _ hrq.1 hrq.2.1
      have hy := hm.syst.at (j := (j : Int)) (by omega) (by omega) ⟨hrq.1, hrq.2.1⟩
      have hv := hk.syst.at (j := (j : Int)) (by omega) (by omega) ⟨hrq.2.2, hoq.2⟩
      exact hb.st.all _ hy.1 hy.2 (by rw [hb.dn q (by omega) hq j hj]; exact hv.1)
  refine ⟨⟨hb.st.mp.len, fun x h0 hx => ?_, fun j hj x h0 hx => ?_⟩, hb.z0⟩
  · have hxr := hb.st.mp.rr x (hall x (hm.all h0 hx))
    exact ⟨hxr.2.2, (hb.st.mp.rng x h0 hx).2⟩
  · obtain ⟨q, hq, rfl⟩ := in_gi (hall x (hm.all h0 hx))
    exact hb.dn q (by omega) hq j hj

theorem step_agree {a : Int × Int} (h : ∀ x : Int, 0 ≤ x → 0 ≤ gi o x → gi o x = gi p x) (hl : o.length = n) (hx : 0 ≤ a.1 ∧ a.1 < n) (e : gi p a.1 = a.2) :
    ∃ o' r', mapStep (some (o, r)) a = some (o', r') ∧ o'.length = n ∧ ∀ x : Int, 0 ≤ x → 0 ≤ gi o' x → gi o' x = gi p x := by
  by_cases hn : gi o a.1 < 0
  · refine ⟨_, _, by simp only [mapStep]; rw [if_pos hn], by simp [hl], fun x h0 hg => ?_⟩
    rw [gi_seti _ _ _ _ hx.1 (by omega) h0] at hg ⊢
    split
    · rename_i e'; subst e'; exact e.symm
    · rename_i e'; rw [if_neg e'] at hg; exact h x h0 hg
  · exact ⟨o, r, by simp only [mapStep]; rw [if_neg hn, if_pos (by rw [← e]; exact h _ hx.1 (by omega))], hl, h⟩
theorem fold_agree : ∀ (l : List (Int × Int)) {o r : List Int}, (∀ x : Int, 0 ≤ x → 0 ≤ gi o x → gi o x = gi p x) → o.length = n → (∀ a ∈ l, (0 ≤ a.1 ∧ a.1 < n) ∧ gi p a.1 = a.2) →
    ∃ o' r', l.foldl mapStep (some (o, r)) = some (o', r') ∧ ∀ x : Int, 0 ≤ x → 0 ≤ gi o' x → gi o' x = gi p x
  | [], o, r, h, _, _ => ⟨o, r, rfl, h⟩
  | a :: l, o, r, h, hl, ha => by
    obtain ⟨o1, r1, e1, l1, h1⟩ := step_agree (r := r) h hl (ha a (by simp)).1 (ha a (by simp)).2
    simp only [List.foldl]
    rw [e1]
    exact fold_agree l h1 l1 (fun b hb => ha b (List.mem_cons_of_mem _ hb))
theorem mbfs_agree (hm : IsMan ms) (hk : IsMan ks) (hl : ms.length = ks.length) (hp : Hom ms ks p) : ∀ i, ∃ o r, mbfs ms ks (gi p 0) i = some (o, r) ∧ ∀ x : Int, 0 ≤ x → 0 ≤ gi o x → gi o x = gi p x
  | 0 => by
    have h2 := hm.m0.f2
    refine ⟨_, _, rfl, fun x h0 hg => ?_⟩
    rw [gi_seti _ _ _ _ (by omega) (by simp; omega) h0] at hg ⊢
    split
    · rename_i e; subst e; rfl
    · rename_i e
      rw [if_neg e] at hg
      by_cases hx : x.toNat < nf ms
      · simp [gi, List.getD, hx] at hg
      · by_cases h' : x.toNat < p.length
        · have := hp.len; omega
        · simp [gi, List.getD, hx, h']
  | i + 1 => by
    have h2 := hm.m0.f2
    obtain ⟨o, r, e, h⟩ := mbfs_agree hm hk hl hp i
    have hb := Mb.at hm hk hl (hp.rng 0 (by omega) (by omega)) _ _ _ e
    by_cases hlt : i < r.length
    · rw [mbfs_succ e hlt]
      have hr := hb.st.mp.rr (gi r i) (gi_in hlt)
      refine fold_agree _ h hb.st.mp.len fun a ha => ?_
      have hrg := pairs_rng hm hk hl ⟨hr.1, hr.2.1⟩ ⟨hr.2.2, (hb.st.mp.rng _ hr.1 hr.2.1).2⟩ a ha
      refine ⟨hrg.1, ?_⟩
      obtain ⟨j, hj, rfl⟩ := mem_pairs.1 ha
      simp only
      rw [hp.mv j hj _ hr.1 hr.2.1, h _ hr.1 hr.2.2]
    · exact ⟨o, r, by unfold mbfs; rw [e]; simp only; rw [if_neg hlt], h⟩
theorem Hom.map (hm : IsMan ms) (hk : IsMan ks) (hl : ms.length = ks.length) (hp : Hom ms ks p) : mapTo ms ks (gi p 0) = some p := by
  have h2 := hm.m0.f2
  obtain ⟨o, r, e, h⟩ := mbfs_agree hm hk hl hp 1000
  have e1 : mapTo ms ks (gi p 0) = some o := by unfold mapTo; rw [e]; rfl
  obtain ⟨ho, _⟩ := mapTo_hom hm hk hl (hp.rng 0 (by omega) (by omega)) e1
  rw [e1]
  refine congrArg some (list_ext_gi (by rw [ho.len, hp.len]) fun x h0 hx => ?_)
  rw [ho.len] at hx
  exact h x h0 (ho.rng x h0 hx).1
theorem mapT_iff (hm : IsMan ms) (hk : IsMan ks) (hf : 0 ≤ flag ∧ flag < nf ks) : mapT ms ks flag = some p ↔ ms.length = ks.length ∧ Hom ms ks p ∧ gi p 0 = flag := by
  unfold mapT
  split
  · rename_i hl
    constructor
    · intro h; exact ⟨hl, mapTo_hom hm hk hl hf h⟩
    · rintro ⟨_, h, rfl⟩; exact h.map hm hk hl
  · rename_i hl
    simp [hl]
theorem mem_covers (hm : IsMan ms) (hk : IsMan ks) : p ∈ covers ms ks (nf ks) ↔ ms.length = ks.length ∧ Hom ms ks p := by
  have h2 := hm.m0.f2
  constructor
  · intro h
    obtain ⟨f, hf, e⟩ := covers_mem h
    have := (mapT_iff hm hk ⟨by omega, by omega⟩).1 e
    exact ⟨this.1, this.2.1⟩
  · rintro ⟨hl, hp⟩
    have h0 := hp.rng 0 (by omega) (by omega)
    have e := (mapT_iff hm hk h0).2 ⟨hl, hp, rfl⟩
    unfold covers
    refine List.mem_filterMap.2 ⟨(gi p 0).toNat, List.mem_range.2 (by omega), ?_⟩
    rw [show (((gi p 0).toNat : Nat) : Int) = gi p 0 by omega]
    exact e
theorem covers_full (ms ks : List (List Int)) : ∀ n : Nat, (covers ms ks n).length = n ↔ ∀ f : Nat, f < n → ∃ p, mapT ms ks f = some p
  | 0 => by simp [covers]
  | n + 1 => by
    have ih := covers_full ms ks n
    have hle := covers_le ms ks n
    cases h : mapT ms ks n with
    | none =>
      rw [covers_none h]
      constructor
      · intro e; omega
      · intro ha
        obtain ⟨p, hp⟩ := ha n (by omega)
        rw [h] at hp; simp at hp
    | some q =>
      rw [covers_some h]
      simp only [List.length_append, List.length_singleton, Nat.add_right_cancel_iff]
      rw [ih]
      constructor
      · intro ha f hf
        by_cases hfn : f = n
        · subst hfn; exact ⟨q, h⟩
        · exact ha f (by omega)
      · intro ha f hf; exact ha f (by omega)
end
end Go.Mem
