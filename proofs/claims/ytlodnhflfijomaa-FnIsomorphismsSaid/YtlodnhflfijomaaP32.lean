/- Plain words on lists: isomorphic maniplexes have the same forms and the same least form, and the other way; an isomorphism renumbers the one to the other. No program in sight. -/
import Derived.Test.YtlodnhflfijomaaP23
import Derived.Test.YtlodnhflfijomaaP24
import Derived.Test.YtlodnhflfijomaaPB
namespace Go.Mem
set_option linter.unusedVariables false
section
variable {α : Type} [DecidableEq α] {lt : α → α → Bool}
theorem lexL_trans (ht : ∀ a b c, lt a b = true → lt b c = true → lt a c = true) (hi : ∀ a, lt a a = false) : ∀ {xs ys zs : List α}, lexL lt xs ys = true → lexL lt ys zs = true → lexL lt xs zs = true
  | [], [], _, h, _ => by simp [lexL] at h
  | [], _ :: _, [], _, h => by simp [lexL] at h
  | [], _ :: _, _ :: _, _, _ => rfl
  | _ :: _, [], _, h, _ => by simp [lexL] at h
  | _ :: _, _ :: _, [], _, h => by simp [lexL] at h
  | x :: xs, y :: ys, z :: zs, h1, h2 => by
    simp only [lexL] at h1 h2 ⊢
    by_cases e1 : x = y
    · subst e1
      rw [if_pos rfl] at h1
      by_cases e2 : x = z
      · subst e2
        rw [if_pos rfl] at h2 ⊢
        exact lexL_trans ht hi h1 h2
      · rw [if_neg e2] at h2 ⊢; exact h2
    · rw [if_neg e1] at h1
      by_cases e2 : y = z
      · subst e2
        rw [if_neg e1]; exact h1
      · rw [if_neg e2] at h2
        have h3 := ht _ _ _ h1 h2
        have : x ≠ z := fun e => by subst e; rw [hi] at h3; cases h3
        rw [if_neg this]; exact h3
theorem lexL_tri (ht : ∀ a b, a ≠ b → lt a b = true ∨ lt b a = true) : ∀ {xs ys : List α}, xs ≠ ys → lexL lt xs ys = true ∨ lexL lt ys xs = true
  | [], [], h => absurd rfl h
  | [], _ :: _, _ => .inl rfl
  | _ :: _, [], _ => .inr rfl
  | x :: xs, y :: ys, h => by
    simp only [lexL]
    by_cases e : x = y
    · subst e
      rw [if_pos rfl, if_pos rfl]
      exact lexL_tri ht fun e => h (by rw [e])
    · rw [if_neg e, if_neg fun e' => e e'.symm]; exact ht _ _ e
end
theorem lessL_trans {a b c : List Int} (h1 : lessL a b = true) (h2 : lessL b c = true) : lessL a c = true :=
  lexL_trans (fun a b c h1 h2 => by simp only [ltI, decide_eq_true_eq] at h1 h2 ⊢; omega) (fun a => by simp [ltI]) h1 h2
theorem lessL_tri {a b : List Int} (h : a ≠ b) : lessL a b = true ∨ lessL b a = true :=
  lexL_tri (fun a b h => by simp only [ltI, decide_eq_true_eq]; omega) h
theorem lessR_trans {a b c : List (List Int)} (h1 : lessR a b = true) (h2 : lessR b c = true) : lessR a c = true :=
  lexL_trans (lt := lessL) (fun _ _ _ h1 h2 => lessL_trans h1 h2) (fun a => show lexL ltI a a = false from lexL_self a) h1 h2
theorem lessR_tri {a b : List (List Int)} (h : a ≠ b) : lessR a b = true ∨ lessR b a = true := lexL_tri (fun _ _ h => lessL_tri h) h
/-- the least of the forms is one, and none is less -/
theorem lstTo_least (ms : List (List Int)) : ∀ k : Nat, (∃ f : Nat, f < k + 1 ∧ lstTo ms k = frm (nf ms) ms (f : Nat) ∧ (f < k ∨ f = 0)) ∧ ∀ f : Nat, f < k → lessR (frm (nf ms) ms (f : Nat)) (lstTo ms k) = false
  | 0 => ⟨⟨0, by omega, rfl, .inr rfl⟩, fun f hf => absurd hf (by omega)⟩
  | k + 1 => by
    obtain ⟨⟨f, hf, e, h0⟩, hall⟩ := lstTo_least ms k
    cases h : lessR (frm (nf ms) ms (k : Nat)) (lstTo ms k)
    · rw [lstTo_miss h]
      refine ⟨⟨f, by omega, e, by omega⟩, fun g hg => ?_⟩
      by_cases eg : g = k
      · subst eg; exact h
      · exact hall g (by omega)
    · rw [lstTo_hit h]
      refine ⟨⟨k, by omega, rfl, by omega⟩, fun g hg => ?_⟩
      by_cases eg : g = k
      · subst eg; exact lexL_self _
      · cases h2 : lessR (frm (nf ms) ms (g : Nat)) (frm (nf ms) ms (k : Nat))
        · rfl
        · have := lessR_trans h2 h
          rw [hall g (by omega)] at this
          cases this
theorem lst_frm {ms : List (List Int)} (h : 1 ≤ nf ms) : ∃ f : Int, (0 ≤ f ∧ f < nf ms) ∧ lst ms = frm (nf ms) ms f := by
  obtain ⟨⟨f, hf, e, h0⟩, _⟩ := lstTo_least ms (nf ms)
  exact ⟨f, by omega, e⟩
theorem lst_least {ms : List (List Int)} {f : Int} (hf : 0 ≤ f ∧ f < nf ms) : lessR (frm (nf ms) ms f) (lst ms) = false := by
  have := (lstTo_least ms (nf ms)).2 f.toNat (by omega)
  rw [show ((f.toNat : Nat) : Int) = f by omega] at this
  exact this
/-- a map that takes different points to different points goes along with the search -/
theorem visit_map {n : Nat} {p : List Int} (hi : ∀ a b : Int, (0 ≤ a ∧ a < n) → (0 ≤ b ∧ b < n) → gi p a = gi p b → a = b) {o : List Int} (ho : ∀ x ∈ o, 0 ≤ x ∧ x < n) {x : Int} (hx : 0 ≤ x ∧ x < n) : visit (o.map (gi p)) (gi p x) = (visit o x).map (gi p) := by
  unfold visit
  by_cases h : x ∈ o
  · rw [if_pos h, if_pos (List.mem_map_of_mem h)]
  · rw [if_neg h, if_neg fun h' => by
      obtain ⟨y, hy, e⟩ := List.mem_map.1 h'
      exact h (hi _ _ hx (ho y hy) e.symm ▸ hy)]
    simp
theorem visits_map {n : Nat} {p : List Int} (hi : ∀ a b : Int, (0 ≤ a ∧ a < n) → (0 ≤ b ∧ b < n) → gi p a = gi p b → a = b) : ∀ (l : List Int) {o : List Int}, (∀ x ∈ o, 0 ≤ x ∧ x < n) → (∀ x ∈ l, 0 ≤ x ∧ x < n) → visits (o.map (gi p)) (l.map (gi p)) = (visits o l).map (gi p) ∧ ∀ x ∈ visits o l, 0 ≤ x ∧ x < n
  | [], o, ho, hl => ⟨rfl, ho⟩
  | a :: l, o, ho, hl => by
    have ha := hl a List.mem_cons_self
    have h1 := visit_map hi ho ha
    have h2 : ∀ x ∈ visit o a, 0 ≤ x ∧ x < n := fun x hx => by
      unfold visit at hx
      split at hx
      · exact ho x hx
      · rcases List.mem_append.1 hx with h | h
        · exact ho x h
        · simp at h; subst h; exact ha
    have h3 := visits_map hi l h2 fun x hx => hl x (List.mem_cons_of_mem _ hx)
    refine ⟨?_, h3.2⟩
    show visits (visit (o.map (gi p)) (gi p a)) (l.map (gi p)) = _
    rw [h1]; exact h3.1
section
variable {ms ks : List (List Int)} {p : List Int} {f g : Int}
theorem gi_rows {g : List Int → Int} {j : Nat} (hj : j < ms.length) : gi (ms.map g) j = g (gr ms j) := by
  simp [gi, gr, List.getD, hj]
theorem Hom.inj (hm : IsMan ms) (hk : IsMan ks) (hl : ms.length = ks.length) (hn : nf ms = nf ks) (hp : Hom ms ks p) (a b : Int) (ha : 0 ≤ a ∧ a < nf ms) (hb : 0 ≤ b ∧ b < nf ms) (e : gi p a = gi p b) : a = b :=
  gi_inj (hp.nodup hm hk hl hn) (by rw [hp.len]; exact ha) (by rw [hp.len]; exact hb) e
theorem hom_bfs (hm : IsMan ms) (hk : IsMan ks) (hl : ms.length = ks.length) (hn : nf ms = nf ks) (hp : Hom ms ks p) (hf : 0 ≤ f ∧ f < nf ms) : ∀ i : Nat, bfs ks (gi p f) i = (bfs ms f i).map (gi p) ∧ ∀ x ∈ bfs ms f i, 0 ≤ x ∧ x < nf ms
  | 0 => ⟨rfl, fun x hx => by simp [bfs] at hx; subst hx; exact hf⟩
  | i + 1 => by
    obtain ⟨h1, h2⟩ := hom_bfs hm hk hl hn hp hf i
    have hlen : (bfs ks (gi p f) i).length = (bfs ms f i).length := by rw [h1, List.length_map]
    unfold bfs
    by_cases h : i < (bfs ms f i).length
    · rw [if_pos h, if_pos (by omega)]
      have hx := h2 _ (gi_in h)
      have e : images ks (gi (bfs ks (gi p f) i) i) = (images ms (gi (bfs ms f i) i)).map (gi p) := by
        rw [h1, gi_map (by omega) (by omega)]
        unfold images
        refine list_ext_gi (by simp [hl]) fun j h0 hj => ?_
        rw [List.length_map] at hj
        obtain ⟨j, rfl⟩ : ∃ k : Nat, j = k := ⟨j.toNat, by omega⟩
        rw [gi_map (f := gi p) (by omega) (by simp; omega), gi_rows (by omega), gi_rows (by omega)]
        exact (hp.mv j (by omega) _ hx.1 hx.2).symm
      rw [e, h1]
      refine visits_map (hp.inj hm hk hl hn) _ h2 fun x hx' => ?_
      unfold images at hx'
      obtain ⟨m, hmm, rfl⟩ := List.mem_map.1 hx'
      have hr := hm.syst m hmm
      exact hr.2 _ (gi_mem hx.1 (by rw [hr.1]; exact hx.2))
    · rw [if_neg h, if_neg (by omega)]; exact ⟨h1, h2⟩
theorem hom_orbit (hm : IsMan ms) (hk : IsMan ks) (hl : ms.length = ks.length) (hn : nf ms = nf ks) (hp : Hom ms ks p) (hf : 0 ≤ f ∧ f < nf ms) : orbit ks (gi p f) = (orbit ms f).map (gi p) :=
  (hom_bfs hm hk hl hn hp hf 1000).1
/-- the forms of isomorphic maniplexes are the same -/
theorem hom_frm (hm : IsMan ms) (hk : IsMan ks) (hl : ms.length = ks.length) (hn : nf ms = nf ks) (hp : Hom ms ks p) (hf : 0 ≤ f ∧ f < nf ms) : frm (nf ks) ks (gi p f) = frm (nf ms) ms f := by
  have h4 := hm.m0.f400
  have hpf := hp.rng f hf.1 hf.2
  have o1 := obt_orbit hm.syst hf (by omega)
  have o2 := obt_orbit hk.syst hpf (by omega)
  have ho := hom_orbit hm hk hl hn hp hf
  have hol := man_orbit_len hm hf
  show frmO (nf ks) ks (orbit ks (gi p f)) = frmO (nf ms) ms (orbit ms f)
  generalize orbit ks (gi p f) = Ok at *
  generalize orbit ms f = Om at *
  have hlen : Ok.length = Om.length := by rw [ho, List.length_map]
  have hnum : ∀ x ∈ Om, gi (numIn (nf ks) Ok) (gi p x) = gi (numIn (nf ms) Om) x := fun x hx => by
    obtain ⟨k, hk', rfl⟩ := in_gi hx
    rw [num_at o1.nodup o1.rng hk']
    have e : gi Ok k = gi p (gi Om k) := by rw [ho, gi_map (by omega) (by omega)]
    rw [← e, num_at o2.nodup o2.rng (by omega)]
  refine rows_ext (by simp [frmO, hl]) fun q hq => ?_
  have hq2 : q < ks.length := by simpa [frmO] using hq
  rw [frmO_gr hq2, frmO_gr (by omega)]
  refine list_ext_gi (by simp [hlen]) fun k h0 hk' => ?_
  rw [List.length_map] at hk'
  rw [gi_map h0 hk', gi_map h0 (by omega)]
  have hx : gi Om k ∈ Om := gi_mem h0 (by omega)
  have hxr := o1.rng _ hx
  have e : gi Ok k = gi p (gi Om k) := by rw [ho, gi_map h0 (by omega)]
  rw [e, ← hp.mv q (by omega) _ hxr.1 hxr.2]
  refine hnum _ (o1.shut _ hx _ (by
    have : q < ms.length := by omega
    simp [gr, List.getD, this]))
/-- equal forms give an isomorphism -/
theorem frm_hom (hm : IsMan ms) (hk : IsMan ks) (hf : 0 ≤ f ∧ f < nf ms) (hg : 0 ≤ g ∧ g < nf ks) (e : frm (nf ms) ms f = frm (nf ks) ks g) : ms.length = ks.length ∧ nf ms = nf ks ∧ ∃ p, Hom ms ks p := by
  have h4 := hm.m0.f400
  have k4 := hk.m0.f400
  have r1 := hm.m0.r1
  have hl : ms.length = ks.length := by
    have := congrArg List.length e
    rw [frm_len, frm_len] at this; exact this
  have o1 := obt_orbit hm.syst hf (by omega)
  have o2 := obt_orbit hk.syst hg (by omega)
  have l1 := man_orbit_len hm hf
  have l2 := man_orbit_len hk hg
  replace e : frmO (nf ms) ms (orbit ms f) = frmO (nf ks) ks (orbit ks g) := e
  generalize orbit ms f = Om at *
  generalize orbit ks g = Ok at *
  have hn : nf ms = nf ks := by
    have h0 := congrArg (fun X => (gr X ((0 : Nat) : Int)).length) e
    replace h0 : (gr (frmO (nf ms) ms Om) ((0 : Nat) : Int)).length = (gr (frmO (nf ks) ks Ok) ((0 : Nat) : Int)).length := h0
    rw [frmO_gr (by omega), frmO_gr (by omega), List.length_map, List.length_map] at h0
    omega
  refine ⟨hl, hn, (List.range (nf ms)).map (fun x : Nat => gi Ok (gi (numIn (nf ms) Om) x)), by simp, fun x h0 hx => ?_, fun j hj x h0 hx => ?_⟩
  · rw [gi_range_map h0 hx, show ((x.toNat : Nat) : Int) = x by omega]
    have hxm := full_mem o1.nodup o1.rng l1 h0 hx
    have := o1.num hxm
    exact o2.rng _ (gi_mem this.1 (by omega))
  · have hxm := full_mem o1.nodup o1.rng l1 h0 hx
    have hv := hm.syst.at (j := (j : Int)) (x := x) (by omega) (by omega) ⟨h0, hx⟩
    rw [gi_range_map hv.1 hv.2, gi_range_map h0 hx, show (((gi (gr ms j) x).toNat : Nat) : Int) = gi (gr ms j) x by omega, show ((x.toNat : Nat) : Int) = x by omega]
    have hvm := full_mem o1.nodup o1.rng l1 hv.1 hv.2
    have n1 := o1.num hxm
    have n2 := o1.num hvm
    have y1 : gi Ok (gi (numIn (nf ms) Om) x) ∈ Ok := gi_mem n1.1 (by omega)
    have y2 : gi Ok (gi (numIn (nf ms) Om) (gi (gr ms j) x)) ∈ Ok := gi_mem n2.1 (by omega)
    have y3 : gi (gr ks j) (gi Ok (gi (numIn (nf ms) Om) x)) ∈ Ok := o2.shut _ y1 _ (by
      have : j < ks.length := by omega
      simp [gr, List.getD, this])
    have num : ∀ z : Int, 0 ≤ z → z < Ok.length → gi (numIn (nf ks) Ok) (gi Ok z) = z := fun z h0 hz => by
      have := num_at o2.nodup o2.rng (k := z.toNat) (by omega)
      rw [show ((z.toNat : Nat) : Int) = z by omega] at this
      exact this
    refine o2.inj y2 y3 ?_
    rw [num _ n2.1 (by omega), ← frmO_num o2 (by omega) y1, num _ n1.1 (by omega), ← e, frmO_num o1 hj hxm]
theorem iso_iff (hm : IsMan ms) (hk : IsMan ks) : (isoOf ms ks).isSome = true ↔ ms.length = ks.length ∧ nf ms = nf ks ∧ ∃ p, Hom ms ks p := by
  unfold isoOf
  by_cases hn : nf ms = nf ks
  · rw [if_pos hn]
    constructor
    · intro h
      obtain ⟨p, hp⟩ := Option.isSome_iff_exists.1 h
      have := (mem_covers hm hk).1 (List.mem_of_mem_head? hp)
      exact ⟨this.1, hn, p, this.2⟩
    · rintro ⟨hl, _, p, hp⟩
      have := (mem_covers hm hk).2 ⟨hl, hp⟩
      cases hc : covers ms ks (nf ks) with
      | nil => rw [hc] at this; cases this
      | cons a l => rfl
  · rw [if_neg hn]
    exact ⟨fun h => (by cases h), fun h => absurd h.2.1 hn⟩
theorem iso_hom (hm : IsMan ms) (hk : IsMan ks) (h : isoOf ms ks = some p) : ms.length = ks.length ∧ nf ms = nf ks ∧ Hom ms ks p := by
  unfold isoOf at h
  by_cases hn : nf ms = nf ks
  · rw [if_pos hn] at h
    have := (mem_covers hm hk).1 (List.mem_of_mem_head? h)
    exact ⟨this.1, hn, this.2⟩
  · rw [if_neg hn] at h; cases h
theorem lst_same (hm : IsMan ms) (hk : IsMan ks) : (isoOf ms ks).isSome = true ↔ lst ms = lst ks := by
  have f1 := hm.m0.f2
  have f2 := hk.m0.f2
  obtain ⟨f, hf, ef⟩ := lst_frm (ms := ms) (by omega)
  obtain ⟨g, hg, eg⟩ := lst_frm (ms := ks) (by omega)
  rw [iso_iff hm hk]
  constructor
  · rintro ⟨hl, hn, p, hp⟩
    obtain ⟨q, hq, _, hpq⟩ := hp.inv hm hk hl hn
    have a1 : lessR (lst ms) (lst ks) = false := by
      rw [ef, ← hom_frm hm hk hl hn hp hf]
      exact lst_least (hp.rng f hf.1 hf.2)
    have a2 : lessR (lst ks) (lst ms) = false := by
      rw [eg, ← hom_frm hk hm hl.symm hn.symm hq hg]
      exact lst_least (hq.rng g hg.1 hg.2)
    refine Classical.byContradiction fun h => ?_
    rcases lessR_tri h with h | h
    · rw [a1] at h; cases h
    · rw [a2] at h; cases h
  · intro h
    exact frm_hom hm hk hf hg (by rw [← ef, ← eg, h])
theorem iso_back (hm : IsMan ms) (hk : IsMan ks) : (isoOf ks ms).isSome = (isoOf ms ks).isSome := by
  rw [Bool.eq_iff_iff, lst_same hk hm, lst_same hm hk]
  exact ⟨Eq.symm, Eq.symm⟩
theorem Hom.perm (hm : IsMan ms) (hk : IsMan ks) (hl : ms.length = ks.length) (hn : nf ms = nf ks) (hp : Hom ms ks p) : IsPerm p := by
  have h4 := hm.m0.f400
  refine ⟨by rw [hp.len]; omega, fun x hx => ?_, hp.nodup hm hk hl hn⟩
  obtain ⟨k, hk', rfl⟩ := in_gi hx
  have := hp.rng k (by omega) (by rw [hp.len] at hk'; omega)
  rw [hp.len]; omega
/-- renumbering by a permutation, as the program does it -/
def rnm (ms : List (List Int)) (p : List Int) : List (List Int) := ms.map fun m => aft (aft (numIn p.length p) m) p
theorem rnm_iso (hm : IsMan ms) (hk : IsMan ks) (hl : ms.length = ks.length) (hn : nf ms = nf ks) (hp : Hom ms ks p) : rnm ms p = ks := by
  have hpl := hp.len
  have hP := hp.perm hm hk hl hn
  refine rows_ext (by simp [rnm, hl]) fun j hj => ?_
  have hj2 : j < ms.length := by simpa [rnm] using hj
  have er : gr (rnm ms p) j = aft (aft (numIn p.length p) (gr ms j)) p := by simp [rnm, gr, List.getD, hj2]
  have hkr := hk.syst.row (j := (j : Int)) (by omega) (by omega)
  rw [er]
  refine list_ext_gi (by simp [aft, length_numIn, hkr.1, hpl, hn]) fun y h0 hy => ?_
  have hy2 : y < nf ms := by
    have : (aft (aft (numIn p.length p) (gr ms j)) p).length = nf ms := by simp [aft, length_numIn, hpl]
    omega
  obtain ⟨x, hx0, hx1, rfl⟩ := hp.onto hm hk hl h0 (by omega)
  have en : gi (numIn p.length p) (gi p x) = x := by
    have := num_at (n := p.length) hP.2.2 hP.2.1 (k := x.toNat) (by omega)
    rw [show ((x.toNat : Nat) : Int) = x by omega] at this
    exact this
  rw [gi_aft h0 (by simp [aft, length_numIn]; omega), gi_aft h0 (by rw [length_numIn]; omega), en]
  exact hp.mv j (by omega) x hx0 hx1
end
end Go.Mem
