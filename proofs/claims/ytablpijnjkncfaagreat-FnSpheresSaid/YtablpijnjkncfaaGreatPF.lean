/- Texts laid together: P32 P33 P34 P35 P36 P37 P38 P43. -/
import Derived.Test.YtablpijnjkncfaaGreatPD
import Derived.Test.YtablpijnjkncfaaGreatPB
import Derived.Test.YtablpijnjkncfaaGreatPC
/- Plain words on lists: isomorphic maniplexes have the same forms and the same least form, and the other way; an isomorphism renumbers the one to the other. No program in sight. -/
namespace Go.Mem
set_option linter.unusedVariables false
section
variable {α : Type} [DecidableEq α] {lt : α → α → Bool}
theorem lexL_trans (ht : ∀ a b c, lt a b = true → lt b c = true → lt a c = true) (hi : ∀ a, lt a a = false) : ∀ {xs ys zs : List α}, lexL lt xs ys = true → lexL lt ys zs = true → lexL lt xs zs = true
  | [], [], _, h, _ => by simp [lexL] at h
  | [], _ :: _, [], _, h => by simp [lexL] at h
  | [], _ :: _, _ :: _, _, _ => rfl
  | _ :: _, [], _, h, _ => by simp [lexL] at h
  | _ :: _, _ :: _, [], _, h => by simp [lexL] at h
  | x :: xs, y :: ys, z :: zs, h1, h2 => by
    simp only [lexL] at h1 h2 ⊢
    by_cases e1 : x = y
    · subst e1
      rw [if_pos rfl] at h1
      by_cases e2 : x = z
      · subst e2
        rw [if_pos rfl] at h2 ⊢
        exact lexL_trans ht hi h1 h2
      · rw [if_neg e2] at h2 ⊢; exact h2
    · rw [if_neg e1] at h1
      by_cases e2 : y = z
      · subst e2
        rw [if_neg e1]; exact h1
      · rw [if_neg e2] at h2
        have h3 := ht _ _ _ h1 h2
        have : x ≠ z := fun e => by subst e; rw [hi] at h3; cases h3
        rw [if_neg this]; exact h3
theorem lexL_tri (ht : ∀ a b, a ≠ b → lt a b = true ∨ lt b a = true) : ∀ {xs ys : List α}, xs ≠ ys → lexL lt xs ys = true ∨ lexL lt ys xs = true
  | [], [], h => absurd rfl h
  | [], _ :: _, _ => .inl rfl
  | _ :: _, [], _ => .inr rfl
  | x :: xs, y :: ys, h => by
    simp only [lexL]
    by_cases e : x = y
    · subst e
      rw [if_pos rfl, if_pos rfl]
      exact lexL_tri ht fun e => h (by rw [e])
    · rw [if_neg e, if_neg fun e' => e e'.symm]; exact ht _ _ e
end
theorem lessL_trans {a b c : List Int} (h1 : lessL a b = true) (h2 : lessL b c = true) : lessL a c = true :=
  lexL_trans (fun a b c h1 h2 => by simp only [ltI, decide_eq_true_eq] at h1 h2 ⊢; omega) (fun a => by simp [ltI]) h1 h2
theorem lessL_tri {a b : List Int} (h : a ≠ b) : lessL a b = true ∨ lessL b a = true :=
  lexL_tri (fun a b h => by simp only [ltI, decide_eq_true_eq]; omega) h
theorem lessR_trans {a b c : List (List Int)} (h1 : lessR a b = true) (h2 : lessR b c = true) : lessR a c = true :=
  lexL_trans (lt := lessL) (fun _ _ _ h1 h2 => lessL_trans h1 h2) (fun a => show lexL ltI a a = false from lexL_self a) h1 h2
theorem lessR_tri {a b : List (List Int)} (h : a ≠ b) : lessR a b = true ∨ lessR b a = true := lexL_tri (fun _ _ h => lessL_tri h) h
/-- the least of the forms is one, and none is less -/
theorem lstTo_least (ms : List (List Int)) : ∀ k : Nat, (∃ f : Nat, f < k + 1 ∧ lstTo ms k = frm (nf ms) ms (f : Nat) ∧ (f < k ∨ f = 0)) ∧ ∀ f : Nat, f < k → lessR (frm (nf ms) ms (f : Nat)) (lstTo ms k) = false
  | 0 => ⟨⟨0, by omega, rfl, .inr rfl⟩, fun f hf => absurd hf (by omega)⟩
  | k + 1 => by
    obtain ⟨⟨f, hf, e, h0⟩, hall⟩ := lstTo_least ms k
    cases h : lessR (frm (nf ms) ms (k : Nat)) (lstTo ms k)
    · rw [lstTo_miss h]
      refine ⟨⟨f, by omega, e, by omega⟩, fun g hg => ?_⟩
      by_cases eg : g = k
      · subst eg; exact h
      · exact hall g (by omega)
    · rw [lstTo_hit h]
      refine ⟨⟨k, by omega, rfl, by omega⟩, fun g hg => ?_⟩
      by_cases eg : g = k
      · subst eg; exact lexL_self _
      · cases h2 : lessR (frm (nf ms) ms (g : Nat)) (frm (nf ms) ms (k : Nat))
        · rfl
        · have := lessR_trans h2 h
          rw [hall g (by omega)] at this
          cases this
theorem lst_frm {ms : List (List Int)} (h : 1 ≤ nf ms) : ∃ f : Int, (0 ≤ f ∧ f < nf ms) ∧ lst ms = frm (nf ms) ms f := by
  obtain ⟨⟨f, hf, e, h0⟩, _⟩ := lstTo_least ms (nf ms)
  exact ⟨f, by omega, e⟩
theorem lst_least {ms : List (List Int)} {f : Int} (hf : 0 ≤ f ∧ f < nf ms) : lessR (frm (nf ms) ms f) (lst ms) = false := by
  have := (lstTo_least ms (nf ms)).2 f.toNat (by omega)
  rw [show ((f.toNat : Nat) : Int) = f by omega] at this
  exact this
/-- a map that takes different points to different points goes along with the search -/
theorem visit_map {n : Nat} {p : List Int} (hi : ∀ a b : Int, (0 ≤ a ∧ a < n) → (0 ≤ b ∧ b < n) → gi p a = gi p b → a = b) {o : List Int} (ho : ∀ x ∈ o, 0 ≤ x ∧ x < n) {x : Int} (hx : 0 ≤ x ∧ x < n) : visit (o.map (gi p)) (gi p x) = (visit o x).map (gi p) := by
  unfold visit
  by_cases h : x ∈ o
  · rw [if_pos h, if_pos (List.mem_map_of_mem h)]
  · rw [if_neg h, if_neg fun h' => by
      obtain ⟨y, hy, e⟩ := List.mem_map.1 h'
      exact h (hi _ _ hx (ho y hy) e.symm ▸ hy)]
    simp
theorem visits_map {n : Nat} {p : List Int} (hi : ∀ a b : Int, (0 ≤ a ∧ a < n) → (0 ≤ b ∧ b < n) → gi p a = gi p b → a = b) : ∀ (l : List Int) {o : List Int}, (∀ x ∈ o, 0 ≤ x ∧ x < n) → (∀ x ∈ l, 0 ≤ x ∧ x < n) → visits (o.map (gi p)) (l.map (gi p)) = (visits o l).map (gi p) ∧ ∀ x ∈ visits o l, 0 ≤ x ∧ x < n
  | [], o, ho, hl => ⟨rfl, ho⟩
  | a :: l, o, ho, hl => by
    have ha := hl a List.mem_cons_self
    have h1 := visit_map hi ho ha
    have h2 : ∀ x ∈ visit o a, 0 ≤ x ∧ x < n := fun x hx => by
      unfold visit at hx
      split at hx
      · exact ho x hx
      · rcases List.mem_append.1 hx with h | h
        · exact ho x h
        · simp at h; subst h; exact ha
    have h3 := visits_map hi l h2 fun x hx => hl x (List.mem_cons_of_mem _ hx)
    refine ⟨?_, h3.2⟩
    show visits (visit (o.map (gi p)) (gi p a)) (l.map (gi p)) = _
    rw [h1]; exact h3.1
section
variable {ms ks : List (List Int)} {p : List Int} {f g : Int}
theorem gi_rows {g : List Int → Int} {j : Nat} (hj : j < ms.length) : gi (ms.map g) j = g (gr ms j) := by
  simp [gi, gr, List.getD, hj]
theorem Hom.inj (hm : IsMan ms) (hk : IsMan ks) (hl : ms.length = ks.length) (hn : nf ms = nf ks) (hp : Hom ms ks p) (a b : Int) (ha : 0 ≤ a ∧ a < nf ms) (hb : 0 ≤ b ∧ b < nf ms) (e : gi p a = gi p b) : a = b :=
  gi_inj (hp.nodup hm hk hl hn) (by rw [hp.len]; exact ha) (by rw [hp.len]; exact hb) e
theorem hom_bfs (hm : IsMan ms) (hk : IsMan ks) (hl : ms.length = ks.length) (hn : nf ms = nf ks) (hp : Hom ms ks p) (hf : 0 ≤ f ∧ f < nf ms) : ∀ i : Nat, bfs ks (gi p f) i = (bfs ms f i).map (gi p) ∧ ∀ x ∈ bfs ms f i, 0 ≤ x ∧ x < nf ms
  | 0 => ⟨rfl, fun x hx => by simp [bfs] at hx; subst hx; exact hf⟩
  | i + 1 => by
    obtain ⟨h1, h2⟩ := hom_bfs hm hk hl hn hp hf i
    have hlen : (bfs ks (gi p f) i).length = (bfs ms f i).length := by rw [h1, List.length_map]
    unfold bfs
    by_cases h : i < (bfs ms f i).length
    · rw [if_pos h, if_pos (by omega)]
      have hx := h2 _ (gi_in h)
      have e : images ks (gi (bfs ks (gi p f) i) i) = (images ms (gi (bfs ms f i) i)).map (gi p) := by
        rw [h1, gi_map (by omega) (by omega)]
        unfold images
        refine list_ext_gi (by simp [hl]) fun j h0 hj => ?_
        rw [List.length_map] at hj
        obtain ⟨j, rfl⟩ : ∃ k : Nat, j = k := ⟨j.toNat, by omega⟩
        rw [gi_map (f := gi p) (by omega) (by simp; omega), gi_rows (by omega), gi_rows (by omega)]
        exact (hp.mv j (by omega) _ hx.1 hx.2).symm
      rw [e, h1]
      refine visits_map (hp.inj hm hk hl hn) _ h2 fun x hx' => ?_
      unfold images at hx'
      obtain ⟨m, hmm, rfl⟩ := List.mem_map.1 hx'
      have hr := hm.syst m hmm
      exact hr.2 _ (gi_mem hx.1 (by rw [hr.1]; exact hx.2))
    · rw [if_neg h, if_neg (by omega)]; exact ⟨h1, h2⟩
theorem hom_orbit (hm : IsMan ms) (hk : IsMan ks) (hl : ms.length = ks.length) (hn : nf ms = nf ks) (hp : Hom ms ks p) (hf : 0 ≤ f ∧ f < nf ms) : orbit ks (gi p f) = (orbit ms f).map (gi p) :=
  (hom_bfs hm hk hl hn hp hf 1000).1
/-- the forms of isomorphic maniplexes are the same -/
theorem hom_frm (hm : IsMan ms) (hk : IsMan ks) (hl : ms.length = ks.length) (hn : nf ms = nf ks) (hp : Hom ms ks p) (hf : 0 ≤ f ∧ f < nf ms) : frm (nf ks) ks (gi p f) = frm (nf ms) ms f := by
  have h4 := hm.m0.f400
  have hpf := hp.rng f hf.1 hf.2
  have o1 := obt_orbit hm.syst hf (by omega)
  have o2 := obt_orbit hk.syst hpf (by omega)
  have ho := hom_orbit hm hk hl hn hp hf
  have hol := man_orbit_len hm hf
  show frmO (nf ks) ks (orbit ks (gi p f)) = frmO (nf ms) ms (orbit ms f)
  generalize orbit ks (gi p f) = Ok at *
  generalize orbit ms f = Om at *
  have hlen : Ok.length = Om.length := by rw [ho, List.length_map]
  have hnum : ∀ x ∈ Om, gi (numIn (nf ks) Ok) (gi p x) = gi (numIn (nf ms) Om) x := fun x hx => by
    obtain ⟨k, hk', rfl⟩ := in_gi hx
    rw [num_at o1.nodup o1.rng hk']
    have e : gi Ok k = gi p (gi Om k) := by rw [ho, gi_map (by omega) (by omega)]
    rw [← e, num_at o2.nodup o2.rng (by omega)]
  refine rows_ext (by simp [frmO, hl]) fun q hq => ?_
  have hq2 : q < ks.length := by simpa [frmO] using hq
  rw [frmO_gr hq2, frmO_gr (by omega)]
  refine list_ext_gi (by simp [hlen]) fun k h0 hk' => ?_
  rw [List.length_map] at hk'
  rw [gi_map h0 hk', gi_map h0 (by omega)]
  have hx : gi Om k ∈ Om := gi_mem h0 (by omega)
  have hxr := o1.rng _ hx
  have e : gi Ok k = gi p (gi Om k) := by rw [ho, gi_map h0 (by omega)]
  rw [e, ← hp.mv q (by omega) _ hxr.1 hxr.2]
  refine hnum _ (o1.shut _ hx _ (by
    have : q < ms.length := by omega
    simp [gr, List.getD, this]))
/-- equal forms give an isomorphism -/
theorem frm_hom (hm : IsMan ms) (hk : IsMan ks) (hf : 0 ≤ f ∧ f < nf ms) (hg : 0 ≤ g ∧ g < nf ks) (e : frm (nf ms) ms f = frm (nf ks) ks g) : ms.length = ks.length ∧ nf ms = nf ks ∧ ∃ p, Hom ms ks p := by
  have h4 := hm.m0.f400
  have k4 := hk.m0.f400
  have r1 := hm.m0.r1
  have hl : ms.length = ks.length := by
    have := congrArg List.length e
    rw [frm_len, frm_len] at this; exact this
  have o1 := obt_orbit hm.syst hf (by omega)
  have o2 := obt_orbit hk.syst hg (by omega)
  have l1 := man_orbit_len hm hf
  have l2 := man_orbit_len hk hg
  replace e : frmO (nf ms) ms (orbit ms f) = frmO (nf ks) ks (orbit ks g) := e
  generalize orbit ms f = Om at *
  generalize orbit ks g = Ok at *
  have hn : nf ms = nf ks := by
    have h0 := congrArg (fun X => (gr X ((0 : Nat) : Int)).length) e
    replace h0 : (gr (frmO (nf ms) ms Om) ((0 : Nat) : Int)).length = (gr (frmO (nf ks) ks Ok) ((0 : Nat) : Int)).length := h0
    rw [frmO_gr (by omega), frmO_gr (by omega), List.length_map, List.length_map] at h0
    omega
  refine ⟨hl, hn, (List.range (nf ms)).map (fun x : Nat => gi Ok (gi (numIn (nf ms) Om) x)), by simp, fun x h0 hx => ?_, fun j hj x h0 hx => ?_⟩
  · rw [gi_range_map h0 hx, show ((x.toNat : Nat) : Int) = x by omega]
    have hxm := full_mem o1.nodup o1.rng l1 h0 hx
    have := o1.num hxm
    exact o2.rng _ (gi_mem this.1 (by omega))
  · have hxm := full_mem o1.nodup o1.rng l1 h0 hx
    have hv := hm.syst.at (j := (j : Int)) (x := x) (by omega) (by omega) ⟨h0, hx⟩
    rw [gi_range_map hv.1 hv.2, gi_range_map h0 hx, show (((gi (gr ms j) x).toNat : Nat) : Int) = gi (gr ms j) x by omega, show ((x.toNat : Nat) : Int) = x by omega]
    have hvm := full_mem o1.nodup o1.rng l1 hv.1 hv.2
    have n1 := o1.num hxm
    have n2 := o1.num hvm
    have y1 : gi Ok (gi (numIn (nf ms) Om) x) ∈ Ok := gi_mem n1.1 (by omega)
    have y2 : gi Ok (gi (numIn (nf ms) Om) (gi (gr ms j) x)) ∈ Ok := gi_mem n2.1 (by omega)
    have y3 : gi (gr ks j) (gi Ok (gi (numIn (nf ms) Om) x)) ∈ Ok := o2.shut _ y1 _ (by
      have : j < ks.length := by omega
      simp [gr, List.getD, this])
    have num : ∀ z : Int, 0 ≤ z → z < Ok.length → gi (numIn (nf ks) Ok) (gi Ok z) = z := fun z h0 hz => by
      have := num_at o2.nodup o2.rng (k := z.toNat) (by omega)
      rw [show ((z.toNat : Nat) : Int) = z by omega] at this
      exact this
    refine o2.inj y2 y3 ?_
    rw [num _ n2.1 (by omega), ← frmO_num o2 (by omega) y1, num _ n1.1 (by omega), ← e, frmO_num o1 hj hxm]
theorem iso_iff (hm : IsMan ms) (hk : IsMan ks) : (isoOf ms ks).isSome = true ↔ ms.length = ks.length ∧ nf ms = nf ks ∧ ∃ p, Hom ms ks p := by
  unfold isoOf
  by_cases hn : nf ms = nf ks
  · rw [if_pos hn]
    constructor
    · intro h
      obtain ⟨p, hp⟩ := Option.isSome_iff_exists.1 h
      have := (mem_covers hm hk).1 (List.mem_of_mem_head? hp)
      exact ⟨this.1, hn, p, this.2⟩
    · rintro ⟨hl, _, p, hp⟩
      have := (mem_covers hm hk).2 ⟨hl, hp⟩
      cases hc : covers ms ks (nf ks) with
      | nil => rw [hc] at this; cases this
      | cons a l => rfl
  · rw [if_neg hn]
    exact ⟨fun h => (by cases h), fun h => absurd h.2.1 hn⟩
theorem iso_hom (hm : IsMan ms) (hk : IsMan ks) (h : isoOf ms ks = some p) : ms.length = ks.length ∧ nf ms = nf ks ∧ Hom ms ks p := by
  unfold isoOf at h
  by_cases hn : nf ms = nf ks
  · rw [if_pos hn] at h
    have := (mem_covers hm hk).1 (List.mem_of_mem_head? h)
    exact ⟨this.1, hn, this.2⟩
  · rw [if_neg hn] at h; cases h
theorem lst_same (hm : IsMan ms) (hk : IsMan ks) : (isoOf ms ks).isSome = true ↔ lst ms = lst ks := by
  have f1 := hm.m0.f2
  have f2 := hk.m0.f2
  obtain ⟨f, hf, ef⟩ := lst_frm (ms := ms) (by omega)
  obtain ⟨g, hg, eg⟩ := lst_frm (ms := ks) (by omega)
  rw [iso_iff hm hk]
  constructor
  · rintro ⟨hl, hn, p, hp⟩
    obtain ⟨q, hq, _, hpq⟩ := hp.inv hm hk hl hn
    have a1 : lessR (lst ms) (lst ks) = false := by
      rw [ef, ← hom_frm hm hk hl hn hp hf]
      exact lst_least (hp.rng f hf.1 hf.2)
    have a2 : lessR (lst ks) (lst ms) = false := by
      rw [eg, ← hom_frm hk hm hl.symm hn.symm hq hg]
      exact lst_least (hq.rng g hg.1 hg.2)
    refine Classical.byContradiction fun h => ?_
    rcases lessR_tri h with h | h
    · rw [a1] at h; cases h
    · rw [a2] at h; cases h
  · intro h
    exact frm_hom hm hk hf hg (by rw [← ef, ← eg, h])
theorem iso_back (hm : IsMan ms) (hk : IsMan ks) : (isoOf ks ms).isSome = (isoOf ms ks).isSome := by
  rw [Bool.eq_iff_iff, lst_same hk hm, lst_same hm hk]
  exact ⟨Eq.symm, Eq.symm⟩
theorem Hom.perm (hm : IsMan ms) (hk : IsMan ks) (hl : ms.length = ks.length) (hn : nf ms = nf ks) (hp : Hom ms ks p) : IsPerm p := by
  have h4 := hm.m0.f400
  refine ⟨by rw [hp.len]; omega, fun x hx => ?_, hp.nodup hm hk hl hn⟩
  obtain ⟨k, hk', rfl⟩ := in_gi hx
  have := hp.rng k (by omega) (by rw [hp.len] at hk'; omega)
  rw [hp.len]; omega
/-- renumbering by a permutation, as the program does it -/
def rnm (ms : List (List Int)) (p : List Int) : List (List Int) := ms.map fun m => aft (aft (numIn p.length p) m) p
theorem rnm_iso (hm : IsMan ms) (hk : IsMan ks) (hl : ms.length = ks.length) (hn : nf ms = nf ks) (hp : Hom ms ks p) : rnm ms p = ks := by
  have hpl := hp.len
  have hP := hp.perm hm hk hl hn
  refine rows_ext (by simp [rnm, hl]) fun j hj => ?_
  have hj2 : j < ms.length := by simpa [rnm] using hj
  have er : gr (rnm ms p) j = aft (aft (numIn p.length p) (gr ms j)) p := by simp [rnm, gr, List.getD, hj2]
  have hkr := hk.syst.row (j := (j : Int)) (by omega) (by omega)
  rw [er]
  refine list_ext_gi (by simp [aft, length_numIn, hkr.1, hpl, hn]) fun y h0 hy => ?_
  have hy2 : y < nf ms := by
    have : (aft (aft (numIn p.length p) (gr ms j)) p).length = nf ms := by simp [aft, length_numIn, hpl]
    omega
  obtain ⟨x, hx0, hx1, rfl⟩ := hp.onto hm hk hl h0 (by omega)
  have en : gi (numIn p.length p) (gi p x) = x := by
    have := num_at (n := p.length) hP.2.2 hP.2.1 (k := x.toNat) (by omega)
    rw [show ((x.toNat : Nat) : Int) = x by omega] at this
    exact this
  rw [gi_aft h0 (by simp [aft, length_numIn]; omega), gi_aft h0 (by rw [length_numIn]; omega), en]
  exact hp.mv j (by omega) x hx0 hx1
end
end Go.Mem

/- Plain words on lists: a word done again and again does nothing exactly if its order divides the number of times; the first word that does nothing on the one maniplex. No program in sight. -/
namespace Go.Mem
set_option linter.unusedVariables false
/-- a word k times -/
def repW (wd : List Int) : Nat → List Int
  | 0 => []
  | k + 1 => repW wd k ++ wd
theorem length_repW (wd : List Int) : ∀ k, (repW wd k).length = k * wd.length
  | 0 => by simp [repW]
  | k + 1 => by simp [repW, length_repW wd k, Nat.add_mul]
theorem mem_repW {wd : List Int} {x : Int} : ∀ {k}, x ∈ repW wd k → x ∈ wd
  | 0, h => by simp [repW] at h
  | k + 1, h => by
    rcases List.mem_append.1 h with h | h
    · exact mem_repW h
    · exact h
theorem lcms_dvd {k : Nat} : ∀ {L : List Nat}, lcms L ∣ k ↔ ∀ x ∈ L, x ∣ k
  | [] => by simp [lcms]
  | x :: L => by
    rw [lcms_cons]
    constructor
    · intro h y hy
      rcases List.mem_cons.1 hy with rfl | hy
      · exact Nat.dvd_trans (Nat.dvd_lcm_left _ _) h
      · exact lcms_dvd.1 (Nat.dvd_trans (Nat.dvd_lcm_right _ _) h) y hy
    · intro h
      exact Nat.lcm_dvd (h x (by simp)) (lcms_dvd.2 fun y hy => h y (List.mem_cons_of_mem _ hy))
section
variable {n : Nat} {p : List Int} {x : Int} {k : Nat}
theorem Pm.itr_mul (h : Pm n p) (hx : 0 ≤ x ∧ x < n) : ∀ q : Nat, Mem.itr p x (Mem.per n p x * q) = x
  | 0 => rfl
  | q + 1 => by
    rw [Nat.mul_add, Nat.mul_one, itr_add, h.itr_mul hx q]
    exact (h.per hx).2.2.1
theorem Pm.itr_back (h : Pm n p) (hx : 0 ≤ x ∧ x < n) : Mem.itr p x k = x ↔ Mem.per n p x ∣ k := by
  have hp := h.per hx
  constructor
  · intro e
    have e2 : Mem.itr p x (k % Mem.per n p x) = x := by
      have e3 := e
      rw [← Nat.div_add_mod k (Mem.per n p x), itr_add, h.itr_mul hx] at e3
      exact e3
    refine Nat.dvd_of_mod_eq_zero (Classical.byContradiction fun h0 => ?_)
    have hlt := Nat.mod_lt k (show Mem.per n p x > 0 by omega)
    exact hp.2.2.2 _ (by omega) hlt e2
  · rintro ⟨q, rfl⟩
    exact h.itr_mul hx q
theorem Pm.ord_dvd (h : Pm n p) : ord n p ∣ k ↔ ∀ x : Int, 0 ≤ x → x < n → Mem.itr p x k = x := by
  unfold ord
  rw [lcms_dvd]
  constructor
  · intro hd x h0 hx
    obtain ⟨c, hc, hm⟩ := h.cyc_all n (Nat.le_refl _) x.toNat (by omega)
    rw [show ((x.toNat : Nat) : Int) = x by omega] at hm
    have hcp := (h.cyc_per hc).1 x hm
    rw [h.itr_back ⟨h0, hx⟩, ← hcp.2.2]
    exact hd _ (List.mem_map.2 ⟨c, hc, rfl⟩)
  · intro hall y hy
    obtain ⟨c, hc, rfl⟩ := List.mem_map.1 hy
    have hcp := h.cyc_per hc
    have hx := gi_in (xs := c) (j := 0) (by omega)
    have hc0 := hcp.1 _ hx
    rw [hc0.2.2]
    exact (h.itr_back ⟨hc0.1, hc0.2.1⟩).1 (hall _ hc0.1 hc0.2.1)
theorem Pm.ord_pos (h : Pm n p) : 1 ≤ ord n p := lcms_pos fun y hy => by
  obtain ⟨c, hc, rfl⟩ := List.mem_map.1 hy
  exact (h.cyc_per hc).2.1
end
section
variable {ms ks : List (List Int)} {wd : List Int} {n : Int}
theorem run_repW (hm : IsMan ms) (hw : IsWord ms wd) {f : Int} (hf : 0 ≤ f ∧ f < nf ms) : ∀ k, run ms (repW wd k) f = itr (does ms wd (nf ms)) f k
  | 0 => rfl
  | k + 1 => by
    show run ms (repW wd k ++ wd) f = gi (does ms wd (nf ms)) (itr (does ms wd (nf ms)) f k)
    have hr := (does_pm hm hw).itr hf k
    rw [run_app, run_repW hm hw hf k, gi_does hr.1 hr.2]
theorem still_repW (hm : IsMan ms) (hw : IsWord ms wd) (k : Nat) : Still ms (repW wd k) ↔ ord (nf ms) (does ms wd (nf ms)) ∣ k := by
  rw [(does_pm hm hw).ord_dvd]
  constructor
  · intro h x h0 hx
    have := h x.toNat (by omega)
    rw [show ((x.toNat : Nat) : Int) = x by omega, run_repW hm hw ⟨h0, hx⟩] at this
    exact this
  · intro h f hf
    rw [run_repW hm hw (by omega)]
    exact h f (by omega) (by omega)
/-- up to the order, a word does nothing then only -/
theorem still_first (hm : IsMan ms) (hw : IsWord ms wd) {k : Nat} (h1 : 1 ≤ k) (hk : k ≤ ord (nf ms) (does ms wd (nf ms))) : Still ms (repW wd k) ↔ k = ord (nf ms) (does ms wd (nf ms)) := by
  rw [still_repW hm hw]
  constructor
  · intro h
    have := Nat.le_of_dvd (by omega) h
    omega
  · intro h; rw [← h]; exact Nat.dvd_refl _
theorem repW_word (hm : IsMan ms) (hw : IsWord ms wd) {k : Nat} (hl : (repW wd k).length ≤ 64) : IsWord ms (repW wd k) := ⟨hl, fun x hx => hw.2 x (mem_repW hx)⟩
/-- the first word that does nothing on the one and something on the other one -/
theorem fn_good (h : fnC ms ks n = 0) : IsMan ms ∧ IsMan ks ∧ IsWord ms (fnL ms ks n) ∧ IsWord ks (fnL ms ks n) ∧ Still ms (fnL ms ks n) ∧ ¬ Still ks (fnL ms ks n) ∧ 1 ≤ (fnL ms ks n).length ∧ ((fnL ms ks n).length : Int) ≤ n := by
  by_cases hmk : IsMan ms ∧ IsMan ks
  rotate_left
  · rw [(fn_1 hmk).2] at h; exact absurd h (by decide)
  obtain ⟨hm, hk⟩ := hmk
  by_cases hn : 0 ≤ n ∧ n ≤ 12
  rotate_left
  · rw [(fn_2 hm hk hn).2] at h; exact absurd h (by decide)
  by_cases hl : ms.length = ks.length
  rotate_left
  · rw [(fn_3 hm hk hn hl).2] at h; exact absurd h (by decide)
  have e : fnL ms ks n = (firstW ms ks n.toNat).getD [] := if_pos h
  have hs : (firstW ms ks n.toNat).isSome = true := by
    refine Classical.byContradiction fun hc => ?_
    have : fnC ms ks n = 4 := by
      unfold fnC
      rw [if_pos ⟨hm, hk⟩, if_pos hn, if_pos hl, if_neg hc]
    rw [this] at h; exact absurd h (by decide)
  obtain ⟨u, hu⟩ := Option.isSome_iff_exists.1 hs
  rw [e, hu]
  show IsMan ms ∧ IsMan ks ∧ IsWord ms u ∧ IsWord ks u ∧ Still ms u ∧ ¬ Still ks u ∧ 1 ≤ u.length ∧ (u.length : Int) ≤ n
  obtain ⟨i, hi, h1, _⟩ := findSome_some hu
  obtain ⟨v, ev, hvl, hvd, hg, _⟩ := try_some (i + 1) [] u h1
  simp at ev; subst ev
  have hr := hvd.rng
  unfold goodB at hg
  rw [Bool.and_eq_true] at hg
  refine ⟨hm, hk, ⟨by omega, hr⟩, ⟨by omega, fun x hx => by rw [← hl]; exact hr x hx⟩, of_decide_eq_true hg.1, ?_, by omega, by omega⟩
  have := hg.2
  simpa using this
end
end Go.Mem

/- Plain words on lists: moves replaced by themselves; half of a maniplex of rank 3. No program in sight. -/
namespace Go.Mem
set_option linter.unusedVariables false
section
variable {ms : List (List Int)}
theorem wds_sngl (hm : IsMan ms) : wds ms ((List.range ms.length).map fun i : Nat => [(i : Int)]) = ms := by
  refine rows_ext (by simp [wds]) fun j hj => ?_
  have hj : j < ms.length := by simpa [wds] using hj
  have e : gr (wds ms ((List.range ms.length).map fun i : Nat => [(i : Int)])) j = does ms [(j : Int)] (nf ms) := by simp [wds, gr, List.getD, hj]
  rw [e, does_one hm hj]
theorem repl_sngl (hm : IsMan ms) : repl ms ((List.range ms.length).map fun i : Nat => [(i : Int)]) = frm (nf ms) ms 0 := by
  unfold repl; rw [wds_sngl hm]
theorem form_man (hm : IsMan ms) {f : Int} (hf : 0 ≤ f ∧ f < nf ms) : IsMan (frm (nf ms) ms f) := frm_man hm.like hf
theorem nf_frmO {n : Nat} {rs : List (List Int)} {O : List Int} (h1 : 1 ≤ rs.length) : nf (frmO n rs O) = O.length := by
  have h0 := frmO_gr (n := n) (O := O) (q := 0) (rs := rs) h1
  rw [show ((0 : Nat) : Int) = 0 from rfl] at h0
  unfold nf; rw [h0, List.length_map]
theorem nf_frm {n : Nat} {rs : List (List Int)} {p : Int} (h1 : 1 ≤ rs.length) : nf (frm n rs p) = (orbit rs p).length := nf_frmO (O := orbit rs p) h1
theorem nf_repl_le {ws : List (List Int)} (hm : IsMan ms) (hw : ∀ w ∈ ws, IsWord ms w) (h1 : 1 ≤ ws.length) : nf (repl ms ws) ≤ nf ms := by
  have hs := wds_syst hm hw
  have := hm.m0.f400
  have := hm.m0.f2
  unfold repl
  rw [nf_frm (by simp [wds]; omega)]
  exact (obt_orbit hs (p := 0) (by omega) (by omega)).le
theorem all_le {n : Nat} {O : List Int} (h : ∀ x : Int, 0 ≤ x → x < n → x ∈ O) : n ≤ O.length := by
  have := List.Nodup.length_le_of_subset (l₁ := idl n) (l₂ := O) (by
    unfold idl
    exact List.pairwise_map.2 (List.nodup_range.imp fun h e => h (by omega))) (fun x hx => by
    obtain ⟨i, hi, rfl⟩ := List.mem_map.1 hx
    have := List.mem_range.1 hi
    exact h i (by omega) (by omega))
  simpa using this
def halfW : List (List Int) := [[0, 1, 0], [2], [1]]
theorem half_words (h3 : ms.length = 3) : ∀ w ∈ halfW, IsWord ms w := fun w hw => by
  unfold halfW at hw
  simp at hw
  rcases hw with rfl | rfl | rfl <;> exact ⟨by simp, fun x hx => by simp at hx; omega⟩
/-- half of it has all flags or half of them -/
theorem half_flags (hm : IsMan ms) (h3 : ms.length = 3) : nf (repl ms halfW) = nf ms ∨ 2 * nf (repl ms halfW) = nf ms := by
  have hw := half_words h3
  have hs := wds_syst hm hw
  have h4 := hm.m0.f400
  have h2 := hm.m0.f2
  have f0 : 0 ≤ (0 : Int) ∧ (0 : Int) < nf ms := by omega
  unfold repl
  rw [nf_frm (by simp [wds, halfW])]
  have hob := obt_orbit hs f0 (by omega)
  have hmem : ∀ y : Int, y ∈ orbit (wds ms halfW) 0 ↔ Rch (wds ms halfW) 0 y := fun y => mem_orbit hs f0 (by omega)
  have at0 : ∀ {q : Nat}, q < 3 → ∀ {x : Int}, 0 ≤ x ∧ x < nf ms → 0 ≤ gi (gr ms q) x ∧ gi (gr ms q) x < nf ms := fun {q} hq {x} hx => hm.syst.at (j := (q : Int)) (by omega) (by omega) hx
  have tw : ∀ {q : Nat}, q < 3 → ∀ {x : Int}, 0 ≤ x ∧ x < nf ms → gi (gr ms q) (gi (gr ms q) x) = x := fun {q} hq {x} hx => hm.m0.twice (gr_in (by omega)) hx
  have fr : ∀ {x : Int}, 0 ≤ x ∧ x < nf ms → gi (gr ms (2 : Nat)) (gi (gr ms (0 : Nat)) x) = gi (gr ms (0 : Nat)) (gi (gr ms (2 : Nat)) x) := fun {x} hx => (hm.like.far 0 2 (by omega) (by omega) x hx).1
  have gA : ∀ {x : Int}, 0 ≤ x ∧ x < nf ms → gi (does ms [0, 1, 0] (nf ms)) x = gi (gr ms (0 : Nat)) (gi (gr ms (1 : Nat)) (gi (gr ms (0 : Nat)) x)) := fun {x} hx => gi_does hx.1 hx.2
  have gB : ∀ {x : Int}, 0 ≤ x ∧ x < nf ms → gi (does ms [2] (nf ms)) x = gi (gr ms (2 : Nat)) x := fun {x} hx => gi_does hx.1 hx.2
  have gC : ∀ {x : Int}, 0 ≤ x ∧ x < nf ms → gi (does ms [1] (nf ms)) x = gi (gr ms (1 : Nat)) x := fun {x} hx => gi_does hx.1 hx.2
  have mA : does ms [0, 1, 0] (nf ms) ∈ wds ms halfW := by simp [wds, halfW]
  have mB : does ms [2] (nf ms) ∈ wds ms halfW := by simp [wds, halfW]
  have mC : does ms [1] (nf ms) ∈ wds ms halfW := by simp [wds, halfW]
  have cases3 : ∀ {m : List Int}, m ∈ wds ms halfW → m = does ms [0, 1, 0] (nf ms) ∨ m = does ms [2] (nf ms) ∨ m = does ms [1] (nf ms) := fun {m} h => by simpa [wds, halfW] using h
  -- the steps back
  have back : ∀ x y : Int, 0 ≤ x ∧ x < nf ms → Rch (wds ms halfW) x y → Rch (wds ms halfW) y x := fun x y hx hr => by
    induction hr with
    | refl => exact .refl _
    | @step y m hr hmm ih =>
      have hy := hr.rng hs hx
      have h0 := at0 (q := 0) (by omega) hy
      refine Rch.trans ?_ ih
      have e : gi m (gi m y) = y := by
        rcases cases3 hmm with rfl | rfl | rfl
        · rw [gA hy, gA (at0 (by omega) (at0 (by omega) h0)), tw (by omega) (at0 (by omega) h0), tw (by omega) h0, tw (by omega) hy]
        · rw [gB hy, gB (at0 (by omega) hy), tw (by omega) hy]
        · rw [gC hy, gC (at0 (by omega) hy), tw (by omega) hy]
      have := Rch.step (.refl (gi m y)) hmm
      rw [e] at this
      exact this
  -- the move 0 turns steps into steps
  have conj : ∀ x y : Int, 0 ≤ x ∧ x < nf ms → Rch (wds ms halfW) x y → Rch (wds ms halfW) (gi (gr ms (0 : Nat)) x) (gi (gr ms (0 : Nat)) y) := fun x y hx hr => by
    induction hr with
    | refl => exact .refl _
    | @step y m hr hmm ih =>
      have hy := hr.rng hs hx
      have h0 := at0 (q := 0) (by omega) hy
      rcases cases3 hmm with rfl | rfl | rfl
      · have := Rch.step ih mC
        rw [gC h0] at this
        rw [gA hy, tw (by omega) (at0 (by omega) h0)]
        exact this
      · have := Rch.step ih mB
        rw [gB h0, fr hy] at this
        rw [gB hy]
        exact this
      · have := Rch.step ih mA
        rw [gA h0, tw (by omega) hy] at this
        rw [gC hy]
        exact this
  generalize orbit (wds ms halfW) 0 = O at *
  have h0O : (0 : Int) ∈ O := (hmem 0).2 (.refl _)
  have split : ∀ x : Int, Rch ms 0 x → x ∈ O ∨ gi (gr ms (0 : Nat)) x ∈ O := fun x hr => by
    induction hr with
    | refl => exact .inl h0O
    | @step y m hr hmm ih =>
      have hy := hr.rng hm.syst f0
      have h0 := at0 (q := 0) (by omega) hy
      obtain ⟨q, hq, rfl⟩ := mem_gr hmm
      have hq3 : q = 0 ∨ q = 1 ∨ q = 2 := by omega
      rcases ih with ih | ih
      · rcases hq3 with rfl | rfl | rfl
        · right; rw [tw (by omega) hy]; exact ih
        · left; have := hob.shut y ih _ mC; rw [gC hy] at this; exact this
        · left; have := hob.shut y ih _ mB; rw [gB hy] at this; exact this
      · rcases hq3 with rfl | rfl | rfl
        · left; exact ih
        · right
          have := hob.shut _ ih _ mA
          rw [gA h0, tw (by omega) hy] at this
          exact this
        · right
          have := hob.shut _ ih _ mB
          rw [gB h0, fr hy] at this
          exact this
  have hall : ∀ x : Int, 0 ≤ x → x < nf ms → x ∈ O ∨ gi (gr ms (0 : Nat)) x ∈ O := fun x h0 hx => split x (hm.all f0.1 f0.2 |> fun _ => hm.all h0 hx)
  have hle := hob.le
  by_cases hmeet : ∃ y ∈ O, gi (gr ms (0 : Nat)) y ∈ O
  · left
    obtain ⟨y, hy, hy2⟩ := hmeet
    have hyr := hob.rng y hy
    have hfull : ∀ x : Int, 0 ≤ x → x < nf ms → x ∈ O := fun x h0 hx => by
      rcases hall x h0 hx with h | h
      · exact h
      · have r1 := (back 0 y f0 ((hmem y).1 hy)).trans ((hmem _).1 h)
        have r2 := conj y _ hyr r1
        rw [tw (by omega) ⟨h0, hx⟩] at r2
        exact (hmem x).2 (((hmem _).1 hy2).trans r2)
    have := all_le hfull
    omega
  · right
    have hn2 : (O ++ O.map (gi (gr ms (0 : Nat)))).Nodup := by
      rw [List.nodup_append]
      refine ⟨hob.nodup, ?_, fun a ha b hb e => ?_⟩
      · refine List.pairwise_map.2 (List.Pairwise.imp_of_mem (fun {a b} ha hb hab e => hab ?_) hob.nodup)
        have := congrArg (gi (gr ms (0 : Nat))) e
        rwa [tw (by omega) (hob.rng a ha), tw (by omega) (hob.rng b hb)] at this
      · subst e
        obtain ⟨y, hy, rfl⟩ := List.mem_map.1 hb
        exact hmeet ⟨y, hy, ha⟩
    have h1 := nodup_le (n := nf ms) hn2 fun x hx => by
      rcases List.mem_append.1 hx with h | h
      · exact hob.rng x h
      · obtain ⟨y, hy, rfl⟩ := List.mem_map.1 h
        exact at0 (by omega) (hob.rng y hy)
    have h2' := all_le (n := nf ms) (O := O ++ O.map (gi (gr ms (0 : Nat)))) fun x h0 hx => by
      rcases hall x h0 hx with h | h
      · exact List.mem_append_left _ h
      · refine List.mem_append_right _ (List.mem_map.2 ⟨_, h, tw (by omega) ⟨h0, hx⟩⟩)
    simp at h1 h2'
    omega
end
end Go.Mem

/- Plain words on lists: maps between systems of moves (no maniplexes asked for): forms, words, reversed orders, numbers of orbits. No program in sight. -/
namespace Go.Mem
set_option linter.unusedVariables false
/-- p takes the points of A to points of B, different ones to different ones, and agrees with the moves -/
structure HomS (n n' : Nat) (A B : List (List Int)) (p : List Int) : Prop where
  sa : Syst n A
  sb : Syst n' B
  len : A.length = B.length
  rng : ∀ x : Int, 0 ≤ x ∧ x < n → 0 ≤ gi p x ∧ gi p x < n'
  inj : ∀ a b : Int, (0 ≤ a ∧ a < n) → (0 ≤ b ∧ b < n) → gi p a = gi p b → a = b
  mv : ∀ j : Nat, j < A.length → ∀ x : Int, 0 ≤ x ∧ x < n → gi p (gi (gr A j) x) = gi (gr B j) (gi p x)
/-- what words do, on n points -/
def wdN (n : Nat) (A : List (List Int)) (ws : List (List Int)) : List (List Int) := ws.map fun w => does A w n
theorem wds_wdN (ms ws : List (List Int)) : wds ms ws = wdN (nf ms) ms ws := rfl
section
variable {n n' : Nat} {A B ws : List (List Int)} {p : List Int} {f : Int}
theorem Syst.gi (h : Syst n A) {j : Nat} (hj : j < A.length) {x : Int} (hx : 0 ≤ x ∧ x < n) : 0 ≤ Mem.gi (gr A j) x ∧ Mem.gi (gr A j) x < n :=
  h.at (j := (j : Int)) (by omega) (by omega) hx
theorem does_rngS (hs : Syst n A) {w : List Int} (hw : ∀ x ∈ w, 0 ≤ x ∧ x < A.length) : (does A w n).length = n ∧ ∀ x ∈ does A w n, 0 ≤ x ∧ x < n := by
  refine ⟨length_does _ _ _, fun x hx => ?_⟩
  obtain ⟨i, hi, rfl⟩ := in_gi hx
  rw [length_does] at hi
  rw [gi_does (by omega) (by omega)]
  exact run_rng hs w hw _ (by omega)
theorem wdN_syst (hs : Syst n A) (hw : ∀ w ∈ ws, ∀ x ∈ w, 0 ≤ x ∧ x < A.length) : Syst n (wdN n A ws) := fun m h => by
  obtain ⟨w, hw', rfl⟩ := List.mem_map.1 h
  exact does_rngS hs (hw w hw')
theorem gr_wdN {j : Nat} (hj : j < ws.length) : gr (wdN n A ws) j = does A (gr ws j) n := by simp [wdN, gr, List.getD, hj]
theorem HomS.bfs (h : HomS n n' A B p) (hf : 0 ≤ f ∧ f < n) : ∀ i : Nat, Mem.bfs B (Mem.gi p f) i = (Mem.bfs A f i).map (Mem.gi p) ∧ ∀ x ∈ Mem.bfs A f i, 0 ≤ x ∧ x < n
  | 0 => ⟨rfl, fun x hx => by simp [Mem.bfs] at hx; subst hx; exact hf⟩
  | i + 1 => by
    obtain ⟨h1, h2⟩ := h.bfs hf i
    have hlen : (Mem.bfs B (Mem.gi p f) i).length = (Mem.bfs A f i).length := by rw [h1, List.length_map]
    unfold Mem.bfs
    by_cases hi : i < (Mem.bfs A f i).length
    · rw [if_pos hi, if_pos (by omega)]
      have hx := h2 _ (gi_in hi)
      have e : images B (Mem.gi (Mem.bfs B (Mem.gi p f) i) i) = (images A (Mem.gi (Mem.bfs A f i) i)).map (Mem.gi p) := by
        rw [h1, gi_map (by omega) (by omega)]
        unfold images
        refine list_ext_gi (by simp [h.len]) fun j h0 hj => ?_
        have hl := h.len
        rw [List.length_map] at hj
        obtain ⟨j, rfl⟩ : ∃ k : Nat, j = k := ⟨j.toNat, by omega⟩
        rw [gi_map (f := Mem.gi p) (by omega) (by simp; omega), gi_rows (by omega), gi_rows (by omega)]
        exact (h.mv j (by omega) _ hx).symm
      rw [e, h1]
      refine visits_map h.inj _ h2 fun x hx' => ?_
      unfold images at hx'
      obtain ⟨m, hmm, rfl⟩ := List.mem_map.1 hx'
      have hr := h.sa m hmm
      exact hr.2 _ (gi_mem hx.1 (by rw [hr.1]; exact hx.2))
    · rw [if_neg hi, if_neg (by omega)]; exact ⟨h1, h2⟩
theorem HomS.orbit (h : HomS n n' A B p) (hf : 0 ≤ f ∧ f < n) : Mem.orbit B (Mem.gi p f) = (Mem.orbit A f).map (Mem.gi p) := (h.bfs hf 1000).1
/-- the forms are the same -/
theorem HomS.frm (h : HomS n n' A B p) (hn : n ≤ 1000) (hn' : n' ≤ 1000) (hf : 0 ≤ f ∧ f < n) : Mem.frm n' B (Mem.gi p f) = Mem.frm n A f := by
  have hl := h.len
  have o1 := obt_orbit h.sa hf hn
  have o2 := obt_orbit h.sb (h.rng f hf) hn'
  have ho := h.orbit hf
  show frmO n' B (Mem.orbit B (Mem.gi p f)) = frmO n A (Mem.orbit A f)
  generalize Mem.orbit B (Mem.gi p f) = Ok at *
  generalize Mem.orbit A f = Om at *
  have hlen : Ok.length = Om.length := by rw [ho, List.length_map]
  have hnum : ∀ x ∈ Om, Mem.gi (numIn n' Ok) (Mem.gi p x) = Mem.gi (numIn n Om) x := fun x hx => by
    obtain ⟨k, hk', rfl⟩ := in_gi hx
    rw [num_at o1.nodup o1.rng hk']
    have e : Mem.gi Ok k = Mem.gi p (Mem.gi Om k) := by rw [ho, gi_map (by omega) (by omega)]
    rw [← e, num_at o2.nodup o2.rng (by omega)]
  refine rows_ext (by simp [frmO, hl]) fun q hq => ?_
  have hq2 : q < B.length := by simpa [frmO] using hq
  rw [frmO_gr hq2, frmO_gr (by omega)]
  refine list_ext_gi (by simp [hlen]) fun k h0 hk' => ?_
  rw [List.length_map] at hk'
  rw [gi_map h0 hk', gi_map h0 (by omega)]
  have hx : Mem.gi Om k ∈ Om := gi_mem h0 (by omega)
  have hxr := o1.rng _ hx
  have e : Mem.gi Ok k = Mem.gi p (Mem.gi Om k) := by rw [ho, gi_map h0 (by omega)]
  rw [e, ← h.mv q (by omega) _ hxr]
  refine hnum _ (o1.shut _ hx _ (by
    have : q < A.length := by omega
    simp [gr, List.getD, this]))
theorem HomS.run (h : HomS n n' A B p) : ∀ (w : List Int), (∀ x ∈ w, 0 ≤ x ∧ x < A.length) → ∀ {x : Int}, 0 ≤ x ∧ x < n → Mem.run B w (Mem.gi p x) = Mem.gi p (Mem.run A w x)
  | [], _, _, _ => rfl
  | a :: w, hw, x, hx => by
    have ha := hw a (by simp)
    obtain ⟨q, rfl⟩ : ∃ q : Nat, a = q := ⟨a.toNat, by omega⟩
    show Mem.run B w (Mem.gi (gr B q) (Mem.gi p x)) = Mem.gi p (Mem.run A w (Mem.gi (gr A q) x))
    rw [← h.mv q (by omega) x hx]
    exact h.run w (fun y hy => hw y (List.mem_cons_of_mem _ hy)) (h.sa.gi (by omega) hx)
theorem HomS.wd (h : HomS n n' A B p) (hw : ∀ w ∈ ws, ∀ x ∈ w, 0 ≤ x ∧ x < A.length) : HomS n n' (wdN n A ws) (wdN n' B ws) p := by
  refine ⟨wdN_syst h.sa hw, wdN_syst h.sb (by rw [← h.len]; exact hw), by simp [wdN], h.rng, h.inj, fun j hj x hx => ?_⟩
  have hj : j < ws.length := by simpa [wdN] using hj
  have hr := h.rng x hx
  rw [gr_wdN hj, gr_wdN hj, gi_does hx.1 hx.2, gi_does hr.1 hr.2]
  exact (h.run _ (hw _ (gr_in (by omega))) hx).symm
theorem HomS.rev (h : HomS n n' A B p) : HomS n n' A.reverse B.reverse p := by
  have hl := h.len
  refine ⟨fun m hm => h.sa m (List.mem_reverse.1 hm), fun m hm => h.sb m (List.mem_reverse.1 hm), by simp [h.len], h.rng, h.inj, fun j hj x hx => ?_⟩
  have hj : j < A.length := by simpa using hj
  rw [gr_rev hj, gr_rev (by omega), h.mv _ (by omega) x hx, hl]
/-- the numbering of all points is a map to the form -/
theorem homS_num (hs : Syst n A) (hn : n ≤ 1000) (h1 : 1 ≤ n) (r1 : 1 ≤ A.length) (hfull : (Mem.orbit A 0).length = n) : HomS n n A (Mem.frm n A 0) (numIn n (Mem.orbit A 0)) ∧ Mem.gi (numIn n (Mem.orbit A 0)) 0 = 0 := by
  have hob := obt_orbit hs (p := 0) (by omega) hn
  show HomS n n A (frmO n A (Mem.orbit A 0)) (numIn n (Mem.orbit A 0)) ∧ _
  generalize Mem.orbit A 0 = O at *
  have hin : ∀ x : Int, 0 ≤ x ∧ x < n → x ∈ O := fun x hx => full_mem hob.nodup hob.rng hfull hx.1 hx.2
  have hsb : Syst n (frmO n A O) := fun m hm => by
    obtain ⟨q, hq, rfl⟩ := mem_gr hm
    have hq : q < A.length := by simpa [frmO] using hq
    rw [frmO_gr hq]
    refine ⟨by simp [hfull], fun y hy => ?_⟩
    obtain ⟨x, hx, rfl⟩ := List.mem_map.1 hy
    have := hob.num (hob.shut x hx _ (gr_in hq))
    omega
  refine ⟨⟨hs, hsb, by simp [frmO], fun x hx => ?_, fun a b ha hb e => hob.inj (hin a ha) (hin b hb) e, fun j hj x hx => (frmO_num hob hj (hin x hx)).symm⟩, ?_⟩
  · have := hob.num (hin x hx); omega
  · have := num_at hob.nodup hob.rng (k := 0) hob.pos
    rw [show ((0 : Nat) : Int) = 0 from rfl, hob.first] at this
    exact this
/-- words on the form of all points make the form of the words -/
theorem frm_wd (hs : Syst n A) (hn : n ≤ 1000) (h1 : 1 ≤ n) (r1 : 1 ≤ A.length) (hfull : (Mem.orbit A 0).length = n) (hw : ∀ w ∈ ws, ∀ x ∈ w, 0 ≤ x ∧ x < A.length) : Mem.frm n (wdN n (Mem.frm n A 0) ws) 0 = Mem.frm n (wdN n A ws) 0 := by
  obtain ⟨h, h0⟩ := homS_num hs hn h1 r1 hfull
  have := (h.wd hw).frm hn hn (f := 0) (by omega)
  rwa [h0] at this
theorem frm_revf (hs : Syst n A) (hn : n ≤ 1000) (h1 : 1 ≤ n) (r1 : 1 ≤ A.length) (hfull : (Mem.orbit A 0).length = n) : Mem.frm n (Mem.frm n A 0).reverse 0 = Mem.frm n A.reverse 0 := by
  obtain ⟨h, h0⟩ := homS_num hs hn h1 r1 hfull
  have := h.rev.frm hn hn (f := 0) (by omega)
  rwa [h0] at this
/-- a form of a form -/
theorem frm_frm (hs : Syst n A) (hn : n ≤ 1000) (h1 : 1 ≤ n) (r1 : 1 ≤ A.length) (hfull : (Mem.orbit A 0).length = n) : Mem.frm n (Mem.frm n A 0) 0 = Mem.frm n A 0 := by
  obtain ⟨h, h0⟩ := homS_num hs hn h1 r1 hfull
  have := h.frm hn hn (f := 0) (by omega)
  rwa [h0] at this
/-- maps that take different orbits to different ones -/
theorem labc_le {g : Int → Int} (hA : Sym n A) (hB : Sym n' B) (hn : n ≤ 1000) (hn' : n' ≤ 1000) (hr : ∀ x : Int, 0 ≤ x ∧ x < n → 0 ≤ g x ∧ g x < n') (h : ∀ x y : Int, 0 ≤ x ∧ x < n → 0 ≤ y ∧ y < n → Rch B (g x) (g y) → Rch A x y) : labc n A ≤ labc n' B := by
  have LA := labs_all hA hn
  have LB := labs_all hB hn'
  have c0 := LA.c0
  have d0 := LB.c0
  have hex : ∀ o : Nat, ∃ x : Int, o < (labc n A).toNat → 0 ≤ x ∧ x < n ∧ Mem.gi (labs n A) x = o := fun o => by
    by_cases ho : o < (labc n A).toNat
    · obtain ⟨x, a, _, b, c⟩ := LA.hit o (by omega) (by omega)
      exact ⟨x, fun _ => ⟨a, b, c⟩⟩
    · exact ⟨0, fun h' => absurd h' ho⟩
  obtain ⟨s, hs⟩ := Classical.axiomOfChoice hex
  have hnd : ((List.range (labc n A).toNat).map fun o => Mem.gi (labs n' B) (g (s o))).Nodup := by
    refine List.pairwise_map.2 (List.Pairwise.imp_of_mem (fun {a b} ha hb hab e => hab ?_) List.nodup_range)
    obtain ⟨a0, a1, a2⟩ := hs a (List.mem_range.1 ha)
    obtain ⟨b0, b1, b2⟩ := hs b (List.mem_range.1 hb)
    have ga := hr _ ⟨a0, a1⟩
    have gb := hr _ ⟨b0, b1⟩
    have hreach := LB.only _ _ ga.1 ga.2 gb.1 gb.2 (LB.done _ ga.1 ga.2 ga.2) e.symm
    have := LA.shut _ _ a0 a1 (by omega) (h _ _ ⟨a0, a1⟩ ⟨b0, b1⟩ hreach)
    omega
  have := nodup_le (n := (labc n' B).toNat) hnd fun y hy => by
    obtain ⟨o, ho, rfl⟩ := List.mem_map.1 hy
    obtain ⟨a0, a1, _⟩ := hs o (List.mem_range.1 ho)
    have ga := hr _ ⟨a0, a1⟩
    have := LB.done _ ga.1 ga.2 ga.2
    have := (LB.rng _ ga.1 ga.2).2
    omega
  simp at this
  omega
theorem labc_same (hA : Sym n A) (hB : Sym n B) (hn : n ≤ 1000) (h : ∀ x y : Int, 0 ≤ x ∧ x < n → 0 ≤ y ∧ y < n → (Rch A x y ↔ Rch B x y)) : labc n A = labc n B := by
  have h1 := labc_le (g := fun x => x) hA hB hn hn (fun x hx => hx) (fun x y hx hy hr => (h x y hx hy).2 hr)
  have h2 := labc_le (g := fun x => x) hB hA hn hn (fun x hx => hx) (fun x y hx hy hr => (h x y hx hy).1 hr)
  omega
theorem HomS.rch (h : HomS n n' A B p) {x y : Int} (hx : 0 ≤ x ∧ x < n) (hr : Rch A x y) : Rch B (Mem.gi p x) (Mem.gi p y) := by
  induction hr with
  | refl => exact .refl _
  | @step y m hr hm ih =>
    obtain ⟨q, hq, rfl⟩ := mem_gr hm
    have hl := h.len
    rw [h.mv q hq _ (hr.rng h.sa hx)]
    exact .step ih (gr_in (by omega))
theorem HomS.rch_back (h : HomS n n' A B p) {x z : Int} (hx : 0 ≤ x ∧ x < n) (hr : Rch B (Mem.gi p x) z) : ∃ y : Int, (0 ≤ y ∧ y < n) ∧ z = Mem.gi p y ∧ Rch A x y := by
  induction hr with
  | refl => exact ⟨x, hx, rfl, .refl _⟩
  | @step z m hr hm ih =>
    obtain ⟨y, hy, rfl, hxy⟩ := ih
    obtain ⟨q, hq, rfl⟩ := mem_gr hm
    have hl := h.len
    exact ⟨_, h.sa.gi (by omega) hy, (h.mv q (by omega) _ hy).symm, .step hxy (gr_in (by omega))⟩
/-- as many orbits, if all points of B come from A -/
theorem HomS.labc (h : HomS n n A B p) (hA : Sym n A) (hB : Sym n B) (hn : n ≤ 1000) : Mem.labc n A = Mem.labc n B := by
  have h1 := labc_le (g := fun x => Mem.gi p x) hA hB hn hn h.rng (fun x y hx hy hr => by
    obtain ⟨z, hz, e, hr2⟩ := h.rch_back hx hr
    rw [h.inj y z hy hz e]; exact hr2)
  -- back
  have hnd : ((List.range n).map fun x : Nat => Mem.gi p x).Nodup := List.pairwise_map.2 (List.Pairwise.imp_of_mem (fun {a b} ha hb hab e => hab (by
    have := List.mem_range.1 ha
    have := List.mem_range.1 hb
    have := h.inj a b (by omega) (by omega) e
    omega)) List.nodup_range)
  have hon : ∀ y : Int, 0 ≤ y ∧ y < n → ∃ x : Int, (0 ≤ x ∧ x < n) ∧ Mem.gi p x = y := fun y hy => by
    have := full_mem hnd (fun z hz => by
      obtain ⟨i, hi, rfl⟩ := List.mem_map.1 hz
      have := List.mem_range.1 hi
      exact h.rng _ (by omega)) (by simp) hy.1 hy.2
    obtain ⟨i, hi, e⟩ := List.mem_map.1 this
    have := List.mem_range.1 hi
    exact ⟨i, by omega, e⟩
  have hex : ∀ y : Int, ∃ x : Int, 0 ≤ y ∧ y < n → (0 ≤ x ∧ x < n) ∧ Mem.gi p x = y := fun y => by
    by_cases hy : 0 ≤ y ∧ y < n
    · obtain ⟨x, hx⟩ := hon y hy; exact ⟨x, fun _ => hx⟩
    · exact ⟨0, fun h' => absurd h' hy⟩
  obtain ⟨s, hs⟩ := Classical.axiomOfChoice hex
  have h2 := labc_le (g := s) hB hA hn hn (fun x hx => (hs x hx).1) (fun x y hx hy hr => by
    have := h.rch (hs x hx).1 hr
    rwa [(hs x hx).2, (hs y hy).2] at this)
  omega
end
end Go.Mem

/- Plain words on lists: Petrie duals and opposites of rank 3. No program in sight. -/
namespace Go.Mem
set_option linter.unusedVariables false
def petW3 : List (List Int) := [[0, 2], [1], [2]]
def oppW3 : List (List Int) := [[0], [1], [0, 2]]
/-- moves like those of a maniplex, that lead 0 everywhere -/
structure Full (n : Nat) (A : List (List Int)) : Prop where
  like : Like n A
  all : ∀ x : Int, 0 ≤ x → x < n → Rch A 0 x
section
variable {n : Nat} {A : List (List Int)} {ms : List (List Int)}
theorem IsMan.full (hm : IsMan ms) : Full (nf ms) ms := ⟨hm.like, fun x h0 hx => hm.all h0 hx⟩
theorem Like.sym (h : Like n A) {S : List (List Int)} (hS : ∀ m ∈ S, m ∈ A) : Sym n S :=
  sym_of_twice (fun m hm => h.syst m (hS m hm)) fun m hm x hx => by
    obtain ⟨q, hq, rfl⟩ := mem_gr (hS m hm)
    exact (h.free q hq x hx).2
theorem Like.two (h : Like n A) (hn : 1 ≤ n) : 2 ≤ n := by
  have r1 := h.r1
  have f := (h.free 0 (by omega) 0 (by omega)).1
  have := h.syst.gi (j := 0) (by omega) (x := 0) (by omega)
  omega
theorem Full.orbit_len (h : Full n A) (h1 : 1 ≤ n) : (orbit A 0).length = n := by
  have h4 := h.like.n400
  have hob := obt_orbit h.like.syst (p := 0) (by omega) (by omega)
  have hmem : ∀ y : Int, Rch A 0 y → y ∈ orbit A 0 := fun y hy => (mem_orbit h.like.syst (by omega) (by omega)).2 hy
  have := all_le fun x h0 hx => hmem x (h.all x h0 hx)
  have := hob.le
  omega
theorem Full.man (h : Full n A) (h1 : 1 ≤ n) : IsMan (frm n A 0) := frm_man h.like (by omega)
theorem Full.nf (h : Full n A) (h1 : 1 ≤ n) : Mem.nf (frm n A 0) = n := by rw [nf_frm h.like.r1, h.orbit_len h1]
theorem IsMan.revFull (hm : IsMan ms) : Full (nf ms) ms.reverse := by
  refine ⟨hm.revLike, fun x h0 hx => ?_⟩
  have := hm.all h0 hx
  exact this.sub fun m h => List.mem_reverse.2 h
/-- the form of all points is taken to the same words, reversed orders and forms -/
theorem Full.wd (h : Full n A) (h1 : 1 ≤ n) {ws : List (List Int)} (hw : ∀ w ∈ ws, ∀ x ∈ w, 0 ≤ x ∧ x < A.length) : frm n (wdN n (frm n A 0) ws) 0 = frm n (wdN n A ws) 0 := by
  have := h.like.n400
  exact frm_wd h.like.syst (by omega) h1 h.like.r1 (h.orbit_len h1) hw
theorem Full.rev (h : Full n A) (h1 : 1 ≤ n) : frm n (frm n A 0).reverse 0 = frm n A.reverse 0 := by
  have := h.like.n400
  exact frm_revf h.like.syst (by omega) h1 h.like.r1 (h.orbit_len h1)
/-- rank 3 -/
theorem wdN_rows {ws B : List (List Int)} (hB : ∀ m ∈ B, m.length = n) (hl : ws.length = B.length) (h : ∀ q : Nat, q < B.length → ∀ x : Int, 0 ≤ x ∧ x < n → run A (gr ws q) x = gi (gr B q) x) : wdN n A ws = B := by
  refine rows_ext (by simp [wdN, hl]) fun q hq => ?_
  have hq : q < ws.length := by simpa [wdN] using hq
  rw [gr_wdN hq]
  have hb : (gr B q).length = n := hB _ (gr_in (by omega))
  refine list_ext_gi (by rw [length_does, hb]) fun x h0 hx => ?_
  rw [length_does] at hx
  rw [gi_does h0 hx]
  exact h q (by omega) x ⟨h0, hx⟩
structure Th (n : Nat) (A : List (List Int)) : Prop where
  full : Full n A
  three : A.length = 3
  pos : 1 ≤ n
theorem Th.at (h : Th n A) {q : Nat} (hq : q < 3) {x : Int} (hx : 0 ≤ x ∧ x < n) : 0 ≤ gi (gr A q) x ∧ gi (gr A q) x < n := h.full.like.syst.gi (by have := h.three; omega) hx
theorem Th.tw (h : Th n A) {q : Nat} (hq : q < 3) {x : Int} (hx : 0 ≤ x ∧ x < n) : gi (gr A q) (gi (gr A q) x) = x := (h.full.like.free q (by have := h.three; omega) x hx).2
theorem Th.ne (h : Th n A) {q : Nat} (hq : q < 3) {x : Int} (hx : 0 ≤ x ∧ x < n) : gi (gr A q) x ≠ x := (h.full.like.free q (by have := h.three; omega) x hx).1
theorem Th.fr (h : Th n A) {x : Int} (hx : 0 ≤ x ∧ x < n) : gi (gr A (2 : Nat)) (gi (gr A (0 : Nat)) x) = gi (gr A (0 : Nat)) (gi (gr A (2 : Nat)) x) := (h.full.like.far 0 2 (by omega) (by have := h.three; omega) x hx).1
theorem Th.fne (h : Th n A) {x : Int} (hx : 0 ≤ x ∧ x < n) : gi (gr A (0 : Nat)) x ≠ gi (gr A (2 : Nat)) x := (h.full.like.far 0 2 (by omega) (by have := h.three; omega) x hx).2
theorem Th.w3 (h : Th n A) {ws : List (List Int)} (hw : ws = petW3 ∨ ws = oppW3) : ws.length = 3 ∧ ∀ w ∈ ws, ∀ x ∈ w, 0 ≤ x ∧ x < A.length := by
  have h3 := h.three
  rcases hw with rfl | rfl
  · refine ⟨rfl, fun w hw x hx => ?_⟩
    unfold petW3 at hw; simp at hw
    rcases hw with rfl | rfl | rfl <;> (simp at hx; omega)
  · refine ⟨rfl, fun w hw x hx => ?_⟩
    unfold oppW3 at hw; simp at hw
    rcases hw with rfl | rfl | rfl <;> (simp at hx; omega)
theorem q3 {q : Nat} (h : q < 3) : q = 0 ∨ q = 1 ∨ q = 2 := by omega
theorem gi_pet (h : Th n A) {x : Int} (hx : 0 ≤ x ∧ x < n) : gi (gr (wdN n A petW3) (0 : Nat)) x = gi (gr A (2 : Nat)) (gi (gr A (0 : Nat)) x) ∧ gi (gr (wdN n A petW3) (1 : Nat)) x = gi (gr A (1 : Nat)) x ∧ gi (gr (wdN n A petW3) (2 : Nat)) x = gi (gr A (2 : Nat)) x := by
  refine ⟨?_, ?_, ?_⟩ <;> (rw [gr_wdN (by simp [petW3]), gi_does hx.1 hx.2]; rfl)
theorem gi_opp (h : Th n A) {x : Int} (hx : 0 ≤ x ∧ x < n) : gi (gr (wdN n A oppW3) (0 : Nat)) x = gi (gr A (0 : Nat)) x ∧ gi (gr (wdN n A oppW3) (1 : Nat)) x = gi (gr A (1 : Nat)) x ∧ gi (gr (wdN n A oppW3) (2 : Nat)) x = gi (gr A (2 : Nat)) (gi (gr A (0 : Nat)) x) := by
  refine ⟨?_, ?_, ?_⟩ <;> (rw [gr_wdN (by simp [oppW3]), gi_does hx.1 hx.2]; rfl)
theorem len3 (n : Nat) (A : List (List Int)) : (wdN n A petW3).length = 3 ∧ (wdN n A oppW3).length = 3 := ⟨by simp [wdN, petW3], by simp [wdN, oppW3]⟩
/-- the Petrie dual's moves -/
theorem Th.pet (h : Th n A) : Th n (wdN n A petW3) := by
  obtain ⟨wl, ww⟩ := h.w3 (.inl rfl)
  have h3 := (len3 n A).1
  have hs := wdN_syst h.full.like.syst ww
  have hfree : ∀ q : Nat, q < 3 → ∀ x : Int, 0 ≤ x ∧ x < n → gi (gr (wdN n A petW3) q) x ≠ x ∧ gi (gr (wdN n A petW3) q) (gi (gr (wdN n A petW3) q) x) = x := fun q hq x hx => by
    have x0 := h.at (q := 0) (by omega) hx
    have x1 := h.at (q := 1) (by omega) hx
    have x2 := h.at (q := 2) (by omega) hx
    have x20 := h.at (q := 2) (by omega) x0
    rcases q3 hq with rfl | rfl | rfl
    · rw [(gi_pet h hx).1, (gi_pet h x20).1]
      refine ⟨fun e => ?_, ?_⟩
      · have e2 := congrArg (gi (gr A (2 : Nat))) e
        rw [h.tw (by omega) x0] at e2
        exact h.fne hx e2
      · rw [h.fr x20, h.tw (by omega) x0, h.tw (by omega) hx]
    · rw [(gi_pet h hx).2.1, (gi_pet h x1).2.1]
      exact ⟨h.ne (by omega) hx, h.tw (by omega) hx⟩
    · rw [(gi_pet h hx).2.2, (gi_pet h x2).2.2]
      exact ⟨h.ne (by omega) hx, h.tw (by omega) hx⟩
  have hlike : Like n (wdN n A petW3) := by
    refine ⟨by omega, by omega, h.full.like.n400, hs, fun q hq => hfree q (by omega), fun a k hak hk x hx => ?_⟩
    obtain ⟨rfl, rfl⟩ : a = 0 ∧ k = 2 := by omega
    have x0 := h.at (q := 0) (by omega) hx
    have x2 := h.at (q := 2) (by omega) hx
    have x20 := h.at (q := 2) (by omega) x0
    rw [(gi_pet h hx).1, (gi_pet h hx).2.2, (gi_pet h x20).2.2, (gi_pet h x2).1]
    refine ⟨by rw [← h.fr hx], fun e => ?_⟩
    have e2 := congrArg (gi (gr A (2 : Nat))) e
    rw [h.tw (by omega) x0, h.tw (by omega) hx] at e2
    exact h.ne (by omega) hx e2
  refine ⟨⟨hlike, fun x h0 hx => ?_⟩, h3, h.pos⟩
  have key : ∀ y : Int, Rch A 0 y → Rch (wdN n A petW3) 0 y := fun y hy => by
    induction hy with
    | refl => exact .refl _
    | @step y m hr hm ih =>
      have hy := hr.rng h.full.like.syst (by have := h.pos; omega)
      have y2 := h.at (q := 2) (by omega) hy
      obtain ⟨q, hq, rfl⟩ := mem_gr hm
      have e3 := h.three
      rcases q3 (q := q) (by omega) with rfl | rfl | rfl
      · have s2 := Rch.step ih (gr_in (xss := wdN n A petW3) (j := 2) (by omega))
        rw [(gi_pet h hy).2.2] at s2
        have s0 := Rch.step s2 (gr_in (xss := wdN n A petW3) (j := 0) (by omega))
        rw [(gi_pet h y2).1, h.fr y2, h.tw (by omega) hy] at s0
        exact s0
      · have s := Rch.step ih (gr_in (xss := wdN n A petW3) (j := 1) (by omega))
        rwa [(gi_pet h hy).2.1] at s
      · have s := Rch.step ih (gr_in (xss := wdN n A petW3) (j := 2) (by omega))
        rwa [(gi_pet h hy).2.2] at s
  exact key x (h.full.all x h0 hx)
/-- the opposite's moves -/
theorem Th.opp (h : Th n A) : Th n (wdN n A oppW3) := by
  obtain ⟨wl, ww⟩ := h.w3 (.inr rfl)
  have h3 := (len3 n A).2
  have hs := wdN_syst h.full.like.syst ww
  have hfree : ∀ q : Nat, q < 3 → ∀ x : Int, 0 ≤ x ∧ x < n → gi (gr (wdN n A oppW3) q) x ≠ x ∧ gi (gr (wdN n A oppW3) q) (gi (gr (wdN n A oppW3) q) x) = x := fun q hq x hx => by
    have x0 := h.at (q := 0) (by omega) hx
    have x1 := h.at (q := 1) (by omega) hx
    have x2 := h.at (q := 2) (by omega) hx
    have x20 := h.at (q := 2) (by omega) x0
    rcases q3 hq with rfl | rfl | rfl
    · rw [(gi_opp h hx).1, (gi_opp h x0).1]
      exact ⟨h.ne (by omega) hx, h.tw (by omega) hx⟩
    · rw [(gi_opp h hx).2.1, (gi_opp h x1).2.1]
      exact ⟨h.ne (by omega) hx, h.tw (by omega) hx⟩
    · rw [(gi_opp h hx).2.2, (gi_opp h x20).2.2]
      refine ⟨fun e => ?_, ?_⟩
      · have e2 := congrArg (gi (gr A (2 : Nat))) e
        rw [h.tw (by omega) x0] at e2
        exact h.fne hx e2
      · rw [h.fr x20, h.tw (by omega) x0, h.tw (by omega) hx]
  have hlike : Like n (wdN n A oppW3) := by
    refine ⟨by omega, by omega, h.full.like.n400, hs, fun q hq => hfree q (by omega), fun a k hak hk x hx => ?_⟩
    obtain ⟨rfl, rfl⟩ : a = 0 ∧ k = 2 := by omega
    have x0 := h.at (q := 0) (by omega) hx
    have x2 := h.at (q := 2) (by omega) hx
    have x20 := h.at (q := 2) (by omega) x0
    rw [(gi_opp h hx).1, (gi_opp h hx).2.2, (gi_opp h x0).2.2, (gi_opp h x20).1]
    refine ⟨by rw [h.fr x0], fun e => ?_⟩
    exact h.ne (q := 2) (by omega) x0 e.symm
  refine ⟨⟨hlike, fun x h0 hx => ?_⟩, h3, h.pos⟩
  have key : ∀ y : Int, Rch A 0 y → Rch (wdN n A oppW3) 0 y := fun y hy => by
    induction hy with
    | refl => exact .refl _
    | @step y m hr hm ih =>
      have hy := hr.rng h.full.like.syst (by have := h.pos; omega)
      have y0 := h.at (q := 0) (by omega) hy
      obtain ⟨q, hq, rfl⟩ := mem_gr hm
      have e3 := h.three
      rcases q3 (q := q) (by omega) with rfl | rfl | rfl
      · have s := Rch.step ih (gr_in (xss := wdN n A oppW3) (j := 0) (by omega))
        rwa [(gi_opp h hy).1] at s
      · have s := Rch.step ih (gr_in (xss := wdN n A oppW3) (j := 1) (by omega))
        rwa [(gi_opp h hy).2.1] at s
      · have s0 := Rch.step ih (gr_in (xss := wdN n A oppW3) (j := 0) (by omega))
        rw [(gi_opp h hy).1] at s0
        have s2 := Rch.step s0 (gr_in (xss := wdN n A oppW3) (j := 2) (by omega))
        rw [(gi_opp h y0).2.2, h.tw (by omega) hy] at s2
        exact s2
  exact key x (h.full.all x h0 hx)
/-- twice -/
theorem Th.pet2 (h : Th n A) : wdN n (wdN n A petW3) petW3 = A := by
  have h3 := h.three
  refine wdN_rows (fun m hm => (h.full.like.syst m hm).1) (by simp [petW3, h3]) fun q hq x hx => ?_
  have x0 := h.at (q := 0) (by omega) hx
  have x20 := h.at (q := 2) (by omega) x0
  rcases q3 (q := q) (by omega) with rfl | rfl | rfl
  · show gi (gr (wdN n A petW3) (2 : Nat)) (gi (gr (wdN n A petW3) (0 : Nat)) x) = _
    rw [(gi_pet h hx).1, (gi_pet h x20).2.2, h.tw (by omega) x0]
  · exact (gi_pet h hx).2.1
  · exact (gi_pet h hx).2.2
theorem Th.opp2 (h : Th n A) : wdN n (wdN n A oppW3) oppW3 = A := by
  have h3 := h.three
  refine wdN_rows (fun m hm => (h.full.like.syst m hm).1) (by simp [oppW3, h3]) fun q hq x hx => ?_
  have x0 := h.at (q := 0) (by omega) hx
  rcases q3 (q := q) (by omega) with rfl | rfl | rfl
  · exact (gi_opp h hx).1
  · exact (gi_opp h hx).2.1
  · show gi (gr (wdN n A oppW3) (2 : Nat)) (gi (gr (wdN n A oppW3) (0 : Nat)) x) = _
    rw [(gi_opp h hx).1, (gi_opp h x0).2.2, h.tw (by omega) hx]
theorem Th.rev (h : Th n A) : Th n A.reverse := by
  have h3 := h.three
  have hl := h.full.like
  refine ⟨⟨⟨by simp; omega, by simp; omega, hl.n400, fun m hm => hl.syst m (List.mem_reverse.1 hm), fun q hq x hx => ?_, fun a k hak hk x hx => ?_⟩, fun x h0 hx => (h.full.all x h0 hx).sub fun m hm => List.mem_reverse.2 hm⟩, by simp [h3], h.pos⟩
  · have hq : q < A.length := by simpa using hq
    rw [gr_rev hq]
    exact hl.free _ (by omega) x hx
  · have hk : k < A.length := by simpa using hk
    rw [gr_rev hk, gr_rev (by omega)]
    have := hl.far (A.length - 1 - k) (A.length - 1 - a) (by omega) (by omega) x hx
    exact ⟨this.1.symm, this.2.symm⟩
/-- the opposite is the dual of the Petrie dual of the dual -/
theorem Th.opp_rev (h : Th n A) : (wdN n A.reverse petW3).reverse = wdN n A oppW3 := by
  have h3 := h.three
  have hr := h.rev
  have e : wdN n A.reverse petW3 = (wdN n A oppW3).reverse := by
    refine wdN_rows (fun m hm => ?_) (by simp [petW3, (len3 n A).2]) fun q hq x hx => ?_
    · obtain ⟨w, _, rfl⟩ := List.mem_map.1 (List.mem_reverse.1 hm)
      exact length_does _ _ _
    · have hq : q < 3 := by simpa [(len3 n A).2] using hq
      have o := gi_opp h hx
      have hx2 := h.at (q := 2) (by omega) hx
      have r0 : gr A.reverse (0 : Nat) = gr A (2 : Nat) := by rw [gr_rev (by omega), h3]
      have r1 : gr A.reverse (1 : Nat) = gr A (1 : Nat) := by rw [gr_rev (by omega), h3]
      have r2 : gr A.reverse (2 : Nat) = gr A (0 : Nat) := by rw [gr_rev (by omega), h3]
      rw [gr_rev (by rw [(len3 n A).2]; omega), (len3 n A).2]
      rcases q3 hq with rfl | rfl | rfl
      · show gi (gr A.reverse (2 : Nat)) (gi (gr A.reverse (0 : Nat)) x) = gi (gr (wdN n A oppW3) (2 : Nat)) x
        rw [r0, r2, o.2.2, h.fr hx]
      · show gi (gr A.reverse (1 : Nat)) x = gi (gr (wdN n A oppW3) (1 : Nat)) x
        rw [r1, o.2.1]
      · show gi (gr A.reverse (2 : Nat)) x = gi (gr (wdN n A oppW3) (0 : Nat)) x
        rw [r2, o.1]
  rw [e, List.reverse_reverse]
end
end Go.Mem

/- Plain words on lists: faces of forms, of Petrie duals and of duals; the plain laws of Petries and a part of Duals. No program in sight. -/
namespace Go.Mem
set_option linter.unusedVariables false
section
variable {n n' : Nat} {A B : List (List Int)} {ms : List (List Int)} {p : List Int}
theorem gr_erase {k j : Nat} (hk : k < A.length) (hj : j + 1 < A.length) : gr (A.eraseIdx k) j = gr A ((if j < k then j else j + 1 : Nat) : Int) := by
  have h1 : j < (A.eraseIdx k).length := by rw [List.length_eraseIdx]; split <;> omega
  have h2 : j < A.length := by omega
  by_cases h : j < k
  · rw [if_pos h]
    simp [gr, List.getD, List.getElem?_eraseIdx, h]
  · rw [if_neg h]
    have e : ((j + 1 : Nat) : Int).toNat = j + 1 := by omega
    unfold gr
    rw [e]
    simp [List.getD, List.getElem?_eraseIdx, h]
theorem len_oth {i : Nat} (hi : i < A.length) : (oth A i).length + 1 = A.length := by
  unfold oth
  rw [show ((i : Nat) : Int).toNat = i by omega, List.length_eraseIdx, if_pos hi]
  omega
theorem mem_oth_iff {i : Nat} {m : List Int} (hi : i < A.length) : m ∈ oth A i ↔ ∃ q : Nat, q < A.length ∧ q ≠ i ∧ m = gr A q := by
  have hl := len_oth hi
  constructor
  · intro h
    obtain ⟨j, hj, rfl⟩ := mem_gr h
    have e : gr (oth A i) j = gr A ((if j < i then j else j + 1 : Nat) : Int) := by
      unfold oth; rw [show ((i : Nat) : Int).toNat = i by omega]; exact gr_erase hi (by omega)
    rw [e]
    refine ⟨_, ?_, ?_, rfl⟩ <;> split <;> omega
  · rintro ⟨q, hq, hqi, rfl⟩
    by_cases h : q < i
    · have e : gr (oth A i) q = gr A q := by
        unfold oth; rw [show ((i : Nat) : Int).toNat = i by omega, gr_erase hi (by omega), if_pos h]
      rw [← e]; exact gr_in (by omega)
    · have e : gr (oth A i) (q - 1 : Nat) = gr A q := by
        unfold oth; rw [show ((i : Nat) : Int).toNat = i by omega, gr_erase hi (by omega), if_neg (by omega), show q - 1 + 1 = q by omega]
      rw [← e]; exact gr_in (by omega)
theorem HomS.oth (h : HomS n n' A B p) {i : Nat} (hi : i < A.length) : HomS n n' (Mem.oth A i) (Mem.oth B i) p := by
  have hl := h.len
  have la := len_oth hi
  have lb := len_oth (A := B) (i := i) (by omega)
  refine ⟨fun m hm => h.sa m (oth_mem hm), fun m hm => h.sb m (oth_mem hm), by omega, h.rng, h.inj, fun j hj x hx => ?_⟩
  have ea : gr (Mem.oth A i) j = gr A ((if j < i then j else j + 1 : Nat) : Int) := by
    unfold Mem.oth; rw [show ((i : Nat) : Int).toNat = i by omega]; exact gr_erase hi (by omega)
  have eb : gr (Mem.oth B i) j = gr B ((if j < i then j else j + 1 : Nat) : Int) := by
    unfold Mem.oth; rw [show ((i : Nat) : Int).toNat = i by omega]; exact gr_erase (by omega) (by omega)
  rw [ea, eb]
  exact h.mv _ (by split <;> omega) x hx
/-- as many faces as the moves make -/
theorem fac_frm (h : Full n A) (h1 : 1 ≤ n) {i : Nat} (hi : i < A.length) : facC (frm n A 0) i = labc n (oth A i) := by
  have h4 := h.like.n400
  have hm := h.man h1
  have hnf := h.nf h1
  have hh := (homS_num h.like.syst (by omega) h1 h.like.r1 (h.orbit_len h1)).1
  unfold facC
  have hs := oth_sym hm i
  rw [hnf] at hs ⊢
  exact ((hh.oth hi).labc (h.like.sym fun m hmm => oth_mem hmm) hs (by omega)).symm
theorem rch_steps (hs : Syst n A) (h : ∀ m ∈ A, ∀ x : Int, 0 ≤ x ∧ x < n → Rch B x (gi m x)) {x y : Int} (hx : 0 ≤ x ∧ x < n) (hr : Rch A x y) : Rch B x y := by
  induction hr with
  | refl => exact .refl _
  | @step y m hr hm ih => exact ih.trans (h m hm y (hr.rng hs hx))
theorem pet_fac (h : Th n A) {i : Nat} (hi : i < 2) : facC (frm n (wdN n A petW3) 0) i = labc n (oth A i) := by
  have hp := h.pet
  have h3 := h.three
  have p3 := hp.three
  have h4 := h.full.like.n400
  rw [fac_frm hp.full hp.pos (by omega)]
  have sA : Sym n (oth A i) := h.full.like.sym fun m hm => oth_mem hm
  have sP : Sym n (oth (wdN n A petW3) i) := hp.full.like.sym fun m hm => oth_mem hm
  have st : ∀ {S : List (List Int)} {m : List Int} {x : Int}, m ∈ S → Rch S x (gi m x) := fun {S m x} hm => .step (.refl _) hm
  refine labc_same sP sA (by omega) fun x y hx hy => ⟨fun hr => ?_, fun hr => ?_⟩
  · refine rch_steps sP.syst (fun m hm z hz => ?_) hx hr
    obtain ⟨q, hq, hqi, rfl⟩ := (mem_oth_iff (by omega)).1 hm
    have z0 := h.at (q := 0) (by omega) hz
    rcases q3 (q := q) (by omega) with rfl | rfl | rfl
    · rw [(gi_pet h hz).1]
      exact (st ((mem_oth_iff (A := A) (i := i) (by omega)).2 ⟨0, by omega, hqi, rfl⟩)).trans (st ((mem_oth_iff (A := A) (i := i) (by omega)).2 ⟨2, by omega, by omega, rfl⟩))
    · rw [(gi_pet h hz).2.1]
      exact st ((mem_oth_iff (A := A) (i := i) (by omega)).2 ⟨1, by omega, hqi, rfl⟩)
    · rw [(gi_pet h hz).2.2]
      exact st ((mem_oth_iff (A := A) (i := i) (by omega)).2 ⟨2, by omega, hqi, rfl⟩)
  · refine rch_steps sA.syst (fun m hm z hz => ?_) hx hr
    obtain ⟨q, hq, hqi, rfl⟩ := (mem_oth_iff (by omega)).1 hm
    have z2 := h.at (q := 2) (by omega) hz
    rcases q3 (q := q) (by omega) with rfl | rfl | rfl
    · have s2 := st (S := oth (wdN n A petW3) i) (x := z) ((mem_oth_iff (A := wdN n A petW3) (i := i) (by omega)).2 ⟨2, by omega, by omega, rfl⟩)
      rw [(gi_pet h hz).2.2] at s2
      have s0 := st (S := oth (wdN n A petW3) i) (x := gi (gr A (2 : Nat)) z) ((mem_oth_iff (A := wdN n A petW3) (i := i) (by omega)).2 ⟨0, by omega, hqi, rfl⟩)
      rw [(gi_pet h z2).1, h.fr z2, h.tw (by omega) hz] at s0
      exact s2.trans s0
    · have s := st (S := oth (wdN n A petW3) i) (x := z) ((mem_oth_iff (A := wdN n A petW3) (i := i) (by omega)).2 ⟨1, by omega, hqi, rfl⟩)
      rwa [(gi_pet h hz).2.1] at s
    · have s := st (S := oth (wdN n A petW3) i) (x := z) ((mem_oth_iff (A := wdN n A petW3) (i := i) (by omega)).2 ⟨2, by omega, hqi, rfl⟩)
      rwa [(gi_pet h hz).2.2] at s
end
section
variable {ms : List (List Int)}
theorem IsMan.th (hm : IsMan ms) (h3 : ms.length = 3) : Th (nf ms) ms := ⟨hm.full, h3, by have := hm.m0.f2; omega⟩
/-- the plain law of Petries -/
theorem petries (hm : IsMan ms) (h3 : ms.length = 3) :
    (IsMan (repl ms petW3) ∧ (repl ms petW3).length = 3) ∧ (IsMan (repl ms oppW3) ∧ (repl ms oppW3).length = 3) ∧ repl (repl ms petW3) petW3 = frm (nf ms) ms 0 ∧ repl (repl ms oppW3) oppW3 = frm (nf ms) ms 0 ∧
    (facC (repl ms petW3) 0 = facC ms 0 ∧ facC (repl ms petW3) 1 = facC ms 1) := by
  have h := hm.th h3
  have n1 := h.pos
  have hp := h.pet
  have ho := h.opp
  have e1 : nf (repl ms petW3) = nf ms := hp.full.nf n1
  have e2 : nf (repl ms oppW3) = nf ms := ho.full.nf n1
  refine ⟨⟨hp.full.man n1, by unfold repl; rw [frm_len]; exact hp.three⟩, ⟨ho.full.man n1, by unfold repl; rw [frm_len]; exact ho.three⟩, ?_, ?_, pet_fac h (i := 0) (by omega), pet_fac h (i := 1) (by omega)⟩
  · show frm (nf (repl ms petW3)) (wdN (nf (repl ms petW3)) (frm (nf ms) (wdN (nf ms) ms petW3) 0) petW3) 0 = _
    rw [e1, hp.full.wd n1 (hp.w3 (.inl rfl)).2, h.pet2]
  · show frm (nf (repl ms oppW3)) (wdN (nf (repl ms oppW3)) (frm (nf ms) (wdN (nf ms) ms oppW3) 0) oppW3) 0 = _
    rw [e2, ho.full.wd n1 (ho.w3 (.inr rfl)).2, h.opp2]
/-- the dual has the faces in reverse order; its dual is the form -/
theorem duals (hm : IsMan ms) : IsMan (dualL ms) ∧ (dualL ms).length = ms.length ∧ nf (dualL ms) = nf ms ∧ dualL (dualL ms) = frm (nf ms) ms 0 := by
  have hr := hm.revFull
  have n1 : 1 ≤ nf ms := by have := hm.m0.f2; omega
  have e : dualL ms = frm (nf ms) ms.reverse 0 := dualL_yes hm
  have hd : IsMan (dualL ms) := by rw [e]; exact hr.man n1
  have hn : nf (dualL ms) = nf ms := by rw [e]; exact hr.nf n1
  refine ⟨hd, by rw [e, frm_len, List.length_reverse], hn, ?_⟩
  rw [dualL_yes hd, hn, e, hr.rev n1, List.reverse_reverse]
theorem dual_fac (hm : IsMan ms) {i : Nat} (hi : i < ms.length) : facC (dualL ms) i = facC ms ((ms.length - 1 - i : Nat) : Int) := by
  have hr := hm.revFull
  have n1 : 1 ≤ nf ms := by have := hm.m0.f2; omega
  have h4 := hm.m0.f400
  have hl : ms.reverse.length = ms.length := List.length_reverse
  rw [dualL_yes hm, fac_frm hr n1 (by omega)]
  unfold facC
  have s1 : Sym (nf ms) (oth ms.reverse i) := hr.like.sym fun m h => oth_mem h
  refine labc_same s1 (oth_sym hm _) (by omega) fun x y hx hy => ⟨fun h => h.sub fun m hmm => ?_, fun h => h.sub fun m hmm => ?_⟩
  · obtain ⟨q, hq, hqi, rfl⟩ := (mem_oth_iff (by omega)).1 hmm
    rw [gr_rev (by omega)]
    exact (mem_oth_iff (by omega)).2 ⟨_, by omega, by omega, rfl⟩
  · obtain ⟨q, hq, hqi, rfl⟩ := (mem_oth_iff (by omega)).1 hmm
    refine (mem_oth_iff (by omega)).2 ⟨ms.length - 1 - q, by omega, by omega, ?_⟩
    rw [gr_rev (by omega), show ms.length - 1 - (ms.length - 1 - q) = q by omega]
/-- the Petrie dual of the dual, and its dual -/
theorem opposite_dual (hm : IsMan ms) (h3 : ms.length = 3) : dualL (repl (dualL ms) petW3) = repl ms oppW3 := by
  have h := hm.th h3
  have n1 := h.pos
  obtain ⟨hd, hdl, hdn, _⟩ := duals hm
  have hT := h.rev.pet
  have e : repl (dualL ms) petW3 = frm (nf ms) (wdN (nf ms) ms.reverse petW3) 0 := by
    show frm (nf (dualL ms)) (wdN (nf (dualL ms)) (dualL ms) petW3) 0 = _
    rw [hdn, dualL_yes hm, hm.revFull.wd n1 (h.rev.w3 (.inl rfl)).2]
  have hM : IsMan (frm (nf ms) (wdN (nf ms) ms.reverse petW3) 0) := hT.full.man n1
  rw [e, dualL_yes hM, hT.full.nf n1, hT.full.rev n1, h.opp_rev]
  rfl
end
end Go.Mem

/- Plain words on lists: the plain law of Mixes. No program in sight. -/
namespace Go.Mem
set_option linter.unusedVariables false
section
variable {n n' : Nat} {A B : List (List Int)} {p : List Int} {f : Int}
/-- the forms along lists of points that go together -/
theorem HomS.frmO (h : HomS n n' A B p) {f g : Int} {Om Ok : List Int} (o1 : Obt n A f Om) (o2 : Obt n' B g Ok) (ho : Ok = Om.map (Mem.gi p)) : Mem.frmO n' B Ok = Mem.frmO n A Om := by
  have hl := h.len
  have hlen : Ok.length = Om.length := by rw [ho, List.length_map]
  have hnum : ∀ x ∈ Om, Mem.gi (numIn n' Ok) (Mem.gi p x) = Mem.gi (numIn n Om) x := fun x hx => by
    obtain ⟨k, hk', rfl⟩ := in_gi hx
    rw [num_at o1.nodup o1.rng hk']
    have e : Mem.gi Ok k = Mem.gi p (Mem.gi Om k) := by rw [ho, gi_map (by omega) (by omega)]
    rw [← e, num_at o2.nodup o2.rng (by omega)]
  refine rows_ext (by simp [Mem.frmO, hl]) fun q hq => ?_
  have hq2 : q < B.length := by simpa [Mem.frmO] using hq
  rw [frmO_gr hq2, frmO_gr (by omega)]
  refine list_ext_gi (by simp [hlen]) fun k h0 hk' => ?_
  rw [List.length_map] at hk'
  rw [gi_map h0 hk', gi_map h0 (by omega)]
  have hx : Mem.gi Om k ∈ Om := gi_mem h0 (by omega)
  have hxr := o1.rng _ hx
  have e : Mem.gi Ok k = Mem.gi p (Mem.gi Om k) := by rw [ho, gi_map h0 (by omega)]
  rw [e, ← h.mv q (by omega) _ hxr]
  refine hnum _ (o1.shut _ hx _ (by
    have : q < A.length := by omega
    simp [gr, List.getD, this]))
/-- a search that is done -/
theorem obt_bfs (hs : Syst n A) (hf : 0 ≤ f ∧ f < n) {i : Nat} (h : (bfs A f i).length ≤ i) : Obt n A f (bfs A f i) :=
  ⟨bfs_nodup i, fun x hx => (bfs_rch i hx).rng hs hf, fun x hx m hm => by
    obtain ⟨k, hk, rfl⟩ := in_gi hx
    exact bfs_done i k (by omega) hk m hm, (bfs_first i).2, (bfs_first i).1, fun x hx => bfs_rch i hx⟩
theorem frmO_idl (hs : Syst n A) : frmO n A (idl n) = A := by
  have hnd : (idl n).Nodup := by
    unfold idl
    exact List.pairwise_map.2 (List.nodup_range.imp fun h e => h (by omega))
  have hr : ∀ x ∈ idl n, 0 ≤ x ∧ x < n := fun x hx => by
    obtain ⟨i, hi, rfl⟩ := List.mem_map.1 hx
    have := List.mem_range.1 hi
    omega
  refine rows_ext (by simp [frmO]) fun q hq => ?_
  have hq : q < A.length := by simpa [frmO] using hq
  have hrow := hs _ (gr_in (j := q) hq)
  rw [frmO_gr hq]
  refine list_ext_gi (by simp [hrow.1]) fun k h0 hk => ?_
  have hk : k < n := by simpa using hk
  rw [gi_map h0 (by simpa using hk), gi_idl h0 hk]
  have hv := hs.gi (j := q) hq (x := k) ⟨h0, hk⟩
  have := num_at hnd hr (k := (gi (gr A q) k).toNat) (by simp; omega)
  rw [gi_idl (by omega) (by omega), show (((gi (gr A q) k).toNat : Nat) : Int) = gi (gr A q) k by omega] at this
  exact this
end
section
variable {ms ks : List (List Int)} {f g : Int}
theorem mix_obt (h : mixC ms ks f g = 0) : Obt (nf ms * nf ks) (prodM ms ks) (f * nf ks + g) (mixO ms ks f g) := by
  obtain ⟨hm, hk, hf, hg, hl, hle⟩ := mixC_0 h
  rw [mixO_eq] at hle ⊢
  exact obt_bfs (prodM_syst hm hk hl) (code_lt hf hg) (by unfold mixB at hle; omega)
theorem mixL_frm (h : mixC ms ks f g = 0) : mixL ms ks f g = frmO (nf ms * nf ks) (prodM ms ks) (mixO ms ks f g) := by
  have hob := mix_obt h
  obtain ⟨hm, hk, hf, hg, hl, hle⟩ := mixC_0 h
  have e : mixL ms ks f g = (List.range ms.length).map fun j : Nat => (mixO ms ks f g).map fun c => idxOf (mixO ms ks f g) (gi (gr (prodM ms ks) j) c) := if_pos h
  rw [e]
  generalize mixO ms ks f g = O at *
  refine rows_ext (by simp [frmO, length_prodM]) fun q hq => ?_
  have hq : q < ms.length := by simpa using hq
  rw [frmO_gr (by rw [length_prodM]; exact hq)]
  have e1 : gr ((List.range ms.length).map fun j : Nat => O.map fun c => idxOf O (gi (gr (prodM ms ks) j) c)) q = O.map fun c => idxOf O (gi (gr (prodM ms ks) q) c) := by simp [gr, List.getD, hq]
  rw [e1]
  refine List.map_congr_left fun c hc => ?_
  obtain ⟨k, hk', e2⟩ := in_gi (hob.shut c hc _ (gr_in (by rw [length_prodM]; exact hq)))
  rw [← e2, num_at hob.nodup hob.rng hk', idxOf_at hob.nodup hk']
theorem mix_facts (h : mixC ms ks f g = 0) : nf (mixL ms ks f g) = (mixO ms ks f g).length ∧ (mixL ms ks f g).length = ms.length ∧ HomS (mixO ms ks f g).length (nf ms * nf ks) (mixL ms ks f g) (prodM ms ks) (mixO ms ks f g) := by
  have hob := mix_obt h
  obtain ⟨hm, hk, hf, hg, hl, hle⟩ := mixC_0 h
  have r1 := hm.m0.r1
  have hP := length_prodM ms ks
  rw [mixL_frm h]
  generalize mixO ms ks f g = O at *
  refine ⟨nf_frmO (by omega), by simp [frmO, hP], fun m hmm => ?_, prodM_syst hm hk hl, by simp [frmO], fun x hx => hob.rng _ (gi_mem hx.1 hx.2), fun a b ha hb e => gi_inj hob.nodup ha hb e, fun j hj x hx => ?_⟩
  · obtain ⟨q, hq, rfl⟩ := mem_gr hmm
    have hq : q < (prodM ms ks).length := by simpa [frmO] using hq
    rw [frmO_gr hq]
    refine ⟨by simp, fun y hy => ?_⟩
    obtain ⟨x, hx, rfl⟩ := List.mem_map.1 hy
    have := hob.num (hob.shut x hx _ (gr_in hq))
    omega
  · have hj : j < (prodM ms ks).length := by simpa [frmO] using hj
    rw [frmO_gi hj hx.1 hx.2]
    exact (hob.num (hob.shut _ (gi_mem hx.1 hx.2) _ (gr_in hj))).2.2
theorem mix_first (h : mixC ms ks f g = 0) : gi (mixO ms ks f g) 0 = f * nf ks + g := (mix_obt h).first
/-- the search on the mix meets its flags in order -/
theorem mix_bfs (h : mixC ms ks f g = 0) : bfs (mixL ms ks f g) 0 401 = idl (nf (mixL ms ks f g)) := by
  obtain ⟨e1, e2, hh⟩ := mix_facts h
  have hob := mix_obt h
  have hpos := hob.pos
  have hb := (hh.bfs (f := 0) (by omega) 401)
  rw [mix_first h] at hb
  have e3 : bfs (prodM ms ks) (f * nf ks + g) 401 = mixO ms ks f g := (mixO_eq ms ks f g).symm
  rw [e3] at hb
  rw [e1]
  have hlen := congrArg List.length hb.1
  rw [List.length_map] at hlen
  refine list_ext_gi (by simp [hlen]) fun k h0 hk => ?_
  have hk2 : k < (mixO ms ks f g).length := by omega
  rw [gi_idl h0 hk2]
  have e4 : gi (mixO ms ks f g) k = gi (mixO ms ks f g) (gi (bfs (mixL ms ks f g) 0 401) k) := by
    conv => lhs; rw [hb.1]
    rw [gi_map h0 hk]
  exact (hh.inj _ _ ⟨h0, hk2⟩ (hb.2 _ (gi_mem h0 hk)) e4).symm
/-- the two coordinates -/
theorem prodM_div (hm : IsMan ms) (hk : IsMan ks) (hl : ms.length = ks.length) {j : Nat} (hj : j < ms.length) {c : Int} (hc : 0 ≤ c ∧ c < ((nf ms * nf ks : Nat) : Int)) : gi (gr (prodM ms ks) j) c / nf ks = gi (gr ms j) (c / nf ks) ∧ gi (gr (prodM ms ks) j) c % nf ks = gi (gr ks j) (c % nf ks) := by
  rw [gi_prodM hj hc]
  obtain ⟨h1, h2⟩ := prodM_at hm hk hl hj hc
  exact ⟨code_div h1.1 h2, code_mod h1.1 h2⟩
theorem code_eq {n : Nat} {c d : Int} (h1 : c / n = d / n) (h2 : c % n = d % n) : c = d := by
  rw [← Int.mul_ediv_add_emod c n, ← Int.mul_ediv_add_emod d n, h1, h2]
theorem mix_like (h : mixC ms ks f g = 0) : Full (nf (mixL ms ks f g)) (mixL ms ks f g) := by
  obtain ⟨hm, hk, hf, hg, hl, hle⟩ := mixC_0 h
  obtain ⟨e1, e2, hh⟩ := mix_facts h
  have hP := length_prodM ms ks
  have r1 := hm.m0.r1
  have r5 := hm.m0.r5
  have hall := mix_bfs h
  rw [e1] at hall ⊢
  have hPs := prodM_syst hm hk hl
  have free : ∀ q : Nat, q < ms.length → ∀ c : Int, 0 ≤ c ∧ c < ((nf ms * nf ks : Nat) : Int) → gi (gr (prodM ms ks) q) c ≠ c ∧ gi (gr (prodM ms ks) q) (gi (gr (prodM ms ks) q) c) = c := fun q hq c hc => by
    obtain ⟨a, b⟩ := prodM_div hm hk hl hq hc
    obtain ⟨c1, c2, _⟩ := code_of hc
    have hc' := hPs.gi (j := q) (by omega) hc
    obtain ⟨a', b'⟩ := prodM_div hm hk hl hq hc'
    refine ⟨fun e => ?_, code_eq (n := nf ks) ?_ ?_⟩
    · rw [e] at a
      exact (hm.like.free q hq _ c1).1 a.symm
    · rw [a', a]; exact (hm.like.free q hq _ c1).2
    · rw [b', b]; exact (hk.like.free q (by omega) _ c2).2
  have far : ∀ a k : Nat, a + 2 ≤ k → k < ms.length → ∀ c : Int, 0 ≤ c ∧ c < ((nf ms * nf ks : Nat) : Int) → gi (gr (prodM ms ks) k) (gi (gr (prodM ms ks) a) c) = gi (gr (prodM ms ks) a) (gi (gr (prodM ms ks) k) c) ∧ gi (gr (prodM ms ks) a) c ≠ gi (gr (prodM ms ks) k) c := fun a k hak hk2 c hc => by
    obtain ⟨c1, c2, _⟩ := code_of hc
    have ha' := hPs.gi (j := a) (by omega) hc
    have hk' := hPs.gi (j := k) (by omega) hc
    have da := prodM_div hm hk hl (j := a) (by omega) hc
    have dk := prodM_div hm hk hl hk2 hc
    have dka := prodM_div hm hk hl hk2 ha'
    have dak := prodM_div hm hk hl (j := a) (by omega) hk'
    refine ⟨code_eq (n := nf ks) ?_ ?_, fun e => ?_⟩
    · rw [dka.1, dak.1, da.1, dk.1]; exact (hm.like.far a k hak hk2 _ c1).1
    · rw [dka.2, dak.2, da.2, dk.2]; exact (hk.like.far a k hak (by omega) _ c2).1
    · have e' : gi (gr (prodM ms ks) a) c / nf ks = gi (gr (prodM ms ks) k) c / nf ks := by rw [e]
      rw [da.1, dk.1] at e'
      exact (hm.like.far a k hak hk2 _ c1).2 e'
  have mvq : ∀ q : Nat, q < ms.length → ∀ x : Int, 0 ≤ x ∧ x < (mixO ms ks f g).length → gi (mixO ms ks f g) (gi (gr (mixL ms ks f g) q) x) = gi (gr (prodM ms ks) q) (gi (mixO ms ks f g) x) := fun q hq x hx => hh.mv q (by omega) x hx
  refine ⟨⟨by omega, by omega, hle, hh.sa, fun q hq x hx => ?_, fun a k hak hk2 x hx => ?_⟩, fun x h0 hx => ?_⟩
  · have hc := hh.rng x hx
    have hx' := hh.sa.gi hq hx
    refine ⟨fun e => (free q (by omega) _ hc).1 ?_, hh.inj _ _ (hh.sa.gi hq hx') hx ?_⟩
    · rw [← mvq q (by omega) x hx, e]
    · rw [mvq q (by omega) _ hx', mvq q (by omega) x hx]; exact (free q (by omega) _ hc).2
  · have hc := hh.rng x hx
    have ha := hh.sa.gi (j := a) (by omega) hx
    have hk' := hh.sa.gi hk2 hx
    refine ⟨hh.inj _ _ (hh.sa.gi hk2 ha) (hh.sa.gi (by omega) hk') ?_, fun e => (far a k hak (by omega) _ hc).2 ?_⟩
    · rw [mvq k (by omega) _ ha, mvq a (by omega) _ hk', mvq a (by omega) x hx, mvq k (by omega) x hx]
      exact (far a k hak (by omega) _ hc).1
    · rw [← mvq a (by omega) x hx, ← mvq k (by omega) x hx, e]
  · refine bfs_rch (ms := mixL ms ks f g) (p := 0) 401 ?_
    rw [hall]
    have := gi_mem (xs := idl (mixO ms ks f g).length) (j := x) h0 (by simpa using hx)
    rwa [gi_idl h0 hx] at this
/-- a mix is a maniplex -/
theorem mix_pos (h : mixC ms ks f g = 0) : 1 ≤ nf (mixL ms ks f g) := by
  have := (mix_obt h).pos
  rw [(mix_facts h).1]; omega
theorem mix_form (h : mixC ms ks f g = 0) : frm (nf (mixL ms ks f g)) (mixL ms ks f g) 0 = mixL ms ks f g := by
  obtain ⟨e1, e2, hh⟩ := mix_facts h
  have hle := (mixC_0 h).2.2.2.2.2
  have hs := hh.sa
  rw [← e1] at hs
  have hb := mix_bfs h
  have hor : orbit (mixL ms ks f g) 0 = idl (nf (mixL ms ks f g)) := by
    have hst := bfs_stable (ms := mixL ms ks f g) (p := 0) (i := 401) (by rw [hb, length_idl]; omega) 599
    rw [hb] at hst
    exact hst
  show frmO (nf (mixL ms ks f g)) (mixL ms ks f g) (orbit (mixL ms ks f g) 0) = _
  rw [hor]
  exact frmO_idl hs
theorem mix_man (h : mixC ms ks f g = 0) : IsMan (mixL ms ks f g) := by
  have := (mix_like h).man (mix_pos h)
  rwa [mix_form h] at this
/-- the first and the second flags of the pairs -/
noncomputable def mixF (ms ks : List (List Int)) (f g : Int) : List Int := (mixO ms ks f g).map fun c => c / (nf ks : Int)
noncomputable def mixS (ms ks : List (List Int)) (f g : Int) : List Int := (mixO ms ks f g).map fun c => c % (nf ks : Int)
theorem mix_hom (h : mixC ms ks f g = 0) : Hom (mixL ms ks f g) ms (mixF ms ks f g) ∧ Hom (mixL ms ks f g) ks (mixS ms ks f g) ∧ gi (mixF ms ks f g) 0 = f ∧ gi (mixS ms ks f g) 0 = g := by
  obtain ⟨hm, hk, hf, hg, hl, hle⟩ := mixC_0 h
  obtain ⟨e1, e2, hh⟩ := mix_facts h
  have hpos := (mix_obt h).pos
  have h0 := mix_first h
  have gF : ∀ x : Int, 0 ≤ x → x < (mixO ms ks f g).length → gi (mixF ms ks f g) x = gi (mixO ms ks f g) x / nf ks := fun x h0 hx => by unfold mixF; rw [gi_map h0 hx]
  have gS : ∀ x : Int, 0 ≤ x → x < (mixO ms ks f g).length → gi (mixS ms ks f g) x = gi (mixO ms ks f g) x % nf ks := fun x h0 hx => by unfold mixS; rw [gi_map h0 hx]
  refine ⟨⟨by unfold mixF; rw [List.length_map, e1], fun x h0 hx => ?_, fun j hj x h0 hx => ?_⟩, ⟨by unfold mixS; rw [List.length_map, e1], fun x h0 hx => ?_, fun j hj x h0 hx => ?_⟩, ?_, ?_⟩
  · rw [gF x h0 (by omega)]; exact (code_of (hh.rng x ⟨h0, by omega⟩)).1
  · have hx' : x < (mixO ms ks f g).length := by omega
    have hv := hh.sa.gi hj ⟨h0, hx'⟩
    rw [gF _ hv.1 hv.2, gF x h0 hx', hh.mv j hj x ⟨h0, hx'⟩]
    exact (prodM_div hm hk hl (by omega) (hh.rng x ⟨h0, hx'⟩)).1
  · rw [gS x h0 (by omega)]; exact (code_of (hh.rng x ⟨h0, by omega⟩)).2.1
  · have hx' : x < (mixO ms ks f g).length := by omega
    have hv := hh.sa.gi hj ⟨h0, hx'⟩
    rw [gS _ hv.1 hv.2, gS x h0 hx', hh.mv j hj x ⟨h0, hx'⟩]
    exact (prodM_div hm hk hl (by omega) (hh.rng x ⟨h0, hx'⟩)).2
  · rw [gF 0 (by omega) (by omega), h0, code_div hf.1 hg]
  · rw [gS 0 (by omega) (by omega), h0, code_mod hf.1 hg]
theorem Hom.isCov {ms ks : List (List Int)} {p : List Int} (hm : IsMan ms) (hk : IsMan ks) (hl : ms.length = ks.length) (hp : Hom ms ks p) : IsCov ms ks p := by
  have h0 := hp.rng 0 (by omega) (by have := hm.m0.f2; omega)
  exact ⟨hp.len, h0, (mapT_iff hm hk h0).2 ⟨hl, hp, rfl⟩⟩
/-- the coverings of a mix -/
theorem mix_cov (h : mixC ms ks f g = 0) : IsCov (mixL ms ks f g) ms (mixF ms ks f g) ∧ IsCov (mixL ms ks f g) ks (mixS ms ks f g) := by
  obtain ⟨hm, hk, hf, hg, hl, hle⟩ := mixC_0 h
  obtain ⟨e1, e2, hh⟩ := mix_facts h
  obtain ⟨h1, h2, _⟩ := mix_hom h
  exact ⟨h1.isCov (mix_man h) hm (by omega), h2.isCov (mix_man h) hk (by omega)⟩
/-- the same in the other order -/
theorem mix_swap (h : mixC ms ks f g = 0) : mixC ks ms g f = 0 ∧ mixL ks ms g f = mixL ms ks f g := by
  obtain ⟨hm, hk, hf, hg, hl, hle⟩ := mixC_0 h
  have hD : nf ks * nf ms = nf ms * nf ks := Nat.mul_comm _ _
  obtain ⟨σ, hσl, hσ⟩ : ∃ σ : List Int, σ.length = nf ms * nf ks ∧ ∀ c : Int, 0 ≤ c ∧ c < ((nf ms * nf ks : Nat) : Int) → gi σ c = c % nf ks * nf ms + c / nf ks :=
    ⟨(List.range (nf ms * nf ks)).map fun c : Nat => (c : Int) % nf ks * nf ms + (c : Int) / nf ks, by simp, fun c hc => by
      rw [gi_range_map hc.1 hc.2, show ((c.toNat : Nat) : Int) = c by omega]⟩
  have hS : HomS (nf ms * nf ks) (nf ks * nf ms) (prodM ms ks) (prodM ks ms) σ := by
    refine ⟨prodM_syst hm hk hl, prodM_syst hk hm hl.symm, by rw [length_prodM, length_prodM, hl], fun c hc => ?_, fun a b ha hb e => ?_, fun j hj c hc => ?_⟩
    · rw [hσ c hc]
      obtain ⟨c1, c2, _⟩ := code_of hc
      exact code_lt c2 c1
    · rw [hσ a ha, hσ b hb] at e
      obtain ⟨a1, a2, _⟩ := code_of ha
      obtain ⟨b1, b2, _⟩ := code_of hb
      have e1 := congrArg (· / (nf ms : Int)) e
      have e2 := congrArg (· % (nf ms : Int)) e
      rw [code_div a2.1 a1, code_div b2.1 b1] at e1
      rw [code_mod a2.1 a1, code_mod b2.1 b1] at e2
      exact code_eq (n := nf ks) e2 e1
    · have hj : j < ms.length := by rw [length_prodM] at hj; exact hj
      have hv := (prodM_syst hm hk hl).gi (j := j) (by rw [length_prodM]; exact hj) hc
      obtain ⟨c1, c2, _⟩ := code_of hc
      have d := prodM_div hm hk hl hj hc
      have hr : 0 ≤ c % nf ks * nf ms + c / nf ks ∧ c % nf ks * nf ms + c / nf ks < ((nf ks * nf ms : Nat) : Int) := code_lt c2 c1
      rw [hσ _ hv, hσ c hc, d.1, d.2, gi_prodM (ms := ks) (ks := ms) (j := j) (by omega) hr, code_div c2.1 c1, code_mod c2.1 c1]
  have hc0 : 0 ≤ f * nf ks + g ∧ f * nf ks + g < ((nf ms * nf ks : Nat) : Int) := code_lt hf hg
  have hs0 : gi σ (f * nf ks + g) = g * nf ms + f := by rw [hσ _ hc0, code_div hf.1 hg, code_mod hf.1 hg]
  have hO : mixO ks ms g f = (mixO ms ks f g).map (gi σ) := by
    have := (hS.bfs hc0 401).1
    rw [hs0] at this
    rw [mixO_eq, mixO_eq]
    exact this
  have hC : mixC ks ms g f = 0 := by
    unfold mixC
    rw [if_pos ⟨hk, hm⟩, if_pos ⟨hg, hf⟩, if_pos hl.symm, if_pos (by rw [hO, List.length_map]; exact hle)]
  refine ⟨hC, ?_⟩
  rw [mixL_frm hC, mixL_frm h]
  exact hS.frmO (mix_obt h) (mix_obt hC) hO
/-- mixed with one of both again -/
theorem mix_again (h : mixC ms ks f g = 0) : mixC (mixL ms ks f g) ms 0 f = 0 ∧ mixL (mixL ms ks f g) ms 0 f = mixL ms ks f g := by
  obtain ⟨hm, hk, hf, hg, hl, hle⟩ := mixC_0 h
  obtain ⟨e1, e2, hh⟩ := mix_facts h
  obtain ⟨h1, _, h10, _⟩ := mix_hom h
  have hM := mix_man h
  have hpos := mix_pos h
  have hb := mix_bfs h
  have hs := hh.sa
  rw [← e1] at hs hle
  generalize mixL ms ks f g = X at *
  generalize mixF ms ks f g = F at *
  have hX : ∀ x : Int, 0 ≤ x ∧ x < nf X → 0 ≤ gi F x ∧ gi F x < nf ms := fun x hx => h1.rng x hx.1 hx.2
  obtain ⟨τ, hτl, hτ⟩ : ∃ τ : List Int, τ.length = nf X ∧ ∀ x : Int, 0 ≤ x ∧ x < nf X → gi τ x = x * nf ms + gi F x :=
    ⟨(List.range (nf X)).map fun x : Nat => (x : Int) * nf ms + gi F x, by simp, fun x hx => by
      rw [gi_range_map hx.1 hx.2, show ((x.toNat : Nat) : Int) = x by omega]⟩
  have hS : HomS (nf X) (nf X * nf ms) X (prodM X ms) τ := by
    refine ⟨hs, prodM_syst hM hm e2, by rw [length_prodM], fun x hx => ?_, fun a b ha hb' e => ?_, fun j hj x hx => ?_⟩
    · rw [hτ x hx]; exact code_lt hx (hX x hx)
    · rw [hτ a ha, hτ b hb'] at e
      have e1 := congrArg (· / (nf ms : Int)) e
      rwa [code_div ha.1 (hX a ha), code_div hb'.1 (hX b hb')] at e1
    · have hv := hs.gi hj hx
      have hr : 0 ≤ x * nf ms + gi F x ∧ x * nf ms + gi F x < ((nf X * nf ms : Nat) : Int) := code_lt hx (hX x hx)
      rw [hτ _ hv, hτ x hx, gi_prodM hj hr, code_div hx.1 (hX x hx), code_mod hx.1 (hX x hx), h1.mv j hj x hx.1 hx.2]
  have h00 : 0 ≤ (0 : Int) ∧ (0 : Int) < nf X := by omega
  have ht0 : gi τ 0 = 0 * nf ms + f := by rw [hτ 0 h00, h10]
  have hO : mixO X ms 0 f = (idl (nf X)).map (gi τ) := by
    have := (hS.bfs h00 401).1
    rw [ht0, hb] at this
    rw [mixO_eq]
    exact this
  have hC : mixC X ms 0 f = 0 := by
    unfold mixC
    rw [if_pos ⟨hM, hm⟩, if_pos ⟨h00, hf⟩, if_pos e2, if_pos (by rw [hO, List.length_map, length_idl]; exact hle)]
  refine ⟨hC, ?_⟩
  have o1 : Obt (nf X) X 0 (idl (nf X)) := by
    rw [← hb]
    exact obt_bfs hs h00 (by rw [hb, length_idl]; omega)
  rw [mixL_frm hC, hS.frmO o1 (mix_obt hC) hO, frmO_idl hs]
theorem run_prod (hm : IsMan ms) (hk : IsMan ks) (hl : ms.length = ks.length) : ∀ (w : List Int), (∀ x ∈ w, 0 ≤ x ∧ x < ms.length) → ∀ c : Int, 0 ≤ c ∧ c < ((nf ms * nf ks : Nat) : Int) → run (prodM ms ks) w c / nf ks = run ms w (c / nf ks) ∧ run (prodM ms ks) w c % nf ks = run ks w (c % nf ks)
  | [], _, _, _ => ⟨rfl, rfl⟩
  | a :: w, hw, c, hc => by
    have ha := hw a (by simp)
    obtain ⟨q, rfl⟩ : ∃ q : Nat, a = q := ⟨a.toNat, by omega⟩
    have d := prodM_div hm hk hl (j := q) (by omega) hc
    have hv := (prodM_syst hm hk hl).gi (j := q) (by rw [length_prodM]; omega) hc
    have ih := run_prod hm hk hl w (fun y hy => hw y (List.mem_cons_of_mem _ hy)) _ hv
    rw [d.1, d.2] at ih
    exact ih
/-- a word does nothing on the mix exactly if it does nothing on both -/
theorem mix_still (h : mixC ms ks f g = 0) {wd : List Int} (hw : ∀ x ∈ wd, 0 ≤ x ∧ x < ms.length) : Still (mixL ms ks f g) wd ↔ Still ms wd ∧ Still ks wd := by
  obtain ⟨hm, hk, hf, hg, hl, hle⟩ := mixC_0 h
  obtain ⟨e1, e2, hh⟩ := mix_facts h
  obtain ⟨h1, h2, _⟩ := mix_hom h
  have hM := mix_man h
  have hrun : ∀ {A : List (List Int)} {p : List Int}, IsMan A → A.length = ms.length → Hom (mixL ms ks f g) A p → ∀ x : Int, 0 ≤ x ∧ x < nf (mixL ms ks f g) → run A wd (gi p x) = gi p (run (mixL ms ks f g) wd x) := fun {A p} hA hAl hp => by
    have key : ∀ (w : List Int), (∀ x ∈ w, 0 ≤ x ∧ x < ms.length) → ∀ x : Int, 0 ≤ x ∧ x < nf (mixL ms ks f g) → run A w (gi p x) = gi p (run (mixL ms ks f g) w x) := by
      intro w
      induction w with
      | nil => intro _ x _; rfl
      | cons a w ih =>
        intro hw x hx
        have ha := hw a (by simp)
        obtain ⟨q, rfl⟩ : ∃ q : Nat, a = q := ⟨a.toNat, by omega⟩
        show run A w (gi (gr A q) (gi p x)) = gi p (run (mixL ms ks f g) w (gi (gr (mixL ms ks f g) q) x))
        rw [← hp.mv q (by omega) x hx.1 hx.2]
        exact ih (fun y hy => hw y (List.mem_cons_of_mem _ hy)) _ (hM.syst.gi (by omega) hx)
    exact key wd hw
  constructor
  · intro hs
    have push : ∀ {A : List (List Int)} {p : List Int}, IsMan A → A.length = ms.length → Hom (mixL ms ks f g) A p → Still A wd := fun {A p} hA hAl hp y hy => by
      obtain ⟨x, hx0, hx1, e⟩ := hp.onto hM hA (by omega) (y := (y : Int)) (by omega) (by omega)
      rw [← e, hrun hA hAl hp x ⟨hx0, hx1⟩]
      have := hs x.toNat (by omega)
      rw [show ((x.toNat : Nat) : Int) = x by omega] at this
      rw [this]
    exact ⟨push hm rfl h1, push hk hl.symm h2⟩
  · rintro ⟨s1, s2⟩ x hx
    have hx' : 0 ≤ (x : Int) ∧ (x : Int) < (mixO ms ks f g).length := by omega
    have hr := run_rng hh.sa wd (fun y hy => by rw [e2]; exact hw y hy) x hx'
    have hc := hh.rng x hx'
    obtain ⟨c1, c2, _⟩ := code_of hc
    refine hh.inj _ _ hr hx' ?_
    rw [← hh.run wd (fun y hy => by rw [e2]; exact hw y hy) hx']
    have rp := run_prod hm hk hl wd hw _ hc
    have t1 := s1 (gi (mixO ms ks f g) x / nf ks).toNat (by omega)
    have t2 := s2 (gi (mixO ms ks f g) x % nf ks).toNat (by omega)
    rw [show (((gi (mixO ms ks f g) x / nf ks).toNat : Nat) : Int) = gi (mixO ms ks f g) x / nf ks by omega] at t1
    rw [show (((gi (mixO ms ks f g) x % nf ks).toNat : Nat) : Int) = gi (mixO ms ks f g) x % nf ks by omega] at t2
    exact code_eq (n := nf ks) (by rw [rp.1, t1]) (by rw [rp.2, t2])
end
end Go.Mem

/- Plain words on lists: the plain law of Duals: facets, types. No program in sight. -/
namespace Go.Mem
set_option linter.unusedVariables false
section
variable {n n' : Nat} {A B ms : List (List Int)} {p : List Int} {f : Int}
theorem gr_takeN {k j : Nat} (hj : j < k) : gr (A.take k) j = gr A j := by
  unfold gr
  rw [Int.toNat_natCast, List.getD, List.getD, List.getElem?_take, if_pos hj]
theorem gr_dropN {k j : Nat} : gr (A.drop k) j = gr A ((k + j : Nat) : Int) := by
  unfold gr
  rw [Int.toNat_natCast, Int.toNat_natCast, List.getD, List.getD, List.getElem?_drop]
theorem HomS.take (h : HomS n n' A B p) (k : Nat) : HomS n n' (A.take k) (B.take k) p := by
  have hl := h.len
  refine ⟨fun m hm => h.sa m (List.mem_of_mem_take hm), fun m hm => h.sb m (List.mem_of_mem_take hm), by simp [hl], h.rng, h.inj, fun j hj x hx => ?_⟩
  have hj : j < k ∧ j < A.length := by simp at hj; omega
  rw [gr_takeN hj.1, gr_takeN hj.1]
  exact h.mv j hj.2 x hx
theorem HomS.drop (h : HomS n n' A B p) (k : Nat) : HomS n n' (A.drop k) (B.drop k) p := by
  have hl := h.len
  refine ⟨fun m hm => h.sa m (List.mem_of_mem_drop hm), fun m hm => h.sb m (List.mem_of_mem_drop hm), by simp [hl], h.rng, h.inj, fun j hj x hx => ?_⟩
  have hj : j < A.length - k := by simpa using hj
  rw [gr_dropN, gr_dropN]
  exact h.mv _ (by omega) x hx
theorem Like.drop (h : Like n A) {k : Nat} (hk : k < A.length) : Like n (A.drop k) := by
  have r5 := h.r5
  refine ⟨by simp; omega, by simp; omega, h.n400, fun m hm => h.syst m (List.mem_of_mem_drop hm), fun q hq x hx => ?_, fun a c hac hc x hx => ?_⟩
  · have hq : q < A.length - k := by simpa using hq
    rw [gr_dropN]; exact h.free _ (by omega) x hx
  · have hc : c < A.length - k := by simpa using hc
    rw [gr_dropN, gr_dropN]
    exact h.far (k + a) (k + c) (by omega) (by omega) x hx
theorem Like.take (h : Like n A) {k : Nat} (h1 : 1 ≤ k) : Like n (A.take k) := by
  have r5 := h.r5
  have r1 := h.r1
  refine ⟨by simp; omega, by simp; omega, h.n400, fun m hm => h.syst m (List.mem_of_mem_take hm), fun q hq x hx => ?_, fun a c hac hc x hx => ?_⟩
  · have hq : q < k ∧ q < A.length := by simp at hq; omega
    rw [gr_takeN hq.1]; exact h.free _ hq.2 x hx
  · have hc : c < k ∧ c < A.length := by simp at hc; omega
    rw [gr_takeN hc.1, gr_takeN (by omega)]
    exact h.far a c hac hc.2 x hx
/-- a form's points are points of the system -/
theorem homS_form (hs : Syst n A) (hn : n ≤ 1000) (hf : 0 ≤ f ∧ f < n) : HomS (Mem.orbit A f).length n (Mem.frm n A f) A (Mem.orbit A f) ∧ gi (Mem.orbit A f) 0 = f ∧ 1 ≤ (Mem.orbit A f).length ∧ (Mem.orbit A f).length ≤ n := by
  have hob := obt_orbit hs hf hn
  show HomS (Mem.orbit A f).length n (Mem.frmO n A (Mem.orbit A f)) A (Mem.orbit A f) ∧ _
  generalize Mem.orbit A f = O at *
  have hpos := hob.pos
  refine ⟨⟨fun m hmm => ?_, hs, by simp [Mem.frmO], fun x hx => hob.rng _ (gi_mem hx.1 hx.2), fun a b ha hb e => gi_inj hob.nodup ha hb e, fun j hj x hx => ?_⟩, hob.first, by omega, hob.le⟩
  · obtain ⟨q, hq, rfl⟩ := mem_gr hmm
    have hq : q < A.length := by simpa [Mem.frmO] using hq
    rw [frmO_gr hq]
    refine ⟨by simp, fun y hy => ?_⟩
    obtain ⟨x, hx, rfl⟩ := List.mem_map.1 hy
    have := hob.num (hob.shut x hx _ (gr_in hq))
    omega
  · have hj : j < A.length := by simpa [Mem.frmO] using hj
    rw [frmO_gi hj hx.1 hx.2]
    exact (hob.num (hob.shut _ (gi_mem hx.1 hx.2) _ (gr_in hj))).2.2
/-- the figure and the facet of the dual -/
theorem figure_man (hm : IsMan ms) (h2 : 2 ≤ ms.length) : IsMan (frm (nf ms) (ms.drop 1) 0) := frm_man (hm.like.drop (by omega)) (by have := hm.m0.f2; omega)
theorem dual_facet (hm : IsMan ms) (h2 : 2 ≤ ms.length) : frm (nf (dualL ms)) ((dualL ms).take (ms.length - 1)) 0 = dualL (frm (nf ms) (ms.drop 1) 0) := by
  have f2 := hm.m0.f2
  have f4 := hm.m0.f400
  obtain ⟨hd, hdl, hdn, _⟩ := duals hm
  have hrf := hm.revFull
  obtain ⟨hν, hν0⟩ := homS_num hrf.like.syst (by omega) (by omega) hrf.like.r1 (hrf.orbit_len (by omega))
  have hdS : frm (nf ms) ms.reverse 0 = dualL ms := (dualL_yes hm).symm
  rw [hdS] at hν
  have e1 := (hν.take (ms.length - 1)).frm (by omega) (by omega) (f := 0) (by omega)
  rw [hν0] at e1
  have hG := figure_man hm h2
  have hs1 : Syst (nf ms) (ms.drop 1) := fun m h => hm.syst m (List.mem_of_mem_drop h)
  obtain ⟨hO, hO0, hOp, hOl⟩ := homS_form hs1 (by omega) (f := 0) (by omega)
  have e2 := hO.rev.frm (by omega) (by omega) (f := 0) (by omega)
  rw [hO0] at e2
  have hnG : nf (frm (nf ms) (ms.drop 1) 0) = (orbit (ms.drop 1) 0).length := nf_frm (by simp; omega)
  rw [dualL_yes hG, hnG, ← e2, hdn, e1, List.reverse_drop]
/-- lists that grow, with the same members -/
theorem grow_same : ∀ {xs ys : List Int}, xs.Pairwise (· < ·) → ys.Pairwise (· < ·) → (∀ a, a ∈ xs ↔ a ∈ ys) → xs = ys
  | [], [], _, _, _ => rfl
  | [], y :: ys, _, _, h => absurd ((h y).2 (by simp)) (by simp)
  | x :: xs, [], _, _, h => absurd ((h x).1 (by simp)) (by simp)
  | x :: xs, y :: ys, hx, hy, h => by
    rw [List.pairwise_cons] at hx hy
    have e : x = y := by
      rcases List.mem_cons.1 ((h x).1 (by simp)) with e | h1
      · exact e
      · rcases List.mem_cons.1 ((h y).2 (by simp)) with e | h2
        · exact e.symm
        · have := hy.1 x h1
          have := hx.1 y h2
          omega
    subst e
    congr 1
    refine grow_same hx.2 hy.2 fun a => ⟨fun ha => ?_, fun ha => ?_⟩
    · rcases List.mem_cons.1 ((h a).1 (List.mem_cons_of_mem _ ha)) with e | h1
      · subst e; have := hx.1 a ha; omega
      · exact h1
    · rcases List.mem_cons.1 ((h a).2 (List.mem_cons_of_mem _ ha)) with e | h1
      · subst e; have := hy.1 a ha; omega
      · exact h1
/-- the sizes of the orbits of two moves side by side, halved -/
def Poly (ms : List (List Int)) (i : Nat) (a : Int) : Prop := ∃ f : Int, (0 ≤ f ∧ f < nf ms) ∧ a = (((orbit ((ms.drop i).take 2) f).length / 2 : Nat) : Int)
theorem orbit_perm_len (hs : Syst n A) (hB : ∀ m, m ∈ A ↔ m ∈ B) (hf : 0 ≤ f ∧ f < n) (hn : n ≤ 1000) : (orbit A f).length = (orbit B f).length := by
  have hsB : Syst n B := fun m h => hs m ((hB m).2 h)
  have oA := obt_orbit hs hf hn
  have oB := obt_orbit hsB hf hn
  have mA : ∀ y, y ∈ orbit A f ↔ Rch A f y := fun y => mem_orbit hs hf hn
  have mB : ∀ y, y ∈ orbit B f ↔ Rch B f y := fun y => mem_orbit hsB hf hn
  generalize orbit A f = OA at *
  generalize orbit B f = OB at *
  refine Nat.le_antisymm (List.Nodup.length_le_of_subset oA.nodup fun y hy => (mB y).2 (((mA y).1 hy).sub fun m h => (hB m).1 h)) (List.Nodup.length_le_of_subset oB.nodup fun y hy => (mA y).2 (((mB y).1 hy).sub fun m h => (hB m).2 h))
theorem mem_two {i : Nat} (hi : i + 1 < A.length) {m : List Int} : m ∈ (A.drop i).take 2 ↔ m = gr A i ∨ m = gr A ((i + 1 : Nat) : Int) := by
  constructor
  · intro h
    obtain ⟨j, hj, rfl⟩ := mem_gr h
    have hj : j < 2 := by simp at hj; omega
    rw [gr_takeN hj, gr_dropN]
    rcases (show j = 0 ∨ j = 1 by omega) with rfl | rfl
    · exact .inl rfl
    · exact .inr rfl
  · intro h
    rcases h with rfl | rfl
    · have := gr_in (xss := (A.drop i).take 2) (j := 0) (by simp; omega)
      rwa [gr_takeN (by omega), gr_dropN, Nat.add_zero] at this
    · have := gr_in (xss := (A.drop i).take 2) (j := 1) (by simp; omega)
      rwa [gr_takeN (by omega), gr_dropN] at this
/-- the dual's polygons are those in reverse order -/
theorem dual_poly (hm : IsMan ms) {i : Nat} (hi : i + 1 < ms.length) (a : Int) : Poly (dualL ms) i a ↔ Poly ms (ms.length - 2 - i) a := by
  have f2 := hm.m0.f2
  have f4 := hm.m0.f400
  obtain ⟨hd, hdl, hdn, _⟩ := duals hm
  have hrf := hm.revFull
  obtain ⟨hν, hν0⟩ := homS_num hrf.like.syst (by omega) (by omega) hrf.like.r1 (hrf.orbit_len (by omega))
  have hdS : frm (nf ms) ms.reverse 0 = dualL ms := (dualL_yes hm).symm
  rw [hdS] at hν
  generalize numIn (nf ms) (orbit ms.reverse 0) = ν at *
  have h2 := (hν.drop i).take 2
  have hl : ms.reverse.length = ms.length := List.length_reverse
  have hS : Syst (nf ms) ((ms.reverse.drop i).take 2) := h2.sa
  have hmem : ∀ m, m ∈ (ms.reverse.drop i).take 2 ↔ m ∈ (ms.drop (ms.length - 2 - i)).take 2 := fun m => by
    rw [mem_two (by omega), mem_two (by omega), gr_rev (by omega), gr_rev (by omega)]
    rw [show ms.length - 1 - i = ms.length - 2 - i + 1 by omega, show ms.length - 1 - (i + 1) = ms.length - 2 - i by omega]
    exact or_comm
  have key : ∀ f : Int, 0 ≤ f ∧ f < nf ms → (orbit (((dualL ms).drop i).take 2) (gi ν f)).length = (orbit ((ms.drop (ms.length - 2 - i)).take 2) f).length := fun f hf => by
    rw [h2.orbit hf, List.length_map]
    exact orbit_perm_len hS hmem hf (by omega)
  have hnd : ((List.range (nf ms)).map fun x : Nat => gi ν x).Nodup := List.pairwise_map.2 (List.Pairwise.imp_of_mem (fun {a b} ha hb hab e => hab (by
    have := List.mem_range.1 ha
    have := List.mem_range.1 hb
    have := hν.inj a b (by omega) (by omega) e
    omega)) List.nodup_range)
  have hon : ∀ y : Int, 0 ≤ y ∧ y < nf ms → ∃ x : Int, (0 ≤ x ∧ x < nf ms) ∧ gi ν x = y := fun y hy => by
    have := full_mem hnd (fun z hz => by
      obtain ⟨i, hi, rfl⟩ := List.mem_map.1 hz
      have := List.mem_range.1 hi
      exact hν.rng _ (by omega)) (by simp) hy.1 hy.2
    obtain ⟨i, hi, e⟩ := List.mem_map.1 this
    have := List.mem_range.1 hi
    exact ⟨i, by omega, e⟩
  unfold Poly
  rw [hdn]
  constructor
  · rintro ⟨y, hy, rfl⟩
    obtain ⟨x, hx, rfl⟩ := hon y hy
    exact ⟨x, hx, by rw [key x hx]⟩
  · rintro ⟨x, hx, rfl⟩
    exact ⟨gi ν x, hν.rng x hx, by rw [key x hx]⟩
end
end Go.Mem
