/- Texts laid together: P29 P30 P31. -/
import Derived.Test.YtablpijnjkncfaaGreatPC
import Derived.Test.YtablpijnjkncfaaGreatPB
import Derived.Test.YtablpijnjkncfaaGreatPD
/- Plain words on lists: orbits of flags are all as large as there are automorphisms. No program in sight. -/
namespace Go.Mem
set_option linter.unusedVariables false
section
variable {ms ks : List (List Int)}
theorem covers_nodup (hm : IsMan ms) (hk : IsMan ks) : ∀ n : Nat, n ≤ nf ks → (covers ms ks n).Nodup
  | 0, _ => by simp [covers]
  | n + 1, h => by
    have ih := covers_nodup hm hk n (by omega)
    cases e : mapT ms ks n with
    | none => rw [covers_none e]; exact ih
    | some p =>
      rw [covers_some e, List.nodup_append]
      refine ⟨ih, by simp, fun a ha b hb hab => ?_⟩
      simp at hb
      subst hb hab
      have h1 := ((mapT_iff hm hk (flag := (n : Int)) (by omega)).1 e).2.2
      have hex : ∃ f : Nat, f < n ∧ mapT ms ks f = some a := by
        have := List.mem_filterMap.1 ha
        obtain ⟨f, hf, h2⟩ := this
        exact ⟨f, List.mem_range.1 hf, h2⟩
      obtain ⟨f, hf, h2⟩ := hex
      have h3 := ((mapT_iff hm hk (flag := (f : Int)) (by omega)).1 h2).2.2
      omega
theorem auts_nodup (hm : IsMan ms) : (auts ms).Nodup := covers_nodup hm hm _ (Nat.le_refl _)
/-- the flags of an orbit -/
theorem mem_class (hm : IsMan ms) {x y : Int} (hx : 0 ≤ x ∧ x < nf ms) (hy : 0 ≤ y ∧ y < nf ms) : gi (labs (nf ms) (auts ms)) y = gi (labs (nf ms) (auts ms)) x ↔ ∃ p ∈ auts ms, gi p x = y := by
  have hs := auts_sym hm
  have h4 := hm.m0.f400
  have hL := labs_all hs (by omega)
  have h0 := hL.done x hx.1 hx.2 hx.2
  constructor
  · intro e
    have hr := hL.only x y hx.1 hx.2 hy.1 hy.2 h0 e
    obtain ⟨p, hp, e2⟩ := (auts_rch hm hx).1 hr
    exact ⟨p, (mem_auts hm).2 hp, e2⟩
  · rintro ⟨p, hp, rfl⟩
    exact hL.shut x _ hx.1 hx.2 h0 ((auts_rch hm hx).2 ⟨p, (mem_auts hm).1 hp, rfl⟩)
theorem class_size (hm : IsMan ms) {x : Int} (hx : 0 ≤ x ∧ x < nf ms) : (plc (labs (nf ms) (auts ms)) (gi (labs (nf ms) (auts ms)) x)).length = (auts ms).length := by
  have h4 := hm.m0.f400
  have hL := labs_all (auts_sym hm) (by omega)
  have hA : ((auts ms).map fun p => gi p x).Nodup := by
    refine List.pairwise_map.2 ((List.nodup_iff_pairwise_ne.1 (auts_nodup hm)).imp_of_mem fun {a b} ha hb hne e => hne ?_)
    exact Hom.same hm ((mem_auts hm).1 ha) ((mem_auts hm).1 hb) hx e
  have hlen : ((auts ms).map fun p => gi p x).length = (auts ms).length := by simp
  have h1 := List.Nodup.length_le_of_subset hA (l₂ := plc (labs (nf ms) (auts ms)) (gi (labs (nf ms) (auts ms)) x)) (fun y hy => by
    obtain ⟨p, hp, rfl⟩ := List.mem_map.1 hy
    have hr := ((mem_auts hm).1 hp).rng x hx.1 hx.2
    exact mem_plc.2 ⟨hr.1, by rw [hL.len]; exact hr.2, (mem_class hm hx hr).2 ⟨p, hp, rfl⟩⟩)
  have h2 := List.Nodup.length_le_of_subset (plc_nodup (labs (nf ms) (auts ms)) (gi (labs (nf ms) (auts ms)) x)) (l₂ := (auts ms).map fun p => gi p x) (fun y hy => by
    obtain ⟨y0, y1, y2⟩ := mem_plc.1 hy
    rw [hL.len] at y1
    obtain ⟨p, hp, e⟩ := (mem_class hm hx ⟨y0, y1⟩).1 y2
    exact List.mem_map.2 ⟨p, hp, e⟩)
  omega
theorem aut_times (hm : IsMan ms) : ((auts ms).length : Int) * labc (nf ms) (auts ms) = nf ms := by
  have h4 := hm.m0.f400
  have hL := labs_all (auts_sym hm) (by omega)
  have hc := hL.c0
  have hs := sum_cnt (k := (labc (nf ms) (auts ms)).toNat) (labs (nf ms) (auts ms)) (fun x hx => by
    obtain ⟨i, hi, rfl⟩ := in_gi hx
    rw [hL.len] at hi
    have h1 := hL.rng i (by omega) (by omega)
    have h2 := hL.done i (by omega) (by omega) (by omega)
    omega)
  rw [sumTo_const (c := (auts ms).length) (fun y hy => by
    obtain ⟨x, x0, _, x1, x2⟩ := hL.hit y (by omega) (by omega)
    rw [← plc_cnt, ← x2]
    exact class_size hm ⟨x0, x1⟩), hL.len] at hs
  rw [Int.mul_comm]
  have : (((labc (nf ms) (auts ms)).toNat * (auts ms).length : Nat) : Int) = (nf ms : Int) := by rw [hs]
  rw [Int.natCast_mul] at this
  rw [show (((labc (nf ms) (auts ms)).toNat : Nat) : Int) = labc (nf ms) (auts ms) by omega] at this
  exact this
theorem autTo_of (hm : IsMan ms) {p : List Int} (hp : Hom ms ms p) : autTo ms (gi p 0) = p ∧ autToC ms (gi p 0) = 0 := by
  have h2 := hm.m0.f2
  have hr := hp.rng 0 (by omega) (by omega)
  have e : mapTo ms ms (gi p 0) = some p := Hom.map hm hm rfl hp
  have := autTo_4 hm hr (by rw [e]; rfl)
  rw [e] at this
  exact this
end
end Go.Mem

/- Plain words on lists: the automorphisms that keep a face, times the faces of its orbit, are all. No program in sight. -/
namespace Go.Mem
set_option linter.unusedVariables false
theorem sumTo_mul (s : Nat) (g : Nat → Nat) : ∀ k, sumTo (fun y => s * g y) k = s * sumTo g k
  | 0 => by simp [sumTo]
  | k + 1 => by rw [sumTo, sumTo, sumTo_mul s g k, Nat.mul_add]
theorem sumTo_congr {f g : Nat → Nat} : ∀ {k : Nat}, (∀ y, y < k → f y = g y) → sumTo f k = sumTo g k
  | 0, _ => rfl
  | k + 1, h => by rw [sumTo, sumTo, sumTo_congr (fun y hy => h y (by omega)), h k (by omega)]
/-- the first k numbers are all nought -/
def allZ (O : List Int) : Nat → Bool
  | 0 => true
  | k + 1 => allZ O k && decide (gi O k = 0)
theorem allZ_iff (O : List Int) : ∀ k, allZ O k = true ↔ ∀ e : Nat, e < k → gi O e = 0
  | 0 => by simp [allZ]
  | k + 1 => by
    rw [allZ, Bool.and_eq_true, allZ_iff O k, decide_eq_true_eq]
    constructor
    · rintro ⟨h1, h2⟩ e he
      by_cases h : e = k
      · subst h; exact h2
      · exact h1 e (by omega)
    · intro h
      exact ⟨fun e he => h e (by omega), h k (by omega)⟩
section
variable {ms : List (List Int)} {i a : Int}
/-- where an automorphism leads the face a -/
def actF (ms : List (List Int)) (i a : Int) (p : List Int) : Int := gi (facL ms i) (gi p (idxOf (facL ms i) a))
theorem actF_rng (hm : IsMan ms) (h0 : 0 ≤ a) (ha : a < facC ms i) {p : List Int} (hp : Hom ms ms p) : 0 ≤ actF ms i a p ∧ actF ms i a p < facC ms i := by
  obtain ⟨x0, x1, _⟩ := facL_hit hm i h0 ha
  exact facL_rng hm i (hp.rng _ x0 x1)
theorem fac_same (hm : IsMan ms) (h0 : 0 ≤ a) (ha : a < facC ms i) {e : Int} (he0 : 0 ≤ e) (he : e < facC ms i) :
    gi (labs (facC ms i).toNat (facA ms i)) e = gi (labs (facC ms i).toNat (facA ms i)) a ↔ ∃ p ∈ auts ms, actF ms i a p = e := by
  obtain ⟨x0, x1, x2⟩ := facL_hit hm i h0 ha
  have hC := facC_pos hm i
  have hs := facA_sym hm i
  have hL := labs_all hs (by omega)
  have hd := hL.done a h0 (by omega) (by omega)
  have hr := facA_rch hm i (x := idxOf (facL ms i) a) (y := e) ⟨x0, x1⟩
  rw [x2] at hr
  constructor
  · intro h
    obtain ⟨p, hp, h2⟩ := hr.1 (hL.only a e h0 (by omega) he0 (by omega) hd h)
    exact ⟨p, (mem_auts hm).2 hp, h2⟩
  · rintro ⟨p, hp, h2⟩
    exact hL.shut a e h0 (by omega) hd (hr.2 ⟨p, (mem_auts hm).1 hp, h2⟩)
/-- as many automorphisms lead a to e as keep a -/
theorem fibre_stab (hm : IsMan ms) (h0 : 0 ≤ a) (ha : a < facC ms i) {p0 : List Int} (hp0 : Hom ms ms p0) :
    ((auts ms).filter fun p => decide (actF ms i a p = actF ms i a p0)).length = ((auts ms).filter fun p => decide (actF ms i a p = a)).length := by
  obtain ⟨x0, x1, x2⟩ := facL_hit hm i h0 ha
  have hC := facC_pos hm i
  have f2 := hm.m0.f2
  obtain ⟨r, hr, hrp, hpr⟩ := hp0.inv hm hm rfl rfl
  have hn0 := hp0.nodup hm hm rfl rfl
  have hnr := hr.nodup hm hm rfl rfl
  have h4 : nf ms ≤ 1000 := by have := hm.m0.f400; omega
  -- labels go along
  have lab : ∀ {q : List Int}, Hom ms ms q → ∀ {x y : Int}, 0 ≤ x ∧ x < nf ms → 0 ≤ y ∧ y < nf ms → gi (facL ms i) x = gi (facL ms i) y → gi (facL ms i) (gi q x) = gi (facL ms i) (gi q y) :=
    fun {q} hq {x y} hx hy e => (aut_comm hm hq i).lab (oth_sym hm i) h4 hx hy e
  have inj : ∀ {r : List Int}, Hom ms ms r → r.Nodup → ∀ {a b : List Int}, Hom ms ms a → Hom ms ms b → aft a r = aft b r → a = b := fun {r} hr hn {a b} ha hb e => by
    have ha0 := ha.rng 0 (by omega) (by omega)
    have hb0 := hb.rng 0 (by omega) (by omega)
    have e1 : gi r (gi a 0) = gi r (gi b 0) := by
      rw [← gi_aft (q := r) (p := a) (by omega) (by rw [ha.len]; omega), ← gi_aft (q := r) (p := b) (by omega) (by rw [hb.len]; omega), e]
    exact Hom.same hm ha hb (a := 0) (by omega) (gi_inj hn (by rw [hr.len]; exact ha0) (by rw [hr.len]; exact hb0) e1)
  have side : ∀ {r : List Int}, Hom ms ms r → r.Nodup → ∀ {c d : Int}, (∀ p, Hom ms ms p → actF ms i a p = c → actF ms i a (aft p r) = d) →
      ((auts ms).filter fun p => decide (actF ms i a p = c)).length ≤ ((auts ms).filter fun p => decide (actF ms i a p = d)).length := fun {r} hr hn {c d} hcd => by
    have hl : (((auts ms).filter fun p => decide (actF ms i a p = c)).map fun p => aft p r).length = ((auts ms).filter fun p => decide (actF ms i a p = c)).length := by simp
    rw [← hl]
    refine List.Nodup.length_le_of_subset ?_ (fun y hy => ?_)
    · refine List.pairwise_map.2 (((List.nodup_iff_pairwise_ne.1 (auts_nodup hm)).filter _).imp_of_mem fun {a b} ha hb hne e => hne ?_)
      exact inj hr hn ((mem_auts hm).1 (List.mem_filter.1 ha).1) ((mem_auts hm).1 (List.mem_filter.1 hb).1) e
    · obtain ⟨p, hp, rfl⟩ := List.mem_map.1 hy
      obtain ⟨hp1, hp2⟩ := List.mem_filter.1 hp
      have hp1 := (mem_auts hm).1 hp1
      exact List.mem_filter.2 ⟨(mem_auts hm).2 (Hom.aft hp1 hr hm rfl), decide_eq_true (hcd p hp1 (of_decide_eq_true hp2))⟩
  have act_aft : ∀ {p r : List Int}, Hom ms ms p → actF ms i a (aft p r) = gi (facL ms i) (gi r (gi p (idxOf (facL ms i) a))) := fun {p r} hp => by
    unfold actF; rw [gi_aft x0 (by rw [hp.len]; exact x1)]
  refine Nat.le_antisymm (side hr hnr fun p hp e => ?_) (side hp0 hn0 fun p hp e => ?_)
  · rw [act_aft hp, lab hr (hp.rng _ x0 x1) (hp0.rng _ x0 x1) e, hrp _ x0 x1, x2]
  · rw [act_aft hp]
    exact lab hp0 (hp.rng _ x0 x1) ⟨x0, x1⟩ (by rw [x2]; exact e)
/-- the faces of the orbit, counted -/
def orbN (O : List Int) (a : Int) (k : Nat) : Nat := sumTo (fun e => if gi O e = gi O a then 1 else 0) k
theorem stab_times (hm : IsMan ms) (h0 : 0 ≤ a) (ha : a < facC ms i) :
    ((auts ms).filter fun p => decide (actF ms i a p = a)).length * orbN (labs (facC ms i).toNat (facA ms i)) a (facC ms i).toNat = (auts ms).length := by
  have hs := sum_cnt (k := (facC ms i).toNat) ((auts ms).map (actF ms i a)) (fun x hx => by
    obtain ⟨p, hp, rfl⟩ := List.mem_map.1 hx
    have := actF_rng (i := i) hm h0 ha ((mem_auts hm).1 hp)
    omega)
  rw [List.length_map] at hs
  rw [← hs]
  unfold orbN
  rw [← sumTo_mul]
  refine sumTo_congr fun e he => ?_
  have hc : cnt ((auts ms).map (actF ms i a)) e = ((auts ms).filter fun p => decide (actF ms i a p = (e : Int))).length := by
    unfold cnt
    rw [List.filter_map, List.length_map]
    rfl
  rw [hc]
  split
  · rename_i h
    obtain ⟨p0, hp0, e0⟩ := (fac_same hm h0 ha (e := (e : Int)) (by omega) (by omega)).1 h
    rw [← e0, fibre_stab hm h0 ha ((mem_auts hm).1 hp0), Nat.mul_one]
  · rename_i h
    rw [Nat.mul_zero]
    symm
    rw [List.length_eq_zero_iff, List.filter_eq_nil_iff]
    intro p hp hd
    exact h ((fac_same hm h0 ha (e := (e : Int)) (by omega) (by omega)).2 ⟨p, hp, of_decide_eq_true hd⟩)
theorem one_orbit (hm : IsMan ms) : labc (facC ms i).toNat (facA ms i) = 1 ↔ ∀ e : Nat, e < (facC ms i).toNat → gi (labs (facC ms i).toNat (facA ms i)) e = 0 := by
  have hC := facC_pos hm i
  have hL := labs_all (facA_sym hm i) (by omega)
  constructor
  · intro h e he
    have h1 := hL.rng e (by omega) (by omega)
    have h2 := hL.done e (by omega) (by omega) (by omega)
    omega
  · intro h
    have h1 := hL.rng 0 (by omega) (by omega)
    have h2 := hL.done 0 (by omega) (by omega) (by omega)
    refine Classical.byContradiction fun hne => ?_
    obtain ⟨x, x0, _, x1, x2⟩ := hL.hit 1 (by omega) (by omega)
    have := h x.toNat (by omega)
    rw [show ((x.toNat : Nat) : Int) = x by omega] at this
    omega
end
end Go.Mem

/- Plain words on lists: symmetry types and standard automorphisms, as the general law says. No program in sight. -/
namespace Go.Mem
set_option linter.unusedVariables false
section
variable {ms : List (List Int)}
theorem symT_gr (hm : IsMan ms) {k : Nat} (hk : k < ms.length) : gr (symT ms) k = symRow (labs (nf ms) (auts ms)) (labc (nf ms) (auts ms)).toNat (gr ms k) := by
  rw [symT_yes hm]
  simp [gr, List.getD, hk]
theorem length_symT (hm : IsMan ms) : (symT ms).length = ms.length := by rw [symT_yes hm]; simp
theorem symT_at (hm : IsMan ms) {k : Nat} (hk : k < ms.length) {x : Int} (hx : 0 ≤ x ∧ x < nf ms) : gi (gr (symT ms) k) (gi (labs (nf ms) (auts ms)) x) = gi (labs (nf ms) (auts ms)) (gi (gr ms k) x) := by
  rw [symT_gr hm hk]
  exact gi_symRow (homs_comm hm (fun p hp => (mem_auts hm).1 hp) hk) (auts_sym hm) (by have := hm.m0.f400; omega) hx
theorem symT_twice (hm : IsMan ms) {k : Nat} (hk : k < ms.length) {x : Int} (hx : 0 ≤ x ∧ x < nf ms) : gi (gr (symT ms) k) (gi (gr (symT ms) k) (gi (labs (nf ms) (auts ms)) x)) = gi (labs (nf ms) (auts ms)) x := by
  have hy := hm.syst.at (j := (k : Int)) (x := x) (by omega) (by omega) hx
  have hmem : gr ms k ∈ ms := by simp [gr, List.getD, hk]
  rw [symT_at hm hk hx, symT_at hm hk hy, hm.m0.twice hmem hx]
theorem length_stdA (hm : IsMan ms) (h : labc (nf ms) (auts ms) = 1) : (stdA ms).length = ms.length := by rw [(stdA_3 hm h).1]; simp
theorem std_gr (hm : IsMan ms) (h : labc (nf ms) (auts ms) = 1) {k : Nat} (hk : k < ms.length) : Hom ms ms (gr (stdA ms) k) ∧ gi (gr (stdA ms) k) 0 = gi (gr ms k) 0 := by
  have e := stdA_gr hm h hk
  have e2 : gr (stdA ms) k = (mapTo ms ms (gi (gr ms k) 0)).getD [] := by
    rw [(stdA_3 hm h).1]
    simp [gr, List.getD, hk]
  rw [e] at e2
  have hr := hm.syst.at (j := (k : Int)) (x := 0) (by omega) (by omega) (by have := hm.m0.f2; omega)
  have h2 := (mapT_iff hm hm (flag := gi (gr ms k) 0) hr (p := gr (auts ms) (gi (gr ms k) 0))).1 (by rw [mapT_self]; exact e)
  rw [e2]
  exact ⟨h2.2.1, h2.2.2⟩
theorem std_perm (hm : IsMan ms) (h : labc (nf ms) (auts ms) = 1) : ∀ xs ∈ stdA ms, (xs.length : Int) = nf ms ∧ IsPerm xs := fun xs hx => by
  obtain ⟨k, hk, rfl⟩ := mem_gr hx
  rw [length_stdA hm h] at hk
  obtain ⟨hp, _⟩ := std_gr hm h hk
  have hl := hp.len
  refine ⟨by omega, by have := hm.m0.f400; omega, fun x hx => ?_, hp.nodup hm hm rfl rfl⟩
  obtain ⟨i, hi, rfl⟩ := in_gi hx
  rw [hl]
  exact hp.rng i (by omega) (by omega)
theorem hom_run (hm : IsMan ms) {p : List Int} (hp : Hom ms ms p) : ∀ (wd : List Int), (∀ x ∈ wd, 0 ≤ x ∧ x < ms.length) → ∀ x : Int, 0 ≤ x ∧ x < nf ms → gi p (run ms wd x) = run ms wd (gi p x)
  | [], _, x, _ => rfl
  | y :: wd, h, x, hx => by
    have hy := h y (by simp)
    have hn := hm.syst.at (j := y) (x := x) hy.1 hy.2 hx
    show gi p (run ms wd (gi (gr ms y) x)) = run ms wd (gi (gr ms y) (gi p x))
    rw [hom_run hm hp wd (fun z hz => h z (by simp [hz])) _ hn]
    have := hp.mv y.toNat (by omega) x hx.1 hx.2
    rw [show ((y.toNat : Nat) : Int) = y by omega] at this
    rw [this]
theorem std_step (hm : IsMan ms) (h : labc (nf ms) (auts ms) = 1) {wd : List Int} (hr : ∀ x ∈ wd, 0 ≤ x ∧ x < ms.length) {i : Nat} (hi : i < wd.length) :
    run ms (wd.take (i + 1)).reverse 0 = gi (gr (stdA ms) (gi wd i)) (run ms (wd.take i).reverse 0) := by
  have hw := hr _ (gi_in hi)
  have f2 := hm.m0.f2
  obtain ⟨hp, h0⟩ := std_gr hm h (k := (gi wd i).toNat) (by omega)
  rw [show (((gi wd i).toNat : Nat) : Int) = gi wd i by omega] at hp h0
  rw [take_gi hi, List.reverse_append, List.reverse_singleton]
  show run ms (wd.take i).reverse (gi (gr ms (gi wd i)) 0) = _
  rw [← h0]
  exact (hom_run hm hp _ (fun x hx => hr x (List.mem_of_mem_take (List.mem_reverse.1 hx))) 0 (by omega)).symm
end
end Go.Mem
