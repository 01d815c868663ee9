/- Texts laid together: P39 P40 P41 P42. -/
import Derived.Test.YtmdimdbfgibflaaPF
import Derived.Test.YtmdimdbfgibflaaF38
import Derived.Test.YtmdimdbfgibflaaPD
import Derived.Test.YtmdimdbfgibflaaF40
/- Plain words on lists: the plain law of Extensions. No program in sight. -/
namespace Go.Mem
set_option linter.unusedVariables false
section
variable {n : Nat} {A : List (List Int)} {ms : List (List Int)} {b : Bool}
/-- moves like those of a maniplex, that lead 0 everywhere, are one -/
theorem Full.isMan (h : Full n A) (h1 : 1 ≤ n) : IsMan A := by
  have hnd : (idl n).Nodup := by
    unfold idl
    exact List.pairwise_map.2 (List.nodup_range.imp fun h e => h (by omega))
  have hr : ∀ x ∈ idl n, 0 ≤ x ∧ x < n := fun x hx => by
    obtain ⟨i, hi, rfl⟩ := List.mem_map.1 hx
    have := List.mem_range.1 hi
    omega
  have hin : ∀ x : Int, 0 ≤ x ∧ x < n → x ∈ idl n := fun x hx => by
    have := gi_mem (xs := idl n) (j := x) hx.1 (by simpa using hx.2)
    rwa [gi_idl hx.1 hx.2] at this
  have ho : Obt n A 0 (idl n) := by
    refine ⟨hnd, hr, fun x hx m hm => ?_, by simp; omega, gi_idl (by omega) (by omega), fun x hx => h.all x (hr x hx).1 (hr x hx).2⟩
    obtain ⟨q, hq, rfl⟩ := mem_gr hm
    exact hin _ (h.like.syst.gi hq (hr x hx))
  have := frmO_man h.like ho
  rwa [frmO_idl h.like.syst] at this
theorem nf_full (h : Full n A) : nf A = n := by
  have r1 := h.like.r1
  exact (h.like.syst _ (gr_in (j := 0) (by omega))).1
/-- the moves on two flags for each one -/
theorem gi_dbl {m : List Int} {f : Int} (h0 : 0 ≤ f) (hf : f < 2 * (m.length : Int)) : gi (dbl m) f = 2 * gi m (f / 2) + f % 2 := by
  unfold dbl dblTo
  rw [gi_range_map h0 (by omega)]
  have e1 : ((f.toNat / 2 : Nat) : Int) = f / 2 := by omega
  have e2 : ((f.toNat % 2 : Nat) : Int) = f % 2 := by omega
  rw [e1, e2]
theorem gi_exch {n : Nat} {f : Int} (h0 : 0 ≤ f) (hf : f < 2 * (n : Int)) : gi (exch n) f = tg f := by
  unfold exch
  rw [gi_range_map h0 (by omega), show ((f.toNat : Nat) : Int) = f by omega]
theorem tg_two (f : Int) : tg f / 2 = f / 2 ∧ tg f ≠ f ∧ tg (tg f) = f := by unfold tg; split <;> (split <;> omega)
theorem gr_cons {a : List Int} {l : List (List Int)} {q : Nat} : gr (a :: l) (q + 1 : Nat) = gr l q := by
  have : ((q + 1 : Nat) : Int).toNat = q + 1 := by omega
  unfold gr; rw [this]; simp [List.getD]
theorem gr_map_dbl {q : Nat} (hq : q < ms.length) : gr (ms.map dbl) q = dbl (gr ms q) := by simp [gr, List.getD, hq]
/-- the moves of an extension, whose new one stands at the place z -/
def extM (ms : List (List Int)) (b : Bool) : List (List Int) := if b then exch (nf ms) :: ms.map dbl else ms.map dbl ++ [exch (nf ms)]
def exz (ms : List (List Int)) (b : Bool) : Nat := if b then 0 else ms.length
def exi (b : Bool) (q : Nat) : Nat := if b then q + 1 else q
theorem len_extM : (extM ms b).length = ms.length + 1 := by unfold extM; split <;> simp
theorem extM_z : gr (extM ms b) (exz ms b) = exch (nf ms) := by
  unfold extM exz
  cases b
  · simp [gr, List.getD]
  · simp [gr, List.getD]
theorem extM_i {q : Nat} (hq : q < ms.length) : gr (extM ms b) (exi b q) = dbl (gr ms q) := by
  unfold extM exi
  cases b
  · have h1 : q < (ms.map dbl).length := by simpa using hq
    show gr (ms.map dbl ++ [exch (nf ms)]) q = _
    unfold gr
    rw [Int.toNat_natCast, List.getD, List.getD, List.getElem?_append_left h1]
    simp [hq]
  · rw [if_pos rfl, if_pos rfl, gr_cons]; exact gr_map_dbl hq
theorem ext_case {k : Nat} (hk : k < (extM ms b).length) : k = exz ms b ∨ ∃ q, q < ms.length ∧ k = exi b q := by
  rw [len_extM] at hk
  unfold exz exi
  cases b
  · by_cases h : k = ms.length
    · exact .inl h
    · exact .inr ⟨k, by omega, rfl⟩
  · by_cases h : k = 0
    · exact .inl h
    · exact .inr ⟨k - 1, by omega, by rw [if_pos rfl]; omega⟩
theorem exi_ne {q : Nat} (hq : q < ms.length) : exi b q ≠ exz ms b := by unfold exi exz; cases b <;> simp <;> omega
theorem exi_lt {q : Nat} (hq : q < ms.length) : exi b q < (extM ms b).length := by rw [len_extM]; unfold exi; split <;> omega
theorem exz_lt : exz ms b < (extM ms b).length := by rw [len_extM]; unfold exz; split <;> omega
theorem exi_inj {q r : Nat} (h : exi b q = exi b r) : q = r := by unfold exi at h; split at h <;> omega
section
variable (hm : IsMan ms)
include hm
theorem dbl_row {q : Nat} (hq : q < ms.length) {f : Int} (hf : 0 ≤ f ∧ f < 2 * (nf ms : Int)) : gi (dbl (gr ms q)) f = 2 * gi (gr ms q) (f / 2) + f % 2 ∧ (0 ≤ gi (gr ms q) (f / 2) ∧ gi (gr ms q) (f / 2) < nf ms) := by
  have hl := (hm.syst.row (j := (q : Int)) (by omega) (by omega)).1
  exact ⟨gi_dbl hf.1 (by rw [hl]; exact hf.2), hm.syst.gi hq ⟨by omega, by omega⟩⟩
theorem ext_syst : Syst (2 * nf ms) (extM ms b) := fun m hmm => by
  obtain ⟨k, hk, rfl⟩ := mem_gr hmm
  rcases ext_case hk with rfl | ⟨q, hq, rfl⟩
  · rw [extM_z]
    refine ⟨exch_len _, fun x hx => ?_⟩
    obtain ⟨i, hi, rfl⟩ := in_gi hx
    rw [exch_len] at hi
    rw [gi_exch (by omega) (by omega)]
    unfold tg; split <;> omega
  · rw [extM_i hq]
    have hl := (hm.syst.row (j := (q : Int)) (by omega) (by omega)).1
    have hdl : (dbl (gr ms q)).length = 2 * nf ms := by unfold dbl; rw [dblTo_len, hl]
    refine ⟨hdl, fun x hx => ?_⟩
    obtain ⟨i, hi, rfl⟩ := in_gi hx
    rw [hdl] at hi
    have := dbl_row hm hq (f := i) (by omega)
    omega
theorem ext_full (h5 : ¬ ms.length = 5) (h2 : ¬ 200 < nf ms) : Full (2 * nf ms) (extM ms b) := by
  have r5 := hm.m0.r5
  have f2 := hm.m0.f2
  have hs := ext_syst (b := b) hm
  have hl : (extM ms b).length = ms.length + 1 := len_extM
  have rng : ∀ {x : Int}, 0 ≤ x ∧ x < ((2 * nf ms : Nat) : Int) → 0 ≤ x ∧ x < 2 * (nf ms : Int) := fun {x} hx => ⟨hx.1, by omega⟩
  have free : ∀ k : Nat, k < (extM ms b).length → ∀ x : Int, 0 ≤ x ∧ x < ((2 * nf ms : Nat) : Int) → gi (gr (extM ms b) k) x ≠ x ∧ gi (gr (extM ms b) k) (gi (gr (extM ms b) k) x) = x := fun k hk x hx => by
    rcases ext_case hk with rfl | ⟨q, hq, rfl⟩
    · rw [extM_z]
      have t := tg_two x
      have ht : 0 ≤ tg x ∧ tg x < 2 * (nf ms : Int) := by unfold tg; split <;> omega
      rw [gi_exch hx.1 (rng hx).2, gi_exch ht.1 ht.2]
      exact ⟨t.2.1, t.2.2⟩
    · rw [extM_i hq]
      obtain ⟨e, hv⟩ := dbl_row hm hq (rng hx)
      have hx2 : 0 ≤ x / 2 ∧ x / 2 < (nf ms : Int) := by omega
      have hfr := hm.like.free q hq _ hx2
      have hy : 0 ≤ 2 * gi (gr ms q) (x / 2) + x % 2 ∧ 2 * gi (gr ms q) (x / 2) + x % 2 < 2 * (nf ms : Int) := by omega
      obtain ⟨e', _⟩ := dbl_row hm hq hy
      rw [e, e']
      rw [show (2 * gi (gr ms q) (x / 2) + x % 2) / 2 = gi (gr ms q) (x / 2) by omega, show (2 * gi (gr ms q) (x / 2) + x % 2) % 2 = x % 2 by omega, hfr.2]
      refine ⟨fun e2 => hfr.1 (by omega), by omega⟩
  have comm : ∀ q : Nat, q < ms.length → ∀ x : Int, 0 ≤ x ∧ x < 2 * (nf ms : Int) → gi (dbl (gr ms q)) (gi (exch (nf ms)) x) = gi (exch (nf ms)) (gi (dbl (gr ms q)) x) ∧ gi (dbl (gr ms q)) x ≠ gi (exch (nf ms)) x := fun q hq x hx => by
    obtain ⟨e, hv⟩ := dbl_row hm hq hx
    have hfr := hm.like.free q hq (x / 2) (by omega)
    have ht : 0 ≤ tg x ∧ tg x < 2 * (nf ms : Int) := by unfold tg; split <;> omega
    obtain ⟨e', _⟩ := dbl_row hm hq ht
    have t := tg_two x
    rw [gi_exch hx.1 hx.2, e', e, t.1, gi_exch (by omega) (by omega)]
    refine ⟨by unfold tg; split <;> (split <;> omega), fun e2 => hfr.1 ?_⟩
    have := t.1
    omega
  have far0 : ∀ a k : Nat, a + 2 ≤ k → k < ms.length → ∀ x : Int, 0 ≤ x ∧ x < 2 * (nf ms : Int) → gi (dbl (gr ms k)) (gi (dbl (gr ms a)) x) = gi (dbl (gr ms a)) (gi (dbl (gr ms k)) x) ∧ gi (dbl (gr ms a)) x ≠ gi (dbl (gr ms k)) x := fun a k hak hk x hx => by
    have hx2 : 0 ≤ x / 2 ∧ x / 2 < (nf ms : Int) := by omega
    have hf := hm.like.far a k hak hk _ hx2
    obtain ⟨ea, va⟩ := dbl_row hm (q := a) (by omega) hx
    obtain ⟨ek, vk⟩ := dbl_row hm hk hx
    obtain ⟨eka, _⟩ := dbl_row hm hk (f := 2 * gi (gr ms a) (x / 2) + x % 2) (by omega)
    obtain ⟨eak, _⟩ := dbl_row hm (q := a) (by omega) (f := 2 * gi (gr ms k) (x / 2) + x % 2) (by omega)
    rw [ea, ek, eka, eak, show (2 * gi (gr ms a) (x / 2) + x % 2) / 2 = gi (gr ms a) (x / 2) by omega, show (2 * gi (gr ms a) (x / 2) + x % 2) % 2 = x % 2 by omega, show (2 * gi (gr ms k) (x / 2) + x % 2) / 2 = gi (gr ms k) (x / 2) by omega, show (2 * gi (gr ms k) (x / 2) + x % 2) % 2 = x % 2 by omega, hf.1]
    exact ⟨rfl, fun e2 => hf.2 (by omega)⟩
  refine ⟨⟨by omega, by omega, by omega, hs, free, fun a k hak hk x hx => ?_⟩, fun x h0 hx => ?_⟩
  · have hx' := rng hx
    rcases ext_case (b := b) (ms := ms) (k := a) (by omega) with ha | ⟨p, hp, ha⟩
    · rcases ext_case hk with hk' | ⟨q, hq, hk'⟩
      · omega
      · rw [ha, hk', extM_z, extM_i hq]
        have := comm q hq x hx'
        exact ⟨this.1, fun e => this.2 e.symm⟩
    · rcases ext_case hk with hk' | ⟨q, hq, hk'⟩
      · rw [ha, hk', extM_z, extM_i hp]
        have := comm p hp x hx'
        exact ⟨this.1.symm, this.2⟩
      · rw [ha, hk', extM_i hp, extM_i hq]
        have hpq : p + 2 ≤ q := by unfold exi at ha hk'; split at ha <;> simp_all <;> omega
        exact far0 p q hpq hq x hx'
  · have key : ∀ y : Int, Rch ms 0 y → Rch (extM ms b) 0 (2 * y) := fun y hr => by
      induction hr with
      | refl => exact .refl _
      | @step y m hr hmm ih =>
        have hy := hr.rng hm.syst (by omega)
        obtain ⟨q, hq, rfl⟩ := mem_gr hmm
        have s := Rch.step ih (gr_in (xss := extM ms b) (j := exi b q) (exi_lt hq))
        rw [extM_i hq, (dbl_row hm hq (f := 2 * y) (by omega)).1, show 2 * y / 2 = y by omega, show 2 * y % 2 = 0 by omega, Int.add_zero] at s
        exact s
    have h2x := key (x / 2) (hm.all (by omega) (by omega))
    by_cases hev : x % 2 = 0
    · rwa [show 2 * (x / 2) = x by omega] at h2x
    · have s := Rch.step h2x (gr_in (xss := extM ms b) (j := exz ms b) exz_lt)
      rw [extM_z, gi_exch (by omega) (by omega)] at s
      have : tg (2 * (x / 2)) = x := by unfold tg; split <;> omega
      rwa [this] at s
end
end
end Go.Mem

/- Plain words on lists: the plain law of Extensions: faces, facets, duals. No program in sight. -/
namespace Go.Mem
set_option linter.unusedVariables false
set_option linter.unusedSectionVars false
section
variable {ms : List (List Int)} {b : Bool} (hm : IsMan ms) (h5 : ¬ ms.length = 5) (h2 : ¬ 200 < nf ms)
include hm h5 h2
theorem nf_ext : nf (extM ms b) = 2 * nf ms := nf_full (ext_full hm h5 h2)
theorem ext_man : IsMan (extM ms b) := (ext_full hm h5 h2).isMan (by have := hm.m0.f2; omega)
/-- paths among the doubled flags -/
theorem ext_lift {S B : List (List Int)} (hS : ∀ m ∈ S, ∃ q : Nat, q < ms.length ∧ m = gr ms q ∧ dbl (gr ms q) ∈ B) {u v e : Int} (hu : 0 ≤ u ∧ u < nf ms) (he : 0 ≤ e ∧ e < 2) (hr : Rch S u v) : Rch B (2 * u + e) (2 * v + e) := by
  have hs : Syst (nf ms) S := fun m h => by
    obtain ⟨q, hq, rfl, _⟩ := hS m h
    exact hm.syst _ (gr_in hq)
  induction hr with
  | refl => exact .refl _
  | @step v m hr hmm ih =>
    have hv := hr.rng hs hu
    obtain ⟨q, hq, rfl, hB⟩ := hS m hmm
    have s := Rch.step ih hB
    rw [(dbl_row hm hq (f := 2 * v + e) (by omega)).1, show (2 * v + e) / 2 = v by omega, show (2 * v + e) % 2 = e by omega] at s
    exact s
theorem ext_fac_i {q : Nat} (hq : q < ms.length) : facC (extM ms b) (exi b q) = facC ms q := by
  have hf := ext_full (b := b) hm h5 h2
  have f2 := hm.m0.f2
  unfold facC
  rw [nf_ext hm h5 h2]
  have sA := oth_sym hm q
  have sB : Sym (2 * nf ms) (oth (extM ms b) (exi b q)) := hf.like.sym fun m h => oth_mem h
  have hz : exch (nf ms) ∈ oth (extM ms b) (exi b q) := by
    rw [← extM_z (ms := ms) (b := b)]
    exact (mem_oth_iff (exi_lt hq)).2 ⟨_, exz_lt, fun e => exi_ne (b := b) hq e.symm, rfl⟩
  have hS : ∀ m ∈ oth ms q, ∃ p : Nat, p < ms.length ∧ m = gr ms p ∧ dbl (gr ms p) ∈ oth (extM ms b) (exi b q) := fun m h => by
    obtain ⟨p, hp, hpq, rfl⟩ := (mem_oth_iff hq).1 h
    refine ⟨p, hp, rfl, ?_⟩
    rw [← extM_i (b := b) hp]
    exact (mem_oth_iff (exi_lt hq)).2 ⟨_, exi_lt hp, fun e => hpq (exi_inj e), rfl⟩
  have down : ∀ {x y : Int}, 0 ≤ x ∧ x < ((2 * nf ms : Nat) : Int) → Rch (oth (extM ms b) (exi b q)) x y → Rch (oth ms q) (x / 2) (y / 2) := fun {x y} hx hr => by
    induction hr with
    | refl => exact .refl _
    | @step y m hr hmm ih =>
      have hy := hr.rng sB.syst hx
      obtain ⟨k, hk, hkq, rfl⟩ := (mem_oth_iff (exi_lt hq)).1 hmm
      rcases ext_case hk with rfl | ⟨p, hp, rfl⟩
      · rw [extM_z, gi_exch hy.1 (by omega), (tg_two y).1]; exact ih
      · have d := dbl_row hm hp (f := y) (by omega)
        rw [extM_i hp, d.1, show (2 * gi (gr ms p) (y / 2) + y % 2) / 2 = gi (gr ms p) (y / 2) by omega]
        exact .step ih ((mem_oth_iff hq).2 ⟨p, hp, fun e => hkq (by rw [e]), rfl⟩)
  have l1 := labc_le (g := fun x => x / 2) sB sA (by omega) (by omega) (fun x hx => ⟨by omega, by omega⟩) (fun x y hx hy hr => by
    have s := ext_lift hm h5 h2 hS (u := x / 2) (v := y / 2) (e := x % 2) (by omega) (by omega) hr
    rw [show 2 * (x / 2) + x % 2 = x by omega] at s
    by_cases e : x % 2 = y % 2
    · rwa [show 2 * (y / 2) + x % 2 = y by omega] at s
    · have s2 := Rch.step s hz
      rw [gi_exch (by omega) (by omega)] at s2
      have : tg (2 * (y / 2) + x % 2) = y := by unfold tg; split <;> omega
      rwa [this] at s2)
  have l2 := labc_le (g := fun x => 2 * x) sA sB (by omega) (by omega) (fun x hx => ⟨by omega, by omega⟩) (fun x y hx hy hr => by
    have := down (x := 2 * x) (y := 2 * y) (by omega) hr
    rwa [show 2 * x / 2 = x by omega, show 2 * y / 2 = y by omega] at this)
  omega
theorem ext_fac_z : facC (extM ms b) (exz ms b) = 2 := by
  have hf := ext_full (b := b) hm h5 h2
  have f2 := hm.m0.f2
  unfold facC
  rw [nf_ext hm h5 h2]
  have sB : Sym (2 * nf ms) (oth (extM ms b) (exz ms b)) := hf.like.sym fun m h => oth_mem h
  have hS : ∀ m ∈ ms, ∃ p : Nat, p < ms.length ∧ m = gr ms p ∧ dbl (gr ms p) ∈ oth (extM ms b) (exz ms b) := fun m h => by
    obtain ⟨p, hp, rfl⟩ := mem_gr h
    refine ⟨p, hp, rfl, ?_⟩
    rw [← extM_i (b := b) hp]
    exact (mem_oth_iff exz_lt).2 ⟨_, exi_lt hp, exi_ne hp, rfl⟩
  have par : ∀ {x y : Int}, 0 ≤ x ∧ x < ((2 * nf ms : Nat) : Int) → Rch (oth (extM ms b) (exz ms b)) x y → y % 2 = x % 2 := fun {x y} hx hr => by
    induction hr with
    | refl => rfl
    | @step y m hr hmm ih =>
      have hy := hr.rng sB.syst hx
      obtain ⟨k, hk, hkq, rfl⟩ := (mem_oth_iff exz_lt).1 hmm
      rcases ext_case hk with rfl | ⟨p, hp, rfl⟩
      · exact absurd rfl hkq
      · rw [extM_i hp, (dbl_row hm hp (f := y) (by omega)).1]; omega
  have LB := labs_all sB (by omega)
  have same : ∀ x : Int, 0 ≤ x → x < ((2 * nf ms : Nat) : Int) → gi (labs (2 * nf ms) (oth (extM ms b) (exz ms b))) x = gi (labs (2 * nf ms) (oth (extM ms b) (exz ms b))) (x % 2) := fun x h0 hx => by
    have s := ext_lift hm h5 h2 hS (u := 0) (v := x / 2) (e := x % 2) (by omega) (by omega) (hm.all (by omega) (by omega))
    rw [show 2 * (x / 2) + x % 2 = x by omega, show 2 * (0 : Int) + x % 2 = x % 2 by omega] at s
    exact LB.shut (x % 2) x (by omega) (by omega) (LB.done _ (by omega) (by omega) (by omega)) s
  have d0 := LB.done 0 (by omega) (by omega) (by omega)
  have d1 := LB.done 1 (by omega) (by omega) (by omega)
  have r0 := LB.rng 0 (by omega) (by omega)
  have r1 := LB.rng 1 (by omega) (by omega)
  have ne : gi (labs (2 * nf ms) (oth (extM ms b) (exz ms b))) 0 ≠ gi (labs (2 * nf ms) (oth (extM ms b) (exz ms b))) 1 := fun e => by
    have := par (by omega) (LB.only 0 1 (by omega) (by omega) (by omega) (by omega) d0 e.symm)
    omega
  have hit := LB.hit
  generalize labs (2 * nf ms) (oth (extM ms b) (exz ms b)) = L at *
  generalize labc (2 * nf ms) (oth (extM ms b) (exz ms b)) = c at *
  refine Classical.byContradiction fun hc => ?_
  obtain ⟨x0, a0, _, a1, a2⟩ := hit 0 (by omega) (by omega)
  obtain ⟨x1, b0, _, b1, b2⟩ := hit 1 (by omega) (by omega)
  obtain ⟨x2, c0, _, c1, c2⟩ := hit 2 (by omega) (by omega)
  rw [same x0 a0 a1] at a2
  rw [same x1 b0 b1] at b2
  rw [same x2 c0 c1] at c2
  rcases (show x0 % 2 = 0 ∨ x0 % 2 = 1 by omega) with e0 | e0 <;> rcases (show x1 % 2 = 0 ∨ x1 % 2 = 1 by omega) with e1 | e1 <;> rcases (show x2 % 2 = 0 ∨ x2 % 2 = 1 by omega) with e2 | e2 <;> rw [e0] at a2 <;> rw [e1] at b2 <;> rw [e2] at c2 <;> omega
/-- the facets, or vertex figures, are the maniplex -/
theorem ext_facet : frm (2 * nf ms) (ms.map dbl) 0 = frm (nf ms) ms 0 := by
  have f2 := hm.m0.f2
  have hs := ext_syst (b := true) hm
  obtain ⟨p, hpl, hp⟩ : ∃ p : List Int, p.length = nf ms ∧ ∀ x : Int, 0 ≤ x ∧ x < nf ms → gi p x = 2 * x :=
    ⟨(List.range (nf ms)).map fun x : Nat => 2 * (x : Int), by simp, fun x hx => by rw [gi_range_map hx.1 hx.2]; omega⟩
  have hS : HomS (nf ms) (2 * nf ms) ms (ms.map dbl) p := by
    refine ⟨hm.syst, fun m hmm => hs m (by unfold extM; rw [if_pos rfl]; exact List.mem_cons_of_mem _ hmm), by simp, fun x hx => by rw [hp x hx]; omega, fun a b ha hb e => by rw [hp a ha, hp b hb] at e; omega, fun j hj x hx => ?_⟩
    have hv := hm.syst.gi hj hx
    rw [gr_map_dbl hj, hp _ hv, hp x hx, (dbl_row hm hj (f := 2 * x) (by omega)).1, show 2 * x / 2 = x by omega]
    omega
  have := hS.frm (by omega) (by omega) (f := 0) (by omega)
  rwa [hp 0 (by omega)] at this
end
section
variable {ms : List (List Int)} (hm : IsMan ms)
include hm
/-- the form has the same least form -/
theorem lst_of_frm {A : List (List Int)} (hA : IsMan A) (e : frm (nf A) A 0 = frm (nf ms) ms 0) : lst A = lst ms := by
  have f2 := hm.m0.f2
  have a2 := hA.m0.f2
  exact (lst_same hA hm).1 ((iso_iff hA hm).2 (frm_hom hA hm (f := 0) (g := 0) (by omega) (by omega) e))
/-- both extensions are dual to each other -/
theorem ext_dual (h5 : ¬ ms.length = 5) (h2 : ¬ 200 < nf ms) : lst (extM (dualL ms) true) = lst (dualL (extM ms false)) := by
  have f2 := hm.m0.f2
  obtain ⟨hd, hdl, hdn, _⟩ := duals hm
  have hk := ext_man (b := false) hm h5 h2
  have hkn := nf_ext (b := false) hm h5 h2
  have hE := ext_man (b := true) hd (by omega) (by omega)
  have hEn := nf_ext (b := true) hd (by omega) (by omega)
  obtain ⟨hF, _, hFn, _⟩ := duals hk
  have hrf := hm.revFull
  obtain ⟨hν, hν0⟩ := homS_num hrf.like.syst (by omega) (by omega) hrf.like.r1 (hrf.orbit_len (by omega))
  have hdS : frm (nf ms) ms.reverse 0 = dualL ms := (dualL_yes hm).symm
  rw [hdS] at hν
  generalize numIn (nf ms) (orbit ms.reverse 0) = ν at *
  have hks : Syst (2 * nf ms) (extM ms false).reverse := fun m h => ext_syst (b := false) hm m (List.mem_reverse.1 h)
  have hEs : Syst (2 * nf ms) (extM (dualL ms) true) := by
    have := ext_syst (b := true) hd
    rwa [hdn] at this
  have elen : (extM ms false).reverse.length = ms.length + 1 := by rw [List.length_reverse]; exact len_extM
  obtain ⟨p, hpl, hp⟩ : ∃ p : List Int, p.length = 2 * nf ms ∧ ∀ x : Int, 0 ≤ x ∧ x < ((2 * nf ms : Nat) : Int) → gi p x = 2 * gi ν (x / 2) + x % 2 :=
    ⟨(List.range (2 * nf ms)).map fun x : Nat => 2 * gi ν ((x : Int) / 2) + (x : Int) % 2, by simp, fun x hx => by
      rw [gi_range_map hx.1 hx.2, show ((x.toNat : Nat) : Int) = x by omega]⟩
  have hS : HomS (2 * nf ms) (2 * nf ms) (extM ms false).reverse (extM (dualL ms) true) p := by
    refine ⟨hks, hEs, by rw [elen, len_extM, hdl], fun x hx => ?_, fun a b ha hb e => ?_, fun j hj x hx => ?_⟩
    · have := hν.rng (x / 2) (by omega)
      rw [hp x hx]; omega
    · rw [hp a ha, hp b hb] at e
      have := hν.inj (a / 2) (b / 2) (by omega) (by omega) (by omega)
      omega
    · have hr := hν.rng (x / 2) (by omega)
      rw [elen] at hj
      rw [gr_rev (by rw [len_extM]; omega), len_extM]
      by_cases hj0 : j = 0
      · subst hj0
        have ez : gr (extM (dualL ms) true) (0 : Nat) = exch (nf ms) := by
          have := extM_z (ms := dualL ms) (b := true)
          rwa [hdn] at this
        have ez2 : gr (extM ms false) ((ms.length + 1 - 1 - 0 : Nat) : Int) = exch (nf ms) := extM_z (ms := ms) (b := false)
        have t : 0 ≤ tg x ∧ tg x < 2 * (nf ms : Int) := by unfold tg; split <;> omega
        rw [ez, ez2, gi_exch hx.1 (by omega), hp _ (by omega), hp x hx, gi_exch (by omega) (by omega), (tg_two x).1]
        unfold tg; split <;> (split <;> omega)
      · obtain ⟨q, rfl⟩ : ∃ q, j = q + 1 := ⟨j - 1, by omega⟩
        have hq : q < ms.length := by omega
        have e1 : gr (extM (dualL ms) true) ((q + 1 : Nat) : Int) = dbl (gr (dualL ms) q) := extM_i (ms := dualL ms) (b := true) (by omega)
        have e2 : gr (extM ms false) ((ms.length + 1 - 1 - (q + 1) : Nat) : Int) = dbl (gr ms ((ms.length - 1 - q : Nat) : Int)) := by
          have := extM_i (ms := ms) (b := false) (q := ms.length - 1 - q) (by omega)
          rw [← this]
          congr 1
          show ((ms.length + 1 - 1 - (q + 1) : Nat) : Int) = ((ms.length - 1 - q : Nat) : Int)
          omega
        have d1 := dbl_row hm (q := ms.length - 1 - q) (by omega) (f := x) (by omega)
        have mvq := hν.mv q (by simp; omega) (x / 2) (by omega)
        rw [gr_rev hq] at mvq
        have d2 := dbl_row hd (q := q) (by omega) (f := 2 * gi ν (x / 2) + x % 2) (by omega)
        rw [e1, e2, d1.1, hp _ (by omega), hp x hx, d2.1]
        rw [show (2 * gi (gr ms ((ms.length - 1 - q : Nat) : Int)) (x / 2) + x % 2) / 2 = gi (gr ms ((ms.length - 1 - q : Nat) : Int)) (x / 2) by omega, show (2 * gi (gr ms ((ms.length - 1 - q : Nat) : Int)) (x / 2) + x % 2) % 2 = x % 2 by omega, mvq, show (2 * gi ν (x / 2) + x % 2) / 2 = gi ν (x / 2) by omega, show (2 * gi ν (x / 2) + x % 2) % 2 = x % 2 by omega]
  have hp0 : gi p 0 = 0 := by rw [hp 0 (by omega), show (0 : Int) / 2 = 0 by omega, hν0]; omega
  have e := hS.frm (by omega) (by omega) (f := 0) (by omega)
  rw [hp0] at e
  refine lst_of_frm hF hE ?_
  have hkf := hk.revFull
  have hFe : dualL (extM ms false) = frm (nf (extM ms false)) (extM ms false).reverse 0 := dualL_yes hk
  rw [hEn, hdn, e, hFn, hFe, hkn]
  rw [hkn] at hkf
  exact (frm_frm hkf.like.syst (by omega) (by omega) hkf.like.r1 (hkf.orbit_len (by omega))).symm
end
end Go.Mem

/- Plain words on lists: the plain law of DoubleCovers. No program in sight. -/
namespace Go.Mem
set_option linter.unusedVariables false
set_option linter.unusedSectionVars false
theorem gi_dcv {m : List Int} {f : Int} (h0 : 0 ≤ f) (hf : f < 2 * (m.length : Int)) : gi (dcv m) f = 2 * gi m (f / 2) + 1 - f % 2 := by
  unfold dcv dcvTo
  rw [gi_range_map h0 (by omega)]
  have e1 : ((f.toNat / 2 : Nat) : Int) = f / 2 := by omega
  have e2 : ((f.toNat % 2 : Nat) : Int) = f % 2 := by omega
  rw [e1, e2]
theorem gr_map_dcv {ms : List (List Int)} {q : Nat} (hq : q < ms.length) : gr (ms.map dcv) q = dcv (gr ms q) := by simp [gr, List.getD, hq]
section
variable {ms : List (List Int)} (hm : IsMan ms)
include hm
theorem dcv_row {q : Nat} (hq : q < ms.length) {f : Int} (hf : 0 ≤ f ∧ f < 2 * (nf ms : Int)) : gi (dcv (gr ms q)) f = 2 * gi (gr ms q) (f / 2) + 1 - f % 2 ∧ (0 ≤ gi (gr ms q) (f / 2) ∧ gi (gr ms q) (f / 2) < nf ms) := by
  have hl := (hm.syst.row (j := (q : Int)) (by omega) (by omega)).1
  exact ⟨gi_dcv hf.1 (by rw [hl]; exact hf.2), hm.syst.gi hq ⟨by omega, by omega⟩⟩
theorem dc_syst : Syst (2 * nf ms) (ms.map dcv) := fun m hmm => by
  obtain ⟨q, hq, rfl⟩ := mem_gr hmm
  have hq : q < ms.length := by simpa using hq
  rw [gr_map_dcv hq]
  have hl := (hm.syst.row (j := (q : Int)) (by omega) (by omega)).1
  have hdl : (dcv (gr ms q)).length = 2 * nf ms := by unfold dcv; rw [dcvTo_len, hl]
  refine ⟨hdl, fun x hx => ?_⟩
  obtain ⟨i, hi, rfl⟩ := in_gi hx
  rw [hdl] at hi
  have := dcv_row hm hq (f := i) (by omega)
  omega
theorem dc_like (h2 : ¬ 200 < nf ms) : Like (2 * nf ms) (ms.map dcv) := by
  have r5 := hm.m0.r5
  have r1 := hm.m0.r1
  have hlen : (ms.map dcv).length = ms.length := List.length_map _
  refine ⟨by omega, by omega, by omega, dc_syst hm, fun q hq x hx => ?_, fun a k hak hk x hx => ?_⟩
  · rw [hlen] at hq
    have hx2 : 0 ≤ x / 2 ∧ x / 2 < (nf ms : Int) := by omega
    have hfr := hm.like.free q hq _ hx2
    obtain ⟨e, hv⟩ := dcv_row hm hq (f := x) (by omega)
    obtain ⟨e', _⟩ := dcv_row hm hq (f := 2 * gi (gr ms q) (x / 2) + 1 - x % 2) (by omega)
    rw [gr_map_dcv hq, e, e', show (2 * gi (gr ms q) (x / 2) + 1 - x % 2) / 2 = gi (gr ms q) (x / 2) by omega, hfr.2]
    exact ⟨by omega, by omega⟩
  · rw [hlen] at hk
    have hx2 : 0 ≤ x / 2 ∧ x / 2 < (nf ms : Int) := by omega
    have hf := hm.like.far a k hak hk _ hx2
    obtain ⟨ea, va⟩ := dcv_row hm (q := a) (by omega) (f := x) (by omega)
    obtain ⟨ek, vk⟩ := dcv_row hm hk (f := x) (by omega)
    obtain ⟨eka, _⟩ := dcv_row hm hk (f := 2 * gi (gr ms a) (x / 2) + 1 - x % 2) (by omega)
    obtain ⟨eak, _⟩ := dcv_row hm (q := a) (by omega) (f := 2 * gi (gr ms k) (x / 2) + 1 - x % 2) (by omega)
    rw [gr_map_dcv (q := a) (by omega), gr_map_dcv (q := k) hk, ea, ek, eka, eak, show (2 * gi (gr ms a) (x / 2) + 1 - x % 2) / 2 = gi (gr ms a) (x / 2) by omega, show (2 * gi (gr ms k) (x / 2) + 1 - x % 2) / 2 = gi (gr ms k) (x / 2) by omega, hf.1]
    exact ⟨by omega, fun e2 => hf.2 (by omega)⟩
/-- paths lie above paths, below paths -/
theorem dc_down {S B : List (List Int)} (hB : ∀ m ∈ B, ∃ q : Nat, q < ms.length ∧ m = dcv (gr ms q) ∧ gr ms q ∈ S) {x y : Int} (hx : 0 ≤ x ∧ x < ((2 * nf ms : Nat) : Int)) (hr : Rch B x y) : (0 ≤ y ∧ y < ((2 * nf ms : Nat) : Int)) ∧ Rch S (x / 2) (y / 2) := by
  induction hr with
  | refl => exact ⟨hx, .refl _⟩
  | @step y m hr hmm ih =>
    obtain ⟨q, hq, rfl, hS⟩ := hB m hmm
    have d := dcv_row hm hq (f := y) (by omega)
    rw [d.1]
    refine ⟨by omega, ?_⟩
    rw [show (2 * gi (gr ms q) (y / 2) + 1 - y % 2) / 2 = gi (gr ms q) (y / 2) by omega]
    exact .step ih.2 hS
theorem dc_up {S B : List (List Int)} (hS : ∀ m ∈ S, ∃ q : Nat, q < ms.length ∧ m = gr ms q ∧ dcv (gr ms q) ∈ B) {u v e : Int} (hu : 0 ≤ u ∧ u < nf ms) (he : 0 ≤ e ∧ e < 2) (hr : Rch S u v) : (0 ≤ v ∧ v < nf ms) ∧ ∃ d : Int, (0 ≤ d ∧ d < 2) ∧ Rch B (2 * u + e) (2 * v + d) := by
  induction hr with
  | refl => exact ⟨hu, e, he, .refl _⟩
  | @step v m hr hmm ih =>
    obtain ⟨hv, d, hd, ih⟩ := ih
    obtain ⟨q, hq, rfl, hB⟩ := hS m hmm
    have s := Rch.step ih hB
    have r := dcv_row hm hq (f := 2 * v + d) (by omega)
    rw [show (2 * v + d) / 2 = v by omega, show (2 * v + d) % 2 = d by omega] at r
    rw [r.1] at s
    refine ⟨r.2, 1 - d, by omega, ?_⟩
    rwa [show 2 * gi (gr ms q) v + (1 - d) = 2 * gi (gr ms q) v + 1 - d by omega]
/-- both flags above a flag are changed for each other -/
theorem dc_swap {B : List (List Int)} (hB : ∀ m ∈ B, ∃ q : Nat, q < ms.length ∧ m = dcv (gr ms q)) {x y : Int} (hx : 0 ≤ x ∧ x < ((2 * nf ms : Nat) : Int)) (hr : Rch B x y) : (0 ≤ y ∧ y < ((2 * nf ms : Nat) : Int)) ∧ Rch B (tg x) (tg y) := by
  induction hr with
  | refl => exact ⟨hx, .refl _⟩
  | @step y m hr hmm ih =>
    obtain ⟨hy, ih⟩ := ih
    obtain ⟨q, hq, rfl⟩ := hB m hmm
    have t : 0 ≤ tg y ∧ tg y < 2 * (nf ms : Int) := by unfold tg; split <;> omega
    have s := Rch.step ih hmm
    have d := dcv_row hm hq (f := y) (by omega)
    have d2 := dcv_row hm hq t
    rw [d2.1, (tg_two y).1] at s
    rw [d.1]
    refine ⟨by omega, ?_⟩
    have : tg (2 * gi (gr ms q) (y / 2) + 1 - y % 2) = 2 * gi (gr ms q) (y / 2) + 1 - tg y % 2 := by unfold tg; split <;> (split <;> omega)
    rwa [this]
theorem dc_rows : ∀ m ∈ ms.map dcv, ∃ q : Nat, q < ms.length ∧ m = dcv (gr ms q) := fun m h => by
  obtain ⟨q, hq, rfl⟩ := mem_gr h
  have hq : q < ms.length := by simpa using hq
  exact ⟨q, hq, gr_map_dcv hq⟩
/-- not orientable: connected -/
theorem dc_full (h2 : ¬ 200 < nf ms) (ho : ¬ Ori ms) : Full (2 * nf ms) (ms.map dcv) := by
  have f2 := hm.m0.f2
  have hlike := dc_like hm h2
  have hS : ∀ m ∈ ms, ∃ q : Nat, q < ms.length ∧ m = gr ms q ∧ dcv (gr ms q) ∈ ms.map dcv := fun m h => by
    obtain ⟨q, hq, rfl⟩ := mem_gr h
    exact ⟨q, hq, rfl, List.mem_map_of_mem h⟩
  have hB := dc_rows hm
  -- above each flag one is reached
  have one : ∀ x : Int, 0 ≤ x ∧ x < nf ms → Rch (ms.map dcv) 0 (2 * x) ∨ Rch (ms.map dcv) 0 (2 * x + 1) := fun x hx => by
    obtain ⟨_, d, hd, hr⟩ := dc_up hm hS (u := 0) (e := 0) (by omega) (by omega) (hm.all hx.1 hx.2)
    rcases (show d = 0 ∨ d = 1 by omega) with rfl | rfl
    · exact .inl (by simpa using hr)
    · exact .inr (by simpa using hr)
  refine ⟨hlike, fun x h0 hx => ?_⟩
  have sB : Sym (2 * nf ms) (ms.map dcv) := hlike.sym fun m h => h
  by_cases hb : ∃ y : Int, (0 ≤ y ∧ y < nf ms) ∧ Rch (ms.map dcv) 0 (2 * y) ∧ Rch (ms.map dcv) 0 (2 * y + 1)
  · obtain ⟨y, hy, ha, hb'⟩ := hb
    have h01 : Rch (ms.map dcv) 0 1 := by
      have s := (dc_swap hm hB (by omega) ha).2
      rw [show tg 0 = 1 by decide, show tg (2 * y) = 2 * y + 1 by unfold tg; rw [if_pos (by omega)]] at s
      exact hb'.trans (sB.back 1 _ (by omega) (by omega) s)
    rcases one (x / 2) (by omega) with h | h
    · by_cases e : x % 2 = 0
      · rwa [show 2 * (x / 2) = x by omega] at h
      · have s := (dc_swap hm hB (by omega) h).2
        rw [show tg 0 = 1 by decide, show tg (2 * (x / 2)) = x by unfold tg; rw [if_pos (by omega)]; omega] at s
        exact h01.trans s
    · by_cases e : x % 2 = 1
      · rwa [show 2 * (x / 2) + 1 = x by omega] at h
      · have s := (dc_swap hm hB (by omega) h).2
        rw [show tg 0 = 1 by decide, show tg (2 * (x / 2) + 1) = x by unfold tg; rw [if_neg (by omega)]; omega] at s
        exact h01.trans s
  · exfalso
    refine ho ?_
    classical
    obtain ⟨c, hcl, hc⟩ : ∃ c : List Int, c.length = nf ms ∧ ∀ y : Int, 0 ≤ y → y < nf ms → gi c y = if Rch (ms.map dcv) 0 (2 * y) then 0 else 1 :=
      ⟨(List.range (nf ms)).map fun y : Nat => if Rch (ms.map dcv) 0 (2 * (y : Int)) then (0 : Int) else 1, by simp, fun y h0 hy => by
        rw [gi_range_map h0 hy, show ((y.toNat : Nat) : Int) = y by omega]⟩
    refine ⟨c, ⟨fun y h0 hy => by rw [hc y h0 hy]; split <;> omega, by rw [hc 0 (by omega) (by omega)]; exact if_pos (.refl _), fun q hq y h0 hy => ?_⟩⟩
    have hv := hm.syst.gi hq ⟨h0, hy⟩
    rw [hc _ hv.1 hv.2, hc y h0 hy]
    have hmem : dcv (gr ms q) ∈ ms.map dcv := List.mem_map_of_mem (gr_in hq)
    have step0 : Rch (ms.map dcv) 0 (2 * y) → Rch (ms.map dcv) 0 (2 * gi (gr ms q) y + 1) := fun h => by
      have s := Rch.step h hmem
      have d := dcv_row hm hq (f := 2 * y) (by omega)
      rw [d.1, show 2 * y / 2 = y by omega, show 2 * y % 2 = 0 by omega] at s
      simpa using s
    have step1 : Rch (ms.map dcv) 0 (2 * y + 1) → Rch (ms.map dcv) 0 (2 * gi (gr ms q) y) := fun h => by
      have s := Rch.step h hmem
      have d := dcv_row hm hq (f := 2 * y + 1) (by omega)
      rw [d.1, show (2 * y + 1) / 2 = y by omega, show (2 * y + 1) % 2 = 1 by omega] at s
      rwa [show 2 * gi (gr ms q) y + 1 - 1 = 2 * gi (gr ms q) y by omega] at s
    by_cases h : Rch (ms.map dcv) 0 (2 * y)
    · rw [if_pos h, if_neg fun h' => hb ⟨_, hv, h', step0 h⟩]; omega
    · rw [if_neg h, if_pos (step1 ((one y ⟨h0, hy⟩).resolve_left h))]; omega
end
/-- two above each one -/
def halfL (n : Nat) : List Int := (List.range (2 * n)).map fun f : Nat => (f : Int) / 2
theorem gi_halfL {n : Nat} {f : Int} (h0 : 0 ≤ f) (hf : f < ((2 * n : Nat) : Int)) : gi (halfL n) f = f / 2 := by
  unfold halfL
  rw [gi_range_map h0 hf, show ((f.toNat : Nat) : Int) = f by omega]
section
variable {ms : List (List Int)} (hm : IsMan ms) (h2 : ¬ 200 < nf ms) (ho : ¬ Ori ms)
include hm h2 ho
theorem nf_dc : nf (ms.map dcv) = 2 * nf ms := nf_full (dc_full hm h2 ho)
theorem dc_man : IsMan (ms.map dcv) := (dc_full hm h2 ho).isMan (by have := hm.m0.f2; omega)
theorem dc_hom : Hom (ms.map dcv) ms (halfL (nf ms)) := by
  have hn := nf_dc hm h2 ho
  refine ⟨by rw [hn]; simp [halfL], fun x h0 hx => ?_, fun j hj x h0 hx => ?_⟩
  · rw [hn] at hx; rw [gi_halfL h0 hx]; omega
  · rw [hn] at hx
    have hj : j < ms.length := by simpa using hj
    have d := dcv_row hm hj (f := x) (by omega)
    rw [gr_map_dcv hj, d.1, gi_halfL (by omega) (by omega), gi_halfL h0 hx]
    omega
theorem dc_cov : IsCov (ms.map dcv) ms (halfL (nf ms)) := (dc_hom hm h2 ho).isCov (dc_man hm h2 ho) hm (List.length_map _)
theorem dc_norm : isNorm (ms.map dcv) ms (halfL (nf ms)) = true := by
  have hn := nf_dc hm h2 ho
  have hK := dc_man hm h2 ho
  have hc := dc_cov hm h2 ho
  have f2 := hm.m0.f2
  have hf := fibre_size hK hm hc
  rw [hn] at hf
  have hp : (plc (halfL (nf ms)) 0).length = 2 := by
    have : nf ms * (plc (halfL (nf ms)) 0).length = nf ms * 2 := by omega
    exact Nat.eq_of_mul_eq_mul_left (by omega) this
  have hcc : covC (ms.map dcv) ms (halfL (nf ms)) = 0 := by
    unfold covC
    rw [if_pos ⟨hK, hm⟩, if_pos hc]
  rw [isNorm_yes hcc, hp]
  refine decide_eq_true (Nat.le_antisymm ?_ ?_)
  · rw [← hp, ← deck_fibre hK (by rw [hc.1]), gi_halfL (by omega) (by omega)]
    exact List.length_filterMap_le _ _
  · have hid := Hom.idl hK
    have hsw : Hom (ms.map dcv) (ms.map dcv) (exch (nf ms)) := by
      refine ⟨by rw [hn, exch_len], fun x h0 hx => ?_, fun j hj x h0 hx => ?_⟩
      · rw [hn] at hx
        rw [gi_exch h0 (by omega), hn]; unfold tg; split <;> omega
      · rw [hn] at hx
        have hj : j < ms.length := by simpa using hj
        have d := dcv_row hm hj (f := x) (by omega)
        have t : 0 ≤ tg x ∧ tg x < 2 * (nf ms : Int) := by unfold tg; split <;> omega
        have d2 := dcv_row hm hj t
        rw [gr_map_dcv hj, d.1, gi_exch (by omega) (by omega), gi_exch h0 (by omega), d2.1, (tg_two x).1]
        unfold tg; split <;> (split <;> omega)
    have g0 : gi (idl (nf (ms.map dcv))) 0 = 0 := gi_idl (by omega) (by omega)
    have g1 : gi (exch (nf ms)) 0 = 1 := by rw [gi_exch (by omega) (by omega)]; decide
    have key := List.Nodup.length_le_of_subset (l₁ := [idl (nf (ms.map dcv)), exch (nf ms)]) (l₂ := deck (ms.map dcv) (halfL (nf ms))) (by
      simp only [List.nodup_cons, List.mem_singleton, List.not_mem_nil, not_false_eq_true, List.nodup_nil, and_true]
      intro e
      rw [e, g1] at g0
      exact absurd g0 (by decide)) (fun p hp => by
      have hz : gi (halfL (nf ms)) 0 = 0 := by rw [gi_halfL (by omega) (by omega)]; decide
      simp only [List.mem_cons, List.not_mem_nil, or_false] at hp
      unfold deck
      refine List.mem_filter.2 ⟨?_, ?_⟩
      · rcases hp with rfl | rfl
        · exact (mem_auts hK).2 hid
        · exact (mem_auts hK).2 hsw
      · rcases hp with rfl | rfl
        · rw [g0]; exact decide_eq_true rfl
        · rw [g1, gi_halfL (by omega) (by omega), hz]; decide)
    simpa using key
theorem dc_ori : Ori (ms.map dcv) := by
  have hn := nf_dc hm h2 ho
  have f2 := hm.m0.f2
  obtain ⟨c, hcl, hc⟩ : ∃ c : List Int, c.length = 2 * nf ms ∧ ∀ y : Int, 0 ≤ y → y < ((2 * nf ms : Nat) : Int) → gi c y = y % 2 :=
    ⟨(List.range (2 * nf ms)).map fun y : Nat => (y : Int) % 2, by simp, fun y h0 hy => by
      rw [gi_range_map h0 hy, show ((y.toNat : Nat) : Int) = y by omega]⟩
  refine ⟨c, ⟨fun y h0 hy => ?_, ?_, fun q hq y h0 hy => ?_⟩⟩
  · rw [hn] at hy; rw [hc y h0 hy]; omega
  · rw [hc 0 (by omega) (by omega)]; decide
  · rw [hn] at hy
    have hq : q < ms.length := by simpa using hq
    have d := dcv_row hm hq (f := y) (by omega)
    rw [gr_map_dcv hq, d.1, hc _ (by omega) (by omega), hc y h0 hy]
    omega
end
end Go.Mem

/- Plain words on lists: the faces of double covers. No program in sight. -/
namespace Go.Mem
set_option linter.unusedVariables false
set_option linter.unusedSectionVars false
/-- k letters, p and q in turn -/
def alt2 (ms : List (List Int)) : Nat → Nat → Nat → Int → Int
  | _, _, 0, u => u
  | p, q, k + 1, u => gi (gr ms p) (alt2 ms q p k u)
theorem alt2_in (ms : List (List Int)) : ∀ (k p q : Nat) (u : Int), alt2 ms p q (k + 1) u = alt2 ms p q k (gi (gr ms (if k % 2 = 0 then p else q : Nat)) u)
  | 0, p, q, u => rfl
  | k + 1, p, q, u => by
    show gi (gr ms p) (alt2 ms q p (k + 1) u) = gi (gr ms p) (alt2 ms q p k _)
    rw [alt2_in ms k q p u]
    have : (if k % 2 = 0 then q else p) = (if (k + 1) % 2 = 0 then p else q) := by split <;> (split <;> omega)
    rw [this]
section
variable {ms : List (List Int)} (hm : IsMan ms)
include hm
theorem alt2_rng : ∀ (k : Nat) {p q : Nat} {u : Int}, p < ms.length → q < ms.length → 0 ≤ u ∧ u < nf ms → 0 ≤ alt2 ms p q k u ∧ alt2 ms p q k u < nf ms
  | 0, _, _, _, _, _, hu => hu
  | k + 1, p, q, u, hp, hq, hu => hm.syst.gi hp (alt2_rng k hq hp hu)
/-- an odd number of letters keeps no flag -/
theorem alt2_odd : ∀ (k : Nat) {p q : Nat} {u : Int}, p < ms.length → q < ms.length → 0 ≤ u ∧ u < nf ms → alt2 ms p q (2 * k + 1) u ≠ u
  | 0, p, q, u, hp, hq, hu => (hm.like.free p hp u hu).1
  | k + 1, p, q, u, hp, hq, hu => fun e => by
    have e1 : alt2 ms p q (2 * (k + 1) + 1) u = gi (gr ms p) (alt2 ms q p (2 * k + 1) (gi (gr ms p) u)) := by
      show gi (gr ms p) (alt2 ms q p (2 * k + 1 + 1) u) = _
      rw [alt2_in ms (2 * k + 1) q p u, if_neg (by omega)]
    have hpu := hm.syst.gi hp hu
    have hr := alt2_rng hm (2 * k + 1) hq hp hpu
    have e2 := congrArg (gi (gr ms p)) (e1.symm.trans e)
    rw [(hm.like.free p hp _ hr).2] at e2
    exact alt2_odd k hq hp hpu e2
theorem othK_mem {i : Nat} (hi : i < ms.length) : ∀ m ∈ oth (ms.map dcv) i, ∃ q : Nat, q < ms.length ∧ m = dcv (gr ms q) ∧ gr ms q ∈ oth ms i ∧ q ≠ i := fun m h => by
  obtain ⟨q, hq, hqi, rfl⟩ := (mem_oth_iff (by simpa using hi)).1 h
  have hq : q < ms.length := by simpa using hq
  exact ⟨q, hq, gr_map_dcv hq, (mem_oth_iff hi).2 ⟨q, hq, hqi, rfl⟩, hqi⟩
theorem oth_memK {i : Nat} (hi : i < ms.length) : ∀ m ∈ oth ms i, ∃ q : Nat, q < ms.length ∧ m = gr ms q ∧ dcv (gr ms q) ∈ oth (ms.map dcv) i := fun m h => by
  obtain ⟨q, hq, hqi, rfl⟩ := (mem_oth_iff hi).1 h
  refine ⟨q, hq, rfl, ?_⟩
  rw [← gr_map_dcv hq]
  exact (mem_oth_iff (by simpa using hi)).2 ⟨q, by simpa using hq, hqi, rfl⟩
/-- paths that avoid the move i, for rank 3 -/
theorem dc_alt (h3 : ms.length = 3) {i p q : Nat} (hi : i < 3) (hp : p < 3) (hq : q < 3) (hall : ∀ j, j < 3 → j ≠ i → j = p ∨ j = q) {u d f : Int} (hu : 0 ≤ u ∧ u < nf ms) (hd : 0 ≤ d ∧ d < 2) (hr : Rch (oth (ms.map dcv) i) (2 * u + d) f) :
    (0 ≤ f ∧ f < 2 * (nf ms : Int)) ∧ ∃ k : Nat, f % 2 = (d + k) % 2 ∧ (f / 2 = alt2 ms p q k u ∨ f / 2 = alt2 ms q p k u) := by
  induction hr with
  | refl => exact ⟨by omega, 0, by omega, .inl (by show (2 * u + d) / 2 = u; omega)⟩
  | @step f m hr hmm ih =>
    obtain ⟨hf, k, hk, hw⟩ := ih
    obtain ⟨j, hj, rfl, _, hji⟩ := othK_mem hm (by omega) m hmm
    have e := dcv_row hm hj hf
    rw [e.1]
    have e2 : (2 * gi (gr ms j) (f / 2) + 1 - f % 2) / 2 = gi (gr ms j) (f / 2) := by omega
    refine ⟨by omega, ?_⟩
    rw [e2]
    -- a letter more, or one less
    have key : ∀ a b : Nat, a < 3 → b < 3 → ∀ c : Nat, (c = a ∨ c = b) → f / 2 = alt2 ms a b k u → ∃ k' : Nat, ((k' : Int) = k + 1 ∨ (k' : Int) = k - 1) ∧ (gi (gr ms c) (f / 2) = alt2 ms a b k' u ∨ gi (gr ms c) (f / 2) = alt2 ms b a k' u) := fun a b ha hb c hc h => by
      rcases hc with rfl | rfl
      · cases k with
        | zero => exact ⟨1, .inl (by omega), .inl (by rw [h]; rfl)⟩
        | succ k =>
          refine ⟨k, .inr (by omega), .inr ?_⟩
          rw [h]
          exact (hm.like.free c (by omega) _ (alt2_rng hm k (by omega) (by omega) hu)).2
      · exact ⟨k + 1, .inl (by omega), .inr (by rw [h]; rfl)⟩
    rcases hw with h | h
    · obtain ⟨k', h1, h2⟩ := key p q hp hq j (hall j (by omega) hji) h
      exact ⟨k', by omega, h2⟩
    · obtain ⟨k', h1, h2⟩ := key q p hq hp j (hall j (by omega) hji).symm h
      exact ⟨k', by omega, h2.symm⟩
theorem dc_apart (h3 : ms.length = 3) {i : Nat} (hi : i < 3) {u d : Int} (hu : 0 ≤ u ∧ u < nf ms) (hd : 0 ≤ d ∧ d < 2) : ¬ Rch (oth (ms.map dcv) i) (2 * u + d) (2 * u + (1 - d)) := fun hr => by
  obtain ⟨p, q, hp, hq, hall⟩ : ∃ p q : Nat, p < 3 ∧ q < 3 ∧ ∀ j, j < 3 → j ≠ i → j = p ∨ j = q := by
    rcases q3 hi with rfl | rfl | rfl
    · exact ⟨1, 2, by omega, by omega, fun j h1 h2 => by omega⟩
    · exact ⟨0, 2, by omega, by omega, fun j h1 h2 => by omega⟩
    · exact ⟨0, 1, by omega, by omega, fun j h1 h2 => by omega⟩
  obtain ⟨_, k, hk, hw⟩ := dc_alt hm h3 hi hp hq hall hu hd hr
  have e : (2 * u + (1 - d)) / 2 = u := by omega
  rw [e] at hw
  obtain ⟨j, rfl⟩ : ∃ j : Nat, k = 2 * j + 1 := ⟨(k - 1) / 2, by omega⟩
  rcases hw with h | h
  · exact alt2_odd hm j (by omega) (by omega) hu h.symm
  · exact alt2_odd hm j (by omega) (by omega) hu h.symm
end
section
variable {ms : List (List Int)} (hm : IsMan ms) (h2 : ¬ 200 < nf ms) (ho : ¬ Ori ms)
include hm h2 ho
/-- the numbers of faces -/
theorem dc_fac {i : Nat} (hi : i < ms.length) : facC ms i ≤ facC (ms.map dcv) i ∧ facC (ms.map dcv) i ≤ 2 * facC ms i ∧ (ms.length = 3 → facC (ms.map dcv) i = 2 * facC ms i) := by
  have hn := nf_dc hm h2 ho
  have hK := dc_man hm h2 ho
  have f2 := hm.m0.f2
  have LB := facL_all hK i
  have LA := facL_all hm i
  rw [hn] at LB
  have sA := oth_sym hm i
  have sB := oth_sym hK i
  rw [hn] at sB
  have hB := othK_mem hm hi
  have hB' : ∀ m ∈ oth (ms.map dcv) i, ∃ q : Nat, q < ms.length ∧ m = dcv (gr ms q) ∧ gr ms q ∈ oth ms i := fun m h => by
    obtain ⟨q, a, b, c, _⟩ := hB m h
    exact ⟨q, a, b, c⟩
  have hS := oth_memK hm hi
  have down : ∀ {x y : Int}, 0 ≤ x ∧ x < ((2 * nf ms : Nat) : Int) → Rch (oth (ms.map dcv) i) x y → Rch (oth ms i) (x / 2) (y / 2) := fun {x y} hx hr => (dc_down hm hB' hx hr).2
  have c0 := LA.c0
  have d0 := LB.c0
  -- one flag for each face
  have hex : ∀ o : Nat, ∃ x : Int, o < (facC ms i).toNat → 0 ≤ x ∧ x < nf ms ∧ gi (facL ms i) x = o := fun o => by
    by_cases h : o < (facC ms i).toNat
    · obtain ⟨x, a, _, b, c⟩ := LA.hit o (by omega) (by omega)
      exact ⟨x, fun _ => ⟨a, b, c⟩⟩
    · exact ⟨0, fun h' => absurd h' h⟩
  obtain ⟨s, hs⟩ := Classical.axiomOfChoice hex
  have fl : ∀ t : Nat, t < 2 * (facC ms i).toNat → (0 ≤ s (t / 2) ∧ s (t / 2) < nf ms ∧ gi (facL ms i) (s (t / 2)) = ((t / 2 : Nat) : Int)) := fun t ht => hs (t / 2) (by omega)
  refine ⟨?_, ?_, fun h3 => ?_⟩
  · have := labc_le (g := fun x => 2 * x) sA sB (by omega) (by omega) (fun x hx => ⟨by omega, by omega⟩) (fun x y hx hy hr => by
      have := down (x := 2 * x) (y := 2 * y) (by omega) hr
      rwa [show 2 * x / 2 = x by omega, show 2 * y / 2 = y by omega] at this)
    show labc (nf ms) (oth ms i) ≤ labc (nf (ms.map dcv)) (oth (ms.map dcv) i)
    rw [hn]; exact this
  · have key := all_le (n := (facC (ms.map dcv) i).toNat) (O := (List.range (2 * (facC ms i).toNat)).map fun t : Nat => gi (facL (ms.map dcv) i) (2 * s (t / 2) + ((t % 2 : Nat) : Int))) fun t h0 ht => by
      obtain ⟨f, a, _, b, c⟩ := LB.hit t (by omega) (by omega)
      have hf2 : 0 ≤ f / 2 ∧ f / 2 < (nf ms : Int) := by omega
      have hl := LA.rng (f / 2) hf2.1 hf2.2
      have hl0 := LA.done (f / 2) hf2.1 hf2.2 hf2.2
      obtain ⟨o, ho'⟩ : ∃ o : Nat, gi (facL ms i) (f / 2) = o := ⟨(gi (facL ms i) (f / 2)).toNat, by omega⟩
      obtain ⟨x0, x1, x2⟩ := hs o (by omega)
      have hr := LA.only (f / 2) (s o) hf2.1 hf2.2 x0 x1 hl0 (by rw [x2, ho'])
      obtain ⟨_, d, hd, hr2⟩ := dc_up hm hS (u := f / 2) (e := f % 2) hf2 (by omega) hr
      rw [show 2 * (f / 2) + f % 2 = f by omega] at hr2
      have hlab := LB.shut f _ a b (LB.done f a b b) hr2
      refine List.mem_map.2 ⟨2 * o + d.toNat, List.mem_range.2 (by omega), ?_⟩
      rw [show (2 * o + d.toNat) / 2 = o by omega, show (((2 * o + d.toNat) % 2 : Nat) : Int) = d by omega, hlab, c]
    simp at key
    omega
  · have hnd : ((List.range (2 * (facC ms i).toNat)).map fun t : Nat => gi (facL (ms.map dcv) i) (2 * s (t / 2) + ((t % 2 : Nat) : Int))).Nodup := by
      refine List.pairwise_map.2 (List.Pairwise.imp_of_mem (fun {a b} ha hb hab e => hab ?_) List.nodup_range)
      have ha := List.mem_range.1 ha
      have hb := List.mem_range.1 hb
      obtain ⟨a0, a1, a2⟩ := fl a ha
      obtain ⟨b0, b1, b2⟩ := fl b hb
      have hr := LB.only (2 * s (a / 2) + ((a % 2 : Nat) : Int)) (2 * s (b / 2) + ((b % 2 : Nat) : Int)) (by omega) (by omega) (by omega) (by omega) (LB.done _ (by omega) (by omega) (by omega)) e.symm
      have hr2 := down (by omega) hr
      rw [show (2 * s (a / 2) + ((a % 2 : Nat) : Int)) / 2 = s (a / 2) by omega, show (2 * s (b / 2) + ((b % 2 : Nat) : Int)) / 2 = s (b / 2) by omega] at hr2
      have hlab := LA.shut _ _ a0 a1 (by omega) hr2
      have hab2 : a / 2 = b / 2 := by omega
      by_cases hpar : a % 2 = b % 2
      · omega
      · exfalso
        rw [← hab2, show ((b % 2 : Nat) : Int) = 1 - ((a % 2 : Nat) : Int) by omega] at hr
        exact dc_apart hm h3 (by omega) ⟨a0, a1⟩ (by omega) hr
    have h1 := nodup_le (n := (facC (ms.map dcv) i).toNat) hnd fun y hy => by
      obtain ⟨t, ht, rfl⟩ := List.mem_map.1 hy
      obtain ⟨a0, a1, a2⟩ := fl t (List.mem_range.1 ht)
      have := LB.done (2 * s (t / 2) + ((t % 2 : Nat) : Int)) (by omega) (by omega) (by omega)
      have := (LB.rng (2 * s (t / 2) + ((t % 2 : Nat) : Int)) (by omega) (by omega)).2
      omega
    have key := all_le (n := (facC (ms.map dcv) i).toNat) (O := (List.range (2 * (facC ms i).toNat)).map fun t : Nat => gi (facL (ms.map dcv) i) (2 * s (t / 2) + ((t % 2 : Nat) : Int))) fun t h0 ht => by
      obtain ⟨f, a, _, b, c⟩ := LB.hit t (by omega) (by omega)
      have hf2 : 0 ≤ f / 2 ∧ f / 2 < (nf ms : Int) := by omega
      have hl := LA.rng (f / 2) hf2.1 hf2.2
      have hl0 := LA.done (f / 2) hf2.1 hf2.2 hf2.2
      obtain ⟨o, ho'⟩ : ∃ o : Nat, gi (facL ms i) (f / 2) = o := ⟨(gi (facL ms i) (f / 2)).toNat, by omega⟩
      obtain ⟨x0, x1, x2⟩ := hs o (by omega)
      have hr := LA.only (f / 2) (s o) hf2.1 hf2.2 x0 x1 hl0 (by rw [x2, ho'])
      obtain ⟨_, d, hd, hr2⟩ := dc_up hm hS (u := f / 2) (e := f % 2) hf2 (by omega) hr
      rw [show 2 * (f / 2) + f % 2 = f by omega] at hr2
      have hlab := LB.shut f _ a b (LB.done f a b b) hr2
      refine List.mem_map.2 ⟨2 * o + d.toNat, List.mem_range.2 (by omega), ?_⟩
      rw [show (2 * o + d.toNat) / 2 = o by omega, show (((2 * o + d.toNat) % 2 : Nat) : Int) = d by omega, hlab, c]
    simp at h1 key
    omega
/-- the faces below faces -/
theorem dc_face {i : Nat} (hi : i < ms.length) : facMC (ms.map dcv) ms (halfL (nf ms)) i = 0 ∧ ((facM (ms.map dcv) ms (halfL (nf ms)) i).length : Int) = facC (ms.map dcv) i ∧ ∀ e : Int, 0 ≤ e → e < facC ms i → e ∈ facM (ms.map dcv) ms (halfL (nf ms)) i := by
  have hn := nf_dc hm h2 ho
  have hK := dc_man hm h2 ho
  have hc := dc_cov hm h2 ho
  have f2 := hm.m0.f2
  have LB := facL_all hK i
  have LA := facL_all hm i
  rw [hn] at LB
  have hcc : covC (ms.map dcv) ms (halfL (nf ms)) = 0 := by
    unfold covC
    rw [if_pos ⟨hK, hm⟩, if_pos hc]
  have hB' : ∀ m ∈ oth (ms.map dcv) i, ∃ q : Nat, q < ms.length ∧ m = dcv (gr ms q) ∧ gr ms q ∈ oth ms i := fun m h => by
    obtain ⟨q, a, b, c, _⟩ := othK_mem hm hi m h
    exact ⟨q, a, b, c⟩
  obtain ⟨e1, e2⟩ := facM_3 (i := (i : Int)) hcc (by simp; omega)
  have d0 := LB.c0
  refine ⟨e2, by rw [e1, length_laidTo]; omega, fun e h0 he => ?_⟩
  rw [e1, hn]
  have hll := LB.len
  obtain ⟨x, x0, _, x1, x2⟩ := LA.hit e h0 he
  have lab : ∀ f : Int, 0 ≤ f → f < ((2 * nf ms : Nat) : Int) → 0 ≤ gi (facL (ms.map dcv) i) f ∧ gi (facL (ms.map dcv) i) f < ((facC (ms.map dcv) i).toNat : Int) := fun f h0 hf => by
    have := LB.done f h0 hf hf
    have := (LB.rng f h0 hf).2
    omega
  have g := gi_laidTo (c := (facC (ms.map dcv) i).toNat) (L := facL (ms.map dcv) i) (v := fun f : Nat => gi (facL ms i) (gi (halfL (nf ms)) f)) (fun j hj => lab j (by omega) (by omega)) (fun a b ha hb h => by
    have hr := LB.only a b (by omega) (by omega) (by omega) (by omega) (lab a (by omega) (by omega)).1 h.symm
    have hd := (dc_down hm hB' (by omega) hr).2
    show gi (facL ms i) (gi (halfL (nf ms)) a) = gi (facL ms i) (gi (halfL (nf ms)) b)
    rw [gi_halfL (by omega) (by omega), gi_halfL (by omega) (by omega)]
    exact (LA.shut _ _ (by omega) (by omega) (LA.done _ (by omega) (by omega) (by omega)) hd).symm) (2 * nf ms) (by omega) (2 * x).toNat (by omega)
  have h2x : (((2 * x).toNat : Nat) : Int) = 2 * x := by omega
  rw [h2x, gi_halfL (by omega) (by omega), show 2 * x / 2 = x by omega, x2] at g
  rw [← g]
  have hl := lab (2 * x) (by omega) (by omega)
  exact gi_mem hl.1 (by rw [length_laidTo]; exact hl.2)
end
end Go.Mem
