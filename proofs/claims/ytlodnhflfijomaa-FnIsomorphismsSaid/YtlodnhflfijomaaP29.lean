/- Plain words on lists: orbits of flags are all as large as there are automorphisms. No program in sight. -/
import Derived.Test.YtlodnhflfijomaaPC
import Derived.Test.YtlodnhflfijomaaPB
namespace Go.Mem
set_option linter.unusedVariables false
section
variable {ms ks : List (List Int)}
theorem covers_nodup (hm : IsMan ms) (hk : IsMan ks) : ∀ n : Nat, n ≤ nf ks → (covers ms ks n).Nodup
  | 0, _ => by simp [covers]
  | n + 1, h => by
    have ih := covers_nodup hm hk n (by omega)
    cases e : mapT ms ks n with
    | none => rw [covers_none e]; exact ih
    | some p =>
      rw [covers_some e, List.nodup_append]
      refine ⟨ih, by simp, fun a ha b hb hab => ?_⟩
      simp at hb
      subst hb hab
      have h1 := ((mapT_iff hm hk (flag := (n : Int)) (by omega)).1 e).2.2
      have hex : ∃ f : Nat, f < n ∧ mapT ms ks f = some a := by
        have := List.mem_filterMap.1 ha
        obtain ⟨f, hf, h2⟩ := this
        exact ⟨f, List.mem_range.1 hf, h2⟩
      obtain ⟨f, hf, h2⟩ := hex
      have h3 := ((mapT_iff hm hk (flag := (f : Int)) (by omega)).1 h2).2.2
      omega
theorem auts_nodup (hm : IsMan ms) : (auts ms).Nodup := covers_nodup hm hm _ (Nat.le_refl _)
/-- the flags of an orbit -/
theorem mem_class (hm : IsMan ms) {x y : Int} (hx : 0 ≤ x ∧ x < nf ms) (hy : 0 ≤ y ∧ y < nf ms) : gi (labs (nf ms) (auts ms)) y = gi (labs (nf ms) (auts ms)) x ↔ ∃ p ∈ auts ms, gi p x = y := by
  have hs := auts_sym hm
  have h4 := hm.m0.f400
  have hL := labs_all hs (by omega)
  have h0 := hL.done x hx.1 hx.2 hx.2
  constructor
  · intro e
    have hr := hL.only x y hx.1 hx.2 hy.1 hy.2 h0 e
    obtain ⟨p, hp, e2⟩ := (auts_rch hm hx).1 hr
    exact ⟨p, (mem_auts hm).2 hp, e2⟩
  · rintro ⟨p, hp, rfl⟩
    exact hL.shut x _ hx.1 hx.2 h0 ((auts_rch hm hx).2 ⟨p, (mem_auts hm).1 hp, rfl⟩)
theorem class_size (hm : IsMan ms) {x : Int} (hx : 0 ≤ x ∧ x < nf ms) : (plc (labs (nf ms) (auts ms)) (gi (labs (nf ms) (auts ms)) x)).length = (auts ms).length := by
  have h4 := hm.m0.f400
  have hL := labs_all (auts_sym hm) (by omega)
  have hA : ((auts ms).map fun p => gi p x).Nodup := by
    refine List.pairwise_map.2 ((List.nodup_iff_pairwise_ne.1 (auts_nodup hm)).imp_of_mem fun {a b} ha hb hne e => hne ?_)
    exact Hom.same hm ((mem_auts hm).1 ha) ((mem_auts hm).1 hb) hx e
  have hlen : ((auts ms).map fun p => gi p x).length = (auts ms).length := by simp
  have h1 := List.Nodup.length_le_of_subset hA (l₂ := plc (labs (nf ms) (auts ms)) (gi (labs (nf ms) (auts ms)) x)) (fun y hy => by
    obtain ⟨p, hp, rfl⟩ := List.mem_map.1 hy
    have hr := ((mem_auts hm).1 hp).rng x hx.1 hx.2
    exact mem_plc.2 ⟨hr.1, by rw [hL.len]; exact hr.2, (mem_class hm hx hr).2 ⟨p, hp, rfl⟩⟩)
  have h2 := List.Nodup.length_le_of_subset (plc_nodup (labs (nf ms) (auts ms)) (gi (labs (nf ms) (auts ms)) x)) (l₂ := (auts ms).map fun p => gi p x) (fun y hy => by
    obtain ⟨y0, y1, y2⟩ := mem_plc.1 hy
    rw [hL.len] at y1
    obtain ⟨p, hp, e⟩ := (mem_class hm hx ⟨y0, y1⟩).1 y2
    exact List.mem_map.2 ⟨p, hp, e⟩)
  omega
theorem aut_times (hm : IsMan ms) : ((auts ms).length : Int) * labc (nf ms) (auts ms) = nf ms := by
  have h4 := hm.m0.f400
  have hL := labs_all (auts_sym hm) (by omega)
  have hc := hL.c0
  have hs := sum_cnt (k := (labc (nf ms) (auts ms)).toNat) (labs (nf ms) (auts ms)) (fun x hx => by
    obtain ⟨i, hi, rfl⟩ := in_gi hx
    rw [hL.len] at hi
    have h1 := hL.rng i (by omega) (by omega)
    have h2 := hL.done i (by omega) (by omega) (by omega)
    omega)
  rw [sumTo_const (c := (auts ms).length) (fun y hy => by
    obtain ⟨x, x0, _, x1, x2⟩ := hL.hit y (by omega) (by omega)
    rw [← plc_cnt, ← x2]
    exact class_size hm ⟨x0, x1⟩), hL.len] at hs
  rw [Int.mul_comm]
  have : (((labc (nf ms) (auts ms)).toNat * (auts ms).length : Nat) : Int) = (nf ms : Int) := by rw [hs]
  rw [Int.natCast_mul] at this
  rw [show (((labc (nf ms) (auts ms)).toNat : Nat) : Int) = labc (nf ms) (auts ms) by omega] at this
  exact this
theorem autTo_of (hm : IsMan ms) {p : List Int} (hp : Hom ms ms p) : autTo ms (gi p 0) = p ∧ autToC ms (gi p 0) = 0 := by
  have h2 := hm.m0.f2
  have hr := hp.rng 0 (by omega) (by omega)
  have e : mapTo ms ms (gi p 0) = some p := Hom.map hm hm rfl hp
  have := autTo_4 hm hr (by rw [e]; rfl)
  rw [e] at this
  exact this
end
end Go.Mem
