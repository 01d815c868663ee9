/- Contracts: cycles of a permutation, orders; PetrieLengths, WordPeriod, on both sides. -/
import Derived.Test.YtablpijnjkncfaaGreatF31
import Derived.Test.YtablpijnjkncfaaGreatPD
import Derived.Test.YtablpijnjkncfaaGreatRp
namespace Go.Mem
open Go.RowKit
set_option linter.unusedVariables false
section
variable {w w' : World} {B B' E : Nat} {T U T' : TypeId} {v u : Value} {vs : List Value} {xss : List (List Int)}
/-- what is of another type is written -/
theorem OM.kept_type (h : OM w B E T U v xss) (ho : Own w B' T' u vs) (h1 : T ≠ T') (h2 : T' ≠ U) (hg : w.grownBy w' u.ownBlock) : OM w' B E T U v xss := by
  obtain ⟨us, hu1, hu2⟩ := h.rws
  exact (hu2.turn' ho h2 hg).om (hu1.kept hg (hu1.apart_type ho h1))
theorem RL.one {x : Value} {xs : List Int} (h : Own w B T v [x]) (hx : IL w x xs) : RL w v [xs] := by
  refine ⟨[x], h.rd, rfl, fun i a ys ha hy => ?_⟩
  match i, ha, hy with
  | 0, ha, hy => simp at ha hy; subst ha hy; exact hx
  | i + 1, ha, hy => simp at ha
end
/-- two neighbours are exchanged -/
theorem swap_perm {ys : List Int} {k : Nat} (h0 : 0 < k) (hk : k < ys.length) : (seti (seti ys k (gi ys (k - 1 : Nat))) ((k - 1 : Nat) : Int) (gi ys k)).Perm ys := by
  have e1 : ys = ys.take (k - 1) ++ [gi ys (k - 1 : Nat), gi ys k] ++ ys.drop (k + 1) := by
    have h1 := take_gi (xs := ys) (i := k) hk
    have h2 := take_gi (xs := ys) (i := k - 1) (by omega)
    rw [show k - 1 + 1 = k by omega] at h2
    rw [h2] at h1
    conv => lhs; rw [← List.take_append_drop (k + 1) ys, h1]
    simp
  have e2 : seti (seti ys k (gi ys (k - 1 : Nat))) ((k - 1 : Nat) : Int) (gi ys k) = ys.take (k - 1) ++ [gi ys k, gi ys (k - 1 : Nat)] ++ ys.drop (k + 1) := by
    refine list_ext_gi (by simp [seti]; omega) fun x h0x hx => ?_
    have hxl : x < ys.length := by simpa [seti] using hx
    rw [gi_seti _ _ _ _ (by omega) (by simp [seti]; omega) h0x, gi_seti _ _ _ _ (by omega) (by omega) h0x]
    have hg : gi (ys.take (k - 1) ++ [gi ys k, gi ys (k - 1 : Nat)] ++ ys.drop (k + 1)) x = if x = ((k - 1 : Nat) : Int) then gi ys k else if x = k then gi ys (k - 1 : Nat) else gi ys x := by
      obtain ⟨q, rfl⟩ : ∃ q : Nat, x = q := ⟨x.toNat, by omega⟩
      simp only [gi, List.getD, Int.toNat_natCast]
      rw [List.append_assoc, List.getElem?_append]
      have hl : (ys.take (k - 1)).length = k - 1 := by simp; omega
      rw [hl]
      by_cases hq : q < k - 1
      · rw [if_pos hq, List.getElem?_take, if_pos hq, if_neg (by omega), if_neg (by omega)]
      · rw [if_neg hq]
        by_cases hq1 : q = k - 1
        · subst hq1; simp
        · by_cases hq2 : q = k
          · subst hq2
            rw [if_neg (by omega), if_pos rfl, show q - (q - 1) = 1 by omega]; simp
          · rw [if_neg (by omega), if_neg (by omega)]
            obtain ⟨d, rfl⟩ : ∃ d, q = k + 1 + d := ⟨q - (k + 1), by omega⟩
            rw [show k + 1 + d - (k - 1) = d + 2 by omega]
            simp
    rw [hg]
  rw [e2]
  conv => rhs; rw [e1]
  exact (List.Perm.append_left _ (List.Perm.swap _ _ _)).append_right _
end Go.Mem
namespace Go.Proofs.YtablpijnjkncfaaGreat
open Go.Mem Go.RowKit
set_option linter.unusedVariables false
set_option linter.unusedSimpArgs false
theorem cyl_take {n : Nat} {p : List Int} {i : Nat} (hi : i < (cyc n p).length) : ((cyc n p).take (i + 1)).map (fun c => (c.length : Int)) = ((cyc n p).take i).map (fun c => (c.length : Int)) ++ [((gr (cyc n p) i).length : Int)] := by
  rw [List.take_succ_eq_append_getElem hi, List.map_append]
  simp [gr, List.getD, hi]

theorem cyl_facts {n : Nat} {p : List Int} (h : Pm n p) : ∀ x ∈ cyl n p, 1 ≤ x ∧ x ≤ n := fun x hx => by
  obtain ⟨c, hc, rfl⟩ := List.mem_map.1 hx
  exact (h.cyc_per hc).2
theorem lcms_take {L : List Nat} {i : Nat} (hi : i < L.length) : lcms (L.take (i + 1)) = Nat.lcm (lcms (L.take i)) L[i] := by
  rw [List.take_succ_eq_append_getElem hi, lcms_app, lcms_cons]
  show Nat.lcm _ (Nat.lcm _ 1) = _
  rw [Nat.lcm_one_right]
theorem lcm_le {a b : Nat} (ha : 1 ≤ a) (hb : 1 ≤ b) : Nat.lcm a b ≤ a * b := Nat.le_of_dvd (Nat.mul_pos ha hb) (Nat.lcm_dvd (Nat.dvd_mul_right _ _) (Nat.dvd_mul_left _ _))
theorem lcm_bound {a b : Nat} (ha : 1 ≤ a) (hb : 1 ≤ b) (ha2 : a ≤ 1000000000000000) (hb2 : b ≤ 1000) : Nat.lcm a b ≤ 1000000000000000000 := by
  have h1 := lcm_le ha hb
  have h2 : a * b ≤ 1000000000000000 * 1000 := Nat.mul_le_mul ha2 hb2
  omega
/-- the numbers of a list as counts -/
theorem gi_toNat {ys : List Int} {L : List Nat} (e : ys = L.map fun x : Nat => (x : Int)) {i : Nat} (hi : i < L.length) : gi ys i = (L[i] : Int) := by
  subst e
  simp [gi, List.getD, hi]
theorem perm_nats {ys : List Int} {M : List Nat} (h : ys.Perm (M.map fun x : Nat => (x : Int))) : ∃ L : List Nat, ys = L.map (fun x : Nat => (x : Int)) ∧ L.Perm M := by
  refine ⟨ys.map Int.toNat, ?_, ?_⟩
  · rw [List.map_map]
    conv => lhs; rw [← List.map_id ys]
    refine List.map_congr_left fun x hx => ?_
    obtain ⟨m, _, rfl⟩ := List.mem_map.1 (h.mem_iff.1 hx)
    simp
  · have := h.map Int.toNat
    rw [List.map_map] at this
    have e : (Int.toNat ∘ fun x : Nat => (x : Int)) = id := by funext x; simp
    rw [e, List.map_id] at this
    exact this

end Go.Proofs.YtablpijnjkncfaaGreat
