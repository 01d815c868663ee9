/- Contract: slices.SortFunc at maniplexes. -/
import Derived.Test.YtdpjjgjeodippaaGreatF95
import Derived.Test.YtdpjjgjeodippaaGreatMl
import Derived.Test.YtdpjjgjeodippaaGreatSg
namespace Go.Mem
open Go.RowKit Go.Sort Go.Proofs
set_option linter.unusedVariables false
section
variable {w : World} {B : Nat} {T : TypeId} {v : Value} {vs : List Value}
/-- an owned list that is not empty lies in a block -/
theorem Own.place (h : Own w B T v vs) (hne : vs ≠ []) : ∃ g off cap, v = .slice (some ⟨g, off, none⟩) vs.length cap ∧ B ≤ g ∧ g < w.heap.size ∧ vs.length ≤ cap ∧ Holds id w g off vs.toArray := by
  rcases h with ⟨_, e⟩ | ⟨g, off, cap, cur, e, hb, hg, hl, hc, hs, hx⟩
  · exact absurd e hne
  · refine ⟨g, off, cap, e, hb, (Array.getElem?_eq_some_iff.1 hg).1, hl, fun j hj => ⟨?_, ?_⟩⟩
    · have hj' : j < vs.length := by simpa using hj
      have hu := hx j vs[j] (by simp [hj'])
      have he : vs.toArray[j]! = vs[j] := by rw [getElem!_pos vs.toArray j hj]; simp
      show _ = some (vs.toArray[j]!)
      rw [he]
      simp [World.cell?, hg, hu]
    · simp [World.frozen?, hg]
/-- other values have been laid in the place of an owned list -/
theorem Own.put {g off cap : Nat} (h : Own w B T (.slice (some ⟨g, off, none⟩) vs.length cap) vs) {zs : Array Value} (hz : zs.size = vs.length) (n : Nat) (os : Array Obj) :
    Own (grow (putRow id (Sort.ahead w n) g off zs) os) B T (.slice (some ⟨g, off, none⟩) vs.length cap) zs.toList ∧ w.grownBy (grow (putRow id (Sort.ahead w n) g off zs) os) (some g) := by
  rcases h with ⟨e, _⟩ | ⟨g', off', cap', cur, e, hb, hg, hl, hc, hs, hx⟩
  · cases e
  · injection e with e1 e2 e3
    injection e1 with e1
    injection e1 with f1 f2 f3
    subst f1 f2 e3
    have hlt := (Array.getElem?_eq_some_iff.1 hg).1
    have hg1 : (putRow id (Sort.ahead w n) g off zs).heap[g]? = some (.cells (putCells id off zs cur) T (0, 0)) := by
      unfold putRow mapBlock
      have : (Sort.ahead w n).heap = w.heap := rfl
      simp [Array.getElem?_modify, hg, onCells]
    have hg2 : (grow (putRow id (Sort.ahead w n) g off zs) os).heap[g]? = some (.cells (putCells id off zs cur) T (0, 0)) := by
      rw [heap_grow_old _ os (by simpa using hlt)]; exact hg1
    refine ⟨.inr ⟨g, off, cap, _, by rw [show zs.toList.length = vs.length by simp [hz]], hb, hg2, by rw [Array.length_toList]; omega, hc, by simpa [putCells] using hs, fun i u hu => ?_⟩, ⟨rfl, rfl, rfl, by simp, fun b hb hne => ?_⟩⟩
    · have hi : i < zs.size := by
        have := (List.getElem?_eq_some_iff.1 hu).1
        simpa using this
      rw [Array.getElem?_toList, Array.getElem?_eq_getElem hi] at hu
      obtain rfl := Option.some.inj hu
      have hc0 : off + i < cur.size := by omega
      simp only [putCells, Array.getElem?_mapIdx, Array.getElem?_eq_getElem hc0, Option.map_some]
      rw [if_pos (by omega), show off + i - off = i by omega]
      show some (zs[i]!) = _
      rw [getElem!_pos zs i hi]
    · rw [heap_grow_old _ os (by simpa using hb)]
      have : b ≠ g := fun e => hne (by rw [e])
      show ((Sort.ahead w n).heap.modify g _)[b]? = _
      rw [Array.getElem?_modify, if_neg (fun e => this e.symm)]
      rfl
end
/-- the order of the forms at places of a list -/
def cmpAt (mss : List (List (List Int))) (n : Nat) (i j : Fin n) : Int := cmpM (mss.getD i.1 []) (mss.getD j.1 [])
theorem cmpAt_swo (mss : List (List (List Int))) (n : Nat) : SWO (Go.Proofs.ltOf (cmpAt mss n)) := by
  have h := befM_sto
  have e : ∀ x y, Go.Proofs.ltOf (cmpAt mss n) x y = befM (mss.getD x.1 []) (mss.getD y.1 []) := fun x y => cmpM_neg _ _
  refine ⟨fun x => by rw [e]; exact h.irr _, fun x y z h1 h2 => ?_, fun x y z h1 h2 => ?_⟩
  · rw [e] at *; exact h.tr _ _ _ h1 h2
  · rw [e] at *
    cases h3 : befM (mss.getD x.1 []) (mss.getD z.1 []) with
    | false => rfl
    | true =>
      by_cases hxy : mss.getD x.1 [] = mss.getD y.1 []
      · rw [hxy, h2] at h3; cases h3
      · rcases h.tri _ _ hxy with h4 | h4
        · rw [h1] at h4; cases h4
        · have := h.tr _ _ _ h4 h3
          rw [h2] at this; cases this
/-- the places of a list, as an array -/
theorem flat_one {n : Nat} [Inhabited (Fin n)] {vs : List Value} (hn : n = vs.length) (d : Array (Fin n)) : (flatK (fun i : Fin n => [vs.getD i.1 undef]) 1 d).toList = d.toList.map fun i => vs.getD i.1 undef := by
  apply List.ext_getElem
  · simp
  · intro t h1 h2
    have ht : t < d.size := by simpa using h2
    have := get_flatK (fun i : Fin n => [vs.getD i.1 undef]) 1 d t (by omega)
    have h3 : t < (flatK (fun i : Fin n => [vs.getD i.1 undef]) 1 d).size := by simp; omega
    rw [getElem!_pos _ t h3] at this
    rw [Array.getElem_toList, this, List.getElem_map, Array.getElem_toList]
    have e1 : t / 1 = t := Nat.div_one t
    have e2 : t % 1 = 0 := Nat.mod_one t
    rw [e1, e2, getElem!_pos d t ht]
    rfl
end Go.Mem
namespace Go.Proofs.YtdpjjgjeodippaaGreat
open Go.Mem Go.RowKit
set_option linter.unusedVariables false
set_option linter.unusedSimpArgs false

theorem SortFunc_any (v : Value) (vs : List Value) (mss : List (List (List Int))) (B : Nat) (w : World) (ho : Own w B 29 v vs) (hE : Els w 38 2 vs mss) (hm1 : ∀ m ∈ mss, 1 ≤ m.length) (hne : vs ≠ []) (hl : vs.length ≤ 1000000) :
    Ret Tryz.prog 69 #[v, .func (.func 70) #[] #[]] w fun r w' => ∃ σ : List Nat, σ.Perm (List.range vs.length) ∧ Own w' B 29 v (σ.map fun i => vs.getD i undef) ∧
      (∀ i j : Nat, i < j → j < vs.length → befM (mss.getD (σ.getD j 0) []) (mss.getD (σ.getD i 0) []) = false) ∧ w.grownBy w' v.ownBlock := by
  obtain ⟨g, off, cap, rfl, hb, hlt, hc, hH⟩ := ho.place hne
  have hn : 0 < vs.length := List.length_pos_iff.2 hne
  have hlen := hE.len
  haveI : Inhabited (Fin vs.length) := ⟨⟨0, hn⟩⟩
  have hd0 : ((Array.ofFn fun i : Fin vs.length => i).toList.map fun i => i.1) = List.range vs.length := by
    apply List.ext_getElem
    · simp
    · intro t h1 h2; simp
  have hds : (Array.ofFn fun i : Fin vs.length => i).size = vs.length := by simp
  have hfl : Go.Sort.flatK (fun i : Fin vs.length => [vs.getD i.1 undef]) 1 (Array.ofFn fun i : Fin vs.length => i) = vs.toArray := by
    apply Array.ext'
    rw [flat_one rfl]
    apply List.ext_getElem
    · simp
    · intro t h1 h2
      have ht : t < vs.length := by simpa using h2
      simp [List.getD, ht]
  generalize (Array.ofFn fun i : Fin vs.length => i) = d at *
  have hrow : ∀ x : Fin vs.length, ∃ B' E, OM w B' E 38 2 (vs.getD x.1 undef) (mss.getD x.1 []) := fun x => hE.row x.1 _ _ (by simp [List.getD]) (by have := x.2; simp [List.getD, show x.1 < mss.length by omega])
  have hone : ∀ x : Fin vs.length, (vs.getD x.1 undef).oneCell' = true := fun x => by obtain ⟨_, _, h⟩ := hrow x; exact h.sv.one
  have hr1 : ∀ x : Fin vs.length, 1 ≤ (mss.getD x.1 []).length := fun x => hm1 _ (by
    have := x.2
    have h2 : x.1 < mss.length := by omega
    simp [List.getD, h2])
  have hcmp : CmpLays Tryz.prog 70 #[] (fun i : Fin vs.length => [vs.getD i.1 undef]) 1 (cmpAt mss vs.length) g off d.size w := by
    intro m os dk hs x y
    have hW : w.grownBy (sortWorldK (fun i : Fin vs.length => [vs.getD i.1 undef]) 1 w g off m dk os) (some g) := (ho.put (zs := Go.Sort.flatK (fun i : Fin vs.length => [vs.getD i.1 undef]) 1 dk) (by simp; omega) m os).2
    generalize sortWorldK (fun i : Fin vs.length => [vs.getD i.1 undef]) 1 w g off m dk os = W at *
    have hEW := hE.kept ho (by decide) (by decide) hW
    have gx : ∀ x : Fin vs.length, RL W (vs.getD x.1 undef) (mss.getD x.1 []) := fun x => by
      obtain ⟨_, _, h⟩ := hEW.row x.1 (vs.getD x.1 undef) (mss.getD x.1 []) (by simp [List.getD]) (by have := x.2; simp [List.getD, show x.1 < mss.length by omega])
      exact h.rl
    refine Calls.mono (sortForms1_gr _ _ _ _ W (gx x) (gx y) (hr1 x) (hr1 y)) ?_
    rintro e w' ⟨u, he, hu, q, os', hw⟩
    subst hu
    exact ⟨he, q, os', hw⟩
  have hcon := AnyQ.slices_SortFunc Tryz.laysSortF 1 Tryz.isAgg29 Tryz.sizeOf29 (fun i : Fin vs.length => [vs.getD i.1 undef]) (fun _ => rfl) (fun x u hu => by rw [List.mem_singleton.1 hu]; exact hone x) (cmpAt mss vs.length) (cmpAt_swo mss vs.length) 70 #[] g off cap d w
    (fun args w => (inferInstance : FunTy Tryz.prog 70).enters args w) hcmp (by show Sort.Holds id w g off (Go.Sort.flatK _ 1 d); rw [hfl]; exact hH) hlt (by omega)
  rw [hds] at hcon
  change Calls Tryz.prog 69 _ _ _ at hcon
  refine Calls.mono hcon ?_
  rintro e w' ⟨he, d', n, os, hp, hso, hw⟩
  subst he
  obtain ⟨hp1, _, hp2⟩ := hp
  have hd's : d'.size = vs.length := by omega
  have ep : d'.toList.Perm d.toList := by
    have e1 : (d'.extract 0 vs.length).toList = d'.toList := by rw [Array.toList_extract]; exact List.take_of_length_le (by simp; omega)
    have e2 : (d.extract 0 vs.length).toList = d.toList := by rw [Array.toList_extract]; exact List.take_of_length_le (by simp; omega)
    rw [e1, e2] at hp2; exact hp2
  obtain ⟨o1, o2⟩ := ho.put (zs := Go.Sort.flatK (fun i : Fin vs.length => [vs.getD i.1 undef]) 1 d') (by simp; omega) n os
  have hw2 : w' = Sort.grow (Sort.putRow id (Sort.ahead w n) g off (Go.Sort.flatK (fun i : Fin vs.length => [vs.getD i.1 undef]) 1 d')) os := hw
  rw [← hw2, flat_one rfl] at o1
  rw [← hw2] at o2
  refine ⟨_, rfl, d'.toList.map fun i => i.1, ?_, ?_, fun i j hij hj => ?_, o2⟩
  · have := ep.map (fun i : Fin vs.length => i.1)
    rwa [hd0] at this
  · rw [List.map_map]; exact o1
  · have h1 := hso i j (Nat.zero_le _) hij hj
    have e : Go.Proofs.ltOf (cmpAt mss vs.length) d'[j]! d'[i]! = befM (mss.getD (d'[j]!).1 []) (mss.getD (d'[i]!).1 []) := cmpM_neg _ _
    rw [e] at h1
    have gi : ∀ t : Nat, t < vs.length → (d'.toList.map fun i : Fin vs.length => i.1).getD t 0 = (d'[t]!).1 := fun t ht => by
      rw [getElem!_pos d' t (by omega)]
      simp [List.getD, show t < d'.size by omega]
    rw [gi j hj, gi i (by omega)]
    exact h1
end Go.Proofs.YtdpjjgjeodippaaGreat
