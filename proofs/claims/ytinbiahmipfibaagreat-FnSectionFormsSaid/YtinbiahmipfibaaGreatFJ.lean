/- Texts laid together: F63 F64. -/
import Derived.Test.YtinbiahmipfibaaGreatF36
import Derived.Test.YtinbiahmipfibaaGreatFH
import Derived.Test.YtinbiahmipfibaaGreatTw
import Derived.Test.YtinbiahmipfibaaGreatPD
import Derived.Test.YtinbiahmipfibaaGreatFI
/- Contracts: duals of systems; grids. -/
namespace Go.Mem
open Go.RowKit
set_option linter.unusedVariables false
/-- some permutations, or maps, of the same few points -/
structure PM (ms : List (List Int)) : Prop where
  syst : Syst (nf ms) ms
  r1 : 1 ≤ ms.length
  r5 : ms.length ≤ 5
  f1 : 1 ≤ nf ms
  f400 : nf ms ≤ 400
theorem PM.of {n : Nat} {ms : List (List Int)} (h : Syst n ms) (r1 : 1 ≤ ms.length) (r5 : ms.length ≤ 5) (h1 : 1 ≤ n) (h4 : n ≤ 400) : PM ms ∧ nf ms = n := by
  have e := h.nf r1
  exact ⟨⟨by rw [e]; exact h, r1, r5, by omega, by omega⟩, e⟩
theorem does_systS {ms : List (List Int)} (hm : PM ms) {wd : List Int} (hw : IsWord ms wd) : (does ms wd (nf ms)).length = nf ms ∧ ∀ x ∈ does ms wd (nf ms), 0 ≤ x ∧ x < nf ms := by
  refine ⟨length_does _ _ _, fun x hx => ?_⟩
  obtain ⟨j, hj, rfl⟩ := in_gi hx
  rw [length_does] at hj
  rw [gi_does (by omega) (by omega)]
  exact run_rng hm.syst wd hw.2 _ (by omega)
theorem wds_systS {ms : List (List Int)} (hm : PM ms) {ws : List (List Int)} (hw : ∀ w ∈ ws, IsWord ms w) : Syst (nf ms) (wds ms ws) := fun m h => by
  obtain ⟨w, hw', rfl⟩ := List.mem_map.1 h
  exact does_systS hm (hw w hw')
/-- a form of moves is a system -/
theorem frm_syst {n : Nat} {rs : List (List Int)} {p : Int} (hs : Syst n rs) (hp : 0 ≤ p ∧ p < n) (hn : n ≤ 1000) : ∃ K : Nat, 1 ≤ K ∧ K ≤ n ∧ Syst K (frm n rs p) := by
  have hob := obt_orbit hs hp hn
  have hle := orbit_le hs hp hn
  have h1 : 1 ≤ (orbit rs p).length := List.length_pos_of_mem ((mem_orbit hs hp hn).2 (.refl _))
  refine ⟨(orbit rs p).length, h1, hle, fun m hm => ?_⟩
  obtain ⟨r, hr, rfl⟩ := List.mem_map.1 hm
  refine ⟨by simp, fun x hx => ?_⟩
  obtain ⟨y, hy, rfl⟩ := List.mem_map.1 hx
  have hz : gi r y ∈ orbit rs p := (mem_orbit hs hp hn).2 (.step ((mem_orbit hs hp hn).1 hy) hr)
  have := hob.num hz
  exact ⟨this.1, this.2.1⟩
/-- three owned lists that grow side by side -/
structure Tri (w : World) (B : Nat) (T : TypeId) (a b c : Value) (xs ys zs : List Int) : Prop where
  oa : OI w B T a xs
  ob : OI w B T b ys
  oc : OI w B T c zs
  ab : Ap a b
  ac : Ap a c
  bc : Ap b c
section
variable {w w' : World} {B : Nat} {T : TypeId} {a b c a' : Value} {xs ys zs us : List Int}
theorem Tri.below (h : Tri w B T a b c xs ys zs) (hb : Below w.heap.size w w') : Tri w' B T a b c xs ys zs := ⟨h.oa.below hb, h.ob.below hb, h.oc.below hb, h.ab, h.ac, h.bc⟩
theorem Tri.app1 (h : Tri w B T a b c xs ys zs) (hn : OI w' B T a' us) (hg : w.grownBy w' a.ownBlock) (hgrow : a'.ownBlock = a.ownBlock ∨ a'.ownBlock = some w.heap.size) : Tri w' B T a' b c us ys zs :=
  ⟨hn, h.ob.kept hg h.ab.symm, h.oc.kept hg h.ac.symm, (h.ab.symm.grow (fun g hg => (h.ob.lt g hg).2) hgrow).symm, (h.ac.symm.grow (fun g hg => (h.oc.lt g hg).2) hgrow).symm, h.bc⟩
theorem Tri.app2 (h : Tri w B T a b c xs ys zs) (hn : OI w' B T a' us) (hg : w.grownBy w' b.ownBlock) (hgrow : a'.ownBlock = b.ownBlock ∨ a'.ownBlock = some w.heap.size) : Tri w' B T a a' c xs us zs :=
  ⟨h.oa.kept hg h.ab, hn, h.oc.kept hg h.bc.symm, h.ab.grow (fun g hg => (h.oa.lt g hg).2) hgrow, h.ac, (h.bc.symm.grow (fun g hg => (h.oc.lt g hg).2) hgrow).symm⟩
theorem Tri.app3 (h : Tri w B T a b c xs ys zs) (hn : OI w' B T a' us) (hg : w.grownBy w' c.ownBlock) (hgrow : a'.ownBlock = c.ownBlock ∨ a'.ownBlock = some w.heap.size) : Tri w' B T a b a' xs ys us :=
  ⟨h.oa.kept hg h.ac, h.ob.kept hg h.bc, hn, h.ab, h.ac.grow (fun g hg => (h.oa.lt g hg).2) hgrow, h.bc.grow (fun g hg => (h.ob.lt g hg).2) hgrow⟩
theorem Tri.om {U : TypeId} {v : Value} (h : Tri w B U a b c xs ys zs) (ho : Own w B T v [a, b, c]) : OM w B w.heap.size T U v [xs, ys, zs] := by
  refine Rws.om ⟨fun u hu => ?_, rfl, fun i u z hu hz => ?_, fun i u hu g hg => ?_, fun i j u u' hij hu hu' => ?_⟩ ho
  · simp at hu; rcases hu with rfl | rfl | rfl
    · exact h.oa.sv.one
    · exact h.ob.sv.one
    · exact h.oc.sv.one
  · match i, hu, hz with
    | 0, hu, hz => simp at hu hz; subst hu hz; exact h.oa
    | 1, hu, hz => simp at hu hz; subst hu hz; exact h.ob
    | 2, hu, hz => simp at hu hz; subst hu hz; exact h.oc
    | i + 3, hu, hz => simp at hu
  · match i, hu with
    | 0, hu => simp at hu; subst hu; exact (h.oa.lt g hg).2
    | 1, hu => simp at hu; subst hu; exact (h.ob.lt g hg).2
    | 2, hu => simp at hu; subst hu; exact (h.oc.lt g hg).2
    | i + 3, hu => simp at hu
  · match i, j, hu, hu' with
    | 0, 1, hu, hu' => simp at hu hu'; subst hu hu'; exact h.ab
    | 0, 2, hu, hu' => simp at hu hu'; subst hu hu'; exact h.ac
    | 1, 2, hu, hu' => simp at hu hu'; subst hu hu'; exact h.bc
    | 2, j + 3, hu, hu' => simp at hu'
    | 1, j + 3, hu, hu' => simp at hu'
    | 0, j + 3, hu, hu' => simp at hu'
    | i + 3, _, hu, _ => simp at hu
end
end Go.Mem
namespace Go.Proofs.YtinbiahmipfibaaGreat
open Go.Mem Go.RowKit
set_option linter.unusedVariables false
set_option linter.unusedSimpArgs false
end Go.Proofs.YtinbiahmipfibaaGreat

/- Contracts: a maniplex drawn that has mostly several automorphisms. -/
namespace Go.Proofs.YtinbiahmipfibaaGreat
open Go.Mem Go.RowKit
set_option linter.unusedVariables false
set_option linter.unusedSimpArgs false
end Go.Proofs.YtinbiahmipfibaaGreat
