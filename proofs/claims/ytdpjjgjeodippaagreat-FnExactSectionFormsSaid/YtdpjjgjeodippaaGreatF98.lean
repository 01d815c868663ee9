/- Contracts: clone, the forms sorted, the place of a form. -/
import Derived.Test.YtdpjjgjeodippaaGreatF96
import Derived.Test.YtdpjjgjeodippaaGreatF97
import Derived.Test.YtdpjjgjeodippaaGreatF35
namespace Go.Mem
open Go.RowKit Go.Lib
set_option linter.unusedVariables false
theorem kp_fms {σ : List Nat} {mss : List (List (List Int))} (hp : σ.Perm (List.range mss.length)) (hs : ∀ i j : Nat, i < j → j < mss.length → befM (mss.getD (σ.getD j 0) []) (mss.getD (σ.getD i 0) []) = false) :
    (kp (σ.map fun i => mss.getD i []) mss.length).map (fun i => (σ.map fun i => mss.getD i []).getD i []) = fmsM mss := by
  have hl : σ.length = mss.length := by simpa using hp.length_eq
  have hlt : ∀ j, j < mss.length → σ.getD j 0 < mss.length := fun j hj => by
    have : σ.getD j 0 ∈ σ := by simp [List.getD, hl, hj]
    simpa using hp.mem_iff.1 this
  have hg : ∀ j, j < mss.length → ((σ.map fun i => mss.getD i []).toArray)[j]! = mss.getD (σ.getD j 0) [] := fun j hj => by
    rw [getElem!_pos _ j (by simp [hl, hj])]
    simp [List.getD, hl, hj]
  have hg2 : ∀ j, j < mss.length → (σ.map fun i => mss.getD i []).getD j [] = mss.getD (σ.getD j 0) [] := fun j hj => by
    simp [List.getD, hl, hj]
  have hc := compact_sto befM_sto (d := (σ.map fun i => mss.getD i []).toArray) (fun i j hij hj => by
    have hj' : j < mss.length := by simpa [hl] using hj
    rw [hg j hj', hg i (by omega)]
    exact hs i j hij hj') mss.length (by simp [hl])
  have e : (kp (σ.map fun i => mss.getD i []) mss.length).map (fun i => (σ.map fun i => mss.getD i []).getD i []) = compactUpTo (σ.map fun i => mss.getD i []).toArray mss.length := by
    unfold compactUpTo kp
    refine List.map_congr_left fun i hi => ?_
    have hi' : i < mss.length := List.mem_range.1 (List.mem_filter.1 hi).1
    show _ = (σ.map fun i => mss.getD i []).toArray[i]!
    rw [hg i hi', hg2 i hi']
  rw [e]
  refine fmsM_eq hc.1 fun a => ?_
  rw [hc.2]
  constructor
  · rintro ⟨j, hj, rfl⟩
    rw [hg j hj]
    have hj2 := hlt j hj
    generalize σ.getD j 0 = t at *
    simp [List.getD, hj2]
  · intro ha
    obtain ⟨k, hk, rfl⟩ := List.getElem_of_mem ha
    have hk2 : k ∈ σ := hp.mem_iff.2 (List.mem_range.2 hk)
    obtain ⟨j, hj, e⟩ := List.getElem_of_mem hk2
    refine ⟨j, by omega, ?_⟩
    rw [hg j (by omega)]
    simp [List.getD, hj, e, hk]
/-- values at places of a list -/
theorem Els.pick {w : World} {T U : TypeId} {vs : List Value} {mss : List (List (List Int))} (h : Els w T U vs mss) (σ : List Nat) (hσ : ∀ i ∈ σ, i < vs.length) : Els w T U (σ.map fun i => vs.getD i undef) (σ.map fun i => mss.getD i []) := by
  refine ⟨by simp, fun i u xss hu hx => ?_⟩
  rw [List.getElem?_map] at hu hx
  cases e : σ[i]? with
  | none => rw [e] at hu; cases hu
  | some k =>
    rw [e] at hu hx
    have hk := hσ k (List.mem_of_getElem? e)
    have hl := h.len
    obtain rfl := Option.some.inj hu
    obtain rfl := Option.some.inj hx
    exact h.row k _ _ (by simp [List.getD, hk]) (by simp [List.getD, show k < mss.length by omega])
/-- the place of the first at which p holds -/
def idxM (p : List (List Int) → Bool) (mss : List (List (List Int))) (k : Nat) : Prop := k ≤ mss.length ∧ (∀ j, j < k → p (mss.getD j []) = false) ∧ (k < mss.length → p (mss.getD k []) = true)
end Go.Mem
namespace Go.Proofs.YtdpjjgjeodippaaGreat
open Go.Mem Go.RowKit
set_option linter.unusedVariables false
set_option linter.unusedSimpArgs false

set_option maxRecDepth 100000 in
theorem CloneM_any (v : Value) (B' : Nat) (vs : List Value) (w : World) (hv : Own w B' 29 v vs) (h1 : ∀ u ∈ vs, u.oneCell' = true) (hl : vs.length ≤ 1000000) :
    Ret Tryz.prog 48 #[v] w fun r w' => Own w' w.heap.size 29 r vs ∧ Below w.heap.size w w' := by
  have sv := hv.sv
  refine enter1 8 Tryz.func48 rfl Tryz.ntmps48 rfl (fun fr => ?_)
  refine go ?_
  cases hn : nilV v with
  | true =>
    have hx : vs = [] := by
      by_cases h : vs.length = 0
      · exact List.length_eq_zero_iff.1 h
      · rw [nilV_of sv h] at hn; simp at hn
    subst hx
    refine go ?_
    exact end_one Tryz.results48 rfl ⟨Own.nil _ _ _, Below.refl _ _⟩
  | false =>
    refine go ?_
    refine s_buildE (B := w.heap.size) [] (wn rfl) rfl rfl (by decide) rfl (by simp) (Nat.le_refl _) (fun ob w1 ho hg1 _ => ?_)
    have hb1 := below_of_grownBy hg1
    have hv := hv.below hb1
    have hs1 := hb1.size
    refine go ?_
    refine s_appendE (wn rfl) rfl rfl rfl ho hv.rd h1 (by simp; omega) hs1 (fun ob' w2 ho2 hg2 _ => ?_)
    have hb2 := hb1.trans (grownBy_below hg2 hs1 fun k hk => (ho.lt k hk).1)
    refine go ?_
    exact end_one Tryz.results48 rfl ⟨by simpa using ho2, hb2⟩

set_option maxRecDepth 100000 in
theorem sortForms_any (v : Value) (vs : List Value) (mss : List (List (List Int))) (B : Nat) (w : World) (ho : Own w B 29 v vs) (hE : Els w 38 2 vs mss) (hm1 : ∀ m ∈ mss, 1 ≤ m.length) (hne : vs ≠ []) (hl : vs.length ≤ 1000000) :
    Ret Tryz.prog 47 #[v] w fun r w' => ∃ us, Own w' B 29 r us ∧ Els w' 38 2 us (fmsM mss) ∧ w.grownBy w' v.ownBlock := by
  refine enter1 7 Tryz.func47 rfl Tryz.ntmps47 rfl (fun fr => ?_)
  refine go ?_
  refine s_call2 (wn rfl) rfl rfl rfl (SortFunc_any v vs mss B w ho hE hm1 hne hl) ?_
  rintro _ w1 ⟨σ, hp, ho1, hs, hg1⟩
  have hlen := hE.len
  have hσ : σ.length = vs.length := by simpa using hp.length_eq
  have hσlt : ∀ i ∈ σ, i < vs.length := fun i hi => by simpa using hp.mem_iff.1 hi
  have hE1 := (hE.kept ho (by decide) (by decide) hg1).pick σ hσlt
  refine go ?_
  refine s_call2 (wn rfl) rfl rfl rfl (CompactFunc_any v _ _ B w1 ho1 hE1 (by simp; omega)) ?_
  rintro r w2 ⟨ho2, hg2, _⟩
  have hE2 := (hE1.kept ho1 (by decide) (by decide) hg2).pick (kp (σ.map fun i => mss.getD i []) (σ.map fun i => vs.getD i undef).length) (fun i hi => kp_lt i hi)
  have el : (σ.map fun i => vs.getD i undef).length = mss.length := by simp; omega
  rw [el] at hE2 ho2
  rw [kp_fms (by rw [← hlen]; exact hp) (fun i j hij hj => hs i j hij (by omega))] at hE2
  refine go ?_
  exact end_one Tryz.results47 rfl ⟨_, ho2, hE2, grownBy_trans hg1 hg2⟩

set_option maxRecDepth 100000 in
theorem IndexFuncM_any (fn : FuncId) [FunTy Tryz.prog fn] (caps : Array Value) (p : List (List Int) → Bool) (v : Value) (B : Nat) (vs : List Value) (mss : List (List (List Int))) (w : World) (ho : Own w B 29 v vs) (hE : Els w 38 2 vs mss)
    (hf : ∀ (w' : World) (u : Value) (ms : List (List Int)), Below w.heap.size w w' → ms ∈ mss → RL w' u ms → Ret Tryz.prog fn (#[.agg #[u]] ++ caps) w' fun r w'' => r = .bool (p ms) ∧ Below w'.heap.size w' w'') :
    Ret Tryz.prog 49 #[v, .func (.func fn) #[] caps] w fun r w' => (∃ k : Nat, idxM p mss k ∧ r = .int .i64 (if k < mss.length then (k : Int) else -1)) ∧ Below w.heap.size w w' := by
  have hlen := hE.len
  have sv := ho.sv
  rw [hlen] at sv
  have scap := sv.le
  refine enter2 19 Tryz.func49 rfl Tryz.ntmps49 rfl (fun fr => ?_)
  refine go ?_
  refine w_loop (fun kk fr w' => ∃ (i : Nat), kk = mss.length - i ∧ i ≤ mss.length ∧ fr 0 = v ∧ fr 1 = .func (.func fn) #[] caps ∧ fr 7 = .int .i64 mss.length ∧ fr 8 = .int .i64 i ∧ (∀ j, j < i → p (mss.getD j []) = false) ∧ Below w.heap.size w w') mss.length
    ⟨0, rfl, Nat.zero_le _, rfl, rfl, rfl, rfl, fun j hj => by omega, Below.refl _ _⟩ ?_
  rintro kk fr w2 ⟨i, rfl, hi, f0, f1, f7, f8, hall, hb⟩
  have ho2 := ho.below hb
  have hE2 := hE.below hb
  refine know (t := 0) f0 ?_; refine know (t := 1) f1 ?_; refine know (t := 7) f7 ?_; refine know (t := 8) f8 ?_
  refine go ?_
  refine cond_dec rfl (fun hlt => ?_) (fun hge => ?_)
  · have hil : i < mss.length := by omega
    obtain ⟨_, _, hu⟩ := hE2.row i (vs.getD i undef) (mss.getD i []) (by simp [List.getD, show i < vs.length by omega]) (by simp [List.getD, hil])
    have hcu : w2.cell? (addrOf v ((i : Int)).toNat) = some (vs.getD i undef) := by
      rw [show ((i : Int)).toNat = i by omega]
      exact ho2.rd.cell (by simp [List.getD, show i < vs.length by omega])
    have hin : mss.getD i [] ∈ mss := by simp [List.getD, hil]
    refine go ?_
    refine s_p (wn rfl) rfl (y_idxSE rfl rfl sv (by omega) (by omega)) ?_
    refine go ?_
    refine s_callV1 (wn rfl) rfl rfl rfl (hf _ _ _ hb hin hu.rl) ?_
    rintro _ w3 ⟨rfl, hb3⟩
    have hb3 := hb.trans (hb3.mono hb.size)
    refine splitb (p (mss.getD i [])) (fun hp => ?_) (fun hp => ?_)
    · refine go ?_
      exact end_one Tryz.results49 rfl ⟨⟨i, ⟨by omega, hall, fun _ => hp⟩, by rw [if_pos (by omega)]⟩, hb3⟩
    · refine go ?_
      exact ⟨mss.length - (i + 1), by omega, i + 1, rfl, by omega, rfl, rfl, rfl, rfl, fun j hj => by by_cases hji : j = i; (subst hji; exact hp); exact hall j (by omega), hb3⟩
  · obtain rfl : i = mss.length := by omega
    refine go ?_
    exact end_one Tryz.results49 rfl ⟨⟨mss.length, ⟨Nat.le_refl _, hall, fun h => by omega⟩, by rw [if_neg (by omega)]⟩, hb⟩

set_option maxHeartbeats 8000000 in
set_option maxRecDepth 100000 in
/-- the closure that sectionForms hands over -/
theorem sectionForms1_any (u : Value) (ms : List (List Int)) (p q : Addr) (v : Value) (l : Int) (B : Nat) (vs : List Value) (mss : List (List (List Int))) (w : World) (hu : RL w u ms) (hp : w.cell? p = some v) (hq : w.cell? q = some (.int .i64 l)) (ho : Own w B 29 v vs) (hE : Els w 38 2 vs mss) (hl : 0 ≤ l ∧ l < mss.length) :
    Ret Tryz.prog 50 #[.agg #[u], .pointer (some p), .pointer (some q)] w fun r w' => r = .bool (decide (ms = mss.getD l.toNat [])) ∧ Below w.heap.size w w' := by
  have hlen := hE.len
  have shv := hu.sv
  have sv := ho.sv
  rw [hlen] at sv
  refine enter3 11 Tryz.func50 rfl Tryz.ntmps50 rfl (fun fr => ?_)
  refine go ?_
  refine s_box (wn rfl) rfl rfl (agg_cells shv) (fun w1 hx _ hp1 hg1 => ?_)
  have hb1 := below_of_grownBy hg1
  replace hu := hu.below hb1
  replace hp := cell_below hp hb1
  replace hq := cell_below hq hb1
  replace ho := ho.below hb1
  replace hE := hE.below hb1
  generalize (⟨w.heap.size, 0, none⟩ : Addr) = b at *
  have hc : w1.cell? (addrOf v l.toNat) = some (vs.getD l.toNat undef) := ho.rd.cell (by simp [List.getD, show l.toNat < vs.length by omega])
  obtain ⟨_, _, he⟩ := hE.row l.toNat (vs.getD l.toNat undef) (mss.getD l.toNat []) (by simp [List.getD, show l.toNat < vs.length by omega]) (by simp [List.getD, show l.toNat < mss.length by omega])
  have re := he.rl
  refine go ?_
  refine region_hS (fun w' => w'.cell? b = some u ∧ w'.cell? p = some v ∧ w'.cell? q = some (.int .i64 l) ∧ w'.cell? (addrOf v l.toNat) = some (vs.getD l.toNat undef)) mixed (fun w2 cr => ?_)
  replace hu := hu.below cr
  replace re := re.below cr
  replace hx := cell_below hx cr
  replace hp := cell_below hp cr
  replace hq := cell_below hq cr
  replace hc := cell_below hc cr
  have hb2 := hb1.trans (cr.mono hb1.size)
  refine h_p 0 ⟨hx, hp, hq, hc⟩ ?_ (hrun := fun w' h => by obtain ⟨h1, h2, h3, h4⟩ := h; exact yl)
  refine h_p 1 ⟨hx, hp, hq, hc⟩ ?_ (hrun := fun w' h => by obtain ⟨h1, h2, h3, h4⟩ := h; exact yl)
  refine h_p 2 ⟨hx, hp, hq, hc⟩ ?_ (hrun := fun w' h => by obtain ⟨h1, h2, h3, h4⟩ := h; exact yl)
  refine h_p 3 ⟨hx, hp, hq, hc⟩ ?_ (hrun := fun w' h => y_idxSE rfl rfl sv (by omega) (by omega))
  refine h_p 4 ⟨hx, hp, hq, hc⟩ ?_ (hrun := fun w' h => by obtain ⟨h1, h2, h3, h4⟩ := h; exact yl)
  refine h_one 5 ?_
  refine s_call2 (wn rfl) rfl rfl rfl (sameManiplex_any _ _ _ _ _ hu re) ?_
  rintro _ w3 ⟨rfl, hb3⟩
  replace hx := cell_below hx hb3
  replace hp := cell_below hp hb3
  replace hq := cell_below hq hb3
  replace hc := cell_below hc hb3
  have hbz := hb2.trans (hb3.mono hb2.size)
  refine w_nil ?_
  refine h_on ⟨⟨hx, hp, hq, hc⟩, ?_⟩
  refine h_p 6 ⟨hx, hp, hq, hc⟩ ?_ (hrun := fun w' h => by obtain ⟨h1, h2, h3, h4⟩ := h; exact yl)
  refine h_nil ?_
  refine go ?_
  exact end_one Tryz.results50 rfl ⟨rfl, hbz⟩
end Go.Proofs.YtdpjjgjeodippaaGreat
