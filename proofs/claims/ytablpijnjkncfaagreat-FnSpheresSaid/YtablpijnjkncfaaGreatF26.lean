/- Contracts: rows taken out of an owned list, by a function that tells which. -/
import Derived.Test.YtablpijnjkncfaaGreatFG
import Derived.Test.YtablpijnjkncfaaGreatWC
import Derived.Test.YtablpijnjkncfaaGreatFE
namespace Go.Proofs.YtablpijnjkncfaaGreat
open Go.Mem Go.RowKit
set_option linter.unusedVariables false

/-- where the first row is for which p holds (or -1) -/
def idxR (p : List Int → Bool) (xss : List (List Int)) (k : Nat) : Prop := k ≤ xss.length ∧ (∀ i, i < k → p (gr xss i) = false) ∧ (k < xss.length → p (gr xss k) = true)

set_option maxRecDepth 100000 in
theorem IndexFuncR_any (fn : FuncId) [FunTy Tryz.prog fn] (caps : Array Value) (p : List Int → Bool) (v : Value) (xss : List (List Int)) (vs : List Value) (w : World) (B E : Nat) (T : TypeId) (hv : Own w B T v vs) (hr : Rws w B E 2 vs xss) (hB : B ≤ w.heap.size)
    (hf : ∀ (w' : World) (u : Value) (xs : List Int), Below B w w' → xs ∈ xss → IL w' u xs → Ret Tryz.prog fn (#[u] ++ caps) w' fun r w'' => r = .bool (p xs) ∧ Below w'.heap.size w' w'') :
    Ret Tryz.prog 81 #[v, .func (.func fn) #[] caps] w fun r w' => (∃ k : Nat, idxR p xss k ∧ r = .int .i64 (if k < xss.length then (k : Int) else -1)) ∧ Below w.heap.size w w' := by
  have sv : SV v xss.length := by have := hv.rd.sv; rwa [hr.len] at this
  have scap := sv.le
  refine enter2 19 Tryz.func81 rfl Tryz.ntmps81 rfl (fun fr => ?_)
  refine go ?_
  refine w_loop (fun kk fr w' => ∃ (i : Nat), kk = xss.length - i ∧ i ≤ xss.length ∧ fr 0 = v ∧ fr 1 = .func (.func fn) #[] caps ∧ fr 7 = .int .i64 xss.length ∧ fr 8 = .int .i64 i ∧ (∀ j, j < i → p (gr xss j) = false) ∧ Below w.heap.size w w') xss.length
    ⟨0, rfl, Nat.zero_le _, rfl, rfl, rfl, rfl, fun j hj => by omega, Below.refl _ _⟩ ?_
  rintro kk fr w2 ⟨i, rfl, hi, f0, f1, f7, f8, hall, hb⟩
  have hv2 := hv.below hb
  have hr2 := hr.below hb
  refine know (t := 0) f0 ?_; refine know (t := 1) f1 ?_; refine know (t := 7) f7 ?_; refine know (t := 8) f8 ?_
  refine go ?_
  refine cond_dec rfl (fun hlt => ?_) (fun hge => ?_)
  · obtain ⟨u, hu, hou⟩ := hr2.il (i := i) (by omega)
    have hcu := hv2.rd.cell hu
    have hto : ((i : Int)).toNat = i := by omega
    rw [← hto] at hcu
    refine go ?_
    refine s_callV1 (wn rfl) rfl rfl rfl (hf _ _ _ (hb.mono hB) (gr_in (by omega)) hou.il) ?_
    rintro _ w3 ⟨rfl, hb3⟩
    have hb3 := hb.trans (hb3.mono hb.size)
    refine splitb (p (gr xss i)) (fun hp => ?_) (fun hp => ?_)
    · refine go ?_
      exact end_one Tryz.results81 rfl ⟨⟨i, ⟨by omega, hall, fun _ => hp⟩, by rw [if_pos (by omega)]⟩, hb3⟩
    · refine go ?_
      exact ⟨xss.length - (i + 1), by omega, i + 1, rfl, by omega, rfl, rfl, rfl, rfl, fun j hj => by by_cases hji : j = i; (subst hji; exact hp); exact hall j (by omega), hb3⟩
  · obtain rfl : i = xss.length := by omega
    refine go ?_
    exact end_one Tryz.results81 rfl ⟨⟨xss.length, ⟨Nat.le_refl _, hall, fun h => by omega⟩, by rw [if_neg (by omega)]⟩, hb⟩

set_option maxRecDepth 100000 in
set_option maxHeartbeats 8000000 in
theorem DeleteFunc_any (fn : FuncId) [FunTy Tryz.prog fn] (caps : Array Value) (p : List Int → Bool) (v : Value) (xss : List (List Int)) (w : World) (B E : Nat) (hv : OM w B E 32 2 v xss) (hB : B ≤ w.heap.size) (hn : xss.length ≤ 1000000)
    (hf : ∀ (w' : World) (u : Value) (xs : List Int), Below B w w' → xs ∈ xss → IL w' u xs → Ret Tryz.prog fn (#[u] ++ caps) w' fun r w'' => r = .bool (p xs) ∧ Below w'.heap.size w' w'') :
    Ret Tryz.prog 90 #[v, .func (.func fn) #[] caps] w fun r w' => OM w' B E 32 2 r (xss.filter fun xs => !p xs) ∧ Below B w w' := by
  obtain ⟨vs, h1, hr⟩ := hv.rws
  have hl := hr.len
  have sv : SV v xss.length := by have := h1.rd.sv; rwa [hl] at this
  refine enter2 42 Tryz.func90 rfl Tryz.ntmps90 rfl (fun fr => ?_)
  refine go ?_
  refine s_call2 (wn rfl) rfl rfl rfl (IndexFuncR_any fn caps p v xss vs w B E _ h1 hr hB hf) ?_
  rintro _ w1 ⟨⟨k, ⟨hk1, hk2, hk3⟩, rfl⟩, hb1⟩
  have h1a := h1.below hb1
  have hra := hr.below hb1
  have hbB := hb1.mono hB
  by_cases hkl : k < xss.length
  rotate_left
  · have hke : k = xss.length := by omega
    rw [if_neg hkl]
    have hneg : (-1 : Int) = -1 := rfl
    have hfil : xss.filter (fun xs => !p xs) = xss := by
      rw [List.filter_eq_self]
      intro xs hx
      obtain ⟨i, hi, rfl⟩ := mem_gr hx
      rw [hk2 i (by omega)]; rfl
    refine go ?_
    exact end_one Tryz.results90 rfl ⟨by rw [hfil]; exact hra.om h1a, hbB⟩
  rw [if_pos hkl]
  have hne : ¬ ((k : Int) = -1) := by omega
  have hlk : left p xss k = List.range k := left_all hk2
  refine go ?_
  refine w_loop (fun kk fr w' => ∃ (j : Nat) (cur : List Value), kk = xss.length - (j + 1) ∧ j + 1 ≤ xss.length ∧ fr 0 = v ∧ fr 1 = .func (.func fn) #[] caps ∧ fr 5 = .int .i64 (left p xss (j + 1)).length ∧ fr 6 = .int .i64 ((j : Int) + 1) ∧
      cur.length = xss.length ∧ cur.take (left p xss (j + 1)).length = (left p xss (j + 1)).map (fun i : Nat => vs.getD i (Value.slice none 0 0)) ∧ cur.drop (j + 1) = vs.drop (j + 1) ∧ (left p xss (j + 1)).length ≤ j ∧
      Own w' B 32 v cur ∧ Rws w' B E 2 vs xss ∧ Below B w w') (xss.length - (k + 1))
    ⟨k, vs, rfl, by omega, rfl, rfl, ?_, rfl, hl, ?_, rfl, ?_, h1a, hra, hbB⟩ ?_
  · rw [left_hit (hk3 hkl), hlk]; simp; rfl
  · rw [left_hit (hk3 hkl), hlk]
    refine List.ext_getElem (by simp; omega) fun i a1 a2 => ?_
    have hiv : i < vs.length := by simp at a1; omega
    simp [List.getD, hiv]
  · rw [left_hit (hk3 hkl), hlk]; simp
  rintro kk fr w2 ⟨j, cur, rfl, hj, f0, f1, f5, f6, hcl, hct, hcd, hle, ho, hr2, hb2⟩
  have so := ho.rd.sv
  rw [hcl] at so
  have hcap := so.le
  refine know (t := 0) f0 ?_; refine know (t := 1) f1 ?_; refine know (t := 5) f5 ?_; refine know (t := 6) f6 ?_
  refine go ?_
  refine cond_dec rfl (fun hlt => ?_) (fun hge => ?_)
  · obtain ⟨u, hu, hou⟩ := hr2.il (i := j + 1) (by omega)
    have hcu' : cur[j + 1]? = some u := by
      have h' := congrArg (fun l => l[0]?) hcd
      simp only [List.getElem?_drop, Nat.add_zero] at h'
      rw [h']; exact hu
    have hcu := ho.rd.cell hcu'
    have hto : (((j : Int) + 1).toNat) = j + 1 := by omega
    rw [← hto] at hcu
    refine go ?_
    refine s_callV1 (wn rfl) rfl rfl rfl (hf _ _ _ hb2 (gr_in (by omega)) hou.il) ?_
    rintro _ w3 ⟨rfl, hb3⟩
    have hs2 := hb2.size
    have ho3 := ho.below hb3
    have hr3 := hr2.below hb3
    have hb3 := hb2.trans (hb3.mono (by omega))
    have hcd2 : cur.drop (j + 1 + 1) = vs.drop (j + 1 + 1) := by have := congrArg (List.drop 1) hcd; simpa [List.drop_drop] using this
    refine splitb (p (gr xss (j + 1 : Nat))) (fun hp => ?_) (fun hp => ?_)
    · refine go ?_
      refine ⟨xss.length - (j + 1 + 1), by omega, j + 1, cur, rfl, by omega, rfl, rfl, by rw [left_hit hp]; rfl, by show Value.int _ _ = _; congr 1, hcl, by rw [left_hit hp]; exact hct, ?_, by rw [left_hit hp]; omega, ho3, hr3, hb3⟩
      exact hcd2
    · have hs3 := hb3.size
      refine go ?_
      have hli : ((((left p xss (j + 1)).length : Nat) : Int)).toNat = (left p xss (j + 1)).length := by omega
      refine s_store (j := (left p xss (j + 1)).length) (wn rfl) (by rw [← hli]; rfl) rfl hou.sv.one ho3 (by omega) (fun w4 ho4 hg4 => ?_)
      have hr4 := hr3.turn ho3 (by decide) hg4
      have hb4 := hb3.trans (grownBy_below hg4 (by omega) (fun k hk => (ho3.lt k hk).1))
      refine go ?_
      refine ⟨xss.length - (j + 1 + 1), by omega, j + 1, cur.set (left p xss (j + 1)).length u, rfl, by omega, rfl, rfl, ?_, by show Value.int _ _ = _; congr 1, by simp [hcl], ?_, ?_, ?_, ho4, hr4, hb4⟩
      · rw [left_miss hp]; simp; rfl
      · rw [left_miss hp, List.map_append, List.length_append]
        simp only [List.length_cons, List.length_nil, List.map_cons, List.map_nil]
        rw [List.take_succ_eq_append_getElem (by simp; omega), List.take_set_of_le (Nat.le_refl _), hct]
        simp [List.getD, hu]
      · rw [List.drop_set_of_lt (by omega)]; exact hcd2
      · rw [left_miss hp]; simp; omega
  · have hjn : j + 1 = xss.length := by omega
    rw [hjn] at hct hcd hle ⊢
    refine go ?_
    refine s_p (wn rfl) rfl (y_cut_lo rfl rfl ho.rd (by omega) (by omega)) ?_
    have hli : ((((left p xss xss.length).length : Nat) : Int)).toNat = (left p xss xss.length).length := by omega
    rw [hli]
    refine s_clear (wn rfl) rfl ho (by omega) (fun w4 ho4 hg4 => ?_)
    have hr4 := hr2.turn ho (by decide) hg4
    have hs2 := hb2.size
    have hb4 := hb2.trans (grownBy_below hg4 (by omega) (fun k hk => (ho.lt k hk).1))
    refine go ?_
    refine s_p (wn rfl) rfl (y_cut_hi rfl rfl ho4.rd (by omega) (by simp; omega)) ?_
    rw [hli]
    have hfin := ho4.cut (l := 0) (r := (left p xss xss.length).length) (by omega) (by simp; omega)
    have hvals : ((((cur.take (left p xss xss.length).length ++ List.replicate (cur.length - (left p xss xss.length).length) (Value.slice none 0 0))).take (left p xss xss.length).length).drop 0) = (left p xss xss.length).map (fun i : Nat => vs.getD i (Value.slice none 0 0)) := by
      rw [List.drop_zero, List.take_append_of_le_length (by simp; omega), List.take_take, Nat.min_self, hct]
    rw [hvals] at hfin
    have hpick := hr4.pick (I := left p xss xss.length) (fun i hi => left_lt i hi) left_climb (z := Value.slice none 0 0)
    rw [left_gr] at hpick
    refine go ?_
    exact end_one Tryz.results90 rfl ⟨hpick.om hfin, hb4⟩

theorem SV.cells {v : Value} {m : Nat} (h : SV v m) : v.cells = #[v] := by
  obtain ⟨a, cap, rfl, _⟩ := h.out
  rfl
theorem OI.beside {w w' : World} {B B' E : Nat} {T U : TypeId} {v ob : Value} {xs : List Int} {xss : List (List Int)} (h : OI w B U v xs) (ho : OM w B' E T U ob xss) (hT : T ≠ U) (hg : w.grownBy w' ob.ownBlock) : OI w' B U v xs := by
  obtain ⟨vs, h1, _⟩ := ho.out
  exact h.kept hg (h.own.apart_type h1 (fun e => hT e.symm))
theorem filterMap_take {f : Int → Option (List Int)} {L : List Int} {k : Nat} (hk : k < L.length) : (L.take (k + 1)).filterMap f = (L.take k).filterMap f ++ (f (gi L k)).toList := by
  rw [take_gi hk, List.filterMap_append]
  cases h : f (gi L k) <;> simp [h]
theorem filterMap_le {f : Int → Option (List Int)} (L : List Int) : (L.filterMap f).length ≤ L.length := List.length_filterMap_le f L

set_option maxRecDepth 100000 in
theorem deckMoves1_any (u : Value) (ps : List Int) (q : Addr) (v3 : Value) (xs : List Int) (w : World) (hu : IL w u ps) (hq : w.cell? q = some v3) (hv3 : IL w v3 xs) (hp : ∀ x ∈ ps, 0 ≤ x ∧ x < xs.length) (hl : ps.length ≤ 1000000) :
    Ret Tryz.prog 91 #[u, .pointer (some q)] w fun r w' => r = .bool (!decide (aft ps xs = xs)) ∧ Below w.heap.size w w' := by
  have shu := hu.sv
  have hb := Below.refl w.heap.size w
  refine enter2 10 Tryz.func91 rfl Tryz.ntmps91 rfl (fun fr => ?_)
  refine go ?_
  refine region_h mixed (fun w1 hc1 => ?_)
  have swr1 := hc1.size
  refine h_p 0 hc1 ?_
  refine h_p 1 hc1 ?_
  refine h_p 3 hc1 ?_
  refine h_one 2 ?_
  refine s_call2 (wn rfl) rfl rfl rfl (then_any _ _ _ _ _ (hu.below hc1) (hv3.below hc1) hp hl) ?_
  rintro x w2 ⟨hx, hb2⟩
  have hc2 := hc1.trans (hb2.mono hc1.size)
  refine w_nil ?_
  refine h_on ⟨hc2, ?_⟩
  refine h_one 4 ?_
  refine s_call2 (wn rfl) rfl rfl rfl (Equal_any _ _ _ _ _ hx.il (hv3.below hc2)) ?_
  rintro _ w3 ⟨rfl, hb3⟩
  have hc3 := hc2.trans (hb3.mono hc2.size)
  replace hx := hx.below hb3
  refine w_nil ?_
  refine h_on ⟨hc3, ?_⟩
  refine h_p 5 hc3 ?_
  refine h_p 6 hc3 ?_
  refine h_nil ?_
  have sw3 := hc3.size
  replace hu := hu.below hc3
  replace hq := cell_below hq hc3
  replace hv3 := hv3.below hc3
  replace hb := hb.trans (hc3.mono hb.size)
  refine go ?_
  exact end_one Tryz.results91 rfl ⟨rfl, hb⟩

set_option maxHeartbeats 8000000 in
set_option maxRecDepth 100000 in
theorem deckMoves_any (v : Value) (v3 : Value) (ms : List (List Int)) (xs : List Int) (w : World) (hv : RL w v ms) (hv3 : IL w v3 xs) (ks : List (List Int)) (hm : IsMan ms) (hk : IsMan ks) (hc : IsCov ms ks xs) :
    Ret Tryz.prog 50 #[.agg #[v], v3] w fun r w' => OM w' w.heap.size w'.heap.size 32 2 r (deck ms xs) ∧ Below w.heap.size w w' := by
  have shv := hv.sv
  have shv3 := hv3.sv
  have hb := Below.refl w.heap.size w
  refine enter2 10 Tryz.func50 rfl Tryz.ntmps50 rfl (fun fr => ?_)
  have h4 := hm.m0.f400
  have hal := auts_le hm
  have hxl := hc.1
  have hom := (hc.hom hm hk).2
  refine go ?_
  refine s_box (wn rfl) rfl rfl (agg_cells shv) (fun w1 hbx _ hp hg => ?_)
  have hb1 := below_of_grownBy hg
  have sw1 := hb1.size
  replace hv := hv.below hb1
  replace hv3 := hv3.below hb1
  replace hb := hb.trans (hb1.mono hb.size)
  clear hg hp hb1
  generalize (⟨w.heap.size, 0, none⟩ : Addr) = p at *
  refine s_box (wn rfl) rfl rfl (SV.cells shv3) (fun w2 hbq _ hp hg => ?_)
  have hb2 := below_of_grownBy hg
  have sw2 := hb2.size
  replace hv := hv.below hb2
  replace hv3 := hv3.below hb2
  replace hbx := cell_below hbx hb2
  replace hb := hb.trans (hb2.mono hb.size)
  clear hg hp hb2
  generalize (⟨w1.heap.size, 0, none⟩ : Addr) = q at *
  have hs0 := hb.size
  have hbqx := hbq
  have hv3x := hv3
  refine go ?_
  refine s_call2 (wn rfl) rfl rfl rfl (coveringsOf_any _ _ _ _ _ hv hv hm hm) ?_
  rintro x w3 ⟨hx, hb3⟩
  have sw3 := hb3.size
  replace hv := hv.below hb3
  replace hv3 := hv3.below hb3
  replace hbx := cell_below hbx hb3
  replace hbq := cell_below hbq hb3
  replace hb := hb.trans (hb3.mono hb.size)
  refine go ?_
  refine s_p (wn rfl) rfl (y_fn1 rfl) ?_
  have hszx := hb3.size
  refine s_call2 (wn rfl) rfl rfl rfl (DeleteFunc_any 91 _ (fun ps => !decide (aft ps xs = xs)) _ _ _ w2.heap.size _ hx (by omega) (by unfold auts at hal; omega) (fun w' u ps hbw hps hu => ?_)) ?_
  · have hp := (mem_auts hm).1 hps
    have hbb := hb3.trans hbw
    refine deckMoves1_any _ _ q _ xs _ hu (cell_below hbqx hbb) (hv3x.below hbb) (fun x hx => ?_) (by rw [hp.len]; omega)
    obtain ⟨j, hj, rfl⟩ := in_gi hx
    rw [hxl]
    exact hp.rng j (by omega) (by rw [← hp.len]; omega)
  rintro y w4 ⟨hy, hby⟩
  have hd : (covers ms ms (nf ms)).filter (fun ps => !(!decide (aft ps xs = xs))) = deck ms xs := by
    rw [← deck_filter hm hk hc]
    exact List.filter_congr fun p hp => by simp
  rw [hd] at hy
  have hbf := hb.trans (hby.mono (by omega))
  refine go ?_
  exact end_one Tryz.results50 rfl ⟨(hy.mono hs0).top, hbf⟩

set_option maxHeartbeats 8000000 in
set_option maxRecDepth 100000 in
theorem implIsNormalCovering_any (v : Value) (v2 : Value) (v3 : Value) (ms : List (List Int)) (ks : List (List Int)) (xs : List Int) (w : World) (hv : RL w v ms) (hv2 : RL w v2 ks) (hv3 : IL w v3 xs) :
    Ret Tryz.prog 14 #[.agg #[v], .agg #[v2], v3] w fun r w' => r = .tuple #[.bool (isNorm ms ks xs), .int .i64 (covC ms ks xs)] ∧ Below w.heap.size w w' := by
  have shv := hv.sv
  have shv2 := hv2.sv
  have shv3 := hv3.sv
  have hb := Below.refl w.heap.size w
  refine enter3 24 Tryz.func14 rfl Tryz.ntmps14 rfl (fun fr => ?_)
  refine go ?_
  refine s_box (wn rfl) rfl rfl (agg_cells shv) (fun w1 hbx _ hp hg => ?_)
  have hb1 := below_of_grownBy hg
  have sw1 := hb1.size
  replace hv := hv.below hb1
  replace hv2 := hv2.below hb1
  replace hv3 := hv3.below hb1
  replace hb := hb.trans (hb1.mono hb.size)
  clear hg hp hb1
  generalize (⟨w.heap.size, 0, none⟩ : Addr) = p at *
  refine go ?_
  refine s_box (wn rfl) rfl rfl (agg_cells shv2) (fun w2 hbx2 _ hp hg => ?_)
  have hb2 := below_of_grownBy hg
  have sw2 := hb2.size
  replace hv := hv.below hb2
  replace hv2 := hv2.below hb2
  replace hv3 := hv3.below hb2
  replace hbx := cell_below hbx hb2
  replace hb := hb.trans (hb2.mono hb.size)
  clear hg hp hb2
  generalize (⟨w1.heap.size, 0, none⟩ : Addr) = p2 at *
  refine go ?_
  refine s_call3 (wn rfl) rfl rfl rfl rfl (coveringCode_any _ _ _ _ _ _ _ hv hv2 hv3) ?_
  rintro _ w3 ⟨rfl, hb3⟩
  have sw3 := hb3.size
  replace hv := hv.below hb3
  replace hv2 := hv2.below hb3
  replace hv3 := hv3.below hb3
  replace hbx := cell_below hbx hb3
  replace hbx2 := cell_below hbx2 hb3
  replace hb := hb.trans (hb3.mono hb.size)
  by_cases h : covC ms ks xs = 0
  rotate_left
  · have h2 : covC ms ks xs ≠ 0 := h
    have e := isNorm_no h
    refine go ?_
    exact end_two Tryz.results14 rfl rfl ⟨by rw [e], hb⟩
  obtain ⟨hm, hk, hc⟩ := covC_0 h
  have h' : ¬ (covC ms ks xs ≠ 0) := fun h' => h' h
  have e := isNorm_yes h
  have h4 := hm.m0.f400
  have h1 := hm.m0.r1
  have k1 := hk.m0.r1
  have k4 := hk.m0.f400
  have hxl := hc.1
  have hdl := deck_le (xs := xs) hm
  refine go ?_
  refine s_call2 (wn rfl) rfl rfl rfl (deckMoves_any _ _ _ _ _ hv hv3 ks hm hk hc) ?_
  rintro x w4 ⟨hx, hb4⟩
  have sw4 := hb4.size
  replace hv := hv.below hb4
  replace hv2 := hv2.below hb4
  replace hv3 := hv3.below hb4
  replace hbx := cell_below hbx hb4
  replace hbx2 := cell_below hbx2 hb4
  replace hb := hb.trans (hb4.mono hb.size)
  have sx := hx.sv
  refine go ?_
  refine s_call1 (wn rfl) rfl rfl (sizeR_any _ _ _ sx) ?_
  rintro _ _ ⟨rfl, rfl⟩
  refine go ?_
  refine s_call1 (wn rfl) rfl rfl (flags_any _ _ _ _ hbx2 hv2 k1) ?_
  rintro _ _ ⟨rfl, rfl⟩
  have hml : ((deck ms xs).length : Int) * (nf ks : Int) ≤ 400 * 400 := by
    have a1 : ((deck ms xs).length : Int) * (nf ks : Int) ≤ 400 * (nf ks : Int) := Int.mul_le_mul_of_nonneg_right (by omega) (by omega)
    omega
  have hm0 : 0 ≤ ((deck ms xs).length : Int) * (nf ks : Int) := Int.mul_nonneg (by omega) (by omega)
  refine go ?_
  refine s_p (wn rfl) rfl (y_mul rfl rfl (by omega)) ?_
  refine go ?_
  refine s_call1 (wn rfl) rfl rfl (flags_any _ _ _ _ hbx hv h1) ?_
  rintro _ _ ⟨rfl, rfl⟩
  have hn := norm_iff hm hk hc
  have hcast : ((deck ms xs).length : Int) * (nf ks : Int) = (((deck ms xs).length * nf ks : Nat) : Int) := by rw [Int.natCast_mul]
  have ee : decide (((deck ms xs).length : Int) * (nf ks : Int) = (nf ms : Int)) = decide ((deck ms xs).length = (plc xs 0).length) := by rw [decide_eq_decide, ← hn, hcast]; omega
  refine go ?_
  exact end_two Tryz.results14 rfl rfl ⟨by rw [e, h, ← ee], hb⟩

end Go.Proofs.YtablpijnjkncfaaGreat
