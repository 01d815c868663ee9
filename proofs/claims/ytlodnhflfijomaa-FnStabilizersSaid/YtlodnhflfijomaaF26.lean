/- Contracts: rows taken out of an owned list, by a function that tells which. -/
import Derived.Test.YtlodnhflfijomaaFG
import Derived.Test.YtlodnhflfijomaaWC
import Derived.Test.YtlodnhflfijomaaFE
namespace Go.Proofs.Ytlodnhflfijomaa
open Go.Mem Go.RowKit
set_option linter.unusedVariables false

/-- where the first row is for which p holds (or -1) -/
def idxR (p : List Int → Bool) (xss : List (List Int)) (k : Nat) : Prop := k ≤ xss.length ∧ (∀ i, i < k → p (gr xss i) = false) ∧ (k < xss.length → p (gr xss k) = true)

set_option maxRecDepth 100000 in
theorem IndexFuncR_any (fn : FuncId) [FunTy Try.prog fn] (caps : Array Value) (p : List Int → Bool) (v : Value) (xss : List (List Int)) (vs : List Value) (w : World) (B E : Nat) (T : TypeId) (hv : Own w B T v vs) (hr : Rws w B E 2 vs xss) (hB : B ≤ w.heap.size)
    (hf : ∀ (w' : World) (u : Value) (xs : List Int), Below B w w' → xs ∈ xss → IL w' u xs → Ret Try.prog fn (#[u] ++ caps) w' fun r w'' => r = .bool (p xs) ∧ Below w'.heap.size w' w'') :
    Ret Try.prog 171 #[v, .func (.func fn) #[] caps] w fun r w' => (∃ k : Nat, idxR p xss k ∧ r = .int .i64 (if k < xss.length then (k : Int) else -1)) ∧ Below w.heap.size w w' := by
  have sv : SV v xss.length := by have := hv.rd.sv; rwa [hr.len] at this
  have scap := sv.le
  refine enter2 19 Try.func171 rfl Try.ntmps171 rfl (fun fr => ?_)
  refine go ?_
  refine w_loop (fun kk fr w' => ∃ (i : Nat), kk = xss.length - i ∧ i ≤ xss.length ∧ fr 0 = v ∧ fr 1 = .func (.func fn) #[] caps ∧ fr 7 = .int .i64 xss.length ∧ fr 8 = .int .i64 i ∧ (∀ j, j < i → p (gr xss j) = false) ∧ Below w.heap.size w w') xss.length
    ⟨0, rfl, Nat.zero_le _, rfl, rfl, rfl, rfl, fun j hj => by omega, Below.refl _ _⟩ ?_
  rintro kk fr w2 ⟨i, rfl, hi, f0, f1, f7, f8, hall, hb⟩
  have hv2 := hv.below hb
  have hr2 := hr.below hb
  refine know (t := 0) f0 ?_; refine know (t := 1) f1 ?_; refine know (t := 7) f7 ?_; refine know (t := 8) f8 ?_
  refine go ?_
  refine cond_dec rfl (fun hlt => ?_) (fun hge => ?_)
  · obtain ⟨u, hu, hou⟩ := hr2.il (i := i) (by omega)
    have hcu := hv2.rd.cell hu
    have hto : ((i : Int)).toNat = i := by omega
    rw [← hto] at hcu
    refine go ?_
    refine s_callV1 (wn rfl) rfl rfl rfl (hf _ _ _ (hb.mono hB) (gr_in (by omega)) hou.il) ?_
    rintro _ w3 ⟨rfl, hb3⟩
    have hb3 := hb.trans (hb3.mono hb.size)
    refine splitb (p (gr xss i)) (fun hp => ?_) (fun hp => ?_)
    · refine go ?_
      exact end_one Try.results171 rfl ⟨⟨i, ⟨by omega, hall, fun _ => hp⟩, by rw [if_pos (by omega)]⟩, hb3⟩
    · refine go ?_
      exact ⟨xss.length - (i + 1), by omega, i + 1, rfl, by omega, rfl, rfl, rfl, rfl, fun j hj => by by_cases hji : j = i; (subst hji; exact hp); exact hall j (by omega), hb3⟩
  · obtain rfl : i = xss.length := by omega
    refine go ?_
    exact end_one Try.results171 rfl ⟨⟨xss.length, ⟨Nat.le_refl _, hall, fun h => by omega⟩, by rw [if_neg (by omega)]⟩, hb⟩

set_option maxRecDepth 100000 in
set_option maxHeartbeats 8000000 in
theorem DeleteFunc_any (fn : FuncId) [FunTy Try.prog fn] (caps : Array Value) (p : List Int → Bool) (v : Value) (xss : List (List Int)) (w : World) (B E : Nat) (hv : OM w B E 40 2 v xss) (hB : B ≤ w.heap.size) (hn : xss.length ≤ 1000000)
    (hf : ∀ (w' : World) (u : Value) (xs : List Int), Below B w w' → xs ∈ xss → IL w' u xs → Ret Try.prog fn (#[u] ++ caps) w' fun r w'' => r = .bool (p xs) ∧ Below w'.heap.size w' w'') :
    Ret Try.prog 123 #[v, .func (.func fn) #[] caps] w fun r w' => OM w' B E 40 2 r (xss.filter fun xs => !p xs) ∧ Below B w w' := by
  obtain ⟨vs, h1, hr⟩ := hv.rws
  have hl := hr.len
  have sv : SV v xss.length := by have := h1.rd.sv; rwa [hl] at this
  refine enter2 42 Try.func123 rfl Try.ntmps123 rfl (fun fr => ?_)
  refine go ?_
  refine s_call2 (wn rfl) rfl rfl rfl (IndexFuncR_any fn caps p v xss vs w B E _ h1 hr hB hf) ?_
  rintro _ w1 ⟨⟨k, ⟨hk1, hk2, hk3⟩, rfl⟩, hb1⟩
  have h1a := h1.below hb1
  have hra := hr.below hb1
  have hbB := hb1.mono hB
  by_cases hkl : k < xss.length
  rotate_left
  · have hke : k = xss.length := by omega
    rw [if_neg hkl]
    have hneg : (-1 : Int) = -1 := rfl
    have hfil : xss.filter (fun xs => !p xs) = xss := by
      rw [List.filter_eq_self]
      intro xs hx
      obtain ⟨i, hi, rfl⟩ := mem_gr hx
      rw [hk2 i (by omega)]; rfl
    refine go ?_
    exact end_one Try.results123 rfl ⟨by rw [hfil]; exact hra.om h1a, hbB⟩
  rw [if_pos hkl]
  have hne : ¬ ((k : Int) = -1) := by omega
  have hlk : left p xss k = List.range k := left_all hk2
  refine go ?_
  refine w_loop (fun kk fr w' => ∃ (j : Nat) (cur : List Value), kk = xss.length - (j + 1) ∧ j + 1 ≤ xss.length ∧ fr 0 = v ∧ fr 1 = .func (.func fn) #[] caps ∧ fr 5 = .int .i64 (left p xss (j + 1)).length ∧ fr 6 = .int .i64 ((j : Int) + 1) ∧
      cur.length = xss.length ∧ cur.take (left p xss (j + 1)).length = (left p xss (j + 1)).map (fun i : Nat => vs.getD i (Value.slice none 0 0)) ∧ cur.drop (j + 1) = vs.drop (j + 1) ∧ (left p xss (j + 1)).length ≤ j ∧
      Own w' B 40 v cur ∧ Rws w' B E 2 vs xss ∧ Below B w w') (xss.length - (k + 1))
    ⟨k, vs, rfl, by omega, rfl, rfl, ?_, rfl, hl, ?_, rfl, ?_, h1a, hra, hbB⟩ ?_
  · rw [left_hit (hk3 hkl), hlk]; simp; rfl
  · rw [left_hit (hk3 hkl), hlk]
    refine List.ext_getElem (by simp; omega) fun i a1 a2 => ?_
    have hiv : i < vs.length := by simp at a1; omega
    simp [List.getD, hiv]
  · rw [left_hit (hk3 hkl), hlk]; simp
  rintro kk fr w2 ⟨j, cur, rfl, hj, f0, f1, f5, f6, hcl, hct, hcd, hle, ho, hr2, hb2⟩
  have so := ho.rd.sv
  rw [hcl] at so
  have hcap := so.le
  refine know (t := 0) f0 ?_; refine know (t := 1) f1 ?_; refine know (t := 5) f5 ?_; refine know (t := 6) f6 ?_
  refine go ?_
  refine cond_dec rfl (fun hlt => ?_) (fun hge => ?_)
  · obtain ⟨u, hu, hou⟩ := hr2.il (i := j + 1) (by omega)
    have hcu' : cur[j + 1]? = some u := by
      have h' := congrArg (fun l => l[0]?) hcd
      simp only [List.getElem?_drop, Nat.add_zero] at h'
      rw [h']; exact hu
    have hcu := ho.rd.cell hcu'
    have hto : (((j : Int) + 1).toNat) = j + 1 := by omega
    rw [← hto] at hcu
    refine go ?_
    refine s_callV1 (wn rfl) rfl rfl rfl (hf _ _ _ hb2 (gr_in (by omega)) hou.il) ?_
    rintro _ w3 ⟨rfl, hb3⟩
    have hs2 := hb2.size
    have ho3 := ho.below hb3
    have hr3 := hr2.below hb3
    have hb3 := hb2.trans (hb3.mono (by omega))
    have hcd2 : cur.drop (j + 1 + 1) = vs.drop (j + 1 + 1) := by have := congrArg (List.drop 1) hcd; simpa [List.drop_drop] using this
    refine splitb (p (gr xss (j + 1 : Nat))) (fun hp => ?_) (fun hp => ?_)
    · refine go ?_
      refine ⟨xss.length - (j + 1 + 1), by omega, j + 1, cur, rfl, by omega, rfl, rfl, by rw [left_hit hp]; rfl, by show Value.int _ _ = _; congr 1, hcl, by rw [left_hit hp]; exact hct, ?_, by rw [left_hit hp]; omega, ho3, hr3, hb3⟩
      exact hcd2
    · have hs3 := hb3.size
      refine go ?_
      have hli : ((((left p xss (j + 1)).length : Nat) : Int)).toNat = (left p xss (j + 1)).length := by omega
      refine s_store (j := (left p xss (j + 1)).length) (wn rfl) (by rw [← hli]; rfl) rfl hou.sv.one ho3 (by omega) (fun w4 ho4 hg4 => ?_)
      have hr4 := hr3.turn ho3 (by decide) hg4
      have hb4 := hb3.trans (grownBy_below hg4 (by omega) (fun k hk => (ho3.lt k hk).1))
      refine go ?_
      refine ⟨xss.length - (j + 1 + 1), by omega, j + 1, cur.set (left p xss (j + 1)).length u, rfl, by omega, rfl, rfl, ?_, by show Value.int _ _ = _; congr 1, by simp [hcl], ?_, ?_, ?_, ho4, hr4, hb4⟩
      · rw [left_miss hp]; simp; rfl
      · rw [left_miss hp, List.map_append, List.length_append]
        simp only [List.length_cons, List.length_nil, List.map_cons, List.map_nil]
        rw [List.take_succ_eq_append_getElem (by simp; omega), List.take_set_of_le (Nat.le_refl _), hct]
        simp [List.getD, hu]
      · rw [List.drop_set_of_lt (by omega)]; exact hcd2
      · rw [left_miss hp]; simp; omega
  · have hjn : j + 1 = xss.length := by omega
    rw [hjn] at hct hcd hle ⊢
    refine go ?_
    refine s_p (wn rfl) rfl (y_cut_lo rfl rfl ho.rd (by omega) (by omega)) ?_
    have hli : ((((left p xss xss.length).length : Nat) : Int)).toNat = (left p xss xss.length).length := by omega
    rw [hli]
    refine s_clear (wn rfl) rfl ho (by omega) (fun w4 ho4 hg4 => ?_)
    have hr4 := hr2.turn ho (by decide) hg4
    have hs2 := hb2.size
    have hb4 := hb2.trans (grownBy_below hg4 (by omega) (fun k hk => (ho.lt k hk).1))
    refine go ?_
    refine s_p (wn rfl) rfl (y_cut_hi rfl rfl ho4.rd (by omega) (by simp; omega)) ?_
    rw [hli]
    have hfin := ho4.cut (l := 0) (r := (left p xss xss.length).length) (by omega) (by simp; omega)
    have hvals : ((((cur.take (left p xss xss.length).length ++ List.replicate (cur.length - (left p xss xss.length).length) (Value.slice none 0 0))).take (left p xss xss.length).length).drop 0) = (left p xss xss.length).map (fun i : Nat => vs.getD i (Value.slice none 0 0)) := by
      rw [List.drop_zero, List.take_append_of_le_length (by simp; omega), List.take_take, Nat.min_self, hct]
    rw [hvals] at hfin
    have hpick := hr4.pick (I := left p xss xss.length) (fun i hi => left_lt i hi) left_climb (z := Value.slice none 0 0)
    rw [left_gr] at hpick
    refine go ?_
    exact end_one Try.results123 rfl ⟨hpick.om hfin, hb4⟩

theorem SV.cells {v : Value} {m : Nat} (h : SV v m) : v.cells = #[v] := by
  obtain ⟨a, cap, rfl, _⟩ := h.out
  rfl
theorem OI.beside {w w' : World} {B B' E : Nat} {T U : TypeId} {v ob : Value} {xs : List Int} {xss : List (List Int)} (h : OI w B U v xs) (ho : OM w B' E T U ob xss) (hT : T ≠ U) (hg : w.grownBy w' ob.ownBlock) : OI w' B U v xs := by
  obtain ⟨vs, h1, _⟩ := ho.out
  exact h.kept hg (h.own.apart_type h1 (fun e => hT e.symm))
theorem filterMap_take {f : Int → Option (List Int)} {L : List Int} {k : Nat} (hk : k < L.length) : (L.take (k + 1)).filterMap f = (L.take k).filterMap f ++ (f (gi L k)).toList := by
  rw [take_gi hk, List.filterMap_append]
  cases h : f (gi L k) <;> simp [h]
theorem filterMap_le {f : Int → Option (List Int)} (L : List Int) : (L.filterMap f).length ≤ L.length := List.length_filterMap_le f L

end Go.Proofs.Ytlodnhflfijomaa
