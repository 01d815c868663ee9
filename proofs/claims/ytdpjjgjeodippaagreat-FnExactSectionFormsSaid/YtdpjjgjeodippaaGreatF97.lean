/- Contracts: slices.CompactFunc and slices.Clone at maniplexes. -/
import Derived.Test.YtdpjjgjeodippaaGreatF42
import Derived.Test.YtdpjjgjeodippaaGreatMl
import Derived.Test.YtdpjjgjeodippaaGreatP46
namespace Go.Mem
open Go.RowKit Go.Lib
set_option linter.unusedVariables false
section
variable {ns : List (List (List Int))} {ws : List Value} {m j : Nat}
/-- the places of the first m at which another one stands than before it -/
def kp (ns : List (List (List Int))) (m : Nat) : List Nat := (List.range m).filter (keeps ns.toArray)
theorem kp_succ : kp ns (m + 1) = kp ns m ++ (if keeps ns.toArray m = true then [m] else []) := by
  unfold kp
  rw [List.range_succ, List.filter_append]
  congr 1
  by_cases h : keeps ns.toArray m = true <;> simp [h]
theorem kp_all (h : ∀ j, j < m → keeps ns.toArray j = true) : kp ns m = List.range m := List.filter_eq_self.2 fun a ha => h a (List.mem_range.1 ha)
theorem kp_len : (kp ns m).length ≤ m := Nat.le_trans (List.length_filter_le _ _) (by simp)
theorem kp_lt : ∀ i ∈ kp ns m, i < m := fun i hi => List.mem_range.1 (List.mem_filter.1 hi).1
theorem keeps_get (h1 : 1 ≤ m) (hm : m < ns.length) : keeps ns.toArray m = true ↔ ns.getD m [] ≠ ns.getD (m - 1) [] := by
  have e : ∀ t, t < ns.length → ns.toArray[t]! = ns.getD t [] := fun t ht => by
    rw [getElem!_pos ns.toArray t (by simpa using ht)]
    simp [List.getD, ht]
  unfold keeps
  rw [e m hm, e (m - 1) (by omega), decide_eq_true_iff]
  constructor
  · rintro (h | h)
    · omega
    · exact h
  · exact .inr
theorem all_getD (ws : List Value) : (List.range ws.length).map (fun i => ws.getD i undef) = ws := by
  apply List.ext_getElem
  · simp
  · intro t h1 h2; simp [List.getD, h2]
/-- the cells while it goes on -/
def cst (ws : List Value) (ns : List (List (List Int))) (m : Nat) : List Value := (kp ns m).map (fun i => ws.getD i undef) ++ ws.drop (kp ns m).length
theorem cst_len (hm : m ≤ ws.length) : (cst ws ns m).length = ws.length := by
  have := kp_len (ns := ns) (m := m)
  simp [cst]; omega
theorem cst_get (h : (kp ns m).length ≤ j) : (cst ws ns m)[j]? = ws[j]? := by
  unfold cst
  rw [List.getElem?_append_right (by simpa using h), List.getElem?_drop, List.length_map]
  congr 1; omega
theorem cst_skip (h : ¬ keeps ns.toArray m = true) : kp ns (m + 1) = kp ns m ∧ cst ws ns (m + 1) = cst ws ns m := by
  have e : kp ns (m + 1) = kp ns m := by rw [kp_succ, if_neg h, List.append_nil]
  exact ⟨e, by unfold cst; rw [e]⟩
theorem cst_take : (cst ws ns m).take (kp ns m).length = (kp ns m).map fun i => ws.getD i undef := by
  unfold cst
  rw [List.take_left' (by simp)]
theorem cst_set (h : keeps ns.toArray m = true) (hm : m < ws.length) : (cst ws ns m).set (kp ns m).length (ws.getD m undef) = cst ws ns (m + 1) ∧ (kp ns (m + 1)).length = (kp ns m).length + 1 := by
  have hl := kp_len (ns := ns) (m := m)
  have e : kp ns (m + 1) = kp ns m ++ [m] := by rw [kp_succ, if_pos h]
  refine ⟨?_, by rw [e]; simp⟩
  unfold cst
  rw [e, List.set_append_right _ _ (by simp)]
  simp only [List.length_map, Nat.sub_self, List.map_append, List.map_cons, List.map_nil, List.length_append, List.length_cons, List.length_nil, List.append_assoc]
  congr 1
  rw [List.drop_eq_getElem_cons (by omega), List.set_cons_zero]
  rfl
end
theorem cut_own {v : Value} {l r g : Nat} (h : (cut v l r).ownBlock = some g) : v.ownBlock = some g := by rw [← cut_block v l r]; exact h
end Go.Mem
namespace Go.Proofs.YtdpjjgjeodippaaGreat
open Go.Mem Go.RowKit
set_option linter.unusedVariables false
set_option linter.unusedSimpArgs false
instance : ElTy Tryz.prog 29 (.slice none 0 0) 24 := ⟨info_parts (by kernel_rfl), Tryz.isAgg29, rfl, by decide⟩

set_option maxHeartbeats 8000000 in
set_option maxRecDepth 100000 in
theorem CompactFunc_any (v : Value) (ws : List Value) (ns : List (List (List Int))) (B : Nat) (w : World) (ho : Own w B 29 v ws) (hE : Els w 38 2 ws ns) (hl : ws.length ≤ 1000000) :
    Ret Tryz.prog 73 #[v, .func (.func 51) #[] #[]] w fun r w' => Own w' B 29 r ((kp ns ws.length).map fun i => ws.getD i undef) ∧ w.grownBy w' v.ownBlock ∧ (∀ g, r.ownBlock = some g → v.ownBlock = some g) := by
  have hlen := hE.len
  have shv := ho.sv
  have scap := shv.le
  have hg0 : w.grownBy w v.ownBlock := grownBy_of_below (Below.refl _ _) _
  refine enter2 66 Tryz.func73 rfl Tryz.ntmps73 rfl (fun fr => ?_)
  refine go ?_
  refine cond_dec rfl (fun h2 => ?_) (fun h2 => ?_)
  · refine go ?_
    exact end_one Tryz.results73 rfl ⟨by rw [kp_all (fun j hj => Lib.keeps_lt_one _ j (by omega)), all_getD]; exact ho, hg0, fun _ h => h⟩
  refine go ?_
  refine w_loop (fun kk fr w' => ∃ k : Nat, kk = ws.length - k ∧ 1 ≤ k ∧ k ≤ ws.length ∧ fr 0 = v ∧ fr 1 = .func (.func 51) #[] #[] ∧ fr 5 = .int .i64 k ∧ (∀ j, j < k → Lib.keeps ns.toArray j = true) ∧ w.grownBy w' v.ownBlock ∧ Own w' B 29 v ws) (ws.length - 1)
    ⟨1, rfl, by omega, by omega, rfl, rfl, rfl, Lib.keeps_lt_one _, hg0, ho⟩ ?_
  rintro kk fr w1 ⟨k, rfl, hk1, hk, f0, f1, f5, hall, hg, ho1⟩
  refine know (t := 0) f0 ?_; refine know (t := 1) f1 ?_; refine know (t := 5) f5 ?_
  refine go ?_
  refine cond_dec rfl (fun hlt => ?_) (fun hge => ?_)
  rotate_left
  · obtain rfl : k = ws.length := by omega
    refine go ?_
    exact end_one Tryz.results73 rfl ⟨by rw [kp_all hall, all_getD]; exact ho1, hg, fun _ h => h⟩
  have hkl : k < ws.length := by omega
  have hE1 := hE.kept ho (by decide) (by decide) hg
  have c1 : w1.cell? (addrOf v ((k : Int)).toNat) = some (ws.getD k undef) := by
    rw [show ((k : Int)).toNat = k by omega]
    exact ho1.rd.cell (by simp [List.getD, hkl])
  have c2 : w1.cell? (addrOf v ((k : Int) - 1).toNat) = some (ws.getD (k - 1) undef) := by
    rw [show ((k : Int) - 1).toNat = k - 1 by omega]
    exact ho1.rd.cell (by simp [List.getD, show k - 1 < ws.length by omega])
  obtain ⟨_, _, m1⟩ := hE1.row k (ws.getD k undef) (ns.getD k []) (by simp [List.getD, hkl]) (by simp [List.getD, show k < ns.length by omega])
  obtain ⟨_, _, m2⟩ := hE1.row (k - 1) (ws.getD (k - 1) undef) (ns.getD (k - 1) []) (by simp [List.getD, show k - 1 < ws.length by omega]) (by simp [List.getD, show k - 1 < ns.length by omega])
  have r1 := m1.rl
  have r2 := m2.rl
  clear m1 m2 hE1
  refine go ?_
  refine region_hS (fun w' => w'.cell? (addrOf v ((k : Int)).toNat) = some (ws.getD k undef) ∧ w'.cell? (addrOf v ((k : Int) - 1).toNat) = some (ws.getD (k - 1) undef)) mixed (fun w2 cr => ?_)
  replace hg := grownBy_trans hg (grownBy_of_below cr _)
  replace ho1 := ho1.below cr
  replace c1 := cell_below c1 cr
  replace c2 := cell_below c2 cr
  replace r1 := r1.below cr
  replace r2 := r2.below cr
  refine h_p 0 ⟨c1, c2⟩ ?_ (hrun := fun w' h => by obtain ⟨h1, h2⟩ := h; exact yl)
  refine h_p 1 ⟨c1, c2⟩ ?_ (hrun := fun w' h => by obtain ⟨h1, h2⟩ := h; exact yl)
  refine h_p 2 ⟨c1, c2⟩ ?_ (hrun := fun w' h => by obtain ⟨h1, h2⟩ := h; exact yl)
  refine h_p 3 ⟨c1, c2⟩ ?_ (hrun := fun w' h => y_idxSE rfl rfl shv (by omega) (by omega))
  refine h_p 4 ⟨c1, c2⟩ ?_ (hrun := fun w' h => by obtain ⟨h1, h2⟩ := h; exact yl)
  refine h_p 5 ⟨c1, c2⟩ ?_ (hrun := fun w' h => by obtain ⟨h1, h2⟩ := h; exact yl)
  refine h_p 6 ⟨c1, c2⟩ ?_ (hrun := fun w' h => by obtain ⟨h1, h2⟩ := h; exact yl)
  refine h_p 7 ⟨c1, c2⟩ ?_ (hrun := fun w' h => by obtain ⟨h1, h2⟩ := h; exact yl)
  refine h_p 8 ⟨c1, c2⟩ ?_ (hrun := fun w' h => y_idxSE rfl rfl shv (by omega) (by omega))
  refine h_p 9 ⟨c1, c2⟩ ?_ (hrun := fun w' h => by obtain ⟨h1, h2⟩ := h; exact yl)
  refine h_one 10 ?_
  refine s_callV2 (wn rfl) rfl rfl rfl rfl (sameManiplex_any _ _ _ _ _ r1 r2) ?_
  rintro _ w3 ⟨rfl, hb3⟩
  replace hg := grownBy_trans hg (grownBy_of_below hb3 _)
  replace ho1 := ho1.below hb3
  replace c1 := cell_below c1 hb3
  replace c2 := cell_below c2 hb3
  refine w_nil ?_
  refine h_on ⟨⟨c1, c2⟩, ?_⟩
  refine h_nil ?_
  by_cases he : ns.getD k [] = ns.getD (k - 1) []
  rotate_left
  · rw [decide_eq_false he]
    refine go ?_
    refine ⟨ws.length - (k + 1), by omega, k + 1, rfl, by omega, by omega, rfl, rfl, rfl, fun j hj => ?_, hg, ho1⟩
    by_cases hjk : j = k
    · subst hjk; exact (keeps_get (by omega) (by omega)).2 he
    · exact hall j (by omega)
  rw [decide_eq_true he]
  have hnk : ¬ Lib.keeps ns.toArray k = true := fun h => (keeps_get (by omega) (by omega)).1 h he
  have hk0 : kp ns (k + 1) = List.range k := by rw [(cst_skip (ws := ws) hnk).1, kp_all hall]
  have hk0l : (kp ns (k + 1)).length = k := by rw [hk0]; simp
  have hc0 : cst ws ns (k + 1) = ws := by
    unfold cst
    rw [hk0l, hk0]
    have e1 : (List.range k).map (fun i => ws.getD i undef) = ws.take k := by
      apply List.ext_getElem
      · simp; omega
      · intro t h1 h3
        have ht : t < k := by simpa using h1
        simp [List.getD, show t < ws.length by omega]
    rw [e1, List.take_append_drop]
  refine go ?_
  refine s_p (wn rfl) rfl (y_cut_loE rfl rfl ho1.rd (by omega) (by omega)) ?_
  rw [show ((k : Int)).toNat = k by omega]
  have scut := shv.cut (l := k) (r := ws.length) (by omega) (Nat.le_refl _)
  refine go ?_
  refine w_loop (fun kk fr w' => ∃ k2 : Nat, kk = ws.length - k - k2 ∧ 1 ≤ k2 ∧ k + k2 ≤ ws.length ∧ fr 0 = v ∧ fr 1 = .func (.func 51) #[] #[] ∧ fr 5 = .int .i64 (kp ns (k + k2)).length ∧ fr 6 = cut v k ws.length ∧ fr 7 = .int .i64 k2 ∧ (kp ns (k + k2)).length < k + k2 ∧ w.grownBy w' v.ownBlock ∧ Own w' B 29 v (cst ws ns (k + k2))) (ws.length - k - 1)
    ⟨1, rfl, by omega, by omega, rfl, rfl, by rw [hk0l]; rfl, rfl, rfl, by omega, hg, by rw [hc0]; exact ho1⟩ ?_
  clear hg ho1 c1 c2 r1 r2 hall f0 f1 f5
  rintro kk fr w4 ⟨k2, rfl, h21, h2l, f0, f1, f5, f6, f7, hcl, hg, ho1⟩
  refine know (t := 0) f0 ?_; refine know (t := 1) f1 ?_; refine know (t := 5) f5 ?_; refine know (t := 6) f6 ?_; refine know (t := 7) f7 ?_
  have hcs := cst_len (ws := ws) (ns := ns) (m := k + k2) (by omega)
  refine go ?_
  refine cond_dec rfl (fun hlt2 => ?_) (fun hge2 => ?_)
  rotate_left
  · -- the rest is cleared
    have hm : k + k2 = ws.length := by omega
    have hkl : (kp ns (k + k2)).length ≤ ws.length := by omega
    have he : kp ns ws.length = kp ns (k + k2) := by rw [hm]
    rw [he]
    refine go ?_
    refine s_p (wn rfl) rfl (y_cut_loE rfl rfl ho1.rd (by omega) (by omega)) ?_
    rw [Int.toNat_natCast]
    refine s_clearE (wn rfl) rfl ho1 (by omega) (fun w5 ho5 hg5 => ?_)
    have hg6 := grownBy_trans hg hg5
    rw [cst_take] at ho5
    refine go ?_
    refine s_p (wn rfl) rfl (y_cut_hiE rfl rfl ho5.rd (by omega) (by simp; omega)) ?_
    rw [Int.toNat_natCast]
    have hoc := ho5.cut (l := 0) (r := (kp ns (k + k2)).length) (by omega) (by simp)
    rw [List.take_left' (by simp)] at hoc
    refine go ?_
    exact end_one Tryz.results73 rfl ⟨hoc, hg6, fun g h => cut_own h⟩
  have hml : k + k2 < ws.length := by omega
  have hE1 := hE.kept ho (by decide) (by decide) hg
  have hrc := ho1.rd.cut (l := k) (r := ws.length) (by omega) (by omega)
  have hat : ∀ t : Nat, k + t < ws.length → (kp ns (k + k2)).length ≤ k + t → (((cst ws ns (k + k2)).take ws.length).drop k)[t]? = some (ws.getD (k + t) undef) := fun t ht hle => by
    rw [List.getElem?_drop, List.take_of_length_le (by omega), cst_get hle]
    simp [List.getD, ht]
  have c1 : w4.cell? (addrOf (cut v k ws.length) ((k2 : Int)).toNat) = some (ws.getD (k + k2) undef) := by
    rw [show ((k2 : Int)).toNat = k2 by omega]
    exact hrc.cell (hat k2 (by omega) (by omega))
  have c2 : w4.cell? (addrOf (cut v k ws.length) ((k2 : Int) - 1).toNat) = some (ws.getD (k + (k2 - 1)) undef) := by
    rw [show ((k2 : Int) - 1).toNat = k2 - 1 by omega]
    exact hrc.cell (hat (k2 - 1) (by omega) (by omega))
  rw [show k + (k2 - 1) = k + k2 - 1 by omega] at c2
  obtain ⟨_, _, m1⟩ := hE1.row (k + k2) (ws.getD (k + k2) undef) (ns.getD (k + k2) []) (by simp [List.getD, hml]) (by simp [List.getD, show k + k2 < ns.length by omega])
  obtain ⟨_, _, m2⟩ := hE1.row (k + k2 - 1) (ws.getD (k + k2 - 1) undef) (ns.getD (k + k2 - 1) []) (by simp [List.getD, show k + k2 - 1 < ws.length by omega]) (by simp [List.getD, show k + k2 - 1 < ns.length by omega])
  have r1 := m1.rl
  have r2 := m2.rl
  have hone := m1.sv.one
  clear m1 m2 hE1 hrc
  refine go ?_
  refine region_hS (fun w' => w'.cell? (addrOf (cut v k ws.length) ((k2 : Int)).toNat) = some (ws.getD (k + k2) undef) ∧ w'.cell? (addrOf (cut v k ws.length) ((k2 : Int) - 1).toNat) = some (ws.getD (k + k2 - 1) undef)) mixed (fun w5 cr => ?_)
  replace hg := grownBy_trans hg (grownBy_of_below cr _)
  replace ho1 := ho1.below cr
  replace c1 := cell_below c1 cr
  replace c2 := cell_below c2 cr
  replace r1 := r1.below cr
  replace r2 := r2.below cr
  refine h_p 0 ⟨c1, c2⟩ ?_ (hrun := fun w' h => by obtain ⟨h1, h2⟩ := h; exact yl)
  refine h_p 1 ⟨c1, c2⟩ ?_ (hrun := fun w' h => by obtain ⟨h1, h2⟩ := h; exact yl)
  refine h_p 2 ⟨c1, c2⟩ ?_ (hrun := fun w' h => by obtain ⟨h1, h2⟩ := h; exact yl)
  refine h_p 3 ⟨c1, c2⟩ ?_ (hrun := fun w' h => y_idxSE rfl rfl scut (by omega) (by omega))
  refine h_p 4 ⟨c1, c2⟩ ?_ (hrun := fun w' h => by obtain ⟨h1, h2⟩ := h; exact yl)
  refine h_p 5 ⟨c1, c2⟩ ?_ (hrun := fun w' h => by obtain ⟨h1, h2⟩ := h; exact yl)
  refine h_p 6 ⟨c1, c2⟩ ?_ (hrun := fun w' h => by obtain ⟨h1, h2⟩ := h; exact yl)
  refine h_p 7 ⟨c1, c2⟩ ?_ (hrun := fun w' h => by obtain ⟨h1, h2⟩ := h; exact yl)
  refine h_p 8 ⟨c1, c2⟩ ?_ (hrun := fun w' h => y_idxSE rfl rfl scut (by omega) (by omega))
  refine h_p 9 ⟨c1, c2⟩ ?_ (hrun := fun w' h => by obtain ⟨h1, h2⟩ := h; exact yl)
  refine h_one 10 ?_
  refine s_callV2 (wn rfl) rfl rfl rfl rfl (sameManiplex_any _ _ _ _ _ r1 r2) ?_
  rintro _ w6 ⟨rfl, hb6⟩
  replace hg := grownBy_trans hg (grownBy_of_below hb6 _)
  replace ho1 := ho1.below hb6
  replace c1 := cell_below c1 hb6
  replace c2 := cell_below c2 hb6
  refine w_nil ?_
  refine h_on ⟨⟨c1, c2⟩, ?_⟩
  refine h_p 11 ⟨c1, c2⟩ ?_ (hrun := fun w' h => by obtain ⟨h1, h2⟩ := h; exact yl)
  refine h_nil ?_
  by_cases he2 : ns.getD (k + k2) [] = ns.getD (k + k2 - 1) []
  · rw [decide_eq_true he2]
    have hnk2 : ¬ Lib.keeps ns.toArray (k + k2) = true := fun h => (keeps_get (by omega) (by omega)).1 h he2
    obtain ⟨s1, s2⟩ := cst_skip (ws := ws) hnk2
    refine go ?_
    exact ⟨ws.length - k - (k2 + 1), by omega, k2 + 1, rfl, by omega, by omega, rfl, rfl, by rw [show k + (k2 + 1) = k + k2 + 1 from rfl, s1]; rfl, rfl, rfl, by rw [show k + (k2 + 1) = k + k2 + 1 from rfl, s1]; omega, hg, by rw [show k + (k2 + 1) = k + k2 + 1 from rfl, s2]; exact ho1⟩
  · rw [decide_eq_false he2]
    have hyk : Lib.keeps ns.toArray (k + k2) = true := (keeps_get (by omega) (by omega)).2 he2
    obtain ⟨s1, s2⟩ := cst_set (ws := ws) hyk hml
    refine go ?_
    refine s_p (wn rfl) rfl (y_idxSE rfl rfl scut (by omega) (by omega)) ?_
    refine go ?_
    refine s_p (wn rfl) rfl (y_idxSE rfl rfl shv (by omega) (by omega)) ?_
    rw [Int.toNat_natCast]
    refine s_storeE (wn rfl) rfl rfl hone ho1 (by omega) (fun w7 ho7 hg7 => ?_)
    rw [Int.toNat_natCast, s1] at ho7
    have hg8 := grownBy_trans hg hg7
    refine go ?_
    exact ⟨ws.length - k - (k2 + 1), by omega, k2 + 1, rfl, by omega, by omega, rfl, rfl, by show Value.int _ _ = _; rw [show k + (k2 + 1) = k + k2 + 1 from rfl, s2]; rfl, rfl, rfl, by rw [show k + (k2 + 1) = k + k2 + 1 from rfl, s2]; omega, hg8, ho7⟩
end Go.Proofs.YtdpjjgjeodippaaGreat
