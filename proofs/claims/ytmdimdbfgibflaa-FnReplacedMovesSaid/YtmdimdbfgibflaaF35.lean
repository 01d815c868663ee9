/- Contracts: ReplaceMoves, on both sides. -/
import Derived.Test.YtmdimdbfgibflaaF33
import Derived.Test.YtmdimdbfgibflaaF26
namespace Go.Mem
noncomputable instance (ms ws : List (List Int)) : Decidable (∀ w ∈ ws, IsWord ms w) := Classical.propDecidable _
/-- one to five words -/
def WordsOk (ms ws : List (List Int)) : Prop := 1 ≤ ws.length ∧ ws.length ≤ 5 ∧ ∀ w ∈ ws, IsWord ms w
noncomputable instance (ms ws : List (List Int)) : Decidable (WordsOk ms ws) := Classical.propDecidable _
noncomputable def rmL (ms ws : List (List Int)) : List (List Int) := if IsMan ms ∧ WordsOk ms ws then replL ms ws else []
noncomputable def rmC (ms ws : List (List Int)) : Int := if IsMan ms then (if WordsOk ms ws then replC ms ws else 2) else 1
section
variable {ms ws : List (List Int)}
theorem rm_1 (h : ¬ IsMan ms) : rmL ms ws = [] ∧ rmC ms ws = 1 := ⟨if_neg fun e => h e.1, if_neg h⟩
theorem rm_2 (hm : IsMan ms) (h : ¬ WordsOk ms ws) : rmL ms ws = [] ∧ rmC ms ws = 2 := ⟨if_neg fun e => h e.2, by unfold rmC; rw [if_pos hm, if_neg h]⟩
theorem rm_3 (hm : IsMan ms) (h : WordsOk ms ws) : rmL ms ws = replL ms ws ∧ rmC ms ws = replC ms ws := ⟨if_pos ⟨hm, h⟩, by unfold rmC; rw [if_pos hm, if_pos h]⟩
theorem rmL_len (ms ws : List (List Int)) : 1 + tot (rmL ms ws) ≤ 4000000000000000000 := by
  unfold rmL
  split
  · exact replL_len _ _
  · simp [tot]
end
end Go.Mem
namespace Go.Proofs.Ytmdimdbfgibflaa
open Go.Mem Go.RowKit
set_option linter.unusedVariables false

set_option maxRecDepth 100000 in
theorem IndexFuncRL_any (fn : FuncId) [FunTy Try.prog fn] (caps : Array Value) (p : List Int → Bool) (v : Value) (xss : List (List Int)) (w : World) (hv : RL w v xss)
    (hf : ∀ (w' : World) (u : Value) (xs : List Int), Below w.heap.size w w' → xs ∈ xss → IL w' u xs → Ret Try.prog fn (#[u] ++ caps) w' fun r w'' => r = .bool (p xs) ∧ Below w'.heap.size w' w'') :
    Ret Try.prog 128 #[v, .func (.func fn) #[] caps] w fun r w' => (∃ k : Nat, idxR p xss k ∧ r = .int .i64 (if k < xss.length then (k : Int) else -1)) ∧ Below w.heap.size w w' := by
  have sv := hv.sv
  have scap := sv.le
  refine enter2 19 Try.func128 rfl Try.ntmps128 rfl (fun fr => ?_)
  refine go ?_
  refine w_loop (fun kk fr w' => ∃ (i : Nat), kk = xss.length - i ∧ i ≤ xss.length ∧ fr 0 = v ∧ fr 1 = .func (.func fn) #[] caps ∧ fr 7 = .int .i64 xss.length ∧ fr 8 = .int .i64 i ∧ (∀ j, j < i → p (gr xss j) = false) ∧ Below w.heap.size w w') xss.length
    ⟨0, rfl, Nat.zero_le _, rfl, rfl, rfl, rfl, fun j hj => by omega, Below.refl _ _⟩ ?_
  rintro kk fr w2 ⟨i, rfl, hi, f0, f1, f7, f8, hall, hb⟩
  have hv2 := hv.below hb
  refine know (t := 0) f0 ?_; refine know (t := 1) f1 ?_; refine know (t := 7) f7 ?_; refine know (t := 8) f8 ?_
  refine go ?_
  refine cond_dec rfl (fun hlt => ?_) (fun hge => ?_)
  · obtain ⟨u, hu, hcu⟩ := hv2.row (j := (i : Int)) (by omega) (by omega)
    refine go ?_
    refine s_callV1 (wn rfl) rfl rfl rfl (hf _ _ _ hb (gr_in (by omega)) hu) ?_
    rintro _ w3 ⟨rfl, hb3⟩
    have hb3 := hb.trans (hb3.mono hb.size)
    refine splitb (p (gr xss i)) (fun hp => ?_) (fun hp => ?_)
    · refine go ?_
      exact end_one Try.results128 rfl ⟨⟨i, ⟨by omega, hall, fun _ => hp⟩, by rw [if_pos (by omega)]⟩, hb3⟩
    · refine go ?_
      exact ⟨xss.length - (i + 1), by omega, i + 1, rfl, by omega, rfl, rfl, rfl, rfl, fun j hj => by by_cases hji : j = i; (subst hji; exact hp); exact hall j (by omega), hb3⟩
  · obtain rfl : i = xss.length := by omega
    refine go ?_
    exact end_one Try.results128 rfl ⟨⟨xss.length, ⟨Nat.le_refl _, hall, fun h => by omega⟩, by rw [if_neg (by omega)]⟩, hb⟩

theorem ContainsFuncRL_any (fn : FuncId) [FunTy Try.prog fn] (caps : Array Value) (p : List Int → Bool) (v : Value) (xss : List (List Int)) (w : World) (hv : RL w v xss)
    (hf : ∀ (w' : World) (u : Value) (xs : List Int), Below w.heap.size w w' → xs ∈ xss → IL w' u xs → Ret Try.prog fn (#[u] ++ caps) w' fun r w'' => r = .bool (p xs) ∧ Below w'.heap.size w' w'') :
    Ret Try.prog 70 #[v, .func (.func fn) #[] caps] w fun r w' => r = .bool (xss.any p) ∧ Below w.heap.size w w' := by
  refine enter2 9 Try.func70 rfl Try.ntmps70 rfl (fun fr => ?_)
  refine go ?_
  refine s_call2 (wn rfl) rfl rfl rfl (IndexFuncRL_any fn caps p v xss w hv hf) ?_
  rintro _ w2 ⟨⟨k, ⟨h1, h2, h3⟩, rfl⟩, hb⟩
  have e : decide (0 ≤ (if k < xss.length then (k : Int) else -1)) = xss.any p := by
    by_cases hk : k < xss.length
    · rw [if_pos hk, decide_eq_true (by omega), Eq.comm, List.any_eq_true]
      exact ⟨_, gr_in hk, h3 hk⟩
    · rw [if_neg hk, decide_eq_false (by omega), Eq.comm, List.any_eq_false]
      intro x hx
      obtain ⟨j, hj, rfl⟩ := mem_gr hx
      rw [h2 j (by omega)]; simp
  refine go ?_
  exact end_one Try.results70 rfl ⟨by rw [← e], hb⟩

set_option maxHeartbeats 8000000 in
set_option maxRecDepth 100000 in
theorem specReplaceMoves_any (v : Value) (v2 : Value) (ms : List (List Int)) (ws : List (List Int)) (w : World) (hv : RL w v ms) (hv2 : RL w v2 ws) :
    Ret Try.prog 13 #[.agg #[v], v2] w fun r w' => ∃ x, r = .tuple #[.agg #[x], .int .i64 (rmC ms ws)] ∧ OM w' w.heap.size w'.heap.size 34 2 x (rmL ms ws) ∧ Below w.heap.size w w' := by
  have shv := hv.sv
  have shv2 := hv2.sv
  have hb := Below.refl w.heap.size w
  refine enter2 46 Try.func13 rfl Try.ntmps13 rfl (fun fr => ?_)
  have scap := shv2.le
  refine go ?_
  refine s_box (wn rfl) rfl rfl (agg_cells shv) (fun w1 hbx _ hp hg => ?_)
  have hb1 := below_of_grownBy hg
  have sw1 := hb1.size
  replace hv := hv.below hb1
  replace hv2 := hv2.below hb1
  replace hb := hb.trans (hb1.mono hb.size)
  clear hg hp hb1
  generalize (⟨w.heap.size, 0, none⟩ : Addr) = p at *
  have sz0 := hb.size
  refine s_alloc (B := w.heap.size) (wn rfl) rfl (by first | exact Nat.le_refl _ | omega) (fun w2 p4 hx4 hg2 hpp4 => ?_)
  have hb2 := below_of_grownBy hg2
  have sw2 := hb2.size
  replace hv := hv.below hb2
  replace hv2 := hv2.below hb2
  replace hbx := cell_below hbx hb2
  replace hb := hb.trans (hb2.mono hb.size)
  have hlt4 := hx4.lt
  have sz1 := hb.size
  refine go ?_
  refine s_call1 (wn rfl) rfl rfl (l02Is_any _ _ _ hv) ?_
  rintro _ w3 ⟨rfl, hb3⟩
  have sw3 := hb3.size
  replace hv := hv.below hb3
  replace hv2 := hv2.below hb3
  replace hbx := cell_below hbx hb3
  replace hx4 := hx4.below hb3
  replace hb := hb.trans (hb3.mono hb.size)
  refine splitb (decide (IsMan ms)) (fun hm => ?_) (fun hm => ?_)
  rotate_left
  · have hm' := of_decide_eq_false hm
    have e := rm_1 (ws := ws) hm'
    have hbY := hb
    refine go ?_
    refine s_p (wn rfl) rfl y_bld0 ?_
    refine s_storeBox (wn rfl) rfl rfl rfl hx4 (fun w4 hxz hgz => ?_)
    have hbz := hbY.trans (hx4.below_of hgz hbY.size)
    refine go ?_
    exact end_cellT Try.results13 rfl rfl hxz.cell ⟨_, by rw [e.2], by rw [e.1]; exact OM.nil _ _ _ _ _, hbz⟩
  have hm' := of_decide_eq_true hm
  have r5 := hm'.m0.r5
  have r1 := hm'.m0.r1
  refine go ?_
  by_cases hl1 : (ws.length : Int) < 1
  · have e := rm_2 (ws := ws) hm' (fun h => by have := h.1; omega)
    have hbY := hb
    refine go ?_
    refine s_p (wn rfl) rfl y_bld0 ?_
    refine s_storeBox (wn rfl) rfl rfl rfl hx4 (fun w5 hxz hgz => ?_)
    have hbz := hbY.trans (hx4.below_of hgz hbY.size)
    refine go ?_
    exact end_cellT Try.results13 rfl rfl hxz.cell ⟨_, by rw [e.2], by rw [e.1]; exact OM.nil _ _ _ _ _, hbz⟩
  by_cases hl5 : (5 : Int) < ws.length
  · have e := rm_2 (ws := ws) hm' (fun h => by have := h.2.1; omega)
    have hbY := hb
    refine go ?_
    refine s_p (wn rfl) rfl y_bld0 ?_
    refine s_storeBox (wn rfl) rfl rfl rfl hx4 (fun w6 hxz hgz => ?_)
    have hbz := hbY.trans (hx4.below_of hgz hbY.size)
    refine go ?_
    exact end_cellT Try.results13 rfl rfl hxz.cell ⟨_, by rw [e.2], by rw [e.1]; exact OM.nil _ _ _ _ _, hbz⟩
  refine go ?_
  have sbs1 := hb.size
  have hv_b1 := hv
  have hv2_b1 := hv2
  have hbx_b1 := hbx
  have hx4_b1 := hx4
  have hbB1 := Below.refl w3.heap.size w3
  refine w_loop (fun kk fr w' => ∃ (i : Nat), kk = ws.length - i ∧ i ≤ ws.length ∧ fr 1 = v2 ∧ fr 2 = .pointer (some p) ∧ fr 4 = .pointer (some p4) ∧ fr 6 = .int .i64 i ∧ (∀ j : Nat, j < i → IsWord ms (gr ws j)) ∧ Below w3.heap.size w3 w') (ws.length)
    ⟨0, rfl, Nat.zero_le _, rfl, rfl, rfl, rfl, fun j hj => by omega, hbB1⟩ ?_
  rintro kk fr w7 ⟨i, rfl, hi, f1, f2, f4, f6, hall, hbB1⟩
  have sw7 := hbB1.size
  have hv := hv_b1.below hbB1
  have hv2 := hv2_b1.below hbB1
  have hbx := cell_below hbx_b1 hbB1
  have hx4 := hx4_b1.below hbB1
  refine know (t := 1) f1 ?_; refine know (t := 2) f2 ?_; refine know (t := 4) f4 ?_; refine know (t := 6) f6 ?_
  refine go ?_
  refine cond_dec rfl (fun hlt => ?_) (fun hge => ?_)
  · obtain ⟨u, hu, hcu⟩ := hv2.row (j := (i : Int)) (by omega) hlt
    have su := hu.sv
    refine go ?_
    refine region_h mixed (fun w8 hc8 => ?_)
    have swr8 := hc8.size
    refine h_p 0 hc8 ?_
    refine h_p 1 hc8 ?_
    refine h_p 2 hc8 ?_
    refine h_p 3 hc8 ?_
    refine h_p 4 hc8 ?_
    refine h_one 5 ?_
    refine s_call2 (wn rfl) rfl rfl rfl (l02Word_any _ _ _ _ _ (hv.below hc8) (hu.below hc8) r1 r5) ?_
    rintro _ w9 ⟨rfl, hb9⟩
    have hc9 := hc8.trans (hb9.mono hc8.size)
    refine w_nil ?_
    refine h_on ⟨hc9, ?_⟩
    refine h_p 6 hc9 ?_
    refine h_nil ?_
    have sw9 := hc9.size
    replace hv := hv.below hc9
    replace hv2 := hv2.below hc9
    replace hbx := cell_below hbx hc9
    replace hx4 := hx4.below hc9
    replace hu := hu.below hc9
    replace hcu := cell_below hcu hc9
    replace hbB1 := hbB1.trans (hc9.mono hbB1.size)
    refine splitb (decide (IsWord ms (gr ws i))) (fun hw => ?_) (fun hw => ?_)
    rotate_left
    · have hw' := of_decide_eq_false hw
      have e := rm_2 (ws := ws) hm' (fun h => hw' (h.2.2 _ (gr_in (by omega))))
      have hbY := (hb.trans (hbB1.mono hb.size))
      refine go ?_
      refine s_p (wn rfl) rfl y_bld0 ?_
      refine s_storeBox (wn rfl) rfl rfl rfl hx4 (fun w10 hxz hgz => ?_)
      have hbz := hbY.trans (hx4.below_of hgz hbY.size)
      refine go ?_
      exact end_cellT Try.results13 rfl rfl hxz.cell ⟨_, by rw [e.2], by rw [e.1]; exact OM.nil _ _ _ _ _, hbz⟩
    have hw' := of_decide_eq_true hw
    refine go ?_
    refine ⟨ws.length - (i + 1), by omega, i + 1, rfl, by omega, rfl, rfl, rfl, rfl, fun j hj => by by_cases hji : j = i; (subst hji; exact hw'); exact hall j (by omega), hbB1⟩
  obtain rfl : i = ws.length := by omega
  have hwo : WordsOk ms ws := ⟨by omega, by omega, fun w hw => by obtain ⟨j, hj, rfl⟩ := mem_gr hw; exact hall j hj⟩
  have e := rm_3 hm' hwo
  refine go ?_
  refine s_call2 (wn rfl) rfl rfl rfl (l05Replace_any _ _ _ _ _ hv hv2 hm' hwo.2.2 (by omega) hwo.1) ?_
  rintro _ w11 ⟨x, rfl, hx, hb11⟩
  have sw11 := hb11.size
  replace hv := hv.below hb11
  replace hv2 := hv2.below hb11
  replace hbx := cell_below hbx hb11
  replace hx4 := hx4.below hb11
  replace hbB1 := hbB1.trans (hb11.mono hbB1.size)
  refine go ?_
  refine s_alloc (B := w11.heap.size) (wn rfl) rfl (Nat.le_refl _) (fun w12 p7 hx7 hg12 hpp7 => ?_)
  have hb12 := below_of_grownBy hg12
  refine go ?_
  refine s_storeBox (wn rfl) rfl rfl hx.sv.one hx7 (fun w13 hx7b hg7 => ?_)
  have hbq7 := hb12.trans (hx7.below_of hg7 hb12.size)
  have sw13 := hbq7.size
  replace hv := hv.below hbq7
  replace hv2 := hv2.below hbq7
  replace hbx := cell_below hbx hbq7
  replace hx4 := hx4.below hbq7
  replace hx := hx.below hbq7
  replace hbB1 := hbB1.trans (hbq7.mono hbB1.size)
  have hc7 := hx7b.cell
  refine splitb (decide (IsMan (repl ms ws))) (fun hk => ?_) (fun hk => ?_)
  rotate_left
  · have hk' := of_decide_eq_false hk
    have e1 : replL ms ws = [] := if_neg hk'
    have e2 : replC ms ws = 5 := if_neg hk'
    have hbY := (hb.trans (hbB1.mono hb.size))
    refine go ?_
    refine s_p (wn rfl) rfl y_bld0 ?_
    refine s_storeBox (wn rfl) rfl rfl rfl hx4 (fun w14 hxz hgz => ?_)
    have hbz := hbY.trans (hx4.below_of hgz hbY.size)
    refine go ?_
    exact end_cellT Try.results13 rfl rfl hxz.cell ⟨_, by rw [e.2, e2], by rw [e.1, e1]; exact OM.nil _ _ _ _ _, hbz⟩
  have hk' := of_decide_eq_true hk
  have e1 : replL ms ws = repl ms ws := if_pos hk'
  have e2 : replC ms ws = 0 := if_pos hk'
  have hbY := (hb.trans (hbB1.mono hb.size))
  refine go ?_
  refine s_storeBox (wn rfl) rfl rfl hx.sv.one hx4 (fun w15 hxz hgz => ?_)
  have hbz := hbY.trans (hx4.below_of hgz hbY.size)
  have hxN := hx.kept hgz (by omega)
  refine go ?_
  exact end_cellT Try.results13 rfl rfl hxz.cell ⟨x, by rw [e.2, e2], by rw [e.1, e1]; exact (hxN.mono (by omega)).top, hbz⟩

set_option maxHeartbeats 8000000 in
set_option maxRecDepth 100000 in
theorem repl1_any (u : Value) (wd : List Int) (q : Addr) (v : Value) (ms : List (List Int)) (w : World) (hu : IL w u wd) (hq : w.cell? q = some v) (hv : RL w v ms) :
    Ret Try.prog 71 #[u, .pointer (some q)] w fun r w' => r = .bool (!decide (IsWord ms wd)) ∧ Below w.heap.size w w' := by
  have shu := hu.sv
  have hb := Below.refl w.heap.size w
  refine enter2 7 Try.func71 rfl Try.ntmps71 rfl (fun fr => ?_)
  refine go ?_
  refine s_call2 (wn rfl) rfl rfl rfl (isWord_any _ _ _ _ _ _ hv hq hu) ?_
  rintro _ w1 ⟨rfl, hb1⟩
  have sw1 := hb1.size
  replace hu := hu.below hb1
  replace hb := hb.trans (hb1.mono hb.size)
  refine go ?_
  exact end_one Try.results71 rfl ⟨rfl, hb⟩

set_option maxHeartbeats 8000000 in
set_option maxRecDepth 100000 in
theorem implReplaceMoves_any (v : Value) (v2 : Value) (ms : List (List Int)) (ws : List (List Int)) (w : World) (hv : RL w v ms) (hv2 : RL w v2 ws) :
    Ret Try.prog 12 #[.agg #[v], v2] w fun r w' => ∃ x, r = .tuple #[.agg #[x], .int .i64 (rmC ms ws)] ∧ OM w' w.heap.size w'.heap.size 34 2 x (rmL ms ws) ∧ Below w.heap.size w w' := by
  have shv := hv.sv
  have shv2 := hv2.sv
  have hb := Below.refl w.heap.size w
  refine enter2 26 Try.func12 rfl Try.ntmps12 rfl (fun fr => ?_)
  have scap := shv2.le
  refine go ?_
  refine s_box (wn rfl) rfl rfl (agg_cells shv) (fun w1 hbx _ hp hg => ?_)
  have hb1 := below_of_grownBy hg
  have sw1 := hb1.size
  replace hv := hv.below hb1
  replace hv2 := hv2.below hb1
  replace hb := hb.trans (hb1.mono hb.size)
  clear hg hp hb1
  generalize (⟨w.heap.size, 0, none⟩ : Addr) = p at *
  have sz0 := hb.size
  refine s_alloc (B := w.heap.size) (wn rfl) rfl (by first | exact Nat.le_refl _ | omega) (fun w2 p4 hx4 hg2 hpp4 => ?_)
  have hb2 := below_of_grownBy hg2
  have sw2 := hb2.size
  replace hv := hv.below hb2
  replace hv2 := hv2.below hb2
  replace hbx := cell_below hbx hb2
  replace hb := hb.trans (hb2.mono hb.size)
  have hlt4 := hx4.lt
  have sz1 := hb.size
  refine go ?_
  refine s_call1 (wn rfl) rfl rfl (isManiplex_any _ _ _ hv) ?_
  rintro _ w3 ⟨rfl, hb3⟩
  have sw3 := hb3.size
  replace hv := hv.below hb3
  replace hv2 := hv2.below hb3
  replace hbx := cell_below hbx hb3
  replace hx4 := hx4.below hb3
  replace hb := hb.trans (hb3.mono hb.size)
  refine splitb (decide (IsMan ms)) (fun hm => ?_) (fun hm => ?_)
  rotate_left
  · have hm' := of_decide_eq_false hm
    have e := rm_1 (ws := ws) hm'
    have hbY := hb
    refine go ?_
    refine s_p (wn rfl) rfl y_bld0 ?_
    refine s_storeBox (wn rfl) rfl rfl rfl hx4 (fun w4 hxz hgz => ?_)
    have hbz := hbY.trans (hx4.below_of hgz hbY.size)
    refine go ?_
    exact end_cellT Try.results12 rfl rfl hxz.cell ⟨_, by rw [e.2], by rw [e.1]; exact OM.nil _ _ _ _ _, hbz⟩
  have hm' := of_decide_eq_true hm
  have r5 := hm'.m0.r5
  have r1 := hm'.m0.r1
  refine go ?_
  refine s_call1 (wn rfl) rfl rfl (sizeR_any _ _ _ hv2.sv) ?_
  rintro _ _ ⟨rfl, rfl⟩
  refine go ?_
  refine s_call3 (wn rfl) rfl rfl rfl rfl (within_any _ _ _ _) ?_
  rintro _ _ ⟨rfl, rfl⟩
  by_cases hl : 1 ≤ ws.length ∧ ws.length ≤ 5
  rotate_left
  · have hin : inB (ws.length : Int) 1 5 = false := by rw [inB_iff, decide_eq_false (by omega)]
    have hin' : (!inB (ws.length : Int) 1 5) = true := by rw [hin]; rfl
    have e := rm_2 (ws := ws) hm' (fun h => by have := h.1; have := h.2.1; omega)
    have hbY := hb
    refine go ?_
    refine s_p (wn rfl) rfl y_bld0 ?_
    refine s_storeBox (wn rfl) rfl rfl rfl hx4 (fun w5 hxz hgz => ?_)
    have hbz := hbY.trans (hx4.below_of hgz hbY.size)
    refine go ?_
    exact end_cellT Try.results12 rfl rfl hxz.cell ⟨_, by rw [e.2], by rw [e.1]; exact OM.nil _ _ _ _ _, hbz⟩
  have hin : inB (ws.length : Int) 1 5 = true := by rw [inB_iff, decide_eq_true (by omega)]
  have hin' : (!inB (ws.length : Int) 1 5) = false := by rw [hin]; rfl
  refine go ?_
  refine s_p (wy rfl rfl rfl rfl rfl known) rfl (y_fn1 rfl) ?_
  refine go ?_
  refine s_call2 (wy rfl rfl rfl rfl rfl known) rfl rfl rfl (ContainsFuncRL_any 71 _ (fun wd => !decide (IsWord ms wd)) _ _ _ hv2 (fun w' u wd hbw hwd hu => repl1_any _ _ p _ ms _ hu (cell_below hbx hbw) (hv.below hbw))) ?_
  rintro _ w6 ⟨rfl, hb6⟩
  have sw6 := hb6.size
  replace hv := hv.below hb6
  replace hv2 := hv2.below hb6
  replace hbx := cell_below hbx hb6
  replace hx4 := hx4.below hb6
  replace hb := hb.trans (hb6.mono hb.size)
  by_cases hwo : WordsOk ms ws
  rotate_left
  · have hany : ws.any (fun wd => !decide (IsWord ms wd)) = true := by
      rw [List.any_eq_true]
      refine Classical.byContradiction fun hn => hwo ⟨hl.1, hl.2, fun x hx => Classical.byContradiction fun hx' => hn ⟨x, hx, ?_⟩⟩
      rw [decide_eq_false hx']; rfl
    have e := rm_2 (ws := ws) hm' hwo
    have hbY := hb
    refine go ?_
    refine s_p (wn rfl) rfl y_bld0 ?_
    refine s_storeBox (wn rfl) rfl rfl rfl hx4 (fun w7 hxz hgz => ?_)
    have hbz := hbY.trans (hx4.below_of hgz hbY.size)
    refine go ?_
    exact end_cellT Try.results12 rfl rfl hxz.cell ⟨_, by rw [e.2], by rw [e.1]; exact OM.nil _ _ _ _ _, hbz⟩
  have hany : ws.any (fun wd => !decide (IsWord ms wd)) = false := by
    rw [List.any_eq_false]
    intro x hx
    rw [decide_eq_true (hwo.2.2 x hx)]; simp
  have e := rm_3 hm' hwo
  refine go ?_
  refine s_call2 (wn rfl) rfl rfl rfl (replaced_any _ _ _ _ _ _ hv hbx hv2 hm' hwo.2.2 (by omega) hwo.1) ?_
  rintro _ w8 ⟨x, rfl, hx, hb8⟩
  have sw8 := hb8.size
  replace hv := hv.below hb8
  replace hv2 := hv2.below hb8
  replace hbx := cell_below hbx hb8
  replace hx4 := hx4.below hb8
  replace hb := hb.trans (hb8.mono hb.size)
  have hbY := hb
  refine go ?_
  refine s_storeBox (wn rfl) rfl rfl hx.sv.one hx4 (fun w9 hxz hgz => ?_)
  have hbz := hbY.trans (hx4.below_of hgz hbY.size)
  have hxN := hx.kept hgz (by omega)
  refine go ?_
  exact end_cellT Try.results12 rfl rfl hxz.cell ⟨x, by rw [e.2], by rw [e.1]; exact (hxN.mono (by omega)).top, hbz⟩

end Go.Proofs.Ytmdimdbfgibflaa
