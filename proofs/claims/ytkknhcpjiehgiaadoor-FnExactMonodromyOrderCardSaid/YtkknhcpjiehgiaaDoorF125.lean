/- Contracts: MonodromyOrder, the program's side. Condition: the table of powers of ten reads as its initialiser lays it. -/
import Derived.Test.YtkknhcpjiehgiaaDoorFE
import Derived.Test.YtkknhcpjiehgiaaDoorF120
import Derived.Test.YtkknhcpjiehgiaaDoorF123
import Derived.Test.YtkknhcpjiehgiaaDoorF124
namespace Go.Mem
open Go.RowKit
set_option linter.unusedVariables false
/-- what the map holds -/
def seenKv (E : List (List Int)) : List (Value × Value) := E.map fun q => (txtV q, .bool true)
section
variable {E : List (List Int)} {q : List Int}
theorem seenKv_snoc (E : List (List Int)) (q : List Int) : seenKv (E ++ [q]) = seenKv E ++ [(txtV q, .bool true)] := by simp [seenKv]
theorem txtV_str (q : List Int) : IsStr (txtV q) := ⟨_, rfl⟩
theorem seenKv_key (E : List (List Int)) : ∀ x ∈ seenKv E, IsStr x.1 := fun x hx => by
  obtain ⟨i, _, rfl⟩ := List.mem_map.1 hx
  exact txtV_str _
theorem seenKv_miss (hE : ∀ m ∈ E, ∀ x ∈ m, 0 ≤ x) (hq : ∀ x ∈ q, 0 ≤ x) (h : q ∉ E) : ∀ x ∈ seenKv E, IsStr x.1 ∧ x.1 ≠ txtV q := fun x hx => by
  obtain ⟨m, hm, rfl⟩ := List.mem_map.1 hx
  exact ⟨txtV_str _, fun e => h (txtV_inj (hE m hm) hq e ▸ hm)⟩
theorem first_at {α : Type} {q : α} : ∀ {E : List α}, q ∈ E → ∃ i : Nat, E[i]? = some q ∧ ∀ j, j < i → E[j]? ≠ some q
  | [], h => by cases h
  | a :: E, h => by
    by_cases e : a = q
    · exact ⟨0, by simp [e], fun j hj => by omega⟩
    · have h' : q ∈ E := by
        rcases List.mem_cons.1 h with h1 | h1
        · exact absurd h1.symm e
        · exact h1
      obtain ⟨i, h1, h2⟩ := first_at h'
      refine ⟨i + 1, by simpa using h1, fun j hj => ?_⟩
      cases j with
      | zero => simpa using e
      | succ j => simpa using h2 j (by omega)
theorem seenKv_hit (hE : ∀ m ∈ E, ∀ x ∈ m, 0 ≤ x) (hq : ∀ x ∈ q, 0 ≤ x) (h : q ∈ E) : ∃ i : Nat, (seenKv E)[i]? = some (txtV q, .bool true) ∧ ∀ j x, j < i → (seenKv E)[j]? = some x → x.1 ≠ txtV q := by
  obtain ⟨i, h1, h2⟩ := first_at h
  refine ⟨i, by simp [seenKv, h1], fun j x hj hx e => ?_⟩
  simp only [seenKv, List.getElem?_map, Option.map_eq_some_iff] at hx
  obtain ⟨m, hm, rfl⟩ := hx
  exact h2 j hj (by rw [hm, txtV_inj (hE m (List.mem_of_getElem? hm)) hq e])
end
theorem mnTo_pos (n : Nat) (A : List (List Int)) (i : Nat) : 1 ≤ (mnTo n A i).length := by
  have := mnTo_mono n A 0 i
  rw [Nat.zero_add] at this
  exact this
end Go.Mem
namespace Go.Proofs.YtkknhcpjiehgiaaDoor
open Go.Mem Go.RowKit
set_option linter.unusedVariables false
set_option linter.unusedSimpArgs false
instance : MapTy Tryd.prog 55 9 4 (.bool false) := ⟨Tryd.underlying55, fun _ => by kernel_rfl⟩
instance : KeyTy Tryd.prog 9 IsStr := keyTy_string Tryd.underlying9

set_option maxHeartbeats 8000000 in
set_option maxRecDepth 100000 in
theorem groupElements_any (v : Value) (A : List (List Int)) (n : Nat) (w : World) (hv : RL w v A) (hA : ∀ m ∈ A, IsEl n m) (hn1 : 1 ≤ n) (hn : n ≤ 1000) (hl : A.length ≤ 1000) (hT : Lib.TabIs Tryd.prog w "internal/strconv.uint64pow10" .u64 Lib.pow10Tab) :
    Ret Tryd.prog 15 #[.int .i64 n, v] w fun r w' => ∃ x, r = .tuple #[x, .bool (decide (mnOk n A))] ∧ (mnOk n A → SV x (mnAll n A).length) ∧ Below w.heap.size w w' := by
  have shv := hv.sv
  have hTB := Lib.tabBelow_of_tabIs hT
  have elb : ∀ m, IsEl n m → (∀ x ∈ m, 0 ≤ x ∧ x ≤ 1000000) ∧ (∀ x ∈ m, 0 ≤ x) ∧ m ≠ [] ∧ m.length ≤ 1000 := fun m h =>
    ⟨fun x hx => by have := h.2 x hx; omega, fun x hx => (h.2 x hx).1, fun e => by have := h.1; rw [e] at this; simp at this; omega, by rw [h.1]; exact hn⟩
  refine enter2 59 Tryd.func15 rfl Tryd.ntmps15 rfl (fun fr => ?_)
  refine go ?_
  refine s_call1 (wn rfl) rfl rfl (identity_any _ n (by omega)) ?_
  rintro u0 w1 ⟨hu0, hb1⟩
  have sz1 := hb1.size
  refine go ?_
  refine s_build1V (B := w.heap.size) (wn rfl) rfl rfl hu0.sv.one sz1 (fun fv0 w2 hf0 sf0 hg2 hfb => ?_)
  have hb2 := below_of_grownBy hg2
  have hb12 := hb1.trans (hb2.mono sz1)
  have sz2 := hb12.size
  have hF0 := LR.one hf0 ⟨_, hu0.below hb2⟩
  refine go ?_
  refine s_makeMap (B := w.heap.size) (wn rfl) rfl sz2 (fun w3 mr hM3 hg3 hmr => ?_)
  have hb3 := below_of_grownBy hg3
  have hb13 := hb12.trans (hb3.mono sz2)
  have sz3 := hb13.size
  have hF3 := hF0.below hb3
  obtain ⟨x0, ⟨Bx0, hx0⟩, hcx0⟩ := hF3.row (j := 0) (by omega) (by simp)
  have sx0 := hx0.sv
  have sF3 : SV fv0 1 := hF3.sv
  have e0 : gr [idl n] 0 = idl n := rfl
  rw [e0] at hx0 sx0
  obtain ⟨k1, k2, k3, k4⟩ := elb _ (isEl_idl n)
  refine go ?_
  refine s_call1 (wn rfl) rfl rfl (keyOf_any _ _ _ hx0.il k1 k3 k4 (hTB.on hb13).here) ?_
  rintro _ w4 ⟨rfl, hb4⟩
  have hb14 := hb13.trans (hb4.mono sz3)
  have sz4 := hb14.size
  have hM4 := hM3.below hb4
  refine go ?_
  refine s_insert (wn rfl) rfl rfl rfl hM4 (txtV_str _) (by simp) (fun w5 hM5 hg5 => ?_)
  have hb15 := hb14.trans (hM4.below_of hg5 sz4)
  have hF5 := (hF3.below hb4).map hM4 hg5
  refine go ?_
  refine w_loop (fun kk fr w' => ∃ (i : Nat) (fv : Value), kk = 1001 - i ∧ i ≤ (mnTo n A i).length ∧ (mnTo n A i).length ≤ 1000 ∧ fr 1 = v ∧ fr 6 = fv ∧ fr 7 = .map (some mr) ∧ fr 8 = .int .i64 i ∧ LR w' w.heap.size 40 2 fv (mnTo n A i) ∧ MK w' w.heap.size mr (seenKv (mnTo n A i)) ∧ Below w.heap.size w w') 1001
    ⟨0, fv0, rfl, Nat.zero_le _, by simp [mnTo], rfl, rfl, rfl, rfl, hF5, hM5, hb15⟩ ?_
  rintro kk fr w6 ⟨i, fv, rfl, hi, hiK, f1, f6, f7, f8, hF, hM, hb6⟩
  have shF := hF.sv
  have sz6 := hb6.size
  refine know (t := 1) f1 ?_; refine know (t := 6) f6 ?_; refine know (t := 7) f7 ?_; refine know (t := 8) f8 ?_
  refine go ?_
  refine cond_dec rfl (fun hlt => ?_) (fun hge => ?_)
  rotate_left
  · obtain ⟨hok, he⟩ := mn_end (n := n) (A := A) (i := i) (by omega) hiK
    have hp := mnTo_pos n A i
    refine go ?_
    refine s_call2 (wn rfl) rfl rfl rfl (SortFuncR_any _ _ _ _ hF (fun e => by rw [e] at hp; simp at hp) (by omega)) ?_
    rintro _ w7 ⟨rfl, hg7⟩
    have hb7 := hb6.trans (hF.below_of hg7 sz6)
    refine go ?_
    exact end_two Tryd.results15 rfl rfl ⟨fv, by rw [decide_eq_true hok], fun _ => by rw [he]; exact shF, hb7⟩
  have hilt : i < (mnTo n A i).length := by omega
  refine go ?_
  refine w_loop (fun kk fr w' => ∃ (k : Nat) (fv : Value), kk = A.length - k ∧ k ≤ A.length ∧ fr 1 = v ∧ fr 6 = fv ∧ fr 7 = .map (some mr) ∧ fr 8 = .int .i64 i ∧ fr 28 = v ∧ fr 29 = .int .i64 A.length ∧ fr 30 = .int .i64 k ∧ LR w' w.heap.size 40 2 fv (mnRow A (gr (mnTo n A i) i) (mnTo n A i) k) ∧ MK w' w.heap.size mr (seenKv (mnRow A (gr (mnTo n A i) i) (mnTo n A i) k)) ∧ Below w.heap.size w w') A.length
    ⟨0, fv, rfl, Nat.zero_le _, rfl, rfl, rfl, rfl, rfl, rfl, rfl, hF, hM, hb6⟩ ?_
  clear hF hM shF hb6 sz6 f1 f6 f7 f8
  rintro kk fr w6 ⟨k, fv, rfl, hk, f1, f6, f7, f8, f28, f29, f30, hF, hM, hb6⟩
  have sz6 := hb6.size
  have shF := hF.sv
  have hv6 := hv.below hb6
  have hle := mnRow_le A (gr (mnTo n A i) i) (mnTo n A i) k
  refine know (t := 1) f1 ?_; refine know (t := 6) f6 ?_; refine know (t := 7) f7 ?_; refine know (t := 8) f8 ?_; refine know (t := 28) f28 ?_; refine know (t := 29) f29 ?_; refine know (t := 30) f30 ?_
  refine go ?_
  refine cond_dec rfl (fun hklt => ?_) (fun hkge => ?_)
  rotate_left
  · obtain rfl : k = A.length := by omega
    have hs := mnTo_succ hilt
    refine go ?_
    refine cond_dec rfl (fun hgt => ?_) (fun hng => ?_)
    · have hno := mn_much (n := n) (A := A) (i := i + 1) (by omega) (by rw [hs]; omega)
      refine go ?_
      exact end_two Tryd.results15 rfl rfl ⟨_, by rw [decide_eq_false hno], fun h => absurd h hno, hb6⟩
    refine go ?_
    exact ⟨1001 - (i + 1), by omega, i + 1, fv, rfl, by rw [hs]; omega, by rw [hs]; omega, rfl, rfl, rfl, rfl, by rw [hs]; exact hF, by rw [hs]; exact hM, hb6⟩
  have hkA : k < A.length := by omega
  have hpre := mnRow_pre A (gr (mnTo n A i) i) hilt k
  obtain ⟨x, ⟨Bx, hx⟩, hcx⟩ := hF.row (j := (i : Int)) (by omega) (by omega)
  rw [hpre] at hx
  have sx := hx.sv
  obtain ⟨y, hy, hcy⟩ := hv6.row (j := (k : Int)) (by omega) (by omega)
  have sy := hy.sv
  have hE := mnTo_el hA i
  have hxe := hE _ (gr_in hilt)
  have hye := hA _ (gr_in hkA)
  have hze := isEl_aft hxe hye
  have hEr := mnRow_el hA hxe hE k hk
  have hEn : ∀ m ∈ mnRow A (gr (mnTo n A i) i) (mnTo n A i) k, ∀ x ∈ m, 0 ≤ x := fun m hm => (elb m (hEr m hm)).2.1
  obtain ⟨q1, q2, q3, q4⟩ := elb _ hze
  refine go ?_
  refine s_call2 (wn rfl) rfl rfl rfl (then_any _ _ _ _ _ hx.il hy (fun z hz => by rw [hye.1]; exact hxe.2 z hz) (by rw [hxe.1]; omega)) ?_
  rintro z w8 ⟨hz, hb8⟩
  have hb68 := hb6.trans (hb8.mono sz6)
  have sz8 := hb68.size
  refine go ?_
  refine s_call1 (wn rfl) rfl rfl (keyOf_any _ _ _ hz.il q1 q3 q4 (hTB.on hb68).here) ?_
  rintro _ w9 ⟨rfl, hb9⟩
  have hb69 := hb68.trans (hb9.mono sz8)
  have sz9 := hb69.size
  have hz9 := hz.below hb9
  have hF9 := (hF.below hb8).below hb9
  have hM9 := (hM.below hb8).below hb9
  refine go ?_
  by_cases hq : aft (gr (mnTo n A i) i) (gr A k) ∈ mnRow A (gr (mnTo n A i) i) (mnTo n A i) k
  · obtain ⟨p, hp1, hp2⟩ := seenKv_hit hEn q2 hq
    have e : mnRow A (gr (mnTo n A i) i) (mnTo n A i) (k + 1) = mnRow A (gr (mnTo n A i) i) (mnTo n A i) k := mnAdd_in hq
    refine s_p (wn rfl) rfl (y_look1Hit rfl rfl hM9 (txtV_str _) (seenKv_key _) hp1 hp2) ?_
    refine go ?_
    exact ⟨A.length - (k + 1), by omega, k + 1, fv, rfl, by omega, rfl, rfl, rfl, rfl, rfl, rfl, rfl, by rw [e]; exact hF9, by rw [e]; exact hM9, hb69⟩
  have e : mnRow A (gr (mnTo n A i) i) (mnTo n A i) (k + 1) = mnRow A (gr (mnTo n A i) i) (mnTo n A i) k ++ [aft (gr (mnTo n A i) i) (gr A k)] := mnAdd_new hq
  refine s_p (wn rfl) rfl (y_look1Miss rfl rfl hM9 (txtV_str _) (seenKv_miss hEn q2 hq)) ?_
  refine go ?_
  refine s_mapUpdate (wn rfl) rfl rfl rfl hM9 (txtV_str _) (seenKv_miss hEn q2 hq) (fun w10 hM10 hg10 => ?_)
  have hb610 := hb69.trans (hM9.below_of hg10 sz9)
  have sz10 := hb610.size
  have hF10 := hF9.map hM9 hg10
  have hz10 := hz9.map hM9 hg10
  refine go ?_
  refine s_build1V (B := w.heap.size) (wn rfl) rfl rfl hz10.sv.one sz10 (fun tb w11 ht st hg11 _ => ?_)
  have hb11 := below_of_grownBy hg11
  have hb611 := hb610.trans (hb11.mono sz10)
  have sz11 := hb611.size
  have hF11 := hF10.below hb11
  have hM11 := hM10.below hb11
  refine s_appendL (B := w.heap.size) (wn rfl) rfl rfl rfl hF11 ht.rd (hz10.below hb11) (by decide) (by omega) sz11 (fun fv12 w12 hF12 sF12 hg12 hbk12 => ?_)
  have hM12 := hM11.list hF11 hg12
  have hb612 := hb611.trans (hF11.below_of hg12 sz11)
  rw [← e] at hF12
  rw [← seenKv_snoc, ← e] at hM12
  refine go ?_
  exact ⟨A.length - (k + 1), by omega, k + 1, fv12, rfl, by omega, rfl, rfl, rfl, rfl, rfl, rfl, rfl, hF12, hM12, hb612⟩

set_option maxHeartbeats 8000000 in
set_option maxRecDepth 100000 in
theorem implMonodromyOrder_any (v : Value) (ms : List (List Int)) (w : World) (hv : RL w v ms) (hT : Lib.TabIs Tryd.prog w "internal/strconv.uint64pow10" .u64 Lib.pow10Tab) :
    Ret Tryd.prog 7 #[.agg #[v]] w fun r w' => r = .tuple #[.int .i64 (moN ms), .int .i64 (moC ms)] ∧ Below w.heap.size w w' := by
  have shv := hv.sv
  have hTB := Lib.tabBelow_of_tabIs hT
  have hb := Below.refl w.heap.size w
  refine enter1 20 Tryd.func7 rfl Tryd.ntmps7 rfl (fun fr => ?_)
  refine go ?_
  refine s_box (wn rfl) rfl rfl (agg_cells shv) (fun w1 hbx _ hp hg => ?_)
  have hb1 := below_of_grownBy hg
  replace hv := hv.below hb1
  replace hb := hb.trans (hb1.mono hb.size)
  clear hg hp hb1
  generalize (⟨w.heap.size, 0, none⟩ : Addr) = p at *
  refine go ?_
  refine s_call1 (wn rfl) rfl rfl (isManiplex_any _ _ _ hv) ?_
  rintro _ w2 ⟨rfl, hb2⟩
  replace hv := hv.below hb2
  replace hbx := cell_below hbx hb2
  replace hb := hb.trans (hb2.mono hb.size)
  refine splitb (decide (IsMan ms)) (fun hm => ?_) (fun hm => ?_)
  rotate_left
  · have hm := of_decide_eq_false hm
    have e := mo_1 hm
    refine go ?_
    exact end_two Tryd.results7 rfl rfl ⟨by rw [e.1, e.2], hb⟩
  have hm' := of_decide_eq_true hm
  have h1 := hm'.m0.r1
  have h5 := hm'.m0.r5
  have h4 := hm'.m0.f400
  have h2 := hm'.m0.f2
  refine go ?_
  refine region_h mixed (fun w3 hc3 => ?_)
  refine h_p 1 hc3 ?_
  refine h_p 2 hc3 ?_
  refine h_one 0 ?_
  refine s_call1 (wn rfl) rfl rfl (flags_any _ _ _ _ (cell_below hbx hc3) (hv.below hc3) h1) ?_
  rintro _ _ ⟨rfl, rfl⟩
  refine w_nil ?_
  refine h_on ⟨hc3, ?_⟩
  refine h_one 3 ?_
  refine s_call2 (wn rfl) rfl rfl rfl (groupElements_any _ _ (nf ms) _ (hv.below hc3) (man_el hm') (by omega) (by omega) (by omega) (hTB.on (hb.trans (hc3.mono hb.size))).here) ?_
  rintro _ w5 ⟨x, rfl, hx, hb5⟩
  have hc5 := hc3.trans (hb5.mono hc3.size)
  refine w_nil ?_
  refine h_on ⟨hc5, ?_⟩
  refine h_p 4 hc5 ?_
  refine h_p 5 hc5 ?_
  refine h_p 6 hc5 ?_
  refine h_p 7 hc5 ?_
  refine h_p 8 hc5 ?_
  refine h_nil ?_
  replace hb := hb.trans (hc5.mono hb.size)
  refine splitb (decide (mnOk (nf ms) ms)) (fun hk => ?_) (fun hk => ?_)
  rotate_left
  · have e := mo_2 hm' (of_decide_eq_false hk)
    refine go ?_
    exact end_two Tryd.results7 rfl rfl ⟨by rw [e.1, e.2], hb⟩
  have e := mo_3 hm' (of_decide_eq_true hk)
  have sx := hx (of_decide_eq_true hk)
  refine go ?_
  refine s_call1 (wn rfl) rfl rfl (sizeR_any _ _ _ sx) ?_
  rintro _ _ ⟨rfl, rfl⟩
  refine go ?_
  exact end_two Tryd.results7 rfl rfl ⟨by rw [e.1, e.2], hb⟩

end Go.Proofs.YtkknhcpjiehgiaaDoor
