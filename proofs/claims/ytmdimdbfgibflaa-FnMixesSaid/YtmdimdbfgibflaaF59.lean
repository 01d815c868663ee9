/- Contracts: mixes, the program's side. -/
import Derived.Test.YtmdimdbfgibflaaF58
import Derived.Test.YtmdimdbfgibflaaTw
namespace Go.Mem
open Go.RowKit
def prRow (nk : Nat) (c : Int) : List Int := [c / nk, c % nk]
theorem length_prRow (nk : Nat) (c : Int) : (prRow nk c).length = 2 := rfl
theorem gi_prRow0 (nk : Nat) (c : Int) : gi (prRow nk c) 0 = c / nk := rfl
theorem gi_prRow1 (nk : Nat) (c : Int) : gi (prRow nk c) 1 = c % nk := rfl
def prV (nk : Nat) (c : Int) : Value := .agg #[.int .i64 (c / nk), .int .i64 (c % nk)]
def IsPr (k : Value) : Prop := ∃ a b : Int, k = .agg #[.int .i64 a, .int .i64 b]
theorem prV_inj {nk : Nat} {c d : Int} (h : prV nk c = prV nk d) : c = d := by
  simp only [prV, Value.agg.injEq, Array.mk.injEq, List.cons.injEq, Value.int.injEq, true_and, and_true] at h
  have h1 := Int.mul_ediv_add_emod c nk
  have h2 := Int.mul_ediv_add_emod d nk
  rw [h.1, h.2] at h1
  omega
def kvOf (nk : Nat) (o : List Int) : List (Value × Value) := (List.range o.length).map fun i : Nat => (prV nk (gi o i), .int .i64 i)
theorem kvOf_snoc (nk : Nat) (o : List Int) (c : Int) : kvOf nk (o ++ [c]) = kvOf nk o ++ [(prV nk c, .int .i64 o.length)] := by
  have h1 : gi (o ++ [c]) (o.length : Nat) = c := by simp [gi, List.getD]
  have h2 : (List.range o.length).map (fun i : Nat => (prV nk (gi (o ++ [c]) i), Value.int .i64 i)) = (List.range o.length).map fun i : Nat => (prV nk (gi o i), .int .i64 i) := by
    refine List.map_congr_left fun i hi => ?_
    have := List.mem_range.1 hi
    rw [gi_append_left (by omega) (by omega)]
  unfold kvOf
  rw [List.length_append, List.length_singleton, List.range_succ, List.map_append, h2, List.map_singleton, h1]
theorem kvOf_key (nk : Nat) (o : List Int) : ∀ x ∈ kvOf nk o, IsPr x.1 := fun x hx => by
  obtain ⟨i, _, rfl⟩ := List.mem_map.1 hx
  exact ⟨_, _, rfl⟩
theorem kvOf_miss {nk : Nat} {o : List Int} {c : Int} (h : c ∉ o) : ∀ x ∈ kvOf nk o, IsPr x.1 ∧ x.1 ≠ prV nk c := fun x hx => by
  obtain ⟨i, hi, rfl⟩ := List.mem_map.1 hx
  refine ⟨⟨_, _, rfl⟩, fun e => h ?_⟩
  rw [← prV_inj e]
  exact gi_in (List.mem_range.1 hi)
theorem kvOf_at {nk : Nat} {o : List Int} {c : Int} (h : c ∈ o) : (kvOf nk o)[(idxOf o c).toNat]? = some (prV nk c, .int .i64 (idxOf o c)) := by
  obtain ⟨h0, h1, h2⟩ := idxOf_mem h
  have hlt : (idxOf o c).toNat < o.length := by omega
  have e : (((idxOf o c).toNat : Nat) : Int) = idxOf o c := by omega
  simp only [kvOf, List.getElem?_map, List.getElem?_range hlt, Option.map_some, e, h2]
theorem kvOf_first {nk : Nat} {o : List Int} {c : Int} (hn : o.Nodup) (h : c ∈ o) : ∀ j x, j < (idxOf o c).toNat → (kvOf nk o)[j]? = some x → x.1 ≠ prV nk c := fun j x hj hx e => by
  obtain ⟨h0, h1, h2⟩ := idxOf_mem h
  have hlt : j < o.length := by omega
  simp only [kvOf, List.getElem?_map, List.getElem?_range hlt, Option.map_some, Option.some.injEq] at hx
  subst hx
  have e2 := prV_inj e
  have := gi_inj hn (a := (j : Int)) (b := idxOf o c) ⟨by omega, by omega⟩ ⟨h0, h1⟩ (by rw [e2, h2])
  omega
theorem gr_map_prRow {nk : Nat} {o : List Int} {i : Int} (h0 : 0 ≤ i) (hi : i < o.length) : gr (o.map (prRow nk)) i = prRow nk (gi o i) := by
  have : i.toNat < o.length := by omega
  simp [gr, gi, List.getD, this]
theorem y_ext30 {P : Program} {n : Nat} {f : Fm} {w : World} {dst : Option Tmp} {ty : TypeId} {pos : String} {after : Array Edge} {g : Option (Nat × Bool)} {x : Operand} {a b c : Value} (hx : lk n f x = some (.tuple #[a, b, c])) : Yld P (evo n f) ⟨dst, .extract x 0, ty, pos, after, g⟩ w a := by
  replace hx := lk_evo hx
  constructor; simp [execOp, Instr.extract, hx]
theorem y_ext31 {P : Program} {n : Nat} {f : Fm} {w : World} {dst : Option Tmp} {ty : TypeId} {pos : String} {after : Array Edge} {g : Option (Nat × Bool)} {x : Operand} {a b c : Value} (hx : lk n f x = some (.tuple #[a, b, c])) : Yld P (evo n f) ⟨dst, .extract x 1, ty, pos, after, g⟩ w b := by
  replace hx := lk_evo hx
  constructor; simp [execOp, Instr.extract, hx]
theorem y_ext32 {P : Program} {n : Nat} {f : Fm} {w : World} {dst : Option Tmp} {ty : TypeId} {pos : String} {after : Array Edge} {g : Option (Nat × Bool)} {x : Operand} {a b c : Value} (hx : lk n f x = some (.tuple #[a, b, c])) : Yld P (evo n f) ⟨dst, .extract x 2, ty, pos, after, g⟩ w c := by
  replace hx := lk_evo hx
  constructor; simp [execOp, Instr.extract, hx]
/-- three results, the first of which lies in a variable -/
theorem end_cellT3 {P : Program} {fn : Func} {R : Value → World → Prop} {n t s q : Nat} {f : Fm} {w : World} {ty : TypeId} {p : Addr} {u v v2 : Value} [hb : BoxTy P ty] (h : fn.results = #[.cell t ty, .tmp s, .tmp q])
    (hv : lk n f (.tmp t) = some (.pointer (some p))) (hs : lk n f (.tmp s) = some v) (hq : lk n f (.tmp q) = some v2) (hc : w.cell? p = some u) (hR : R (.tuple #[.agg #[u], v, v2]) w) : endPost P fn n R .ret f w := by
  have e (t : Nat) : (act n f.fn).tmps[t]?.getD undef = evo n f (.tmp t) := by rw [← act_eval]; simp [Act.eval]
  refine ⟨.tuple #[.agg #[u], v, v2], ?_, hR⟩
  simp [results, h, e, lk_evo hv, lk_evo hs, lk_evo hq, asAddr, loadVar, hb.agg, hb.size, loadCells, loadCellsFrom, Addr.add_zero', hc]
end Go.Mem
namespace Go.Proofs.Ytmdimdbfgibflaa
open Go.Mem Go.RowKit
set_option linter.unusedVariables false
set_option linter.unusedSimpArgs false
instance : PairTy Try.prog 141 2 := ⟨fun _ _ _ => by kernel_rfl, fun _ _ _ => by kernel_rfl, fun _ _ _ => by kernel_rfl, fun _ => by kernel_rfl, fun _ => by kernel_rfl, fun _ => by kernel_rfl⟩
instance : MapTy Try.prog 142 141 2 (.int .i64 0) := ⟨Try.underlying142, fun _ => by kernel_rfl⟩
theorem pr_check : ∀ (b : Bool) (x y : Int) w, (Instr.checkKey b 10000 141 (.agg #[.int .i64 x, .int .i64 y])).run Try.prog w = .ok () w := fun _ _ _ _ => by kernel_rfl
theorem eqIn_int (d : Nat) (x x' : Int) (w : World) : (Op.equalIn (d + 1) 2 (.int .i64 x) (.int .i64 x')).run Try.prog w = .ok (x == x') w := by
  simp [Op.equalIn, run_underlying Try.underlying2]
theorem part_pr (x y : Int) (w : World) : (part 2 #[.int .i64 x, .int .i64 y] 0).run Try.prog w = .ok (.int .i64 x) w := by kernel_rfl
theorem part_pr1 (x y : Int) (w : World) : (part 2 #[.int .i64 x, .int .i64 y] 1).run Try.prog w = .ok (.int .i64 y) w := by kernel_rfl
theorem eqIn_pair (d : Nat) (x y x' y' : Int) (w : World) : (Op.equalIn (d + 2) 141 (.agg #[.int .i64 x, .int .i64 y]) (.agg #[.int .i64 x', .int .i64 y'])).run Try.prog w = .ok (decide (x = x') && decide (y = y')) w := by
  have hs : ∀ w, (sizeOf 2).run Try.prog w = .ok 1 w := fun _ => by kernel_rfl
  rw [Op.equalIn]
  by_cases h1 : x = x' <;> by_cases h2 : y = y' <;>
  simp [run_underlying Try.underlying141, hs, Std.Legacy.Range.forIn_eq_forIn_range', Std.Legacy.Range.size, List.range', part_pr, part_pr1, eqIn_int, h1, h2]
theorem pr_equal (x y x' y' : Int) (w : World) : (Op.equal 141 (.agg #[.int .i64 x, .int .i64 y]) (.agg #[.int .i64 x', .int .i64 y'])).run Try.prog w = .ok (decide (x = x') && decide (y = y')) w := eqIn_pair 9998 x y x' y' w
instance : KeyTy Try.prog 141 IsPr := keyTy_of_equal Try.underlying141 (fun _ _ => by simp [Instr.sameNow]) (fun b k w h => by obtain ⟨x, y, rfl⟩ := h; exact pr_check b x y w) fun a b w ha hb => by
  obtain ⟨x, y, rfl⟩ := ha
  obtain ⟨x', y', rfl⟩ := hb
  exact ⟨_, pr_equal x y x' y' w, by simp⟩

set_option maxHeartbeats 8000000 in
set_option maxRecDepth 100000 in
theorem mixAt_any (v : Value) (v2 : Value) (ms : List (List Int)) (f : Int) (ks : List (List Int)) (g : Int) (w : World) (hv : RL w v ms) (hv2 : RL w v2 ks) :
    Ret Try.prog 105 #[.agg #[v], .int .i64 f, .agg #[v2], .int .i64 g] w fun r w' => ∃ x y, r = .tuple #[.agg #[x], y, .int .i64 (mixC ms ks f g)] ∧ OM w' w.heap.size w'.heap.size 34 2 x (mixL ms ks f g) ∧ OM w' w.heap.size w'.heap.size 34 2 y (mixP ms ks f g) ∧ Below w.heap.size w w' := by
  have shv := hv.sv
  have shv2 := hv2.sv
  have hb := Below.refl w.heap.size w
  refine enter4 135 Try.func105 rfl Try.ntmps105 rfl (fun fr => ?_)
  refine go ?_
  refine s_box (wn rfl) rfl rfl (agg_cells shv) (fun w1 hbx _ hp hg => ?_)
  have hb1 := below_of_grownBy hg
  have sw1 := hb1.size
  replace hv := hv.below hb1
  replace hv2 := hv2.below hb1
  replace hb := hb.trans (hb1.mono hb.size)
  clear hg hp hb1
  generalize (⟨w.heap.size, 0, none⟩ : Addr) = p at *
  refine go ?_
  refine s_box (wn rfl) rfl rfl (agg_cells shv2) (fun w2 hbx2 _ hp hg => ?_)
  have hb2 := below_of_grownBy hg
  have sw2 := hb2.size
  replace hv := hv.below hb2
  replace hv2 := hv2.below hb2
  replace hbx := cell_below hbx hb2
  replace hb := hb.trans (hb2.mono hb.size)
  clear hg hp hb2
  generalize (⟨w1.heap.size, 0, none⟩ : Addr) = p2 at *
  have sz0 := hb.size
  refine go ?_
  refine s_alloc (B := w.heap.size) (wn rfl) rfl (by first | exact Nat.le_refl _ | omega) (fun w3 p8 hx8 hg3 hpp8 => ?_)
  have hb3 := below_of_grownBy hg3
  have sw3 := hb3.size
  replace hv := hv.below hb3
  replace hv2 := hv2.below hb3
  replace hbx := cell_below hbx hb3
  replace hbx2 := cell_below hbx2 hb3
  replace hb := hb.trans (hb3.mono hb.size)
  have hlt_hx8 := hx8.lt
  have sz1 := hb.size
  refine go ?_
  refine s_call1 (wn rfl) rfl rfl (isManiplex_any _ _ _ hv) ?_
  rintro _ w4 ⟨rfl, hb4⟩
  have sw4 := hb4.size
  replace hv := hv.below hb4
  replace hv2 := hv2.below hb4
  replace hbx := cell_below hbx hb4
  replace hbx2 := cell_below hbx2 hb4
  replace hx8 := hx8.below hb4
  replace hb := hb.trans (hb4.mono hb.size)
  refine splitb (decide (IsMan ms)) (fun hm => ?_) (fun hm => ?_)
  rotate_left
  · have hm := of_decide_eq_false hm
    have e := mix_1 (ms := ms) (ks := ks) (f := f) (g := g) (fun h => hm h.1)
    have hbY := hb
    refine go ?_
    refine s_p (wn rfl) rfl y_bld0 ?_
    refine go ?_
    refine s_storeBox (wn rfl) rfl rfl rfl hx8 (fun w5 hxz hgz => ?_)
    have hbz := hbY.trans (hx8.below_of hgz hbY.size)
    refine go ?_
    exact end_cellT3 Try.results105 rfl rfl rfl hxz.cell ⟨_, _, by rw [e.2.2], by rw [e.1]; exact OM.nil _ _ _ _ _, by rw [e.2.1]; exact OM.nil _ _ _ _ _, hbz⟩
  have hm' := of_decide_eq_true hm
  refine go ?_
  refine s_call1 (wy rfl rfl rfl rfl rfl known) rfl rfl (isManiplex_any _ _ _ hv2) ?_
  rintro _ w6 ⟨rfl, hb6⟩
  have sw6 := hb6.size
  replace hv := hv.below hb6
  replace hv2 := hv2.below hb6
  replace hbx := cell_below hbx hb6
  replace hbx2 := cell_below hbx2 hb6
  replace hx8 := hx8.below hb6
  replace hb := hb.trans (hb6.mono hb.size)
  refine splitb (decide (IsMan ks)) (fun hk => ?_) (fun hk => ?_)
  rotate_left
  · have hk := of_decide_eq_false hk
    have e := mix_1 (ms := ms) (ks := ks) (f := f) (g := g) (fun h => hk h.2)
    have hbY := hb
    refine go ?_
    refine s_p (wn rfl) rfl y_bld0 ?_
    refine go ?_
    refine s_storeBox (wn rfl) rfl rfl rfl hx8 (fun w7 hxz hgz => ?_)
    have hbz := hbY.trans (hx8.below_of hgz hbY.size)
    refine go ?_
    exact end_cellT3 Try.results105 rfl rfl rfl hxz.cell ⟨_, _, by rw [e.2.2], by rw [e.1]; exact OM.nil _ _ _ _ _, by rw [e.2.1]; exact OM.nil _ _ _ _ _, hbz⟩
  have hk' := of_decide_eq_true hk
  have r5 := hm'.m0.r5
  have r1 := hm'.m0.r1
  have f4 := hm'.m0.f400
  have k1 := hk'.m0.r1
  have g4 := hk'.m0.f400
  have g2 := hk'.m0.f2
  have f2 := hm'.m0.f2
  refine go ?_
  refine s_call2 (wn rfl) rfl rfl rfl (hasFlag_any _ _ _ f _ hv hbx r1 f4) ?_
  rintro _ _ ⟨rfl, rfl⟩
  refine splitb (decide (0 ≤ f ∧ f < (nf ms : Int))) (fun hf => ?_) (fun hf => ?_)
  rotate_left
  · have hf := of_decide_eq_false hf
    have e := mix_2 (f := f) (g := g) hm' hk' (fun h => hf h.1)
    have hbY := hb
    refine go ?_
    refine s_p (wn rfl) rfl y_bld0 ?_
    refine go ?_
    refine s_storeBox (wn rfl) rfl rfl rfl hx8 (fun w8 hxz hgz => ?_)
    have hbz := hbY.trans (hx8.below_of hgz hbY.size)
    refine go ?_
    exact end_cellT3 Try.results105 rfl rfl rfl hxz.cell ⟨_, _, by rw [e.2.2], by rw [e.1]; exact OM.nil _ _ _ _ _, by rw [e.2.1]; exact OM.nil _ _ _ _ _, hbz⟩
  have hf' := of_decide_eq_true hf
  refine go ?_
  refine s_call2 (wy rfl rfl rfl rfl rfl known) rfl rfl rfl (hasFlag_any _ _ _ g _ hv2 hbx2 k1 g4) ?_
  rintro _ _ ⟨rfl, rfl⟩
  refine splitb (decide (0 ≤ g ∧ g < (nf ks : Int))) (fun hg => ?_) (fun hg => ?_)
  rotate_left
  · have hg := of_decide_eq_false hg
    have e := mix_2 (f := f) (g := g) hm' hk' (fun h => hg h.2)
    have hbY := hb
    refine go ?_
    refine s_p (wn rfl) rfl y_bld0 ?_
    refine go ?_
    refine s_storeBox (wn rfl) rfl rfl rfl hx8 (fun w9 hxz hgz => ?_)
    have hbz := hbY.trans (hx8.below_of hgz hbY.size)
    refine go ?_
    exact end_cellT3 Try.results105 rfl rfl rfl hxz.cell ⟨_, _, by rw [e.2.2], by rw [e.1]; exact OM.nil _ _ _ _ _, by rw [e.2.1]; exact OM.nil _ _ _ _ _, hbz⟩
  have hg' := of_decide_eq_true hg
  refine go ?_
  refine s_call1 (wn rfl) rfl rfl (rank_any _ _ _ _ hbx shv) ?_
  rintro _ _ ⟨rfl, rfl⟩
  refine go ?_
  refine s_call1 (wn rfl) rfl rfl (rank_any _ _ _ _ hbx2 shv2) ?_
  rintro _ _ ⟨rfl, rfl⟩
  refine go ?_
  by_cases hl : ms.length = ks.length
  rotate_left
  · have hl' : (ms.length : Int) ≠ ks.length := by omega
    have e := mix_3 hm' hk' hf' hg' hl
    have hbY := hb
    refine go ?_
    refine s_p (wn rfl) rfl y_bld0 ?_
    refine go ?_
    refine s_storeBox (wn rfl) rfl rfl rfl hx8 (fun w10 hxz hgz => ?_)
    have hbz := hbY.trans (hx8.below_of hgz hbY.size)
    refine go ?_
    exact end_cellT3 Try.results105 rfl rfl rfl hxz.cell ⟨_, _, by rw [e.2.2], by rw [e.1]; exact OM.nil _ _ _ _ _, by rw [e.2.1]; exact OM.nil _ _ _ _ _, hbz⟩
  have hl' : ¬ ((ms.length : Int) ≠ ks.length) := by omega
  have sz2 := hb.size
  have hN := Nat.mul_le_mul hm'.m0.f400 hk'.m0.f400
  have hcast : ((nf ms * nf ks : Nat) : Int) = (nf ms : Int) * nf ks := Int.natCast_mul _ _
  have hc0 := code_lt hf' hg'
  have cd0 := code_div (n := nf ks) hf'.1 hg'
  have cm0 := code_mod (n := nf ks) hf'.1 hg'
  have sbs1 := hb.size
  have hv_b1 := hv
  have hv2_b1 := hv2
  have hbx_b1 := hbx
  have hbx2_b1 := hbx2
  have hx8_b1 := hx8
  have hbB1 := Below.refl w6.heap.size w6
  refine go ?_
  refine s_buildI (B := w6.heap.size) [f, g] (wn rfl) rfl rfl rfl rfl (Nat.le_refl _) (fun rb w11 hr sr hg11 _ => ?_)
  have hb11 := below_of_grownBy hg11
  have sw11 := hb11.size
  replace hv := hv.below hb11
  replace hv2 := hv2.below hb11
  replace hbx := cell_below hbx hb11
  replace hbx2 := cell_below hbx2 hb11
  replace hx8 := hx8.below hb11
  replace hbB1 := hbB1.trans (hb11.mono hbB1.size)
  have szq12 := hbB1.size
  refine s_build1V (B := w6.heap.size) (wn rfl) rfl rfl hr.sv.one szq12 (fun pb w12 hp sp hg12 hpb => ?_)
  have hb12 := below_of_grownBy hg12
  have sw12 := hb12.size
  replace hv := hv.below hb12
  replace hv2 := hv2.below hb12
  replace hbx := cell_below hbx hb12
  replace hbx2 := cell_below hbx2 hb12
  replace hx8 := hx8.below hb12
  replace hr := hr.below hb12
  replace hbB1 := hbB1.trans (hb12.mono hbB1.size)
  have hpo : OM w12 w6.heap.size w12.heap.size 34 2 pb [[f, g]] := (Rws.one' hr (fun k hk => (hr.lt k hk).2)).om hp
  refine go ?_
  have szq13 := hbB1.size
  refine s_makeMap (B := w6.heap.size) (wn rfl) rfl szq13 (fun w13 mr hM hg13 _ => ?_)
  have hb13 := below_of_grownBy hg13
  have sw13 := hb13.size
  replace hv := hv.below hb13
  replace hv2 := hv2.below hb13
  replace hbx := cell_below hbx hb13
  replace hbx2 := cell_below hbx2 hb13
  replace hx8 := hx8.below hb13
  replace hpo := hpo.below hb13
  replace hbB1 := hbB1.trans (hb13.mono hbB1.size)
  refine go ?_
  refine s_p (wn rfl) rfl (y_bldP rfl rfl) ?_
  refine go ?_
  have szq14 := hbB1.size
  refine s_insert (wn rfl) rfl rfl rfl hM ⟨_, _, rfl⟩ (by simp) (fun w14 hMN hgN => ?_)
  replace hbB1 := hbB1.trans (hM.below_of hgN szq14)
  have sw14 := hgN.size
  obtain ⟨vs0, hp0, hr0⟩ := hpo.rws
  have hpo2 := (Rws.om ⟨hr0.one, hr0.len, fun i a zs ha hz => (hr0.row i a zs ha hz).kept hgN (.inr ((hr0.row i a zs ha hz).own.apart_map hM)), hr0.lt, hr0.apart⟩ (hp0.kept hgN (.inr (hp0.apart_map hM))))
  replace hpo := hpo2
  clear hpo2
  replace hM := hMN
  replace hv := hv_b1.below hbB1
  replace hv2 := hv2_b1.below hbB1
  replace hbx := cell_below hbx_b1 hbB1
  replace hbx2 := cell_below hbx2_b1 hbB1
  replace hx8 := hx8_b1.below hbB1
  refine go ?_
  refine s_call1 (wn rfl) rfl rfl (rank_any _ _ _ _ hbx shv) ?_
  rintro _ _ ⟨rfl, rfl⟩
  have szq15 := hbB1.size
  have hplt := fun k hk => (hpo.ownlt k hk).2
  refine s_make (B := w6.heap.size) (wn rfl) rfl rfl rfl (by omega) (by omega) szq15 (fun ob w15 hob hg15 hobb => ?_)
  have hb15 := below_of_grownBy hg15
  have sw15 := hb15.size
  replace hv := hv.below hb15
  replace hv2 := hv2.below hb15
  replace hbx := cell_below hbx hb15
  replace hbx2 := cell_below hbx2 hb15
  replace hx8 := hx8.below hb15
  replace hM := hM.below hb15
  replace hpo := hpo.below hb15
  replace hbB1 := hbB1.trans (hb15.mono hbB1.size)
  have hap : ob.ownBlock = none ∨ ob.ownBlock ≠ pb.ownBlock := by
    rw [hobb]
    refine .inr fun e => ?_
    have := hplt _ e.symm
    omega
  rw [Int.toNat_natCast] at hob
  have hso : SV ob ms.length := by have := hob.sv; simpa using this
  have hT := Tw.start hob (hpo.top) rfl hap (by have := hb15.size; omega)
  clear hap hob hpo hobb hplt
  refine go ?_
  refine s_p (wn rfl) rfl (y_bld1 rfl hso.one) ?_
  refine go ?_
  refine s_alloc (B := w6.heap.size) (wn rfl) rfl (by first | exact Nat.le_refl _ | omega) (fun w16 p13 hx13 hg16 hpp13 => ?_)
  have hb16 := below_of_grownBy hg16
  have sw16 := hb16.size
  replace hv := hv.below hb16
  replace hv2 := hv2.below hb16
  replace hbx := cell_below hbx hb16
  replace hbx2 := cell_below hbx2 hb16
  replace hx8 := hx8.below hb16
  replace hM := hM.below hb16
  replace hT := hT.below hb16
  replace hbB1 := hbB1.trans (hb16.mono hbB1.size)
  have hlt_hx13 := hx13.lt
  refine go ?_
  have szq17 := hbB1.size
  refine s_storeBox (wn rfl) rfl rfl hso.one hx13 (fun w17 hxN hgN => ?_)
  replace hbB1 := hbB1.trans (hx13.below_of hgN szq17)
  have sw17 := hgN.size
  replace hM := hM.kept hgN (fun e => hx13.apart_map hM e.symm)
  replace hT := hT.box hx13 (by decide) (by decide) hgN
  replace hx13 := hxN
  clear hxN
  replace hv := hv_b1.below hbB1
  replace hv2 := hv2_b1.below hbB1
  replace hbx := cell_below hbx_b1 hbB1
  replace hbx2 := cell_below hbx2_b1 hbB1
  replace hx8 := hx8_b1.below hbB1
  have hmb0 : mixB ms ks f g 0 = [f * nf ks + g] := rfl
  have ekv : kvOf (nf ks) (mixB ms ks f g 0) = [] ++ [(.agg #[.int .i64 f, .int .i64 g], .int .i64 0)] := by
    rw [hmb0]; show [(prV (nf ks) (f * nf ks + g), Value.int .i64 0)] = _
    unfold prV; rw [cd0, cm0]; rfl
  have epr : (mixB ms ks f g 0).map (prRow (nf ks)) = [[f, g]] := by
    rw [hmb0]; show [prRow (nf ks) (f * nf ks + g)] = _
    unfold prRow; rw [cd0, cm0]
  rw [← ekv] at hM
  rw [← epr, ← mixRows_start (prodM ms ks) (mixB ms ks f g 0) ms.length] at hT
  have hl0 : (mixB ms ks f g 0).length = 1 := rfl
  clear ekv epr
  refine go ?_
  refine go ?_
  refine w_loop (fun kk fr w' => ∃ (i : Nat) (pb : Value), kk = 401 - i ∧ i ≤ 401 ∧ fr 4 = .pointer (some p) ∧ fr 6 = .pointer (some p2) ∧ fr 8 = .pointer (some p8) ∧ fr 11 = pb ∧ fr 12 = .map (some mr) ∧ fr 13 = .pointer (some p13) ∧ fr 14 = .int .i64 i ∧ (i ≤ (mixB ms ks f g i).length) ∧ ((mixB ms ks f g i).length ≤ 400) ∧ (Bx w' w6.heap.size p13 26 ob) ∧ (Tw w' w6.heap.size 34 2 ob pb (mixRows (prodM ms ks) (mixB ms ks f g i) ms.length i 0) ((mixB ms ks f g i).map (prRow (nf ks)))) ∧ (MK w' w6.heap.size mr (kvOf (nf ks) (mixB ms ks f g i))) ∧ Below w6.heap.size w6 w') (401)
    ⟨0, pb, rfl, Nat.zero_le _, rfl, rfl, rfl, rfl, rfl, rfl, rfl, by omega, by omega, hx13, hT, hM, hbB1⟩ ?_
  rintro kk fr w18 ⟨i, pb, rfl, hi, f4, f6, f8, f11, f12, f13, f14, hile, hlen, hx13, hT, hM, hbB1⟩
  have sw18 := hbB1.size
  have hv := hv_b1.below hbB1
  have hv2 := hv2_b1.below hbB1
  have hbx := cell_below hbx_b1 hbB1
  have hbx2 := cell_below hbx2_b1 hbB1
  have hx8 := hx8_b1.below hbB1
  have sp := hT.pairs.sv
  rw [List.length_map] at sp
  refine know (t := 4) f4 ?_; refine know (t := 6) f6 ?_; refine know (t := 8) f8 ?_; refine know (t := 11) f11 ?_; refine know (t := 12) f12 ?_; refine know (t := 13) f13 ?_; refine know (t := 14) f14 ?_
  refine go ?_
  refine cond_dec rfl (fun hlt => ?_) (fun hge => ?_)
  · have hx : 0 ≤ gi (mixB ms ks f g i) i ∧ gi (mixB ms ks f g i) i < ((nf ms * nf ks : Nat) : Int) := mixB_rng hm' hk' hl hf' hg' _ (gi_in (by omega))
    refine go ?_
    refine w_loop (fun kk fr w' => ∃ (j : Nat) (pb : Value) (o : List Int), kk = ms.length - j ∧ j ≤ ms.length ∧ fr 4 = .pointer (some p) ∧ fr 6 = .pointer (some p2) ∧ fr 8 = .pointer (some p8) ∧ fr 11 = pb ∧ fr 12 = .map (some mr) ∧ fr 13 = .pointer (some p13) ∧ fr 14 = .int .i64 i ∧ fr 64 = .int .i64 ms.length ∧ fr 65 = .int .i64 j ∧ (o = visits (mixB ms ks f g i) ((images (prodM ms ks) (gi (mixB ms ks f g i) i)).take j)) ∧ (Bx w' w6.heap.size p13 26 ob) ∧ (Tw w' w6.heap.size 34 2 ob pb (mixRows (prodM ms ks) o ms.length i j) ((o).map (prRow (nf ks)))) ∧ (MK w' w6.heap.size mr (kvOf (nf ks) (o))) ∧ Below w6.heap.size w6 w') (ms.length)
      ⟨0, pb, _, rfl, Nat.zero_le _, rfl, rfl, rfl, rfl, rfl, rfl, rfl, rfl, rfl, by simp [visits], hx13, hT, hM, hbB1⟩ ?_
    rintro kk fr w19 ⟨j, pb, o, rfl, hj, f4, f6, f8, f11, f12, f13, f14, f64, f65, hoe, hx13, hT, hM, hbB1⟩
    have sw19 := hbB1.size
    have hv := hv_b1.below hbB1
    have hv2 := hv2_b1.below hbB1
    have hbx := cell_below hbx_b1 hbB1
    have hbx2 := cell_below hbx2_b1 hbB1
    have hx8 := hx8_b1.below hbB1
    have sp := hT.pairs.sv
    rw [List.length_map] at sp
    refine know (t := 4) f4 ?_; refine know (t := 6) f6 ?_; refine know (t := 8) f8 ?_; refine know (t := 11) f11 ?_; refine know (t := 12) f12 ?_; refine know (t := 13) f13 ?_; refine know (t := 14) f14 ?_; refine know (t := 64) f64 ?_; refine know (t := 65) f65 ?_
    refine go ?_
    have hol : (mixB ms ks f g i).length ≤ o.length := by rw [hoe]; exact length_visits _ _
    have hgo : gi o i = gi (mixB ms ks f g i) i := by rw [hoe]; exact gi_visits (by omega) (by omega)
    have hnd : o.Nodup := by rw [hoe]; exact nodup_visits mixB_nodup
    refine cond_dec rfl (fun hlt2 => ?_) (fun hge2 => ?_)
    · have hcl := mix_closed (f := f) (g := g) (i := i) (j := j) (by omega) hoe
      have hon : o.length ≤ nf ms * nf ks := nodup_le hnd (fun x hx => by
        rw [hoe] at hx
        rcases mem_visits.1 hx with hx | hx
        · exact mixB_rng hm' hk' hl hf' hg' _ hx
        · obtain ⟨m, hmm, rfl⟩ := mem_images.1 (List.mem_of_mem_take hx)
          exact (prodM_syst hm' hk' hl).mem hmm (by assumption))
      rw [← hgo] at hx
      obtain ⟨d1, d2, d3⟩ := code_of hx
      obtain ⟨m1, m2⟩ := prodM_at hm' hk' hl (j := j) (by omega) hx
      have hc := code_lt m1 m2
      have e : gi (gr (prodM ms ks) j) (gi o i) = gi (gr ms j) (gi o i / nf ks) * nf ks + gi (gr ks j) (gi o i % nf ks) := gi_prodM (by omega) hx
      have cd := code_div (n := nf ks) m1.1 m2
      have cm := code_mod (n := nf ks) m1.1 m2
      have hrl1 := (hm'.syst.row (j := (j : Int)) (by omega) (by omega)).1
      have hrl2 := (hk'.syst.row (j := (j : Int)) (by omega) (by omega)).1
      obtain ⟨u, hu, hcu⟩ := hv.row (j := (j : Int)) (by omega) (by omega)
      obtain ⟨u2, hu2, hcu2⟩ := hv2.row (j := (j : Int)) (by omega) (by omega)
      have su := hu.sv
      have su2 := hu2.sv
      rw [hrl1] at su
      rw [hrl2] at su2
      obtain ⟨rv, hrv, hcr⟩ := hT.pairs.row (j := (i : Int)) (by omega) (by rw [List.length_map]; omega)
      rw [gr_map_prRow (by omega) (by omega)] at hrv
      have hrn := length_prRow (nf ks) (gi o i)
      have srv := hrv.sv
      rw [hrn] at srv
      have g0 := gi_prRow0 (nf ks) (gi o i)
      have g1 := gi_prRow1 (nf ks) (gi o i)
      rw [← g0] at d1 m1 cd cm hc e
      rw [← g1] at d2 m2 cd cm hc e
      refine go ?_
      refine region_h mixed (fun w20 hc20 => ?_)
      have swr20 := hc20.size
      refine h_p 0 hc20 ?_
      refine h_p 1 hc20 ?_
      refine h_p 2 hc20 ?_
      refine h_p 3 hc20 ?_
      refine h_p 4 hc20 ?_
      refine h_p 5 hc20 ?_
      refine h_p 6 hc20 ?_
      refine h_p 7 hc20 ?_
      refine h_p 8 hc20 ?_
      refine h_p 9 hc20 ?_
      refine h_p 10 hc20 ?_
      refine h_p 11 hc20 ?_
      refine h_p 12 hc20 ?_
      refine h_p 13 hc20 ?_
      refine h_p 14 hc20 ?_
      refine h_p 15 hc20 ?_
      refine h_p 16 hc20 ?_
      refine h_p 17 hc20 ?_
      refine h_p 18 hc20 ?_
      refine h_p 19 hc20 ?_
      refine h_p 20 hc20 ?_
      refine h_p 21 hc20 ?_
      refine h_p 22 hc20 ?_
      refine h_p 23 hc20 ?_
      refine h_p 24 hc20 ?_
      refine h_p 25 hc20 ?_
      refine h_p 26 hc20 ?_ (hrun := fun _ _ => y_bldP rfl rfl)
      refine h_one 27 ?_
      refine s_allocP (B := w19.heap.size) (wn rfl) rfl hc20.size (fun w21 q16 hq hgA _ => ?_)
      have hcA := hc20.trans ((below_of_grownBy hgA).mono hc20.size)
      refine w_nil ?_
      refine h_on ⟨hcA, ?_⟩
      refine h_one 28 ?_
      refine s_storeP (wn rfl) rfl rfl hq (fun w22 hqN hgS => ?_)
      have hcS := hcA.trans (hq.below_of hgS hcA.size)
      replace hq := hqN
      clear hqN
      refine w_nil ?_
      refine h_on ⟨hcS, ?_⟩
      refine h_nil ?_
      have sw22 := hcS.size
      replace hv := hv.below hcS
      replace hv2 := hv2.below hcS
      replace hbx := cell_below hbx hcS
      replace hbx2 := cell_below hbx2 hcS
      replace hx8 := hx8.below hcS
      replace hx13 := hx13.below hcS
      replace hM := hM.below hcS
      replace hT := hT.below hcS
      replace hbB1 := hbB1.trans (hcS.mono hbB1.size)
      clear hgA hgS hcA hcS
      generalize gi (gr ms j) (gi (prRow (nf ks) (gi o i)) 0) = a at *
      generalize gi (gr ks j) (gi (prRow (nf ks) (gi o i)) 1) = b at *
      generalize a * (nf ks : Int) + b = c at *
      have ekey : prV (nf ks) c = .agg #[.int .i64 a, .int .i64 b] := by unfold prV; rw [cd, cm]
      have erow : prRow (nf ks) c = [a, b] := by unfold prRow; rw [cd, cm]
      have hoe2 : visit o c = visits (mixB ms ks f g i) ((images (prodM ms ks) (gi (mixB ms ks f g i) i)).take (j + 1)) := by
        rw [visits_take_succ (by rw [length_images, length_prodM]; omega), gi_images (by rw [length_prodM]; omega), ← hoe, ← hgo, e]
      have hstep := mixRows_step (P := prodM ms ks) (o := o) (r := ms.length) (i := i) (j := j) (by omega) (by omega) hnd hcl
      rw [e] at hstep
      refine go ?_
      refine s_p (wn rfl) rfl (y_ldP rfl hq) ?_
      by_cases hin : c ∈ o
      · have hvis : visit o c = o := if_pos hin
        have hat := kvOf_at (nk := nf ks) hin
        have hfst := kvOf_first (nk := nf ks) hnd hin
        rw [ekey] at hat hfst
        have eidx : idxOf o c = idxOf (visit o c) c := by rw [hvis]
        refine s_p (wn rfl) rfl (y_lookHit rfl rfl hM ⟨_, _, rfl⟩ (kvOf_key _ _) hat hfst) ?_
        obtain ⟨ru, us, hru, hcru, hone, hown, hlus, hrest⟩ := hT.row (by decide) (j := (j : Int)) (by omega) (by rw [length_mixRows]; omega)
        have hc13 := hx13.cell
        have sob := hT.rows.sv
        rw [length_mixRows] at sob
        have srw := hru.sv
        refine go ?_
        refine region_xS (fun w' => Below w6.heap.size w6 w' ∧ w'.cell? p13 = some ob ∧ w'.cell? (addrOf ob (j : Int).toNat) = some ru) 12 mixed (fun w23 cr => ?_)
        have hlenr : (gr (mixRows (prodM ms ks) o ms.length i j) j).length ≤ 401 := by rw [gr_mixRows (by omega), length_mixRow]; split <;> omega
        have szr := cr.size
        have hbB1 := hbB1.trans (cr.mono hbB1.size)
        replace hru := hru.below cr
        replace hc13 := cell_below hc13 cr
        replace hcru := cell_below hcru cr
        replace hx13 := hx13.below cr
        replace hM := hM.below cr
        replace hT := hT.below cr
        obtain ⟨ru2, us2, hru2, hcru2, _, hown2, hlus2, hrest2⟩ := hT.row (by decide) (j := (j : Int)) (by omega) (by rw [length_mixRows]; omega)
        obtain rfl : ru = ru2 := by rw [hcru] at hcru2; exact Option.some.inj hcru2
        clear hrest hown hlus us hru
        refine x_p 0 ⟨hbB1, hc13, hcru⟩ ?_ (hrun := fun w' h => by obtain ⟨h1, h2, h3⟩ := h; exact yl)
        refine x_p 1 ⟨hbB1, hc13, hcru⟩ ?_ (hrun := fun w' h => by obtain ⟨h1, h2, h3⟩ := h; exact yl)
        refine x_p 2 ⟨hbB1, hc13, hcru⟩ ?_ (hrun := fun w' h => by obtain ⟨h1, h2, h3⟩ := h; exact yl)
        refine x_p 3 ⟨hbB1, hc13, hcru⟩ ?_ (hrun := fun w' h => by obtain ⟨h1, h2, h3⟩ := h; exact yl)
        refine x_p 4 ⟨hbB1, hc13, hcru⟩ ?_ (hrun := fun w' h => by obtain ⟨h1, h2, h3⟩ := h; exact yl)
        refine x_p 5 ⟨hbB1, hc13, hcru⟩ ?_ (hrun := fun w' h => by obtain ⟨h1, h2, h3⟩ := h; exact yl)
        refine x_p 6 ⟨hbB1, hc13, hcru⟩ ?_ (hrun := fun w' h => by obtain ⟨h1, h2, h3⟩ := h; exact yl)
        refine x_p 7 ⟨hbB1, hc13, hcru⟩ ?_ (hrun := fun w' h => by obtain ⟨h1, h2, h3⟩ := h; exact yl)
        refine x_p 8 ⟨hbB1, hc13, hcru⟩ ?_ (hrun := fun w' h => by obtain ⟨h1, h2, h3⟩ := h; exact yl)
        refine x_one 9 ?_
        refine s_build1 (B := w6.heap.size) (wn rfl) rfl rfl hbB1.size (fun tb w24 ht st hgB _ => ?_)
        have hbB := below_of_grownBy hgB
        have szb := hbB.size
        have hbB1 := hbB1.trans (hbB.mono hbB1.size)
        replace hc13 := cell_below hc13 hbB
        replace hcru := cell_below hcru hbB
        replace hx13 := hx13.below hbB
        replace hM := hM.below hbB
        replace hT := hT.below hbB
        obtain ⟨ru2, us, hru, hcru3, _, hown, hlus, hrest⟩ := hT.row (by decide) (j := (j : Int)) (by omega) (by rw [length_mixRows]; omega)
        obtain rfl : ru = ru2 := by rw [hcru] at hcru3; exact Option.some.inj hcru3
        refine w_nil ?_
        refine x_end ⟨fun _ => ⟨hbB1, hc13, hcru⟩, ?_⟩
        refine x_one 10 ?_
        refine s_appendI (wn rfl) rfl rfl rfl hru ht.il (by simp; omega) hbB1.size (fun rn w25 hrn2 srn hgR hgrow => ?_)
        have szR := hgR.size
        obtain ⟨hownA, hrestA⟩ := hrest _ _ _ hrn2 hgR hgrow
        have hbB12 := hbB1.trans (hru.below_of hgR hbB1.size)
        replace hc13 := cell_kept hc13 hgR (fun e => hru.own.apart_box hx13 (by decide) e.symm)
        replace hcru := cell_kept hcru hgR (by
          intro e
          have hb1 := addrOf_ownBlock hown hlus
          rcases hown.apart_type hru.own (by decide) with h | h
          · rw [h] at hb1; cases hb1
          · exact h (hb1.trans e))
        replace hx13 := hx13.kept hgR (hru.own.apart_box hx13 (by decide))
        replace hM := hM.kept hgR (hru.own.apart_map hM)
        refine w_nil ?_
        refine x_end ⟨fun _ => ⟨hbB12, hc13, hcru⟩, ?_⟩
        refine x_p 11 ⟨hbB12, hc13, hcru⟩ ?_ (hrun := fun w' h => by obtain ⟨h1, h2, h3⟩ := h; exact yl)
        refine x_one 12 ?_
        refine s_store (wn rfl) rfl rfl hrn2.sv.one hownA hlus (fun w26 hownS hgO => ?_)
        have sw26 := hgO.size
        replace hbB1 := hbB12.trans (grownBy_below hgO hbB12.size (fun k hk => (hownA.lt k hk).1))
        replace hx13 := hx13.kept hgO (hownA.apart_box hx13 (by decide))
        replace hM := hM.kept hgO (hownA.apart_map hM)
        replace hT := hrestA _ hownS hgO
        rw [Int.toNat_natCast, eidx, hstep] at hT
        replace hv := hv_b1.below hbB1
        replace hv2 := hv2_b1.below hbB1
        replace hbx := cell_below hbx_b1 hbB1
        replace hbx2 := cell_below hbx2_b1 hbB1
        replace hx8 := hx8_b1.below hbB1
        refine w_nil ?_
        refine x_end ⟨fun h => absurd rfl h, ?_⟩
        refine x_nil ?_
        refine go ?_
        refine ⟨ms.length - (j + 1), by omega, j + 1, pb, _, rfl, by omega, rfl, rfl, rfl, rfl, rfl, rfl, rfl, rfl, rfl, hoe2, hx13, by rw [hvis] at hT ⊢; exact hT, by rw [hvis]; exact hM, hbB1⟩
      have hvis : visit o c = o ++ [c] := if_neg hin
      have hmiss := kvOf_miss (nk := nf ks) hin
      rw [ekey] at hmiss
      have hnd2 : (o ++ [c]).Nodup := by rw [← hvis]; exact nodup_visit hnd
      have eidx : (o.length : Int) = idxOf (visit o c) c := by
        have h1 : gi (o ++ [c]) (o.length : Nat) = c := by simp [gi, List.getD]
        have h2 := idxOf_at hnd2 (i := o.length) (by simp)
        rw [h1] at h2
        rw [hvis, h2]
      refine s_p (wn rfl) rfl (y_lookMiss rfl rfl hM ⟨_, _, rfl⟩ hmiss) ?_
      refine go ?_
      refine s_call1 (wn rfl) rfl rfl (sizeR_any _ _ _ sp) ?_
      rintro _ _ ⟨rfl, rfl⟩
      refine go ?_
      refine s_p (wn rfl) rfl (y_ldP rfl hq) ?_
      refine go ?_
      have szq27 := hbB1.size
      refine s_mapUpdate (wn rfl) rfl rfl rfl hM ⟨_, _, rfl⟩ hmiss (fun w27 hMN hgN => ?_)
      rw [← ekey, ← kvOf_snoc] at hMN
      replace hbB1 := hbB1.trans (hM.below_of hgN szq27)
      have sw27 := hgN.size
      replace hT := hT.map hM hgN
      replace hx13 := hx13.kept hgN (hx13.apart_map hM)
      replace hq := hq.kept hgN (hq.apart_map hM)
      replace hM := hMN
      clear hMN
      replace hv := hv_b1.below hbB1
      replace hv2 := hv2_b1.below hbB1
      replace hbx := cell_below hbx_b1 hbB1
      replace hbx2 := cell_below hbx2_b1 hbB1
      replace hx8 := hx8_b1.below hbB1
      have hq0 := hq.c0
      have hq1 := hq.c1
      refine go ?_
      refine s_p (wn rfl) rfl (y_pi0 rfl) ?_
      refine go ?_
      refine s_p (wn rfl) rfl (y_pi1 rfl) ?_
      refine go ?_
      have hTc := hT
      have hcc := Below.refl w27.heap.size w27
      refine s_buildI (B := w27.heap.size) [a, b] (wn rfl) rfl rfl rfl rfl (Nat.le_refl _) (fun rb2 w28 hr2 sr2 hg28 _ => ?_)
      have hb28 := below_of_grownBy hg28
      replace hcc := hcc.trans (hb28.mono hcc.size)
      have sw28 := hb28.size
      replace hv := hv.below hb28
      replace hv2 := hv2.below hb28
      replace hbx := cell_below hbx hb28
      replace hbx2 := cell_below hbx2 hb28
      replace hx8 := hx8.below hb28
      replace hx13 := hx13.below hb28
      replace hM := hM.below hb28
      replace hT := hT.below hb28
      replace hq := hq.below hb28
      replace hbB1 := hbB1.trans (hb28.mono hbB1.size)
      have szq29 := hbB1.size
      refine s_build1V (B := w6.heap.size) (wn rfl) rfl rfl hr2.sv.one szq29 (fun tb2 w29 ht2 st2 hg29 _ => ?_)
      have hb29 := below_of_grownBy hg29
      replace hcc := hcc.trans (hb29.mono hcc.size)
      have sw29 := hb29.size
      replace hv := hv.below hb29
      replace hv2 := hv2.below hb29
      replace hbx := cell_below hbx hb29
      replace hbx2 := cell_below hbx2 hb29
      replace hx8 := hx8.below hb29
      replace hx13 := hx13.below hb29
      replace hM := hM.below hb29
      replace hT := hT.below hb29
      replace hq := hq.below hb29
      replace hr2 := hr2.below hb29
      replace hbB1 := hbB1.trans (hb29.mono hbB1.size)
      obtain ⟨vs2, hown2, hvl2, hpush⟩ := hTc.push (by decide) hcc hr2 (by have := hcc.size; omega)
      rw [List.length_map] at hvl2
      have szq30 := hbB1.size
      refine s_append (wn rfl) rfl rfl rfl hown2 ht2.rd (by intro x hx; simp at hx; subst hx; exact hr2.sv.one) (by simp; omega) szq30 (fun pb' w30 hpn hgP hgrowP => ?_)
      replace hT := hpush _ _ hpn hgP hgrowP
      have sw30 := hgP.size
      replace hbB1 := hbB1.trans (grownBy_below hgP szq30 (fun k hk => (hown2.lt k hk).1))
      replace hx13 := hx13.kept hgP (hown2.apart_box hx13 (by decide))
      replace hM := hM.kept hgP (hown2.apart_map hM)
      have spn := hpn.sv
      clear hTc hpush
      have emap : o.map (prRow (nf ks)) ++ [[a, b]] = (visit o c).map (prRow (nf ks)) := by rw [hvis, List.map_append, List.map_singleton, erow]
      rw [emap] at hT
      replace hv := hv_b1.below hbB1
      replace hv2 := hv2_b1.below hbB1
      replace hbx := cell_below hbx_b1 hbB1
      replace hbx2 := cell_below hbx2_b1 hbB1
      replace hx8 := hx8_b1.below hbB1
      obtain ⟨ru, us, hru, hcru, hone, hown, hlus, hrest⟩ := hT.row (by decide) (j := (j : Int)) (by omega) (by rw [length_mixRows]; omega)
      have hc13 := hx13.cell
      have sob := hT.rows.sv
      rw [length_mixRows] at sob
      have srw := hru.sv
      refine go ?_
      refine region_xS (fun w' => Below w6.heap.size w6 w' ∧ w'.cell? p13 = some ob ∧ w'.cell? (addrOf ob (j : Int).toNat) = some ru) 12 mixed (fun w31 cr => ?_)
      have hlenr : (gr (mixRows (prodM ms ks) o ms.length i j) j).length ≤ 401 := by rw [gr_mixRows (by omega), length_mixRow]; split <;> omega
      have szr := cr.size
      have hbB1 := hbB1.trans (cr.mono hbB1.size)
      replace hru := hru.below cr
      replace hc13 := cell_below hc13 cr
      replace hcru := cell_below hcru cr
      replace hx13 := hx13.below cr
      replace hM := hM.below cr
      replace hT := hT.below cr
      obtain ⟨ru2, us2, hru2, hcru2, _, hown2, hlus2, hrest2⟩ := hT.row (by decide) (j := (j : Int)) (by omega) (by rw [length_mixRows]; omega)
      obtain rfl : ru = ru2 := by rw [hcru] at hcru2; exact Option.some.inj hcru2
      clear hrest hown hlus us hru
      refine x_p 0 ⟨hbB1, hc13, hcru⟩ ?_ (hrun := fun w' h => by obtain ⟨h1, h2, h3⟩ := h; exact yl)
      refine x_p 1 ⟨hbB1, hc13, hcru⟩ ?_ (hrun := fun w' h => by obtain ⟨h1, h2, h3⟩ := h; exact yl)
      refine x_p 2 ⟨hbB1, hc13, hcru⟩ ?_ (hrun := fun w' h => by obtain ⟨h1, h2, h3⟩ := h; exact yl)
      refine x_p 3 ⟨hbB1, hc13, hcru⟩ ?_ (hrun := fun w' h => by obtain ⟨h1, h2, h3⟩ := h; exact yl)
      refine x_p 4 ⟨hbB1, hc13, hcru⟩ ?_ (hrun := fun w' h => by obtain ⟨h1, h2, h3⟩ := h; exact yl)
      refine x_p 5 ⟨hbB1, hc13, hcru⟩ ?_ (hrun := fun w' h => by obtain ⟨h1, h2, h3⟩ := h; exact yl)
      refine x_p 6 ⟨hbB1, hc13, hcru⟩ ?_ (hrun := fun w' h => by obtain ⟨h1, h2, h3⟩ := h; exact yl)
      refine x_p 7 ⟨hbB1, hc13, hcru⟩ ?_ (hrun := fun w' h => by obtain ⟨h1, h2, h3⟩ := h; exact yl)
      refine x_p 8 ⟨hbB1, hc13, hcru⟩ ?_ (hrun := fun w' h => by obtain ⟨h1, h2, h3⟩ := h; exact yl)
      refine x_one 9 ?_
      refine s_build1 (B := w6.heap.size) (wn rfl) rfl rfl hbB1.size (fun tb w32 ht st hgB _ => ?_)
      have hbB := below_of_grownBy hgB
      have szb := hbB.size
      have hbB1 := hbB1.trans (hbB.mono hbB1.size)
      replace hc13 := cell_below hc13 hbB
      replace hcru := cell_below hcru hbB
      replace hx13 := hx13.below hbB
      replace hM := hM.below hbB
      replace hT := hT.below hbB
      obtain ⟨ru2, us, hru, hcru3, _, hown, hlus, hrest⟩ := hT.row (by decide) (j := (j : Int)) (by omega) (by rw [length_mixRows]; omega)
      obtain rfl : ru = ru2 := by rw [hcru] at hcru3; exact Option.some.inj hcru3
      refine w_nil ?_
      refine x_end ⟨fun _ => ⟨hbB1, hc13, hcru⟩, ?_⟩
      refine x_one 10 ?_
      refine s_appendI (wn rfl) rfl rfl rfl hru ht.il (by simp; omega) hbB1.size (fun rn w33 hrn2 srn hgR hgrow => ?_)
      have szR := hgR.size
      obtain ⟨hownA, hrestA⟩ := hrest _ _ _ hrn2 hgR hgrow
      have hbB12 := hbB1.trans (hru.below_of hgR hbB1.size)
      replace hc13 := cell_kept hc13 hgR (fun e => hru.own.apart_box hx13 (by decide) e.symm)
      replace hcru := cell_kept hcru hgR (by
        intro e
        have hb1 := addrOf_ownBlock hown hlus
        rcases hown.apart_type hru.own (by decide) with h | h
        · rw [h] at hb1; cases hb1
        · exact h (hb1.trans e))
      replace hx13 := hx13.kept hgR (hru.own.apart_box hx13 (by decide))
      replace hM := hM.kept hgR (hru.own.apart_map hM)
      refine w_nil ?_
      refine x_end ⟨fun _ => ⟨hbB12, hc13, hcru⟩, ?_⟩
      refine x_p 11 ⟨hbB12, hc13, hcru⟩ ?_ (hrun := fun w' h => by obtain ⟨h1, h2, h3⟩ := h; exact yl)
      refine x_one 12 ?_
      refine s_store (wn rfl) rfl rfl hrn2.sv.one hownA hlus (fun w34 hownS hgO => ?_)
      have sw34 := hgO.size
      replace hbB1 := hbB12.trans (grownBy_below hgO hbB12.size (fun k hk => (hownA.lt k hk).1))
      replace hx13 := hx13.kept hgO (hownA.apart_box hx13 (by decide))
      replace hM := hM.kept hgO (hownA.apart_map hM)
      replace hT := hrestA _ hownS hgO
      rw [Int.toNat_natCast, eidx, hstep] at hT
      replace hv := hv_b1.below hbB1
      replace hv2 := hv2_b1.below hbB1
      replace hbx := cell_below hbx_b1 hbB1
      replace hbx2 := cell_below hbx2_b1 hbB1
      replace hx8 := hx8_b1.below hbB1
      refine w_nil ?_
      refine x_end ⟨fun h => absurd rfl h, ?_⟩
      refine x_nil ?_
      refine go ?_
      refine ⟨ms.length - (j + 1), by omega, j + 1, pb', _, rfl, by omega, rfl, rfl, rfl, rfl, rfl, rfl, rfl, rfl, rfl, hoe2, hx13, hT, by rw [hvis]; exact hM, hbB1⟩
    obtain rfl : j = ms.length := by omega
    have hbs : o = mixB ms ks f g (i + 1) := by
      rw [hoe, visits_take_all (by rw [length_images, length_prodM]; omega), mixB_succ (by omega)]
    subst hbs
    rw [mixRows_next] at hT
    refine go ?_
    refine cond_dec rfl (fun hlt => ?_) (fun hge => ?_)
    · have hbig := mixB_big (ms := ms) (ks := ks) (f := f) (g := g) (i := i) (by omega) (by omega)
      have e := mix_4 hm' hk' hf' hg' hl hbig
      have hbY := (hb.trans (hbB1.mono hb.size))
      refine go ?_
      refine s_p (wn rfl) rfl y_bld0 ?_
      refine go ?_
      refine s_storeBox (wn rfl) rfl rfl rfl hx8 (fun w35 hxz hgz => ?_)
      have hbz := hbY.trans (hx8.below_of hgz hbY.size)
      refine go ?_
      exact end_cellT3 Try.results105 rfl rfl rfl hxz.cell ⟨_, _, by rw [e.2.2], by rw [e.1]; exact OM.nil _ _ _ _ _, by rw [e.2.1]; exact OM.nil _ _ _ _ _, hbz⟩
    refine go ?_
    refine ⟨401 - (i + 1), by omega, i + 1, pb, rfl, by omega, rfl, rfl, rfl, rfl, rfl, rfl, rfl, by omega, by omega, hx13, hT, hM, hbB1⟩
  have he := mixB_end (ms := ms) (ks := ks) (f := f) (g := g) (i := i) (by omega) (by omega)
  have hok : (mixO ms ks f g).length ≤ 400 := by rw [he]; exact hlen
  have e := mix_5 hm' hk' hf' hg' hl hok
  have hi : i = (mixB ms ks f g i).length := by omega
  have e1 : mixRows (prodM ms ks) (mixB ms ks f g i) ms.length i 0 = mixL ms ks f g := by
    rw [e.1, he]
    refine List.map_congr_left fun q hq => ?_
    rw [if_neg (Nat.not_lt_zero q), ← mixRow_all]
    exact congrArg _ hi
  have e2 : (mixB ms ks f g i).map (prRow (nf ks)) = mixP ms ks f g := by rw [e.2.1, he]; rfl
  rw [e1, e2] at hT
  have hx := hT.omRows
  have hy := hT.omPairs
  have hc13 := hx13.cell
  have hbY := (hb.trans (hbB1.mono hb.size))
  refine go ?_
  refine s_storeBox (wn rfl) rfl rfl hx.sv.one hx8 (fun w36 hxz hgz => ?_)
  have hbz := hbY.trans (hx8.below_of hgz hbY.size)
  have hxN := hx.kept hgz (by omega)
  have hyN := hy.kept hgz (by omega)
  refine go ?_
  exact end_cellT3 Try.results105 rfl rfl rfl hxz.cell ⟨ob, pb, by rw [e.2.2], (hxN.mono (by omega)).top, (hyN.mono (by omega)).top, hbz⟩

set_option maxHeartbeats 8000000 in
set_option maxRecDepth 100000 in
theorem implMixAt_any (v : Value) (v2 : Value) (ms : List (List Int)) (f : Int) (ks : List (List Int)) (g : Int) (w : World) (hv : RL w v ms) (hv2 : RL w v2 ks) :
    Ret Try.prog 44 #[.agg #[v], .int .i64 f, .agg #[v2], .int .i64 g] w fun r w' => ∃ x, r = .tuple #[.agg #[x], .int .i64 (mixC ms ks f g)] ∧ OM w' w.heap.size w'.heap.size 34 2 x (mixL ms ks f g) ∧ Below w.heap.size w w' := by
  have shv := hv.sv
  have shv2 := hv2.sv
  have hb := Below.refl w.heap.size w
  refine enter4 24 Try.func44 rfl Try.ntmps44 rfl (fun fr => ?_)
  refine go ?_
  refine s_box (wn rfl) rfl rfl (agg_cells shv) (fun w1 hbx _ hp hg => ?_)
  have hb1 := below_of_grownBy hg
  have sw1 := hb1.size
  replace hv := hv.below hb1
  replace hv2 := hv2.below hb1
  replace hb := hb.trans (hb1.mono hb.size)
  clear hg hp hb1
  generalize (⟨w.heap.size, 0, none⟩ : Addr) = p at *
  refine go ?_
  refine s_box (wn rfl) rfl rfl (agg_cells shv2) (fun w2 hbx2 _ hp hg => ?_)
  have hb2 := below_of_grownBy hg
  have sw2 := hb2.size
  replace hv := hv.below hb2
  replace hv2 := hv2.below hb2
  replace hbx := cell_below hbx hb2
  replace hb := hb.trans (hb2.mono hb.size)
  clear hg hp hb2
  generalize (⟨w1.heap.size, 0, none⟩ : Addr) = p2 at *
  have sz0 := hb.size
  refine go ?_
  refine s_alloc (B := w.heap.size) (wn rfl) rfl (by first | exact Nat.le_refl _ | omega) (fun w3 p8 hx8 hg3 hpp8 => ?_)
  have hb3 := below_of_grownBy hg3
  have sw3 := hb3.size
  replace hv := hv.below hb3
  replace hv2 := hv2.below hb3
  replace hbx := cell_below hbx hb3
  replace hbx2 := cell_below hbx2 hb3
  replace hb := hb.trans (hb3.mono hb.size)
  have hlt_hx8 := hx8.lt
  have sz1 := hb.size
  refine go ?_
  refine s_call4 (wn rfl) rfl rfl rfl rfl rfl (mixAt_any _ _ _ _ _ _ _ hv hv2) ?_
  rintro _ w4 ⟨x, y, rfl, hx, hy, hb4⟩
  have sw4 := hb4.size
  replace hv := hv.below hb4
  replace hv2 := hv2.below hb4
  replace hbx := cell_below hbx hb4
  replace hbx2 := cell_below hbx2 hb4
  replace hx8 := hx8.below hb4
  replace hb := hb.trans (hb4.mono hb.size)
  have sx := hx.sv
  have sy := hy.sv
  have sz3 := hb.size
  have hxl := fun g hg => (hx.ownlt g hg).2
  have hyl := fun g hg => (hy.ownlt g hg).2
  refine go ?_
  refine s_p (wn rfl) rfl (y_ext30 rfl) ?_
  refine s_p (wn rfl) rfl (y_ext31 rfl) ?_
  refine s_p (wn rfl) rfl (y_ext32 rfl) ?_
  refine go ?_
  refine s_alloc (B := w4.heap.size) (wn rfl) rfl (by first | exact Nat.le_refl _ | omega) (fun w5 p10 hx10 hg5 hpp10 => ?_)
  have hb5 := below_of_grownBy hg5
  have sw5 := hb5.size
  replace hv := hv.below hb5
  replace hv2 := hv2.below hb5
  replace hbx := cell_below hbx hb5
  replace hbx2 := cell_below hbx2 hb5
  replace hx8 := hx8.below hb5
  replace hx := hx.below hb5
  replace hy := hy.below hb5
  replace hb := hb.trans (hb5.mono hb.size)
  have hlt_hx10 := hx10.lt
  refine go ?_
  refine s_storeBox (wn rfl) rfl rfl sx.one hx10 (fun w6 hxN hgN => ?_)
  have sw6 := hgN.size
  replace hb := hb.trans ((hx10.below_of hgN (Nat.le_of_lt_succ (by omega))).mono (by omega))
  replace hx := hx.apart2 hxl hgN (fun g hg => by cases hg; right; omega)
  replace hy := hy.apart2 hyl hgN (fun g hg => by cases hg; right; omega)
  replace hx8 := hx8.kept hgN (by intro e; simp at e; omega)
  have hcx := hxN.cell
  refine go ?_
  have hbY := hb
  refine s_storeBox (wn rfl) rfl rfl sx.one hx8 (fun w7 hxz hgz => ?_)
  have hbz := hbY.trans (hx8.below_of hgz hbY.size)
  have hxN2 := hx.kept hgz (by omega)
  refine go ?_
  exact end_cellT Try.results44 rfl rfl hxz.cell ⟨x, rfl, (hxN2.mono (by omega)).top, hbz⟩

set_option maxHeartbeats 8000000 in
set_option maxRecDepth 100000 in
theorem implMixPairs_any (v : Value) (v2 : Value) (ms : List (List Int)) (f : Int) (ks : List (List Int)) (g : Int) (w : World) (hv : RL w v ms) (hv2 : RL w v2 ks) :
    Ret Try.prog 46 #[.agg #[v], .int .i64 f, .agg #[v2], .int .i64 g] w fun r w' => ∃ x, r = .tuple #[x, .int .i64 (mixC ms ks f g)] ∧ OM w' w.heap.size w'.heap.size 34 2 x (mixP ms ks f g) ∧ Below w.heap.size w w' := by
  have shv := hv.sv
  have shv2 := hv2.sv
  have hb := Below.refl w.heap.size w
  refine enter4 24 Try.func46 rfl Try.ntmps46 rfl (fun fr => ?_)
  refine go ?_
  refine s_box (wn rfl) rfl rfl (agg_cells shv) (fun w1 hbx _ hp hg => ?_)
  have hb1 := below_of_grownBy hg
  have sw1 := hb1.size
  replace hv := hv.below hb1
  replace hv2 := hv2.below hb1
  replace hb := hb.trans (hb1.mono hb.size)
  clear hg hp hb1
  generalize (⟨w.heap.size, 0, none⟩ : Addr) = p at *
  refine go ?_
  refine s_box (wn rfl) rfl rfl (agg_cells shv2) (fun w2 hbx2 _ hp hg => ?_)
  have hb2 := below_of_grownBy hg
  have sw2 := hb2.size
  replace hv := hv.below hb2
  replace hv2 := hv2.below hb2
  replace hbx := cell_below hbx hb2
  replace hb := hb.trans (hb2.mono hb.size)
  clear hg hp hb2
  generalize (⟨w1.heap.size, 0, none⟩ : Addr) = p2 at *
  have sz0 := hb.size
  refine go ?_
  refine s_call4 (wn rfl) rfl rfl rfl rfl rfl (mixAt_any _ _ _ _ _ _ _ hv hv2) ?_
  rintro _ w3 ⟨x, y, rfl, hx, hy, hb3⟩
  have sw3 := hb3.size
  replace hv := hv.below hb3
  replace hv2 := hv2.below hb3
  replace hbx := cell_below hbx hb3
  replace hbx2 := cell_below hbx2 hb3
  replace hb := hb.trans (hb3.mono hb.size)
  have sx := hx.sv
  have sy := hy.sv
  have sz3 := hb.size
  have hxl := fun g hg => (hx.ownlt g hg).2
  have hyl := fun g hg => (hy.ownlt g hg).2
  refine go ?_
  refine s_p (wn rfl) rfl (y_ext30 rfl) ?_
  refine s_p (wn rfl) rfl (y_ext31 rfl) ?_
  refine s_p (wn rfl) rfl (y_ext32 rfl) ?_
  refine go ?_
  refine s_alloc (B := w3.heap.size) (wn rfl) rfl (by first | exact Nat.le_refl _ | omega) (fun w4 p10 hx10 hg4 hpp10 => ?_)
  have hb4 := below_of_grownBy hg4
  have sw4 := hb4.size
  replace hv := hv.below hb4
  replace hv2 := hv2.below hb4
  replace hbx := cell_below hbx hb4
  replace hbx2 := cell_below hbx2 hb4
  replace hx := hx.below hb4
  replace hy := hy.below hb4
  replace hb := hb.trans (hb4.mono hb.size)
  have hlt_hx10 := hx10.lt
  refine go ?_
  refine s_storeBox (wn rfl) rfl rfl sx.one hx10 (fun w5 hxN hgN => ?_)
  have sw5 := hgN.size
  replace hb := hb.trans ((hx10.below_of hgN (Nat.le_of_lt_succ (by omega))).mono (by omega))
  replace hx := hx.apart2 hxl hgN (fun g hg => by cases hg; right; omega)
  replace hy := hy.apart2 hyl hgN (fun g hg => by cases hg; right; omega)
  have hcx := hxN.cell
  refine go ?_
  refine go ?_
  exact end_two Try.results46 rfl rfl ⟨_, rfl, (hy.mono (by omega)).top, hb⟩

end Go.Proofs.Ytmdimdbfgibflaa
