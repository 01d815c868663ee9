/- Contracts: l01Count, the draw of a face; numbers of faces. -/
import Derived.Test.YtmdimdbfgibflaaF65
import Derived.Test.YtmdimdbfgibflaaFG
import Derived.Test.YtmdimdbfgibflaaPE
namespace Go.Mem
/-- the numbers of faces -/
def facN (ms : List (List Int)) : List Int := (List.range ms.length).map fun i : Nat => facC ms i
theorem facN_len (ms : List (List Int)) : (facN ms).length = ms.length := by simp [facN]
theorem gi_facN {ms : List (List Int)} {i : Int} (h0 : 0 ≤ i) (hi : i < ms.length) : gi (facN ms) i = facC ms i := by
  unfold facN
  rw [gi_range_map h0 hi, show ((i.toNat : Nat) : Int) = i by omega]
theorem facN_succ (ms : List (List Int)) (i : Nat) : (List.range (i + 1)).map (fun i : Nat => facC ms i) = (List.range i).map (fun i : Nat => facC ms i) ++ [facC ms i] := by simp [List.range_succ]
section
open Go.RowKit
theorem y_x30 {P : Program} {n : Nat} {f : Fm} {w : World} {dst : Option Tmp} {ty : TypeId} {pos : String} {after : Array Edge} {g : Option (Nat × Bool)} {x : Operand} {a b c : Value} (hx : lk n f x = some (.tuple #[a, b, c])) : Yld P (evo n f) ⟨dst, .extract x 0, ty, pos, after, g⟩ w a := by
  replace hx := lk_evo hx
  constructor; simp [execOp, Instr.extract, hx]
theorem y_x31 {P : Program} {n : Nat} {f : Fm} {w : World} {dst : Option Tmp} {ty : TypeId} {pos : String} {after : Array Edge} {g : Option (Nat × Bool)} {x : Operand} {a b c : Value} (hx : lk n f x = some (.tuple #[a, b, c])) : Yld P (evo n f) ⟨dst, .extract x 1, ty, pos, after, g⟩ w b := by
  replace hx := lk_evo hx
  constructor; simp [execOp, Instr.extract, hx]
theorem y_x32 {P : Program} {n : Nat} {f : Fm} {w : World} {dst : Option Tmp} {ty : TypeId} {pos : String} {after : Array Edge} {g : Option (Nat × Bool)} {x : Operand} {a b c : Value} (hx : lk n f x = some (.tuple #[a, b, c])) : Yld P (evo n f) ⟨dst, .extract x 2, ty, pos, after, g⟩ w c := by
  replace hx := lk_evo hx
  constructor; simp [execOp, Instr.extract, hx]
/-- three results, the first of which lies in a variable -/
theorem end_cell3 {P : Program} {fn : Func} {R : Value → World → Prop} {n t s q : Nat} {f : Fm} {w : World} {ty : TypeId} {p : Addr} {u v v2 : Value} [hb : BoxTy P ty] (h : fn.results = #[.cell t ty, .tmp s, .tmp q])
    (hv : lk n f (.tmp t) = some (.pointer (some p))) (hs : lk n f (.tmp s) = some v) (hq : lk n f (.tmp q) = some v2) (hc : w.cell? p = some u) (hR : R (.tuple #[.agg #[u], v, v2]) w) : endPost P fn n R .ret f w := by
  have e (t : Nat) : (act n f.fn).tmps[t]?.getD undef = evo n f (.tmp t) := by rw [← act_eval]; simp [Act.eval]
  refine ⟨.tuple #[.agg #[u], v, v2], ?_, hR⟩
  simp [results, h, e, lk_evo hv, lk_evo hs, lk_evo hq, asAddr, loadVar, hb.agg, hb.size, loadCells, loadCellsFrom, Addr.add_zero', hc]
end
end Go.Mem
namespace Go.Proofs.Ytmdimdbfgibflaa
open Go.Mem Go.RowKit
set_option linter.unusedVariables false
set_option linter.unusedSimpArgs false

set_option maxHeartbeats 8000000 in
set_option maxRecDepth 100000 in
theorem l01Count_any (q B : Nat) (c : Value) (bs : List Int) (most : Int) (w : World) (hm : -1000000 ≤ most ∧ most ≤ 1000000) (hs : Sr w B q 115 c bs) :
    Ret Try.prog 178 #[.pointer (some ⟨q, 0, none⟩), .int .i64 most] w fun r w' => ∃ z : Int, r = .int .i64 z ∧ Sr w' B q 115 c bs ∧ w.grownBy w' (some q) := by
  have hql := hs.lt
  refine enter2 17 Try.func178 rfl Try.ntmps178 rfl (fun fr => ?_)
  refine go2 ?_
  refine s_call2 (wn rfl) rfl rfl rfl (l01Next_any q 14 B c bs _ hs (by omega)) ?_
  rintro _ v1 ⟨k, rfl, hk0, hk, hs', hgq⟩
  have zv1 := hgq.size
  replace hs := hs'
  have hg := hgq
  clear hgq
  have hk' := hk (by omega)
  refine go2 ?_
  refine cond_dec rfl (fun e0 => ?_) (fun e0 => ?_)
  · refine go2 ?_
    refine s_buildI (B := w.heap.size) [-1, most + 1, 1099511627776, -4611686018427387904] (wn rfl) rfl rfl rfl rfl (by omega) (fun tb v2 ht st hga _ => ?_)
    have hba := below_of_grownBy hga
    have zv2 := hba.size
    replace hs := hs.below hba
    replace hg := gr_step hg (grownBy_of_below hba none) (fun k hk => by cases hk)
    clear hba hga
    refine go2 ?_
    refine s_call2 (wn rfl) rfl rfl rfl (l01Pick_any q B c bs _ _ w.heap.size _ ht hql (by simp) (by simp) hs) ?_
    rintro _ v3 ⟨z, hz, rfl, hs', hgq⟩
    have zv3 := hgq.size
    replace hs := hs'
    replace ht := ht.kept hgq (ht.apart_blk (by omega))
    replace hg := grownBy_trans hg hgq
    refine go2 ?_
    exact end_one Try.results178 rfl ⟨z, rfl, hs, hg⟩
  refine go2 ?_
  refine s_call2 (wn rfl) rfl rfl rfl (l01Next_any q (most + 1) B c bs _ hs (by omega)) ?_
  rintro _ v4 ⟨z, rfl, _, _, hs', hgq⟩
  have zv4 := hgq.size
  replace hs := hs'
  replace hg := grownBy_trans hg hgq
  refine go2 ?_
  exact end_one Try.results178 rfl ⟨z, rfl, hs, hg⟩

set_option maxHeartbeats 8000000 in
set_option maxRecDepth 100000 in
theorem faceCounts_any (v : Value) (pv : Addr) (ms : List (List Int)) (w : World) (hv : RL w v ms) (hxv : w.cell? pv = some v) (hm : IsMan ms) :
    Ret Try.prog 91 #[.pointer (some pv)] w fun r w' => OI w' w.heap.size 2 r (facN ms) ∧ Below w.heap.size w w' := by
  have shv := hv.sv
  have hb := Below.refl w.heap.size w
  refine enter1 24 Try.func91 rfl Try.ntmps91 rfl (fun fr => ?_)
  have r5 := hm.m0.r5
  refine go ?_
  refine s_call1 (wn rfl) rfl rfl (rank_any _ _ _ _ hxv shv) ?_
  rintro _ _ ⟨rfl, rfl⟩
  refine go ?_
  have sbs1 := hb.size
  have hv_b1 := hv
  have hxv_b1 := hxv
  have hbB1 := Below.refl w.heap.size w
  refine go ?_
  refine w_loop (fun kk fr w' => ∃ (i : Nat) (ob : Value), kk = ms.length - i ∧ i ≤ ms.length ∧ fr 0 = .pointer (some pv) ∧ fr 3 = ob ∧ fr 8 = .int .i64 ms.length ∧ fr 9 = .int .i64 i ∧ (OI w' w.heap.size 2 ob ((List.range i).map fun i : Nat => facC ms i)) ∧ Below w.heap.size w w') (ms.length)
    ⟨0, _, rfl, Nat.zero_le _, rfl, rfl, rfl, rfl, OI.nil _ _ _, hbB1⟩ ?_
  rintro kk fr w1 ⟨i, ob, rfl, hi, f0, f3, f8, f9, ho, hbB1⟩
  have sw1 := hbB1.size
  have hv := hv_b1.below hbB1
  have hxv := cell_below hxv_b1 hbB1
  have sho := ho.sv
  refine know (t := 0) f0 ?_; refine know (t := 3) f3 ?_; refine know (t := 8) f8 ?_; refine know (t := 9) f9 ?_
  refine go ?_
  refine cond_dec rfl (fun hlt => ?_) (fun hge => ?_)
  · refine go ?_
    refine s_call2 (wn rfl) rfl rfl rfl (faces_any _ _ _ (i : Int) _ hv hxv hm (by omega)) ?_
    rintro _ w2 ⟨lb, rfl, hlb, hb2⟩
    have sw2 := hb2.size
    replace hv := hv.below hb2
    replace hxv := cell_below hxv hb2
    replace ho := ho.below hb2
    replace hbB1 := hbB1.trans (hb2.mono hbB1.size)
    refine go ?_
    have szq3 := hbB1.size
    refine s_build1 (B := w.heap.size) (wn rfl) rfl rfl szq3 (fun tb w3 ht st hg3 _ => ?_)
    have hb3 := below_of_grownBy hg3
    have sw3 := hb3.size
    replace hv := hv.below hb3
    replace hxv := cell_below hxv hb3
    replace ho := ho.below hb3
    replace hbB1 := hbB1.trans (hb3.mono hbB1.size)
    have szq4 := hbB1.size
    refine s_appendI (wn rfl) rfl rfl rfl ho ht.il (by simp; omega) szq4 (fun ob' w4 hoN so hgN _ => ?_)
    replace hbB1 := hbB1.trans (ho.below_of hgN szq4)
    have sw4 := hgN.size
    replace ho := hoN
    clear hoN
    replace hv := hv_b1.below hbB1
    replace hxv := cell_below hxv_b1 hbB1
    refine go ?_
    refine ⟨ms.length - (i + 1), by omega, i + 1, ob', rfl, by omega, rfl, rfl, rfl, rfl, by rw [facN_succ]; exact ho, hbB1⟩
  obtain rfl : i = ms.length := by omega
  refine go ?_
  exact end_one Try.results91 rfl ⟨ho, (hb.trans (hbB1.mono hb.size))⟩

set_option maxHeartbeats 8000000 in
set_option maxRecDepth 100000 in
theorem FaceCounts_good (v : Value) (ms : List (List Int)) (w : World) (hv : RL w v ms) (hm : IsMan ms) :
    Ret Try.prog 26 #[.agg #[v]] w fun r w' => ∃ x, r = .tuple #[x, .int .i64 0] ∧ OI w' w.heap.size 2 x (facN ms) ∧ Below w.heap.size w w' := by
  have shv := hv.sv
  have hb := Below.refl w.heap.size w
  refine enter1 8 Try.func26 rfl Try.ntmps26 rfl (fun fr => ?_)
  have d1 := decide_eq_true hm
  refine go ?_
  refine s_box (wn rfl) rfl rfl (agg_cells shv) (fun w1 hbx _ hp hg => ?_)
  have hb1 := below_of_grownBy hg
  have sw1 := hb1.size
  replace hv := hv.below hb1
  replace hb := hb.trans (hb1.mono hb.size)
  clear hg hp hb1
  generalize (⟨w.heap.size, 0, none⟩ : Addr) = p at *
  have sz0 := hb.size
  refine go ?_
  refine s_call1 (wn rfl) rfl rfl (isManiplex_any _ _ _ hv) ?_
  rintro _ w2 ⟨rfl, hb2⟩
  have sw2 := hb2.size
  replace hv := hv.below hb2
  replace hbx := cell_below hbx hb2
  replace hb := hb.trans (hb2.mono hb.size)
  rw [d1]
  have sz1 := hb.size
  refine go ?_
  refine s_call1 (wn rfl) rfl rfl (faceCounts_any _ _ _ _ hv hbx hm) ?_
  rintro y w3 ⟨hy, hb3⟩
  have sw3 := hb3.size
  replace hv := hv.below hb3
  replace hbx := cell_below hbx hb3
  replace hb := hb.trans (hb3.mono hb.size)
  refine go ?_
  exact end_two Try.results26 rfl rfl ⟨y, rfl, hy.mono (by omega), hb⟩

end Go.Proofs.Ytmdimdbfgibflaa
