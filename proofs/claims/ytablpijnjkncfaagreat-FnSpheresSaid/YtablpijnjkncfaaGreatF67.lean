/- Contracts: l01Count, the draw of a face; numbers of faces. -/
import Derived.Test.YtablpijnjkncfaaGreatF65
import Derived.Test.YtablpijnjkncfaaGreatFG
import Derived.Test.YtablpijnjkncfaaGreatPE
namespace Go.Mem
/-- the numbers of faces -/
def facN (ms : List (List Int)) : List Int := (List.range ms.length).map fun i : Nat => facC ms i
theorem facN_len (ms : List (List Int)) : (facN ms).length = ms.length := by simp [facN]
theorem gi_facN {ms : List (List Int)} {i : Int} (h0 : 0 ≤ i) (hi : i < ms.length) : gi (facN ms) i = facC ms i := by
  unfold facN
  rw [gi_range_map h0 hi, show ((i.toNat : Nat) : Int) = i by omega]
theorem facN_succ (ms : List (List Int)) (i : Nat) : (List.range (i + 1)).map (fun i : Nat => facC ms i) = (List.range i).map (fun i : Nat => facC ms i) ++ [facC ms i] := by simp [List.range_succ]
section
open Go.RowKit
theorem y_x30 {P : Program} {n : Nat} {f : Fm} {w : World} {dst : Option Tmp} {ty : TypeId} {pos : String} {after : Array Edge} {g : Option (Nat × Bool)} {x : Operand} {a b c : Value} (hx : lk n f x = some (.tuple #[a, b, c])) : Yld P (evo n f) ⟨dst, .extract x 0, ty, pos, after, g⟩ w a := by
  replace hx := lk_evo hx
  constructor; simp [execOp, Instr.extract, hx]
theorem y_x31 {P : Program} {n : Nat} {f : Fm} {w : World} {dst : Option Tmp} {ty : TypeId} {pos : String} {after : Array Edge} {g : Option (Nat × Bool)} {x : Operand} {a b c : Value} (hx : lk n f x = some (.tuple #[a, b, c])) : Yld P (evo n f) ⟨dst, .extract x 1, ty, pos, after, g⟩ w b := by
  replace hx := lk_evo hx
  constructor; simp [execOp, Instr.extract, hx]
theorem y_x32 {P : Program} {n : Nat} {f : Fm} {w : World} {dst : Option Tmp} {ty : TypeId} {pos : String} {after : Array Edge} {g : Option (Nat × Bool)} {x : Operand} {a b c : Value} (hx : lk n f x = some (.tuple #[a, b, c])) : Yld P (evo n f) ⟨dst, .extract x 2, ty, pos, after, g⟩ w c := by
  replace hx := lk_evo hx
  constructor; simp [execOp, Instr.extract, hx]
/-- three results, the first of which lies in a variable -/
theorem end_cell3 {P : Program} {fn : Func} {R : Value → World → Prop} {n t s q : Nat} {f : Fm} {w : World} {ty : TypeId} {p : Addr} {u v v2 : Value} [hb : BoxTy P ty] (h : fn.results = #[.cell t ty, .tmp s, .tmp q])
    (hv : lk n f (.tmp t) = some (.pointer (some p))) (hs : lk n f (.tmp s) = some v) (hq : lk n f (.tmp q) = some v2) (hc : w.cell? p = some u) (hR : R (.tuple #[.agg #[u], v, v2]) w) : endPost P fn n R .ret f w := by
  have e (t : Nat) : (act n f.fn).tmps[t]?.getD undef = evo n f (.tmp t) := by rw [← act_eval]; simp [Act.eval]
  refine ⟨.tuple #[.agg #[u], v, v2], ?_, hR⟩
  simp [results, h, e, lk_evo hv, lk_evo hs, lk_evo hq, asAddr, loadVar, hb.agg, hb.size, loadCells, loadCellsFrom, Addr.add_zero', hc]
end
end Go.Mem
namespace Go.Proofs.YtablpijnjkncfaaGreat
open Go.Mem Go.RowKit
set_option linter.unusedVariables false
set_option linter.unusedSimpArgs false
set_option maxHeartbeats 8000000 in
set_option maxRecDepth 100000 in
theorem faceCounts_any (v : Value) (pv : Addr) (ms : List (List Int)) (w : World) (hv : RL w v ms) (hxv : w.cell? pv = some v) (hm : IsMan ms) :
    Ret Tryz.prog 64 #[.pointer (some pv)] w fun r w' => OI w' w.heap.size 2 r (facN ms) ∧ Below w.heap.size w w' := by
  have shv := hv.sv
  have hb := Below.refl w.heap.size w
  refine enter1 24 Tryz.func64 rfl Tryz.ntmps64 rfl (fun fr => ?_)
  have r5 := hm.m0.r5
  refine go ?_
  refine s_call1 (wn rfl) rfl rfl (rank_any _ _ _ _ hxv shv) ?_
  rintro _ _ ⟨rfl, rfl⟩
  refine go ?_
  have sbs1 := hb.size
  have hv_b1 := hv
  have hxv_b1 := hxv
  have hbB1 := Below.refl w.heap.size w
  refine go ?_
  refine w_loop (fun kk fr w' => ∃ (i : Nat) (ob : Value), kk = ms.length - i ∧ i ≤ ms.length ∧ fr 0 = .pointer (some pv) ∧ fr 3 = ob ∧ fr 8 = .int .i64 ms.length ∧ fr 9 = .int .i64 i ∧ (OI w' w.heap.size 2 ob ((List.range i).map fun i : Nat => facC ms i)) ∧ Below w.heap.size w w') (ms.length)
    ⟨0, _, rfl, Nat.zero_le _, rfl, rfl, rfl, rfl, OI.nil _ _ _, hbB1⟩ ?_
  rintro kk fr w1 ⟨i, ob, rfl, hi, f0, f3, f8, f9, ho, hbB1⟩
  have sw1 := hbB1.size
  have hv := hv_b1.below hbB1
  have hxv := cell_below hxv_b1 hbB1
  have sho := ho.sv
  refine know (t := 0) f0 ?_; refine know (t := 3) f3 ?_; refine know (t := 8) f8 ?_; refine know (t := 9) f9 ?_
  refine go ?_
  refine cond_dec rfl (fun hlt => ?_) (fun hge => ?_)
  · refine go ?_
    refine s_call2 (wn rfl) rfl rfl rfl (faces_any _ _ _ (i : Int) _ hv hxv hm (by omega)) ?_
    rintro _ w2 ⟨lb, rfl, hlb, hb2⟩
    have sw2 := hb2.size
    replace hv := hv.below hb2
    replace hxv := cell_below hxv hb2
    replace ho := ho.below hb2
    replace hbB1 := hbB1.trans (hb2.mono hbB1.size)
    refine go ?_
    have szq3 := hbB1.size
    refine s_build1 (B := w.heap.size) (wn rfl) rfl rfl szq3 (fun tb w3 ht st hg3 _ => ?_)
    have hb3 := below_of_grownBy hg3
    have sw3 := hb3.size
    replace hv := hv.below hb3
    replace hxv := cell_below hxv hb3
    replace ho := ho.below hb3
    replace hbB1 := hbB1.trans (hb3.mono hbB1.size)
    have szq4 := hbB1.size
    refine s_appendI (wn rfl) rfl rfl rfl ho ht.il (by simp; omega) szq4 (fun ob' w4 hoN so hgN _ => ?_)
    replace hbB1 := hbB1.trans (ho.below_of hgN szq4)
    have sw4 := hgN.size
    replace ho := hoN
    clear hoN
    replace hv := hv_b1.below hbB1
    replace hxv := cell_below hxv_b1 hbB1
    refine go ?_
    refine ⟨ms.length - (i + 1), by omega, i + 1, ob', rfl, by omega, rfl, rfl, rfl, rfl, by rw [facN_succ]; exact ho, hbB1⟩
  obtain rfl : i = ms.length := by omega
  refine go ?_
  exact end_one Tryz.results64 rfl ⟨ho, (hb.trans (hbB1.mono hb.size))⟩

end Go.Proofs.YtablpijnjkncfaaGreat
