/- Contracts: l01Count, the draw of a face; numbers of faces. -/
import Derived.Test.YtlodnhflfijomaaF65
import Derived.Test.YtlodnhflfijomaaFG
import Derived.Test.YtlodnhflfijomaaP30
namespace Go.Mem
/-- the numbers of faces -/
def facN (ms : List (List Int)) : List Int := (List.range ms.length).map fun i : Nat => facC ms i
theorem facN_len (ms : List (List Int)) : (facN ms).length = ms.length := by simp [facN]
theorem gi_facN {ms : List (List Int)} {i : Int} (h0 : 0 ≤ i) (hi : i < ms.length) : gi (facN ms) i = facC ms i := by
  unfold facN
  rw [gi_range_map h0 hi, show ((i.toNat : Nat) : Int) = i by omega]
theorem facN_succ (ms : List (List Int)) (i : Nat) : (List.range (i + 1)).map (fun i : Nat => facC ms i) = (List.range i).map (fun i : Nat => facC ms i) ++ [facC ms i] := by simp [List.range_succ]
section
open Go.RowKit
theorem y_x30 {P : Program} {n : Nat} {f : Fm} {w : World} {dst : Option Tmp} {ty : TypeId} {pos : String} {after : Array Edge} {g : Option (Nat × Bool)} {x : Operand} {a b c : Value} (hx : lk n f x = some (.tuple #[a, b, c])) : Yld P (evo n f) ⟨dst, .extract x 0, ty, pos, after, g⟩ w a := by
  replace hx := lk_evo hx
  constructor; simp [execOp, Instr.extract, hx]
theorem y_x31 {P : Program} {n : Nat} {f : Fm} {w : World} {dst : Option Tmp} {ty : TypeId} {pos : String} {after : Array Edge} {g : Option (Nat × Bool)} {x : Operand} {a b c : Value} (hx : lk n f x = some (.tuple #[a, b, c])) : Yld P (evo n f) ⟨dst, .extract x 1, ty, pos, after, g⟩ w b := by
  replace hx := lk_evo hx
  constructor; simp [execOp, Instr.extract, hx]
theorem y_x32 {P : Program} {n : Nat} {f : Fm} {w : World} {dst : Option Tmp} {ty : TypeId} {pos : String} {after : Array Edge} {g : Option (Nat × Bool)} {x : Operand} {a b c : Value} (hx : lk n f x = some (.tuple #[a, b, c])) : Yld P (evo n f) ⟨dst, .extract x 2, ty, pos, after, g⟩ w c := by
  replace hx := lk_evo hx
  constructor; simp [execOp, Instr.extract, hx]
/-- three results, the first of which lies in a variable -/
theorem end_cell3 {P : Program} {fn : Func} {R : Value → World → Prop} {n t s q : Nat} {f : Fm} {w : World} {ty : TypeId} {p : Addr} {u v v2 : Value} [hb : BoxTy P ty] (h : fn.results = #[.cell t ty, .tmp s, .tmp q])
    (hv : lk n f (.tmp t) = some (.pointer (some p))) (hs : lk n f (.tmp s) = some v) (hq : lk n f (.tmp q) = some v2) (hc : w.cell? p = some u) (hR : R (.tuple #[.agg #[u], v, v2]) w) : endPost P fn n R .ret f w := by
  have e (t : Nat) : (act n f.fn).tmps[t]?.getD undef = evo n f (.tmp t) := by rw [← act_eval]; simp [Act.eval]
  refine ⟨.tuple #[.agg #[u], v, v2], ?_, hR⟩
  simp [results, h, e, lk_evo hv, lk_evo hs, lk_evo hq, asAddr, loadVar, hb.agg, hb.size, loadCells, loadCellsFrom, Addr.add_zero', hc]
end
end Go.Mem
namespace Go.Proofs.Ytlodnhflfijomaa
open Go.Mem Go.RowKit
set_option linter.unusedVariables false
set_option linter.unusedSimpArgs false

set_option maxHeartbeats 8000000 in
set_option maxRecDepth 100000 in
theorem l01Count_any (q B : Nat) (c : Value) (bs : List Int) (most : Int) (w : World) (hm : -1000000 ≤ most ∧ most ≤ 1000000) (hs : Sr w B q 140 c bs) :
    Ret Try.prog 119 #[.pointer (some ⟨q, 0, none⟩), .int .i64 most] w fun r w' => ∃ z : Int, r = .int .i64 z ∧ Sr w' B q 140 c bs ∧ w.grownBy w' (some q) := by
  have hql := hs.lt
  refine enter2 17 Try.func119 rfl Try.ntmps119 rfl (fun fr => ?_)
  refine go2 ?_
  refine s_call2 (wn rfl) rfl rfl rfl (l01Next_any q 14 B c bs _ hs (by omega)) ?_
  rintro _ v1 ⟨k, rfl, hk0, hk, hs', hgq⟩
  have zv1 := hgq.size
  replace hs := hs'
  have hg := hgq
  clear hgq
  have hk' := hk (by omega)
  refine go2 ?_
  refine cond_dec rfl (fun e0 => ?_) (fun e0 => ?_)
  · refine go2 ?_
    refine s_buildI (B := w.heap.size) [-1, most + 1, 1099511627776, -4611686018427387904] (wn rfl) rfl rfl rfl rfl (by omega) (fun tb v2 ht st hga _ => ?_)
    have hba := below_of_grownBy hga
    have zv2 := hba.size
    replace hs := hs.below hba
    replace hg := gr_step hg (grownBy_of_below hba none) (fun k hk => by cases hk)
    clear hba hga
    refine go2 ?_
    refine s_call2 (wn rfl) rfl rfl rfl (l01Pick_any q B c bs _ _ w.heap.size _ ht hql (by simp) (by simp) hs) ?_
    rintro _ v3 ⟨z, hz, rfl, hs', hgq⟩
    have zv3 := hgq.size
    replace hs := hs'
    replace ht := ht.kept hgq (ht.apart_blk (by omega))
    replace hg := grownBy_trans hg hgq
    refine go2 ?_
    exact end_one Try.results119 rfl ⟨z, rfl, hs, hg⟩
  refine go2 ?_
  refine s_call2 (wn rfl) rfl rfl rfl (l01Next_any q (most + 1) B c bs _ hs (by omega)) ?_
  rintro _ v4 ⟨z, rfl, _, _, hs', hgq⟩
  have zv4 := hgq.size
  replace hs := hs'
  replace hg := grownBy_trans hg hgq
  refine go2 ?_
  exact end_one Try.results119 rfl ⟨z, rfl, hs, hg⟩

set_option maxHeartbeats 8000000 in
set_option maxRecDepth 100000 in
theorem DrawStabilizerOf_any (c : Value) (bs : List Int) (w : World) (hcl : CL w c bs) :
    Ret Try.prog 60 #[c] w fun r w' => ∃ x xss, ∃ i a : Int, r = .tuple #[.agg #[x], .int .i64 i, .int .i64 a] ∧ RL w' x xss ∧ Below w.heap.size w w' := by
  have sc := hcl.sv
  refine enter1 23 Try.func60 rfl Try.ntmps60 rfl (fun fr => ?_)
  refine go2 ?_
  refine s_alloc (B := w.heap.size) (wn rfl) rfl (Nat.le_refl _) (fun w0 p2 hx2 hg0 hp2 => ?_)
  have hb0 := below_of_grownBy hg0
  have z0 := hb0.size
  have hlt2 := hx2.lt
  refine go2 ?_
  refine s_call1 (wn rfl) rfl rfl (l01From_any c bs _ (hcl.below hb0)) ?_
  rintro _ v0 ⟨q, rfl, hs, hbf⟩
  have zf := hbf.size
  have hql := hs.lt
  have hq1 := hs.low
  replace hx2 := hx2.below hbf
  obtain ⟨B, hBe⟩ : ∃ B, B = w0.heap.size := ⟨_, rfl⟩
  rw [← hBe] at hs
  refine go2 ?_
  refine s_call1 (wn rfl) rfl rfl (l06Even_any q B c bs _ hs) ?_
  rintro _ v1 ⟨x, xss, rfl, hm, hxl, hxr, hs', hgq⟩
  have zv1 := hgq.size
  replace hs := hs'
  replace hx2 := hx2.kept hgq (by intro e; have := Option.some.inj e; omega)
  have hg := hgq
  clear hgq
  refine go2 ?_
  refine s_alloc (B := v0.heap.size) (wn rfl) rfl (by omega) (fun v2 p6 hx6 hga hp6 => ?_)
  have hba := below_of_grownBy hga
  have zv2 := hba.size
  replace hs := hs.below hba
  replace hx2 := hx2.below hba
  replace hm := hm.below hba
  replace hg := gr_step hg (grownBy_of_below hba none) (fun k hk => by cases hk)
  clear hba hga
  have hlt6 := hx6.lt
  refine go2 ?_
  refine s_storeBox (wn rfl) rfl rfl hm.sv.one hx6 (fun v3 hxN hgp => ?_)
  have zv3 := hgp.size
  replace hs := hs.kept hgp (fun k hk => by cases hk; exact ⟨by have := hs.low; omega, by omega⟩)
  replace hx2 := hx2.kept hgp (by intro e; have := Option.some.inj e; omega)
  replace hm := hm.box hx6 (by decide) (by decide) hgp
  replace hx6 := hxN
  replace hg := gr_step hg hgp (fun k hk => by cases hk; omega)
  clear hgp
  have hc6 := hx6.cell
  have sm := hm.sv
  refine go2 ?_
  refine region_hS (fun w' => w'.cell? p6 = some x) mixed (fun v4 cr => ?_)
  have zv4 := cr.size
  replace hs := hs.below cr
  replace hx2 := hx2.below cr
  replace hm := hm.below cr
  replace hx6 := hx6.below cr
  replace hc6 := cell_below hc6 cr
  replace hg := gr_step hg (grownBy_of_below cr none) (fun k hk => by cases hk)
  refine h_p 0 hc6 ?_ (hrun := fun w' h => yl)
  refine h_p 1 hc6 ?_ (hrun := fun w' h => yl)
  refine h_p 2 hc6 ?_ (hrun := fun w' h => yl)
  refine h_p 3 hc6 ?_ (hrun := fun w' h => yl)
  refine h_p 4 hc6 ?_ (hrun := fun w' h => yl)
  refine h_p 5 hc6 ?_ (hrun := fun w' h => yl)
  refine h_p 7 hc6 ?_ (hrun := fun w' h => yl)
  refine h_p 8 hc6 ?_ (hrun := fun w' h => yl)
  refine h_two 6 9 ?_ ?_
  · refine s_call2 (wn rfl) rfl rfl rfl (l01Count_any q B c bs ((xss.length : Int) - 1) _ ⟨by omega, by omega⟩ hs) ?_
    rintro _ v5 ⟨y1, rfl, hs', hgq⟩
    have zv5 := hgq.size
    replace hs := hs'
    replace hx2 := hx2.kept hgq (by intro e; have := Option.some.inj e; omega)
    replace hm := hm.kept hgq (by omega)
    replace hx6 := hx6.kept hgq (by intro e; have := Option.some.inj e; omega)
    replace hc6 := cell_kept hc6 hgq (by intro e; have := Option.some.inj e; omega)
    replace hg := grownBy_trans hg hgq
    clear hgq
    refine w_nil ?_
    refine h_on ⟨hc6, ?_⟩
    refine h_one 9 ?_
    refine s_buildI (B := v0.heap.size) [0, 1, 2, 3] (wn rfl) rfl rfl rfl rfl (by omega) (fun tb v6 ht st hga _ => ?_)
    have hba := below_of_grownBy hga
    have zv6 := hba.size
    replace hs := hs.below hba
    replace hx2 := hx2.below hba
    replace hm := hm.below hba
    replace hx6 := hx6.below hba
    replace hc6 := cell_below hc6 hba
    replace hg := gr_step hg (grownBy_of_below hba none) (fun k hk => by cases hk)
    clear hba hga
    refine w_nil ?_
    refine h_on ⟨hc6, ?_⟩
    refine h_one 10 ?_
    refine s_call2 (wn rfl) rfl rfl rfl (l01Pick_any q B c bs _ _ v0.heap.size _ ht hql (by simp) (by simp) hs) ?_
    rintro _ v7 ⟨z, hz, rfl, hs', hgq⟩
    have zv7 := hgq.size
    replace hs := hs'
    replace hx2 := hx2.kept hgq (by intro e; have := Option.some.inj e; omega)
    replace hm := hm.kept hgq (by omega)
    replace hx6 := hx6.kept hgq (by intro e; have := Option.some.inj e; omega)
    replace hc6 := cell_kept hc6 hgq (by intro e; have := Option.some.inj e; omega)
    replace ht := ht.kept hgq (ht.apart_blk (by omega))
    replace hg := grownBy_trans hg hgq
    clear hgq
    have hz4 : 0 ≤ z ∧ z ≤ 3 := by simp at hz; omega
    refine w_nil ?_
    refine h_on ⟨hc6, ?_⟩
    refine h_one 11 ?_
    refine s_call2 (wn rfl) rfl rfl rfl (l01Count_any q B c bs (z) _ ⟨by omega, by omega⟩ hs) ?_
    rintro _ v8 ⟨y2, rfl, hs', hgq⟩
    have zv8 := hgq.size
    replace hs := hs'
    replace hx2 := hx2.kept hgq (by intro e; have := Option.some.inj e; omega)
    replace hm := hm.kept hgq (by omega)
    replace hx6 := hx6.kept hgq (by intro e; have := Option.some.inj e; omega)
    replace hc6 := cell_kept hc6 hgq (by intro e; have := Option.some.inj e; omega)
    replace ht := ht.kept hgq (ht.apart_blk (by omega))
    replace hg := grownBy_trans hg hgq
    clear hgq
    refine w_nil ?_
    refine h_on ⟨hc6, ?_⟩
    refine h_one 12 ?_
    refine s_storeBox (wn rfl) rfl rfl sm.one hx2 (fun v9 hxz hgz => ?_)
    have hmz := hm.box hx2 (by decide) (by decide) hgz
    have hx6z := hx6.kept hgz (by intro e; have := Option.some.inj e; omega)
    have hgz2 : v0.grownBy _ (some q) := hg
    have hbz := (Below.refl w.heap.size w)
    have hB1 := hb0.trans (hbf.mono z0)
    have hB2 := hB1.trans (gr_below hg hB1.size (by omega))
    have hB3 := hB2.trans (hx2.below_of hgz hB2.size)
    replace hc6 := hx6z.cell
    refine w_nil ?_
    refine h_on ⟨hc6, ?_⟩
    refine h_p 13 hc6 ?_ (hrun := fun w' h => yl)
    refine h_p 14 hc6 ?_ (hrun := fun w' h => yl)
    refine h_nil ?_
    refine go2 ?_
    exact end_cell3 Try.results60 rfl rfl rfl hxz.cell ⟨x, xss, y1, y2, rfl, hmz.rl, hB3⟩
  · refine s_buildI (B := v0.heap.size) [0, 1, 2, 3] (wn rfl) rfl rfl rfl rfl (by omega) (fun tb v10 ht st hga _ => ?_)
    have hba := below_of_grownBy hga
    have zv10 := hba.size
    replace hs := hs.below hba
    replace hx2 := hx2.below hba
    replace hm := hm.below hba
    replace hx6 := hx6.below hba
    replace hc6 := cell_below hc6 hba
    replace hg := gr_step hg (grownBy_of_below hba none) (fun k hk => by cases hk)
    clear hba hga
    refine w_nil ?_
    refine h_on ⟨hc6, ?_⟩
    refine h_one 6 ?_
    refine s_call2 (wn rfl) rfl rfl rfl (l01Count_any q B c bs ((xss.length : Int) - 1) _ ⟨by omega, by omega⟩ hs) ?_
    rintro _ v11 ⟨y1, rfl, hs', hgq⟩
    have zv11 := hgq.size
    replace hs := hs'
    replace hx2 := hx2.kept hgq (by intro e; have := Option.some.inj e; omega)
    replace hm := hm.kept hgq (by omega)
    replace hx6 := hx6.kept hgq (by intro e; have := Option.some.inj e; omega)
    replace hc6 := cell_kept hc6 hgq (by intro e; have := Option.some.inj e; omega)
    replace ht := ht.kept hgq (ht.apart_blk (by omega))
    replace hg := grownBy_trans hg hgq
    clear hgq
    refine w_nil ?_
    refine h_on ⟨hc6, ?_⟩
    refine h_one 10 ?_
    refine s_call2 (wn rfl) rfl rfl rfl (l01Pick_any q B c bs _ _ v0.heap.size _ ht hql (by simp) (by simp) hs) ?_
    rintro _ v12 ⟨z, hz, rfl, hs', hgq⟩
    have zv12 := hgq.size
    replace hs := hs'
    replace hx2 := hx2.kept hgq (by intro e; have := Option.some.inj e; omega)
    replace hm := hm.kept hgq (by omega)
    replace hx6 := hx6.kept hgq (by intro e; have := Option.some.inj e; omega)
    replace hc6 := cell_kept hc6 hgq (by intro e; have := Option.some.inj e; omega)
    replace ht := ht.kept hgq (ht.apart_blk (by omega))
    replace hg := grownBy_trans hg hgq
    clear hgq
    have hz4 : 0 ≤ z ∧ z ≤ 3 := by simp at hz; omega
    refine w_nil ?_
    refine h_on ⟨hc6, ?_⟩
    refine h_one 11 ?_
    refine s_call2 (wn rfl) rfl rfl rfl (l01Count_any q B c bs (z) _ ⟨by omega, by omega⟩ hs) ?_
    rintro _ v13 ⟨y2, rfl, hs', hgq⟩
    have zv13 := hgq.size
    replace hs := hs'
    replace hx2 := hx2.kept hgq (by intro e; have := Option.some.inj e; omega)
    replace hm := hm.kept hgq (by omega)
    replace hx6 := hx6.kept hgq (by intro e; have := Option.some.inj e; omega)
    replace hc6 := cell_kept hc6 hgq (by intro e; have := Option.some.inj e; omega)
    replace ht := ht.kept hgq (ht.apart_blk (by omega))
    replace hg := grownBy_trans hg hgq
    clear hgq
    refine w_nil ?_
    refine h_on ⟨hc6, ?_⟩
    refine h_one 12 ?_
    refine s_storeBox (wn rfl) rfl rfl sm.one hx2 (fun v14 hxz hgz => ?_)
    have hmz := hm.box hx2 (by decide) (by decide) hgz
    have hx6z := hx6.kept hgz (by intro e; have := Option.some.inj e; omega)
    have hgz2 : v0.grownBy _ (some q) := hg
    have hbz := (Below.refl w.heap.size w)
    have hB1 := hb0.trans (hbf.mono z0)
    have hB2 := hB1.trans (gr_below hg hB1.size (by omega))
    have hB3 := hB2.trans (hx2.below_of hgz hB2.size)
    replace hc6 := hx6z.cell
    refine w_nil ?_
    refine h_on ⟨hc6, ?_⟩
    refine h_p 13 hc6 ?_ (hrun := fun w' h => yl)
    refine h_p 14 hc6 ?_ (hrun := fun w' h => yl)
    refine h_nil ?_
    refine go2 ?_
    exact end_cell3 Try.results60 rfl rfl rfl hxz.cell ⟨x, xss, y1, y2, rfl, hmz.rl, hB3⟩

set_option maxHeartbeats 8000000 in
set_option maxRecDepth 100000 in
theorem faceCounts_any (v : Value) (pv : Addr) (ms : List (List Int)) (w : World) (hv : RL w v ms) (hxv : w.cell? pv = some v) (hm : IsMan ms) :
    Ret Try.prog 131 #[.pointer (some pv)] w fun r w' => OI w' w.heap.size 2 r (facN ms) ∧ Below w.heap.size w w' := by
  have shv := hv.sv
  have hb := Below.refl w.heap.size w
  refine enter1 24 Try.func131 rfl Try.ntmps131 rfl (fun fr => ?_)
  have r5 := hm.m0.r5
  refine go ?_
  refine s_call1 (wn rfl) rfl rfl (rank_any _ _ _ _ hxv shv) ?_
  rintro _ _ ⟨rfl, rfl⟩
  refine go ?_
  have sbs1 := hb.size
  have hv_b1 := hv
  have hxv_b1 := hxv
  have hbB1 := Below.refl w.heap.size w
  refine go ?_
  refine w_loop (fun kk fr w' => ∃ (i : Nat) (ob : Value), kk = ms.length - i ∧ i ≤ ms.length ∧ fr 0 = .pointer (some pv) ∧ fr 3 = ob ∧ fr 8 = .int .i64 ms.length ∧ fr 9 = .int .i64 i ∧ (OI w' w.heap.size 2 ob ((List.range i).map fun i : Nat => facC ms i)) ∧ Below w.heap.size w w') (ms.length)
    ⟨0, _, rfl, Nat.zero_le _, rfl, rfl, rfl, rfl, OI.nil _ _ _, hbB1⟩ ?_
  rintro kk fr w1 ⟨i, ob, rfl, hi, f0, f3, f8, f9, ho, hbB1⟩
  have sw1 := hbB1.size
  have hv := hv_b1.below hbB1
  have hxv := cell_below hxv_b1 hbB1
  have sho := ho.sv
  refine know (t := 0) f0 ?_; refine know (t := 3) f3 ?_; refine know (t := 8) f8 ?_; refine know (t := 9) f9 ?_
  refine go ?_
  refine cond_dec rfl (fun hlt => ?_) (fun hge => ?_)
  · refine go ?_
    refine s_call2 (wn rfl) rfl rfl rfl (faces_any _ _ _ (i : Int) _ hv hxv hm (by omega)) ?_
    rintro _ w2 ⟨lb, rfl, hlb, hb2⟩
    have sw2 := hb2.size
    replace hv := hv.below hb2
    replace hxv := cell_below hxv hb2
    replace ho := ho.below hb2
    replace hbB1 := hbB1.trans (hb2.mono hbB1.size)
    refine go ?_
    have szq3 := hbB1.size
    refine s_build1 (B := w.heap.size) (wn rfl) rfl rfl szq3 (fun tb w3 ht st hg3 _ => ?_)
    have hb3 := below_of_grownBy hg3
    have sw3 := hb3.size
    replace hv := hv.below hb3
    replace hxv := cell_below hxv hb3
    replace ho := ho.below hb3
    replace hbB1 := hbB1.trans (hb3.mono hbB1.size)
    have szq4 := hbB1.size
    refine s_appendI (wn rfl) rfl rfl rfl ho ht.il (by simp; omega) szq4 (fun ob' w4 hoN so hgN _ => ?_)
    replace hbB1 := hbB1.trans (ho.below_of hgN szq4)
    have sw4 := hgN.size
    replace ho := hoN
    clear hoN
    replace hv := hv_b1.below hbB1
    replace hxv := cell_below hxv_b1 hbB1
    refine go ?_
    refine ⟨ms.length - (i + 1), by omega, i + 1, ob', rfl, by omega, rfl, rfl, rfl, rfl, by rw [facN_succ]; exact ho, hbB1⟩
  obtain rfl : i = ms.length := by omega
  refine go ?_
  exact end_one Try.results131 rfl ⟨ho, (hb.trans (hbB1.mono hb.size))⟩

set_option maxHeartbeats 8000000 in
set_option maxRecDepth 100000 in
theorem FaceCounts_good (v : Value) (ms : List (List Int)) (w : World) (hv : RL w v ms) (hm : IsMan ms) :
    Ret Try.prog 64 #[.agg #[v]] w fun r w' => ∃ x, r = .tuple #[x, .int .i64 0] ∧ OI w' w.heap.size 2 x (facN ms) ∧ Below w.heap.size w w' := by
  have shv := hv.sv
  have hb := Below.refl w.heap.size w
  refine enter1 8 Try.func64 rfl Try.ntmps64 rfl (fun fr => ?_)
  have d1 := decide_eq_true hm
  refine go ?_
  refine s_box (wn rfl) rfl rfl (agg_cells shv) (fun w1 hbx _ hp hg => ?_)
  have hb1 := below_of_grownBy hg
  have sw1 := hb1.size
  replace hv := hv.below hb1
  replace hb := hb.trans (hb1.mono hb.size)
  clear hg hp hb1
  generalize (⟨w.heap.size, 0, none⟩ : Addr) = p at *
  have sz0 := hb.size
  refine go ?_
  refine s_call1 (wn rfl) rfl rfl (isManiplex_any _ _ _ hv) ?_
  rintro _ w2 ⟨rfl, hb2⟩
  have sw2 := hb2.size
  replace hv := hv.below hb2
  replace hbx := cell_below hbx hb2
  replace hb := hb.trans (hb2.mono hb.size)
  rw [d1]
  have sz1 := hb.size
  refine go ?_
  refine s_call1 (wn rfl) rfl rfl (faceCounts_any _ _ _ _ hv hbx hm) ?_
  rintro y w3 ⟨hy, hb3⟩
  have sw3 := hb3.size
  replace hv := hv.below hb3
  replace hbx := cell_below hbx hb3
  replace hb := hb.trans (hb3.mono hb.size)
  refine go ?_
  exact end_two Try.results64 rfl rfl ⟨y, rfl, hy.mono (by omega), hb⟩

end Go.Proofs.Ytlodnhflfijomaa
