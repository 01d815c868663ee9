/- Contracts: draws of two maniplexes with flags. -/
import Derived.Test.YtmdimdbfgibflaaF67
import Derived.Test.YtmdimdbfgibflaaF70
import Derived.Test.YtmdimdbfgibflaaF72
namespace Go.Mem
section
variable {P : Program} {n : Nat} {f : Fm} {w : World} {dst : Option Tmp} {ty : TypeId} {pos : String} {after : Array Edge} {g : Option (Nat × Bool)} {x : Operand} {a b c e : Value}
theorem y_x40 (hx : lk n f x = some (.tuple #[a, b, c, e])) : Yld P (evo n f) ⟨dst, .extract x 0, ty, pos, after, g⟩ w a := by
  replace hx := lk_evo hx
  constructor; simp [execOp, Instr.extract, hx]
theorem y_x41 (hx : lk n f x = some (.tuple #[a, b, c, e])) : Yld P (evo n f) ⟨dst, .extract x 1, ty, pos, after, g⟩ w b := by
  replace hx := lk_evo hx
  constructor; simp [execOp, Instr.extract, hx]
theorem y_x42 (hx : lk n f x = some (.tuple #[a, b, c, e])) : Yld P (evo n f) ⟨dst, .extract x 2, ty, pos, after, g⟩ w c := by
  replace hx := lk_evo hx
  constructor; simp [execOp, Instr.extract, hx]
theorem y_x43 (hx : lk n f x = some (.tuple #[a, b, c, e])) : Yld P (evo n f) ⟨dst, .extract x 3, ty, pos, after, g⟩ w e := by
  replace hx := lk_evo hx
  constructor; simp [execOp, Instr.extract, hx]
end
/-- four results, the first and the third of which lie in variables -/
theorem end_cell4 {P : Program} {fn : Func} {R : Value → World → Prop} {n t s q r : Nat} {f : Fm} {w : World} {ty ty2 : TypeId} {p p2 : Addr} {u u2 v v2 : Value} [hb : BoxTy P ty] [hb2 : BoxTy P ty2] (h : fn.results = #[.cell t ty, .tmp s, .cell q ty2, .tmp r])
    (hv : lk n f (.tmp t) = some (.pointer (some p))) (hs : lk n f (.tmp s) = some v) (hq : lk n f (.tmp q) = some (.pointer (some p2))) (hr : lk n f (.tmp r) = some v2) (hc : w.cell? p = some u) (hc2 : w.cell? p2 = some u2) (hR : R (.tuple #[.agg #[u], v, .agg #[u2], v2]) w) : endPost P fn n R .ret f w := by
  have e (t : Nat) : (act n f.fn).tmps[t]?.getD undef = evo n f (.tmp t) := by rw [← act_eval]; simp [Act.eval]
  refine ⟨.tuple #[.agg #[u], v, .agg #[u2], v2], ?_, hR⟩
  simp [results, h, e, lk_evo hv, lk_evo hs, lk_evo hq, lk_evo hr, asAddr, loadVar, hb.agg, hb.size, hb2.agg, hb2.size, loadCells, loadCellsFrom, Addr.add_zero', hc, hc2]
end Go.Mem
namespace Go.Proofs.Ytmdimdbfgibflaa
open Go.Mem Go.RowKit
set_option linter.unusedVariables false
set_option linter.unusedSimpArgs false

set_option maxHeartbeats 8000000 in
set_option maxRecDepth 100000 in
theorem l02Flag2_any (q B : Nat) (c : Value) (bs : List Int) (v : Value) (xss : List (List Int)) (w : World) (hv : RL w v xss) (hr : ∀ xs ∈ xss, xs.length ≤ 1001) (hs : Sr w B q 115 c bs) :
    Ret Try.prog 153 #[.pointer (some ⟨q, 0, none⟩), .agg #[v]] w fun r w' => ∃ z : Int, r = .int .i64 z ∧ Sr w' B q 115 c bs ∧ w.grownBy w' (some q) := by
  have hql := hs.lt
  have hq1 := hs.low
  have shv := hv.sv
  refine enter2 14 Try.func153 rfl Try.ntmps153 rfl (fun fr => ?_)
  refine go2 ?_
  refine s_box (wn rfl) rfl rfl (agg_cells shv) (fun v1 hbx _ _ hga => ?_)
  have hba := below_of_grownBy hga
  have zv1 := hba.size
  replace hs := hs.below hba
  replace hv := hv.below hba
  have hg := gr_step (grownBy_of_below (Below.refl _ _) (some q)) (grownBy_of_below hba none) (fun k hk => by cases hk)
  generalize (⟨w.heap.size, 0, none⟩ : Addr) = pb at *
  refine go2 ?_
  refine cond_dec rfl (fun e0 => ?_) (fun e0 => ?_)
  · refine go2 ?_
    exact end_one Try.results153 rfl ⟨0, rfl, hs, hg⟩
  have hnf : nf xss ≤ 1001 := hr _ (gr_in (j := 0) (by omega))
  refine go2 ?_
  refine go2 ?_
  refine s_call1 (wn rfl) rfl rfl (l02Flags_any _ _ _ hv (by omega)) ?_
  rintro _ v2 ⟨rfl, hbq⟩
  have zv2 := hbq.size
  replace hs := hs.below hbq
  replace hv := hv.below hbq
  replace hg := gr_step hg (grownBy_of_below hbq none) (fun k hk => by cases hk)
  clear hbq
  refine go2 ?_
  refine s_call2 (wn rfl) rfl rfl rfl (l01Count_any q B c bs ((nf xss : Int) - 1) _ (by omega) hs) ?_
  rintro _ v3 ⟨z, rfl, hs', hgq⟩
  have zv3 := hgq.size
  replace hs := hs'
  replace hg := grownBy_trans hg hgq
  clear hgq
  refine go2 ?_
  exact end_one Try.results153 rfl ⟨z, rfl, hs, hg⟩

set_option maxHeartbeats 8000000 in
set_option maxRecDepth 100000 in
theorem l08Two_any (q B : Nat) (c : Value) (bs : List Int) (w : World) (hs : Sr w B q 115 c bs) :
    Ret Try.prog 104 #[.pointer (some ⟨q, 0, none⟩)] w fun r w' => ∃ (x y : Value) (f g : Int) (xss yss : List (List Int)), r = .tuple #[.agg #[x], .int .i64 f, .agg #[y], .int .i64 g] ∧ OM w' w.heap.size w'.heap.size 34 2 x xss ∧ OM w' w.heap.size w'.heap.size 34 2 y yss ∧ (xss.length ≤ 6 ∧ ∀ xs ∈ xss, xs.length ≤ 1001) ∧ (yss.length ≤ 6 ∧ ∀ xs ∈ yss, xs.length ≤ 1001) ∧ Sr w' B q 115 c bs ∧ w.grownBy w' (some q) := by
  have hql := hs.lt
  have hq1 := hs.low
  refine enter1 49 Try.func104 rfl Try.ntmps104 rfl (fun fr => ?_)
  refine go2 ?_
  refine s_alloc (B := w.heap.size) (wn rfl) rfl (by first | exact Nat.le_refl _ | omega) (fun v1 p2 hx2 hga hpp2 => ?_)
  have hba := below_of_grownBy hga
  have zv1 := hba.size
  replace hs := hs.below hba
  have hg := gr_step (grownBy_of_below (Below.refl _ _) (some q)) (grownBy_of_below hba none) (fun k hk => by cases hk)
  clear hba hga
  have hltp2 := hx2.lt
  refine go2 ?_
  refine s_alloc (B := w.heap.size) (wn rfl) rfl (by first | exact Nat.le_refl _ | omega) (fun v2 p4 hx4 hga hpp4 => ?_)
  have hba := below_of_grownBy hga
  have zv2 := hba.size
  replace hs := hs.below hba
  replace hx2 := hx2.below hba
  replace hg := gr_step hg (grownBy_of_below hba none) (fun k hk => by cases hk)
  clear hba hga
  have hltp4 := hx4.lt
  refine go2 ?_
  refine s_call1 (wn rfl) rfl rfl (l06Even_any q B c bs _ hs) ?_
  rintro _ v3 ⟨x, xss, rfl, hm, hxl, hxr, hs', hgq⟩
  have zv3 := hgq.size
  replace hs := hs'
  replace hx2 := hx2.kept hgq (by intro e; have := Option.some.inj e; omega)
  replace hx4 := hx4.kept hgq (by intro e; have := Option.some.inj e; omega)
  replace hg := grownBy_trans hg hgq
  clear hgq
  replace hm := hm.mono (B' := w.heap.size) (by omega)
  refine go2 ?_
  refine s_alloc (B := w.heap.size) (wn rfl) rfl (by first | exact Nat.le_refl _ | omega) (fun v4 p6 hx6 hga hpp6 => ?_)
  have hba := below_of_grownBy hga
  have zv4 := hba.size
  replace hs := hs.below hba
  replace hx2 := hx2.below hba
  replace hx4 := hx4.below hba
  replace hm := hm.below hba
  replace hg := gr_step hg (grownBy_of_below hba none) (fun k hk => by cases hk)
  clear hba hga
  have hltp6 := hx6.lt
  refine go2 ?_
  refine s_storeBox (wn rfl) rfl rfl hm.sv.one hx6 (fun v5 hxN hgp => ?_)
  have zv5 := hgp.size
  replace hs := hs.kept hgp (fun k hk => by cases hk; exact ⟨by have := hs.low; omega, by omega⟩)
  replace hx2 := hx2.kept hgp (by intro e; have := Option.some.inj e; omega)
  replace hx4 := hx4.kept hgp (by intro e; have := Option.some.inj e; omega)
  replace hm := hm.box hx6 (by decide) (by decide) hgp
  replace hx6 := hxN
  replace hg := gr_step hg hgp (fun k hk => by cases hk; omega)
  clear hgp
  refine go2 ?_
  refine s_call1 (wn rfl) rfl rfl (l06Even_any q B c bs _ hs) ?_
  rintro _ v6 ⟨y, yss, rfl, hk, hyl, hyr, hs', hgq⟩
  have zv6 := hgq.size
  replace hs := hs'
  replace hx2 := hx2.kept hgq (by intro e; have := Option.some.inj e; omega)
  replace hx4 := hx4.kept hgq (by intro e; have := Option.some.inj e; omega)
  replace hm := hm.kept hgq (by omega)
  replace hx6 := hx6.kept hgq (by intro e; have := Option.some.inj e; omega)
  replace hg := grownBy_trans hg hgq
  clear hgq
  replace hk := hk.mono (B' := w.heap.size) (by omega)
  refine go2 ?_
  refine s_alloc (B := w.heap.size) (wn rfl) rfl (by first | exact Nat.le_refl _ | omega) (fun v7 p7 hx7 hga hpp7 => ?_)
  have hba := below_of_grownBy hga
  have zv7 := hba.size
  replace hs := hs.below hba
  replace hx2 := hx2.below hba
  replace hx4 := hx4.below hba
  replace hm := hm.below hba
  replace hx6 := hx6.below hba
  replace hk := hk.below hba
  replace hg := gr_step hg (grownBy_of_below hba none) (fun k hk => by cases hk)
  clear hba hga
  have hltp7 := hx7.lt
  refine go2 ?_
  refine s_storeBox (wn rfl) rfl rfl hk.sv.one hx7 (fun v8 hxN hgp => ?_)
  have zv8 := hgp.size
  replace hs := hs.kept hgp (fun k hk => by cases hk; exact ⟨by have := hs.low; omega, by omega⟩)
  replace hx2 := hx2.kept hgp (by intro e; have := Option.some.inj e; omega)
  replace hx4 := hx4.kept hgp (by intro e; have := Option.some.inj e; omega)
  replace hm := hm.box hx7 (by decide) (by decide) hgp
  replace hx6 := hx6.kept hgp (by intro e; have := Option.some.inj e; omega)
  replace hk := hk.box hx7 (by decide) (by decide) hgp
  replace hx7 := hxN
  replace hg := gr_step hg hgp (fun k hk => by cases hk; omega)
  clear hgp
  replace hm := hm.top
  replace hk := hk.top
  refine w_nil ?_
  refine then_normal ?_
  refine w_seq ?_
  refine meet (fun r w' => ∃ (x y : Value) (xss yss : List (List Int)), r 0 = .pointer (some ⟨q, 0, none⟩) ∧ r 2 = .pointer (some p2) ∧ r 4 = .pointer (some p4) ∧ r 6 = .pointer (some p6) ∧ r 7 = .pointer (some p7) ∧ Bx w' w.heap.size p6 26 x ∧ Bx w' w.heap.size p7 26 y ∧ Bx w' w.heap.size p2 26 (.slice none 0 0) ∧ Bx w' w.heap.size p4 26 (.slice none 0 0) ∧ OM w' w.heap.size w'.heap.size 34 2 x xss ∧ OM w' w.heap.size w'.heap.size 34 2 y yss ∧ (xss.length ≤ 6 ∧ ∀ xs ∈ xss, xs.length ≤ 1001) ∧ (yss.length ≤ 6 ∧ ∀ xs ∈ yss, xs.length ≤ 1001) ∧ Sr w' B q 115 c bs ∧ w.grownBy w' (some q)) ?_ ?_
  · refine go2 ?_
    refine w_loop (fun kk fr w' => ∃ (n : Nat) (x y : Value) (xss yss : List (List Int)), kk = 10 - n ∧ n ≤ 10 ∧ fr 8 = .int .i64 n ∧ fr 0 = .pointer (some ⟨q, 0, none⟩) ∧ fr 2 = .pointer (some p2) ∧ fr 4 = .pointer (some p4) ∧ fr 6 = .pointer (some p6) ∧ fr 7 = .pointer (some p7) ∧ Bx w' w.heap.size p6 26 x ∧ Bx w' w.heap.size p7 26 y ∧ Bx w' w.heap.size p2 26 (.slice none 0 0) ∧ Bx w' w.heap.size p4 26 (.slice none 0 0) ∧ OM w' w.heap.size w'.heap.size 34 2 x xss ∧ OM w' w.heap.size w'.heap.size 34 2 y yss ∧ (xss.length ≤ 6 ∧ ∀ xs ∈ xss, xs.length ≤ 1001) ∧ (yss.length ≤ 6 ∧ ∀ xs ∈ yss, xs.length ≤ 1001) ∧ Sr w' B q 115 c bs ∧ w.grownBy w' (some q)) 10
      ⟨0, x, y, xss, yss, rfl, by omega, rfl, rfl, rfl, rfl, rfl, rfl, hx6, hx7, hx2, hx4, hm, hk, ⟨hxl, hxr⟩, ⟨hyl, hyr⟩, hs, hg⟩ ?_
    clear hs hg hx2 hx4 hx6 hx7 hm hk hxl hxr hyl hyr
    rintro kk fr v9 ⟨n, x, y, xss, yss, rfl, hn, r8, r0, r2, r4, r6, r7, hx6, hx7, hx2, hx4, hm, hk, ⟨hxl, hxr⟩, ⟨hyl, hyr⟩, hs, hg⟩
    have zv9 := hg.size
    have hc6 := hx6.cell
    have hc7 := hx7.cell
    have hlt6 := hx6.lt
    have hlt7 := hx7.lt
    have sx := hm.sv
    have sy := hk.sv
    refine know (t := 0) r0 ?_; refine know (t := 2) r2 ?_; refine know (t := 4) r4 ?_; refine know (t := 6) r6 ?_; refine know (t := 7) r7 ?_; refine know (t := 8) r8 ?_
    by_cases l5 : (n : Int) < 10
    rotate_left
    · have l5b : decide ((n : Int) < 10) = !true := decide_eq_false l5
      refine go2 ?_
      exact ⟨x, y, xss, yss, rfl, rfl, rfl, rfl, rfl, hx6, hx7, hx2, hx4, hm, hk, ⟨hxl, hxr⟩, ⟨hyl, hyr⟩, hs, hg⟩
    by_cases l6 : (yss.length : Int) ≠ xss.length
    rotate_left
    · have l6b : decide ((yss.length : Int) ≠ xss.length) = !true := decide_eq_false l6
      refine go2 ?_
      exact ⟨x, y, xss, yss, rfl, rfl, rfl, rfl, rfl, hx6, hx7, hx2, hx4, hm, hk, ⟨hxl, hxr⟩, ⟨hyl, hyr⟩, hs, hg⟩
    refine go2 ?_
    refine s_call1 (wn rfl) rfl rfl (l06Even_any q B c bs _ hs) ?_
    rintro _ v10 ⟨y2, yss2, rfl, hk2, hyl2, hyr2, hs', hgq⟩
    have zv10 := hgq.size
    replace hs := hs'
    replace hx6 := hx6.kept hgq (by intro e; have := Option.some.inj e; omega)
    replace hx7 := hx7.kept hgq (by intro e; have := Option.some.inj e; omega)
    replace hx2 := hx2.kept hgq (by intro e; have := Option.some.inj e; omega)
    replace hx4 := hx4.kept hgq (by intro e; have := Option.some.inj e; omega)
    replace hm := hm.kept hgq (by omega)
    replace hk := hk.kept hgq (by omega)
    replace hg := grownBy_trans hg hgq
    clear hgq
    replace hk2 := hk2.mono (B' := w.heap.size) (by omega)
    refine go2 ?_
    refine s_storeBox (wn rfl) rfl rfl hk2.sv.one hx7 (fun v11 hxN hgp => ?_)
    have zv11 := hgp.size
    replace hs := hs.kept hgp (fun k hk => by cases hk; exact ⟨by have := hs.low; omega, by omega⟩)
    replace hx6 := hx6.kept hgp (by intro e; have := Option.some.inj e; omega)
    replace hx2 := hx2.kept hgp (by intro e; have := Option.some.inj e; omega)
    replace hx4 := hx4.kept hgp (by intro e; have := Option.some.inj e; omega)
    replace hm := hm.box hx7 (by decide) (by decide) hgp
    replace hk2 := hk2.box hx7 (by decide) (by decide) hgp
    replace hx7 := hxN
    replace hg := gr_step hg hgp (fun k hk => by cases hk; omega)
    clear hgp
    refine go2 ?_
    exact ⟨10 - (n + 1), by omega, n + 1, x, y2, xss, yss2, rfl, by omega, rfl, rfl, rfl, rfl, rfl, rfl, hx6, hx7, hx2, hx4, hm.top, hk2.top, ⟨hxl, hxr⟩, ⟨hyl2, hyr2⟩, hs, hg⟩
  clear hs hg hx2 hx4 hx6 hx7 hm hk hxl hxr hyl hyr
  rintro r v12 ⟨x, y, xss, yss, r0, r2, r4, r6, r7, hx6, hx7, hx2, hx4, hm, hk, ⟨hxl, hxr⟩, ⟨hyl, hyr⟩, hs, hg⟩
  have zv12 := hg.size
  have hc6 := hx6.cell
  have hc7 := hx7.cell
  have hlt6 := hx6.lt
  have hlt7 := hx7.lt
  have sx := hm.sv
  have sy := hk.sv
  refine know (t := 0) r0 ?_; refine know (t := 2) r2 ?_; refine know (t := 4) r4 ?_; refine know (t := 6) r6 ?_; refine know (t := 7) r7 ?_
  refine go2 ?_
  refine s_call2 (wn rfl) rfl rfl rfl (l01Next_any q 4 B c bs _ hs (by omega)) ?_
  rintro _ v13 ⟨k1, rfl, hk10, hk1, hs', hgq⟩
  have zv13 := hgq.size
  replace hs := hs'
  replace hx6 := hx6.kept hgq (by intro e; have := Option.some.inj e; omega)
  replace hx7 := hx7.kept hgq (by intro e; have := Option.some.inj e; omega)
  replace hx2 := hx2.kept hgq (by intro e; have := Option.some.inj e; omega)
  replace hx4 := hx4.kept hgq (by intro e; have := Option.some.inj e; omega)
  replace hm := hm.kept hgq (by omega)
  replace hk := hk.kept hgq (by omega)
  replace hg := grownBy_trans hg hgq
  clear hgq
  have hk1' := hk1 (by omega)
  refine go2 ?_
  refine cond_dec rfl (fun e1 => ?_) (fun e1 => ?_)
  · refine go2 ?_
    refine s_call2 (wn rfl) rfl rfl rfl (l01Next_any q 4 B c bs _ hs (by omega)) ?_
    rintro _ v14 ⟨k2, rfl, hk20, hk2, hs', hgq⟩
    have zv14 := hgq.size
    replace hs := hs'
    replace hx6 := hx6.kept hgq (by intro e; have := Option.some.inj e; omega)
    replace hx7 := hx7.kept hgq (by intro e; have := Option.some.inj e; omega)
    replace hx2 := hx2.kept hgq (by intro e; have := Option.some.inj e; omega)
    replace hx4 := hx4.kept hgq (by intro e; have := Option.some.inj e; omega)
    replace hg := grownBy_trans hg hgq
    clear hgq
    have hk2' := hk2 (by omega)
    refine go2 ?_
    refine s_call2 (wn rfl) rfl rfl rfl (l02Map_any (1 + k2) q B c bs (1 + k2).toNat _ (by omega) (by omega) (by omega) hs) ?_
    rintro _ v15 ⟨x1, xss1, N1, rfl, hm1, hxl1, hN1, hy1, hs', hgq⟩
    have zv15 := hgq.size
    replace hs := hs'
    replace hx6 := hx6.kept hgq (by intro e; have := Option.some.inj e; omega)
    replace hx7 := hx7.kept hgq (by intro e; have := Option.some.inj e; omega)
    replace hx2 := hx2.kept hgq (by intro e; have := Option.some.inj e; omega)
    replace hx4 := hx4.kept hgq (by intro e; have := Option.some.inj e; omega)
    replace hg := grownBy_trans hg hgq
    clear hgq
    replace hm1 := (hm1.mono (B' := w.heap.size) (by omega)).top
    refine go2 ?_
    refine s_storeBox (wn rfl) rfl rfl hm1.sv.one hx6 (fun v16 hxN hgp => ?_)
    have zv16 := hgp.size
    replace hs := hs.kept hgp (fun k hk => by cases hk; exact ⟨by have := hs.low; omega, by omega⟩)
    replace hx7 := hx7.kept hgp (by intro e; have := Option.some.inj e; omega)
    replace hx2 := hx2.kept hgp (by intro e; have := Option.some.inj e; omega)
    replace hx4 := hx4.kept hgp (by intro e; have := Option.some.inj e; omega)
    replace hm1 := hm1.box hx6 (by decide) (by decide) hgp
    replace hx6 := hxN
    replace hg := gr_step hg hgp (fun k hk => by cases hk; omega)
    clear hgp
    refine go2 ?_
    refine s_call2 (wn rfl) rfl rfl rfl (l01Next_any q 4 B c bs _ hs (by omega)) ?_
    rintro _ v17 ⟨k3, rfl, hk30, hk3, hs', hgq⟩
    have zv17 := hgq.size
    replace hs := hs'
    replace hx6 := hx6.kept hgq (by intro e; have := Option.some.inj e; omega)
    replace hx7 := hx7.kept hgq (by intro e; have := Option.some.inj e; omega)
    replace hx2 := hx2.kept hgq (by intro e; have := Option.some.inj e; omega)
    replace hx4 := hx4.kept hgq (by intro e; have := Option.some.inj e; omega)
    replace hm1 := hm1.kept hgq (by omega)
    replace hg := grownBy_trans hg hgq
    clear hgq
    have hk3' := hk3 (by omega)
    refine go2 ?_
    refine s_call2 (wn rfl) rfl rfl rfl (l02Map_any (1 + k3) q B c bs (1 + k3).toNat _ (by omega) (by omega) (by omega) hs) ?_
    rintro _ v18 ⟨y1, yss1, N2, rfl, hk1m, hyl1, hN2, hy2, hs', hgq⟩
    have zv18 := hgq.size
    replace hs := hs'
    replace hx6 := hx6.kept hgq (by intro e; have := Option.some.inj e; omega)
    replace hx7 := hx7.kept hgq (by intro e; have := Option.some.inj e; omega)
    replace hx2 := hx2.kept hgq (by intro e; have := Option.some.inj e; omega)
    replace hx4 := hx4.kept hgq (by intro e; have := Option.some.inj e; omega)
    replace hm1 := hm1.kept hgq (by omega)
    replace hg := grownBy_trans hg hgq
    clear hgq
    replace hk1m := (hk1m.mono (B' := w.heap.size) (by omega)).top
    refine go2 ?_
    refine s_storeBox (wn rfl) rfl rfl hk1m.sv.one hx7 (fun v19 hxN hgp => ?_)
    have zv19 := hgp.size
    replace hs := hs.kept hgp (fun k hk => by cases hk; exact ⟨by have := hs.low; omega, by omega⟩)
    replace hx6 := hx6.kept hgp (by intro e; have := Option.some.inj e; omega)
    replace hx2 := hx2.kept hgp (by intro e; have := Option.some.inj e; omega)
    replace hx4 := hx4.kept hgp (by intro e; have := Option.some.inj e; omega)
    replace hm1 := hm1.box hx7 (by decide) (by decide) hgp
    replace hk1m := hk1m.box hx7 (by decide) (by decide) hgp
    replace hx7 := hxN
    replace hg := gr_step hg hgp (fun k hk => by cases hk; omega)
    clear hgp
    clear hxl hxr hyl hyr hm hk sx sy hc6 hc7
    have hxl : xss1.length ≤ 6 := by omega
    have hxr : ∀ xs ∈ xss1, xs.length ≤ 1001 := fun xs h => by have := (hy1 xs h).1; omega
    have hyl : yss1.length ≤ 6 := by omega
    have hyr : ∀ xs ∈ yss1, xs.length ≤ 1001 := fun xs h => by have := (hy2 xs h).1; omega
    have hc6 := hx6.cell
    have hc7 := hx7.cell
    refine go2 ?_
    refine region_hS (fun w' => w'.cell? p6 = some x1 ∧ w'.cell? p7 = some y1) mixed (fun v20 cr => ?_)
    have zv20 := cr.size
    replace hs := hs.below cr
    replace hx6 := hx6.below cr
    replace hx7 := hx7.below cr
    replace hx2 := hx2.below cr
    replace hx4 := hx4.below cr
    replace hm1 := hm1.below cr
    replace hk1m := hk1m.below cr
    replace hc6 := cell_below hc6 cr
    replace hc7 := cell_below hc7 cr
    replace hg := gr_step hg (grownBy_of_below cr none) (fun k hk => by cases hk)
    refine h_p 0 ⟨hc6, hc7⟩ ?_ (hrun := fun w' h => by obtain ⟨h1, h2⟩ := h; exact yl)
    refine h_p 1 ⟨hc6, hc7⟩ ?_ (hrun := fun w' h => by obtain ⟨h1, h2⟩ := h; exact yl)
    refine h_p 2 ⟨hc6, hc7⟩ ?_ (hrun := fun w' h => by obtain ⟨h1, h2⟩ := h; exact yl)
    refine h_p 4 ⟨hc6, hc7⟩ ?_ (hrun := fun w' h => by obtain ⟨h1, h2⟩ := h; exact yl)
    refine h_p 5 ⟨hc6, hc7⟩ ?_ (hrun := fun w' h => by obtain ⟨h1, h2⟩ := h; exact yl)
    refine h_p 6 ⟨hc6, hc7⟩ ?_ (hrun := fun w' h => by obtain ⟨h1, h2⟩ := h; exact yl)
    refine h_one 3 ?_
    refine s_call2 (wn rfl) rfl rfl rfl (l02Flag2_any q B c bs _ _ _ hm1.rl hxr hs) ?_
    rintro _ v21 ⟨z1, rfl, hs', hgq⟩
    have zv21 := hgq.size
    replace hs := hs'
    replace hx6 := hx6.kept hgq (by intro e; have := Option.some.inj e; omega)
    replace hx7 := hx7.kept hgq (by intro e; have := Option.some.inj e; omega)
    replace hx2 := hx2.kept hgq (by intro e; have := Option.some.inj e; omega)
    replace hx4 := hx4.kept hgq (by intro e; have := Option.some.inj e; omega)
    replace hm1 := hm1.kept hgq (by omega)
    replace hk1m := hk1m.kept hgq (by omega)
    replace hc6 := cell_kept hc6 hgq (by intro e; have := Option.some.inj e; omega)
    replace hc7 := cell_kept hc7 hgq (by intro e; have := Option.some.inj e; omega)
    replace hg := grownBy_trans hg hgq
    clear hgq
    refine w_nil ?_
    refine h_on ⟨⟨hc6, hc7⟩, ?_⟩
    refine h_one 7 ?_
    refine s_call2 (wn rfl) rfl rfl rfl (l02Flag2_any q B c bs _ _ _ hk1m.rl hyr hs) ?_
    rintro _ v22 ⟨z2, rfl, hs', hgq⟩
    have zv22 := hgq.size
    replace hs := hs'
    replace hx6 := hx6.kept hgq (by intro e; have := Option.some.inj e; omega)
    replace hx7 := hx7.kept hgq (by intro e; have := Option.some.inj e; omega)
    replace hx2 := hx2.kept hgq (by intro e; have := Option.some.inj e; omega)
    replace hx4 := hx4.kept hgq (by intro e; have := Option.some.inj e; omega)
    replace hm1 := hm1.kept hgq (by omega)
    replace hk1m := hk1m.kept hgq (by omega)
    replace hc6 := cell_kept hc6 hgq (by intro e; have := Option.some.inj e; omega)
    replace hc7 := cell_kept hc7 hgq (by intro e; have := Option.some.inj e; omega)
    replace hg := grownBy_trans hg hgq
    clear hgq
    refine w_nil ?_
    refine h_on ⟨⟨hc6, hc7⟩, ?_⟩
    refine h_one 8 ?_
    refine s_storeBox (wn rfl) rfl rfl hm1.sv.one hx2 (fun v23 hxz hgz => ?_)
    have zz := hgz.size
    have hm2 := hm1.box hx2 (by decide) (by decide) hgz
    have hk2 := hk1m.box hx2 (by decide) (by decide) hgz
    have hx4z := hx4.kept hgz (by intro e; have := Option.some.inj e; omega)
    have hc6 := cell_kept hc6 hgz (by intro e; have := Option.some.inj e; omega)
    have hc7 := cell_kept hc7 hgz (by intro e; have := Option.some.inj e; omega)
    have hsz := hs.kept hgz (fun k hk => by cases hk; exact ⟨by have := hs.low; omega, by omega⟩)
    have hgz1 := gr_step hg hgz (fun k hk => by cases hk; omega)
    refine w_nil ?_
    refine h_on ⟨⟨hc6, hc7⟩, ?_⟩
    refine h_p 9 ⟨hc6, hc7⟩ ?_ (hrun := fun w' h => by obtain ⟨h1, h2⟩ := h; exact yl)
    refine h_one 10 ?_
    refine s_storeBox (wn rfl) rfl rfl hk2.sv.one hx4z (fun v24 hx4n hgz2 => ?_)
    have zz2 := hgz2.size
    have hm3 := hm2.box hx4z (by decide) (by decide) hgz2
    have hk3 := hk2.box hx4z (by decide) (by decide) hgz2
    have hx2n := hxz.kept hgz2 (by intro e; have := Option.some.inj e; omega)
    have hc6 := cell_kept hc6 hgz2 (by intro e; have := Option.some.inj e; omega)
    have hc7 := cell_kept hc7 hgz2 (by intro e; have := Option.some.inj e; omega)
    have hsz2 := hsz.kept hgz2 (fun k hk => by cases hk; exact ⟨by have := hs.low; omega, by omega⟩)
    have hgz3 := gr_step hgz1 hgz2 (fun k hk => by cases hk; omega)
    refine w_nil ?_
    refine h_on ⟨⟨hc6, hc7⟩, ?_⟩
    refine h_p 11 ⟨hc6, hc7⟩ ?_ (hrun := fun w' h => by obtain ⟨h1, h2⟩ := h; exact yl)
    refine h_nil ?_
    refine go2 ?_
    exact end_cell4 Try.results104 rfl rfl rfl rfl hx2n.cell hx4n.cell ⟨x1, y1, z1, z2, _, _, rfl, hm3.top, hk3.top, ⟨hxl, hxr⟩, ⟨hyl, hyr⟩, hsz2, hgz3⟩
  have hc6 := hx6.cell
  have hc7 := hx7.cell
  refine go2 ?_
  refine region_hS (fun w' => w'.cell? p6 = some x ∧ w'.cell? p7 = some y) mixed (fun v25 cr => ?_)
  have zv25 := cr.size
  replace hs := hs.below cr
  replace hx6 := hx6.below cr
  replace hx7 := hx7.below cr
  replace hx2 := hx2.below cr
  replace hx4 := hx4.below cr
  replace hm := hm.below cr
  replace hk := hk.below cr
  replace hc6 := cell_below hc6 cr
  replace hc7 := cell_below hc7 cr
  replace hg := gr_step hg (grownBy_of_below cr none) (fun k hk => by cases hk)
  refine h_p 0 ⟨hc6, hc7⟩ ?_ (hrun := fun w' h => by obtain ⟨h1, h2⟩ := h; exact yl)
  refine h_p 1 ⟨hc6, hc7⟩ ?_ (hrun := fun w' h => by obtain ⟨h1, h2⟩ := h; exact yl)
  refine h_p 2 ⟨hc6, hc7⟩ ?_ (hrun := fun w' h => by obtain ⟨h1, h2⟩ := h; exact yl)
  refine h_p 4 ⟨hc6, hc7⟩ ?_ (hrun := fun w' h => by obtain ⟨h1, h2⟩ := h; exact yl)
  refine h_p 5 ⟨hc6, hc7⟩ ?_ (hrun := fun w' h => by obtain ⟨h1, h2⟩ := h; exact yl)
  refine h_p 6 ⟨hc6, hc7⟩ ?_ (hrun := fun w' h => by obtain ⟨h1, h2⟩ := h; exact yl)
  refine h_one 3 ?_
  refine s_call2 (wn rfl) rfl rfl rfl (l02Flag2_any q B c bs _ _ _ hm.rl hxr hs) ?_
  rintro _ v26 ⟨z1, rfl, hs', hgq⟩
  have zv26 := hgq.size
  replace hs := hs'
  replace hx6 := hx6.kept hgq (by intro e; have := Option.some.inj e; omega)
  replace hx7 := hx7.kept hgq (by intro e; have := Option.some.inj e; omega)
  replace hx2 := hx2.kept hgq (by intro e; have := Option.some.inj e; omega)
  replace hx4 := hx4.kept hgq (by intro e; have := Option.some.inj e; omega)
  replace hm := hm.kept hgq (by omega)
  replace hk := hk.kept hgq (by omega)
  replace hc6 := cell_kept hc6 hgq (by intro e; have := Option.some.inj e; omega)
  replace hc7 := cell_kept hc7 hgq (by intro e; have := Option.some.inj e; omega)
  replace hg := grownBy_trans hg hgq
  clear hgq
  refine w_nil ?_
  refine h_on ⟨⟨hc6, hc7⟩, ?_⟩
  refine h_one 7 ?_
  refine s_call2 (wn rfl) rfl rfl rfl (l02Flag2_any q B c bs _ _ _ hk.rl hyr hs) ?_
  rintro _ v27 ⟨z2, rfl, hs', hgq⟩
  have zv27 := hgq.size
  replace hs := hs'
  replace hx6 := hx6.kept hgq (by intro e; have := Option.some.inj e; omega)
  replace hx7 := hx7.kept hgq (by intro e; have := Option.some.inj e; omega)
  replace hx2 := hx2.kept hgq (by intro e; have := Option.some.inj e; omega)
  replace hx4 := hx4.kept hgq (by intro e; have := Option.some.inj e; omega)
  replace hm := hm.kept hgq (by omega)
  replace hk := hk.kept hgq (by omega)
  replace hc6 := cell_kept hc6 hgq (by intro e; have := Option.some.inj e; omega)
  replace hc7 := cell_kept hc7 hgq (by intro e; have := Option.some.inj e; omega)
  replace hg := grownBy_trans hg hgq
  clear hgq
  refine w_nil ?_
  refine h_on ⟨⟨hc6, hc7⟩, ?_⟩
  refine h_one 8 ?_
  refine s_storeBox (wn rfl) rfl rfl hm.sv.one hx2 (fun v28 hxz hgz => ?_)
  have zz := hgz.size
  have hm2 := hm.box hx2 (by decide) (by decide) hgz
  have hk2 := hk.box hx2 (by decide) (by decide) hgz
  have hx4z := hx4.kept hgz (by intro e; have := Option.some.inj e; omega)
  have hc6 := cell_kept hc6 hgz (by intro e; have := Option.some.inj e; omega)
  have hc7 := cell_kept hc7 hgz (by intro e; have := Option.some.inj e; omega)
  have hsz := hs.kept hgz (fun k hk => by cases hk; exact ⟨by have := hs.low; omega, by omega⟩)
  have hgz1 := gr_step hg hgz (fun k hk => by cases hk; omega)
  refine w_nil ?_
  refine h_on ⟨⟨hc6, hc7⟩, ?_⟩
  refine h_p 9 ⟨hc6, hc7⟩ ?_ (hrun := fun w' h => by obtain ⟨h1, h2⟩ := h; exact yl)
  refine h_one 10 ?_
  refine s_storeBox (wn rfl) rfl rfl hk2.sv.one hx4z (fun v29 hx4n hgz2 => ?_)
  have zz2 := hgz2.size
  have hm3 := hm2.box hx4z (by decide) (by decide) hgz2
  have hk3 := hk2.box hx4z (by decide) (by decide) hgz2
  have hx2n := hxz.kept hgz2 (by intro e; have := Option.some.inj e; omega)
  have hc6 := cell_kept hc6 hgz2 (by intro e; have := Option.some.inj e; omega)
  have hc7 := cell_kept hc7 hgz2 (by intro e; have := Option.some.inj e; omega)
  have hsz2 := hsz.kept hgz2 (fun k hk => by cases hk; exact ⟨by have := hs.low; omega, by omega⟩)
  have hgz3 := gr_step hgz1 hgz2 (fun k hk => by cases hk; omega)
  refine w_nil ?_
  refine h_on ⟨⟨hc6, hc7⟩, ?_⟩
  refine h_p 11 ⟨hc6, hc7⟩ ?_ (hrun := fun w' h => by obtain ⟨h1, h2⟩ := h; exact yl)
  refine h_nil ?_
  refine go2 ?_
  exact end_cell4 Try.results104 rfl rfl rfl rfl hx2n.cell hx4n.cell ⟨x, y, z1, z2, _, _, rfl, hm3.top, hk3.top, ⟨hxl, hxr⟩, ⟨hyl, hyr⟩, hsz2, hgz3⟩

end Go.Proofs.Ytmdimdbfgibflaa
