/- What the general laws share: a code as an argument, flags5, RunMoves, DrawPetrieLengths. -/
import Derived.Test.YtlodnhflfijomaaF60
import Derived.Test.YtlodnhflfijomaaF56
import Derived.Test.YtlodnhflfijomaaRA
import Derived.Test.YtlodnhflfijomaaF46
namespace Go.Mem
open Go.ChangeShapes Go.WideShapes Go.ChangeAt Go.RowKit Go.Deep
theorem open_CL {H : Type} {enc : TypeId × Value → H} {P : Program} {w : World} {base : Nat} {held : Bool} {t e : TypeId} {fuel : Nat} {u : Value} {x : DataW H × List MemPlace} (ht : P.underlying t = some (.slice e)) (he : P.underlying e = some (.int .u8))
    (ce : P.cellsOf e = 1) (h : DataW.trod enc P w base (fun _ => true) held fuel t [u] = some x) : ∃ bs, CL w u bs := by
  rcases open_ints ht he ce h with ⟨hu, _⟩ | ⟨a, len, cap, zs, hu, _, hl, hm, hz, _, hcell, hwf⟩
  · obtain rfl : u = .slice none 0 0 := by simpa using hu
    exact ⟨[], ⟨Rd.nil w, by simp⟩⟩
  · obtain rfl : u = .slice (some a) len cap := by simpa using hu
    have hz : zs.length = cap := by simpa using hz
    refine ⟨zs.take len, ⟨some a, cap, by simp; omega, by simp, by simp; omega, fun c u hu => ?_⟩, fun b hb => ?_⟩
    · rw [List.getElem?_map] at hu
      by_cases hc : c < len
      · have hcz : c < zs.length := by omega
        simp [hc, hcz] at hu
        subst hu
        have := hcell c (by omega)
        simpa [List.getD, hcz, addrOf] using this
      · have : (zs.take len)[c]? = none := by rw [List.getElem?_eq_none]; simp; omega
        simp [this] at hu
    · have h2 := hwf b (List.mem_of_mem_take hb)
      have e1 : IntKind.u8.min = 0 := by decide
      have e2 : IntKind.u8.max = 255 := by decide
      simp [Lit.wf] at h2
      omega
end Go.Mem
namespace Go.Proofs.Ytlodnhflfijomaa
open Go.Mem Go.ChangeShapes Go.WideShapes Go.ChangeAt Go.RowKit
set_option linter.unusedVariables false
set_option linter.unusedSimpArgs false
set_option maxRecDepth 100000 in
/-- an argument that is a code -/
theorem open_arg_B {w : World} {b0 b : Nat} {v : Value} {H : Type} {enc : TypeId × Value → H} {d : DataW H} {ps : List MemPlace} (hok : Value.okWide Try.prog w .any b0 37 v) (h : DataW.Trod enc Try.prog w b (fun _ => true) true 37 v d ps) : ∃ bs, CL w v bs := by
  obtain ⟨a, len, cap, rfl⟩ := okWide_slice Try.underlying37 hok
  obtain ⟨fuel, hf⟩ := h
  exact open_CL Try.underlying37 Try.underlying5 (by kernel_rfl) (u := .slice a len cap) hf

set_option maxHeartbeats 8000000 in
set_option maxRecDepth 100000 in
theorem flags5_any (v : Value) (ms : List (List Int)) (w : World) (hv : RL w v ms) (r1 : 1 ≤ ms.length) :
    Ret Try.prog 32 #[.agg #[v]] w fun r w' => r = .int .i64 (nf ms) ∧ Below w.heap.size w w' := by
  have shv := hv.sv
  have hb := Below.refl w.heap.size w
  refine enter1 12 Try.func32 rfl Try.ntmps32 rfl (fun fr => ?_)
  refine go ?_
  refine s_box (wn rfl) rfl rfl (agg_cells shv) (fun w1 hbx _ hp hg => ?_)
  have hb1 := below_of_grownBy hg
  have sw1 := hb1.size
  replace hv := hv.below hb1
  replace hb := hb.trans (hb1.mono hb.size)
  clear hg hp hb1
  generalize (⟨w.heap.size, 0, none⟩ : Addr) = p at *
  obtain ⟨u, hu, hcu⟩ := hv.row (j := (0 : Int)) (by omega) (by omega)
  have su := hu.sv
  have hn0 : ¬ ((ms.length : Int) = 0) := by omega
  refine go ?_
  exact end_one Try.results32 rfl ⟨rfl, hb⟩

set_option maxHeartbeats 8000000 in
set_option maxRecDepth 100000 in
theorem applied_any (v : Value) (v2 : Value) (ms : List (List Int)) (wd : List Int) (fl : Int) (w : World) (hv : RL w v ms) (hv2 : IL w v2 wd) (hm : IsMan ms) (hw : IsWord ms wd) (hf : 0 ≤ fl ∧ fl < nf ms) :
    Ret Try.prog 97 #[v, v2, .int .i64 fl] w fun r w' => r = .int .i64 (run ms wd fl) ∧ Below w.heap.size w w' := by
  have shv := hv.sv
  have shv2 := hv2.sv
  have hb := Below.refl w.heap.size w
  refine enter3 24 Try.func97 rfl Try.ntmps97 rfl (fun fr => ?_)
  have h1 := hm.m0.r1
  have h4 := hm.m0.f400
  have hw1 := hw.1
  have hw2 := hw.2
  refine go ?_
  have sbs1 := hb.size
  have hv_b1 := hv
  have hv2_b1 := hv2
  have hbB1 := Below.refl w.heap.size w
  refine w_loop (fun kk fr w' => ∃ (i : Nat), kk = wd.length - i ∧ i ≤ wd.length ∧ fr 0 = v ∧ fr 2 = .int .i64 (run ms (wd.take i) fl) ∧ fr 9 = v2 ∧ fr 10 = .int .i64 wd.length ∧ fr 11 = .int .i64 i ∧ Below w.heap.size w w') (wd.length)
    ⟨0, rfl, Nat.zero_le _, rfl, rfl, rfl, rfl, rfl, hbB1⟩ ?_
  rintro kk fr w1 ⟨i, rfl, hi, f0, f2, f9, f10, f11, hbB1⟩
  have sw1 := hbB1.size
  have hv := hv_b1.below hbB1
  have hv2 := hv2_b1.below hbB1
  refine know (t := 0) f0 ?_; refine know (t := 2) f2 ?_; refine know (t := 9) f9 ?_; refine know (t := 10) f10 ?_; refine know (t := 11) f11 ?_
  refine go ?_
  refine cond_dec rfl (fun hlt => ?_) (fun hge => ?_)
  · have hx := hw2 _ (gi_in (xs := wd) (j := i) (by omega))
    have hr := run_rng hm.syst (wd.take i) (fun x h => hw2 x (List.mem_of_mem_take h)) fl hf
    have hrl := (hm.syst.row hx.1 hx.2).1
    obtain ⟨u, hu, hcu⟩ := hv.row hx.1 hx.2
    have su := hu.sv
    refine go ?_
    refine ⟨wd.length - (i + 1), by omega, i + 1, rfl, by omega, rfl, by rw [run_take_succ (by omega)]; rfl, rfl, rfl, rfl, hbB1⟩
  obtain rfl : i = wd.length := by omega
  refine go ?_
  exact end_one Try.results97 rfl ⟨by rw [List.take_length], (hb.trans (hbB1.mono hb.size))⟩

set_option maxHeartbeats 8000000 in
set_option maxRecDepth 100000 in
theorem RunMoves_good (v : Value) (v2 : Value) (ms : List (List Int)) (fl : Int) (wd : List Int) (w : World) (hv : RL w v ms) (hv2 : IL w v2 wd) (hm : IsMan ms) (hw : IsWord ms wd) (hf : 0 ≤ fl ∧ fl < nf ms) :
    Ret Try.prog 33 #[.agg #[v], .int .i64 fl, v2] w fun r w' => r = .tuple #[.int .i64 (run ms wd fl), .int .i64 0] ∧ Below w.heap.size w w' := by
  have shv := hv.sv
  have shv2 := hv2.sv
  have hb := Below.refl w.heap.size w
  refine enter3 26 Try.func33 rfl Try.ntmps33 rfl (fun fr => ?_)
  have r1 := hm.m0.r1
  have f4 := hm.m0.f400
  have d1 := decide_eq_true hm
  have d2 := decide_eq_true hf
  have d3 := decide_eq_true hw
  refine go ?_
  refine s_box (wn rfl) rfl rfl (agg_cells shv) (fun w1 hbx _ hp hg => ?_)
  have hb1 := below_of_grownBy hg
  have sw1 := hb1.size
  replace hv := hv.below hb1
  replace hv2 := hv2.below hb1
  replace hb := hb.trans (hb1.mono hb.size)
  clear hg hp hb1
  generalize (⟨w.heap.size, 0, none⟩ : Addr) = p at *
  refine go ?_
  refine s_call1 (wn rfl) rfl rfl (isManiplex_any _ _ _ hv) ?_
  rintro _ w2 ⟨rfl, hb2⟩
  have sw2 := hb2.size
  replace hv := hv.below hb2
  replace hv2 := hv2.below hb2
  replace hbx := cell_below hbx hb2
  replace hb := hb.trans (hb2.mono hb.size)
  rw [d1]
  refine go ?_
  refine s_call2 (wn rfl) rfl rfl rfl (hasFlag_any _ _ _ fl _ hv hbx r1 f4) ?_
  rintro _ _ ⟨rfl, rfl⟩
  rw [d2]
  refine go ?_
  refine s_call2 (wy rfl rfl rfl rfl rfl known) rfl rfl rfl (isWord_any _ _ _ _ _ _ hv hbx hv2) ?_
  rintro _ w3 ⟨rfl, hb3⟩
  have sw3 := hb3.size
  replace hv := hv.below hb3
  replace hv2 := hv2.below hb3
  replace hbx := cell_below hbx hb3
  replace hb := hb.trans (hb3.mono hb.size)
  rw [d3]
  refine go ?_
  refine s_call3 (wn rfl) rfl rfl rfl rfl (applied_any _ _ _ _ fl _ hv hv2 hm hw hf) ?_
  rintro _ w4 ⟨rfl, hb4⟩
  have sw4 := hb4.size
  replace hv := hv.below hb4
  replace hv2 := hv2.below hb4
  replace hbx := cell_below hbx hb4
  replace hb := hb.trans (hb4.mono hb.size)
  refine go ?_
  exact end_two Try.results33 rfl rfl ⟨rfl, hb⟩

set_option maxHeartbeats 8000000 in
set_option maxRecDepth 100000 in
theorem DrawPetrieLengths_any (c : Value) (bs : List Int) (w : World) (hcl : CL w c bs) :
    Ret Try.prog 26 #[c] w fun r w' => ∃ x xss, r = .agg #[x] ∧ RL w' x xss ∧ Below w.heap.size w w' := by
  have sc := hcl.sv
  refine enter1 6 Try.func26 rfl Try.ntmps26 rfl (fun fr => ?_)
  refine go2 ?_
  refine s_alloc (B := w.heap.size) (wn rfl) rfl (Nat.le_refl _) (fun w1 p4 hx4 hg1 hp4 => ?_)
  have hb1 := below_of_grownBy hg1
  have z1 := hb1.size
  refine go2 ?_
  refine s_call1 (wn rfl) rfl rfl (l01From_any c bs _ (hcl.below hb1)) ?_
  rintro _ w2 ⟨q, rfl, hs, hb2⟩
  have z2 := hb2.size
  have hql := hs.lt
  have hq1 := hs.low
  refine go2 ?_
  refine s_call2 (wn rfl) rfl rfl rfl (l02Spoil_any q _ c bs (60 : Int) 60 _ rfl (by omega) (by omega) hs) ?_
  rintro _ w3 ⟨x, xss, rfl, hm, _, _, hs3, hg3⟩
  have z3 := hg3.size
  have hx4' := (hx4.below hb2).kept hg3 (by intro e; have := Option.some.inj e; have := hx4.lt; omega)
  have hb3 : Below w.heap.size w w3 := (hb1.trans (hb2.mono z1)).trans (gr_below hg3 (by omega) (by omega))
  refine go2 ?_
  refine s_storeBox (wn rfl) rfl rfl hm.sv.one hx4' (fun w4 hxz hgz => ?_)
  have hmz := hm.box hx4' (by decide) (by decide) hgz
  have hbz := hb3.trans (hx4'.below_of hgz hb3.size)
  refine go2 ?_
  exact end_cell Try.results26 rfl hxz.cell ⟨x, xss, rfl, hmz.rl, hbz⟩

end Go.Proofs.Ytlodnhflfijomaa
