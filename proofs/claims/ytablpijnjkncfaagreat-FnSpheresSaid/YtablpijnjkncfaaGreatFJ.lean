/- Texts laid together: F63 F64. -/
import Derived.Test.YtablpijnjkncfaaGreatF36
import Derived.Test.YtablpijnjkncfaaGreatFH
import Derived.Test.YtablpijnjkncfaaGreatTw
import Derived.Test.YtablpijnjkncfaaGreatPD
import Derived.Test.YtablpijnjkncfaaGreatFI
/- Contracts: duals of systems; grids. -/
namespace Go.Mem
open Go.RowKit
set_option linter.unusedVariables false
/-- some permutations, or maps, of the same few points -/
structure PM (ms : List (List Int)) : Prop where
  syst : Syst (nf ms) ms
  r1 : 1 ≤ ms.length
  r5 : ms.length ≤ 5
  f1 : 1 ≤ nf ms
  f400 : nf ms ≤ 400
theorem PM.of {n : Nat} {ms : List (List Int)} (h : Syst n ms) (r1 : 1 ≤ ms.length) (r5 : ms.length ≤ 5) (h1 : 1 ≤ n) (h4 : n ≤ 400) : PM ms ∧ nf ms = n := by
  have e := h.nf r1
  exact ⟨⟨by rw [e]; exact h, r1, r5, by omega, by omega⟩, e⟩
theorem does_systS {ms : List (List Int)} (hm : PM ms) {wd : List Int} (hw : IsWord ms wd) : (does ms wd (nf ms)).length = nf ms ∧ ∀ x ∈ does ms wd (nf ms), 0 ≤ x ∧ x < nf ms := by
  refine ⟨length_does _ _ _, fun x hx => ?_⟩
  obtain ⟨j, hj, rfl⟩ := in_gi hx
  rw [length_does] at hj
  rw [gi_does (by omega) (by omega)]
  exact run_rng hm.syst wd hw.2 _ (by omega)
theorem wds_systS {ms : List (List Int)} (hm : PM ms) {ws : List (List Int)} (hw : ∀ w ∈ ws, IsWord ms w) : Syst (nf ms) (wds ms ws) := fun m h => by
  obtain ⟨w, hw', rfl⟩ := List.mem_map.1 h
  exact does_systS hm (hw w hw')
/-- a form of moves is a system -/
theorem frm_syst {n : Nat} {rs : List (List Int)} {p : Int} (hs : Syst n rs) (hp : 0 ≤ p ∧ p < n) (hn : n ≤ 1000) : ∃ K : Nat, 1 ≤ K ∧ K ≤ n ∧ Syst K (frm n rs p) := by
  have hob := obt_orbit hs hp hn
  have hle := orbit_le hs hp hn
  have h1 : 1 ≤ (orbit rs p).length := List.length_pos_of_mem ((mem_orbit hs hp hn).2 (.refl _))
  refine ⟨(orbit rs p).length, h1, hle, fun m hm => ?_⟩
  obtain ⟨r, hr, rfl⟩ := List.mem_map.1 hm
  refine ⟨by simp, fun x hx => ?_⟩
  obtain ⟨y, hy, rfl⟩ := List.mem_map.1 hx
  have hz : gi r y ∈ orbit rs p := (mem_orbit hs hp hn).2 (.step ((mem_orbit hs hp hn).1 hy) hr)
  have := hob.num hz
  exact ⟨this.1, this.2.1⟩
/-- three owned lists that grow side by side -/
structure Tri (w : World) (B : Nat) (T : TypeId) (a b c : Value) (xs ys zs : List Int) : Prop where
  oa : OI w B T a xs
  ob : OI w B T b ys
  oc : OI w B T c zs
  ab : Ap a b
  ac : Ap a c
  bc : Ap b c
section
variable {w w' : World} {B : Nat} {T : TypeId} {a b c a' : Value} {xs ys zs us : List Int}
theorem Tri.below (h : Tri w B T a b c xs ys zs) (hb : Below w.heap.size w w') : Tri w' B T a b c xs ys zs := ⟨h.oa.below hb, h.ob.below hb, h.oc.below hb, h.ab, h.ac, h.bc⟩
theorem Tri.app1 (h : Tri w B T a b c xs ys zs) (hn : OI w' B T a' us) (hg : w.grownBy w' a.ownBlock) (hgrow : a'.ownBlock = a.ownBlock ∨ a'.ownBlock = some w.heap.size) : Tri w' B T a' b c us ys zs :=
  ⟨hn, h.ob.kept hg h.ab.symm, h.oc.kept hg h.ac.symm, (h.ab.symm.grow (fun g hg => (h.ob.lt g hg).2) hgrow).symm, (h.ac.symm.grow (fun g hg => (h.oc.lt g hg).2) hgrow).symm, h.bc⟩
theorem Tri.app2 (h : Tri w B T a b c xs ys zs) (hn : OI w' B T a' us) (hg : w.grownBy w' b.ownBlock) (hgrow : a'.ownBlock = b.ownBlock ∨ a'.ownBlock = some w.heap.size) : Tri w' B T a a' c xs us zs :=
  ⟨h.oa.kept hg h.ab, hn, h.oc.kept hg h.bc.symm, h.ab.grow (fun g hg => (h.oa.lt g hg).2) hgrow, h.ac, (h.bc.symm.grow (fun g hg => (h.oc.lt g hg).2) hgrow).symm⟩
theorem Tri.app3 (h : Tri w B T a b c xs ys zs) (hn : OI w' B T a' us) (hg : w.grownBy w' c.ownBlock) (hgrow : a'.ownBlock = c.ownBlock ∨ a'.ownBlock = some w.heap.size) : Tri w' B T a b a' xs ys us :=
  ⟨h.oa.kept hg h.ac, h.ob.kept hg h.bc, hn, h.ab, h.ac.grow (fun g hg => (h.oa.lt g hg).2) hgrow, h.bc.grow (fun g hg => (h.ob.lt g hg).2) hgrow⟩
theorem Tri.om {U : TypeId} {v : Value} (h : Tri w B U a b c xs ys zs) (ho : Own w B T v [a, b, c]) : OM w B w.heap.size T U v [xs, ys, zs] := by
  refine Rws.om ⟨fun u hu => ?_, rfl, fun i u z hu hz => ?_, fun i u hu g hg => ?_, fun i j u u' hij hu hu' => ?_⟩ ho
  · simp at hu; rcases hu with rfl | rfl | rfl
    · exact h.oa.sv.one
    · exact h.ob.sv.one
    · exact h.oc.sv.one
  · match i, hu, hz with
    | 0, hu, hz => simp at hu hz; subst hu hz; exact h.oa
    | 1, hu, hz => simp at hu hz; subst hu hz; exact h.ob
    | 2, hu, hz => simp at hu hz; subst hu hz; exact h.oc
    | i + 3, hu, hz => simp at hu
  · match i, hu with
    | 0, hu => simp at hu; subst hu; exact (h.oa.lt g hg).2
    | 1, hu => simp at hu; subst hu; exact (h.ob.lt g hg).2
    | 2, hu => simp at hu; subst hu; exact (h.oc.lt g hg).2
    | i + 3, hu => simp at hu
  · match i, j, hu, hu' with
    | 0, 1, hu, hu' => simp at hu hu'; subst hu hu'; exact h.ab
    | 0, 2, hu, hu' => simp at hu hu'; subst hu hu'; exact h.ac
    | 1, 2, hu, hu' => simp at hu hu'; subst hu hu'; exact h.bc
    | 2, j + 3, hu, hu' => simp at hu'
    | 1, j + 3, hu, hu' => simp at hu'
    | 0, j + 3, hu, hu' => simp at hu'
    | i + 3, _, hu, _ => simp at hu
end
end Go.Mem
namespace Go.Proofs.YtablpijnjkncfaaGreat
open Go.Mem Go.RowKit
set_option linter.unusedVariables false
set_option linter.unusedSimpArgs false

set_option maxHeartbeats 8000000 in
set_option maxRecDepth 100000 in
theorem l02RunS_any (v : Value) (v2 : Value) (ms : List (List Int)) (fl : Int) (wd : List Int) (w : World) (hv : RL w v ms) (hv2 : IL w v2 wd) (hm : PM ms) (hw : IsWord ms wd) (hf : 0 ≤ fl ∧ fl < nf ms) :
    Ret Tryz.prog 158 #[.agg #[v], .int .i64 fl, v2] w fun r w' => r = .int .i64 (run ms wd fl) ∧ Below w.heap.size w w' := by
  have shv := hv.sv
  have shv2 := hv2.sv
  have hb := Below.refl w.heap.size w
  refine enter3 26 Tryz.func158 rfl Tryz.ntmps158 rfl (fun fr => ?_)
  have h1 := hm.r1
  have h4 := hm.f400
  have hw1 := hw.1
  have hw2 := hw.2
  refine go ?_
  refine s_box (wn rfl) rfl rfl (agg_cells shv) (fun w1 hbx _ hp hg => ?_)
  have hb1 := below_of_grownBy hg
  replace hv := hv.below hb1
  replace hv2 := hv2.below hb1
  replace hb := hb.trans (hb1.mono hb.size)
  clear hg hp hb1
  generalize (⟨w.heap.size, 0, none⟩ : Addr) = p at *
  refine go ?_
  refine w_loop (fun k fr w' => ∃ (i : Nat), k = wd.length - i ∧ i ≤ wd.length ∧ fr 1 = .int .i64 (run ms (wd.take i) fl) ∧ fr 2 = v2 ∧ fr 3 = .pointer (some p) ∧ fr 7 = .int .i64 i ∧ Below w1.heap.size w1 w') (wd.length)
    ⟨0, rfl, Nat.zero_le _, rfl, rfl, rfl, rfl, Below.refl _ _⟩ ?_
  rintro k fr w2 ⟨i, rfl, hi, f1, f2, f3, f7, hbL1⟩
  have hv := hv.below hbL1
  have hv2 := hv2.below hbL1
  have hbx := cell_below hbx hbL1
  refine know (t := 1) f1 ?_; refine know (t := 2) f2 ?_; refine know (t := 3) f3 ?_; refine know (t := 7) f7 ?_
  refine go ?_
  refine cond_dec rfl (fun hlt => ?_) (fun hge => ?_)
  · have hx := hw2 _ (gi_in (xs := wd) (j := i) (by omega))
    have hr := run_rng hm.syst (wd.take i) (fun x h => hw2 x (List.mem_of_mem_take h)) fl hf
    have hrow := hm.syst.row hx.1 hx.2
    have hrl := hrow.1
    obtain ⟨u, hu, hcu⟩ := hv.row hx.1 hx.2
    have su := hu.sv
    refine go ?_
    refine region_q mixed (by kernel_rfl) ?_; refine qo ?_; refine q_nil ?_
    intro w3 hbq
    replace hv := hv.below hbq
    replace hv2 := hv2.below hbq
    replace hbx := cell_below hbx hbq
    replace hbL1 := hbL1.trans (hbq.mono hbL1.size)
    refine go ?_
    refine ⟨wd.length - (i + 1), by omega, i + 1, rfl, by omega, by rw [run_take_succ (by omega)]; rfl, rfl, rfl, rfl, hbL1⟩
  obtain rfl : i = wd.length := by omega
  rw [List.take_length]
  refine go ?_
  exact end_one Tryz.results158 rfl ⟨rfl, (hb.trans (hbL1.mono hb.size))⟩


set_option maxHeartbeats 8000000 in
set_option maxRecDepth 100000 in
theorem l05WordsS_any (v : Value) (v2 : Value) (ms : List (List Int)) (ws : List (List Int)) (w : World) (hv : RL w v ms) (hv2 : RL w v2 ws) (hm : PM ms) (hw : ∀ x ∈ ws, IsWord ms x) (hwl : ws.length ≤ 1000) :
    Ret Tryz.prog 132 #[.agg #[v], v2] w fun r w' => OM w' w.heap.size w'.heap.size 32 2 r (wds ms ws) ∧ Below w.heap.size w w' := by
  have shv := hv.sv
  have shv2 := hv2.sv
  have hb := Below.refl w.heap.size w
  refine enter2 38 Tryz.func132 rfl Tryz.ntmps132 rfl (fun fr => ?_)
  have h1 := hm.r1
  have h4 := hm.f400
  refine go ?_
  refine s_box (wn rfl) rfl rfl (agg_cells shv) (fun w1 hbx _ hp hg => ?_)
  have hb1 := below_of_grownBy hg
  have sw1 := hb1.size
  replace hv := hv.below hb1
  replace hv2 := hv2.below hb1
  replace hb := hb.trans (hb1.mono hb.size)
  clear hg hp hb1
  generalize (⟨w.heap.size, 0, none⟩ : Addr) = p at *
  have sbs1 := hb.size
  have hv_b1 := hv
  have hv2_b1 := hv2
  have hbx_b1 := hbx
  have hbB1 := Below.refl w1.heap.size w1
  refine go ?_
  have szq2 := hbB1.size
  refine s_build (B := w1.heap.size) [] (wn rfl) rfl (by simp) (by decide) rfl (by simp) szq2 (fun ob w2 ho hg2 _ => ?_)
  have hb2 := below_of_grownBy hg2
  have sw2 := hb2.size
  replace hv := hv.below hb2
  replace hv2 := hv2.below hb2
  replace hbx := cell_below hbx hb2
  replace hbB1 := hbB1.trans (hb2.mono hbB1.size)
  replace ho := OM.empty (E := w2.heap.size) (U := 2) ho
  refine go ?_
  refine w_loop (fun kk fr w' => ∃ (i : Nat) (ob : Value), kk = ws.length - i ∧ i ≤ ws.length ∧ fr 1 = v2 ∧ fr 2 = .pointer (some p) ∧ fr 5 = ob ∧ fr 6 = .int .i64 i ∧ (OM w' w1.heap.size w'.heap.size 32 2 ob (wds ms (ws.take i))) ∧ Below w1.heap.size w1 w') (ws.length)
    ⟨0, ob, rfl, Nat.zero_le _, rfl, rfl, rfl, rfl, ho.top, hbB1⟩ ?_
  rintro kk fr w3 ⟨i, ob, rfl, hi, f1, f2, f5, f6, ho, hbB1⟩
  have sw3 := hbB1.size
  have hv := hv_b1.below hbB1
  have hv2 := hv2_b1.below hbB1
  have hbx := cell_below hbx_b1 hbB1
  have sho := ho.sv
  refine know (t := 1) f1 ?_; refine know (t := 2) f2 ?_; refine know (t := 5) f5 ?_; refine know (t := 6) f6 ?_
  refine go ?_
  refine cond_dec rfl (fun hlt => ?_) (fun hge => ?_)
  · replace ho := ho.top
    have hwi := hw _ (gr_in (xss := ws) (j := i) (by omega))
    have sbs2 := hbB1.size
    have hv_b2 := hv
    have hv2_b2 := hv2
    have hbx_b2 := hbx
    have ho_b2 := ho
    have hbB2 := Below.refl w3.heap.size w3
    obtain ⟨u, hu_b2, hcu_b2⟩ := hv2_b2.row (j := (i : Int)) (by omega) hlt
    have su := hu_b2.sv
    have hu := hu_b2.below hbB2
    have hcu := cell_below hcu_b2 hbB2
    refine go ?_
    have szq4 := hbB2.size
    refine s_build0 (B := w3.heap.size) (wn rfl) rfl szq4 (fun rb w4 hr so hg4 _ => ?_)
    have hb4 := below_of_grownBy hg4
    have sw4 := hb4.size
    replace hv := hv.below hb4
    replace hv2 := hv2.below hb4
    replace hbx := cell_below hbx hb4
    replace ho := ho.below hb4
    replace hu := hu.below hb4
    replace hcu := cell_below hcu hb4
    replace hbB2 := hbB2.trans (hb4.mono hbB2.size)
    refine go ?_
    refine w_loop (fun kk fr w' => ∃ (q : Nat) (rb : Value), kk = nf ms - q ∧ q ≤ nf ms ∧ fr 1 = v2 ∧ fr 2 = .pointer (some p) ∧ fr 5 = ob ∧ fr 6 = .int .i64 i ∧ fr 7 = rb ∧ fr 8 = .int .i64 q ∧ (OI w' w3.heap.size 2 rb ((List.range q).map fun f : Nat => run ms (gr ws i) f)) ∧ Below w3.heap.size w3 w') (nf ms)
      ⟨0, rb, rfl, Nat.zero_le _, rfl, rfl, rfl, rfl, rfl, rfl, hr, hbB2⟩ ?_
    rintro kk fr w5 ⟨q, rb, rfl, hq, f1, f2, f5, f6, f7, f8, hr, hbB2⟩
    have sw5 := hbB2.size
    have hv := hv_b2.below hbB2
    have hv2 := hv2_b2.below hbB2
    have hbx := cell_below hbx_b2 hbB2
    have ho := ho_b2.below hbB2
    have hu := hu_b2.below hbB2
    have hcu := cell_below hcu_b2 hbB2
    have shr := hr.sv
    refine know (t := 1) f1 ?_; refine know (t := 2) f2 ?_; refine know (t := 5) f5 ?_; refine know (t := 6) f6 ?_; refine know (t := 7) f7 ?_; refine know (t := 8) f8 ?_
    refine go ?_
    refine s_call1 (wn rfl) rfl rfl (l02Flags_any _ _ _ hv h1) ?_
    rintro _ w6 ⟨rfl, hb6⟩
    have sw6 := hb6.size
    replace hv := hv.below hb6
    replace hv2 := hv2.below hb6
    replace hbx := cell_below hbx hb6
    replace ho := ho.below hb6
    replace hu := hu.below hb6
    replace hcu := cell_below hcu hb6
    replace hr := hr.below hb6
    replace hbB2 := hbB2.trans (hb6.mono hbB2.size)
    refine go ?_
    refine cond_dec rfl (fun hlt2 => ?_) (fun hge2 => ?_)
    · refine go ?_
      refine region_hS (fun w' => Below w3.heap.size w3 w') mixed (fun w7 hb7 => ?_)
      have sw7 := hb7.size
      replace hv := hv.below hb7
      replace hv2 := hv2.below hb7
      replace hbx := cell_below hbx hb7
      replace ho := ho.below hb7
      replace hu := hu.below hb7
      replace hcu := cell_below hcu hb7
      replace hr := hr.below hb7
      replace hbB2 := hbB2.trans (hb7.mono hbB2.size)
      refine h_p 0 hbB2 ?_
      refine h_p 1 hbB2 ?_
      refine h_p 2 hbB2 ?_
      refine h_p 3 hbB2 ?_
      refine h_p 4 hbB2 ?_
      refine h_p 5 hbB2 ?_
      refine h_p 6 hbB2 ?_
      refine h_one 7 ?_
      refine s_call3 (wn rfl) rfl rfl rfl rfl (l02RunS_any _ _ _ (q : Int) _ _ hv hu hm hwi (by omega)) ?_
      rintro _ w8 ⟨rfl, hb8⟩
      have sw8 := hb8.size
      replace hv := hv.below hb8
      replace hv2 := hv2.below hb8
      replace hbx := cell_below hbx hb8
      replace ho := ho.below hb8
      replace hu := hu.below hb8
      replace hcu := cell_below hcu hb8
      replace hr := hr.below hb8
      replace hbB2 := hbB2.trans (hb8.mono hbB2.size)
      refine w_nil ?_
      refine h_on ⟨hbB2, ?_⟩
      refine h_one 8 ?_
      have szq9 := hbB2.size
      refine s_build1 (B := w3.heap.size) (wn rfl) rfl rfl szq9 (fun tb w9 ht st hg9 _ => ?_)
      have hb9 := below_of_grownBy hg9
      have sw9 := hb9.size
      replace hv := hv.below hb9
      replace hv2 := hv2.below hb9
      replace hbx := cell_below hbx hb9
      replace ho := ho.below hb9
      replace hu := hu.below hb9
      replace hcu := cell_below hcu hb9
      replace hr := hr.below hb9
      replace hbB2 := hbB2.trans (hb9.mono hbB2.size)
      have szq10 := hbB2.size
      refine w_nil ?_
      refine h_on ⟨hbB2, ?_⟩
      refine h_one 9 ?_
      refine s_appendI (wn rfl) rfl rfl rfl hr ht.il (by simp; omega) szq10 (fun rb' w10 hoN so hgN _ => ?_)
      replace hbB2 := hbB2.trans (hr.below_of hgN szq10)
      have sw10 := hgN.size
      replace hr := hoN
      clear hoN
      replace hv := hv_b2.below hbB2
      replace hv2 := hv2_b2.below hbB2
      replace hbx := cell_below hbx_b2 hbB2
      replace ho := ho_b2.below hbB2
      replace hu := hu_b2.below hbB2
      replace hcu := cell_below hcu_b2 hbB2
      refine w_nil ?_
      refine h_on ⟨hbB2, ?_⟩
      refine h_p 10 hbB2 ?_
      refine h_nil ?_
      refine go ?_
      refine ⟨nf ms - (q + 1), by omega, q + 1, rb', rfl, by omega, rfl, rfl, rfl, rfl, rfl, rfl, by simpa [List.range_succ] using hr, hbB2⟩
    obtain rfl : q = nf ms := by omega
    replace hbB1 := hbB1.trans (hbB2.mono hbB1.size)
    rw [does_map] at hr
    refine go ?_
    have szq11 := hbB1.size
    refine s_build1V (B := w1.heap.size) (wn rfl) rfl rfl hr.sv.one szq11 (fun tb w11 ht st hg11 _ => ?_)
    have hb11 := below_of_grownBy hg11
    have sw11 := hb11.size
    replace hv := hv.below hb11
    replace hv2 := hv2.below hb11
    replace hbx := cell_below hbx hb11
    replace ho := ho.below hb11
    replace hu := hu.below hb11
    replace hcu := cell_below hcu hb11
    replace hr := hr.below hb11
    replace hbB1 := hbB1.trans (hb11.mono hbB1.size)
    have szq12 := hbB1.size
    refine s_appendM (wn rfl) rfl rfl rfl ho ht.rd hr (by omega) (by decide) (by simp [wds]; omega) szq12 (fun ob' w12 hoN so hgN => ?_)
    replace hbB1 := hbB1.trans (ho.below_of hgN szq12)
    have sw12 := hgN.size
    replace ho := hoN
    clear hoN
    replace hv := hv_b1.below hbB1
    replace hv2 := hv2_b1.below hbB1
    replace hbx := cell_below hbx_b1 hbB1
    refine go ?_
    refine ⟨ws.length - (i + 1), by omega, i + 1, ob', rfl, by omega, rfl, rfl, rfl, rfl, by rw [wds_take (by omega)]; exact ho, hbB1⟩
  obtain rfl : i = ws.length := by omega
  rw [List.take_length] at ho
  refine go ?_
  exact end_one Tryz.results132 rfl ⟨(ho.mono (by omega)).top, (hb.trans (hbB1.mono hb.size))⟩


set_option maxHeartbeats 8000000 in
set_option maxRecDepth 100000 in
theorem l05ReplaceS_any (v : Value) (v2 : Value) (ms : List (List Int)) (ws : List (List Int)) (w : World) (hv : RL w v ms) (hv2 : RL w v2 ws) (hm : PM ms) (hw : ∀ x ∈ ws, IsWord ms x) (hwl : ws.length ≤ 1000) (h1w : 1 ≤ ws.length) :
    Ret Tryz.prog 114 #[.agg #[v], v2] w fun r w' => ∃ x, r = .tuple #[.agg #[x], .bool (decide (IsMan (repl ms ws)))] ∧ OM w' w.heap.size w'.heap.size 32 2 x (repl ms ws) ∧ Below w.heap.size w w' := by
  have shv := hv.sv
  have shv2 := hv2.sv
  have hb := Below.refl w.heap.size w
  refine enter2 20 Tryz.func114 rfl Tryz.ntmps114 rfl (fun fr => ?_)
  have h2 := hm.f1
  have h4 := hm.f400
  refine go ?_
  refine s_box (wn rfl) rfl rfl (agg_cells shv) (fun w1 hbx _ hp hg => ?_)
  have hb1 := below_of_grownBy hg
  have sw1 := hb1.size
  replace hv := hv.below hb1
  replace hv2 := hv2.below hb1
  replace hb := hb.trans (hb1.mono hb.size)
  clear hg hp hb1
  generalize (⟨w.heap.size, 0, none⟩ : Addr) = p at *
  have sz0 := hb.size
  refine s_alloc (B := w.heap.size) (wn rfl) rfl (by first | exact Nat.le_refl _ | omega) (fun w2 p4 hx4 hg2 hpp4 => ?_)
  have hb2 := below_of_grownBy hg2
  have sw2 := hb2.size
  replace hv := hv.below hb2
  replace hv2 := hv2.below hb2
  replace hbx := cell_below hbx hb2
  replace hb := hb.trans (hb2.mono hb.size)
  have hlt4 := hx4.lt
  have sz1 := hb.size
  refine go ?_
  refine s_call2 (wn rfl) rfl rfl rfl (l05WordsS_any _ _ _ _ _ hv hv2 hm hw hwl) ?_
  rintro y w3 ⟨hy, hb3⟩
  have sw3 := hb3.size
  replace hv := hv.below hb3
  replace hv2 := hv2.below hb3
  replace hbx := cell_below hbx hb3
  replace hx4 := hx4.below hb3
  replace hb := hb.trans (hb3.mono hb.size)
  refine go ?_
  refine s_p (wn rfl) rfl (y_bld1 rfl hy.sv.one) ?_
  refine s_alloc (B := w3.heap.size) (wn rfl) rfl (Nat.le_refl _) (fun w4 p6 hx6 hg4 hpp6 => ?_)
  have hb4 := below_of_grownBy hg4
  refine go ?_
  refine s_storeBox (wn rfl) rfl rfl hy.sv.one hx6 (fun w5 hx6b hg6 => ?_)
  have hbq6 := hb4.trans (hx6.below_of hg6 hb4.size)
  have sw5 := hbq6.size
  replace hv := hv.below hbq6
  replace hv2 := hv2.below hbq6
  replace hbx := cell_below hbx hbq6
  replace hx4 := hx4.below hbq6
  replace hy := hy.below hbq6
  replace hb := hb.trans (hbq6.mono hb.size)
  have hc6 := hx6b.cell
  have sv2 := hv2.sv
  have hwlen : (wds ms ws).length = ws.length := by simp [wds]
  refine go ?_
  refine s_call4 (wn rfl) rfl rfl rfl rfl rfl (l04Section_any _ _ (nf ms) 0 0 _ _ hy.rl (wds_systS hm hw) (by omega) (by omega) (by omega) (by omega)) ?_
  rintro _ w6 ⟨x, rfl, hx, hb6⟩
  have sw6 := hb6.size
  replace hv := hv.below hb6
  replace hv2 := hv2.below hb6
  replace hbx := cell_below hbx hb6
  replace hx4 := hx4.below hb6
  replace hy := hy.below hb6
  replace hc6 := cell_below hc6 hb6
  replace hx6b := hx6b.below hb6
  replace hb := hb.trans (hb6.mono hb.size)
  have e0 : ((wds ms ws).take ((ws.length : Int) - 1 + 1).toNat).drop (0 : Int).toNat = wds ms ws := by
    rw [List.take_of_length_le (by omega)]; rfl
  rw [e0] at hx
  have hrepl : frm (nf ms) (wds ms ws) 0 = repl ms ws := rfl
  rw [hrepl] at hx
  refine go ?_
  refine s_alloc (B := w6.heap.size) (wn rfl) rfl (Nat.le_refl _) (fun w7 p7 hx7 hg7 hpp7 => ?_)
  have hb7 := below_of_grownBy hg7
  refine go ?_
  refine s_storeBox (wn rfl) rfl rfl hx.sv.one hx7 (fun w8 hx7b hg7 => ?_)
  have hbq7 := hb7.trans (hx7.below_of hg7 hb7.size)
  have sw8 := hbq7.size
  replace hv := hv.below hbq7
  replace hv2 := hv2.below hbq7
  replace hbx := cell_below hbx hbq7
  replace hx4 := hx4.below hbq7
  replace hy := hy.below hbq7
  replace hc6 := cell_below hc6 hbq7
  replace hx6b := hx6b.below hbq7
  replace hx := hx.below hbq7
  replace hb := hb.trans (hbq7.mono hb.size)
  have hc7 := hx7b.cell
  refine go ?_
  have hbb := hb
  have hxx := hx
  refine region_hS (fun w' => w'.cell? p7 = some x) mixed (fun wr hbr => ?_)
  have hc7r := cell_below hc7 hbr
  have hx4r := hx4.below hbr
  have hx7r := hx7b.below hbr
  have hxr := hx.below hbr
  have hbR := hb.trans (hbr.mono hb.size)
  refine h_p 0 hc7r ?_ (hrun := fun w hw => y_ldbox rfl hw)
  refine h_p 1 hc7r ?_ (hrun := fun w hw => y_ldbox rfl hw)
  refine h_one 2 ?_
  refine s_call1 (wn rfl) rfl rfl (l02Is_any _ _ _ hxr.rl) ?_
  rintro _ ws2 ⟨rfl, hbs⟩
  have hc7s := cell_below hc7r hbs
  have hx4s := hx4r.below hbs
  have hx7s := hx7r.below hbs
  have hxs := hxr.below hbs
  have hbS := hbR.trans (hbs.mono hbR.size)
  refine w_nil ?_
  refine h_on ⟨hc7s, ?_⟩
  refine h_one 3 ?_
  refine s_storeBox (wn rfl) rfl rfl hxs.sv.one hx4s (fun wt hx4t hgt => ?_)
  have hxt := hxs.kept hgt (by omega)
  have hx7t := hx7s.kept hgt (by intro e; have := Option.some.inj e; omega)
  have hbT := hbS.trans (hx4s.below_of hgt hbS.size)
  refine w_nil ?_
  refine h_on ⟨hx7t.cell, ?_⟩
  refine h_p 4 hx7t.cell ?_ (hrun := fun w _ => y_pop rfl)
  refine h_nil ?_
  refine go ?_
  exact end_cellT Tryz.results114 rfl rfl hx4t.cell ⟨x, rfl, (hxt.mono (by omega)).top, hbT⟩


set_option maxHeartbeats 8000000 in
set_option maxRecDepth 100000 in
theorem l05DualS_any (v : Value) (ms : List (List Int)) (w : World) (hv : RL w v ms) (hm : PM ms) :
    Ret Tryz.prog 71 #[.agg #[v]] w fun r w' => ∃ x, r = .agg #[x] ∧ OM w' w.heap.size w'.heap.size 32 2 x (repl ms (revw ms.length)) ∧ Below w.heap.size w w' := by
  have shv := hv.sv
  have hb := Below.refl w.heap.size w
  refine enter1 28 Tryz.func71 rfl Tryz.ntmps71 rfl (fun fr => ?_)
  have r5 := hm.r5
  have r1 := hm.r1
  have hrl := revw_len ms.length
  refine go ?_
  refine s_box (wn rfl) rfl rfl (agg_cells shv) (fun w1 hbx _ hp hg => ?_)
  have hb1 := below_of_grownBy hg
  have sw1 := hb1.size
  replace hv := hv.below hb1
  replace hb := hb.trans (hb1.mono hb.size)
  clear hg hp hb1
  generalize (⟨w.heap.size, 0, none⟩ : Addr) = p at *
  have sz0 := hb.size
  refine go ?_
  refine s_alloc (B := w.heap.size) (wn rfl) rfl (by first | exact Nat.le_refl _ | omega) (fun w2 p4 hx4 hg2 hpp4 => ?_)
  have hb2 := below_of_grownBy hg2
  have sw2 := hb2.size
  replace hv := hv.below hb2
  replace hbx := cell_below hbx hb2
  replace hb := hb.trans (hb2.mono hb.size)
  have hlt_hx4 := hx4.lt
  have sz1 := hb.size
  have sbs1 := hb.size
  have hv_b1 := hv
  have hbx_b1 := hbx
  have hx4_b1 := hx4
  have hbB1 := Below.refl w2.heap.size w2
  refine go ?_
  have szq3 := hbB1.size
  refine s_build (B := w2.heap.size) [] (wn rfl) rfl (by simp) (by decide) rfl (by simp) szq3 (fun ob w3 ho hg3 _ => ?_)
  have hb3 := below_of_grownBy hg3
  have sw3 := hb3.size
  replace hv := hv.below hb3
  replace hbx := cell_below hbx hb3
  replace hx4 := hx4.below hb3
  replace hbB1 := hbB1.trans (hb3.mono hbB1.size)
  replace ho := OM.empty (E := w3.heap.size) (U := 2) ho
  refine go ?_
  refine w_loop (fun kk fr w' => ∃ (i : Nat) (ob : Value), kk = ms.length - i ∧ i ≤ ms.length ∧ fr 1 = .pointer (some p) ∧ fr 2 = .pointer (some p4) ∧ fr 3 = ob ∧ fr 4 = .int .i64 ((ms.length : Int) - 1 - i) ∧ (OM w' w2.heap.size w'.heap.size 32 2 ob ((revw ms.length).take i)) ∧ Below w2.heap.size w2 w') (ms.length)
    ⟨0, ob, rfl, Nat.zero_le _, rfl, rfl, rfl, by show Value.int _ _ = _; congr 1; omega, ho.top, hbB1⟩ ?_
  rintro kk fr w4 ⟨i, ob, rfl, hi, f1, f2, f3, f4, ho, hbB1⟩
  have sw4 := hbB1.size
  have hv := hv_b1.below hbB1
  have hbx := cell_below hbx_b1 hbB1
  have hx4 := hx4_b1.below hbB1
  have sho := ho.sv
  refine know (t := 1) f1 ?_; refine know (t := 2) f2 ?_; refine know (t := 3) f3 ?_; refine know (t := 4) f4 ?_
  refine go ?_
  refine cond_dec rfl (fun hlt => ?_) (fun hge => ?_)
  · replace ho := ho.top
    refine go ?_
    refine s_build1 (B := w4.heap.size) (wn rfl) rfl rfl (Nat.le_refl _) (fun rb w5 hr sr5 hg5 _ => ?_)
    have hb5 := below_of_grownBy hg5
    have sw5 := hb5.size
    replace hv := hv.below hb5
    replace hbx := cell_below hbx hb5
    replace hx4 := hx4.below hb5
    replace ho := ho.below hb5
    replace hbB1 := hbB1.trans (hb5.mono hbB1.size)
    have szq6 := hbB1.size
    refine s_build1V (B := w2.heap.size) (wn rfl) rfl rfl hr.sv.one szq6 (fun tb w6 ht st hg6 _ => ?_)
    have hb6 := below_of_grownBy hg6
    have sw6 := hb6.size
    replace hv := hv.below hb6
    replace hbx := cell_below hbx hb6
    replace hx4 := hx4.below hb6
    replace ho := ho.below hb6
    replace hr := hr.below hb6
    replace hbB1 := hbB1.trans (hb6.mono hbB1.size)
    have szq7 := hbB1.size
    refine s_appendM (wn rfl) rfl rfl rfl ho ht.rd hr (by omega) (by decide) (by simp; omega) szq7 (fun ob' w7 hoN so hgN => ?_)
    replace hbB1 := hbB1.trans (ho.below_of hgN szq7)
    have sw7 := hgN.size
    replace ho := hoN
    clear hoN
    replace hv := hv_b1.below hbB1
    replace hbx := cell_below hbx_b1 hbB1
    replace hx4 := hx4_b1.below hbB1
    refine go ?_
    refine ⟨ms.length - (i + 1), by omega, i + 1, ob', rfl, by omega, rfl, rfl, rfl, by show Value.int _ _ = _; congr 1; omega, by rw [revw_take (by omega)]; exact ho, hbB1⟩
  obtain rfl : i = ms.length := by omega
  rw [List.take_of_length_le (by omega)] at ho
  refine go ?_
  refine s_call2 (wn rfl) rfl rfl rfl (l05ReplaceS_any _ _ _ _ _ hv ho.rl hm revw_words (by omega) (by omega)) ?_
  rintro _ w8 ⟨x, rfl, hx, hb8⟩
  have sw8 := hb8.size
  replace hv := hv.below hb8
  replace hbx := cell_below hbx hb8
  replace hx4 := hx4.below hb8
  replace ho := ho.below hb8
  replace hbB1 := hbB1.trans (hb8.mono hbB1.size)
  skip
  refine go ?_
  refine s_alloc (B := w8.heap.size) (wn rfl) rfl (Nat.le_refl _) (fun w9 p5 hx5 hg9 hpp5 => ?_)
  have hb9 := below_of_grownBy hg9
  refine go ?_
  refine s_storeBox (wn rfl) rfl rfl hx.sv.one hx5 (fun w10 hx5b hg5 => ?_)
  have hbq5 := hb9.trans (hx5.below_of hg5 hb9.size)
  have sw10 := hbq5.size
  replace hv := hv.below hbq5
  replace hbx := cell_below hbx hbq5
  replace hx4 := hx4.below hbq5
  replace ho := ho.below hbq5
  replace hx := hx.below hbq5
  replace hbB1 := hbB1.trans (hbq5.mono hbB1.size)
  have hc5 := hx5b.cell
  have hbY := (hb.trans (hbB1.mono hb.size))
  refine go ?_
  refine s_storeBox (wn rfl) rfl rfl hx.sv.one hx4 (fun w11 hxz hgz => ?_)
  have hbz := hbY.trans (hx4.below_of hgz hbY.size)
  have hxN := hx.kept hgz (by omega)
  refine go ?_
  exact end_cell Tryz.results71 rfl hxz.cell ⟨x, rfl, (hxN.mono (by omega)).top, hbz⟩


set_option maxHeartbeats 8000000 in
set_option maxRecDepth 100000 in
theorem l05Grid_any  (a : Int) (b : Int) (A K : Nat) (w : World)  (ea : a = A) (eb : b = K) (a1 : 1 ≤ A) (a4 : A ≤ 4) (k1 : 1 ≤ K) (k4 : K ≤ 4) :
    Ret Tryz.prog 70 #[.int .i64 a, .int .i64 b] w fun r w' => ∃ x xss, r = .agg #[x] ∧ OM w' w.heap.size w'.heap.size 32 2 x xss ∧ xss.length = 3 ∧ Syst (8 * (A * K)) xss ∧ Below w.heap.size w w' := by
  have hb := Below.refl w.heap.size w
  refine enter2 109 Tryz.func70 rfl Tryz.ntmps70 rfl (fun fr => ?_)
  subst ea eb
  have hAK := Nat.mul_le_mul a4 k4
  have hAK1 := Nat.mul_le_mul a1 k1
  have hc8 : ((8 : Int) * A) * K = ((8 * (A * K) : Nat) : Int) := by rw [Int.natCast_mul, Int.natCast_mul, Int.mul_assoc]; rfl
  have hAKc : ((K * A : Nat) : Int) = (A : Int) * K := by rw [Int.natCast_mul, Int.mul_comm]
  have hAKn : K * A = A * K := Nat.mul_comm _ _
  have sz0 := hb.size
  refine go ?_
  refine s_alloc (B := w.heap.size) (wn rfl) rfl (by first | exact Nat.le_refl _ | omega) (fun w1 p4 hx4 hg1 hpp4 => ?_)
  have hb1 := below_of_grownBy hg1
  have sw1 := hb1.size
  replace hb := hb.trans (hb1.mono hb.size)
  have hlt_hx4 := hx4.lt
  have sz1 := hb.size
  refine go ?_
  have sbs1 := hb.size
  have hx4_b1 := hx4
  have hbB1 := Below.refl w1.heap.size w1
  have szq2 := hbB1.size
  refine s_build0 (B := w1.heap.size) (wn rfl) rfl szq2 (fun za w2 hza so2 hg2 hk0 => ?_)
  have hb2 := below_of_grownBy hg2
  have hlt0 := fun g hg => (hza.lt g hg).2
  have sw2 := hb2.size
  replace hx4 := hx4.below hb2
  replace hbB1 := hbB1.trans (hb2.mono hbB1.size)
  refine go ?_
  have szq3 := hbB1.size
  refine s_build0 (B := w1.heap.size) (wn rfl) rfl szq3 (fun zb w3 hzb so3 hg3 hk1 => ?_)
  have hb3 := below_of_grownBy hg3
  have hlt1 := fun g hg => (hzb.lt g hg).2
  have sw3 := hb3.size
  replace hx4 := hx4.below hb3
  replace hza := hza.below hb3
  replace hbB1 := hbB1.trans (hb3.mono hbB1.size)
  refine go ?_
  have szq4 := hbB1.size
  refine s_build0 (B := w1.heap.size) (wn rfl) rfl szq4 (fun zc w4 hzc so4 hg4 hk2 => ?_)
  have hb4 := below_of_grownBy hg4
  have hlt2 := fun g hg => (hzc.lt g hg).2
  have sw4 := hb4.size
  replace hx4 := hx4.below hb4
  replace hza := hza.below hb4
  replace hzb := hzb.below hb4
  replace hbB1 := hbB1.trans (hb4.mono hbB1.size)
  refine go ?_
  have hT : Tri w4 w1.heap.size 2 za zb zc [] [] [] := ⟨hza, hzb, hzc, Ap.new hlt0 hk1, Ap.new (fun g hg => by have := hlt0 g hg; omega) hk2, Ap.new hlt1 hk2⟩
  refine go ?_
  refine w_loop (fun kk fr w' => ∃ (i : Nat) (va : Value) (vb : Value) (vc : Value) (X : List Int) (Y : List Int) (Z : List Int), kk = 8 * (A * K) - i ∧ i ≤ 8 * (A * K) ∧ fr 0 = .int .i64 A ∧ fr 1 = .int .i64 K ∧ fr 4 = .pointer (some p4) ∧ fr 5 = va ∧ fr 6 = vb ∧ fr 7 = vc ∧ fr 8 = .int .i64 i ∧ (Tri w' w1.heap.size 2 va vb vc X Y Z) ∧ (X.length = i) ∧ (Y.length = i) ∧ (Z.length = i) ∧ (∀ x ∈ X, 0 ≤ x ∧ x < ((8 * (A * K) : Nat) : Int)) ∧ (∀ x ∈ Y, 0 ≤ x ∧ x < ((8 * (A * K) : Nat) : Int)) ∧ (∀ x ∈ Z, 0 ≤ x ∧ x < ((8 * (A * K) : Nat) : Int)) ∧ Below w1.heap.size w1 w') (8 * (A * K))
    ⟨0, za, zb, zc, [], [], [], rfl, Nat.zero_le _, rfl, rfl, rfl, rfl, rfl, rfl, rfl, hT, rfl, rfl, rfl, by simp, by simp, by simp, hbB1⟩ ?_
  rintro kk fr w5 ⟨i, va, vb, vc, X, Y, Z, rfl, hi, f0, f1, f4, f5, f6, f7, f8, hT, lX, lY, lZ, rX, rY, rZ, hbB1⟩
  have sw5 := hbB1.size
  have hx4 := hx4_b1.below hbB1
  refine know (t := 0) f0 ?_; refine know (t := 1) f1 ?_; refine know (t := 4) f4 ?_; refine know (t := 5) f5 ?_; refine know (t := 6) f6 ?_; refine know (t := 7) f7 ?_; refine know (t := 8) f8 ?_
  refine go ?_
  refine s_p (wn rfl) rfl (y_mul rfl rfl (by omega)) ?_
  refine go ?_
  refine s_p (wn rfl) rfl (y_mul rfl rfl (by omega)) ?_
  rw [hc8]
  refine go ?_
  refine cond_dec rfl (fun hlt => ?_) (fun hge => ?_)
  · have hlt : (i : Int) < ((8 * (A * K) : Nat) : Int) := hlt
    obtain ⟨d1, d2, d3⟩ := code_of (c := (i : Int) / 8) (m := K) (n := A) (by omega)
    refine go ?_
    refine region_q mixed (by kernel_rfl) ?_
    refine qo ?_
    refine q_nil ?_
    intro w6 hb6
    have sw6 := hb6.size
    replace hx4 := hx4.below hb6
    replace hT := hT.below hb6
    replace hbB1 := hbB1.trans (hb6.mono hbB1.size)
    refine go ?_
    refine s_p (wn rfl) rfl (y_xor1 rfl (by omega)) ?_
    refine go ?_
    have szq7 := hbB1.size
    refine s_build1 (B := w1.heap.size) (wn rfl) rfl rfl szq7 (fun tb w7 ht st hg7 _ => ?_)
    have hb7 := below_of_grownBy hg7
    have sw7 := hb7.size
    replace hx4 := hx4.below hb7
    replace hT := hT.below hb7
    replace hbB1 := hbB1.trans (hb7.mono hbB1.size)
    have szq8 := hbB1.size
    refine s_appendI (wn rfl) rfl rfl rfl hT.oa ht.il (by simp; omega) szq8 (fun va' w8 hN so hgN hgrow => ?_)
    replace hbB1 := hbB1.trans (hT.oa.below_of hgN szq8)
    have sw8 := hgN.size
    replace hT := hT.app1 hN hgN hgrow
    clear hN hgrow
    replace hx4 := hx4_b1.below hbB1
    have lX' : (X ++ [if (i : Int) % 2 = 0 then (i : Int) + 1 else (i : Int) - 1]).length = i + 1 := by simp [lX]
    have rX' : ∀ x ∈ X ++ [if (i : Int) % 2 = 0 then (i : Int) + 1 else (i : Int) - 1], 0 ≤ x ∧ x < ((8 * (A * K) : Nat) : Int) := fun x hx => by
      rcases List.mem_append.1 hx with hx | hx
      · exact rX x hx
      · simp at hx; subst hx; split <;> omega
    generalize X ++ [if (i : Int) % 2 = 0 then (i : Int) + 1 else (i : Int) - 1] = X2 at *
    refine go ?_
    refine meet (fun r w' => ∃ (vb' : Value) (Y2 : List Int), r 0 = .int .i64 A ∧ r 1 = .int .i64 K ∧ r 4 = .pointer (some p4) ∧ r 5 = va' ∧ r 6 = vb' ∧ r 7 = vc ∧ r 8 = .int .i64 i ∧ r 9 = .int .i64 ((i : Int) / 8) ∧ r 10 = .int .i64 ((i : Int) % 8) ∧ r 11 = .int .i64 ((i : Int) / 8 % A) ∧ r 12 = .int .i64 ((i : Int) / 8 / A) ∧ Tri w' w1.heap.size 2 va' vb' vc X2 Y2 Z ∧ Y2.length = i + 1 ∧ (∀ x ∈ Y2, 0 ≤ x ∧ x < ((8 * (A * K) : Nat) : Int)) ∧ Below w1.heap.size w1 w') ?_ ?_
    · refine go ?_
      refine cond_dec rfl (fun hev => ?_) (fun hev => ?_)
      · refine go ?_
        refine s_p (wn rfl) rfl (y_mul rfl rfl (by omega)) ?_
        refine go ?_
        have szq9 := hbB1.size
        refine s_build1 (B := w1.heap.size) (wn rfl) rfl rfl szq9 (fun tb w9 ht st hg9 _ => ?_)
        have hb9 := below_of_grownBy hg9
        have sw9 := hb9.size
        replace hx4 := hx4.below hb9
        replace hT := hT.below hb9
        replace hbB1 := hbB1.trans (hb9.mono hbB1.size)
        have szq10 := hbB1.size
        refine s_appendI (wn rfl) rfl rfl rfl hT.ob ht.il (by simp; omega) szq10 (fun vb' w10 hN so hgN hgrow => ?_)
        replace hbB1 := hbB1.trans (hT.ob.below_of hgN szq10)
        have sw10 := hgN.size
        replace hT := hT.app2 hN hgN hgrow
        clear hN hgrow
        replace hx4 := hx4_b1.below hbB1
        refine go ?_
        exact ⟨vb', _, rfl, rfl, rfl, rfl, rfl, rfl, rfl, rfl, rfl, rfl, rfl, hT, by simp [lY], fun x hx => by
          rcases List.mem_append.1 hx with hx | hx
          · exact rY x hx
          · simp at hx; subst hx; omega, hbB1⟩
      · refine go ?_
        refine s_p (wn rfl) rfl (y_mul rfl rfl (by omega)) ?_
        refine go ?_
        have szq11 := hbB1.size
        refine s_build1 (B := w1.heap.size) (wn rfl) rfl rfl szq11 (fun tb w11 ht st hg11 _ => ?_)
        have hb11 := below_of_grownBy hg11
        have sw11 := hb11.size
        replace hx4 := hx4.below hb11
        replace hT := hT.below hb11
        replace hbB1 := hbB1.trans (hb11.mono hbB1.size)
        have szq12 := hbB1.size
        refine s_appendI (wn rfl) rfl rfl rfl hT.ob ht.il (by simp; omega) szq12 (fun vb' w12 hN so hgN hgrow => ?_)
        replace hbB1 := hbB1.trans (hT.ob.below_of hgN szq12)
        have sw12 := hgN.size
        replace hT := hT.app2 hN hgN hgrow
        clear hN hgrow
        replace hx4 := hx4_b1.below hbB1
        refine go ?_
        exact ⟨vb', _, rfl, rfl, rfl, rfl, rfl, rfl, rfl, rfl, rfl, rfl, rfl, hT, by simp [lY], fun x hx => by
          rcases List.mem_append.1 hx with hx | hx
          · exact rY x hx
          · simp at hx; subst hx; omega, hbB1⟩
    rintro r w13 ⟨vb', Y2, g0, g1, g4, g5, g6, g7, g8, g9, g10, g11, g12, hT, lY2, rY2, hbB1⟩
    have sw13 := hbB1.size
    replace hx4 := hx4_b1.below hbB1
    refine know (t := 0) g0 ?_; refine know (t := 1) g1 ?_; refine know (t := 4) g4 ?_; refine know (t := 5) g5 ?_; refine know (t := 6) g6 ?_; refine know (t := 7) g7 ?_; refine know (t := 8) g8 ?_; refine know (t := 9) g9 ?_; refine know (t := 10) g10 ?_; refine know (t := 11) g11 ?_; refine know (t := 12) g12 ?_
    have hA0 : (0 : Int) < A := by omega
    have hK0 : (0 : Int) < K := by omega
    refine w_seq ?_
    refine meet (fun r w' => ∃ (x' y' : Int), r 0 = .int .i64 A ∧ r 1 = .int .i64 K ∧ r 4 = .pointer (some p4) ∧ r 5 = va' ∧ r 6 = vb' ∧ r 7 = vc ∧ r 8 = .int .i64 i ∧ r 9 = .int .i64 ((i : Int) / 8) ∧ r 10 = .int .i64 ((i : Int) % 8) ∧ r 11 = .int .i64 (x') ∧ r 12 = .int .i64 (y') ∧ Tri w' w1.heap.size 2 va' vb' vc X2 Y2 Z ∧ (0 ≤ x' ∧ x' < (A : Int)) ∧ (0 ≤ y' ∧ y' < (K : Int)) ∧ Below w1.heap.size w1 w') ?_ ?_
    · refine go ?_
      refine cond_dec rfl (fun e0 => ?_) (fun e0 => ?_)
      · refine go ?_
        exact ⟨_, _, rfl, rfl, rfl, rfl, rfl, rfl, rfl, rfl, rfl, rfl, rfl, hT, ⟨Int.emod_nonneg _ (by omega), Int.emod_lt_of_pos _ hA0⟩, d1, hbB1⟩
      refine go ?_
      refine cond_dec rfl (fun e1 => ?_) (fun e1 => ?_)
      · refine go ?_
        exact ⟨_, _, rfl, rfl, rfl, rfl, rfl, rfl, rfl, rfl, rfl, rfl, rfl, hT, d2, ⟨Int.emod_nonneg _ (by omega), Int.emod_lt_of_pos _ hK0⟩, hbB1⟩
      refine go ?_
      refine cond_dec rfl (fun e2 => ?_) (fun e2 => ?_)
      · refine go ?_
        exact ⟨_, _, rfl, rfl, rfl, rfl, rfl, rfl, rfl, rfl, rfl, rfl, rfl, hT, ⟨Int.emod_nonneg _ (by omega), Int.emod_lt_of_pos _ hA0⟩, d1, hbB1⟩
      refine go ?_
      refine cond_dec rfl (fun e3 => ?_) (fun e3 => ?_)
      · refine go ?_
        exact ⟨_, _, rfl, rfl, rfl, rfl, rfl, rfl, rfl, rfl, rfl, rfl, rfl, hT, d2, ⟨Int.emod_nonneg _ (by omega), Int.emod_lt_of_pos _ hK0⟩, hbB1⟩
      refine go ?_
      refine go ?_
      exact ⟨_, _, rfl, rfl, rfl, rfl, rfl, rfl, rfl, rfl, rfl, rfl, rfl, hT, d2, d1, hbB1⟩
    rintro r w14 ⟨x', y', g0, g1, g4, g5, g6, g7, g8, g9, g10, g11, g12, hT, x2, y2, hbB1⟩
    have sw14 := hbB1.size
    replace hx4 := hx4_b1.below hbB1
    refine know (t := 0) g0 ?_; refine know (t := 1) g1 ?_; refine know (t := 4) g4 ?_; refine know (t := 5) g5 ?_; refine know (t := 6) g6 ?_; refine know (t := 7) g7 ?_; refine know (t := 8) g8 ?_; refine know (t := 9) g9 ?_; refine know (t := 10) g10 ?_; refine know (t := 11) g11 ?_; refine know (t := 12) g12 ?_
    have hc := code_lt (m := K) (n := A) y2 x2
    rw [Int.mul_comm y' (A : Int)] at hc
    have hm0 : 0 ≤ (A : Int) * y' := Int.mul_nonneg (by omega) y2.1
    refine go ?_
    refine s_p (wn rfl) rfl (y_mul rfl rfl (by omega)) ?_
    refine go ?_
    refine s_p (wn rfl) rfl (y_mul rfl rfl (by omega)) ?_
    refine go ?_
    refine s_p (wn rfl) rfl (y_xor1 rfl (by omega)) ?_
    refine go ?_
    have hxr : 0 ≤ (if ((i : Int) % 8 + 4) % 8 % 2 = 0 then ((i : Int) % 8 + 4) % 8 + 1 else ((i : Int) % 8 + 4) % 8 - 1) ∧ (if ((i : Int) % 8 + 4) % 8 % 2 = 0 then ((i : Int) % 8 + 4) % 8 + 1 else ((i : Int) % 8 + 4) % 8 - 1) ≤ 7 := by split <;> omega
    generalize (if ((i : Int) % 8 + 4) % 8 % 2 = 0 then ((i : Int) % 8 + 4) % 8 + 1 else ((i : Int) % 8 + 4) % 8 - 1) = z at *
    refine go ?_
    have szq15 := hbB1.size
    refine s_build1 (B := w1.heap.size) (wn rfl) rfl rfl szq15 (fun tb w15 ht st hg15 _ => ?_)
    have hb15 := below_of_grownBy hg15
    have sw15 := hb15.size
    replace hx4 := hx4.below hb15
    replace hT := hT.below hb15
    replace hbB1 := hbB1.trans (hb15.mono hbB1.size)
    have szq16 := hbB1.size
    refine s_appendI (wn rfl) rfl rfl rfl hT.oc ht.il (by simp; omega) szq16 (fun vc' w16 hN so hgN hgrow => ?_)
    replace hbB1 := hbB1.trans (hT.oc.below_of hgN szq16)
    have sw16 := hgN.size
    replace hT := hT.app3 hN hgN hgrow
    clear hN hgrow
    replace hx4 := hx4_b1.below hbB1
    refine go ?_
    refine ⟨8 * (A * K) - (i + 1), by omega, i + 1, va', vb', vc', _, _, _, rfl, by omega, rfl, rfl, rfl, rfl, rfl, rfl, rfl, hT, lX', lY2, by simp [lZ], rX', rY2, fun x hx => by
      rcases List.mem_append.1 hx with hx | hx
      · exact rZ x hx
      · simp at hx; subst hx; omega, hbB1⟩
  have hge2 : ¬ ((i : Int) < ((8 * (A * K) : Nat) : Int)) := hge
  obtain rfl : i = 8 * (A * K) := by omega
  have s1 := hT.oa.sv
  have s2 := hT.ob.sv
  have s3 := hT.oc.sv
  refine go ?_
  have szq17 := hbB1.size
  refine Go.Mem.s_build3V (B := w1.heap.size) (wn rfl) rfl rfl rfl rfl s1.one s2.one s3.one szq17 (fun mb w17 hm sm hg17 _ => ?_)
  have hb17 := below_of_grownBy hg17
  have sw17 := hb17.size
  replace hx4 := hx4.below hb17
  replace hT := hT.below hb17
  replace hbB1 := hbB1.trans (hb17.mono hbB1.size)
  have hx := hT.om hm
  have hsys := Syst.three lX lY lZ rX rY rZ
  refine go ?_
  refine s_p (wn rfl) rfl (y_bld1 rfl sm.one) ?_
  have hbY := (hb.trans (hbB1.mono hb.size))
  refine go ?_
  refine s_storeBox (wn rfl) rfl rfl sm.one hx4 (fun w18 hxz hgz => ?_)
  have hbz := hbY.trans (hx4.below_of hgz hbY.size)
  have hxN := hx.kept hgz (by omega)
  refine go ?_
  exact end_cell Tryz.results70 rfl hxz.cell ⟨mb, _, rfl, (hxN.mono (by omega)).top, rfl, hsys, hbz⟩

end Go.Proofs.YtablpijnjkncfaaGreat

/- Contracts: a maniplex drawn that has mostly several automorphisms. -/
namespace Go.Proofs.YtablpijnjkncfaaGreat
open Go.Mem Go.RowKit
set_option linter.unusedVariables false
set_option linter.unusedSimpArgs false

set_option maxHeartbeats 8000000 in
set_option maxRecDepth 100000 in
theorem l06Even_any (q B : Nat) (c : Value) (bs : List Int) (w : World) (hs : Sr w B q 94 c bs) :
    Ret Tryz.prog 28 #[.pointer (some ⟨q, 0, none⟩)] w fun r w' => ∃ x xss, r = .agg #[x] ∧ OM w' w.heap.size w'.heap.size 32 2 x xss ∧ xss.length ≤ 6 ∧ (∀ xs ∈ xss, xs.length ≤ 1001) ∧ Sr w' B q 94 c bs ∧ w.grownBy w' (some q) := by
  have hql := hs.lt
  refine enter1 52 Tryz.func28 rfl Tryz.ntmps28 rfl (fun fr => ?_)
  refine go2 ?_
  refine s_alloc (B := w.heap.size) (wn rfl) rfl (by first | exact Nat.le_refl _ | omega) (fun v1 p2 hx2 hga hpp2 => ?_)
  have hba := below_of_grownBy hga
  have zv1 := hba.size
  replace hs := hs.below hba
  have hg := gr_step (grownBy_of_below (Below.refl _ _) (some q)) (grownBy_of_below hba none) (fun k hk => by cases hk)
  clear hba hga
  have hltp2 := hx2.lt
  refine go2 ?_
  refine s_p (wn rfl) rfl y_bld0 ?_
  refine go2 ?_
  refine s_alloc (B := w.heap.size) (wn rfl) rfl (by first | exact Nat.le_refl _ | omega) (fun v2 p3 hx3 hga hpp3 => ?_)
  have hba := below_of_grownBy hga
  have zv2 := hba.size
  replace hs := hs.below hba
  replace hx2 := hx2.below hba
  replace hg := gr_step hg (grownBy_of_below hba none) (fun k hk => by cases hk)
  clear hba hga
  have hltp3 := hx3.lt
  refine go2 ?_
  refine s_storeBox (wn rfl) rfl rfl rfl hx3 (fun v3 hxN hgp => ?_)
  have zv3 := hgp.size
  replace hs := hs.kept hgp (fun k hk => by cases hk; exact ⟨by have := hs.low; omega, by omega⟩)
  replace hx2 := hx2.kept hgp (by intro e; have := Option.some.inj e; omega)
  replace hx3 := hxN
  replace hg := gr_step hg hgp (fun k hk => by cases hk; omega)
  clear hgp
  refine w_nil ?_
  refine then_normal ?_
  refine w_seq ?_
  refine meet (fun r w' => ∃ (x : Value) (xss : List (List Int)) (N : Nat), r 0 = .pointer (some ⟨q, 0, none⟩) ∧ r 2 = .pointer (some p2) ∧ r 3 = .pointer (some p3) ∧ Bx w' w.heap.size p3 26 x ∧ Bx w' w.heap.size p2 26 (.slice none 0 0) ∧ OM w' w.heap.size w'.heap.size 32 2 x xss ∧ (1 ≤ xss.length ∧ xss.length ≤ 5) ∧ (1 ≤ N ∧ N ≤ 400) ∧ Syst N xss ∧ Sr w' B q 94 c bs ∧ w.grownBy w' (some q) ∧ p3.block < w'.heap.size) ?_ ?_
  · refine go2 ?_
    refine s_call2 (wn rfl) rfl rfl rfl (l01Next_any q 5 B c bs _ hs (by omega)) ?_
    rintro _ v4 ⟨k, rfl, _, hk, hs', hgq⟩
    have zv4 := hgq.size
    replace hs := hs'
    replace hx2 := hx2.kept hgq (by intro e; have := Option.some.inj e; omega)
    replace hx3 := hx3.kept hgq (by intro e; have := Option.some.inj e; omega)
    replace hg := grownBy_trans hg hgq
    clear hgq
    have hk' := hk (by omega)
    refine go2 ?_
    refine cond_dec rfl (fun e0 => ?_) (fun e0 => ?_)
    · refine go2 ?_
      refine s_call2 (wn rfl) rfl rfl rfl (l01Next_any q 2 B c bs _ hs (by omega)) ?_
      rintro _ v5 ⟨a, rfl, ha0, ha, hs', hgq⟩
      have zv5 := hgq.size
      replace hs := hs'
      replace hx2 := hx2.kept hgq (by intro e; have := Option.some.inj e; omega)
      replace hx3 := hx3.kept hgq (by intro e; have := Option.some.inj e; omega)
      replace hg := grownBy_trans hg hgq
      clear hgq
      refine go2 ?_
      refine s_call2 (wn rfl) rfl rfl rfl (l01Next_any q 2 B c bs _ hs (by omega)) ?_
      rintro _ v6 ⟨b, rfl, hb20, hb2, hs', hgq⟩
      have zv6 := hgq.size
      replace hs := hs'
      replace hx2 := hx2.kept hgq (by intro e; have := Option.some.inj e; omega)
      replace hx3 := hx3.kept hgq (by intro e; have := Option.some.inj e; omega)
      replace hg := grownBy_trans hg hgq
      clear hgq
      have ha' := ha (by omega)
      have hb2' := hb2 (by omega)
      have hAK := Nat.mul_le_mul (show (1 + a).toNat ≤ 2 by omega) (show (1 + b).toNat ≤ 2 by omega)
      have hAK1 := Nat.mul_le_mul (show 1 ≤ (1 + a).toNat by omega) (show 1 ≤ (1 + b).toNat by omega)
      refine go2 ?_
      refine s_call2 (wn rfl) rfl rfl rfl (l05Grid_any (1 + a) (1 + b) (1 + a).toNat (1 + b).toNat _ (by omega) (by omega) (by omega) (by omega) (by omega) (by omega)) ?_
      rintro _ v7 ⟨x, xss, rfl, hm, hxl, hy, hbq⟩
      have zv7 := hbq.size
      replace hs := hs.below hbq
      replace hx2 := hx2.below hbq
      replace hx3 := hx3.below hbq
      replace hg := gr_step hg (grownBy_of_below hbq none) (fun k hk => by cases hk)
      clear hbq
      replace hm := hm.mono (B' := w.heap.size) (by omega)
      refine go2 ?_
      refine s_storeBox (wn rfl) rfl rfl hm.sv.one hx3 (fun v8 hxN hgp => ?_)
      have zv8 := hgp.size
      replace hs := hs.kept hgp (fun k hk => by cases hk; exact ⟨by have := hs.low; omega, by omega⟩)
      replace hx2 := hx2.kept hgp (by intro e; have := Option.some.inj e; omega)
      replace hm := hm.box hx3 (by decide) (by decide) hgp
      replace hx3 := hxN
      replace hg := gr_step hg hgp (fun k hk => by cases hk; omega)
      clear hgp
      refine go2 ?_
      exact ⟨x, _, 8 * ((1 + a).toNat * (1 + b).toNat), rfl, rfl, rfl, hx3, hx2, hm.top, ⟨by omega, by omega⟩, ⟨by omega, by omega⟩, hy, hs, hg, by omega⟩
    refine go2 ?_
    refine cond_dec rfl (fun e1 => ?_) (fun e1 => ?_)
    · refine go2 ?_
      refine s_call2 (wn rfl) rfl rfl rfl (l01Next_any q 4 B c bs _ hs (by omega)) ?_
      rintro _ v9 ⟨a, rfl, ha0, ha, hs', hgq⟩
      have zv9 := hgq.size
      replace hs := hs'
      replace hx2 := hx2.kept hgq (by intro e; have := Option.some.inj e; omega)
      replace hx3 := hx3.kept hgq (by intro e; have := Option.some.inj e; omega)
      replace hg := grownBy_trans hg hgq
      clear hgq
      have ha' := ha (by omega)
      refine go2 ?_
      refine s_call1 (wn rfl) rfl rfl (l02Polygon_any (1 + a) (1 + a).toNat _ (by omega) (by omega) (by omega)) ?_
      rintro _ v10 ⟨x1, xs1, rfl, hm1, hxl1, hy1, hbq⟩
      have zv10 := hbq.size
      replace hs := hs.below hbq
      replace hx2 := hx2.below hbq
      replace hx3 := hx3.below hbq
      replace hg := gr_step hg (grownBy_of_below hbq none) (fun k hk => by cases hk)
      clear hbq
      replace hm1 := hm1.mono (B' := w.heap.size) (by omega)
      refine go2 ?_
      refine s_call2 (wn rfl) rfl rfl rfl (l01Next_any q 2 B c bs _ hs (by omega)) ?_
      rintro _ v11 ⟨b, rfl, hb20, hb2, hs', hgq⟩
      have zv11 := hgq.size
      replace hs := hs'
      replace hx2 := hx2.kept hgq (by intro e; have := Option.some.inj e; omega)
      replace hx3 := hx3.kept hgq (by intro e; have := Option.some.inj e; omega)
      replace hm1 := hm1.kept hgq (by omega)
      replace hg := grownBy_trans hg hgq
      clear hgq
      have hb2' := hb2 (by omega)
      refine go2 ?_
      refine s_call1 (wn rfl) rfl rfl (l02Polygon_any (1 + b) (1 + b).toNat _ (by omega) (by omega) (by omega)) ?_
      rintro _ v12 ⟨x2, xs2, rfl, hm2, hxl2, hy2, hbq⟩
      have zv12 := hbq.size
      replace hs := hs.below hbq
      replace hx2 := hx2.below hbq
      replace hx3 := hx3.below hbq
      replace hm1 := hm1.below hbq
      replace hg := gr_step hg (grownBy_of_below hbq none) (fun k hk => by cases hk)
      clear hbq
      have hAK := Nat.mul_le_mul (show 2 * (1 + a).toNat ≤ 8 by omega) (show 2 * (1 + b).toNat ≤ 4 by omega)
      have hAK1 := Nat.mul_le_mul (show 1 ≤ 2 * (1 + a).toNat by omega) (show 1 ≤ 2 * (1 + b).toNat by omega)
      refine go2 ?_
      refine s_call2 (wn rfl) rfl rfl rfl (l02Beside_any _ _ _ _ (2 * (1 + a).toNat) (2 * (1 + b).toNat) _ hm1.rl hm2.rl hy1 hy2 (by omega) (by omega) (by omega) (by omega) (by omega) (by omega) (by omega)) ?_
      rintro _ v13 ⟨x, xss, rfl, hm, hxl, hy, hbq⟩
      have zv13 := hbq.size
      replace hs := hs.below hbq
      replace hx2 := hx2.below hbq
      replace hx3 := hx3.below hbq
      replace hm1 := hm1.below hbq
      replace hm2 := hm2.below hbq
      replace hg := gr_step hg (grownBy_of_below hbq none) (fun k hk => by cases hk)
      clear hbq
      replace hm := hm.mono (B' := w.heap.size) (by omega)
      refine go2 ?_
      refine s_storeBox (wn rfl) rfl rfl hm.sv.one hx3 (fun v14 hxN hgp => ?_)
      have zv14 := hgp.size
      replace hs := hs.kept hgp (fun k hk => by cases hk; exact ⟨by have := hs.low; omega, by omega⟩)
      replace hx2 := hx2.kept hgp (by intro e; have := Option.some.inj e; omega)
      replace hm1 := hm1.box hx3 (by decide) (by decide) hgp
      replace hm2 := hm2.box hx3 (by decide) (by decide) hgp
      replace hm := hm.box hx3 (by decide) (by decide) hgp
      replace hx3 := hxN
      replace hg := gr_step hg hgp (fun k hk => by cases hk; omega)
      clear hgp
      refine go2 ?_
      exact ⟨x, _, _, rfl, rfl, rfl, hx3, hx2, hm.top, ⟨by omega, by omega⟩, ⟨by omega, by omega⟩, hy, hs, hg, by omega⟩
    refine go2 ?_
    refine cond_dec rfl (fun e2 => ?_) (fun e2 => ?_)
    · refine go2 ?_
      refine s_call2 (wn rfl) rfl rfl rfl (l01Next_any q 10 B c bs _ hs (by omega)) ?_
      rintro _ v15 ⟨a, rfl, ha0, ha, hs', hgq⟩
      have zv15 := hgq.size
      replace hs := hs'
      replace hx2 := hx2.kept hgq (by intro e; have := Option.some.inj e; omega)
      replace hx3 := hx3.kept hgq (by intro e; have := Option.some.inj e; omega)
      replace hg := grownBy_trans hg hgq
      clear hgq
      have ha' := ha (by omega)
      refine go2 ?_
      refine s_call1 (wn rfl) rfl rfl (l02Polygon_any (1 + a) (1 + a).toNat _ (by omega) (by omega) (by omega)) ?_
      rintro _ v16 ⟨x, xss, rfl, hm, hxl, hy, hbq⟩
      have zv16 := hbq.size
      replace hs := hs.below hbq
      replace hx2 := hx2.below hbq
      replace hx3 := hx3.below hbq
      replace hg := gr_step hg (grownBy_of_below hbq none) (fun k hk => by cases hk)
      clear hbq
      replace hm := hm.mono (B' := w.heap.size) (by omega)
      refine go2 ?_
      refine s_storeBox (wn rfl) rfl rfl hm.sv.one hx3 (fun v17 hxN hgp => ?_)
      have zv17 := hgp.size
      replace hs := hs.kept hgp (fun k hk => by cases hk; exact ⟨by have := hs.low; omega, by omega⟩)
      replace hx2 := hx2.kept hgp (by intro e; have := Option.some.inj e; omega)
      replace hm := hm.box hx3 (by decide) (by decide) hgp
      replace hx3 := hxN
      replace hg := gr_step hg hgp (fun k hk => by cases hk; omega)
      clear hgp
      refine go2 ?_
      exact ⟨x, _, _, rfl, rfl, rfl, hx3, hx2, hm.top, ⟨by omega, by omega⟩, ⟨by omega, by omega⟩, hy, hs, hg, by omega⟩
    refine go2 ?_
    refine cond_dec rfl (fun e3 => ?_) (fun e3 => ?_)
    · refine go2 ?_
      refine s_call2 (wn rfl) rfl rfl rfl (l02Spoil_any q B c bs 40 40 _ rfl (by omega) (by omega) hs) ?_
      rintro _ v18 ⟨x, xss, rfl, hm, hxl, hxr, hs', hgq⟩
      have zv18 := hgq.size
      replace hs := hs'
      replace hx2 := hx2.kept hgq (by intro e; have := Option.some.inj e; omega)
      replace hx3 := hx3.kept hgq (by intro e; have := Option.some.inj e; omega)
      replace hg := grownBy_trans hg hgq
      clear hgq
      replace hm := hm.mono (B' := w.heap.size) (by omega)
      refine go2 ?_
      refine s_storeBox (wn rfl) rfl rfl hm.sv.one hx2 (fun v19 hxz hgz => ?_)
      have hmz := hm.box hx2 (by decide) (by decide) hgz
      have hsz := hs.kept hgz (fun k hk => by cases hk; exact ⟨by have := hs.low; omega, by omega⟩)
      have hgz2 := gr_step hg hgz (fun k hk => by cases hk; omega)
      refine go2 ?_
      exact end_cell Tryz.results28 rfl hxz.cell ⟨x, _, rfl, hmz.top, hxl, hxr, hsz, hgz2⟩
    refine go2 ?_
    refine s_call2 (wn rfl) rfl rfl rfl (l01Next_any q 5 B c bs _ hs (by omega)) ?_
    rintro _ v20 ⟨a, rfl, ha0, ha, hs', hgq⟩
    have zv20 := hgq.size
    replace hs := hs'
    replace hx2 := hx2.kept hgq (by intro e; have := Option.some.inj e; omega)
    replace hx3 := hx3.kept hgq (by intro e; have := Option.some.inj e; omega)
    replace hg := grownBy_trans hg hgq
    clear hgq
    have ha' := ha (by omega)
    refine go2 ?_
    refine s_call1 (wn rfl) rfl rfl (l02Polygon_any (1 + a) (1 + a).toNat _ (by omega) (by omega) (by omega)) ?_
    rintro _ v21 ⟨x1, xs1, rfl, hm1, hxl1, hy1, hbq⟩
    have zv21 := hbq.size
    replace hs := hs.below hbq
    replace hx2 := hx2.below hbq
    replace hx3 := hx3.below hbq
    replace hg := gr_step hg (grownBy_of_below hbq none) (fun k hk => by cases hk)
    clear hbq
    refine go2 ?_
    refine s_buildI (B := w.heap.size) [1, 0] (wn rfl) rfl rfl rfl rfl (by omega) (fun tb v22 ht st hga _ => ?_)
    have hba := below_of_grownBy hga
    have zv22 := hba.size
    replace hs := hs.below hba
    replace hx2 := hx2.below hba
    replace hx3 := hx3.below hba
    replace hm1 := hm1.below hba
    replace hg := gr_step hg (grownBy_of_below hba none) (fun k hk => by cases hk)
    clear hba hga
    refine s_build1V (B := w.heap.size) (wn rfl) rfl rfl st.one (by omega) (fun eb v23 he se hga _ => ?_)
    have hba := below_of_grownBy hga
    have zv23 := hba.size
    replace hs := hs.below hba
    replace hx2 := hx2.below hba
    replace hx3 := hx3.below hba
    replace hm1 := hm1.below hba
    replace ht := ht.below hba
    replace hg := gr_step hg (grownBy_of_below hba none) (fun k hk => by cases hk)
    clear hba hga
    have hee : RL v23 eb [[1, 0]] := RL.one he ht.il
    have hey : Syst 2 [[1, 0]] := fun m hm => by simp at hm; subst hm; exact ⟨rfl, fun x hx => by simp at hx; omega⟩
    refine go2 ?_
    refine s_p (wn rfl) rfl (y_bld1 rfl se.one) ?_
    refine go2 ?_
    refine s_call2 (wn rfl) rfl rfl rfl (l02Beside_any _ _ _ [[1, 0]] (2 * (1 + a).toNat) 2 _ hm1.rl hee hy1 hey (by omega) (by simp) (by omega) (by omega) (by omega) (by omega) (by simp)) ?_
    rintro _ v24 ⟨x, xss, rfl, hm, hxl, hy, hbq⟩
    have zv24 := hbq.size
    replace hs := hs.below hbq
    replace hx2 := hx2.below hbq
    replace hx3 := hx3.below hbq
    replace hm1 := hm1.below hbq
    replace ht := ht.below hbq
    replace hg := gr_step hg (grownBy_of_below hbq none) (fun k hk => by cases hk)
    clear hbq
    have hxl3 : xss.length = 3 := by rw [hxl, hxl1]; rfl
    obtain ⟨hpm, hpn⟩ := PM.of hy (by omega) (by omega) (by omega) (by omega)
    refine go2 ?_
    refine s_call1 (wn rfl) rfl rfl (l05DualS_any _ _ _ hm.rl hpm) ?_
    rintro _ v25 ⟨y, rfl, hd, hbq⟩
    have zv25 := hbq.size
    replace hs := hs.below hbq
    replace hx2 := hx2.below hbq
    replace hx3 := hx3.below hbq
    replace hm1 := hm1.below hbq
    replace ht := ht.below hbq
    replace hm := hm.below hbq
    replace hg := gr_step hg (grownBy_of_below hbq none) (fun k hk => by cases hk)
    clear hbq
    have hlr := revw_len xss.length
    have hsr : Syst (nf xss) (wds xss (revw xss.length)) := wds_systS hpm (fun w h => revw_words w h)
    obtain ⟨K, hK1, hK2, hKs⟩ := frm_syst (p := 0) hsr (by have := hpm.f1; omega) (by have := hpm.f400; omega)
    have hKs : Syst K (repl xss (revw xss.length)) := hKs
    have hdl : (repl xss (revw xss.length)).length = 3 := by
      unfold repl wds; rw [frm_len, List.length_map, hlr, hxl3]
    have hf4 := hpm.f400
    replace hd := hd.mono (B' := w.heap.size) (by omega)
    refine go2 ?_
    refine s_storeBox (wn rfl) rfl rfl hd.sv.one hx3 (fun v26 hxN hgp => ?_)
    have zv26 := hgp.size
    replace hs := hs.kept hgp (fun k hk => by cases hk; exact ⟨by have := hs.low; omega, by omega⟩)
    replace hx2 := hx2.kept hgp (by intro e; have := Option.some.inj e; omega)
    replace hm1 := hm1.box hx3 (by decide) (by decide) hgp
    replace ht := ht.kept hgp (.inr (ht.own.apart_box hx3 (by decide)))
    replace hm := hm.box hx3 (by decide) (by decide) hgp
    replace hd := hd.box hx3 (by decide) (by decide) hgp
    replace hx3 := hxN
    replace hg := gr_step hg hgp (fun k hk => by cases hk; omega)
    clear hgp
    refine go2 ?_
    exact ⟨y, _, K, rfl, rfl, rfl, hx3, hx2, hd.top, ⟨by omega, by omega⟩, ⟨by omega, by omega⟩, hKs, hs, hg, by omega⟩
  clear hs hg hx2 hx3
  rintro r v27 ⟨x, xss, N, r0, r2, r3, hx3, hx2, hm, hxl, hN, hy, hs, hg, hl3⟩
  have zv27 := hg.size
  have hc3 := hx3.cell
  refine know (t := 0) r0 ?_; refine know (t := 2) r2 ?_; refine know (t := 3) r3 ?_
  refine go2 ?_
  refine region_hS (fun w' => w'.cell? p3 = some x) mixed (fun v28 cr => ?_)
  have zv28 := cr.size
  replace hs := hs.below cr
  replace hx3 := hx3.below cr
  replace hx2 := hx2.below cr
  replace hm := hm.below cr
  replace hc3 := cell_below hc3 cr
  replace hg := gr_step hg (grownBy_of_below cr none) (fun k hk => by cases hk)
  refine h_p 0 hc3 ?_ (hrun := fun w' h => yl)
  refine h_p 1 hc3 ?_ (hrun := fun w' h => yl)
  refine h_p 2 hc3 ?_ (hrun := fun w' h => yl)
  refine h_one 3 ?_
  refine s_call1 (wn rfl) rfl rfl (l02Flags_any _ _ _ hm.rl hxl.1) ?_
  rintro _ v29 ⟨rfl, hbq⟩
  have zv29 := hbq.size
  replace hs := hs.below hbq
  replace hx3 := hx3.below hbq
  replace hx2 := hx2.below hbq
  replace hm := hm.below hbq
  replace hc3 := cell_below hc3 hbq
  replace hg := gr_step hg (grownBy_of_below hbq none) (fun k hk => by cases hk)
  rw [hy.nf hxl.1]
  refine w_nil ?_
  refine h_on ⟨hc3, ?_⟩
  refine h_one 4 ?_
  refine s_call2 (wn rfl) rfl rfl rfl (l01Draw_any q B c bs (N : Int) N _ rfl (by omega) hs) ?_
  rintro pv v30 ⟨ps, hp, hpl, hpr, hs', hgq⟩
  have zv30 := hgq.size
  replace hs := hs'
  replace hx3 := hx3.kept hgq (by intro e; have := Option.some.inj e; omega)
  replace hx2 := hx2.kept hgq (by intro e; have := Option.some.inj e; omega)
  replace hm := hm.kept hgq (by omega)
  replace hc3 := cell_kept hc3 hgq (by intro e; have := Option.some.inj e; omega)
  replace hg := grownBy_trans hg hgq
  refine w_nil ?_
  refine h_on ⟨hc3, ?_⟩
  refine h_one 5 ?_
  refine s_call2 (wn rfl) rfl rfl rfl (l02RenumberS_any _ _ _ _ N _ hm.rl hp.il hy hxl.1 (by omega) (by omega) hpl (fun y h0 h2 => hpr _ (gi_mem h0 (by omega)))) ?_
  rintro _ v31 ⟨y, rfl, hd, hbq2⟩
  have zv31 := hbq2.size
  replace hs := hs.below hbq2
  replace hx3 := hx3.below hbq2
  replace hx2 := hx2.below hbq2
  replace hm := hm.below hbq2
  replace hc3 := cell_below hc3 hbq2
  replace hp := hp.below hbq2
  replace hg := gr_step hg (grownBy_of_below hbq2 none) (fun k hk => by cases hk)
  have hrs := hy.ren hpl hpr
  have hrl : (ren xss ps).length = xss.length := by simp [ren]
  replace hd := hd.mono (B' := w.heap.size) (by omega)
  refine w_nil ?_
  refine h_on ⟨hc3, ?_⟩
  refine h_one 6 ?_
  refine s_storeBox (wn rfl) rfl rfl hd.sv.one hx2 (fun v32 hxz hgz => ?_)
  have hmz := hd.box hx2 (by decide) (by decide) hgz
  have hsz := hs.kept hgz (fun k hk => by cases hk; exact ⟨by have := hs.low; omega, by omega⟩)
  have hgz2 := gr_step hg hgz (fun k hk => by cases hk; omega)
  have hx3z := hx3.kept hgz (by intro e; have := Option.some.inj e; omega)
  refine w_nil ?_
  refine h_on ⟨hx3z.cell, ?_⟩
  refine h_nil ?_
  refine go2 ?_
  exact end_cell Tryz.results28 rfl hxz.cell ⟨y, _, rfl, hmz.top, by omega, fun xs h => by have := (hrs xs h).1; omega, hsz, hgz2⟩

end Go.Proofs.YtablpijnjkncfaaGreat
