/- Contracts: moves replaced by words, on both sides. -/
import Derived.Test.YtablpijnjkncfaaGreatF30
import Derived.Test.YtablpijnjkncfaaGreatFF
import Derived.Test.YtablpijnjkncfaaGreatMn
namespace Go.Proofs.YtablpijnjkncfaaGreat
open Go.Mem Go.RowKit
set_option linter.unusedVariables false


theorem does_map {ms : List (List Int)} {wd : List Int} : (List.range (nf ms)).map (fun f : Nat => run ms wd f) = does ms wd (nf ms) := by
  refine list_ext_gi (by rw [length_does]; simp) fun x h0 hx => ?_
  have hx : x < nf ms := by simpa using hx
  rw [gi_range_map h0 hx, gi_does h0 hx, show ((x.toNat : Nat) : Int) = x by omega]
theorem wds_take {ms ws : List (List Int)} {i : Nat} (h : i < ws.length) : wds ms (ws.take (i + 1)) = wds ms (ws.take i) ++ [does ms (gr ws i) (nf ms)] := by
  unfold wds
  rw [List.take_succ_eq_append_getElem h, List.map_append]
  simp [gr, List.getD, h]

set_option maxHeartbeats 8000000 in
set_option maxRecDepth 100000 in
theorem l05Words_any (v : Value) (v2 : Value) (ms : List (List Int)) (ws : List (List Int)) (w : World) (hv : RL w v ms) (hv2 : RL w v2 ws) (hm : IsMan ms) (hw : ∀ x ∈ ws, IsWord ms x) (hwl : ws.length ≤ 1000) :
    Ret Tryz.prog 132 #[.agg #[v], v2] w fun r w' => OM w' w.heap.size w'.heap.size 32 2 r (wds ms ws) ∧ Below w.heap.size w w' := by
  have shv := hv.sv
  have shv2 := hv2.sv
  have hb := Below.refl w.heap.size w
  refine enter2 38 Tryz.func132 rfl Tryz.ntmps132 rfl (fun fr => ?_)
  have h1 := hm.m0.r1
  have h4 := hm.m0.f400
  refine go ?_
  refine s_box (wn rfl) rfl rfl (agg_cells shv) (fun w1 hbx _ hp hg => ?_)
  have hb1 := below_of_grownBy hg
  have sw1 := hb1.size
  replace hv := hv.below hb1
  replace hv2 := hv2.below hb1
  replace hb := hb.trans (hb1.mono hb.size)
  clear hg hp hb1
  generalize (⟨w.heap.size, 0, none⟩ : Addr) = p at *
  have sbs1 := hb.size
  have hv_b1 := hv
  have hv2_b1 := hv2
  have hbx_b1 := hbx
  have hbB1 := Below.refl w1.heap.size w1
  refine go ?_
  have szq2 := hbB1.size
  refine s_build (B := w1.heap.size) [] (wn rfl) rfl (by simp) (by decide) rfl (by simp) szq2 (fun ob w2 ho hg2 _ => ?_)
  have hb2 := below_of_grownBy hg2
  have sw2 := hb2.size
  replace hv := hv.below hb2
  replace hv2 := hv2.below hb2
  replace hbx := cell_below hbx hb2
  replace hbB1 := hbB1.trans (hb2.mono hbB1.size)
  replace ho := OM.empty (E := w2.heap.size) (U := 2) ho
  refine go ?_
  refine w_loop (fun kk fr w' => ∃ (i : Nat) (ob : Value), kk = ws.length - i ∧ i ≤ ws.length ∧ fr 1 = v2 ∧ fr 2 = .pointer (some p) ∧ fr 5 = ob ∧ fr 6 = .int .i64 i ∧ (OM w' w1.heap.size w'.heap.size 32 2 ob (wds ms (ws.take i))) ∧ Below w1.heap.size w1 w') (ws.length)
    ⟨0, ob, rfl, Nat.zero_le _, rfl, rfl, rfl, rfl, ho.top, hbB1⟩ ?_
  rintro kk fr w3 ⟨i, ob, rfl, hi, f1, f2, f5, f6, ho, hbB1⟩
  have sw3 := hbB1.size
  have hv := hv_b1.below hbB1
  have hv2 := hv2_b1.below hbB1
  have hbx := cell_below hbx_b1 hbB1
  have sho := ho.sv
  refine know (t := 1) f1 ?_; refine know (t := 2) f2 ?_; refine know (t := 5) f5 ?_; refine know (t := 6) f6 ?_
  refine go ?_
  refine cond_dec rfl (fun hlt => ?_) (fun hge => ?_)
  · replace ho := ho.top
    have hwi := hw _ (gr_in (xss := ws) (j := i) (by omega))
    have sbs2 := hbB1.size
    have hv_b2 := hv
    have hv2_b2 := hv2
    have hbx_b2 := hbx
    have ho_b2 := ho
    have hbB2 := Below.refl w3.heap.size w3
    obtain ⟨u, hu_b2, hcu_b2⟩ := hv2_b2.row (j := (i : Int)) (by omega) hlt
    have su := hu_b2.sv
    have hu := hu_b2.below hbB2
    have hcu := cell_below hcu_b2 hbB2
    refine go ?_
    have szq4 := hbB2.size
    refine s_build0 (B := w3.heap.size) (wn rfl) rfl szq4 (fun rb w4 hr so hg4 _ => ?_)
    have hb4 := below_of_grownBy hg4
    have sw4 := hb4.size
    replace hv := hv.below hb4
    replace hv2 := hv2.below hb4
    replace hbx := cell_below hbx hb4
    replace ho := ho.below hb4
    replace hu := hu.below hb4
    replace hcu := cell_below hcu hb4
    replace hbB2 := hbB2.trans (hb4.mono hbB2.size)
    refine go ?_
    refine w_loop (fun kk fr w' => ∃ (q : Nat) (rb : Value), kk = nf ms - q ∧ q ≤ nf ms ∧ fr 1 = v2 ∧ fr 2 = .pointer (some p) ∧ fr 5 = ob ∧ fr 6 = .int .i64 i ∧ fr 7 = rb ∧ fr 8 = .int .i64 q ∧ (OI w' w3.heap.size 2 rb ((List.range q).map fun f : Nat => run ms (gr ws i) f)) ∧ Below w3.heap.size w3 w') (nf ms)
      ⟨0, rb, rfl, Nat.zero_le _, rfl, rfl, rfl, rfl, rfl, rfl, hr, hbB2⟩ ?_
    rintro kk fr w5 ⟨q, rb, rfl, hq, f1, f2, f5, f6, f7, f8, hr, hbB2⟩
    have sw5 := hbB2.size
    have hv := hv_b2.below hbB2
    have hv2 := hv2_b2.below hbB2
    have hbx := cell_below hbx_b2 hbB2
    have ho := ho_b2.below hbB2
    have hu := hu_b2.below hbB2
    have hcu := cell_below hcu_b2 hbB2
    have shr := hr.sv
    refine know (t := 1) f1 ?_; refine know (t := 2) f2 ?_; refine know (t := 5) f5 ?_; refine know (t := 6) f6 ?_; refine know (t := 7) f7 ?_; refine know (t := 8) f8 ?_
    refine go ?_
    refine s_call1 (wn rfl) rfl rfl (l02Flags_any _ _ _ hv h1) ?_
    rintro _ w6 ⟨rfl, hb6⟩
    have sw6 := hb6.size
    replace hv := hv.below hb6
    replace hv2 := hv2.below hb6
    replace hbx := cell_below hbx hb6
    replace ho := ho.below hb6
    replace hu := hu.below hb6
    replace hcu := cell_below hcu hb6
    replace hr := hr.below hb6
    replace hbB2 := hbB2.trans (hb6.mono hbB2.size)
    refine go ?_
    refine cond_dec rfl (fun hlt2 => ?_) (fun hge2 => ?_)
    · refine go ?_
      refine region_hS (fun w' => Below w3.heap.size w3 w') mixed (fun w7 hb7 => ?_)
      have sw7 := hb7.size
      replace hv := hv.below hb7
      replace hv2 := hv2.below hb7
      replace hbx := cell_below hbx hb7
      replace ho := ho.below hb7
      replace hu := hu.below hb7
      replace hcu := cell_below hcu hb7
      replace hr := hr.below hb7
      replace hbB2 := hbB2.trans (hb7.mono hbB2.size)
      refine h_p 0 hbB2 ?_
      refine h_p 1 hbB2 ?_
      refine h_p 2 hbB2 ?_
      refine h_p 3 hbB2 ?_
      refine h_p 4 hbB2 ?_
      refine h_p 5 hbB2 ?_
      refine h_p 6 hbB2 ?_
      refine h_one 7 ?_
      refine s_call3 (wn rfl) rfl rfl rfl rfl (l02Run_any _ _ _ (q : Int) _ _ hv hu hm hwi (by omega)) ?_
      rintro _ w8 ⟨rfl, hb8⟩
      have sw8 := hb8.size
      replace hv := hv.below hb8
      replace hv2 := hv2.below hb8
      replace hbx := cell_below hbx hb8
      replace ho := ho.below hb8
      replace hu := hu.below hb8
      replace hcu := cell_below hcu hb8
      replace hr := hr.below hb8
      replace hbB2 := hbB2.trans (hb8.mono hbB2.size)
      refine w_nil ?_
      refine h_on ⟨hbB2, ?_⟩
      refine h_one 8 ?_
      have szq9 := hbB2.size
      refine s_build1 (B := w3.heap.size) (wn rfl) rfl rfl szq9 (fun tb w9 ht st hg9 _ => ?_)
      have hb9 := below_of_grownBy hg9
      have sw9 := hb9.size
      replace hv := hv.below hb9
      replace hv2 := hv2.below hb9
      replace hbx := cell_below hbx hb9
      replace ho := ho.below hb9
      replace hu := hu.below hb9
      replace hcu := cell_below hcu hb9
      replace hr := hr.below hb9
      replace hbB2 := hbB2.trans (hb9.mono hbB2.size)
      have szq10 := hbB2.size
      refine w_nil ?_
      refine h_on ⟨hbB2, ?_⟩
      refine h_one 9 ?_
      refine s_appendI (wn rfl) rfl rfl rfl hr ht.il (by simp; omega) szq10 (fun rb' w10 hoN so hgN _ => ?_)
      replace hbB2 := hbB2.trans (hr.below_of hgN szq10)
      have sw10 := hgN.size
      replace hr := hoN
      clear hoN
      replace hv := hv_b2.below hbB2
      replace hv2 := hv2_b2.below hbB2
      replace hbx := cell_below hbx_b2 hbB2
      replace ho := ho_b2.below hbB2
      replace hu := hu_b2.below hbB2
      replace hcu := cell_below hcu_b2 hbB2
      refine w_nil ?_
      refine h_on ⟨hbB2, ?_⟩
      refine h_p 10 hbB2 ?_
      refine h_nil ?_
      refine go ?_
      refine ⟨nf ms - (q + 1), by omega, q + 1, rb', rfl, by omega, rfl, rfl, rfl, rfl, rfl, rfl, by simpa [List.range_succ] using hr, hbB2⟩
    obtain rfl : q = nf ms := by omega
    replace hbB1 := hbB1.trans (hbB2.mono hbB1.size)
    rw [does_map] at hr
    refine go ?_
    have szq11 := hbB1.size
    refine s_build1V (B := w1.heap.size) (wn rfl) rfl rfl hr.sv.one szq11 (fun tb w11 ht st hg11 _ => ?_)
    have hb11 := below_of_grownBy hg11
    have sw11 := hb11.size
    replace hv := hv.below hb11
    replace hv2 := hv2.below hb11
    replace hbx := cell_below hbx hb11
    replace ho := ho.below hb11
    replace hu := hu.below hb11
    replace hcu := cell_below hcu hb11
    replace hr := hr.below hb11
    replace hbB1 := hbB1.trans (hb11.mono hbB1.size)
    have szq12 := hbB1.size
    refine s_appendM (wn rfl) rfl rfl rfl ho ht.rd hr (by omega) (by decide) (by simp [wds]; omega) szq12 (fun ob' w12 hoN so hgN => ?_)
    replace hbB1 := hbB1.trans (ho.below_of hgN szq12)
    have sw12 := hgN.size
    replace ho := hoN
    clear hoN
    replace hv := hv_b1.below hbB1
    replace hv2 := hv2_b1.below hbB1
    replace hbx := cell_below hbx_b1 hbB1
    refine go ?_
    refine ⟨ws.length - (i + 1), by omega, i + 1, ob', rfl, by omega, rfl, rfl, rfl, rfl, by rw [wds_take (by omega)]; exact ho, hbB1⟩
  obtain rfl : i = ws.length := by omega
  rw [List.take_length] at ho
  refine go ?_
  exact end_one Tryz.results132 rfl ⟨(ho.mono (by omega)).top, (hb.trans (hbB1.mono hb.size))⟩

end Go.Proofs.YtablpijnjkncfaaGreat
