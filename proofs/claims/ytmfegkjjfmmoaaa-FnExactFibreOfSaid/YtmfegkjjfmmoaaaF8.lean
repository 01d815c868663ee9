/- Contracts: the program's maps that agree with the moves. -/
import Derived.Test.YtmfegkjjfmmoaaaF7
namespace Go.Proofs.Ytmfegkjjfmmoaaa
open Go.Mem Go.RowKit

theorem gi_drop {r : List Int} {i : Nat} : gi (r.drop i) 0 = gi r i := by simp [gi, List.getD, List.getElem?_drop]
set_option maxHeartbeats 8000000 in
theorem coveringTo_any (v v2 : Value) (ms ks : List (List Int)) (flag : Int) (w : World) (hv : RL w v ms) (hv2 : RL w v2 ks) (hm : IsMan ms) (hk : IsMan ks) (hf : 0 ≤ flag ∧ flag < nf ks) :
    Ret Try.prog 65 #[.agg #[v], .agg #[v2], .int .i64 flag] w fun r w' => MapR w' w.heap.size 2 r (mapT ms ks flag) ∧ Below w.heap.size w w' := by
  have sv := hv.sv
  have sv2 := hv2.sv
  have hr1 := hm.m0.r1
  have hr5 := hm.m0.r5
  have hf2 := hm.m0.f2
  have hf4 := hm.m0.f400
  refine enter3 78 Try.func65 rfl Try.ntmps65 rfl (fun fr => ?_)
  refine go ?_
  refine s_box (wn rfl) rfl rfl (agg_cells sv) (fun w1 hbx _ hp1 hg => ?_)
  have hb := below_of_grownBy hg
  have hv := hv.below hb
  have hv2 := hv2.below hb
  generalize hpe : (⟨w.heap.size, 0, none⟩ : Addr) = p at *
  refine s_box (wn rfl) rfl rfl (agg_cells sv2) (fun w2 hbx2 _ hp2 hg2 => ?_)
  have hb2 := below_of_grownBy hg2
  have hbx := cell_below hbx hb2
  have hv := hv.below hb2
  have hv2 := hv2.below hb2
  have hb := hb.trans (hb2.mono hb.size)
  clear hb2 hg hg2 hp1 hp2
  generalize (⟨w1.heap.size, 0, none⟩ : Addr) = p2 at *
  refine go ?_
  refine s_call1 (wn rfl) rfl rfl (rank_any _ _ _ _ hbx sv) ?_
  rintro _ _ ⟨rfl, rfl⟩
  refine s_call1 (wn rfl) rfl rfl (rank_any _ _ _ _ hbx2 sv2) ?_
  rintro _ _ ⟨rfl, rfl⟩
  refine split (p := (ms.length : Int) ≠ ks.length) (fun hne => ?_) (fun hl => ?_)
  · refine go ?_
    exact end_one Try.results65 rfl ⟨by unfold mapT; rw [if_neg (by omega)]; rfl, hb⟩
  have hl' : ms.length = ks.length := by omega
  unfold mapT
  rw [if_pos hl']
  refine go ?_
  refine s_build1 (B := w2.heap.size) (wn rfl) rfl rfl (Nat.le_refl _) (fun tb w3 ht st hg3 _ => ?_)
  have hb3 := below_of_grownBy hg3
  refine s_call1 (wn rfl) rfl rfl (flags_any _ _ _ _ (cell_below hbx hb3) (hv.below hb3) hr1) ?_
  rintro _ _ ⟨rfl, rfl⟩
  refine s_call2 (wn rfl) rfl rfl rfl (Repeat_one _ _ _ _ ht.il (by omega)) ?_
  rintro ob w5 ⟨ho, hb5⟩
  have ho := ho.mono hb3.size
  have hb25 := hb3.trans (hb5.mono hb3.size)
  have hnn : ((nf ms : Nat) : Int).toNat = nf ms := by omega
  rw [hnn] at ho
  have so : SV ob (nf ms) := by simpa using ho.sv
  refine go ?_
  refine s_storeI (j := 0) (wn rfl) rfl rfl ho (by omega) (by simp; omega) (fun w6 ho6 hg6 => ?_)
  have hb26 := hb25.trans (ho.below_of hg6 hb25.size)
  have hlow : ∀ g, ob.ownBlock = some g → g < w6.heap.size := fun g hg => (ho6.lt g hg).2
  refine go ?_
  refine s_build1 (B := w6.heap.size) (wn rfl) rfl rfl (Nat.le_refl _) (fun rb w7 hr sr hg7 _ => ?_)
  have hb7 := below_of_grownBy hg7
  have ho7 := ho6.below hb7
  have hb27 := hb26.trans (hb7.mono hb26.size)
  have h67 := hg7.size
  refine go ?_
  refine w_loop (fun k fr w' => ∃ (i : Nat) (o r : List Int) (rb : Value), k = nf ms - i ∧ mbfs ms ks flag i = some (o, r) ∧ i ≤ r.length ∧ fr 3 = .pointer (some p) ∧ fr 4 = .pointer (some p2) ∧ fr 7 = ob ∧ fr 8 = rb ∧
      OI w' w2.heap.size 2 ob o ∧ OI w' w6.heap.size 2 rb (r.drop i) ∧ Mp (nf ms) (nf ks) o r ∧ Below w2.heap.size w2 w' ∧ w6.heap.size ≤ w'.heap.size) (nf ms)
    ⟨0, _, _, rb, rfl, rfl, Nat.zero_le _, rfl, rfl, rfl, rfl, ho7, hr, Mp.start (by omega) hf, hb27, h67⟩ ?_
  rintro k fr w8 ⟨i, o, r, rb, rfl, hmb, hi, f3, f4, f7, f8, ho, hr, hM, hb8, h68⟩
  have sr := hr.sv
  have so := ho.sv
  have hle := hM.le
  have hdl : (r.drop i).length = r.length - i := by simp
  refine know (t := 3) f3 ?_; refine know (t := 4) f4 ?_; refine know (t := 7) f7 ?_; refine know (t := 8) f8 ?_
  refine go ?_
  refine cond_dec rfl (fun hlt => ?_) (fun hge => ?_)
  · have hx := hM.rr _ (gi_in (xs := r) (j := i) (by omega))
    have hsucc := mbfs_succ hmb (by omega)
    have hbx8 := cell_below hbx hb8
    refine go ?_
    rw [gi_drop]
    refine w_loop (fun k fr w' => ∃ (j : Nat) (o' r' : List Int) (rb : Value), k = ms.length - j ∧ j ≤ ms.length ∧ fr 3 = .pointer (some p) ∧ fr 4 = .pointer (some p2) ∧ fr 7 = ob ∧ fr 8 = rb ∧ fr 9 = .int .i64 (gi r i) ∧ fr 33 = v ∧ fr 34 = .int .i64 ms.length ∧ fr 35 = .int .i64 j ∧
        OI w' w2.heap.size 2 ob o' ∧ OI w' w6.heap.size 2 rb (r'.drop i) ∧ Mp (nf ms) (nf ks) o' r' ∧ Row ms ks o r (gi r i) j o' r' ∧ Below w2.heap.size w2 w' ∧ w6.heap.size ≤ w'.heap.size) ms.length
      ⟨0, o, r, rb, rfl, Nat.zero_le _, rfl, rfl, rfl, rfl, rfl, rfl, rfl, rfl, ho, hr, hM, Row.start _ _ _ _ _, hb8, h68⟩ ?_
    clear ho hr hb8 h68 sr so
    rintro k fr w9 ⟨j, o', r', rb, rfl, hj, f3, f4, f7, f8, f9, f33, f34, f35, ho, hr, hM', hR, hb9, h69⟩
    have so := ho.sv
    have sr := hr.sv
    have hle' := hM'.le
    have hlen := hM'.len
    have hbx9 := cell_below hbx hb9
    have hbx29 := cell_below hbx2 hb9
    have hv9 := hv.below hb9
    have hv29 := hv2.below hb9
    have hsame := hR.same
    have hrngf := hM'.rng (gi r i) hx.1 hx.2.1
    have hf0 : 0 ≤ gi o' (gi r i) := by rw [hsame]; exact hx.2.2
    have hil : i < r'.length := by obtain ⟨e, he⟩ := hR.pre; rw [he]; simp; omega
    have hdl' : (r'.drop i).length = r'.length - i := by simp
    refine know (t := 3) f3 ?_; refine know (t := 4) f4 ?_; refine know (t := 7) f7 ?_; refine know (t := 8) f8 ?_; refine know (t := 9) f9 ?_; refine know (t := 33) f33 ?_; refine know (t := 34) f34 ?_; refine know (t := 35) f35 ?_
    refine go ?_
    refine cond_dec rfl (fun hlt2 => ?_) (fun hge2 => ?_)
    · refine go ?_
      refine s_ldR (wn rfl) rfl rfl hv9 (by omega) (by omega) (fun u hu su => ?_)
      obtain ⟨u2, hu2, hc2⟩ := hv29.row (j := j) (by omega) (by omega)
      have su2 := hu2.sv
      have hrow := hm.syst.row (j := j) (by omega) hlt2
      have hrow2 := hk.syst.row (j := j) (by omega) (by omega)
      have hl1 := hrow.1
      have hl2 := hrow2.1
      have hy := hm.syst.at (j := j) (by omega) hlt2 ⟨hx.1, hx.2.1⟩
      have hz := hk.syst.at (j := j) (x := gi o' (gi r i)) (by omega) (by omega) ⟨hf0, hrngf.2⟩
      refine go ?_
      refine region_q mixed (by kernel_rfl) ?_; refine qo ?_; refine q_nil ?_
      intro w10 hb10
      have ho := ho.below hb10
      have hr := hr.below hb10
      have hb210 := hb9.trans (hb10.mono hb9.size)
      have h610 : w6.heap.size ≤ w10.heap.size := Nat.le_trans h69 hb10.size
      refine go ?_
      refine cond_dec rfl (fun hn => ?_) (fun hn => ?_)
      · have hR' := hR.push (by omega) hx.1 hx.2.2 ⟨hy.1, by omega⟩ hn
        have hM2 := hM'.push hy hz hn
        have hle2 := hM2.le
        refine go ?_
        refine s_storeI (wn rfl) rfl rfl ho (by omega) (by omega) (fun w11 ho11 hg11 => ?_)
        have hr11 := hr.kept hg11 (hr.apart_high hlow)
        have hb211 := hb210.trans (ho.below_of hg11 hb210.size)
        have h611 := hg11.size
        refine go ?_
        refine s_build1 (B := w2.heap.size) (wn rfl) rfl rfl hb211.size (fun tb w12 ht st hg12 _ => ?_)
        have hb12 := below_of_grownBy hg12
        have hr12 := hr11.below hb12
        have ho12 := ho11.below hb12
        have h612 := hg12.size
        have hb212 := hb211.trans (hb12.mono hb211.size)
        refine s_appendI (wn rfl) rfl rfl rfl hr12 ht.il (by simp; omega) (by omega) (fun rb' w13 hr13 sr13 hg13 _ => ?_)
        have ho13 := ho12.kept hg13 (hr12.apart_low hlow)
        have hb213 := hb212.trans ((hr12.mono hb26.size).below_of hg13 hb212.size)
        have h613 := hg13.size
        have hda : r'.drop i ++ [gi (gr ms j) (gi r i)] = (r' ++ [gi (gr ms j) (gi r i)]).drop i := by rw [List.drop_append_of_le_length (by omega)]
        rw [hda] at hr13
        refine go ?_
        exact ⟨ms.length - (j + 1), by omega, j + 1, _, _, rb', rfl, by omega, rfl, rfl, rfl, rfl, rfl, rfl, rfl, rfl, ho13, hr13, hM2, hR', hb213, by omega⟩
      · refine go ?_
        refine cond_dec rfl (fun he => ?_) (fun he => ?_)
        · have hno := mapTo_none (by rw [hsucc, hR.fail (by omega) hn he]) (by omega : i + 1 ≤ 1000)
          refine go ?_
          exact end_one Try.results65 rfl ⟨by rw [hno]; rfl, hb.trans (hb210.mono hb.size)⟩
        · refine go ?_
          exact ⟨ms.length - (j + 1), by omega, j + 1, _, _, rb, rfl, by omega, rfl, rfl, rfl, rfl, rfl, rfl, rfl, rfl, ho, hr, hM', hR.hit (by omega) hn he, hb210, h610⟩
    · obtain rfl : j = ms.length := by omega
      have hdone := hsucc.trans hR.done
      obtain ⟨e, he⟩ := hR.pre
      refine go ?_
      have h1n : ((1 : Int)).toNat = 1 := rfl
      have hcut : OI w9 w6.heap.size 2 (cut rb (1 : Int).toNat (r'.drop i).length) (r'.drop (i + 1)) := by
        have := hr.cut (l := 1) (r := (r'.drop i).length) (by omega) (Nat.le_refl _)
        rw [List.take_length, List.drop_drop] at this
        exact this
      exact ⟨nf ms - (i + 1), by omega, i + 1, o', r', _, rfl, hdone, by omega, rfl, rfl, rfl, rfl, ho, hcut, hM', hb9, h69⟩
  · have hsome := mapTo_some hmb (by omega) (by omega : i ≤ 1000)
    have hlen := hM.len
    refine go ?_
    refine end_one Try.results65 rfl ⟨by rw [hsome]; exact ⟨ho.mono hb.size, by intro e; subst e; simp at hlen; omega⟩, hb.trans (hb8.mono hb.size)⟩
end Go.Proofs.Ytmfegkjjfmmoaaa
