/- Contracts: colourings, on both sides. -/
import Derived.Test.YtmdimdbfgibflaaFA
import Derived.Test.YtmdimdbfgibflaaPD
import Derived.Test.YtmdimdbfgibflaaWB
namespace Go.Proofs.Ytmdimdbfgibflaa
open Go.Mem Go.RowKit
set_option linter.unusedVariables false

theorem colouring1_any (x : Value) (w : World) : Ret Try.prog 139 #[x] w fun r w' => r = .bool true ∧ w = w' := by
  refine enter1 3 Try.func139 rfl Try.ntmps139 rfl (fun fr => ?_)
  refine go ?_
  exact end_one Try.results139 rfl ⟨rfl, rfl⟩

set_option maxRecDepth 100000 in
set_option maxHeartbeats 8000000 in
theorem coloured_any (pv : Addr) (v : Value) (ms : List (List Int)) (w : World) (hv : RL w v ms) (hx : w.cell? pv = some v) (hm : IsMan ms) :
    Ret Try.prog 138 #[.pointer (some pv), .func (.func 139) #[] #[]] w fun r w' => ∃ lb L, r = .tuple #[lb, .bool (decide (Ori ms))] ∧ OI w' w.heap.size 2 lb L ∧ Below w.heap.size w w' := by
  have sv := hv.sv
  have hr1 := hm.m0.r1
  have hr5 := hm.m0.r5
  have hf2 := hm.m0.f2
  have hf4 := hm.m0.f400
  refine enter2 76 Try.func138 rfl Try.ntmps138 rfl (fun fr => ?_)
  refine go ?_
  refine s_build1 (B := w.heap.size) (wn rfl) rfl rfl (Nat.le_refl _) (fun tb w3 ht st hg3 _ => ?_)
  have hb3 := below_of_grownBy hg3
  refine go ?_
  refine s_call1 (wn rfl) rfl rfl (flags_any _ _ _ _ (cell_below hx hb3) (hv.below hb3) hr1) ?_
  rintro _ _ ⟨rfl, rfl⟩
  refine go ?_
  refine s_call2 (wn rfl) rfl rfl rfl (Repeat_one _ _ _ _ ht.il (by omega)) ?_
  rintro ob w5 ⟨ho, hb5⟩
  have ho := ho.mono hb3.size
  have hb25 := hb3.trans (hb5.mono hb3.size)
  have hnn : ((nf ms : Nat) : Int).toNat = nf ms := by omega
  rw [hnn] at ho
  have so : SV ob (nf ms) := by simpa using ho.sv
  refine go ?_
  refine s_storeI (j := 0) (wn rfl) rfl rfl ho (by omega) (by simp; omega) (fun w6 ho6 hg6 => ?_)
  have hb26 := hb25.trans (ho.below_of hg6 hb25.size)
  have hlow : ∀ g, ob.ownBlock = some g → g < w6.heap.size := fun g hg => (ho6.lt g hg).2
  refine go ?_
  refine s_build1 (B := w6.heap.size) (wn rfl) rfl rfl (Nat.le_refl _) (fun rb w7 hr sr hg7 _ => ?_)
  have hb7 := below_of_grownBy hg7
  have ho7 := ho6.below hb7
  have hb27 := hb26.trans (hb7.mono hb26.size)
  have h67 := hg7.size
  refine go ?_
  refine w_loop (fun k fr w' => ∃ (i : Nat) (o r : List Int) (rb : Value) (ok : Bool), k = nf ms - i ∧ i ≤ r.length ∧ fr 0 = .pointer (some pv) ∧ fr 1 = .func (.func 139) #[] #[] ∧ fr 6 = ob ∧ fr 7 = .bool ok ∧ fr 8 = rb ∧
      OI w' w.heap.size 2 ob o ∧ OI w' w6.heap.size 2 rb (r.drop i) ∧ Bf ms 1000 (fun a b => ok = true → b = 1 - a) (ColS ms) o r i 0 ∧ (∀ c, Valid ms c → ok = true) ∧ Below w.heap.size w w' ∧ w6.heap.size ≤ w'.heap.size) (nf ms)
    ⟨0, _, _, rb, true, rfl, Nat.zero_le _, rfl, rfl, rfl, rfl, rfl, ho7, hr, Bf.start hm (by omega) (by omega) (ColS.zero ms), fun _ _ => rfl, hb27, h67⟩ ?_
  rintro k fr w8 ⟨i, o, r, rb, ok, rfl, hi, f0, f1, f6, f7, f8, ho, hr, hB, hok, hb8, h68⟩
  have sr := hr.sv
  have so := ho.sv
  have hle := hB.mp.le
  have hdl : (r.drop i).length = r.length - i := by simp
  refine know (t := 0) f0 ?_; refine know (t := 1) f1 ?_; refine know (t := 6) f6 ?_; refine know (t := 7) f7 ?_; refine know (t := 8) f8 ?_
  refine go ?_
  refine cond_dec rfl (fun hlt => ?_) (fun hge => ?_)
  · have hxr := hB.at (by omega)
    have hbx8 := cell_below hx hb8
    refine go ?_
    rw [gi_drop]
    refine w_loop (fun k fr w' => ∃ (j : Nat) (o' r' : List Int) (rb : Value) (ok : Bool), k = ms.length - j ∧ j ≤ ms.length ∧ fr 0 = .pointer (some pv) ∧ fr 1 = .func (.func 139) #[] #[] ∧ fr 6 = ob ∧ fr 7 = .bool ok ∧ fr 8 = rb ∧ fr 9 = .int .i64 (gi r i) ∧ fr 32 = v ∧ fr 33 = .int .i64 ms.length ∧ fr 34 = .int .i64 j ∧
        OI w' w.heap.size 2 ob o' ∧ OI w' w6.heap.size 2 rb (r'.drop i) ∧ i < r'.length ∧ gi r' i = gi r i ∧ Bf ms 1000 (fun a b => ok = true → b = 1 - a) (ColS ms) o' r' i j ∧ (∀ c, Valid ms c → ok = true) ∧ Below w.heap.size w w' ∧ w6.heap.size ≤ w'.heap.size) ms.length
      ⟨0, o, r, rb, ok, rfl, Nat.zero_le _, rfl, rfl, rfl, rfl, rfl, rfl, rfl, rfl, rfl, ho, hr, by omega, rfl, hB, hok, hb8, h68⟩ ?_
    clear ho hr hb8 h68 sr so hB hok hbx8
    rintro k fr w9 ⟨j, o', r', rb, ok, rfl, hj, f0, f1, f6, f7, f8, f9, f32, f33, f34, ho, hr, hil, hri, hB, hok, hb9, h69⟩
    have so := ho.sv
    have sr := hr.sv
    have hle' := hB.mp.le
    have hlen := hB.mp.len
    have hbx9 := cell_below hx hb9
    have hv9 := hv.below hb9
    have hxr := hB.at hil
    have hcol := hB.snd _ hxr.2.2.2
    have hdl' : (r'.drop i).length = r'.length - i := by simp
    rw [hri] at hxr hcol
    have hc01 := hcol.1
    refine know (t := 0) f0 ?_; refine know (t := 1) f1 ?_; refine know (t := 6) f6 ?_; refine know (t := 7) f7 ?_; refine know (t := 8) f8 ?_; refine know (t := 9) f9 ?_; refine know (t := 32) f32 ?_; refine know (t := 33) f33 ?_; refine know (t := 34) f34 ?_
    refine go ?_
    refine cond_dec rfl (fun hlt2 => ?_) (fun hge2 => ?_)
    · obtain ⟨u, hu, hc⟩ := hv9.row (j := j) (by omega) hlt2
      have su := hu.sv
      have hl1 := (hm.syst.row (j := j) (by omega) hlt2).1
      have hy := hm.syst.at (j := j) (by omega) hlt2 ⟨hxr.1, hxr.2.1⟩
      have hyy : gi (gr ms j) (gi r i) = gi (gr ms j) (gi r' i) := by rw [hri]
      refine go ?_
      refine s_callV1 (wn rfl) rfl rfl rfl (colouring1_any _ _) ?_
      rintro _ _ ⟨rfl, rfl⟩
      refine go ?_
      refine cond_dec rfl (fun hn => ?_) (fun hn => ?_)
      · have hB' := hB.push hm hil (by omega) hyy hn (b := 1 - gi o' (gi r i)) (by omega) (by omega) (fun h0 => hcol.turn (by omega) ⟨hxr.1, hxr.2.1⟩ rfl h0) (fun _ => by rw [hri])
        have hle2 := hB'.mp.le
        refine go ?_
        refine s_storeI (wn rfl) rfl rfl ho (by omega) (by omega) (fun w11 ho11 hg11 => ?_)
        have hr11 := hr.kept hg11 (hr.apart_high hlow)
        have hb211 := hb9.trans (ho.below_of hg11 hb9.size)
        have h611 := hg11.size
        refine go ?_
        refine s_build1 (B := w.heap.size) (wn rfl) rfl rfl hb211.size (fun tb w12 ht st hg12 _ => ?_)
        have hb12 := below_of_grownBy hg12
        have hr12 := hr11.below hb12
        have ho12 := ho11.below hb12
        have h612 := hg12.size
        have hb212 := hb211.trans (hb12.mono hb211.size)
        refine s_appendI (wn rfl) rfl rfl rfl hr12 ht.il (by simp; omega) (by omega) (fun rb' w13 hr13 sr13 hg13 _ => ?_)
        have ho13 := ho12.kept hg13 (hr12.apart_low hlow)
        have hb213 := hb212.trans ((hr12.mono hb26.size).below_of hg13 hb212.size)
        have h613 := hg13.size
        have hda : r'.drop i ++ [gi (gr ms j) (gi r i)] = (r' ++ [gi (gr ms j) (gi r i)]).drop i := by rw [List.drop_append_of_le_length (by omega)]
        rw [hda] at hr13
        refine go ?_
        exact ⟨ms.length - (j + 1), by omega, j + 1, _, _, rb', ok, rfl, by omega, rfl, rfl, rfl, rfl, rfl, rfl, rfl, rfl, rfl, ho13, hr13, by simp; omega, by rw [gi_append_left (by omega) (by omega)]; exact hri, hB', hok, hb213, by omega⟩
      · refine go ?_
        refine cond_dec rfl (fun he => ?_) (fun he => ?_)
        · refine go ?_
          have hno : ∀ c, ¬ Valid ms c := fun c hc => he (by
            have hyr : gi (gr ms j) (gi r i) ∈ r' := hB.mem _ hy.1 hy.2 (by omega)
            rw [(hB.snd _ hyr).2.2 c hc, hc.turn j (by omega) _ hxr.1 hxr.2.1, hcol.2.2 c hc])
          have hB2 := (hB.weaken (E' := fun a b => false = true → b = 1 - a) (fun a b _ h => absurd h (by decide))).hit hyy hn (fun h => absurd h (by decide))
          exact ⟨ms.length - (j + 1), by omega, j + 1, _, _, rb, false, rfl, by omega, rfl, rfl, rfl, rfl, rfl, rfl, rfl, rfl, rfl, ho, hr, hil, hri, hB2, fun c hc => absurd hc (hno c), hb9, h69⟩
        · refine go ?_
          have he' : gi o' (gi (gr ms j) (gi r i)) = 1 - gi o' (gi r i) := Classical.byContradiction he
          exact ⟨ms.length - (j + 1), by omega, j + 1, _, _, rb, ok, rfl, by omega, rfl, rfl, rfl, rfl, rfl, rfl, rfl, rfl, rfl, ho, hr, hil, hri, hB.hit hyy hn (fun _ => by rw [hri]; exact he'), hok, hb9, h69⟩
    · obtain rfl : j = ms.length := by omega
      refine go ?_
      have h1n : ((1 : Int)).toNat = 1 := rfl
      have hcut : OI w9 w6.heap.size 2 (cut rb (1 : Int).toNat (r'.drop i).length) (r'.drop (i + 1)) := by
        have := hr.cut (l := 1) (r := (r'.drop i).length) (by omega) (Nat.le_refl _)
        rw [List.take_length, List.drop_drop] at this
        exact this
      exact ⟨nf ms - (i + 1), by omega, i + 1, o', r', _, ok, rfl, by omega, rfl, rfl, rfl, rfl, rfl, ho, hcut, hB.next, hok, hb9, h69⟩
  · have hdec : decide (Ori ms) = ok := by
      cases ok with
      | true =>
        refine decide_eq_true ⟨o, fun x h0 hx => (hB.snd x (hB.full hm (by omega) h0 hx)).1, (hB.snd 0 hB.z).2.1 rfl, fun q hq x h0 hx => hB.rel hm (by omega) h0 hx hq rfl⟩
      | false => exact decide_eq_false fun ⟨c, hc⟩ => absurd (hok c hc) (by decide)
    refine go ?_
    exact end_two Try.results138 rfl rfl ⟨_, _, by rw [hdec], ho, hb8⟩

theorem colouring_any (pv : Addr) (v : Value) (ms : List (List Int)) (w : World) (hv : RL w v ms) (hx : w.cell? pv = some v) (hm : IsMan ms) :
    Ret Try.prog 84 #[.pointer (some pv)] w fun r w' => ∃ lb L, r = .tuple #[lb, .bool (decide (Ori ms))] ∧ OI w' w.heap.size 2 lb L ∧ Below w.heap.size w w' := by
  refine enter1 8 Try.func84 rfl Try.ntmps84 rfl (fun fr => ?_)
  refine go ?_
  refine s_call2 (wn rfl) rfl rfl rfl (coloured_any _ _ _ _ hv hx hm) ?_
  rintro _ w1 ⟨lb, L, rfl, ho, hb⟩
  refine go ?_
  exact end_two Try.results84 rfl rfl ⟨_, _, rfl, ho, hb⟩

set_option maxRecDepth 100000 in
set_option maxHeartbeats 8000000 in
theorem l02Distances_any (v : Value) (ms : List (List Int)) (w : World) (hv : RL w v ms) (hm : IsMan ms) :
    Ret Try.prog 140 #[.agg #[v], .int .i64 0] w fun r w' => ∃ D : List Int, OI w' w.heap.size 2 r D ∧ D.length = nf ms ∧ (∀ x : Int, 0 ≤ x → x < nf ms → 0 ≤ gi D x ∧ gi D x ≤ 1000) ∧ gi D 0 = 0 ∧
      (∀ c, Valid ms c → ∀ x : Int, 0 ≤ x → x < nf ms → gi D x % 2 = gi c x) ∧ Below w.heap.size w w' := by
  have sv := hv.sv
  have hr1 := hm.m0.r1
  have hr5 := hm.m0.r5
  have hf2 := hm.m0.f2
  have hf4 := hm.m0.f400
  refine enter2 71 Try.func140 rfl Try.ntmps140 rfl (fun fr => ?_)
  refine go ?_
  refine s_box (wn rfl) rfl rfl (agg_cells sv) (fun w2 hbx _ hp1 hg => ?_)
  have hb := below_of_grownBy hg
  have hv := hv.below hb
  generalize hpe : (⟨w.heap.size, 0, none⟩ : Addr) = p at *
  refine go ?_
  refine s_build0 (B := w2.heap.size) (wn rfl) rfl (Nat.le_refl _) (fun ob w3 ho so hg3 _ => ?_)
  have hb3 := below_of_grownBy hg3
  have hbw := hb.trans (hb3.mono hb.size)
  refine go ?_
  refine w_loop (fun k fr w' => ∃ (i : Nat) (ob : Value), k = nf ms - i ∧ i ≤ nf ms ∧ fr 1 = .int .i64 0 ∧ fr 2 = .pointer (some p) ∧ fr 5 = ob ∧ fr 6 = .int .i64 i ∧
      OI w' w2.heap.size 2 ob (List.replicate i (-1)) ∧ Below w2.heap.size w2 w') (nf ms)
    ⟨0, ob, rfl, Nat.zero_le _, rfl, rfl, rfl, rfl, ho, hb3⟩ ?_
  rintro k fr w4 ⟨i, ob, rfl, hi, f1, f2, f5, f6, ho, hb4⟩
  have hbx4 := cell_below hbx hb4
  have hbw := hb.trans (hb4.mono hb.size)
  refine know (t := 1) f1 ?_; refine know (t := 2) f2 ?_; refine know (t := 5) f5 ?_; refine know (t := 6) f6 ?_
  refine go ?_
  refine s_call1 (wn rfl) rfl rfl (l02Flags_any _ _ _ (hv.below hb4) hr1) ?_
  rintro _ w5 ⟨rfl, hb5⟩
  have ho := ho.below hb5
  have hb25 := hb4.trans (hb5.mono hb4.size)
  have hbw := hbw.trans (hb5.mono hbw.size)
  refine go ?_
  refine cond_dec rfl (fun hlt => ?_) (fun hge => ?_)
  · refine go ?_
    refine s_build1 (B := w2.heap.size) (wn rfl) rfl rfl hb25.size (fun tb w6 ht st hg6 _ => ?_)
    have hb6 := below_of_grownBy hg6
    have ho6 := ho.below hb6
    have hb26 := hb25.trans (hb6.mono hb25.size)
    refine s_appendI (wn rfl) rfl rfl rfl ho6 ht.il (by simp; omega) hb26.size (fun ob' w7 ho7 so7 hg7 _ => ?_)
    refine go ?_
    refine ⟨nf ms - (i + 1), by omega, i + 1, ob', rfl, by omega, rfl, rfl, rfl, rfl, ?_, ?_⟩
    · rw [List.replicate_succ']; exact ho7
    · exact hb26.trans (ho6.below_of hg7 hb26.size)
  · obtain rfl : i = nf ms := by omega
    have so : SV ob (nf ms) := by simpa using ho.sv
    refine go ?_
    refine s_storeI (j := 0) (wn rfl) rfl rfl ho (by omega) (by simp; omega) (fun w6 ho6 hg6 => ?_)
    have hb26 := hb25.trans (ho.below_of hg6 hb25.size)
    have hlow : ∀ g, ob.ownBlock = some g → g < w6.heap.size := fun g hg => (ho6.lt g hg).2
    refine go ?_
    refine s_build1 (B := w6.heap.size) (wn rfl) rfl rfl (Nat.le_refl _) (fun rb w7 hr sr hg7 _ => ?_)
    have hb7 := below_of_grownBy hg7
    have ho7 := ho6.below hb7
    have hb27 := hb26.trans (hb7.mono hb26.size)
    have h67 := hg7.size
    refine go ?_
    refine w_loop (fun k fr w' => ∃ (i : Nat) (o r : List Int) (rb : Value), k = nf ms - i ∧ i ≤ r.length ∧ fr 2 = .pointer (some p) ∧ fr 5 = ob ∧ fr 7 = rb ∧ fr 8 = .int .i64 i ∧
        OI w' w2.heap.size 2 ob o ∧ OI w' w6.heap.size 2 rb r ∧ Bf ms 1000 (fun _ _ => True) (DisS ms) o r i 0 ∧ Below w2.heap.size w2 w' ∧ w6.heap.size ≤ w'.heap.size) (nf ms)
      ⟨0, _, _, rb, rfl, Nat.zero_le _, rfl, rfl, rfl, rfl, ho7, hr, Bf.start hm (by omega) (by omega) (DisS.zero ms), hb27, h67⟩ ?_
    rintro k fr w8 ⟨i, o, r, rb, rfl, hi, f2, f5, f7, f8, ho, hr, hB, hb8, h68⟩
    have sr := hr.sv
    have so := ho.sv
    have hle := hB.mp.le
    refine know (t := 2) f2 ?_; refine know (t := 5) f5 ?_; refine know (t := 7) f7 ?_; refine know (t := 8) f8 ?_
    refine go ?_
    refine cond_dec rfl (fun hlt => ?_) (fun hge => ?_)
    · refine go ?_
      refine w_loop (fun k fr w' => ∃ (j : Nat) (o' r' : List Int) (rb : Value), k = ms.length - j ∧ j ≤ ms.length ∧ fr 2 = .pointer (some p) ∧ fr 5 = ob ∧ fr 7 = rb ∧ fr 8 = .int .i64 i ∧ fr 9 = .int .i64 j ∧
          OI w' w2.heap.size 2 ob o' ∧ OI w' w6.heap.size 2 rb r' ∧ i < r'.length ∧ Bf ms 1000 (fun _ _ => True) (DisS ms) o' r' i j ∧ Below w2.heap.size w2 w' ∧ w6.heap.size ≤ w'.heap.size) ms.length
        ⟨0, o, r, rb, rfl, Nat.zero_le _, rfl, rfl, rfl, rfl, rfl, ho, hr, by omega, hB, hb8, h68⟩ ?_
      clear ho hr hb8 h68 sr so hB
      rintro k fr w9 ⟨j, o', r', rb, rfl, hj, f2, f5, f7, f8, f9, ho, hr, hil, hB, hb9, h69⟩
      have so := ho.sv
      have sr := hr.sv
      have hle' := hB.mp.le
      have hlen := hB.mp.len
      have hbx9 := cell_below hbx hb9
      have hv9 := hv.below hb9
      have hxr := hB.at hil
      have hcol := hB.snd _ hxr.2.2.2
      have hbd := hB.bnd _ hxr.2.2.2
      have sv9 := hv9.sv
      have hx1 := hxr.1
      have hx2 := hxr.2.1
      have hx3 := hxr.2.2.1
      refine know (t := 2) f2 ?_; refine know (t := 5) f5 ?_; refine know (t := 7) f7 ?_; refine know (t := 8) f8 ?_; refine know (t := 9) f9 ?_
      refine go ?_
      refine cond_dec rfl (fun hlt2 => ?_) (fun hge2 => ?_)
      · obtain ⟨u, hu, hc⟩ := hv9.row (j := j) (by omega) hlt2
        have su := hu.sv
        have hl1 := (hm.syst.row (j := j) (by omega) hlt2).1
        have hy := hm.syst.at (j := j) (by omega) hlt2 ⟨hxr.1, hxr.2.1⟩
        refine go ?_
        refine region_q mixed (by kernel_rfl) ?_; refine qo ?_; refine q_nil ?_
        intro w10 hb10
        have ho := ho.below hb10
        have hr := hr.below hb10
        have hb210 := hb9.trans (hb10.mono hb9.size)
        have h610 : w6.heap.size ≤ w10.heap.size := Nat.le_trans h69 hb10.size
        refine go ?_
        refine cond_dec rfl (fun hn => ?_) (fun hn => ?_)
        · have hB' := hB.push hm hil (by omega) rfl hn (b := gi o' (gi r' i) + 1) (by omega) (by omega) (fun h0 => hcol.turn (by omega) ⟨hxr.1, hxr.2.1⟩ rfl h0) trivial
          have hle2 := hB'.mp.le
          refine go ?_
          refine s_storeI (wn rfl) rfl rfl ho (by omega) (by omega) (fun w11 ho11 hg11 => ?_)
          have hr11 := hr.kept hg11 (hr.apart_high hlow)
          have hb211 := hb210.trans (ho.below_of hg11 hb210.size)
          have h611 := hg11.size
          refine go ?_
          refine s_build1 (B := w2.heap.size) (wn rfl) rfl rfl hb211.size (fun tb w12 ht st hg12 _ => ?_)
          have hb12 := below_of_grownBy hg12
          have hr12 := hr11.below hb12
          have ho12 := ho11.below hb12
          have h612 := hg12.size
          have hb212 := hb211.trans (hb12.mono hb211.size)
          refine s_appendI (wn rfl) rfl rfl rfl hr12 ht.il (by simp; omega) (by omega) (fun rb' w13 hr13 sr13 hg13 _ => ?_)
          have ho13 := ho12.kept hg13 (hr12.apart_low hlow)
          have hb213 := hb212.trans ((hr12.mono hb26.size).below_of hg13 hb212.size)
          have h613 := hg13.size
          refine go ?_
          exact ⟨ms.length - (j + 1), by omega, j + 1, _, _, rb', rfl, by omega, rfl, rfl, rfl, rfl, rfl, ho13, hr13, by simp; omega, hB', hb213, by omega⟩
        · refine go ?_
          exact ⟨ms.length - (j + 1), by omega, j + 1, _, _, rb, rfl, by omega, rfl, rfl, rfl, rfl, rfl, ho, hr, hil, hB.hit rfl hn trivial, hb210, h610⟩
      · obtain rfl : j = ms.length := by omega
        refine go ?_
        exact ⟨nf ms - (i + 1), by omega, i + 1, o', r', rb, rfl, by omega, rfl, rfl, rfl, rfl, ho, hr, hB.next, hb9, h69⟩
    · refine go ?_
      have hfull := fun x h0 hx => hB.full hm (by omega) (x := x) h0 hx
      refine end_one Try.results140 rfl ⟨o, ho.mono hb.size, hB.mp.len, fun x h0 hx => ?_, (hB.snd 0 hB.z).1 rfl, fun c hc x h0 hx => (hB.snd x (hfull x h0 hx)).2 c hc, hb.trans (hb8.mono hb.size)⟩
      have h1 := hB.mp.rr x (hfull x h0 hx)
      have h2 := hB.mp.rng x h0 hx
      omega
end Go.Proofs.Ytmdimdbfgibflaa
