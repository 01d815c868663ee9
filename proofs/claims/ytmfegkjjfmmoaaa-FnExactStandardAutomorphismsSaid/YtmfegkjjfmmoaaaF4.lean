/- Contracts: orbits, their numbers. -/
import Derived.Test.YtmfegkjjfmmoaaaF3
import Derived.Test.YtmfegkjjfmmoaaaP5
namespace Go.Proofs.Ytmfegkjjfmmoaaa
open Go.Mem Go.RowKit

theorem l01Orbit_any (v : Value) (xss : List (List Int)) (n : Nat) (p : Int) (w : World) (hv : RL w v xss) (hsys : Syst n xss) (hp : 0 ≤ p ∧ p < n) (hN : n ≤ 1000) (hM : xss.length ≤ 1000) :
    Ret Try.prog 105 #[v, .int .i64 p] w fun r w' => OI w' w.heap.size 2 r (orbit xss p) ∧ Below w.heap.size w w' := by
  by_cases hne : xss = []
  · subst hne
    exact l01Orbit_ne v [] (p + 1).toNat p w hv (by intro m hm; simp at hm) (by omega) (.inr (by omega)) (by omega) hM
  · exact l01Orbit_ne v xss n p w hv hsys hp (.inl hne) hN hM

set_option maxHeartbeats 4000000 in
theorem orbitLabels_any (v : Value) (xss : List (List Int)) (n : Nat) (w : World) (hv : RL w v xss) (hs : Sym n xss) (hN : n ≤ 1000) (hM : xss.length ≤ 1000) :
    Ret Try.prog 107 #[.int .i64 n, v] w fun r w' => ∃ lb, r = .tuple #[lb, .int .i64 (labc n xss)] ∧ OI w' w.heap.size 2 lb (labs n xss) ∧ Below w.heap.size w w' := by
  have sv := hv.sv
  refine enter2 75 Try.func107 rfl Try.ntmps107 rfl (fun fr => ?_)
  refine go ?_
  refine s_build1 (B := w.heap.size) (wn rfl) rfl rfl (Nat.le_refl _) (fun ob w1 ho so hg hb => ?_)
  have hb1 := below_of_grownBy hg
  refine go ?_
  refine s_call2 (wn rfl) rfl rfl rfl (Repeat_one _ _ _ _ ho.il (by omega)) ?_
  rintro lb w2 ⟨hlb, hb2⟩
  have hlb := hlb.mono hb1.size
  have hb2 := hb1.trans (hb2.mono hb1.size)
  refine go ?_
  refine w_loop (fun k fr w' => ∃ (i : Nat), k = n - i ∧ i ≤ n ∧ fr 1 = v ∧ fr 6 = lb ∧ fr 7 = .int .i64 (labsFrom n xss i).2 ∧ fr 17 = .int .i64 n ∧ fr 18 = .int .i64 i ∧
      OI w' w.heap.size 2 lb (labsFrom n xss i).1 ∧ Below w.heap.size w w') n
    ⟨0, rfl, Nat.zero_le _, rfl, rfl, rfl, rfl, rfl, by simpa [labsFrom] using hlb, hb2⟩ ?_
  rintro k fr w3 ⟨i, rfl, hi, f1, f6, f7, f17, f18, hlb, hb⟩
  have hL := labs_inv hs hN i hi
  have sl := hlb.sv
  have hll := hL.len
  have hc0 := hL.c0
  refine know (t := 1) f1 ?_; refine know (t := 6) f6 ?_; refine know (t := 7) f7 ?_; refine know (t := 17) f17 ?_; refine know (t := 18) f18 ?_
  refine go ?_
  refine cond_dec rfl (fun hlt => ?_) (fun hge => ?_)
  · refine go ?_
    refine cond_dec rfl (fun hold => ?_) (fun hnew => ?_)
    · refine go ?_
      have e : labsFrom n xss (i + 1) = labsFrom n xss i := by
        show (if _ then _ else _) = _
        rw [if_neg (by omega)]
      exact ⟨n - (i + 1), by omega, i + 1, rfl, by omega, rfl, rfl, by rw [e]; rfl, rfl, rfl, by rw [e]; exact hlb, hb⟩
    · have hneg : gi (labsFrom n xss i).1 i < 0 := by omega
      have e : labsFrom n xss (i + 1) = (lab1 xss (labsFrom n xss i).1 (labsFrom n xss i).2 i, (labsFrom n xss i).2 + 1) := by
        show (if _ then _ else _) = _
        rw [if_pos hneg]
      have hip : 0 ≤ (i : Int) ∧ (i : Int) < n := by omega
      generalize (labsFrom n xss i).1 = L at *
      generalize (labsFrom n xss i).2 = c at *
      refine go ?_
      refine s_storeI (wn rfl) rfl rfl hlb (by omega) (by omega) (fun w4 hlb4 hg4 => ?_)
      have hb4 := hb.trans (hlb.below_of hg4 hb.size)
      have hlow : ∀ g, lb.ownBlock = some g → g < w4.heap.size := fun g hg => (hlb4.lt g hg).2
      refine go ?_
      refine s_build1 (B := w4.heap.size) (wn rfl) rfl rfl (Nat.le_refl _) (fun ob w5 ho so hg5 hbk => ?_)
      have hb5 := below_of_grownBy hg5
      have hlb5 := hlb4.below hb5
      have hb5 := hb4.trans (hb5.mono hb4.size)
      have h45 := hg5.size
      refine go ?_
      refine w_loop (fun k fr w' => ∃ (L' o : List Int) (ob : Value), k = 2 * negs L' + o.length ∧ fr 1 = v ∧ fr 6 = lb ∧ fr 7 = .int .i64 c ∧ fr 8 = .int .i64 i ∧ fr 9 = ob ∧ fr 17 = .int .i64 n ∧ fr 18 = .int .i64 i ∧
          OI w' w.heap.size 2 lb L' ∧ OI w' w4.heap.size 2 ob o ∧ Dfs n xss L c i L' o (-1) 0 ∧ o.length + negs L' ≤ 3000 ∧ Below w.heap.size w w' ∧ w4.heap.size ≤ w'.heap.size) (2 * negs (seti L i c) + 1)
        ⟨_, _, ob, rfl, rfl, rfl, rfl, rfl, rfl, rfl, rfl, hlb5, ho, Dfs.start hL hip, ?_, hb5, h45⟩ ?_
      · have := negs_le (seti L i c)
        simp at this ⊢
        omega
      rintro k fr w6 ⟨L', o, ob, rfl, f1, f6, f7, f8, f9, f17, f18, hlb, ho, hD, hsz, hb, h46⟩
      have so := ho.sv
      refine know (t := 1) f1 ?_; refine know (t := 6) f6 ?_; refine know (t := 7) f7 ?_; refine know (t := 8) f8 ?_; refine know (t := 9) f9 ?_; refine know (t := 17) f17 ?_; refine know (t := 18) f18 ?_
      refine go ?_
      refine cond_dec rfl (fun hlt => ?_) (fun hge => ?_)
      · have hne : 0 < o.length := by omega
        have hx := hD.op _ (gi_in (xs := o) (j := o.length - 1) (by omega))
        have hcast : ((o.length - 1 : Nat) : Int) = (o.length : Int) - 1 := by omega
        have hT := hD.take hne
        rw [hcast] at hx hT
        refine go ?_
        have hto : (((o.length : Int) - 1).toNat) = o.length - 1 := by omega
        have ho6 : OI w6 w4.heap.size 2 (cut ob 0 ((o.length : Int) - 1).toNat) (o.take (o.length - 1)) := by
          rw [hto]; simpa using ho.cut (Nat.zero_le _) (by omega)
        generalize cut ob 0 ((o.length : Int) - 1).toNat = ob6 at ho6 ⊢
        refine w_loop (fun k fr w' => ∃ (j : Nat) (L'' o' : List Int) (ob : Value), k = xss.length - j ∧ j ≤ xss.length ∧ fr 1 = v ∧ fr 6 = lb ∧ fr 7 = .int .i64 c ∧ fr 8 = .int .i64 i ∧ fr 9 = ob ∧ fr 10 = .int .i64 (gi o ((o.length : Int) - 1)) ∧
            fr 17 = .int .i64 n ∧ fr 18 = .int .i64 i ∧ fr 46 = v ∧ fr 47 = .int .i64 xss.length ∧ fr 48 = .int .i64 j ∧
            OI w' w.heap.size 2 lb L'' ∧ OI w' w4.heap.size 2 ob o' ∧ Dfs n xss L c i L'' o' (gi o ((o.length : Int) - 1)) j ∧ gi L'' (gi o ((o.length : Int) - 1)) = c ∧ o'.length + negs L'' + 1 ≤ o.length + negs L' ∧ negs L'' ≤ negs L' ∧ Below w.heap.size w w' ∧ w4.heap.size ≤ w'.heap.size) xss.length
          ⟨0, L', _, ob6, rfl, Nat.zero_le _, rfl, rfl, rfl, rfl, rfl, rfl, rfl, rfl, rfl, rfl, rfl, hlb, ho6, hT, hx.2.2, by simp; omega, Nat.le_refl _, hb, h46⟩ ?_
        rintro k fr w7 ⟨j, L'', o', ob, rfl, hj, f1, f6, f7, f8, f9, f10, f17, f18, f46, f47, f48, hlb, ho, hD, hxc, hm1, hm2, hb, h47⟩
        have so := ho.sv
        have sl := hlb.sv
        have hl := hD.len
        have hv7 := hv.below hb
        refine know (t := 1) f1 ?_; refine know (t := 6) f6 ?_; refine know (t := 7) f7 ?_; refine know (t := 8) f8 ?_; refine know (t := 9) f9 ?_; refine know (t := 10) f10 ?_; refine know (t := 17) f17 ?_; refine know (t := 18) f18 ?_; refine know (t := 46) f46 ?_; refine know (t := 47) f47 ?_; refine know (t := 48) f48 ?_
        refine go ?_
        refine cond_dec rfl (fun hlt2 => ?_) (fun hge2 => ?_)
        · refine go ?_
          refine s_ldR (wn rfl) rfl rfl hv7 (by omega) (by omega) (fun u hu su => ?_)
          have hrow := hs.syst.row (j := j) (by omega) hlt2
          have hrl := hrow.1
          have hy := hs.syst.at (j := j) (by omega) hlt2 ⟨hx.1, hx.2.1⟩
          refine go ?_
          refine cond_dec rfl (fun hn => ?_) (fun hn => ?_)
          · have hD' := hD.miss hL hs ⟨hx.1, hx.2.1⟩ hxc (by omega) hn
            have hng := negs_seti hy.1 (by omega) hn hc0.1
            refine go ?_
            refine s_storeI (wn rfl) rfl rfl hlb (by omega) (by omega) (fun w8 hlb8 hg8 => ?_)
            have ho8 := ho.kept hg8 (ho.apart_high hlow)
            have hb8 := hb.trans (hlb.below_of hg8 hb.size)
            have h8 := hg8.size
            refine go ?_
            refine s_build1 (B := w.heap.size) (wn rfl) rfl rfl hb8.size (fun tb w9 ht st hg9 _ => ?_)
            have hb9 := below_of_grownBy hg9
            have ho9 := ho8.below hb9
            have hlb9 := hlb8.below hb9
            have h9 := hg9.size
            have hb9 := hb8.trans (hb9.mono hb8.size)
            refine s_appendI (wn rfl) rfl rfl rfl ho9 ht.il (by simp; omega) (by omega) (fun ob' w10 ho10 so10 hg10 _ => ?_)
            have hlb10 := hlb9.kept hg10 (ho9.apart_low hlow)
            have hb10 := hb9.trans ((ho9.mono hb4.size).below_of hg10 hb9.size)
            have h10 := hg10.size
            refine go ?_
            refine ⟨xss.length - (j + 1), by omega, j + 1, _, _, ob', rfl, by omega, rfl, rfl, rfl, rfl, rfl, rfl, rfl, rfl, rfl, rfl, rfl, hlb10, ho10, hD', ?_, ?_, by omega, hb10, by omega⟩
            · rw [gi_seti _ _ _ _ hy.1 (by omega) hx.1]; split; rfl; exact hxc
            · simp; omega
          · have hD' := hD.hit hL hs hip hneg ⟨hx.1, hx.2.1⟩ hxc (by omega) hn
            refine go ?_
            exact ⟨xss.length - (j + 1), by omega, j + 1, _, _, ob, rfl, by omega, rfl, rfl, rfl, rfl, rfl, rfl, rfl, rfl, rfl, rfl, rfl, hlb, ho, hD', hxc, hm1, hm2, hb, h47⟩
        · obtain rfl : j = xss.length := by omega
          refine go ?_
          exact ⟨2 * negs L'' + o'.length, by omega, L'', o', ob, rfl, rfl, rfl, rfl, rfl, rfl, rfl, rfl, hlb, ho, hD.next, by omega, hb, h47⟩
      · have : o = [] := by cases o with | nil => rfl | cons _ _ => simp at hge
        subst this
        have hfin := hD.done hL hs hN hip
        subst hfin
        refine go ?_
        exact ⟨n - (i + 1), by omega, i + 1, rfl, by omega, rfl, rfl, by rw [e]; rfl, rfl, rfl, by rw [e]; exact hlb, hb⟩
  · obtain rfl : i = n := by omega
    refine go ?_
    exact end_two Try.results107 rfl rfl ⟨lb, rfl, hlb, hb⟩
end Go.Proofs.Ytmfegkjjfmmoaaa
