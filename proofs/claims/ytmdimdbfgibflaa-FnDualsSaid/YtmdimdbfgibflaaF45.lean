/- Contracts: cycles of a permutation, orders; PetrieLengths, WordPeriod, on both sides. -/
import Derived.Test.YtmdimdbfgibflaaF31
import Derived.Test.YtmdimdbfgibflaaPD
import Derived.Test.YtmdimdbfgibflaaRp
namespace Go.Mem
open Go.RowKit
set_option linter.unusedVariables false
section
variable {w w' : World} {B B' E : Nat} {T U T' : TypeId} {v u : Value} {vs : List Value} {xss : List (List Int)}
/-- what is of another type is written -/
theorem OM.kept_type (h : OM w B E T U v xss) (ho : Own w B' T' u vs) (h1 : T ≠ T') (h2 : T' ≠ U) (hg : w.grownBy w' u.ownBlock) : OM w' B E T U v xss := by
  obtain ⟨us, hu1, hu2⟩ := h.rws
  exact (hu2.turn' ho h2 hg).om (hu1.kept hg (hu1.apart_type ho h1))
theorem RL.one {x : Value} {xs : List Int} (h : Own w B T v [x]) (hx : IL w x xs) : RL w v [xs] := by
  refine ⟨[x], h.rd, rfl, fun i a ys ha hy => ?_⟩
  match i, ha, hy with
  | 0, ha, hy => simp at ha hy; subst ha hy; exact hx
  | i + 1, ha, hy => simp at ha
end
/-- two neighbours are exchanged -/
theorem swap_perm {ys : List Int} {k : Nat} (h0 : 0 < k) (hk : k < ys.length) : (seti (seti ys k (gi ys (k - 1 : Nat))) ((k - 1 : Nat) : Int) (gi ys k)).Perm ys := by
  have e1 : ys = ys.take (k - 1) ++ [gi ys (k - 1 : Nat), gi ys k] ++ ys.drop (k + 1) := by
    have h1 := take_gi (xs := ys) (i := k) hk
    have h2 := take_gi (xs := ys) (i := k - 1) (by omega)
    rw [show k - 1 + 1 = k by omega] at h2
    rw [h2] at h1
    conv => lhs; rw [← List.take_append_drop (k + 1) ys, h1]
    simp
  have e2 : seti (seti ys k (gi ys (k - 1 : Nat))) ((k - 1 : Nat) : Int) (gi ys k) = ys.take (k - 1) ++ [gi ys k, gi ys (k - 1 : Nat)] ++ ys.drop (k + 1) := by
    refine list_ext_gi (by simp [seti]; omega) fun x h0x hx => ?_
    have hxl : x < ys.length := by simpa [seti] using hx
    rw [gi_seti _ _ _ _ (by omega) (by simp [seti]; omega) h0x, gi_seti _ _ _ _ (by omega) (by omega) h0x]
    have hg : gi (ys.take (k - 1) ++ [gi ys k, gi ys (k - 1 : Nat)] ++ ys.drop (k + 1)) x = if x = ((k - 1 : Nat) : Int) then gi ys k else if x = k then gi ys (k - 1 : Nat) else gi ys x := by
      obtain ⟨q, rfl⟩ : ∃ q : Nat, x = q := ⟨x.toNat, by omega⟩
      simp only [gi, List.getD, Int.toNat_natCast]
      rw [List.append_assoc, List.getElem?_append]
      have hl : (ys.take (k - 1)).length = k - 1 := by simp; omega
      rw [hl]
      by_cases hq : q < k - 1
      · rw [if_pos hq, List.getElem?_take, if_pos hq, if_neg (by omega), if_neg (by omega)]
      · rw [if_neg hq]
        by_cases hq1 : q = k - 1
        · subst hq1; simp
        · by_cases hq2 : q = k
          · subst hq2
            rw [if_neg (by omega), if_pos rfl, show q - (q - 1) = 1 by omega]; simp
          · rw [if_neg (by omega), if_neg (by omega)]
            obtain ⟨d, rfl⟩ : ∃ d, q = k + 1 + d := ⟨q - (k + 1), by omega⟩
            rw [show k + 1 + d - (k - 1) = d + 2 by omega]
            simp
    rw [hg]
  rw [e2]
  conv => rhs; rw [e1]
  exact (List.Perm.append_left _ (List.Perm.swap _ _ _)).append_right _
end Go.Mem
namespace Go.Proofs.Ytmdimdbfgibflaa
open Go.Mem Go.RowKit
set_option linter.unusedVariables false
set_option linter.unusedSimpArgs false

set_option maxHeartbeats 8000000 in
set_option maxRecDepth 100000 in
theorem cyclesOf_any (v : Value) (xs : List Int) (n : Nat) (w : World) (hv : IL w v xs) (h : Pm n xs) :
    Ret Try.prog 160 #[v] w fun r w' => OM w' w.heap.size w'.heap.size 34 2 r (cyc n xs) ∧ Below w.heap.size w w' := by
  have shv := hv.sv
  have hb := Below.refl w.heap.size w
  refine enter1 42 Try.func160 rfl Try.ntmps160 rfl (fun fr => ?_)
  have hlen := h.len
  have h1000 := h.n1000
  have sbs1 := hb.size
  have hv_b1 := hv
  have hbB1 := Below.refl w.heap.size w
  refine go ?_
  have szq1 := hbB1.size
  refine s_makeB (B := w.heap.size) (wn rfl) rfl rfl rfl (by omega) (by omega) szq1 (fun sb w1 hs ss hg1 _ => ?_)
  have hb1 := below_of_grownBy hg1
  have sw1 := hb1.size
  replace hv := hv.below hb1
  replace hbB1 := hbB1.trans (hb1.mono hbB1.size)
  have el : ((xs.length : Int)).toNat = n := by omega
  rw [el] at hs
  refine go ?_
  refine s_call1 (wn rfl) rfl rfl (size_any _ _ _ shv) ?_
  rintro _ _ ⟨rfl, rfl⟩
  refine go ?_
  refine w_loop (fun kk fr w' => ∃ (i : Nat) (ob : Value) (bs : List Bool), kk = n - i ∧ i ≤ n ∧ fr 0 = v ∧ fr 3 = ob ∧ fr 4 = sb ∧ fr 12 = .int .i64 xs.length ∧ fr 13 = .int .i64 i ∧ (OB w' w.heap.size 4 sb bs) ∧ (OM w' w.heap.size w'.heap.size 34 2 ob (cycTo n xs i)) ∧ (Cw n xs i 0 bs) ∧ Below w.heap.size w w') (n)
    ⟨0, _, _, rfl, Nat.zero_le _, rfl, rfl, rfl, rfl, rfl, hs, OM.nil _ _ _ _ _, Cw.start n xs, hbB1⟩ ?_
  rintro kk fr w2 ⟨i, ob, bs, rfl, hi, f0, f3, f4, f12, f13, hs, ho, hw, hbB1⟩
  have sw2 := hbB1.size
  have hv := hv_b1.below hbB1
  have shs := hs.sv
  have sho := ho.sv
  have hbl := hw.len
  refine know (t := 0) f0 ?_; refine know (t := 3) f3 ?_; refine know (t := 4) f4 ?_; refine know (t := 12) f12 ?_; refine know (t := 13) f13 ?_
  refine go ?_
  refine cond_dec rfl (fun hlt => ?_) (fun hge => ?_)
  · have hin : i < n := by omega
    have hseen := hw.seen hin
    have hi' : 0 ≤ (i : Int) ∧ (i : Int) < n := by omega
    replace ho := ho.top
    have hcl := cycTo_le (n := n) (p := xs) (i := i)
    by_cases hex : ∃ c ∈ cycTo n xs i, (i : Int) ∈ c
    · have hg : gb bs i = true := hseen.2 hex
      refine go ?_
      refine w_loop (fun kk fr w' => fr 0 = v ∧ fr 3 = ob ∧ fr 4 = sb ∧ fr 5 = .int .i64 i ∧ fr 6 = .slice none 0 0 ∧ fr 7 = .int .i64 i ∧ fr 12 = .int .i64 xs.length ∧ fr 13 = .int .i64 i ∧ w' = w2) 0 ⟨rfl, rfl, rfl, rfl, rfl, rfl, rfl, rfl, rfl⟩ ?_
      rintro kk fr _ ⟨f0, f3, f4, f5, f6, f7, f12, f13, rfl⟩
      have snil : SV (.slice none 0 0) 0 := (OI.nil w 0 0).sv
      refine know (t := 0) f0 ?_; refine know (t := 3) f3 ?_; refine know (t := 4) f4 ?_; refine know (t := 5) f5 ?_; refine know (t := 6) f6 ?_; refine know (t := 7) f7 ?_; refine know (t := 12) f12 ?_; refine know (t := 13) f13 ?_
      have h0n : ¬ ((0 : Int) < ((0 : Nat) : Int)) := by decide
      refine go ?_
      refine ⟨n - (i + 1), by omega, i + 1, ob, bs, rfl, by omega, rfl, rfl, rfl, rfl, rfl, hs, by rw [cycTo_hit hex]; exact ho, cw_skip hw hex, hbB1⟩
    have hg0 : gb bs i = false := by cases hq : gb bs i with
      | false => rfl
      | true => exact absurd (hseen.1 hq) hex
    refine go ?_
    have hobl : ∀ g, ob.ownBlock = some g → g < w2.heap.size := fun g hg => (ho.ownlt g hg).2
    refine w_loop (fun kk fr w' => ∃ (k : Nat) (cb : Value) (bs : List Bool), kk = per n xs i - k ∧ k ≤ per n xs i ∧ fr 0 = v ∧ fr 3 = ob ∧ fr 4 = sb ∧ fr 5 = .int .i64 i ∧ fr 6 = cb ∧ fr 7 = .int .i64 (itr xs i k) ∧ fr 12 = .int .i64 xs.length ∧ fr 13 = .int .i64 i ∧ (OB w' w.heap.size 4 sb bs) ∧ (OM w' w.heap.size w2.heap.size 34 2 ob (cycTo n xs i)) ∧ (OI w' w2.heap.size 2 cb ((List.range k).map (itr xs i))) ∧ (Cw n xs i k bs) ∧ (w2.heap.size ≤ w'.heap.size) ∧ Below w.heap.size w w') (per n xs i)
      ⟨0, _, bs, rfl, Nat.zero_le _, rfl, rfl, rfl, rfl, rfl, rfl, rfl, rfl, hs, ho, OI.nil _ _ _, hw, by omega, hbB1⟩ ?_
    rintro kk fr w4 ⟨k, cb, bs, rfl, hk, f0, f3, f4, f5, f6, f7, f12, f13, hs, ho, hc, hw, hge, hbB1⟩
    have sw4 := hbB1.size
    have hv := hv_b1.below hbB1
    have shs := hs.sv
    have sho := ho.sv
    have shc := hc.sv
    have hbl := hw.len
    have hxx := h.itr hi' k
    have hpi := h.per hi'
    refine know (t := 0) f0 ?_; refine know (t := 3) f3 ?_; refine know (t := 4) f4 ?_; refine know (t := 5) f5 ?_; refine know (t := 6) f6 ?_; refine know (t := 7) f7 ?_; refine know (t := 12) f12 ?_; refine know (t := 13) f13 ?_
    refine go ?_
    by_cases hkp : k < per n xs i
    · have hgn := h.cw_new hw hin hex hkp
      have hw2 := h.cw_step hw hin
      have hpx := h.at hxx
      refine go ?_
      have hcs : cb.ownBlock = none ∨ cb.ownBlock ≠ sb.ownBlock := hc.apart_OB hs (by decide)
      refine s_storeB (wn rfl) rfl rfl hs (by omega) (by omega) (fun w5 hsN hgN => ?_)
      replace hc := hc.kept hgN hcs
      replace ho := ho.kept_type hs.own (by decide) (by decide) hgN
      replace hbB1 := hbB1.trans (hs.below_of hgN hbB1.size)
      have sw5 := hgN.size
      replace hs := hsN
      clear hsN
      replace hv := hv_b1.below hbB1
      refine go ?_
      refine s_build1 (B := w5.heap.size) (wn rfl) rfl rfl (Nat.le_refl _) (fun tb w6 ht st hg6 _ => ?_)
      have hb6 := below_of_grownBy hg6
      have sw6 := hb6.size
      replace hv := hv.below hb6
      replace hs := hs.below hb6
      replace ho := ho.below hb6
      replace hc := hc.below hb6
      replace hbB1 := hbB1.trans (hb6.mono hbB1.size)
      have hsc : sb.ownBlock = none ∨ sb.ownBlock ≠ cb.ownBlock := hs.apart_OI hc (by decide)
      refine s_appendI (wn rfl) rfl rfl rfl hc ht.il (by simp; omega) (by omega) (fun cb' w7 hcN so hgN _ => ?_)
      replace hs := hs.kept hgN hsc
      replace ho := ho.apart2 hobl hgN (fun g hg => .inr (hc.lt g hg).1)
      replace hbB1 := hbB1.trans ((hc.below_of hgN (by omega)).mono (by omega))
      have sw7 := hgN.size
      replace hc := hcN
      clear hcN
      replace hv := hv_b1.below hbB1
      refine go ?_
      refine ⟨per n xs i - (k + 1), by omega, k + 1, cb', _, rfl, by omega, rfl, rfl, rfl, rfl, rfl, rfl, rfl, rfl, hs, ho, by rw [cyTake_succ]; exact hc, hw2, by omega, hbB1⟩
    obtain rfl : k = per n xs i := by omega
    have hge1 := h.cw_end hw hin
    have hwn := h.cw_next hw hin hex
    have hcy : (List.range (per n xs i)).map (itr xs i) = cyOf n xs i := rfl
    rw [hcy] at hc
    have hcll := cyOf_len n xs i
    have h0n : (0 : Int) < ((cyOf n xs i).length : Int) := by omega
    have sc := hc.sv
    refine go ?_
    have hso : sb.ownBlock = none ∨ sb.ownBlock ≠ ob.ownBlock := by
      obtain ⟨us, hu1, _⟩ := ho.rws
      exact hs.own.apart_type hu1 (by decide)
    have szq8 := hbB1.size
    refine s_build1V (B := w.heap.size) (wn rfl) rfl rfl hc.sv.one szq8 (fun tb w8 ht st hg8 _ => ?_)
    have hb8 := below_of_grownBy hg8
    have sw8 := hb8.size
    replace hv := hv.below hb8
    replace hs := hs.below hb8
    replace ho := ho.below hb8
    replace hc := hc.below hb8
    replace hbB1 := hbB1.trans (hb8.mono hbB1.size)
    have szq9 := hbB1.size
    refine s_appendM (wn rfl) rfl rfl rfl ho ht.rd hc (by omega) (by decide) (by omega) szq9 (fun ob' w9 hoN so hgN => ?_)
    replace hbB1 := hbB1.trans (ho.below_of hgN szq9)
    have sw9 := hgN.size
    replace ho := hoN
    clear hoN
    replace hv := hv_b1.below hbB1
    replace hs := hs.kept hgN hso
    refine go ?_
    refine ⟨n - (i + 1), by omega, i + 1, ob', _, rfl, by omega, rfl, rfl, rfl, rfl, rfl, hs, by rw [cycTo_miss hex]; exact ho, hwn, hbB1⟩
  obtain rfl : i = n := by omega
  refine go ?_
  exact end_one Try.results160 rfl ⟨ho, (hb.trans (hbB1.mono hb.size))⟩

set_option maxHeartbeats 8000000 in
set_option maxRecDepth 100000 in
theorem l01Cycles_any (v : Value) (xs : List Int) (n : Nat) (w : World) (hv : IL w v xs) (h : Pm n xs) :
    Ret Try.prog 179 #[v] w fun r w' => OM w' w.heap.size w'.heap.size 34 2 r (cyc n xs) ∧ Below w.heap.size w w' := by
  have shv := hv.sv
  have hb := Below.refl w.heap.size w
  refine enter1 45 Try.func179 rfl Try.ntmps179 rfl (fun fr => ?_)
  have hlen := h.len
  have h1000 := h.n1000
  have sbs1 := hb.size
  have hv_b1 := hv
  have hbB1 := Below.refl w.heap.size w
  refine go ?_
  refine go ?_
  have szq1 := hbB1.size
  refine s_build (B := w.heap.size) [] (wn rfl) rfl (by simp) (by decide) rfl (by simp) szq1 (fun ob w1 ho hg1 _ => ?_)
  have hb1 := below_of_grownBy hg1
  have sw1 := hb1.size
  replace hv := hv.below hb1
  replace hbB1 := hbB1.trans (hb1.mono hbB1.size)
  replace ho := OM.empty (E := w1.heap.size) (U := 2) ho
  refine go ?_
  have szq2 := hbB1.size
  refine s_makeB (B := w.heap.size) (wn rfl) rfl rfl rfl (by omega) (by omega) szq2 (fun sb w2 hs ss hg2 _ => ?_)
  have hb2 := below_of_grownBy hg2
  have sw2 := hb2.size
  replace hv := hv.below hb2
  replace ho := ho.below hb2
  replace hbB1 := hbB1.trans (hb2.mono hbB1.size)
  have el : ((xs.length : Int)).toNat = n := by omega
  rw [el] at hs
  refine go ?_
  refine w_loop (fun kk fr w' => ∃ (i : Nat) (ob : Value) (bs : List Bool), kk = n - i ∧ i ≤ n ∧ fr 0 = v ∧ fr 3 = ob ∧ fr 4 = sb ∧ fr 5 = .int .i64 i ∧ (OB w' w.heap.size 4 sb bs) ∧ (OM w' w.heap.size w'.heap.size 34 2 ob (cycTo n xs i)) ∧ (Cw n xs i 0 bs) ∧ Below w.heap.size w w') (n)
    ⟨0, ob, _, rfl, Nat.zero_le _, rfl, rfl, rfl, rfl, hs, ho.top, Cw.start n xs, hbB1⟩ ?_
  rintro kk fr w3 ⟨i, ob, bs, rfl, hi, f0, f3, f4, f5, hs, ho, hw, hbB1⟩
  have sw3 := hbB1.size
  have hv := hv_b1.below hbB1
  have shs := hs.sv
  have sho := ho.sv
  have hbl := hw.len
  refine know (t := 0) f0 ?_; refine know (t := 3) f3 ?_; refine know (t := 4) f4 ?_; refine know (t := 5) f5 ?_
  refine go ?_
  refine cond_dec rfl (fun hlt => ?_) (fun hge => ?_)
  · have hin : i < n := by omega
    have hseen := hw.seen hin
    have hi' : 0 ≤ (i : Int) ∧ (i : Int) < n := by omega
    replace ho := ho.top
    have hcl := cycTo_le (n := n) (p := xs) (i := i)
    by_cases hex : ∃ c ∈ cycTo n xs i, (i : Int) ∈ c
    · have hg : gb bs i = true := hseen.2 hex
      refine go ?_
      refine ⟨n - (i + 1), by omega, i + 1, ob, bs, rfl, by omega, rfl, rfl, rfl, rfl, hs, by rw [cycTo_hit hex]; exact ho, cw_skip hw hex, hbB1⟩
    have hg0 : gb bs i = false := by cases hq : gb bs i with
      | false => rfl
      | true => exact absurd (hseen.1 hq) hex
    refine go ?_
    have hobl0 : ∀ g, ob.ownBlock = some g → g < w3.heap.size := fun g hg => (ho.ownlt g hg).2
    refine s_build0 (B := w3.heap.size) (wn rfl) rfl (Nat.le_refl _) (fun cb w4 hc so hg4 _ => ?_)
    have hb4 := below_of_grownBy hg4
    have sw4 := hb4.size
    replace hv := hv.below hb4
    replace hs := hs.below hb4
    replace ho := ho.below hb4
    replace hbB1 := hbB1.trans (hb4.mono hbB1.size)
    refine go ?_
    have hobl : ∀ g, ob.ownBlock = some g → g < w3.heap.size := hobl0
    refine w_loop (fun kk fr w' => ∃ (k : Nat) (cb : Value) (bs : List Bool), kk = per n xs i - k ∧ k ≤ per n xs i ∧ fr 0 = v ∧ fr 3 = ob ∧ fr 4 = sb ∧ fr 5 = .int .i64 i ∧ fr 6 = cb ∧ fr 7 = .int .i64 (itr xs i k) ∧ (OB w' w.heap.size 4 sb bs) ∧ (OM w' w.heap.size w3.heap.size 34 2 ob (cycTo n xs i)) ∧ (OI w' w3.heap.size 2 cb ((List.range k).map (itr xs i))) ∧ (Cw n xs i k bs) ∧ (w3.heap.size ≤ w'.heap.size) ∧ Below w.heap.size w w') (per n xs i)
      ⟨0, cb, bs, rfl, Nat.zero_le _, rfl, rfl, rfl, rfl, rfl, rfl, hs, ho, hc, hw, by omega, hbB1⟩ ?_
    rintro kk fr w5 ⟨k, cb, bs, rfl, hk, f0, f3, f4, f5, f6, f7, hs, ho, hc, hw, hge, hbB1⟩
    have sw5 := hbB1.size
    have hv := hv_b1.below hbB1
    have shs := hs.sv
    have sho := ho.sv
    have shc := hc.sv
    have hbl := hw.len
    have hxx := h.itr hi' k
    have hpi := h.per hi'
    refine know (t := 0) f0 ?_; refine know (t := 3) f3 ?_; refine know (t := 4) f4 ?_; refine know (t := 5) f5 ?_; refine know (t := 6) f6 ?_; refine know (t := 7) f7 ?_
    refine go ?_
    by_cases hkp : k < per n xs i
    · have hgn := h.cw_new hw hin hex hkp
      have hw2 := h.cw_step hw hin
      have hpx := h.at hxx
      refine go ?_
      have hcs : cb.ownBlock = none ∨ cb.ownBlock ≠ sb.ownBlock := hc.apart_OB hs (by decide)
      refine s_storeB (wn rfl) rfl rfl hs (by omega) (by omega) (fun w6 hsN hgN => ?_)
      replace hc := hc.kept hgN hcs
      replace ho := ho.kept_type hs.own (by decide) (by decide) hgN
      replace hbB1 := hbB1.trans (hs.below_of hgN hbB1.size)
      have sw6 := hgN.size
      replace hs := hsN
      clear hsN
      replace hv := hv_b1.below hbB1
      refine go ?_
      refine s_build1 (B := w6.heap.size) (wn rfl) rfl rfl (Nat.le_refl _) (fun tb w7 ht st hg7 _ => ?_)
      have hb7 := below_of_grownBy hg7
      have sw7 := hb7.size
      replace hv := hv.below hb7
      replace hs := hs.below hb7
      replace ho := ho.below hb7
      replace hc := hc.below hb7
      replace hbB1 := hbB1.trans (hb7.mono hbB1.size)
      have hsc : sb.ownBlock = none ∨ sb.ownBlock ≠ cb.ownBlock := hs.apart_OI hc (by decide)
      refine s_appendI (wn rfl) rfl rfl rfl hc ht.il (by simp; omega) (by omega) (fun cb' w8 hcN so hgN _ => ?_)
      replace hs := hs.kept hgN hsc
      replace ho := ho.apart2 hobl hgN (fun g hg => .inr (hc.lt g hg).1)
      replace hbB1 := hbB1.trans ((hc.below_of hgN (by omega)).mono (by omega))
      have sw8 := hgN.size
      replace hc := hcN
      clear hcN
      replace hv := hv_b1.below hbB1
      refine go ?_
      refine ⟨per n xs i - (k + 1), by omega, k + 1, cb', _, rfl, by omega, rfl, rfl, rfl, rfl, rfl, rfl, hs, ho, by rw [cyTake_succ]; exact hc, hw2, by omega, hbB1⟩
    obtain rfl : k = per n xs i := by omega
    have hge1 := h.cw_end hw hin
    have hwn := h.cw_next hw hin hex
    have hcy : (List.range (per n xs i)).map (itr xs i) = cyOf n xs i := rfl
    rw [hcy] at hc
    have hcll := cyOf_len n xs i
    have h0n : (0 : Int) < ((cyOf n xs i).length : Int) := by omega
    have sc := hc.sv
    refine go ?_
    have hso : sb.ownBlock = none ∨ sb.ownBlock ≠ ob.ownBlock := by
      obtain ⟨us, hu1, _⟩ := ho.rws
      exact hs.own.apart_type hu1 (by decide)
    have szq9 := hbB1.size
    refine s_build1V (B := w.heap.size) (wn rfl) rfl rfl hc.sv.one szq9 (fun tb w9 ht st hg9 _ => ?_)
    have hb9 := below_of_grownBy hg9
    have sw9 := hb9.size
    replace hv := hv.below hb9
    replace hs := hs.below hb9
    replace ho := ho.below hb9
    replace hc := hc.below hb9
    replace hbB1 := hbB1.trans (hb9.mono hbB1.size)
    have szq10 := hbB1.size
    refine s_appendM (wn rfl) rfl rfl rfl ho ht.rd hc (by omega) (by decide) (by omega) szq10 (fun ob' w10 hoN so hgN => ?_)
    replace hbB1 := hbB1.trans (ho.below_of hgN szq10)
    have sw10 := hgN.size
    replace ho := hoN
    clear hoN
    replace hv := hv_b1.below hbB1
    replace hs := hs.kept hgN hso
    refine go ?_
    refine ⟨n - (i + 1), by omega, i + 1, ob', _, rfl, by omega, rfl, rfl, rfl, rfl, hs, by rw [cycTo_miss hex]; exact ho, hwn, hbB1⟩
  obtain rfl : i = n := by omega
  refine go ?_
  exact end_one Try.results179 rfl ⟨ho, (hb.trans (hbB1.mono hb.size))⟩

set_option maxHeartbeats 8000000 in
set_option maxRecDepth 100000 in
theorem gcd_any  (x : Int) (y : Int) (w : World)  (a b : Nat) (ha : x = a) (hb0 : y = b) (ha2 : a ≤ 9000000000000000000) (hb2 : b ≤ 9000000000000000000) :
    Ret Try.prog 161 #[.int .i64 x, .int .i64 y] w fun r w' => r = .int .i64 ((Nat.gcd a b : Nat) : Int) ∧ Below w.heap.size w w' := by
  have hb := Below.refl w.heap.size w
  refine enter2 12 Try.func161 rfl Try.ntmps161 rfl (fun fr => ?_)
  subst ha hb0
  refine go ?_
  refine w_loop (fun kk fr w' => ∃ (p q : Nat), kk = q ∧ fr 0 = .int .i64 p ∧ fr 1 = .int .i64 q ∧ Nat.gcd p q = Nat.gcd a b ∧ p ≤ 9000000000000000000 ∧ q ≤ 9000000000000000000 ∧ Below w.heap.size w w') b ⟨a, b, rfl, rfl, rfl, rfl, ha2, hb2, Below.refl _ _⟩ ?_
  rintro kk fr w1 ⟨p, q, rfl, f0, f1, hgc, hp2, hq2, hb⟩
  refine know (t := 0) f0 ?_; refine know (t := 1) f1 ?_
  by_cases hq : kk = 0
  · subst hq
    rw [Nat.gcd_zero_right] at hgc
    have hz : ¬ (((0 : Nat) : Int) ≠ 0) := by simp
    have hz2 : ¬ ((0 : Int) < ((0 : Nat) : Int)) := by simp
    refine go ?_
    exact end_one Try.results161 rfl ⟨by rw [hgc], hb⟩
  have hz : ((kk : Int) ≠ 0) := by omega
  have hz2 : ((0 : Int) < (kk : Int)) := by omega
  have hlt : p % kk < kk := Nat.mod_lt _ (by omega)
  have hg2 : Nat.gcd kk (p % kk) = Nat.gcd a b := by rw [Nat.gcd_comm, ← Nat.gcd_rec, Nat.gcd_comm]; exact hgc
  have hle : p % kk ≤ p := Nat.mod_le _ _
  have hca : ((p % kk : Nat) : Int) = (p : Int) % (kk : Int) := Int.natCast_emod _ _
  refine go ?_
  refine region_q mixed (by kernel_rfl) ?_; refine qo ?_; refine q_nil ?_
  intro wq hbq
  replace hb := hb.trans (hbq.mono hb.size)
  refine go ?_
  exact ⟨p % kk, hlt, kk, p % kk, rfl, rfl, by rw [hca]; rfl, hg2, by omega, by omega, hb⟩

set_option maxHeartbeats 8000000 in
set_option maxRecDepth 100000 in
theorem l01Common_any  (x : Int) (y : Int) (w : World)  (a b : Nat) (ha : x = a) (hb0 : y = b) (ha2 : a ≤ 9000000000000000000) (hb2 : b ≤ 9000000000000000000) :
    Ret Try.prog 163 #[.int .i64 x, .int .i64 y] w fun r w' => r = .int .i64 ((Nat.gcd a b : Nat) : Int) ∧ Below w.heap.size w w' := by
  have hb := Below.refl w.heap.size w
  refine enter2 14 Try.func163 rfl Try.ntmps163 rfl (fun fr => ?_)
  subst ha hb0
  refine go ?_
  refine w_loop (fun kk fr w' => ∃ (p q : Nat), kk = q ∧ fr 0 = .int .i64 p ∧ fr 1 = .int .i64 q ∧ Nat.gcd p q = Nat.gcd a b ∧ p ≤ 9000000000000000000 ∧ q ≤ 9000000000000000000 ∧ Below w.heap.size w w') b ⟨a, b, rfl, rfl, rfl, rfl, ha2, hb2, Below.refl _ _⟩ ?_
  rintro kk fr w1 ⟨p, q, rfl, f0, f1, hgc, hp2, hq2, hb⟩
  refine know (t := 0) f0 ?_; refine know (t := 1) f1 ?_
  by_cases hq : kk = 0
  · subst hq
    rw [Nat.gcd_zero_right] at hgc
    have hz : ¬ (((0 : Nat) : Int) ≠ 0) := by simp
    have hz2 : ¬ ((0 : Int) < ((0 : Nat) : Int)) := by simp
    refine go ?_
    exact end_one Try.results163 rfl ⟨by rw [hgc], hb⟩
  have hz : ((kk : Int) ≠ 0) := by omega
  have hz2 : ((0 : Int) < (kk : Int)) := by omega
  have hlt : p % kk < kk := Nat.mod_lt _ (by omega)
  have hg2 : Nat.gcd kk (p % kk) = Nat.gcd a b := by rw [Nat.gcd_comm, ← Nat.gcd_rec, Nat.gcd_comm]; exact hgc
  have hle : p % kk ≤ p := Nat.mod_le _ _
  have hca : ((p % kk : Nat) : Int) = (p : Int) % (kk : Int) := Int.natCast_emod _ _
  refine go ?_
  exact ⟨p % kk, hlt, kk, p % kk, rfl, rfl, by rw [hca]; rfl, hg2, by omega, by omega, hb⟩

set_option maxHeartbeats 8000000 in
set_option maxRecDepth 100000 in
theorem l01Sort_any (v : Value) (xs : List Int) (w : World) (hv : IL w v xs) (hl : xs.length ≤ 1000000) :
    Ret Try.prog 180 #[v] w fun r w' => ∃ ys : List Int, OI w' w.heap.size 2 r ys ∧ ys.Perm xs ∧ Below w.heap.size w w' := by
  have shv := hv.sv
  have hb := Below.refl w.heap.size w
  refine enter1 50 Try.func180 rfl Try.ntmps180 rfl (fun fr => ?_)
  have sbs1 := hb.size
  have hv_b1 := hv
  have hbB1 := Below.refl w.heap.size w
  refine go ?_
  refine s_call1 (wn rfl) rfl rfl (l01Own_any _ _ _ hv hl) ?_
  rintro ob w1 ⟨ho, hb1⟩
  have sw1 := hb1.size
  replace hv := hv.below hb1
  replace hbB1 := hbB1.trans (hb1.mono hbB1.size)
  refine go ?_
  refine w_loop (fun kk fr w' => ∃ (i : Nat) (ys : List Int), kk = xs.length - i ∧ i ≤ xs.length ∧ fr 3 = ob ∧ fr 4 = .int .i64 (1 + (i : Int)) ∧ (OI w' w.heap.size 2 ob ys) ∧ (ys.Perm xs) ∧ Below w.heap.size w w') (xs.length)
    ⟨0, _, rfl, Nat.zero_le _, rfl, rfl, ho, List.Perm.refl _, hbB1⟩ ?_
  rintro kk fr w2 ⟨i, ys, rfl, hi, f3, f4, ho, hp, hbB1⟩
  have sw2 := hbB1.size
  have hv := hv_b1.below hbB1
  have sho := ho.sv
  have hyl := hp.length_eq
  refine know (t := 3) f3 ?_; refine know (t := 4) f4 ?_
  refine go ?_
  refine cond_dec rfl (fun hlt => ?_) (fun hge => ?_)
  · refine go ?_
    refine go ?_
    refine w_loop (fun kk fr w' => ∃ (j : Nat) (ys : List Int), kk = i + 1 - j ∧ j ≤ i + 1 ∧ fr 3 = ob ∧ fr 4 = .int .i64 (1 + (i : Int)) ∧ fr 5 = .int .i64 (1 + (i : Int) - j) ∧ (OI w' w.heap.size 2 ob ys) ∧ (ys.Perm xs) ∧ Below w.heap.size w w') (i + 1)
      ⟨0, ys, rfl, Nat.zero_le _, rfl, rfl, by show Value.int _ _ = _; congr 1 <;> omega, ho, hp, hbB1⟩ ?_
    rintro kk fr w3 ⟨j, ys, rfl, hj, f3, f4, f5, ho, hp, hbB1⟩
    have sw3 := hbB1.size
    have hv := hv_b1.below hbB1
    have sho := ho.sv
    have hyl := hp.length_eq
    refine know (t := 3) f3 ?_; refine know (t := 4) f4 ?_; refine know (t := 5) f5 ?_
    refine go ?_
    by_cases hk0 : (0 : Int) < 1 + (i : Int) - j
    rotate_left
    · refine region_q mixed (by kernel_rfl) ?_; refine qo ?_; refine q_nil ?_
      intro wq hbq
      have sw3 := hbq.size
      replace hv := hv.below hbq
      replace ho := ho.below hbq
      replace hbB1 := hbB1.trans (hbq.mono hbB1.size)
      refine go ?_
      refine ⟨xs.length - (i + 1), by omega, i + 1, ys, rfl, by omega, rfl, by show Value.int _ _ = _; congr 1 <;> omega, ho, hp, hbB1⟩
    refine region_q mixed (by kernel_rfl) ?_; refine qo ?_; refine q_nil ?_
    intro wq hbq
    have sw3 := hbq.size
    replace hv := hv.below hbq
    replace ho := ho.below hbq
    replace hbB1 := hbB1.trans (hbq.mono hbB1.size)
    refine go ?_
    refine cond_dec rfl (fun hsw => ?_) (fun hsw => ?_)
    · obtain ⟨k, hk⟩ : ∃ k : Nat, 1 + (i : Int) - j = k := ⟨(1 + (i : Int) - j).toNat, by omega⟩
      have hpm := swap_perm (ys := ys) (k := k) (by omega) (by omega)
      have hk1 : (k : Int) - 1 = ((k - 1 : Nat) : Int) := by omega
      refine go ?_
      have szq4 := hbB1.size
      refine s_storeI (wn rfl) rfl rfl ho (by omega) (by omega) (fun w4 hoN hgN => ?_)
      replace hbB1 := hbB1.trans (ho.below_of hgN szq4)
      have sw4 := hgN.size
      replace ho := hoN
      clear hoN
      replace hv := hv_b1.below hbB1
      have hsl : (seti ys (1 + (i : Int) - j) (gi ys (1 + (i : Int) - j - 1))).length = ys.length := by simp [seti]
      refine go ?_
      have szq5 := hbB1.size
      refine s_storeI (wn rfl) rfl rfl ho (by omega) (by omega) (fun w5 hoN hgN => ?_)
      replace hbB1 := hbB1.trans (ho.below_of hgN szq5)
      have sw5 := hgN.size
      replace ho := hoN
      clear hoN
      replace hv := hv_b1.below hbB1
      rw [hk, hk1] at ho
      refine go ?_
      refine ⟨i + 1 - (j + 1), by omega, j + 1, _, rfl, by omega, rfl, rfl, by show Value.int _ _ = _; congr 1 <;> omega, ho, hpm.trans hp, hbB1⟩
    refine go ?_
    refine ⟨xs.length - (i + 1), by omega, i + 1, ys, rfl, by omega, rfl, by show Value.int _ _ = _; congr 1 <;> omega, ho, hp, hbB1⟩
  refine go ?_
  exact end_one Try.results180 rfl ⟨ys, ho, hp, (hb.trans (hbB1.mono hb.size))⟩

theorem cyl_take {n : Nat} {p : List Int} {i : Nat} (hi : i < (cyc n p).length) : ((cyc n p).take (i + 1)).map (fun c => (c.length : Int)) = ((cyc n p).take i).map (fun c => (c.length : Int)) ++ [((gr (cyc n p) i).length : Int)] := by
  rw [List.take_succ_eq_append_getElem hi, List.map_append]
  simp [gr, List.getD, hi]

set_option maxHeartbeats 8000000 in
set_option maxRecDepth 100000 in
theorem l01Lengths_any (v : Value) (xs : List Int) (n : Nat) (w : World) (hv : IL w v xs) (h : Pm n xs) :
    Ret Try.prog 162 #[v] w fun r w' => ∃ ys : List Int, OI w' w.heap.size 2 r ys ∧ ys.Perm ((cyc n xs).map fun c => (c.length : Int)) ∧ Below w.heap.size w w' := by
  have shv := hv.sv
  have hb := Below.refl w.heap.size w
  refine enter1 25 Try.func162 rfl Try.ntmps162 rfl (fun fr => ?_)
  have h1000 := h.n1000
  have hcl : (cyc n xs).length ≤ n := cycTo_le
  refine go ?_
  refine s_call1 (wn rfl) rfl rfl (l01Cycles_any _ _ n _ hv h) ?_
  rintro cb w1 ⟨hcy, hb1⟩
  have sw1 := hb1.size
  replace hv := hv.below hb1
  replace hb := hb.trans (hb1.mono hb.size)
  have hcr := hcy.rl
  have scr := hcr.sv
  have hszc := hb.size
  have sbs1 := hb.size
  have hv_b1 := hv
  have hcr_b1 := hcr
  have hbB1 := Below.refl w1.heap.size w1
  refine go ?_
  have szq2 := hbB1.size
  refine s_build0 (B := w1.heap.size) (wn rfl) rfl szq2 (fun ob w2 ho so hg2 _ => ?_)
  have hb2 := below_of_grownBy hg2
  have sw2 := hb2.size
  replace hv := hv.below hb2
  replace hcr := hcr.below hb2
  replace hbB1 := hbB1.trans (hb2.mono hbB1.size)
  refine go ?_
  refine w_loop (fun kk fr w' => ∃ (i : Nat) (ob : Value), kk = (cyc n xs).length - i ∧ i ≤ (cyc n xs).length ∧ fr 3 = cb ∧ fr 4 = ob ∧ fr 5 = .int .i64 i ∧ (OI w' w1.heap.size 2 ob (((cyc n xs).take i).map fun c => (c.length : Int))) ∧ Below w1.heap.size w1 w') ((cyc n xs).length)
    ⟨0, ob, rfl, Nat.zero_le _, rfl, rfl, rfl, ho, hbB1⟩ ?_
  rintro kk fr w3 ⟨i, ob, rfl, hi, f3, f4, f5, ho, hbB1⟩
  have sw3 := hbB1.size
  have hv := hv_b1.below hbB1
  have hcr := hcr_b1.below hbB1
  have sho := ho.sv
  refine know (t := 3) f3 ?_; refine know (t := 4) f4 ?_; refine know (t := 5) f5 ?_
  refine go ?_
  refine cond_dec rfl (fun hlt => ?_) (fun hge => ?_)
  · obtain ⟨u, hu, hcu⟩ := hcr.row (j := (i : Int)) (by omega) (by omega)
    have su := hu.sv
    refine go ?_
    have szq4 := hbB1.size
    refine s_build1 (B := w1.heap.size) (wn rfl) rfl rfl szq4 (fun tb w4 ht st hg4 _ => ?_)
    have hb4 := below_of_grownBy hg4
    have sw4 := hb4.size
    replace hv := hv.below hb4
    replace hcr := hcr.below hb4
    replace ho := ho.below hb4
    replace hbB1 := hbB1.trans (hb4.mono hbB1.size)
    have szq5 := hbB1.size
    refine s_appendI (wn rfl) rfl rfl rfl ho ht.il (by simp; omega) szq5 (fun ob' w5 hoN so hgN _ => ?_)
    replace hbB1 := hbB1.trans (ho.below_of hgN szq5)
    have sw5 := hgN.size
    replace ho := hoN
    clear hoN
    replace hv := hv_b1.below hbB1
    replace hcr := hcr_b1.below hbB1
    refine go ?_
    refine ⟨(cyc n xs).length - (i + 1), by omega, i + 1, ob', rfl, by omega, rfl, rfl, rfl, by rw [cyl_take (by omega)]; exact ho, hbB1⟩
  obtain rfl : i = (cyc n xs).length := by omega
  rw [List.take_length] at ho
  have szz := (hb.trans (hbB1.mono hb.size))
  have szz2 := szz.size
  refine go ?_
  refine s_call1 (wn rfl) rfl rfl (l01Sort_any _ _ _ ho.il (by simp; omega)) ?_
  rintro _ w6 ⟨ys, hy, hp, hb6⟩
  have sw6 := hb6.size
  replace hv := hv.below hb6
  replace hcr := hcr.below hb6
  replace ho := ho.below hb6
  replace hbB1 := hbB1.trans (hb6.mono hbB1.size)
  refine go ?_
  exact end_one Try.results162 rfl ⟨ys, hy.mono (by omega), hp, (hb.trans (hbB1.mono hb.size))⟩

theorem cyl_facts {n : Nat} {p : List Int} (h : Pm n p) : ∀ x ∈ cyl n p, 1 ≤ x ∧ x ≤ n := fun x hx => by
  obtain ⟨c, hc, rfl⟩ := List.mem_map.1 hx
  exact (h.cyc_per hc).2
theorem lcms_take {L : List Nat} {i : Nat} (hi : i < L.length) : lcms (L.take (i + 1)) = Nat.lcm (lcms (L.take i)) L[i] := by
  rw [List.take_succ_eq_append_getElem hi, lcms_app, lcms_cons]
  show Nat.lcm _ (Nat.lcm _ 1) = _
  rw [Nat.lcm_one_right]
theorem lcm_le {a b : Nat} (ha : 1 ≤ a) (hb : 1 ≤ b) : Nat.lcm a b ≤ a * b := Nat.le_of_dvd (Nat.mul_pos ha hb) (Nat.lcm_dvd (Nat.dvd_mul_right _ _) (Nat.dvd_mul_left _ _))
theorem lcm_bound {a b : Nat} (ha : 1 ≤ a) (hb : 1 ≤ b) (ha2 : a ≤ 1000000000000000) (hb2 : b ≤ 1000) : Nat.lcm a b ≤ 1000000000000000000 := by
  have h1 := lcm_le ha hb
  have h2 : a * b ≤ 1000000000000000 * 1000 := Nat.mul_le_mul ha2 hb2
  omega
/-- the numbers of a list as counts -/
theorem gi_toNat {ys : List Int} {L : List Nat} (e : ys = L.map fun x : Nat => (x : Int)) {i : Nat} (hi : i < L.length) : gi ys i = (L[i] : Int) := by
  subst e
  simp [gi, List.getD, hi]
theorem perm_nats {ys : List Int} {M : List Nat} (h : ys.Perm (M.map fun x : Nat => (x : Int))) : ∃ L : List Nat, ys = L.map (fun x : Nat => (x : Int)) ∧ L.Perm M := by
  refine ⟨ys.map Int.toNat, ?_, ?_⟩
  · rw [List.map_map]
    conv => lhs; rw [← List.map_id ys]
    refine List.map_congr_left fun x hx => ?_
    obtain ⟨m, _, rfl⟩ := List.mem_map.1 (h.mem_iff.1 hx)
    simp
  · have := h.map Int.toNat
    rw [List.map_map] at this
    have e : (Int.toNat ∘ fun x : Nat => (x : Int)) = id := by funext x; simp
    rw [e, List.map_id] at this
    exact this

set_option maxHeartbeats 8000000 in
set_option maxRecDepth 100000 in
theorem PermutationOrder_any (v : Value) (xs : List Int) (n : Nat) (w : World) (hv : IL w v xs) (h : Pm n xs) (h400 : n ≤ 400) :
    Ret Try.prog 115 #[v] w fun r w' => r = .tuple #[.int .i64 (if ord n xs ≤ 1000000000000000 then ord n xs else 0 : Nat), .int .i64 (if ord n xs ≤ 1000000000000000 then 0 else 3)] ∧ Below w.heap.size w w' := by
  have shv := hv.sv
  have hb := Below.refl w.heap.size w
  refine enter1 31 Try.func115 rfl Try.ntmps115 rfl (fun fr => ?_)
  have hlen := h.len
  have hcl : (cyc n xs).length ≤ n := cycTo_le
  have hpm : decide (IsPerm xs) = true := decide_eq_true ⟨by omega, fun x hx => by rw [hlen]; exact h.rng x hx, h.nodup⟩
  have hcf := cyl_facts h
  have hpos : ∀ x ∈ cyl n xs, 1 ≤ x := fun x hx => (hcf x hx).1
  have hcyl : (cyl n xs).length = (cyc n xs).length := by simp [cyl]
  refine go ?_
  refine s_call1 (wn rfl) rfl rfl (isPermutation_any _ _ _ hv) ?_
  rintro _ w1 ⟨rfl, hb1⟩
  have sw1 := hb1.size
  replace hv := hv.below hb1
  replace hb := hb.trans (hb1.mono hb.size)
  refine go ?_
  refine s_call1 (wn rfl) rfl rfl (cyclesOf_any _ _ n _ hv h) ?_
  rintro cb w2 ⟨hcy, hb2⟩
  have sw2 := hb2.size
  replace hv := hv.below hb2
  replace hb := hb.trans (hb2.mono hb.size)
  have hcr := hcy.rl
  have scr := hcr.sv
  have sbs1 := hb.size
  have hv_b1 := hv
  have hcr_b1 := hcr
  have hbB1 := Below.refl w2.heap.size w2
  refine go ?_
  refine w_loop (fun kk fr w' => ∃ (i : Nat), kk = (cyc n xs).length - i ∧ i ≤ (cyc n xs).length ∧ fr 4 = .int .i64 (lcms ((cyl n xs).take i) : Nat) ∧ fr 12 = cb ∧ fr 13 = .int .i64 (cyc n xs).length ∧ fr 14 = .int .i64 i ∧ (lcms ((cyl n xs).take i) ≤ 1000000000000000) ∧ Below w2.heap.size w2 w') ((cyc n xs).length)
    ⟨0, rfl, Nat.zero_le _, by simp [lcms]; rfl, rfl, rfl, rfl, by simp [lcms], hbB1⟩ ?_
  rintro kk fr w3 ⟨i, rfl, hi, f4, f12, f13, f14, hoM, hbB1⟩
  have sw3 := hbB1.size
  have hv := hv_b1.below hbB1
  have hcr := hcr_b1.below hbB1
  refine know (t := 4) f4 ?_; refine know (t := 12) f12 ?_; refine know (t := 13) f13 ?_; refine know (t := 14) f14 ?_
  refine go ?_
  refine cond_dec rfl (fun hlt => ?_) (fun hge => ?_)
  · obtain ⟨u, hu, hcu⟩ := hcr.row (j := (i : Int)) (by omega) (by omega)
    have su := hu.sv
    have hgr : (gr (cyc n xs) i).length = (cyl n xs)[i]'(by omega) := by
      have : i < (cyc n xs).length := by omega
      simp [cyl, gr, List.getD, this]
    have hx12 := hcf _ (List.getElem_mem (l := cyl n xs) (n := i) (by omega))
    have hts := lcms_take (L := cyl n xs) (i := i) (by omega)
    have ho1 := lcms_pos (L := (cyl n xs).take i) (fun x hx => hpos x (List.mem_of_mem_take hx))
    have hpre := lcms_pre hpos (i + 1)
    have htot : lcms (cyl n xs) = ord n xs := rfl
    rw [htot] at hpre
    rw [← hgr] at hts hx12
    generalize (gr (cyc n xs) i).length = x at *
    generalize ho : lcms ((cyl n xs).take i) = o at *
    have hx1 := hx12.1
    have hg1 : 1 ≤ Nat.gcd o x := Nat.gcd_pos_of_pos_left _ (by omega)
    have hlb := lcm_bound ho1 hx1 hoM (by omega)
    refine go ?_
    refine s_call1 (wn rfl) rfl rfl (size_any _ _ _ su) ?_
    rintro _ _ ⟨rfl, rfl⟩
    refine go ?_
    refine s_call2 (wn rfl) rfl rfl rfl (gcd_any _ _ _ o x rfl rfl (by omega) (by omega)) ?_
    rintro _ w4 ⟨rfl, hb4⟩
    have sw4 := hb4.size
    replace hv := hv.below hb4
    replace hcr := hcr.below hb4
    replace hbB1 := hbB1.trans (hb4.mono hbB1.size)
    have hq : ((x : Int) / (Nat.gcd o x : Nat)) = ((x / Nat.gcd o x : Nat) : Int) := (Int.natCast_ediv _ _).symm
    have hml : ((o : Int) * ((x / Nat.gcd o x : Nat) : Int)) = ((Nat.lcm o x : Nat) : Int) := by rw [← Int.natCast_mul, lcm_mul o x ho1 hx1]
    refine go ?_
    rw [hq]
    refine s_p (wn rfl) rfl (y_mul rfl rfl (by rw [hml]; omega)) ?_
    rw [hml]
    refine go ?_
    refine cond_dec rfl (fun hov => ?_) (fun hov => ?_)
    · have hno : ¬ ord n xs ≤ 1000000000000000 := by omega
      refine go ?_
      exact end_two Try.results115 rfl rfl ⟨by rw [if_neg hno, if_neg hno]; rfl, (hb.trans (hbB1.mono hb.size))⟩
    refine go ?_
    refine ⟨(cyc n xs).length - (i + 1), by omega, i + 1, rfl, by omega, by rw [hts]; rfl, rfl, rfl, rfl, by omega, hbB1⟩
  obtain rfl : i = (cyc n xs).length := by omega
  rw [List.take_of_length_le (by omega)] at hoM
  have htot : lcms (cyl n xs) = ord n xs := rfl
  rw [htot] at hoM
  have hta : (cyl n xs).take (cyc n xs).length = cyl n xs := List.take_of_length_le (by omega)
  refine go ?_
  exact end_two Try.results115 rfl rfl ⟨by rw [if_pos hoM, if_pos hoM, hta]; rfl, (hb.trans (hbB1.mono hb.size))⟩

set_option maxHeartbeats 8000000 in
set_option maxRecDepth 100000 in
theorem l01Order_any (v : Value) (xs : List Int) (n : Nat) (w : World) (hv : IL w v xs) (h : Pm n xs) (h400 : n ≤ 400) :
    Ret Try.prog 117 #[v] w fun r w' => r = .int .i64 (if ord n xs ≤ 1000000000000000 then ord n xs else 1000000000000001 : Nat) ∧ Below w.heap.size w w' := by
  have shv := hv.sv
  have hb := Below.refl w.heap.size w
  refine enter1 30 Try.func117 rfl Try.ntmps117 rfl (fun fr => ?_)
  have hlen := h.len
  have hcl : (cyc n xs).length ≤ n := cycTo_le
  have hcf := cyl_facts h
  have hcyl : (cyl n xs).length = (cyc n xs).length := by simp [cyl]
  refine go ?_
  refine s_call1 (wn rfl) rfl rfl (l01Lengths_any _ _ n _ hv h) ?_
  rintro yb w1 ⟨ys, hy, hp, hb1⟩
  have sw1 := hb1.size
  replace hv := hv.below hb1
  replace hb := hb.trans (hb1.mono hb.size)
  have hyi := hy.il
  have e0 : ((cyc n xs).map fun c => (c.length : Int)) = (cyl n xs).map fun x : Nat => (x : Int) := by simp [cyl, List.map_map]
  rw [e0] at hp
  obtain ⟨L, hL, hLp⟩ := perm_nats hp
  have hyL : ys.length = L.length := by rw [hL]; simp
  have hLl := hLp.length_eq
  have hLf : ∀ x ∈ L, 1 ≤ x ∧ x ≤ n := fun x hx => hcf x (hLp.mem_iff.1 hx)
  have hpos : ∀ x ∈ L, 1 ≤ x := fun x hx => (hLf x hx).1
  have htot : lcms L = ord n xs := lcms_perm hLp
  have syi := hyi.sv
  have sbs1 := hb.size
  have hv_b1 := hv
  have hyi_b1 := hyi
  have hbB1 := Below.refl w1.heap.size w1
  refine go ?_
  refine w_loop (fun kk fr w' => ∃ (i : Nat), kk = L.length - i ∧ i ≤ L.length ∧ fr 3 = yb ∧ fr 4 = .int .i64 (lcms (L.take i) : Nat) ∧ fr 5 = .int .i64 i ∧ (lcms (L.take i) ≤ 1000000000000000) ∧ Below w1.heap.size w1 w') (L.length)
    ⟨0, rfl, Nat.zero_le _, rfl, by simp [lcms]; rfl, rfl, by simp [lcms], hbB1⟩ ?_
  rintro kk fr w2 ⟨i, rfl, hi, f3, f4, f5, hoM, hbB1⟩
  have sw2 := hbB1.size
  have hv := hv_b1.below hbB1
  have hyi := hyi_b1.below hbB1
  refine know (t := 3) f3 ?_; refine know (t := 4) f4 ?_; refine know (t := 5) f5 ?_
  refine go ?_
  refine cond_dec rfl (fun hlt => ?_) (fun hge => ?_)
  · have hgi := gi_toNat hL (i := i) (by omega)
    have hx12 := hLf _ (List.getElem_mem (l := L) (n := i) (by omega))
    have hts := lcms_take (L := L) (i := i) (by omega)
    have ho1 := lcms_pos (L := L.take i) (fun x hx => hpos x (List.mem_of_mem_take hx))
    have hpre := lcms_pre hpos (i + 1)
    rw [htot] at hpre
    generalize hxe : L[i]'(by omega) = x at *
    generalize ho : lcms (L.take i) = o at *
    have hx1 := hx12.1
    have hg1 : 1 ≤ Nat.gcd o x := Nat.gcd_pos_of_pos_left _ (by omega)
    have hlb := lcm_bound ho1 hx1 hoM (by omega)
    have hq : ((o : Int) / (Nat.gcd o x : Nat)) = ((o / Nat.gcd o x : Nat) : Int) := (Int.natCast_ediv _ _).symm
    have hml : (((o / Nat.gcd o x : Nat) : Int) * (x : Int)) = ((Nat.lcm o x : Nat) : Int) := by rw [← Int.natCast_mul, lcm_mul2 o x ho1 hx1]
    refine go ?_
    refine region_h mixed (fun w3 hc3 => ?_)
    have swr3 := hc3.size
    refine h_p 0 hc3 ?_
    refine h_p 1 hc3 ?_
    refine h_p 2 hc3 ?_
    refine h_p 3 hc3 ?_
    refine h_p 4 hc3 ?_
    refine h_p 5 hc3 ?_
    refine h_p 8 hc3 ?_
    refine h_p 9 hc3 ?_
    refine h_p 10 hc3 ?_
    refine h_p 11 hc3 ?_
    rw [hgi]
    refine h_one 6 ?_
    refine s_call2 (wn rfl) rfl rfl rfl (l01Common_any _ _ _ o x rfl rfl (by omega) (by omega)) ?_
    rintro _ w4 ⟨rfl, hb4⟩
    have hc4 := hc3.trans (hb4.mono hc3.size)
    refine w_nil ?_
    refine h_on ⟨hc4, ?_⟩
    refine h_p 7 hc4 ?_
    rw [hq]
    refine h_p 12 hc4 ?_ (hrun := fun w _ => y_mul rfl rfl (by rw [hml]; omega))
    rw [hml]
    refine h_p 13 hc4 ?_
    refine h_nil ?_
    have sw4 := hc4.size
    replace hv := hv.below hc4
    replace hyi := hyi.below hc4
    replace hbB1 := hbB1.trans (hc4.mono hbB1.size)
    refine go ?_
    refine cond_dec rfl (fun hov => ?_) (fun hov => ?_)
    · have hno : ¬ ord n xs ≤ 1000000000000000 := by omega
      refine go ?_
      exact end_one Try.results117 rfl ⟨by rw [if_neg hno]; rfl, (hb.trans (hbB1.mono hb.size))⟩
    refine go ?_
    refine ⟨L.length - (i + 1), by omega, i + 1, rfl, by omega, rfl, by rw [hts]; rfl, rfl, by omega, hbB1⟩
  obtain rfl : i = L.length := by omega
  rw [List.take_length, htot] at hoM
  have hta : lcms (L.take L.length) = ord n xs := by rw [List.take_length, htot]
  refine go ?_
  exact end_one Try.results117 rfl ⟨by rw [if_pos hoM, hta], (hb.trans (hbB1.mono hb.size))⟩

end Go.Proofs.Ytmdimdbfgibflaa
