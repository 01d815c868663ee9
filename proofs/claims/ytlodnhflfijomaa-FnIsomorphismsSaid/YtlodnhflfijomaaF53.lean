/- Contracts: maps drawn at random. -/
import Derived.Test.YtlodnhflfijomaaF52
import Derived.Test.YtlodnhflfijomaaF46
import Derived.Test.YtlodnhflfijomaaRp
namespace Go.Mem
open Go.RowKit
set_option linter.unusedVariables false
theorem Ap.low {u v : Value} {n : Nat} {w : World} {T : TypeId} {xs : List Int} (hu : ∀ g, u.ownBlock = some g → g < n) (hv : OI w n T v xs) : Ap u v := by
  unfold Ap
  cases e : u.ownBlock with
  | none => exact .inl rfl
  | some g => refine .inr fun e2 => ?_; have := hu g e; have := (hv.lt g e2.symm).1; omega
theorem RL.three {w : World} {B : Nat} {T : TypeId} {v a b c : Value} {xs ys zs : List Int} (h : Own w B T v [a, b, c]) (h1 : IL w a xs) (h2 : IL w b ys) (h3 : IL w c zs) : RL w v [xs, ys, zs] := by
  refine ⟨[a, b, c], h.rd, rfl, fun i u ys ha hy => ?_⟩
  match i, ha, hy with
  | 0, ha, hy => simp at ha hy; subst ha hy; exact h1
  | 1, ha, hy => simp at ha hy; subst ha hy; exact h2
  | 2, ha, hy => simp at ha hy; subst ha hy; exact h3
  | i + 3, ha, hy => simp at ha
theorem xor_two (m : Nat) : (m ^^^ 2 : Nat) = if m % 4 < 2 then m + 2 else m - 2 := by
  have h1 : (m ^^^ 2) / 2 = m / 2 ^^^ 1 := by rw [Nat.xor_div_two]
  have h2 := xor_one (m / 2)
  have h3 : (m ^^^ 2) % 2 = 1 ↔ ¬ (m % 2 = 1 ↔ 2 % 2 = 1) := Nat.xor_mod_two_eq_one
  rw [h2] at h1
  split at h1 <;> split <;> omega
section
variable {P : Program} {ops : Array Oper} {Q : Exit → Fm → World → Prop} {n : Nat} {f : Fm} {w : World} {dst : Option Tmp} {rest : List Oper} {ty : TypeId} {pos : String} {after : Array Edge} {g : Option (Nat × Bool)} {d : Nat}
theorem y_xor2 {x : Operand} {a : Int} {tx ty' : TypeId} (hx : lk n f x = some (.int .i64 a)) (h : 0 ≤ a ∧ a < 4294967296) :
    Yld P (evo n f) ⟨dst, .binOp .xor tx x (.const (.int .i64 2)) ty', ty, pos, after, g⟩ w (.int .i64 (if a % 4 < 2 then a + 2 else a - 2)) := by
  replace hx := lk_evo hx
  constructor
  obtain ⟨m, rfl⟩ : ∃ m : Nat, a = m := ⟨a.toNat, by omega⟩
  have hm : m < 4294967296 := by omega
  have e : (BitVec.ofInt 64 (m : Int) ^^^ BitVec.ofInt 64 2).toNat = m ^^^ 2 := by
    rw [BitVec.toNat_xor]
    have h1 : (BitVec.ofInt 64 (m : Int)).toNat = m := by rw [BitVec.toNat_ofInt]; omega
    have h2 : (BitVec.ofInt 64 2).toNat = 2 := by decide
    rw [h1, h2]
  have hx1 := xor_two m
  have hv : ((m ^^^ 2 : Nat) : Int) = if (m : Int) % 4 < 2 then (m : Int) + 2 else (m : Int) - 2 := by
    rw [hx1]; split <;> split <;> omega
  have e2 := wrap_small (k := .i64) (a := ((m ^^^ 2 : Nat) : Int)) (.inl rfl) (by rw [hv]; split <;> omega)
  have e' : IntKind.i64.wrap ((BitVec.ofInt IntKind.i64.bits (m : Int) ^^^ BitVec.ofInt IntKind.i64.bits 2).toNat : Int) = if (m : Int) % 4 < 2 then (m : Int) + 2 else (m : Int) - 2 := by
    show IntKind.i64.wrap ((BitVec.ofInt 64 (m : Int) ^^^ BitVec.ofInt 64 2).toNat : Int) = _
    rw [e, e2, hv]
  have hc : evo n f (.const (.int .i64 2)) = .int .i64 2 := rfl
  simp [execOp, hx, hc, eqGuard, binOp, Op.intBits, -BitVec.toNat_xor]
  simpa [-BitVec.toNat_xor] using e'
theorem s_build3V {B : Nat} {t e : TypeId} {z : Value} {bytes : Nat} {x y z' : Operand} {u v0 v1 : Value} [ht : SliceTy P t e] [he : CellTy P e z bytes]
    (hw : Wants ⟨some d, .buildSlice t 3 #[(0, x), (1, y), (2, z')], ty, pos, after, g⟩ ops n f) (hd : Nat.ble (d + 1) n = true)
    (hx : lk n f x = some u) (hy : lk n f y = some v0) (hz : lk n f z' = some v1) (hu : u.oneCell' = true) (hv : v0.oneCell' = true) (hv1 : v1.oneCell' = true) (hB : B ≤ w.heap.size)
    (k : ∀ v w', Own w' B e v [u, v0, v1] → SV v 3 → w.grownBy w' none → v.ownBlock = some w.heap.size → WL P ops Q rest n (.upd f d v) w') :
    WL P ops Q (⟨some d, .buildSlice t 3 #[(0, x), (1, y), (2, z')], ty, pos, after, g⟩ :: rest) n f w :=
  s_build [u, v0, v1] hw hd (by simp [lk_evo hx, lk_evo hy, lk_evo hz]; rfl) (by decide) rfl (by intro a ha; simp at ha; rcases ha with rfl | rfl | rfl <;> assumption) hB fun v w' ho hg hb => k v w' ho ho.rd.sv hg hb
end
theorem Syst.three {n : Nat} {xs ys zs : List Int} (h1 : xs.length = n) (h2 : ys.length = n) (h5 : zs.length = n) (h3 : ∀ x ∈ xs, 0 ≤ x ∧ x < n) (h4 : ∀ x ∈ ys, 0 ≤ x ∧ x < n) (h6 : ∀ x ∈ zs, 0 ≤ x ∧ x < n) : Syst n [xs, ys, zs] := by
  intro m hm
  simp at hm
  rcases hm with rfl | rfl | rfl
  · exact ⟨h1, h3⟩
  · exact ⟨h2, h4⟩
  · exact ⟨h5, h6⟩
end Go.Mem
namespace Go.Proofs.Ytlodnhflfijomaa
open Go.Mem Go.RowKit
set_option linter.unusedVariables false
set_option linter.unusedSimpArgs false

set_option maxHeartbeats 8000000 in
set_option maxRecDepth 100000 in
theorem l02Map_any  (ed : Int) (q B : Nat) (c : Value) (bs : List Int) (E : Nat) (w : World)  (ee : ed = E) (h1 : 1 ≤ E) (hE : 4 * E ≤ 1000) (hs : Sr w B q 140 c bs) :
    Ret Try.prog 209 #[.pointer (some ⟨q, 0, none⟩), .int .i64 ed] w fun r w' => ∃ x xss, ∃ N : Nat, r = .agg #[x] ∧ OM w' w.heap.size w'.heap.size 40 2 x xss ∧ xss.length = 3 ∧ (1 ≤ N ∧ N ≤ 4 * E) ∧ Syst N xss ∧ Sr w' B q 140 c bs ∧ w.grownBy w' (some q) := by
  have hb := Below.refl w.heap.size w
  refine enter2 96 Try.func209 rfl Try.ntmps209 rfl (fun fr => ?_)
  have hql := hs.lt
  refine go2 ?_
  refine s_alloc (B := w.heap.size) (wn rfl) rfl (Nat.le_refl _) (fun w1 p4 hx4 hg1 hp4 => ?_)
  have hb1 := below_of_grownBy hg1
  have z1 := hb1.size
  have hlt4 := hx4.lt
  replace hs := hs.below hb1
  refine go2 ?_
  refine s_p (wn rfl) rfl (y_mul rfl rfl (by constructor <;> omega)) ?_
  refine go2 ?_
  refine s_build0 (B := w1.heap.size) (wn rfl) rfl (Nat.le_refl _) (fun zb w2 hz so2 hg2 hzb => ?_)
  have hb2 := below_of_grownBy hg2
  have z2 := hb2.size
  replace hs := hs.below hb2
  replace hx4 := hx4.below hb2
  have hltz := fun g hg => (hz.lt g hg).2
  refine go2 ?_
  refine s_build0 (B := w1.heap.size) (wn rfl) rfl z2 (fun tb w3 ht so3 hg3 htb => ?_)
  have hb3 := below_of_grownBy hg3
  have z3 := hb3.size
  replace hs := hs.below hb3
  replace hx4 := hx4.below hb3
  replace hz := hz.below hb3
  have hltt := fun g hg => (ht.lt g hg).2
  refine go2 ?_
  refine s_call2 (wn rfl) rfl rfl rfl (l01Matching_any q B c bs (4 * ed) (4 * E) _ (by omega) (by omega) hs) ?_
  rintro ov w4 ⟨ps, ho, hpl, hpr, hs4, hg4⟩
  have z4 := hg4.size
  replace hs := hs4
  replace hz := hz.kept hg4 (hz.apart_blk (by omega))
  replace ht := ht.kept hg4 (ht.apart_blk (by omega))
  replace hx4 := hx4.kept hg4 (by intro e; have := Option.some.inj e; omega)
  have apzt : Ap zb tb := Ap.new hltz htb
  have aptz := apzt.symm
  have apzo : Ap zb ov := Ap.low (fun g hg => by have := hltz g hg; omega) ho
  have apto : Ap tb ov := Ap.low hltt ho
  have apoz := apzo.symm
  have apot := apto.symm
  replace ho := ho.mono (B' := w1.heap.size) (by omega)
  have hg : w.grownBy w4 (some q) := grownBy_trans (grownBy_trans (grownBy_trans (grownBy_of_below hb1 _) (grownBy_of_below hb2 _)) (grownBy_of_below hb3 _)) hg4
  refine go2 ?_
  refine w_loop (fun kk fr w' => ∃ (i : Nat) (zv tv : Value) (Z Y : List Int), kk = 4 * E - i ∧ i ≤ 4 * E ∧ fr 4 = .pointer (some p4) ∧ fr 5 = .int .i64 (4 * ed) ∧ fr 6 = zv ∧ fr 7 = tv ∧ fr 8 = ov ∧ fr 9 = .int .i64 i ∧ OI w' w1.heap.size 2 zv Z ∧ OI w' w1.heap.size 2 tv Y ∧ Z.length = i ∧ Y.length = i ∧ (∀ x ∈ Z, 0 ≤ x ∧ x < (4 * E : Nat)) ∧ (∀ x ∈ Y, 0 ≤ x ∧ x < (4 * E : Nat)) ∧ OI w' w1.heap.size 2 ov ps ∧ Ap zv tv ∧ Ap ov zv ∧ Ap ov tv ∧ Bx w' w.heap.size p4 28 (.slice none 0 0) ∧ Sr w' B q 140 c bs ∧ w.grownBy w' (some q) ∧ w1.heap.size ≤ w'.heap.size) (4 * E)
    ⟨0, zb, tb, [], [], rfl, Nat.zero_le _, rfl, rfl, rfl, rfl, rfl, rfl, hz, ht, rfl, rfl, fun x h => by simp at h, fun x h => by simp at h, ho, apzt, apoz, apot, hx4, hs, hg, by omega⟩ ?_
  clear hz ht ho apzt aptz apzo apto apoz apot hx4 hs hg hs4 hltz hltt
  rintro kk fr w5 ⟨i, zv, tv, Z, Y, rfl, hi, f4, f5, f6, f7, f8, f9, hz, ht, hZl, hYl, hZr, hYr, ho, apzt, apoz, apot, hx4, hs, hg, hge5⟩
  have aptz := apzt.symm
  refine know (t := 4) f4 ?_; refine know (t := 5) f5 ?_; refine know (t := 6) f6 ?_; refine know (t := 7) f7 ?_; refine know (t := 8) f8 ?_; refine know (t := 9) f9 ?_
  refine go2 ?_
  refine cond_dec rfl (fun hlt => ?_) (fun hge => ?_)
  · refine go2 ?_
    refine s_p (wn rfl) rfl (y_xor1 rfl ⟨by omega, by omega⟩) ?_
    refine go2 ?_
    have zcz := hg.size
    refine s_build1 (B := w.heap.size) (wn rfl) rfl rfl (by omega) (fun bbz wbz hbz stz hgbz _ => ?_)
    have hbbz := below_of_grownBy hgbz
    replace hz := hz.below hbbz
    replace ht := ht.below hbbz
    replace ho := ho.below hbbz
    replace hx4 := hx4.below hbbz
    replace hs := hs.below hbbz
    replace hg := gr_step hg hgbz (fun k hk => by cases hk)
    have zdz := hg.size
    have hzbz := hbbz.size
    refine s_appendI (wn rfl) rfl rfl rfl hz hbz.il (by simp; omega) (by omega) (fun zv' waz hN so hgN hgrow => ?_)
    have hzNz := hgN.size
    have hltt := fun g hg => (ht.lt g hg).2
    have hlto := fun g hg => (ho.lt g hg).2
    replace hg := gr_step hg hgN (fun k hk => by have := (hz.lt k hk).1; omega)
    replace hs := hs.kept hgN (fun k hk => ⟨by have := (hz.lt k hk).1; have := hs.low; omega, by have := (hz.lt k hk).1; omega⟩)
    replace hx4 := hx4.kept hgN (by intro e; have := (hz.lt _ e).1; omega)
    replace ho := ho.kept hgN apoz
    replace ht := ht.kept hgN aptz
    replace apoz := apoz.grow hlto hgrow
    replace aptz := aptz.grow hltt hgrow
    have apzt := aptz.symm
    replace hz := hN
    clear hN hltt hlto hgrow
    refine go2 ?_
    refine s_p (wn rfl) rfl (y_xor2 rfl ⟨by omega, by omega⟩) ?_
    refine go2 ?_
    have zct := hg.size
    refine s_build1 (B := w.heap.size) (wn rfl) rfl rfl (by omega) (fun bbt wbt hbt stt hgbt _ => ?_)
    have hbbt := below_of_grownBy hgbt
    replace hz := hz.below hbbt
    replace ht := ht.below hbbt
    replace ho := ho.below hbbt
    replace hx4 := hx4.below hbbt
    replace hs := hs.below hbbt
    replace hg := gr_step hg hgbt (fun k hk => by cases hk)
    have zdt := hg.size
    have hzbt := hbbt.size
    refine s_appendI (wn rfl) rfl rfl rfl ht hbt.il (by simp; omega) (by omega) (fun tv' wat hN so hgN hgrow => ?_)
    have hzNt := hgN.size
    have hltz := fun g hg => (hz.lt g hg).2
    have hlto := fun g hg => (ho.lt g hg).2
    replace hg := gr_step hg hgN (fun k hk => by have := (ht.lt k hk).1; omega)
    replace hs := hs.kept hgN (fun k hk => ⟨by have := (ht.lt k hk).1; have := hs.low; omega, by have := (ht.lt k hk).1; omega⟩)
    replace hx4 := hx4.kept hgN (by intro e; have := (ht.lt _ e).1; omega)
    replace ho := ho.kept hgN apot
    replace hz := hz.kept hgN apzt
    replace apot := apot.grow hlto hgrow
    replace apzt := apzt.grow hltz hgrow
    have aptz := apzt.symm
    replace ht := hN
    clear hN hltz hlto hgrow
    refine go2 ?_
    exact ⟨4 * E - (i + 1), by omega, i + 1, _, _, _, _, rfl, by omega, rfl, rfl, rfl, rfl, rfl, rfl, hz, ht, by simp [hZl], by simp [hYl], fun x hx => by
      rcases List.mem_append.1 hx with hx | hx
      · exact hZr x hx
      · simp at hx; subst hx; split <;> omega, fun x hx => by
      rcases List.mem_append.1 hx with hx | hx
      · exact hYr x hx
      · simp at hx; subst hx; split <;> omega, ho, apzt, apoz, apot, hx4, hs, hg, by omega⟩
  obtain rfl : i = 4 * E := by omega
  have sz := hz.sv
  have st := ht.sv
  have so := ho.sv
  have z5 := hg.size
  refine go2 ?_
  refine Go.Mem.s_build3V (B := w1.heap.size) (wn rfl) rfl rfl rfl rfl sz.one so.one st.one hge5 (fun mb w6 hm sm hg6 _ => ?_)
  have hb6 := below_of_grownBy hg6
  have hmv := RL.three hm (hz.below hb6).il (ho.below hb6).il (ht.below hb6).il
  have hsys : Syst (4 * E) [Z, ps, Y] := Syst.three hZl hpl hYl hZr hpr hYr
  replace hs := hs.below hb6
  replace hx4 := hx4.below hb6
  replace hg := gr_step hg hg6 (fun k hk => by cases hk)
  generalize hM : [Z, ps, Y] = M at *
  have hMl : M.length = 3 := by rw [← hM]; rfl
  refine go2 ?_
  refine s_call2 (wn rfl) rfl rfl rfl (l01Orbit_any _ _ (4 * E) 0 _ hmv hsys (by omega) (by omega) (by omega)) ?_
  rintro orb w7 ⟨hor, hb7⟩
  replace hs := hs.below hb7
  replace hx4 := hx4.below hb7
  replace hmv := hmv.below hb7
  replace hg := gr_step hg (grownBy_of_below hb7 none) (fun k hk => by cases hk)
  have hor := hor.il
  have hOr := orbit_rng hsys (flag := 0) (by omega) (by omega)
  have hO1 : 1 ≤ (orbit M 0).length := List.length_pos_of_mem ((mem_orbit hsys (p := 0) (by omega) (by omega)).2 (Rch.refl _))
  have hOl := orbit_le hsys (p := 0) (by omega) (by omega)
  have soM := hor.sv
  generalize hOO : orbit M 0 = O at *
  clear hOO
  have en2 : (4 * ed).toNat = 4 * E := by omega
  have hgW := hg
  have hb := Below.refl w7.heap.size w7
  have sbs1 := hb.size
  have hmv_b1 := hmv
  have hor_b1 := hor
  have hx4_b1 := hx4
  have hs_b1 := hs
  have hbB1 := Below.refl w7.heap.size w7
  refine go ?_
  refine go ?_
  have szq11 := hbB1.size
  refine s_makeI (B := w7.heap.size) (wn rfl) rfl rfl rfl (by omega) (by omega) szq11 (fun nb w11 hn sohn hg11 _ => ?_)
  have hb11 := below_of_grownBy hg11
  have sw11 := hb11.size
  replace hmv := hmv.below hb11
  replace hor := hor.below hb11
  replace hx4 := hx4.below hb11
  replace hs := hs.below hb11
  replace hbB1 := hbB1.trans (hb11.mono hbB1.size)
  rw [en2] at hn
  refine go ?_
  refine w_loop (fun kk fr w' => ∃ (i : Nat) (NL : List Int), kk = O.length - i ∧ i ≤ O.length ∧ fr 4 = .pointer (some p4) ∧ fr 10 = mb ∧ fr 11 = orb ∧ fr 12 = nb ∧ fr 13 = .int .i64 i ∧ (OI w' w7.heap.size 2 nb NL) ∧ (NL.length = 4 * E) ∧ (∀ x ∈ NL, 0 ≤ x ∧ x < (O.length : Int)) ∧ Below w7.heap.size w7 w') (O.length)
    ⟨0, _, rfl, Nat.zero_le _, rfl, rfl, rfl, rfl, rfl, hn, by simp, fun x hx => by
        have := (List.mem_replicate.1 hx).2
        subst this; omega, hbB1⟩ ?_
  rintro kk fr w12 ⟨i, NL, rfl, hi, f4, f10, f11, f12, f13, hn, hNl, hNr, hbB1⟩
  have sw12 := hbB1.size
  have hmv := hmv_b1.below hbB1
  have hor := hor_b1.below hbB1
  have hx4 := hx4_b1.below hbB1
  have hs := hs_b1.below hbB1
  have shn := hn.sv
  refine know (t := 4) f4 ?_; refine know (t := 10) f10 ?_; refine know (t := 11) f11 ?_; refine know (t := 12) f12 ?_; refine know (t := 13) f13 ?_
  refine go ?_
  refine cond_dec rfl (fun hlt => ?_) (fun hge => ?_)
  · have hoy := hOr _ (gi_mem (xs := O) (j := (i : Int)) (by omega) (by omega))
    refine go ?_
    have szq13 := hbB1.size
    refine s_storeI (wn rfl) rfl rfl hn (by omega) (by omega) (fun w13 hoN hgN => ?_)
    replace hbB1 := hbB1.trans (hn.below_of hgN szq13)
    have sw13 := hgN.size
    replace hn := hoN
    clear hoN
    replace hmv := hmv_b1.below hbB1
    replace hor := hor_b1.below hbB1
    replace hx4 := hx4_b1.below hbB1
    replace hs := hs_b1.below hbB1
    refine go ?_
    refine ⟨O.length - (i + 1), by omega, i + 1, _, rfl, by omega, rfl, rfl, rfl, rfl, rfl, hn, by rw [seti_len]; exact hNl, seti_all hNr (by omega), hbB1⟩
  obtain rfl : i = O.length := by omega
  have sbs2 := hbB1.size
  have hmv_b2 := hmv
  have hor_b2 := hor
  have hx4_b2 := hx4
  have hs_b2 := hs
  have hn_b2 := hn
  have hbB2 := Below.refl w12.heap.size w12
  refine go ?_
  refine s_p (wn rfl) rfl y_bld0 ?_
  refine go ?_
  refine s_alloc (B := w12.heap.size) (wn rfl) rfl (by first | exact Nat.le_refl _ | omega) (fun w14 p14 hx14 hg14 hpp14 => ?_)
  have hb14 := below_of_grownBy hg14
  have sw14 := hb14.size
  replace hmv := hmv.below hb14
  replace hor := hor.below hb14
  replace hx4 := hx4.below hb14
  replace hs := hs.below hb14
  replace hn := hn.below hb14
  replace hbB2 := hbB2.trans (hb14.mono hbB2.size)
  have hlt_hx14 := hx14.lt
  refine go ?_
  refine s_storeBox (wn rfl) rfl rfl rfl hx14 (fun w15 hxN hgN => ?_)
  replace hbB2 := hbB2.trans (hx14.below_of hgN hbB2.size)
  have sw15 := hgN.size
  replace hx14 := hxN
  replace hmv := hmv_b2.below hbB2
  replace hor := hor_b2.below hbB2
  replace hx4 := hx4_b2.below hbB2
  replace hs := hs_b2.below hbB2
  replace hn := hn_b2.below hbB2
  refine go ?_
  refine w_loop (fun kk fr w' => ∃ (i : Nat) (ob : Value) (xss : List (List Int)), kk = 3 - i ∧ i ≤ 3 ∧ fr 4 = .pointer (some p4) ∧ fr 10 = mb ∧ fr 11 = orb ∧ fr 12 = nb ∧ fr 14 = .pointer (some p14) ∧ fr 15 = .int .i64 i ∧ (Bx w' w12.heap.size p14 28 ob) ∧ (OM w' w15.heap.size w'.heap.size 40 2 ob xss) ∧ (w15.heap.size ≤ w'.heap.size) ∧ (xss.length = i) ∧ (Syst O.length xss) ∧ Below w12.heap.size w12 w') (3)
    ⟨0, _, [], rfl, Nat.zero_le _, rfl, rfl, rfl, rfl, rfl, rfl, hx14, OM.nil _ _ _ _ _, Nat.le_refl _, rfl, fun m h => by simp at h, hbB2⟩ ?_
  rintro kk fr w16 ⟨i, ob, xss, rfl, hi, f4, f10, f11, f12, f14, f15, hx14, ho, hge14, hxl, hxs, hbB2⟩
  have sw16 := hbB2.size
  have hmv := hmv_b2.below hbB2
  have hor := hor_b2.below hbB2
  have hx4 := hx4_b2.below hbB2
  have hs := hs_b2.below hbB2
  have hn := hn_b2.below hbB2
  have sho := ho.sv
  refine know (t := 4) f4 ?_; refine know (t := 10) f10 ?_; refine know (t := 11) f11 ?_; refine know (t := 12) f12 ?_; refine know (t := 14) f14 ?_; refine know (t := 15) f15 ?_
  refine go ?_
  refine cond_dec rfl (fun hlt => ?_) (fun hge => ?_)
  · refine go ?_
    have sbs3 := hbB2.size
    have hmv_b3 := hmv
    have hor_b3 := hor
    have hx4_b3 := hx4
    have hs_b3 := hs
    have hn_b3 := hn
    have ho_b3 := ho
    have hx14_b3 := hx14
    have hbB3 := Below.refl w16.heap.size w16
    obtain ⟨u, hu_b3, hcu_b3⟩ := hmv_b3.row (j := (i : Int)) (by omega) (by omega)
    have hrow := hsys.row (j := (i : Int)) (by omega) (by omega)
    have su := hu_b3.sv
    have hu := hu_b3.below hbB3
    have hcu := cell_below hcu_b3 hbB3
    refine go ?_
    have szq17 := hbB3.size
    refine s_build0 (B := w16.heap.size) (wn rfl) rfl szq17 (fun rb w17 hr so hg17 _ => ?_)
    have hb17 := below_of_grownBy hg17
    have sw17 := hb17.size
    replace hmv := hmv.below hb17
    replace hor := hor.below hb17
    replace hx4 := hx4.below hb17
    replace hs := hs.below hb17
    replace hn := hn.below hb17
    replace ho := ho.below hb17
    replace hx14 := hx14.below hb17
    replace hu := hu.below hb17
    replace hcu := cell_below hcu hb17
    replace hbB3 := hbB3.trans (hb17.mono hbB3.size)
    refine go ?_
    refine go ?_
    refine w_loop (fun kk fr w' => ∃ (t : Nat) (rb : Value) (L : List Int), kk = O.length - t ∧ t ≤ O.length ∧ fr 4 = .pointer (some p4) ∧ fr 10 = mb ∧ fr 11 = orb ∧ fr 12 = nb ∧ fr 14 = .pointer (some p14) ∧ fr 15 = .int .i64 i ∧ fr 16 = rb ∧ fr 17 = .int .i64 t ∧ (OI w' w16.heap.size 2 rb L) ∧ (L.length = t) ∧ (∀ x ∈ L, 0 ≤ x ∧ x < (O.length : Int)) ∧ Below w16.heap.size w16 w') (O.length)
      ⟨0, rb, [], rfl, Nat.zero_le _, rfl, rfl, rfl, rfl, rfl, rfl, rfl, rfl, hr, rfl, fun x h => by simp at h, hbB3⟩ ?_
    rintro kk fr w18 ⟨t, rb, L, rfl, ht, f4, f10, f11, f12, f14, f15, f16, f17, hr, hLl, hLr, hbB3⟩
    have sw18 := hbB3.size
    have hmv := hmv_b3.below hbB3
    have hor := hor_b3.below hbB3
    have hx4 := hx4_b3.below hbB3
    have hs := hs_b3.below hbB3
    have hn := hn_b3.below hbB3
    have ho := ho_b3.below hbB3
    have hx14 := hx14_b3.below hbB3
    have hu := hu_b3.below hbB3
    have hcu := cell_below hcu_b3 hbB3
    have shr := hr.sv
    refine know (t := 4) f4 ?_; refine know (t := 10) f10 ?_; refine know (t := 11) f11 ?_; refine know (t := 12) f12 ?_; refine know (t := 14) f14 ?_; refine know (t := 15) f15 ?_; refine know (t := 16) f16 ?_; refine know (t := 17) f17 ?_
    refine go ?_
    refine cond_dec rfl (fun hlt2 => ?_) (fun hge2 => ?_)
    · have hoy := hOr _ (gi_mem (xs := O) (j := (t : Int)) (by omega) (by omega))
      have hyy := hsys.at (j := (i : Int)) (by omega) (by omega) hoy
      have hny := hNr _ (gi_mem (xs := NL) (j := gi (gr M i) (gi O t)) (by omega) (by omega))
      have snb := hn.sv
      refine go ?_
      refine region_hS (fun w' => Below w16.heap.size w16 w') mixed (fun w19 hb19 => ?_)
      have sw19 := hb19.size
      replace hmv := hmv.below hb19
      replace hor := hor.below hb19
      replace hx4 := hx4.below hb19
      replace hs := hs.below hb19
      replace hn := hn.below hb19
      replace ho := ho.below hb19
      replace hx14 := hx14.below hb19
      replace hu := hu.below hb19
      replace hcu := cell_below hcu hb19
      replace hr := hr.below hb19
      replace hbB3 := hbB3.trans (hb19.mono hbB3.size)
      refine h_p 0 hbB3 ?_
      refine h_p 1 hbB3 ?_
      refine h_p 2 hbB3 ?_
      refine h_p 3 hbB3 ?_
      refine h_p 4 hbB3 ?_
      refine h_p 5 hbB3 ?_
      refine h_p 6 hbB3 ?_
      refine h_p 7 hbB3 ?_
      refine h_p 8 hbB3 ?_
      refine h_p 9 hbB3 ?_
      refine h_p 10 hbB3 ?_
      refine h_p 11 hbB3 ?_
      refine h_p 12 hbB3 ?_
      refine h_p 13 hbB3 ?_
      refine h_one 14 ?_
      have szq20 := hbB3.size
      refine s_build1 (B := w16.heap.size) (wn rfl) rfl rfl szq20 (fun tb w20 ht st hg20 _ => ?_)
      have hb20 := below_of_grownBy hg20
      have sw20 := hb20.size
      replace hmv := hmv.below hb20
      replace hor := hor.below hb20
      replace hx4 := hx4.below hb20
      replace hs := hs.below hb20
      replace hn := hn.below hb20
      replace ho := ho.below hb20
      replace hx14 := hx14.below hb20
      replace hu := hu.below hb20
      replace hcu := cell_below hcu hb20
      replace hr := hr.below hb20
      replace hbB3 := hbB3.trans (hb20.mono hbB3.size)
      have szq21 := hbB3.size
      refine w_nil ?_
      refine h_on ⟨hbB3, ?_⟩
      refine h_one 15 ?_
      refine s_appendI (wn rfl) rfl rfl rfl hr ht.il (by simp; omega) szq21 (fun rb' w21 hoN so hgN _ => ?_)
      replace hbB3 := hbB3.trans (hr.below_of hgN szq21)
      have sw21 := hgN.size
      replace hr := hoN
      clear hoN
      replace hmv := hmv_b3.below hbB3
      replace hor := hor_b3.below hbB3
      replace hx4 := hx4_b3.below hbB3
      replace hs := hs_b3.below hbB3
      replace hn := hn_b3.below hbB3
      replace ho := ho_b3.below hbB3
      replace hx14 := hx14_b3.below hbB3
      replace hu := hu_b3.below hbB3
      replace hcu := cell_below hcu_b3 hbB3
      refine w_nil ?_
      refine h_on ⟨hbB3, ?_⟩
      refine h_p 16 hbB3 ?_
      refine h_nil ?_
      refine go ?_
      refine ⟨O.length - (t + 1), by omega, t + 1, rb', _, rfl, by omega, rfl, rfl, rfl, rfl, rfl, rfl, rfl, rfl, hr, by simp [hLl], fun x hx => by
            rcases List.mem_append.1 hx with hx | hx
            · exact hLr x hx
            · simp at hx; subst hx; omega, hbB3⟩
    obtain rfl : t = O.length := by omega
    replace hbB2 := hbB2.trans (hbB3.mono hbB2.size)
    have hc_hx14 := hx14.cell
    refine go ?_
    have szq22 := hbB2.size
    refine s_build1V (B := w12.heap.size) (wn rfl) rfl rfl hr.sv.one szq22 (fun tb w22 ht st hg22 _ => ?_)
    have hb22 := below_of_grownBy hg22
    have sw22 := hb22.size
    replace hmv := hmv.below hb22
    replace hor := hor.below hb22
    replace hx4 := hx4.below hb22
    replace hs := hs.below hb22
    replace hn := hn.below hb22
    replace ho := ho.below hb22
    replace hx14 := hx14.below hb22
    replace hu := hu.below hb22
    replace hcu := cell_below hcu hb22
    replace hr := hr.below hb22
    replace hc_hx14 := cell_below hc_hx14 hb22
    replace hbB2 := hbB2.trans (hb22.mono hbB2.size)
    have szq23 := hbB2.size
    refine s_appendM (wn rfl) rfl rfl rfl ho ht.rd hr (by omega) (by decide) (by omega) (by omega) (fun ob' w23 hoN so hgN => ?_)
    have sw23 := hgN.size
    replace hbB2 := hbB2.trans ((ho.below_of hgN (by omega)).mono (by omega))
    replace hx14 := hx14.kept hgN (by intro e; have := (ho.ownlt _ e).1; omega)
    replace ho := hoN
    clear hoN
    replace hmv := hmv_b2.below hbB2
    replace hor := hor_b2.below hbB2
    replace hx4 := hx4_b2.below hbB2
    replace hs := hs_b2.below hbB2
    replace hn := hn_b2.below hbB2
    refine go ?_
    refine s_storeFld (wn rfl) rfl rfl so.one hx14 (fun w24 hxN hgN => ?_)
    have sw24 := hgN.size
    replace hbB2 := hbB2.trans (hx14.below_of hgN (by omega))
    replace ho := (ho.kept hgN (by omega)).top
    replace hx14 := hxN
    clear hxN
    replace hmv := hmv_b2.below hbB2
    replace hor := hor_b2.below hbB2
    replace hx4 := hx4_b2.below hbB2
    replace hs := hs_b2.below hbB2
    replace hn := hn_b2.below hbB2
    refine go ?_
    refine ⟨3 - (i + 1), by omega, i + 1, ob', _, rfl, by omega, rfl, rfl, rfl, rfl, rfl, rfl, hx14, ho, by omega, by simp [hxl], fun m hm => by
          rcases List.mem_append.1 hm with hm | hm
          · exact hxs m hm
          · simp at hm; subst hm; exact ⟨hLl, hLr⟩, hbB2⟩
  obtain rfl : i = 3 := by omega
  replace hbB1 := hbB1.trans (hbB2.mono hbB1.size)
  have hcx := hx14.cell
  have zw := hbB1.size
  have hgF := gr_step hgW (grownBy_of_below hbB1 none) (fun k hk => by cases hk)
  refine go2 ?_
  refine s_storeBox (wn rfl) rfl rfl ho.sv.one hx4 (fun wz hxz hgz => ?_)
  have hgZ := gr_step hgF hgz (fun k hk => by cases hk; omega)
  have hsZ := hs.kept hgz (fun k hk => by cases hk; exact ⟨by have := hs.low; omega, by omega⟩)
  have hzz := hgz.size
  have hz7 := hgW.size
  have hxN := ho.kept hgz (by omega)
  refine go2 ?_
  exact end_cell Try.results209 rfl hxz.cell ⟨ob, xss, _, rfl, (hxN.mono (by omega)).top, hxl, ⟨hO1, hOl⟩, hxs, hsZ, hgZ⟩

end Go.Proofs.Ytlodnhflfijomaa
