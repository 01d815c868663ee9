/- Contracts: draws of lists. -/
import Derived.Test.YtlodnhflfijomaaF50
import Derived.Test.YtlodnhflfijomaaF45
namespace Go.Mem
theorem OI.apart_blk {w : World} {B q : Nat} {T : TypeId} {v : Value} {xs : List Int} (h : OI w B T v xs) (hq : q < B) : v.ownBlock = none ∨ v.ownBlock ≠ some q := by
  cases e : v.ownBlock with
  | none => exact .inl rfl
  | some g => refine .inr fun e2 => ?_; have := (h.lt g e).1; have e3 : g = q := Option.some.inj e2; omega
theorem seti_len (xs : List Int) (j a : Int) : (seti xs j a).length = xs.length := by simp [seti]
theorem seti_all {xs : List Int} {j a : Int} {R : Int → Prop} (h : ∀ x ∈ xs, R x) (ha : R a) : ∀ x ∈ seti xs j a, R x := fun x hx => by
  rcases List.mem_or_eq_of_mem_set hx with h1 | h1
  · exact h x h1
  · rw [h1]; exact ha
end Go.Mem
namespace Go.Proofs.Ytlodnhflfijomaa
open Go.Mem Go.RowKit
set_option linter.unusedVariables false
set_option linter.unusedSimpArgs false

set_option maxHeartbeats 8000000 in
set_option maxRecDepth 100000 in
theorem l01Unit_any  (n : Int) (N : Nat) (w : World)  (en : n = N) (hN : N ≤ 1000000) :
    Ret Try.prog 165 #[.int .i64 n] w fun r w' => OI w' w.heap.size 2 r (idl N) ∧ Below w.heap.size w w' := by
  have hb := Below.refl w.heap.size w
  refine enter1 16 Try.func165 rfl Try.ntmps165 rfl (fun fr => ?_)
  subst en
  have sbs1 := hb.size
  have hbB1 := Below.refl w.heap.size w
  refine go ?_
  have szq1 := hbB1.size
  refine s_build0 (B := w.heap.size) (wn rfl) rfl szq1 (fun ob w1 ho so hg1 _ => ?_)
  have hb1 := below_of_grownBy hg1
  have sw1 := hb1.size
  replace hbB1 := hbB1.trans (hb1.mono hbB1.size)
  refine go ?_
  refine w_loop (fun kk fr w' => ∃ (i : Nat) (ob : Value), kk = N - i ∧ i ≤ N ∧ fr 0 = .int .i64 N ∧ fr 3 = ob ∧ fr 4 = .int .i64 i ∧ (OI w' w.heap.size 2 ob (idl i)) ∧ Below w.heap.size w w') (N)
    ⟨0, ob, rfl, Nat.zero_le _, rfl, rfl, rfl, ho, hbB1⟩ ?_
  rintro kk fr w2 ⟨i, ob, rfl, hi, f0, f3, f4, ho, hbB1⟩
  have sw2 := hbB1.size
  have sho := ho.sv
  refine know (t := 0) f0 ?_; refine know (t := 3) f3 ?_; refine know (t := 4) f4 ?_
  refine go ?_
  refine cond_dec rfl (fun hlt => ?_) (fun hge => ?_)
  · refine go ?_
    have szq3 := hbB1.size
    refine s_build1 (B := w.heap.size) (wn rfl) rfl rfl szq3 (fun tb w3 ht st hg3 _ => ?_)
    have hb3 := below_of_grownBy hg3
    have sw3 := hb3.size
    replace ho := ho.below hb3
    replace hbB1 := hbB1.trans (hb3.mono hbB1.size)
    have szq4 := hbB1.size
    refine s_appendI (wn rfl) rfl rfl rfl ho ht.il (by simp; omega) szq4 (fun ob' w4 hoN so hgN _ => ?_)
    replace hbB1 := hbB1.trans (ho.below_of hgN szq4)
    have sw4 := hgN.size
    replace ho := hoN
    clear hoN
    refine go ?_
    refine ⟨N - (i + 1), by omega, i + 1, ob', rfl, by omega, rfl, rfl, rfl, by simpa [idl, List.range_succ] using ho, hbB1⟩
  obtain rfl : i = N := by omega
  refine go ?_
  exact end_one Try.results165 rfl ⟨ho.mono (by omega), (hb.trans (hbB1.mono hb.size))⟩

set_option maxHeartbeats 8000000 in
set_option maxRecDepth 100000 in
theorem l01Draw_any (q B : Nat) (c : Value) (bs : List Int) (n : Int) (N : Nat) (w : World) (en : n = N) (hN : N ≤ 1000000) (hs : Sr w B q 140 c bs) :
    Ret Try.prog 107 #[.pointer (some ⟨q, 0, none⟩), .int .i64 n] w fun r w' => ∃ ps : List Int, OI w' w.heap.size 2 r ps ∧ ps.length = N ∧ (∀ x ∈ ps, 0 ≤ x ∧ x < N) ∧ Sr w' B q 140 c bs ∧ w.grownBy w' (some q) := by
  have hql := hs.lt
  refine enter2 37 Try.func107 rfl Try.ntmps107 rfl (fun fr => ?_)
  refine go2 ?_
  refine s_call1 (wn rfl) rfl rfl (l01Unit_any n N _ en hN) ?_
  rintro ob w1 ⟨ho, hb1⟩
  have hg1 := grownBy_of_below hb1 (some q)
  have hs1 := hs.below hb1
  refine go2 ?_
  refine w_loop (fun kk fr w' => ∃ (i : Nat) (ps : List Int), kk = N - i ∧ i ≤ N ∧ fr 0 = .pointer (some ⟨q, 0, none⟩) ∧ fr 5 = ob ∧ fr 6 = .int .i64 (n - 1 - i) ∧ OI w' w.heap.size 2 ob ps ∧ ps.length = N ∧ (∀ x ∈ ps, 0 ≤ x ∧ x < N) ∧ Sr w' B q 140 c bs ∧ w.grownBy w' (some q)) N
    ⟨0, idl N, rfl, Nat.zero_le _, rfl, rfl, by show Value.int _ _ = _; congr 1 <;> omega, ho, length_idl _, fun x hx => by
      obtain ⟨j, hj, rfl⟩ := in_gi hx
      rw [length_idl] at hj
      rw [gi_idl (by omega) (by omega)]; omega, hs1, hg1⟩ ?_
  rintro kk fr w2 ⟨i, ps, rfl, hi, f0, f5, f6, ho, hpl, hpr, hs2, hg2⟩
  have hsz2 := hg2.size
  refine know (t := 0) f0 ?_; refine know (t := 5) f5 ?_; refine know (t := 6) f6 ?_
  refine go2 ?_
  refine cond_dec rfl (fun hlt => ?_) (fun hge => ?_)
  rotate_left
  · refine go2 ?_
    exact end_one Try.results107 rfl ⟨ps, ho, hpl, hpr, hs2, hg2⟩
  refine go2 ?_
  refine s_call2 (wn rfl) rfl rfl rfl (l01Next_any q _ B c bs _ hs2 (by omega)) ?_
  rintro _ w3 ⟨k, rfl, _, hk, hs3, hg3⟩
  have hk := hk (by omega)
  replace ho := ho.kept hg3 (ho.apart_blk hql)
  have hg3' := grownBy_trans hg2 hg3
  have so := ho.sv
  have hy1 := hpr _ (gi_mem (xs := ps) (j := k) (by omega) (by omega))
  have hy2 := hpr _ (gi_mem (xs := ps) (j := n - 1 - i) (by omega) (by omega))
  refine go2 ?_
  refine s_storeI (wn rfl) rfl rfl ho (by omega) (by omega) (fun w4 hoN hgN => ?_)
  have hg4 := gr_step hg3' hgN (fun k hk => (ho.lt k hk).1)
  have hs4 := hs3.kept hgN (fun k hk => ⟨by have := (ho.lt k hk).1; have := hs3.low; omega, by have := (ho.lt k hk).1; omega⟩)
  replace ho := hoN
  have hl4 := seti_len ps (n - 1 - i) (gi ps k)
  have so := ho.sv
  refine go2 ?_
  refine s_storeI (wn rfl) rfl rfl ho (by omega) (by omega) (fun w5 hoN hgN => ?_)
  have hg5 := gr_step hg4 hgN (fun k hk => (ho.lt k hk).1)
  have hs5 := hs4.kept hgN (fun k hk => ⟨by have := (ho.lt k hk).1; have := hs4.low; omega, by have := (ho.lt k hk).1; omega⟩)
  refine go2 ?_
  exact ⟨N - (i + 1), by omega, i + 1, _, rfl, by omega, rfl, rfl, by show Value.int _ _ = _; congr 1 <;> omega, hoN, by rw [seti_len, seti_len]; exact hpl, seti_all (seti_all hpr hy1) hy2, hs5, hg5⟩

set_option maxHeartbeats 4000000 in
set_option maxRecDepth 100000 in
theorem l01Pick_any (q B : Nat) (c : Value) (bs : List Int) (v : Value) (xs : List Int) (B2 : Nat) (w : World) (hl : OI w B2 2 v xs) (hq : q < B2) (h0 : 1 ≤ xs.length) (hl2 : xs.length ≤ 1000) (hs : Sr w B q 140 c bs) :
    Ret Try.prog 120 #[.pointer (some ⟨q, 0, none⟩), v] w fun r w' => ∃ x ∈ xs, r = .int .i64 x ∧ Sr w' B q 140 c bs ∧ w.grownBy w' (some q) := by
  have sl := hl.sv
  refine enter2 12 Try.func120 rfl Try.ntmps120 rfl (fun fr => ?_)
  refine go2 ?_
  refine s_call2 (wn rfl) rfl rfl rfl (l01Next_any q _ B c bs _ hs (by omega)) ?_
  rintro _ w1 ⟨k, rfl, _, hk, hs1, hg1⟩
  have hk := hk (by omega)
  have hl1 := hl.kept hg1 (hl.apart_blk hq)
  refine go2 ?_
  exact end_one Try.results120 rfl ⟨_, gi_mem (by omega) (by omega), rfl, hs1, hg1⟩

set_option maxHeartbeats 8000000 in
set_option maxRecDepth 100000 in
theorem l01Matching_any (q B : Nat) (c : Value) (bs : List Int) (n : Int) (N : Nat) (w : World) (en : n = N) (hN : N ≤ 1000000) (hs : Sr w B q 140 c bs) :
    Ret Try.prog 151 #[.pointer (some ⟨q, 0, none⟩), .int .i64 n] w fun r w' => ∃ ps : List Int, OI w' w.heap.size 2 r ps ∧ ps.length = N ∧ (∀ x ∈ ps, 0 ≤ x ∧ x < N) ∧ Sr w' B q 140 c bs ∧ w.grownBy w' (some q) := by
  have hql := hs.lt
  refine enter2 42 Try.func151 rfl Try.ntmps151 rfl (fun fr => ?_)
  refine go2 ?_
  refine meet (fun fr w' => ∃ (ov mv : Value) (ps : List Int), fr 1 = .int .i64 n ∧ fr 5 = ov ∧ fr 6 = mv ∧ OI w' w.heap.size 2 ov ps ∧ ps.length = N ∧ (∀ x ∈ ps, 0 ≤ x ∧ x < N) ∧ OI w' w.heap.size 2 mv (List.replicate N 0) ∧ (ov.ownBlock = none ∨ ov.ownBlock ≠ mv.ownBlock) ∧ Sr w' B q 140 c bs ∧ w.grownBy w' (some q)) ?_ ?_
  · refine region_hS (fun _ => True) mixed (fun wr cr => ?_)
    have hsr := hs.below cr
    have zr := cr.size
    have gr0 := grownBy_of_below cr (some q)
    have en2 : n.toNat = N := by omega
    refine h_p 0 trivial ?_ (hrun := fun _ _ => yl)
    refine h_p 1 trivial ?_ (hrun := fun _ _ => yl)
    refine h_p 3 trivial ?_ (hrun := fun _ _ => yl)
    refine h_two 2 4 ?_ ?_
    · refine s_call2 (wn rfl) rfl rfl rfl (l01Draw_any q B c bs n N _ en hN hsr) ?_
      rintro ov wa ⟨ps, ho, hpl, hpr, hsa, hga⟩
      refine w_nil ?_
      refine h_on ⟨trivial, ?_⟩
      refine h_p 5 trivial ?_ (hrun := fun _ _ => yl)
      refine h_one 4 ?_
      have hza := hga.size
      refine s_makeI (B := w.heap.size) (wn rfl) rfl rfl rfl (by omega) (by omega) (by omega) (fun mv wb hm so hgb hbk => ?_)
      have hbb := below_of_grownBy hgb
      rw [en2] at hm
      refine w_nil ?_
      refine h_on ⟨trivial, ?_⟩
      refine h_p 6 trivial ?_ (hrun := fun _ _ => yl)
      refine h_nil ?_
      refine ⟨ov, mv, ps, rfl, rfl, rfl, (ho.below hbb).mono zr, hpl, hpr, hm, ?_, hsa.below hbb, grownBy_trans (grownBy_trans gr0 hga) (grownBy_of_below hbb _)⟩
      cases e : ov.ownBlock with
      | none => exact .inl rfl
      | some k => refine .inr fun e2 => ?_; rw [hbk] at e2; have := (ho.lt k e).2; have := Option.some.inj e2; omega
    · refine s_makeI (B := w.heap.size) (wn rfl) rfl rfl rfl (by omega) (by omega) (by omega) (fun mv wb hm so hgb hbk => ?_)
      have hbb := below_of_grownBy hgb
      have hzb := hbb.size
      rw [en2] at hm
      have hsb := hsr.below hbb
      refine w_nil ?_
      refine h_on ⟨trivial, ?_⟩
      refine h_one 2 ?_
      refine s_call2 (wn rfl) rfl rfl rfl (l01Draw_any q B c bs n N _ en hN hsb) ?_
      rintro ov wa ⟨ps, ho, hpl, hpr, hsa, hga⟩
      refine w_nil ?_
      refine h_on ⟨trivial, ?_⟩
      refine h_p 5 trivial ?_ (hrun := fun _ _ => yl)
      refine h_p 6 trivial ?_ (hrun := fun _ _ => yl)
      refine h_nil ?_
      have hqr : q < wr.heap.size := by omega
      have hmq : mv.ownBlock = none ∨ mv.ownBlock ≠ some q := .inr (by rw [hbk]; intro e; have := Option.some.inj e; omega)
      refine ⟨ov, mv, ps, rfl, rfl, rfl, ho.mono (by omega), hpl, hpr, hm.kept hga hmq, ?_, hsa, grownBy_trans (grownBy_trans gr0 (grownBy_of_below hbb _)) hga⟩
      cases e : ov.ownBlock with
      | none => exact .inl rfl
      | some k =>
        refine .inr fun e2 => ?_
        rw [hbk] at e2
        have := (ho.lt k e).1
        have e3 := Option.some.inj e2
        have := (hm.lt _ hbk).2
        omega
  rintro fr wm ⟨ov, mv, ps, f1, f5, f6, ho, hpl, hpr, hm, hap, hsm, hgm⟩
  refine know (t := 1) f1 ?_; refine know (t := 5) f5 ?_; refine know (t := 6) f6 ?_
  refine go2 ?_
  refine w_loop (fun kk fr w' => ∃ (i : Nat) (ms : List Int), kk = N - i ∧ i ≤ N ∧ fr 1 = .int .i64 n ∧ fr 5 = ov ∧ fr 6 = mv ∧ fr 7 = .int .i64 (2 * (i : Int)) ∧ OI w' w.heap.size 2 ov ps ∧ OI w' w.heap.size 2 mv ms ∧ ms.length = N ∧ (∀ x ∈ ms, 0 ≤ x ∧ x < N) ∧ Sr w' B q 140 c bs ∧ w.grownBy w' (some q)) N
    ⟨0, List.replicate N 0, rfl, Nat.zero_le _, rfl, rfl, rfl, rfl, ho, hm, by simp, fun x hx => by
      obtain ⟨h1, h2⟩ := List.mem_replicate.1 hx
      subst h2; omega, hsm, hgm⟩ ?_
  clear ho hm hsm hgm f1 f5 f6
  rintro kk fr w2 ⟨i, ms, rfl, hi, f1, f5, f6, f7, ho, hm, hml, hmr, hsm, hgm⟩
  have hap2 : ov.ownBlock = none ∨ ov.ownBlock ≠ mv.ownBlock := hap
  refine know (t := 1) f1 ?_; refine know (t := 5) f5 ?_; refine know (t := 6) f6 ?_; refine know (t := 7) f7 ?_
  refine go2 ?_
  refine cond_dec rfl (fun hlt => ?_) (fun hge => ?_)
  rotate_left
  · refine go2 ?_
    exact end_one Try.results151 rfl ⟨ms, hm, hml, hmr, hsm, hgm⟩
  have hy1 := hpr _ (gi_mem (xs := ps) (j := 2 * (i : Int)) (by omega) (by omega))
  have hy2 := hpr _ (gi_mem (xs := ps) (j := 2 * (i : Int) + 1) (by omega) (by omega))
  have so := ho.sv
  have sm := hm.sv
  refine go2 ?_
  refine region_x 11 mixed (fun wr1 hc1 => ?_)
  have hsr1 := hsm.below hc1
  have ho1 := ho.below hc1
  have hm1 := hm.below hc1
  refine x_p 0 hc1 ?_
  refine x_p 1 hc1 ?_
  refine x_p 2 hc1 ?_
  refine x_p 3 hc1 ?_
  refine x_p 4 hc1 ?_
  refine x_p 5 hc1 ?_
  refine x_p 6 hc1 ?_
  refine x_p 7 hc1 ?_
  refine x_p 8 hc1 ?_
  refine x_p 9 hc1 ?_
  refine x_p 10 hc1 ?_
  refine x_one 11 ?_
  refine s_storeI (wn rfl) rfl rfl hm1 (by omega) (by omega) (fun ws1 hmN hgN => ?_)
  replace hgm := gr_step (gr_step hgm (grownBy_of_below hc1 none) (fun k hk => by cases hk)) hgN (fun k hk => (hm1.lt k hk).1)
  replace hsm := hsr1.kept hgN (fun k hk => ⟨by have := (hm1.lt k hk).1; have := hsr1.low; omega, by have := (hm1.lt k hk).1; omega⟩)
  replace ho := ho1.kept hgN hap2
  replace hm := hmN
  clear hmN
  refine w_nil ?_
  refine x_end ⟨fun h => absurd rfl h, ?_⟩
  refine x_nil ?_
  refine go2 ?_
  have sm := hm.sv
  have hml2 := seti_len ms (gi ps (2 * (i : Int))) (gi ps (2 * (i : Int) + 1))
  refine region_x 11 mixed (fun wr2 hc2 => ?_)
  have hsr2 := hsm.below hc2
  have ho2 := ho.below hc2
  have hm2 := hm.below hc2
  refine x_p 0 hc2 ?_
  refine x_p 1 hc2 ?_
  refine x_p 2 hc2 ?_
  refine x_p 3 hc2 ?_
  refine x_p 4 hc2 ?_
  refine x_p 5 hc2 ?_
  refine x_p 6 hc2 ?_
  refine x_p 7 hc2 ?_
  refine x_p 8 hc2 ?_
  refine x_p 9 hc2 ?_
  refine x_p 10 hc2 ?_
  refine x_one 11 ?_
  refine s_storeI (wn rfl) rfl rfl hm2 (by omega) (by omega) (fun ws2 hmN hgN => ?_)
  replace hgm := gr_step (gr_step hgm (grownBy_of_below hc2 none) (fun k hk => by cases hk)) hgN (fun k hk => (hm2.lt k hk).1)
  replace hsm := hsr2.kept hgN (fun k hk => ⟨by have := (hm2.lt k hk).1; have := hsr2.low; omega, by have := (hm2.lt k hk).1; omega⟩)
  replace ho := ho2.kept hgN hap2
  replace hm := hmN
  clear hmN
  refine w_nil ?_
  refine x_end ⟨fun h => absurd rfl h, ?_⟩
  refine x_nil ?_
  refine go2 ?_
  exact ⟨N - (i + 1), by omega, i + 1, _, rfl, by omega, rfl, rfl, rfl, by show Value.int _ _ = _; congr 1 <;> omega, ho, hm, by rw [seti_len, seti_len]; exact hml, seti_all (seti_all hmr hy2) hy1, hsm, hgm⟩

end Go.Proofs.Ytlodnhflfijomaa
