/- Texts laid together: F50 F51 F52 F53 F54 F55 F56. -/
import Derived.Test.YtablpijnjkncfaaGreatWe
import Derived.Test.YtablpijnjkncfaaGreatF31
import Derived.Test.YtablpijnjkncfaaGreatF45
import Derived.Test.YtablpijnjkncfaaGreatF43
import Derived.Test.YtablpijnjkncfaaGreatF46
import Derived.Test.YtablpijnjkncfaaGreatRp
/- Contracts: sources of drawn numbers; small functions of the laws. -/
namespace Go.Proofs.YtablpijnjkncfaaGreat
open Go.Mem Go.RowKit
set_option linter.unusedVariables false
set_option linter.unusedSimpArgs false
theorem cl_block {w : World} {a : Option Addr} {l cap i k : Nat} {u : Value} (h : w.cell? (addrOf (.slice a l cap) i) = some u) (hk : (Value.slice a l cap).ownBlock = some k) : k < w.heap.size := by
  cases a with
  | none => simp [Value.ownBlock] at hk
  | some a =>
    have e := addrOf_block (i := i) hk
    rw [← e]
    rcases Nat.lt_or_ge (addrOf (.slice (some a) l cap) i).block w.heap.size with hl | hl
    · exact hl
    · rw [World.cell?, Array.getElem?_eq_none hl] at h; simp at h

set_option maxHeartbeats 4000000 in
set_option maxRecDepth 100000 in
theorem l01Next_any (q : Nat) (n : Int) (B : Nat) (c : Value) (bs : List Int) (w : World) (hs : Sr w B q 94 c bs) (hn : n ≤ 9223372036854775807) :
    Ret Tryz.prog 29 #[.pointer (some ⟨q, 0, none⟩), .int .i64 n] w fun r w' => ∃ x : Int, r = .int .i64 x ∧ (n < 1 → x = 0) ∧ (1 ≤ n → 0 ≤ x ∧ x < n) ∧ Sr w' B q 94 c bs ∧ w.grownBy w' (some q) := by
  refine enter2 58 Tryz.func29 rfl Tryz.ntmps29 rfl (fun fr => ?_)
  by_cases hn1 : n < 1
  · refine go2 ?_
    exact end_one Tryz.results29 rfl ⟨0, rfl, fun _ => rfl, fun h => by omega, hs, grownBy_of_below (Below.refl _ _) _⟩
  obtain ⟨a, h0, hc0, hc1, hc2, ha, hh⟩ := hs.cells
  refine go2 ?_
  refine s_setH (wn rfl) rfl rfl hs (by omega) (fun w1 hs1 hg1 => ?_)
  clear hc0 hc1 hc2
  obtain ⟨a1, h1, hc0, hc1, hc2, ha1, hh1⟩ := hs1.cells
  have svc := hs1.cl.sv
  have scl := svc.le
  refine go2 ?_
  refine region_q mixed (by kernel_rfl) ?_
  refine qo2 ?_
  refine q_nil ?_
  intro w2 hb2
  have hg2 := gr_step hg1 (grownBy_of_below hb2 none) (fun k hk => by cases hk)
  have hs2 := hs1.below hb2
  have hc0 := cell_below hc0 hb2
  have hc1 := cell_below hc1 hb2
  have hc2 := cell_below hc2 hb2
  refine go2 ?_
  refine cond_dec rfl (fun hlt => ?_) (fun hge => ?_)
  · obtain ⟨hcb, hb0, hb1⟩ := hs2.cl.at (i := a1) ha1.1 hlt
    refine go2 ?_
    refine region_q mixed (by kernel_rfl) ?_
    refine qo2 ?_
    refine q_nil ?_
    intro w3 hb3
    have hg3 := gr_step hg2 (grownBy_of_below hb3 none) (fun k hk => by cases hk)
    have hs3 := hs2.below hb3
    have hc0 := cell_below hc0 hb3
    have hc1 := cell_below hc1 hb3
    have hc2 := cell_below hc2 hb3
    refine go2 ?_
    refine s_setA (wn rfl) rfl rfl hs3 (by omega) (fun w4 hs4 hg4 => ?_)
    have hg5 := grownBy_trans hg3 hg4
    refine go2 ?_
    exact end_one Tryz.results29 rfl ⟨_, rfl, fun h => by omega, fun h => ⟨Int.emod_nonneg _ (by omega), Int.emod_lt_of_pos _ (by omega)⟩, hs4, hg5⟩
  · refine go2 ?_
    exact end_one Tryz.results29 rfl ⟨_, rfl, fun h => by omega, fun h => ⟨Int.emod_nonneg _ (by omega), Int.emod_lt_of_pos _ (by omega)⟩, hs2, hg2⟩

set_option maxHeartbeats 4000000 in
set_option maxRecDepth 100000 in
theorem l01From_any (c : Value) (bs : List Int) (w : World) (hcl : CL w c bs) :
    Ret Tryz.prog 27 #[c] w fun r w' => ∃ q, r = .pointer (some ⟨q, 0, none⟩) ∧ Sr w' w.heap.size q 94 c bs ∧ Below w.heap.size w w' := by
  have svc := hcl.sv
  have hcle := svc.le
  obtain ⟨ca, cap, rfl, hca⟩ := svc.out
  refine enter1 38 Tryz.func27 rfl Tryz.ntmps27 rfl (fun fr => ?_)
  refine go2 ?_
  refine s_box3 (wn rfl) rfl rfl (fun w1 q hq hrow hg1 => ?_)
  have hb1 := below_of_grownBy hg1
  have hap : bs = [] ∨ ∀ k, (Value.slice ca bs.length cap).ownBlock = some k → k < w.heap.size := by
    by_cases hbs : bs = []
    · exact .inl hbs
    · refine .inr fun k hk => ?_
      have hl : 0 < bs.length := List.length_pos_iff.2 hbs
      have hcell := (hcl.at (i := 0) (by omega) (by omega)).1
      exact cl_block hcell hk
  have hs1 : Sr w1 w.heap.size q 94 (.slice ca bs.length cap) bs := ⟨by omega, ⟨0, _, hrow, by omega, by omega⟩, hcl.below hb1, hap⟩
  refine go2 ?_
  refine w_loop (fun kk fr w' => ∃ (i : Nat), kk = bs.length - i ∧ i ≤ bs.length ∧ fr 0 = .slice ca bs.length cap ∧ fr 3 = .pointer (some ⟨q, 0, none⟩) ∧ fr 4 = .int .i64 i ∧ Sr w' w.heap.size q 94 (.slice ca bs.length cap) bs ∧ Below w.heap.size w w') bs.length
    ⟨0, rfl, Nat.zero_le _, rfl, rfl, rfl, hs1, hb1⟩ ?_
  rintro kk fr w2 ⟨i, rfl, hi, f0, f3, f4, hs2, hb2⟩
  refine know (t := 0) f0 ?_; refine know (t := 3) f3 ?_; refine know (t := 4) f4 ?_
  by_cases hlt : (i : Int) < bs.length
  rotate_left
  · have hltn : ¬ ((i : Int) < bs.length) := hlt
    have hlb : decide ((i : Int) < bs.length) = !true := decide_eq_false hlt
    refine go2 ?_
    exact end_one Tryz.results27 rfl ⟨q, rfl, hs2, hb2⟩
  by_cases hlt2 : (i : Int) < 4096
  rotate_left
  · refine go2 ?_
    exact end_one Tryz.results27 rfl ⟨q, rfl, hs2, hb2⟩
  obtain ⟨a, h0, hc0, hc1, hc2, ha, hh⟩ := hs2.cells
  obtain ⟨hcb, hcb0, hcb1⟩ := hs2.cl.at (i := (i : Int)) (by omega) hlt
  refine go2 ?_
  refine region_x 15 mixed (fun w3 hc => ?_)
  have hs3 := hs2.below hc

  refine x_p 0 hc ?_
  refine x_p 1 hc ?_
  refine x_p 2 hc ?_
  refine x_p 3 hc ?_
  refine x_p 4 hc ?_
  refine x_p 5 hc ?_
  refine x_p 6 hc ?_
  refine x_p 7 hc ?_
  refine x_p 8 hc ?_
  refine x_p 9 hc ?_
  refine x_p 10 hc ?_
  refine x_p 11 hc ?_
  refine x_p 12 hc ?_
  refine x_one 13 ?_
  refine s_p (wn rfl) rfl yl2 ?_
  refine w_nil ?_
  refine x_end ⟨fun _ => hc, ?_⟩
  refine x_p 14 hc ?_
  refine x_one 15 ?_
  refine s_setH (wn rfl) rfl rfl hs3 (by omega) (fun w4 hs4 hg4 => ?_)
  have hb4 := (hb2.trans (hc.mono hb2.size)).trans ((gr_below hg4 (Nat.le_trans hb2.size hc.size) hs3.low).mono (Nat.le_refl _))
  refine w_nil ?_
  refine x_end ⟨fun h => absurd rfl h, ?_⟩
  refine x_nil ?_
  refine go2 ?_
  exact ⟨bs.length - (i + 1), by omega, i + 1, rfl, by omega, rfl, rfl, rfl, hs4, hb4⟩

end Go.Proofs.YtablpijnjkncfaaGreat

/- Contracts: draws of lists. -/
namespace Go.Mem
theorem OI.apart_blk {w : World} {B q : Nat} {T : TypeId} {v : Value} {xs : List Int} (h : OI w B T v xs) (hq : q < B) : v.ownBlock = none ∨ v.ownBlock ≠ some q := by
  cases e : v.ownBlock with
  | none => exact .inl rfl
  | some g => refine .inr fun e2 => ?_; have := (h.lt g e).1; have e3 : g = q := Option.some.inj e2; omega
theorem seti_len (xs : List Int) (j a : Int) : (seti xs j a).length = xs.length := by simp [seti]
theorem seti_all {xs : List Int} {j a : Int} {R : Int → Prop} (h : ∀ x ∈ xs, R x) (ha : R a) : ∀ x ∈ seti xs j a, R x := fun x hx => by
  rcases List.mem_or_eq_of_mem_set hx with h1 | h1
  · exact h x h1
  · rw [h1]; exact ha
end Go.Mem
namespace Go.Proofs.YtablpijnjkncfaaGreat
open Go.Mem Go.RowKit
set_option linter.unusedVariables false
set_option linter.unusedSimpArgs false

set_option maxHeartbeats 8000000 in
set_option maxRecDepth 100000 in
theorem l01Unit_any  (n : Int) (N : Nat) (w : World)  (en : n = N) (hN : N ≤ 1000000) :
    Ret Tryz.prog 77 #[.int .i64 n] w fun r w' => OI w' w.heap.size 2 r (idl N) ∧ Below w.heap.size w w' := by
  have hb := Below.refl w.heap.size w
  refine enter1 16 Tryz.func77 rfl Tryz.ntmps77 rfl (fun fr => ?_)
  subst en
  have sbs1 := hb.size
  have hbB1 := Below.refl w.heap.size w
  refine go ?_
  have szq1 := hbB1.size
  refine s_build0 (B := w.heap.size) (wn rfl) rfl szq1 (fun ob w1 ho so hg1 _ => ?_)
  have hb1 := below_of_grownBy hg1
  have sw1 := hb1.size
  replace hbB1 := hbB1.trans (hb1.mono hbB1.size)
  refine go ?_
  refine w_loop (fun kk fr w' => ∃ (i : Nat) (ob : Value), kk = N - i ∧ i ≤ N ∧ fr 0 = .int .i64 N ∧ fr 3 = ob ∧ fr 4 = .int .i64 i ∧ (OI w' w.heap.size 2 ob (idl i)) ∧ Below w.heap.size w w') (N)
    ⟨0, ob, rfl, Nat.zero_le _, rfl, rfl, rfl, ho, hbB1⟩ ?_
  rintro kk fr w2 ⟨i, ob, rfl, hi, f0, f3, f4, ho, hbB1⟩
  have sw2 := hbB1.size
  have sho := ho.sv
  refine know (t := 0) f0 ?_; refine know (t := 3) f3 ?_; refine know (t := 4) f4 ?_
  refine go ?_
  refine cond_dec rfl (fun hlt => ?_) (fun hge => ?_)
  · refine go ?_
    have szq3 := hbB1.size
    refine s_build1 (B := w.heap.size) (wn rfl) rfl rfl szq3 (fun tb w3 ht st hg3 _ => ?_)
    have hb3 := below_of_grownBy hg3
    have sw3 := hb3.size
    replace ho := ho.below hb3
    replace hbB1 := hbB1.trans (hb3.mono hbB1.size)
    have szq4 := hbB1.size
    refine s_appendI (wn rfl) rfl rfl rfl ho ht.il (by simp; omega) szq4 (fun ob' w4 hoN so hgN _ => ?_)
    replace hbB1 := hbB1.trans (ho.below_of hgN szq4)
    have sw4 := hgN.size
    replace ho := hoN
    clear hoN
    refine go ?_
    refine ⟨N - (i + 1), by omega, i + 1, ob', rfl, by omega, rfl, rfl, rfl, by simpa [idl, List.range_succ] using ho, hbB1⟩
  obtain rfl : i = N := by omega
  refine go ?_
  exact end_one Tryz.results77 rfl ⟨ho.mono (by omega), (hb.trans (hbB1.mono hb.size))⟩

set_option maxHeartbeats 8000000 in
set_option maxRecDepth 100000 in
theorem l01Draw_any (q B : Nat) (c : Value) (bs : List Int) (n : Int) (N : Nat) (w : World) (en : n = N) (hN : N ≤ 1000000) (hs : Sr w B q 94 c bs) :
    Ret Tryz.prog 35 #[.pointer (some ⟨q, 0, none⟩), .int .i64 n] w fun r w' => ∃ ps : List Int, OI w' w.heap.size 2 r ps ∧ ps.length = N ∧ (∀ x ∈ ps, 0 ≤ x ∧ x < N) ∧ Sr w' B q 94 c bs ∧ w.grownBy w' (some q) := by
  have hql := hs.lt
  refine enter2 37 Tryz.func35 rfl Tryz.ntmps35 rfl (fun fr => ?_)
  refine go2 ?_
  refine s_call1 (wn rfl) rfl rfl (l01Unit_any n N _ en hN) ?_
  rintro ob w1 ⟨ho, hb1⟩
  have hg1 := grownBy_of_below hb1 (some q)
  have hs1 := hs.below hb1
  refine go2 ?_
  refine w_loop (fun kk fr w' => ∃ (i : Nat) (ps : List Int), kk = N - i ∧ i ≤ N ∧ fr 0 = .pointer (some ⟨q, 0, none⟩) ∧ fr 5 = ob ∧ fr 6 = .int .i64 (n - 1 - i) ∧ OI w' w.heap.size 2 ob ps ∧ ps.length = N ∧ (∀ x ∈ ps, 0 ≤ x ∧ x < N) ∧ Sr w' B q 94 c bs ∧ w.grownBy w' (some q)) N
    ⟨0, idl N, rfl, Nat.zero_le _, rfl, rfl, by show Value.int _ _ = _; congr 1 <;> omega, ho, length_idl _, fun x hx => by
      obtain ⟨j, hj, rfl⟩ := in_gi hx
      rw [length_idl] at hj
      rw [gi_idl (by omega) (by omega)]; omega, hs1, hg1⟩ ?_
  rintro kk fr w2 ⟨i, ps, rfl, hi, f0, f5, f6, ho, hpl, hpr, hs2, hg2⟩
  have hsz2 := hg2.size
  refine know (t := 0) f0 ?_; refine know (t := 5) f5 ?_; refine know (t := 6) f6 ?_
  refine go2 ?_
  refine cond_dec rfl (fun hlt => ?_) (fun hge => ?_)
  rotate_left
  · refine go2 ?_
    exact end_one Tryz.results35 rfl ⟨ps, ho, hpl, hpr, hs2, hg2⟩
  refine go2 ?_
  refine s_call2 (wn rfl) rfl rfl rfl (l01Next_any q _ B c bs _ hs2 (by omega)) ?_
  rintro _ w3 ⟨k, rfl, _, hk, hs3, hg3⟩
  have hk := hk (by omega)
  replace ho := ho.kept hg3 (ho.apart_blk hql)
  have hg3' := grownBy_trans hg2 hg3
  have so := ho.sv
  have hy1 := hpr _ (gi_mem (xs := ps) (j := k) (by omega) (by omega))
  have hy2 := hpr _ (gi_mem (xs := ps) (j := n - 1 - i) (by omega) (by omega))
  refine go2 ?_
  refine s_storeI (wn rfl) rfl rfl ho (by omega) (by omega) (fun w4 hoN hgN => ?_)
  have hg4 := gr_step hg3' hgN (fun k hk => (ho.lt k hk).1)
  have hs4 := hs3.kept hgN (fun k hk => ⟨by have := (ho.lt k hk).1; have := hs3.low; omega, by have := (ho.lt k hk).1; omega⟩)
  replace ho := hoN
  have hl4 := seti_len ps (n - 1 - i) (gi ps k)
  have so := ho.sv
  refine go2 ?_
  refine s_storeI (wn rfl) rfl rfl ho (by omega) (by omega) (fun w5 hoN hgN => ?_)
  have hg5 := gr_step hg4 hgN (fun k hk => (ho.lt k hk).1)
  have hs5 := hs4.kept hgN (fun k hk => ⟨by have := (ho.lt k hk).1; have := hs4.low; omega, by have := (ho.lt k hk).1; omega⟩)
  refine go2 ?_
  exact ⟨N - (i + 1), by omega, i + 1, _, rfl, by omega, rfl, rfl, by show Value.int _ _ = _; congr 1 <;> omega, hoN, by rw [seti_len, seti_len]; exact hpl, seti_all (seti_all hpr hy1) hy2, hs5, hg5⟩

set_option maxHeartbeats 4000000 in
set_option maxRecDepth 100000 in
theorem l01Pick_any (q B : Nat) (c : Value) (bs : List Int) (v : Value) (xs : List Int) (B2 : Nat) (w : World) (hl : OI w B2 2 v xs) (hq : q < B2) (h0 : 1 ≤ xs.length) (hl2 : xs.length ≤ 1000) (hs : Sr w B q 94 c bs) :
    Ret Tryz.prog 33 #[.pointer (some ⟨q, 0, none⟩), v] w fun r w' => ∃ x ∈ xs, r = .int .i64 x ∧ Sr w' B q 94 c bs ∧ w.grownBy w' (some q) := by
  have sl := hl.sv
  refine enter2 12 Tryz.func33 rfl Tryz.ntmps33 rfl (fun fr => ?_)
  refine go2 ?_
  refine s_call2 (wn rfl) rfl rfl rfl (l01Next_any q _ B c bs _ hs (by omega)) ?_
  rintro _ w1 ⟨k, rfl, _, hk, hs1, hg1⟩
  have hk := hk (by omega)
  have hl1 := hl.kept hg1 (hl.apart_blk hq)
  refine go2 ?_
  exact end_one Tryz.results33 rfl ⟨_, gi_mem (by omega) (by omega), rfl, hs1, hg1⟩

set_option maxHeartbeats 8000000 in
set_option maxRecDepth 100000 in
theorem l01Matching_any (q B : Nat) (c : Value) (bs : List Int) (n : Int) (N : Nat) (w : World) (en : n = N) (hN : N ≤ 1000000) (hs : Sr w B q 94 c bs) :
    Ret Tryz.prog 102 #[.pointer (some ⟨q, 0, none⟩), .int .i64 n] w fun r w' => ∃ ps : List Int, OI w' w.heap.size 2 r ps ∧ ps.length = N ∧ (∀ x ∈ ps, 0 ≤ x ∧ x < N) ∧ Sr w' B q 94 c bs ∧ w.grownBy w' (some q) := by
  have hql := hs.lt
  refine enter2 42 Tryz.func102 rfl Tryz.ntmps102 rfl (fun fr => ?_)
  refine go2 ?_
  refine meet (fun fr w' => ∃ (ov mv : Value) (ps : List Int), fr 1 = .int .i64 n ∧ fr 5 = ov ∧ fr 6 = mv ∧ OI w' w.heap.size 2 ov ps ∧ ps.length = N ∧ (∀ x ∈ ps, 0 ≤ x ∧ x < N) ∧ OI w' w.heap.size 2 mv (List.replicate N 0) ∧ (ov.ownBlock = none ∨ ov.ownBlock ≠ mv.ownBlock) ∧ Sr w' B q 94 c bs ∧ w.grownBy w' (some q)) ?_ ?_
  · refine region_hS (fun _ => True) mixed (fun wr cr => ?_)
    have hsr := hs.below cr
    have zr := cr.size
    have gr0 := grownBy_of_below cr (some q)
    have en2 : n.toNat = N := by omega
    refine h_p 0 trivial ?_ (hrun := fun _ _ => yl)
    refine h_p 1 trivial ?_ (hrun := fun _ _ => yl)
    refine h_p 3 trivial ?_ (hrun := fun _ _ => yl)
    refine h_two 2 4 ?_ ?_
    · refine s_call2 (wn rfl) rfl rfl rfl (l01Draw_any q B c bs n N _ en hN hsr) ?_
      rintro ov wa ⟨ps, ho, hpl, hpr, hsa, hga⟩
      refine w_nil ?_
      refine h_on ⟨trivial, ?_⟩
      refine h_p 5 trivial ?_ (hrun := fun _ _ => yl)
      refine h_one 4 ?_
      have hza := hga.size
      refine s_makeI (B := w.heap.size) (wn rfl) rfl rfl rfl (by omega) (by omega) (by omega) (fun mv wb hm so hgb hbk => ?_)
      have hbb := below_of_grownBy hgb
      rw [en2] at hm
      refine w_nil ?_
      refine h_on ⟨trivial, ?_⟩
      refine h_p 6 trivial ?_ (hrun := fun _ _ => yl)
      refine h_nil ?_
      refine ⟨ov, mv, ps, rfl, rfl, rfl, (ho.below hbb).mono zr, hpl, hpr, hm, ?_, hsa.below hbb, grownBy_trans (grownBy_trans gr0 hga) (grownBy_of_below hbb _)⟩
      cases e : ov.ownBlock with
      | none => exact .inl rfl
      | some k => refine .inr fun e2 => ?_; rw [hbk] at e2; have := (ho.lt k e).2; have := Option.some.inj e2; omega
    · refine s_makeI (B := w.heap.size) (wn rfl) rfl rfl rfl (by omega) (by omega) (by omega) (fun mv wb hm so hgb hbk => ?_)
      have hbb := below_of_grownBy hgb
      have hzb := hbb.size
      rw [en2] at hm
      have hsb := hsr.below hbb
      refine w_nil ?_
      refine h_on ⟨trivial, ?_⟩
      refine h_one 2 ?_
      refine s_call2 (wn rfl) rfl rfl rfl (l01Draw_any q B c bs n N _ en hN hsb) ?_
      rintro ov wa ⟨ps, ho, hpl, hpr, hsa, hga⟩
      refine w_nil ?_
      refine h_on ⟨trivial, ?_⟩
      refine h_p 5 trivial ?_ (hrun := fun _ _ => yl)
      refine h_p 6 trivial ?_ (hrun := fun _ _ => yl)
      refine h_nil ?_
      have hqr : q < wr.heap.size := by omega
      have hmq : mv.ownBlock = none ∨ mv.ownBlock ≠ some q := .inr (by rw [hbk]; intro e; have := Option.some.inj e; omega)
      refine ⟨ov, mv, ps, rfl, rfl, rfl, ho.mono (by omega), hpl, hpr, hm.kept hga hmq, ?_, hsa, grownBy_trans (grownBy_trans gr0 (grownBy_of_below hbb _)) hga⟩
      cases e : ov.ownBlock with
      | none => exact .inl rfl
      | some k =>
        refine .inr fun e2 => ?_
        rw [hbk] at e2
        have := (ho.lt k e).1
        have e3 := Option.some.inj e2
        have := (hm.lt _ hbk).2
        omega
  rintro fr wm ⟨ov, mv, ps, f1, f5, f6, ho, hpl, hpr, hm, hap, hsm, hgm⟩
  refine know (t := 1) f1 ?_; refine know (t := 5) f5 ?_; refine know (t := 6) f6 ?_
  refine go2 ?_
  refine w_loop (fun kk fr w' => ∃ (i : Nat) (ms : List Int), kk = N - i ∧ i ≤ N ∧ fr 1 = .int .i64 n ∧ fr 5 = ov ∧ fr 6 = mv ∧ fr 7 = .int .i64 (2 * (i : Int)) ∧ OI w' w.heap.size 2 ov ps ∧ OI w' w.heap.size 2 mv ms ∧ ms.length = N ∧ (∀ x ∈ ms, 0 ≤ x ∧ x < N) ∧ Sr w' B q 94 c bs ∧ w.grownBy w' (some q)) N
    ⟨0, List.replicate N 0, rfl, Nat.zero_le _, rfl, rfl, rfl, rfl, ho, hm, by simp, fun x hx => by
      obtain ⟨h1, h2⟩ := List.mem_replicate.1 hx
      subst h2; omega, hsm, hgm⟩ ?_
  clear ho hm hsm hgm f1 f5 f6
  rintro kk fr w2 ⟨i, ms, rfl, hi, f1, f5, f6, f7, ho, hm, hml, hmr, hsm, hgm⟩
  have hap2 : ov.ownBlock = none ∨ ov.ownBlock ≠ mv.ownBlock := hap
  refine know (t := 1) f1 ?_; refine know (t := 5) f5 ?_; refine know (t := 6) f6 ?_; refine know (t := 7) f7 ?_
  refine go2 ?_
  refine cond_dec rfl (fun hlt => ?_) (fun hge => ?_)
  rotate_left
  · refine go2 ?_
    exact end_one Tryz.results102 rfl ⟨ms, hm, hml, hmr, hsm, hgm⟩
  have hy1 := hpr _ (gi_mem (xs := ps) (j := 2 * (i : Int)) (by omega) (by omega))
  have hy2 := hpr _ (gi_mem (xs := ps) (j := 2 * (i : Int) + 1) (by omega) (by omega))
  have so := ho.sv
  have sm := hm.sv
  refine go2 ?_
  refine region_x 11 mixed (fun wr1 hc1 => ?_)
  have hsr1 := hsm.below hc1
  have ho1 := ho.below hc1
  have hm1 := hm.below hc1
  refine x_p 0 hc1 ?_
  refine x_p 1 hc1 ?_
  refine x_p 2 hc1 ?_
  refine x_p 3 hc1 ?_
  refine x_p 4 hc1 ?_
  refine x_p 5 hc1 ?_
  refine x_p 6 hc1 ?_
  refine x_p 7 hc1 ?_
  refine x_p 8 hc1 ?_
  refine x_p 9 hc1 ?_
  refine x_p 10 hc1 ?_
  refine x_one 11 ?_
  refine s_storeI (wn rfl) rfl rfl hm1 (by omega) (by omega) (fun ws1 hmN hgN => ?_)
  replace hgm := gr_step (gr_step hgm (grownBy_of_below hc1 none) (fun k hk => by cases hk)) hgN (fun k hk => (hm1.lt k hk).1)
  replace hsm := hsr1.kept hgN (fun k hk => ⟨by have := (hm1.lt k hk).1; have := hsr1.low; omega, by have := (hm1.lt k hk).1; omega⟩)
  replace ho := ho1.kept hgN hap2
  replace hm := hmN
  clear hmN
  refine w_nil ?_
  refine x_end ⟨fun h => absurd rfl h, ?_⟩
  refine x_nil ?_
  refine go2 ?_
  have sm := hm.sv
  have hml2 := seti_len ms (gi ps (2 * (i : Int))) (gi ps (2 * (i : Int) + 1))
  refine region_x 11 mixed (fun wr2 hc2 => ?_)
  have hsr2 := hsm.below hc2
  have ho2 := ho.below hc2
  have hm2 := hm.below hc2
  refine x_p 0 hc2 ?_
  refine x_p 1 hc2 ?_
  refine x_p 2 hc2 ?_
  refine x_p 3 hc2 ?_
  refine x_p 4 hc2 ?_
  refine x_p 5 hc2 ?_
  refine x_p 6 hc2 ?_
  refine x_p 7 hc2 ?_
  refine x_p 8 hc2 ?_
  refine x_p 9 hc2 ?_
  refine x_p 10 hc2 ?_
  refine x_one 11 ?_
  refine s_storeI (wn rfl) rfl rfl hm2 (by omega) (by omega) (fun ws2 hmN hgN => ?_)
  replace hgm := gr_step (gr_step hgm (grownBy_of_below hc2 none) (fun k hk => by cases hk)) hgN (fun k hk => (hm2.lt k hk).1)
  replace hsm := hsr2.kept hgN (fun k hk => ⟨by have := (hm2.lt k hk).1; have := hsr2.low; omega, by have := (hm2.lt k hk).1; omega⟩)
  replace ho := ho2.kept hgN hap2
  replace hm := hmN
  clear hmN
  refine w_nil ?_
  refine x_end ⟨fun h => absurd rfl h, ?_⟩
  refine x_nil ?_
  refine go2 ?_
  exact ⟨N - (i + 1), by omega, i + 1, _, rfl, by omega, rfl, rfl, rfl, by show Value.int _ _ = _; congr 1 <;> omega, ho, hm, by rw [seti_len, seti_len]; exact hml, seti_all (seti_all hmr hy2) hy1, hsm, hgm⟩

end Go.Proofs.YtablpijnjkncfaaGreat

/- Contracts: polygons; systems renumbered. -/
namespace Go.Mem
open Go.RowKit
set_option linter.unusedVariables false
section
variable {w : World} {B E : Nat} {T U : TypeId} {u1 u2 : Value} {xs ys : List Int}
theorem Rws.two (h1 : OI w B U u1 xs) (h2 : OI w B U u2 ys) (hap : u1.ownBlock = none ∨ u1.ownBlock ≠ u2.ownBlock) : Rws w B w.heap.size U [u1, u2] [xs, ys] := by
  refine ⟨fun a ha => ?_, rfl, fun i a zs ha hz => ?_, fun i a ha g hg => ?_, fun i j a b hij ha hb => ?_⟩
  · simp at ha; rcases ha with rfl | rfl
    · exact h1.sv.one
    · exact h2.sv.one
  · match i, ha, hz with
    | 0, ha, hz => simp at ha hz; subst ha hz; exact h1
    | 1, ha, hz => simp at ha hz; subst ha hz; exact h2
    | i + 2, ha, hz => simp at ha
  · match i, ha with
    | 0, ha => simp at ha; subst ha; exact (h1.lt g hg).2
    | 1, ha => simp at ha; subst ha; exact (h2.lt g hg).2
    | i + 2, ha => simp at ha
  · match i, j, ha, hb with
    | 0, 1, ha, hb => simp at ha hb; subst ha hb; exact hap
    | 0, j + 2, ha, hb => simp at hb
    | 1, j + 2, ha, hb => simp at hb
    | i + 2, j, ha, hb => simp at ha
    | 1, 1, _, _ => omega
    | 1, 0, _, _ => omega
    | 0, 0, _, _ => omega
end
section
variable {P : Program} {ops : Array Oper} {Q : Exit → Fm → World → Prop} {n : Nat} {f : Fm} {w : World} {rest : List Oper} {ty : TypeId} {pos : String} {after : Array Edge} {g : Option (Nat × Bool)} {d : Nat}
theorem s_build2V {B : Nat} {t e : TypeId} {z : Value} {bytes : Nat} {x y : Operand} {u v0 : Value} [ht : SliceTy P t e] [he : CellTy P e z bytes]
    (hw : Wants ⟨some d, .buildSlice t 2 #[(0, x), (1, y)], ty, pos, after, g⟩ ops n f) (hd : Nat.ble (d + 1) n = true)
    (hx : lk n f x = some u) (hy : lk n f y = some v0) (hu : u.oneCell' = true) (hv : v0.oneCell' = true) (hB : B ≤ w.heap.size)
    (k : ∀ v w', Own w' B e v [u, v0] → SV v 2 → w.grownBy w' none → v.ownBlock = some w.heap.size → WL P ops Q rest n (.upd f d v) w') :
    WL P ops Q (⟨some d, .buildSlice t 2 #[(0, x), (1, y)], ty, pos, after, g⟩ :: rest) n f w :=
  s_build [u, v0] hw hd (by simp [lk_evo hx, lk_evo hy]; rfl) (by decide) rfl (by intro a ha; simp at ha; rcases ha with rfl | rfl <;> assumption) hB fun v w' ho hg hb => k v w' ho ho.rd.sv hg hb
end
theorem Syst.nf {n : Nat} {ms : List (List Int)} (h : Syst n ms) (h1 : 1 ≤ ms.length) : nf ms = n := (h.row (j := 0) (by omega) (by omega)).1
theorem Syst.two {n : Nat} {xs ys : List Int} (h1 : xs.length = n) (h2 : ys.length = n) (h3 : ∀ x ∈ xs, 0 ≤ x ∧ x < n) (h4 : ∀ x ∈ ys, 0 ≤ x ∧ x < n) : Syst n [xs, ys] := by
  intro m hm
  simp at hm
  rcases hm with rfl | rfl
  · exact ⟨h1, h3⟩
  · exact ⟨h2, h4⟩
theorem laidTo_rng {R : Int → Prop} {N : Nat} {ps : List Int} {g : Nat → Int} (h0 : R 0) (hg : ∀ j : Nat, j < ps.length → R (g j)) : ∀ k, k ≤ ps.length → ∀ x ∈ laidTo N ps g k, R x
  | 0, _, x, hx => by
    unfold laidTo at hx
    have := (List.mem_replicate.1 (by simpa using hx)).2
    subst this; exact h0
  | k + 1, hk, x, hx => by
    have e : laidTo N ps g (k + 1) = seti (laidTo N ps g k) (gi ps k) (g k) := rfl
    rw [e] at hx
    exact seti_all (laidTo_rng h0 hg k (by omega)) (hg k (by omega)) x hx
theorem Syst.ren {n : Nat} {ms : List (List Int)} {p : List Int} (h : Syst n ms) (hp : p.length = n) (hr : ∀ x ∈ p, 0 ≤ x ∧ x < n) : Syst n (ren ms p) := by
  intro m hm
  obtain ⟨r, hr0, rfl⟩ := List.mem_map.1 hm
  refine ⟨by rw [length_laidTo]; exact hp, ?_⟩
  by_cases hn : n = 0
  · subst hn
    have hp0 : p = [] := List.length_eq_zero_iff.1 hp
    subst hp0
    intro x hx
    have hl := length_laidTo ([] : List Int).length [] (fun f : Nat => gi ([] : List Int) (gi r f)) ([] : List Int).length
    have := List.length_pos_of_mem hx
    rw [hl] at this; simp at this
  · refine laidTo_rng (by omega) (fun j hj => ?_) _ (Nat.le_refl _)
    have hrow := h r hr0
    have h1 := hrow.2 _ (gi_mem (xs := r) (j := (j : Int)) (by omega) (by omega))
    exact hr _ (gi_mem (by omega) (by omega))
end Go.Mem
namespace Go.Proofs.YtablpijnjkncfaaGreat
open Go.Mem Go.RowKit
set_option linter.unusedVariables false
set_option linter.unusedSimpArgs false

set_option maxHeartbeats 8000000 in
set_option maxRecDepth 100000 in
theorem l02Polygon_any (p : Int) (N : Nat) (w : World) (ep : p = N) (h1 : 1 ≤ N) (hN : N ≤ 100000) :
    Ret Tryz.prog 30 #[.int .i64 p] w fun r w' => ∃ x xss, r = .agg #[x] ∧ OM w' w.heap.size w'.heap.size 32 2 x xss ∧ xss.length = 2 ∧ Syst (2 * N) xss ∧ Below w.heap.size w w' := by
  refine enter1 51 Tryz.func30 rfl Tryz.ntmps30 rfl (fun fr => ?_)
  refine go2 ?_
  refine s_alloc (B := w.heap.size) (wn rfl) rfl (Nat.le_refl _) (fun w1 p2 hx2 hg1 hp2 => ?_)
  have hb1 := below_of_grownBy hg1
  have z1 := hb1.size
  have hlt2 := hx2.lt
  refine go2 ?_
  refine s_p (wn rfl) rfl (y_mul rfl rfl (by constructor <;> omega)) ?_
  refine go2 ?_
  have en2 : (2 * p).toNat = 2 * N := by omega
  refine meet (fun fr w' => ∃ (fv sv : Value), fr 2 = .pointer (some p2) ∧ fr 3 = .int .i64 (2 * p) ∧ fr 4 = fv ∧ fr 5 = sv ∧ OI w' w1.heap.size 2 fv (List.replicate (2 * N) 0) ∧ OI w' w1.heap.size 2 sv (List.replicate (2 * N) 0) ∧ (fv.ownBlock = none ∨ fv.ownBlock ≠ sv.ownBlock) ∧ Below w1.heap.size w1 w') ?_ ?_
  · refine region_h mixed (fun wr cr => ?_)
    have zr := cr.size
    refine h_p 0 cr ?_
    refine h_p 2 cr ?_
    refine h_two 1 3 ?_ ?_
    · refine s_makeI (B := w1.heap.size) (wn rfl) rfl rfl rfl (by omega) (by omega) (by omega) (fun fv wa hf so hga hbka => ?_)
      have hba := below_of_grownBy hga
      have ca := cr.trans (hba.mono cr.size)
      have za := ca.size
      refine w_nil ?_
      refine h_on ⟨ca, ?_⟩
      refine h_p 4 ca ?_
      refine h_one 3 ?_
      refine s_makeI (B := w1.heap.size) (wn rfl) rfl rfl rfl (by omega) (by omega) (by omega) (fun sv wb hs so2 hgb hbkb => ?_)
      have hbb := below_of_grownBy hgb
      have cb := ca.trans (hbb.mono ca.size)
      refine w_nil ?_
      refine h_on ⟨cb, ?_⟩
      refine h_p 5 cb ?_
      refine h_nil ?_
      rw [en2] at hf hs
      refine ⟨fv, sv, rfl, rfl, rfl, rfl, hf.below hbb, hs, .inr ?_, cb⟩
      rw [hbka, hbkb]; intro e; have := Option.some.inj e; have := (hf.lt _ hbka).2; omega
    · refine s_makeI (B := w1.heap.size) (wn rfl) rfl rfl rfl (by omega) (by omega) (by omega) (fun sv wa hs so hga hbka => ?_)
      have hba := below_of_grownBy hga
      have ca := cr.trans (hba.mono cr.size)
      have za := ca.size
      refine w_nil ?_
      refine h_on ⟨ca, ?_⟩
      refine h_one 1 ?_
      refine s_makeI (B := w1.heap.size) (wn rfl) rfl rfl rfl (by omega) (by omega) (by omega) (fun fv wb hf so2 hgb hbkb => ?_)
      have hbb := below_of_grownBy hgb
      have cb := ca.trans (hbb.mono ca.size)
      refine w_nil ?_
      refine h_on ⟨cb, ?_⟩
      refine h_p 4 cb ?_
      refine h_p 5 cb ?_
      refine h_nil ?_
      rw [en2] at hf hs
      refine ⟨fv, sv, rfl, rfl, rfl, rfl, hf, hs.below hbb, .inr ?_, cb⟩
      rw [hbka, hbkb]; intro e; have := Option.some.inj e; have := (hs.lt _ hbka).2; omega
  rintro fr wm ⟨fv, sv, f2, f3, f4, f5, hf, hs, hap, cm⟩
  refine know (t := 2) f2 ?_; refine know (t := 3) f3 ?_; refine know (t := 4) f4 ?_; refine know (t := 5) f5 ?_
  refine go2 ?_
  refine w_loop (fun kk fr w' => ∃ (i : Nat) (L1 L2 : List Int), kk = 2 * N - i ∧ i ≤ 2 * N ∧ fr 2 = .pointer (some p2) ∧ fr 3 = .int .i64 (2 * p) ∧ fr 4 = fv ∧ fr 5 = sv ∧ fr 6 = .int .i64 i ∧ OI w' w1.heap.size 2 fv L1 ∧ OI w' w1.heap.size 2 sv L2 ∧ L1.length = 2 * N ∧ L2.length = 2 * N ∧ (∀ x ∈ L1, 0 ≤ x ∧ x < (2 * N : Nat)) ∧ (∀ x ∈ L2, 0 ≤ x ∧ x < (2 * N : Nat)) ∧ Below w1.heap.size w1 w') (2 * N)
    ⟨0, _, _, rfl, Nat.zero_le _, rfl, rfl, rfl, rfl, rfl, hf, hs, by simp, by simp, fun x hx => by
      have := (List.mem_replicate.1 hx).2; subst this; omega, fun x hx => by
      have := (List.mem_replicate.1 hx).2; subst this; omega, cm⟩ ?_
  clear hf hs cm f2 f3 f4 f5
  rintro kk fr w2 ⟨i, L1, L2, rfl, hi, f2, f3, f4, f5, f6, hf, hs, l1, l2, r1, r2, cm⟩
  have hap2 : fv.ownBlock = none ∨ fv.ownBlock ≠ sv.ownBlock := hap
  have hap3 : sv.ownBlock = none ∨ sv.ownBlock ≠ fv.ownBlock := by
    rcases hap with h | h
    · cases e : sv.ownBlock with
      | none => exact .inl rfl
      | some k => exact .inr (by rw [h]; simp)
    · exact .inr (fun e => h e.symm)
  have sf := hf.sv
  have ss := hs.sv
  have zm := cm.size
  have hx2m := hx2.below cm
  refine know (t := 2) f2 ?_; refine know (t := 3) f3 ?_; refine know (t := 4) f4 ?_; refine know (t := 5) f5 ?_; refine know (t := 6) f6 ?_
  refine go2 ?_
  refine cond_dec rfl (fun hlt => ?_) (fun hge => ?_)
  · have hN2 : 1 ≤ 2 * p := by omega
    refine go2 ?_
    refine cond_dec rfl (fun hev => ?_) (fun hod => ?_)

    · refine go2 ?_
      refine s_storeI (wn rfl) rfl rfl hf (by omega) (by omega) (fun w3 hfN hgN => ?_)
      have hs3 := hs.kept hgN hap3
      have c3 := cm.trans (hf.below_of hgN cm.size)
      have l3 := seti_len L1 (i : Int) ((i : Int) + 1)
      have z3 := c3.size
      have ss3 := hs3.sv
      refine go2 ?_
      refine s_storeI (wn rfl) rfl rfl hs3 (by omega) (by omega) (fun w4 hsN hgN2 => ?_)
      have hf4 := hfN.kept hgN2 hap2
      have c4 := c3.trans (hs3.below_of hgN2 c3.size)
      refine go2 ?_
      exact ⟨2 * N - (i + 1), by omega, i + 1, _, _, rfl, by omega, rfl, rfl, rfl, rfl, rfl, hf4, hsN, by rw [seti_len]; exact l1, by rw [seti_len]; exact l2, seti_all r1 (by omega), seti_all r2 (by
        refine ⟨Int.emod_nonneg _ (by omega), ?_⟩
        have := Int.emod_lt_of_pos ((i : Int) + 2 * p - 1) (show 0 < 2 * p by omega)
        omega), c4⟩
    · refine go2 ?_
      refine s_storeI (wn rfl) rfl rfl hf (by omega) (by omega) (fun w3 hfN hgN => ?_)
      have hs3 := hs.kept hgN hap3
      have c3 := cm.trans (hf.below_of hgN cm.size)
      have l3 := seti_len L1 (i : Int) ((i : Int) - 1)
      have z3 := c3.size
      have ss3 := hs3.sv
      refine go2 ?_
      refine s_storeI (wn rfl) rfl rfl hs3 (by omega) (by omega) (fun w4 hsN hgN2 => ?_)
      have hf4 := hfN.kept hgN2 hap2
      have c4 := c3.trans (hs3.below_of hgN2 c3.size)
      refine go2 ?_
      exact ⟨2 * N - (i + 1), by omega, i + 1, _, _, rfl, by omega, rfl, rfl, rfl, rfl, rfl, hf4, hsN, by rw [seti_len]; exact l1, by rw [seti_len]; exact l2, seti_all r1 (by omega), seti_all r2 (by
        refine ⟨Int.emod_nonneg _ (by omega), ?_⟩
        have := Int.emod_lt_of_pos ((i : Int) + 1) (show 0 < 2 * p by omega)
        omega), c4⟩
  · obtain rfl : i = 2 * N := by omega
    refine go2 ?_
    refine s_build2V (B := w1.heap.size) (wn rfl) rfl rfl rfl sf.one ss.one zm (fun tb w3 ht st hg3 _ => ?_)
    have hb3 := below_of_grownBy hg3
    have c3 := cm.trans (hb3.mono cm.size)
    have hx := ((Rws.two hf hs hap2).below hb3).om ht
    have hx23 := hx2m.below hb3
    refine go2 ?_
    refine s_p (wn rfl) rfl (y_bld1 rfl st.one) ?_
    refine s_storeBox (wn rfl) rfl rfl st.one hx23 (fun w4 hxz hgz => ?_)
    have hbz := (hb1.trans (c3.mono hb1.size)).trans (hx23.below_of hgz (Nat.le_trans hb1.size c3.size))
    have hxN := hx.kept hgz (by omega)
    refine go2 ?_
    exact end_cell Tryz.results30 rfl hxz.cell ⟨tb, _, rfl, ((hxN.wide (by have := hgz.size; have := hb3.size; omega)).mono (by omega)), rfl, Syst.two l1 l2 r1 r2, hbz⟩

set_option maxHeartbeats 8000000 in
set_option maxRecDepth 100000 in
theorem l02RenumberS_any (v : Value) (v2 : Value) (ms : List (List Int)) (ps : List Int) (n : Nat) (w : World) (hv : RL w v ms) (hv2 : IL w v2 ps) (hs : Syst n ms) (r1 : 1 ≤ ms.length) (r5 : ms.length ≤ 1000) (f4 : n ≤ 1000) (hpl : ps.length = n) (hpr : ∀ x : Int, 0 ≤ x → x < n → 0 ≤ gi ps x ∧ gi ps x < n) :
    Ret Tryz.prog 72 #[.agg #[v], v2] w fun r w' => ∃ x, r = .agg #[x] ∧ OM w' w.heap.size w'.heap.size 32 2 x (ren ms ps) ∧ Below w.heap.size w w' := by
  have shv := hv.sv
  have shv2 := hv2.sv
  have hb := Below.refl w.heap.size w
  refine enter2 50 Tryz.func72 rfl Tryz.ntmps72 rfl (fun fr => ?_)
  unfold ren
  refine go ?_
  refine s_box (wn rfl) rfl rfl (agg_cells shv) (fun w1 hbx _ hp hg => ?_)
  have hb1 := below_of_grownBy hg
  have sw1 := hb1.size
  replace hv := hv.below hb1
  replace hv2 := hv2.below hb1
  replace hb := hb.trans (hb1.mono hb.size)
  clear hg hp hb1
  generalize (⟨w.heap.size, 0, none⟩ : Addr) = p at *
  have sz0 := hb.size
  refine go ?_
  refine s_alloc (B := w.heap.size) (wn rfl) rfl (by first | exact Nat.le_refl _ | omega) (fun w2 p4 hx4 hg2 hpp4 => ?_)
  have hb2 := below_of_grownBy hg2
  have sw2 := hb2.size
  replace hv := hv.below hb2
  replace hv2 := hv2.below hb2
  replace hbx := cell_below hbx hb2
  replace hb := hb.trans (hb2.mono hb.size)
  have hlt_hx4 := hx4.lt
  have sz1 := hb.size
  have sbs1 := hb.size
  have hv_b1 := hv
  have hv2_b1 := hv2
  have hbx_b1 := hbx
  have hx4_b1 := hx4
  have hbB1 := Below.refl w2.heap.size w2
  refine go ?_
  refine s_p (wn rfl) rfl y_bld0 ?_
  refine go ?_
  refine s_alloc (B := w2.heap.size) (wn rfl) rfl (by first | exact Nat.le_refl _ | omega) (fun w3 p5 hx5 hg3 hpp5 => ?_)
  have hb3 := below_of_grownBy hg3
  have sw3 := hb3.size
  replace hv := hv.below hb3
  replace hv2 := hv2.below hb3
  replace hbx := cell_below hbx hb3
  replace hx4 := hx4.below hb3
  replace hbB1 := hbB1.trans (hb3.mono hbB1.size)
  have hlt_hx5 := hx5.lt
  refine go ?_
  refine s_storeBox (wn rfl) rfl rfl rfl hx5 (fun w4 hxN hgN => ?_)
  replace hbB1 := hbB1.trans (hx5.below_of hgN hbB1.size)
  have sw4 := hgN.size
  replace hx5 := hxN
  replace hv := hv_b1.below hbB1
  replace hv2 := hv2_b1.below hbB1
  replace hbx := cell_below hbx_b1 hbB1
  replace hx4 := hx4_b1.below hbB1
  refine go ?_
  refine w_loop (fun kk fr w' => ∃ (i : Nat) (ob : Value), kk = ms.length - i ∧ i ≤ ms.length ∧ fr 1 = v2 ∧ fr 2 = .pointer (some p) ∧ fr 4 = .pointer (some p4) ∧ fr 5 = .pointer (some p5) ∧ fr 6 = .int .i64 i ∧ (Bx w' w2.heap.size p5 26 ob) ∧ (OM w' w4.heap.size w'.heap.size 32 2 ob ((ms.take i).map (fun m => laidTo ps.length ps (fun f : Nat => gi ps (gi m f)) ps.length))) ∧ (w4.heap.size ≤ w'.heap.size) ∧ Below w2.heap.size w2 w') (ms.length)
    ⟨0, _, rfl, Nat.zero_le _, rfl, rfl, rfl, rfl, rfl, hx5, OM.nil _ _ _ _ _, Nat.le_refl _, hbB1⟩ ?_
  rintro kk fr w5 ⟨i, ob, rfl, hi, f1, f2, f4, f5, f6, hx5, ho, hge5, hbB1⟩
  have sw5 := hbB1.size
  have hv := hv_b1.below hbB1
  have hv2 := hv2_b1.below hbB1
  have hbx := cell_below hbx_b1 hbB1
  have hx4 := hx4_b1.below hbB1
  have sho := ho.sv
  refine know (t := 1) f1 ?_; refine know (t := 2) f2 ?_; refine know (t := 4) f4 ?_; refine know (t := 5) f5 ?_; refine know (t := 6) f6 ?_
  refine go ?_
  refine cond_dec rfl (fun hlt => ?_) (fun hge => ?_)
  · have hrow := (hs.row (j := (i : Int)) (by omega) (by omega)).1
    have sbs2 := hbB1.size
    have hv_b2 := hv
    have hv2_b2 := hv2
    have hbx_b2 := hbx
    have hx4_b2 := hx4
    have ho_b2 := ho
    have hx5_b2 := hx5
    have hbB2 := Below.refl w5.heap.size w5
    obtain ⟨u, hu_b2, hcu_b2⟩ := hv_b2.row (j := (i : Int)) (by omega) hlt
    have su := hu_b2.sv
    rw [hrow] at su
    have hu := hu_b2.below hbB2
    have hcu := cell_below hcu_b2 hbB2
    refine go ?_
    have szq6 := hbB2.size
    refine s_makeI (B := w5.heap.size) (wn rfl) rfl rfl rfl (by omega) (by omega) szq6 (fun rb w6 hr sohr hg6 _ => ?_)
    have hb6 := below_of_grownBy hg6
    have sw6 := hb6.size
    replace hv := hv.below hb6
    replace hv2 := hv2.below hb6
    replace hbx := cell_below hbx hb6
    replace hx4 := hx4.below hb6
    replace ho := ho.below hb6
    replace hx5 := hx5.below hb6
    replace hu := hu.below hb6
    replace hcu := cell_below hcu hb6
    replace hbB2 := hbB2.trans (hb6.mono hbB2.size)
    have el : ((ps.length : Int)).toNat = ps.length := by omega
    rw [el] at hr
    refine go ?_
    refine w_loop (fun kk fr w' => ∃ (q : Nat), kk = ps.length - q ∧ q ≤ ps.length ∧ fr 1 = v2 ∧ fr 2 = .pointer (some p) ∧ fr 4 = .pointer (some p4) ∧ fr 5 = .pointer (some p5) ∧ fr 6 = .int .i64 i ∧ fr 7 = rb ∧ fr 8 = .int .i64 q ∧ (OI w' w5.heap.size 2 rb (laidTo ps.length ps (fun f : Nat => gi ps (gi (gr ms i) f)) q)) ∧ Below w5.heap.size w5 w') (ps.length)
      ⟨0, rfl, Nat.zero_le _, rfl, rfl, rfl, rfl, rfl, rfl, rfl, hr, hbB2⟩ ?_
    rintro kk fr w7 ⟨q, rfl, hq, f1, f2, f4, f5, f6, f7, f8, hr, hbB2⟩
    have sw7 := hbB2.size
    have hv := hv_b2.below hbB2
    have hv2 := hv2_b2.below hbB2
    have hbx := cell_below hbx_b2 hbB2
    have hx4 := hx4_b2.below hbB2
    have ho := ho_b2.below hbB2
    have hx5 := hx5_b2.below hbB2
    have hu := hu_b2.below hbB2
    have hcu := cell_below hcu_b2 hbB2
    have shr := hr.sv
    refine know (t := 1) f1 ?_; refine know (t := 2) f2 ?_; refine know (t := 4) f4 ?_; refine know (t := 5) f5 ?_; refine know (t := 6) f6 ?_; refine know (t := 7) f7 ?_; refine know (t := 8) f8 ?_
    refine go ?_
    refine cond_dec rfl (fun hlt2 => ?_) (fun hge2 => ?_)
    · have hyy := hs.at (j := (i : Int)) (x := (q : Int)) (by omega) (by omega) (by omega)
      have hq1 := hpr q (by omega) (by omega)
      have hq2 := hpr _ hyy.1 hyy.2
      have hll2 := length_laidTo ps.length ps (fun f : Nat => gi ps (gi (gr ms i) f)) q
      refine go ?_
      refine region_hS (fun w' => Below w5.heap.size w5 w') mixed (fun w8 hb8 => ?_)
      have sw8 := hb8.size
      replace hv := hv.below hb8
      replace hv2 := hv2.below hb8
      replace hbx := cell_below hbx hb8
      replace hx4 := hx4.below hb8
      replace ho := ho.below hb8
      replace hx5 := hx5.below hb8
      replace hu := hu.below hb8
      replace hcu := cell_below hcu hb8
      replace hr := hr.below hb8
      replace hbB2 := hbB2.trans (hb8.mono hbB2.size)
      refine h_p 0 hbB2 ?_
      refine h_p 1 hbB2 ?_
      refine h_p 2 hbB2 ?_
      refine h_p 3 hbB2 ?_
      refine h_p 4 hbB2 ?_
      refine h_p 5 hbB2 ?_
      refine h_p 6 hbB2 ?_
      refine h_p 7 hbB2 ?_
      refine h_p 8 hbB2 ?_
      refine h_p 9 hbB2 ?_
      refine h_p 10 hbB2 ?_
      refine h_p 11 hbB2 ?_
      refine h_p 12 hbB2 ?_
      refine h_p 13 hbB2 ?_
      refine h_p 14 hbB2 ?_
      refine h_p 15 hbB2 ?_
      refine h_p 16 hbB2 ?_
      refine h_one 17 ?_
      have szq9 := hbB2.size
      refine s_storeI (wn rfl) rfl rfl hr (by omega) (by omega) (fun w9 hoN hgN => ?_)
      replace hbB2 := hbB2.trans (hr.below_of hgN szq9)
      have sw9 := hgN.size
      replace hr := hoN
      clear hoN
      replace hv := hv_b2.below hbB2
      replace hv2 := hv2_b2.below hbB2
      replace hbx := cell_below hbx_b2 hbB2
      replace hx4 := hx4_b2.below hbB2
      replace ho := ho_b2.below hbB2
      replace hx5 := hx5_b2.below hbB2
      replace hu := hu_b2.below hbB2
      replace hcu := cell_below hcu_b2 hbB2
      refine w_nil ?_
      refine h_on ⟨hbB2, ?_⟩
      refine h_nil ?_
      refine go ?_
      refine ⟨ps.length - (q + 1), by omega, q + 1, rfl, by omega, rfl, rfl, rfl, rfl, rfl, rfl, rfl, hr, hbB2⟩
    obtain rfl : q = ps.length := by omega
    replace hbB1 := hbB1.trans (hbB2.mono hbB1.size)
    have hc_hx5 := hx5.cell
    refine go ?_
    have szq10 := hbB1.size
    refine s_build1V (B := w2.heap.size) (wn rfl) rfl rfl hr.sv.one szq10 (fun tb w10 ht st hg10 _ => ?_)
    have hb10 := below_of_grownBy hg10
    have sw10 := hb10.size
    replace hv := hv.below hb10
    replace hv2 := hv2.below hb10
    replace hbx := cell_below hbx hb10
    replace hx4 := hx4.below hb10
    replace ho := ho.below hb10
    replace hx5 := hx5.below hb10
    replace hu := hu.below hb10
    replace hcu := cell_below hcu hb10
    replace hr := hr.below hb10
    replace hc_hx5 := cell_below hc_hx5 hb10
    replace hbB1 := hbB1.trans (hb10.mono hbB1.size)
    have szq11 := hbB1.size
    refine s_appendM (wn rfl) rfl rfl rfl ho ht.rd hr (by omega) (by decide) (by simp; omega) (by omega) (fun ob' w11 hoN so hgN => ?_)
    have sw11 := hgN.size
    replace hbB1 := hbB1.trans ((ho.below_of hgN (by omega)).mono (by omega))
    replace hx5 := hx5.kept hgN (by intro e; have := (ho.ownlt _ e).1; omega)
    replace ho := hoN
    clear hoN
    replace hv := hv_b1.below hbB1
    replace hv2 := hv2_b1.below hbB1
    replace hbx := cell_below hbx_b1 hbB1
    replace hx4 := hx4_b1.below hbB1
    refine go ?_
    refine s_storeFld (wn rfl) rfl rfl so.one hx5 (fun w12 hxN hgN => ?_)
    have sw12 := hgN.size
    replace hbB1 := hbB1.trans (hx5.below_of hgN (by omega))
    replace ho := (ho.kept hgN (by omega)).top
    replace hx5 := hxN
    clear hxN
    replace hv := hv_b1.below hbB1
    replace hv2 := hv2_b1.below hbB1
    replace hbx := cell_below hbx_b1 hbB1
    replace hx4 := hx4_b1.below hbB1
    refine go ?_
    refine ⟨ms.length - (i + 1), by omega, i + 1, ob', rfl, by omega, rfl, rfl, rfl, rfl, rfl, hx5, by rw [frm_take (by omega)]; exact ho, by omega, hbB1⟩
  obtain rfl : i = ms.length := by omega
  rw [List.take_length] at ho
  have hcx := hx5.cell
  have hx := ho
  refine go ?_
  have hbY := (hb.trans (hbB1.mono hb.size))
  refine go ?_
  refine s_storeBox (wn rfl) rfl rfl hx.sv.one hx4 (fun w13 hxz hgz => ?_)
  have hbz := hbY.trans (hx4.below_of hgz hbY.size)
  have hxN := hx.kept hgz (by omega)
  refine go ?_
  exact end_cell Tryz.results72 rfl hxz.cell ⟨ob, rfl, (hxN.mono (by omega)).top, hbz⟩

set_option maxHeartbeats 8000000 in
set_option maxRecDepth 100000 in
theorem l02Beside_any (v : Value) (v2 : Value) (ms : List (List Int)) (ks : List (List Int)) (A K : Nat) (w : World) (hv : RL w v ms) (hv2 : RL w v2 ks) (hs : Syst A ms) (hk : Syst K ks) (r1 : 1 ≤ ms.length) (k1 : 1 ≤ ks.length) (a1 : 1 ≤ A) (b1 : 1 ≤ K) (hAK : A * K ≤ 1000000) (r9 : ms.length ≤ 100) (k9 : ks.length ≤ 100) :
    Ret Tryz.prog 60 #[.agg #[v], .agg #[v2]] w fun r w' => ∃ x xss, r = .agg #[x] ∧ OM w' w.heap.size w'.heap.size 32 2 x xss ∧ xss.length = ms.length + ks.length ∧ Syst (A * K) xss ∧ Below w.heap.size w w' := by
  have shv := hv.sv
  have shv2 := hv2.sv
  have hb := Below.refl w.heap.size w
  refine enter2 89 Tryz.func60 rfl Tryz.ntmps60 rfl (fun fr => ?_)
  have em := hs.nf r1
  have ek := hk.nf k1
  have hA := Nat.le_mul_of_pos_right A (show 0 < K by omega)
  have hK := Nat.le_mul_of_pos_left K (show 0 < A by omega)
  have hcast : ((A * K : Nat) : Int) = (A : Int) * (K : Int) := Int.natCast_mul A K
  refine go ?_
  refine s_box (wn rfl) rfl rfl (agg_cells shv) (fun w1 hbx _ hp hg => ?_)
  have hb1 := below_of_grownBy hg
  have sw1 := hb1.size
  replace hv := hv.below hb1
  replace hv2 := hv2.below hb1
  replace hb := hb.trans (hb1.mono hb.size)
  clear hg hp hb1
  generalize (⟨w.heap.size, 0, none⟩ : Addr) = p at *
  refine go ?_
  refine s_box (wn rfl) rfl rfl (agg_cells shv2) (fun w2 hbx2 _ hp hg => ?_)
  have hb2 := below_of_grownBy hg
  have sw2 := hb2.size
  replace hv := hv.below hb2
  replace hv2 := hv2.below hb2
  replace hbx := cell_below hbx hb2
  replace hb := hb.trans (hb2.mono hb.size)
  clear hg hp hb2
  generalize (⟨w1.heap.size, 0, none⟩ : Addr) = p2 at *
  have sz0 := hb.size
  refine go ?_
  refine s_alloc (B := w.heap.size) (wn rfl) rfl (by first | exact Nat.le_refl _ | omega) (fun w3 p4 hx4 hg3 hpp4 => ?_)
  have hb3 := below_of_grownBy hg3
  have sw3 := hb3.size
  replace hv := hv.below hb3
  replace hv2 := hv2.below hb3
  replace hbx := cell_below hbx hb3
  replace hbx2 := cell_below hbx2 hb3
  replace hb := hb.trans (hb3.mono hb.size)
  have hlt_hx4 := hx4.lt
  have sz1 := hb.size
  refine go ?_
  refine region_h mixed (fun w4 hc4 => ?_)
  have swr4 := hc4.size
  refine h_p 0 hc4 ?_
  refine h_p 2 hc4 ?_
  refine h_one 1 ?_
  refine s_call1 (wn rfl) rfl rfl (l02Flags_any _ _ _ (hv.below hc4) r1) ?_
  rintro _ w5 ⟨rfl, hb5⟩
  have hc5 := hc4.trans (hb5.mono hc4.size)
  refine w_nil ?_
  refine h_on ⟨hc5, ?_⟩
  refine h_one 3 ?_
  refine s_call1 (wn rfl) rfl rfl (l02Flags_any _ _ _ (hv2.below hc5) k1) ?_
  rintro _ w6 ⟨rfl, hb6⟩
  have hc6 := hc5.trans (hb6.mono hc5.size)
  refine w_nil ?_
  refine h_on ⟨hc6, ?_⟩
  refine h_p 4 hc6 ?_
  refine h_p 5 hc6 ?_
  refine h_nil ?_
  have sw6 := hc6.size
  replace hv := hv.below hc6
  replace hv2 := hv2.below hc6
  replace hbx := cell_below hbx hc6
  replace hbx2 := cell_below hbx2 hc6
  replace hx4 := hx4.below hc6
  replace hb := hb.trans (hc6.mono hb.size)
  rw [em, ek]
  have sz2 := hb.size
  have sbs1 := hb.size
  have hv_b1 := hv
  have hv2_b1 := hv2
  have hbx_b1 := hbx
  have hbx2_b1 := hbx2
  have hx4_b1 := hx4
  have hbB1 := Below.refl w6.heap.size w6
  refine go ?_
  refine s_p (wn rfl) rfl y_bld0 ?_
  refine go ?_
  refine s_alloc (B := w6.heap.size) (wn rfl) rfl (by first | exact Nat.le_refl _ | omega) (fun w7 p5 hx5 hg7 hpp5 => ?_)
  have hb7 := below_of_grownBy hg7
  have sw7 := hb7.size
  replace hv := hv.below hb7
  replace hv2 := hv2.below hb7
  replace hbx := cell_below hbx hb7
  replace hbx2 := cell_below hbx2 hb7
  replace hx4 := hx4.below hb7
  replace hbB1 := hbB1.trans (hb7.mono hbB1.size)
  have hlt_hx5 := hx5.lt
  refine go ?_
  refine s_storeBox (wn rfl) rfl rfl rfl hx5 (fun w8 hxN hgN => ?_)
  replace hbB1 := hbB1.trans (hx5.below_of hgN hbB1.size)
  have sw8 := hgN.size
  replace hx5 := hxN
  replace hv := hv_b1.below hbB1
  replace hv2 := hv2_b1.below hbB1
  replace hbx := cell_below hbx_b1 hbB1
  replace hbx2 := cell_below hbx2_b1 hbB1
  replace hx4 := hx4_b1.below hbB1
  refine go ?_
  refine w_loop (fun kk fr w' => ∃ (i : Nat) (ob : Value) (xss : List (List Int)), kk = (ms.length + ks.length) - i ∧ i ≤ (ms.length + ks.length) ∧ fr 2 = .pointer (some p) ∧ fr 3 = .pointer (some p2) ∧ fr 4 = .pointer (some p4) ∧ fr 5 = .int .i64 A ∧ fr 6 = .int .i64 K ∧ fr 7 = .pointer (some p5) ∧ fr 8 = .int .i64 i ∧ (Bx w' w6.heap.size p5 26 ob) ∧ (OM w' w8.heap.size w'.heap.size 32 2 ob xss) ∧ (w8.heap.size ≤ w'.heap.size) ∧ (xss.length = i) ∧ (Syst (A * K) xss) ∧ Below w6.heap.size w6 w') ((ms.length + ks.length))
    ⟨0, _, [], rfl, Nat.zero_le _, rfl, rfl, rfl, rfl, rfl, rfl, rfl, hx5, OM.nil _ _ _ _ _, Nat.le_refl _, rfl, fun m h => by simp at h, hbB1⟩ ?_
  rintro kk fr w9 ⟨i, ob, xss, rfl, hi, f2, f3, f4, f5, f6, f7, f8, hx5, ho, hge5, hxl, hxs, hbB1⟩
  have sw9 := hbB1.size
  have hv := hv_b1.below hbB1
  have hv2 := hv2_b1.below hbB1
  have hbx := cell_below hbx_b1 hbB1
  have hbx2 := cell_below hbx2_b1 hbB1
  have hx4 := hx4_b1.below hbB1
  have sho := ho.sv
  refine know (t := 2) f2 ?_; refine know (t := 3) f3 ?_; refine know (t := 4) f4 ?_; refine know (t := 5) f5 ?_; refine know (t := 6) f6 ?_; refine know (t := 7) f7 ?_; refine know (t := 8) f8 ?_
  refine go ?_
  refine cond_dec rfl (fun hlt => ?_) (fun hge => ?_)
  · refine go ?_
    have sbs2 := hbB1.size
    have hv_b2 := hv
    have hv2_b2 := hv2
    have hbx_b2 := hbx
    have hbx2_b2 := hbx2
    have hx4_b2 := hx4
    have ho_b2 := ho
    have hx5_b2 := hx5
    have hbB2 := Below.refl w9.heap.size w9
    refine go ?_
    have szq10 := hbB2.size
    refine s_build0 (B := w9.heap.size) (wn rfl) rfl szq10 (fun rb w10 hr so hg10 _ => ?_)
    have hb10 := below_of_grownBy hg10
    have sw10 := hb10.size
    replace hv := hv.below hb10
    replace hv2 := hv2.below hb10
    replace hbx := cell_below hbx hb10
    replace hbx2 := cell_below hbx2 hb10
    replace hx4 := hx4.below hb10
    replace ho := ho.below hb10
    replace hx5 := hx5.below hb10
    replace hbB2 := hbB2.trans (hb10.mono hbB2.size)
    refine go ?_
    have hmul : (-9223372036854775808 : Int) ≤ (A : Int) * K ∧ (A : Int) * K ≤ 9223372036854775807 := by omega
    refine go ?_
    refine w_loop (fun kk fr w' => ∃ (q : Nat) (rb : Value) (L : List Int), kk = A * K - q ∧ q ≤ A * K ∧ fr 2 = .pointer (some p) ∧ fr 3 = .pointer (some p2) ∧ fr 4 = .pointer (some p4) ∧ fr 5 = .int .i64 A ∧ fr 6 = .int .i64 K ∧ fr 7 = .pointer (some p5) ∧ fr 8 = .int .i64 i ∧ fr 9 = rb ∧ fr 10 = .int .i64 q ∧ (OI w' w9.heap.size 2 rb L) ∧ (L.length = q) ∧ (∀ x ∈ L, 0 ≤ x ∧ x < (A * K : Nat)) ∧ Below w9.heap.size w9 w') (A * K)
      ⟨0, rb, [], rfl, Nat.zero_le _, rfl, rfl, rfl, rfl, rfl, rfl, rfl, rfl, rfl, hr, rfl, fun x h => by simp at h, hbB2⟩ ?_
    rintro kk fr w11 ⟨q, rb, L, rfl, hq, f2, f3, f4, f5, f6, f7, f8, f9, f10, hr, hLl, hLr, hbB2⟩
    have sw11 := hbB2.size
    have hv := hv_b2.below hbB2
    have hv2 := hv2_b2.below hbB2
    have hbx := cell_below hbx_b2 hbB2
    have hbx2 := cell_below hbx2_b2 hbB2
    have hx4 := hx4_b2.below hbB2
    have ho := ho_b2.below hbB2
    have hx5 := hx5_b2.below hbB2
    have shr := hr.sv
    refine know (t := 2) f2 ?_; refine know (t := 3) f3 ?_; refine know (t := 4) f4 ?_; refine know (t := 5) f5 ?_; refine know (t := 6) f6 ?_; refine know (t := 7) f7 ?_; refine know (t := 8) f8 ?_; refine know (t := 9) f9 ?_; refine know (t := 10) f10 ?_
    refine go ?_
    refine s_p (wn rfl) rfl (y_mul rfl rfl (by omega)) ?_
    refine go ?_
    refine cond_dec rfl (fun hlt2 => ?_) (fun hge2 => ?_)
    · have hqK : (q : Int) < (A : Int) * K := by omega
      have hq1 : 0 ≤ (q : Int) / K := Int.ediv_nonneg (by omega) (by omega)
      have hq2 : (q : Int) / K < A := Int.ediv_lt_of_lt_mul (by omega) hqK
      have hq3 : 0 ≤ (q : Int) % K := Int.emod_nonneg _ (by omega)
      have hq4 : (q : Int) % K < K := Int.emod_lt_of_pos _ (by omega)
      have hprod : ∀ x : Int, 0 ≤ x → x < A → 0 ≤ x * K ∧ x * K + K ≤ (A : Int) * K := fun x h0 h1 => by
        refine ⟨Int.mul_nonneg h0 (by omega), ?_⟩
        have := Int.mul_le_mul_of_nonneg_right (show x + 1 ≤ A by omega) (show (0 : Int) ≤ K by omega)
        rw [Int.add_mul, Int.one_mul] at this; exact this
      by_cases him : (i : Int) < ms.length
      · obtain ⟨u, hu_b2, hcu_b2⟩ := hv_b2.row (j := (i : Int)) (by omega) him
        have hrow := hs.row (j := (i : Int)) (by omega) him
        have hyy := hs.at (j := (i : Int)) (x := (q : Int) / K) (by omega) him ⟨hq1, hq2⟩
        have hpp := hprod _ hyy.1 hyy.2
        have su := hu_b2.sv
        have hu := hu_b2.below hbB2
        have hcu := cell_below hcu_b2 hbB2
        refine go ?_
        refine region_hS (fun w' => Below w9.heap.size w9 w') mixed (fun w12 hb12 => ?_)
        have sw12 := hb12.size
        replace hv := hv.below hb12
        replace hv2 := hv2.below hb12
        replace hbx := cell_below hbx hb12
        replace hbx2 := cell_below hbx2 hb12
        replace hx4 := hx4.below hb12
        replace ho := ho.below hb12
        replace hx5 := hx5.below hb12
        replace hr := hr.below hb12
        replace hu := hu.below hb12
        replace hcu := cell_below hcu hb12
        replace hbB2 := hbB2.trans (hb12.mono hbB2.size)
        refine h_p 0 hbB2 ?_
        refine h_p 1 hbB2 ?_
        refine h_p 2 hbB2 ?_
        refine h_p 3 hbB2 ?_
        refine h_p 4 hbB2 ?_
        refine h_p 5 hbB2 ?_
        refine h_p 6 hbB2 ?_
        refine h_p 7 hbB2 ?_
        refine h_p 8 hbB2 ?_
        refine h_p 9 hbB2 ?_
        refine h_p 10 hbB2 ?_
        refine h_p 11 hbB2 ?_
        refine h_p 12 hbB2 ?_ (hrun := fun w' hb => y_mul rfl rfl (by omega))
        refine h_p 13 hbB2 ?_
        refine h_p 14 hbB2 ?_
        refine h_p 15 hbB2 ?_
        refine h_p 16 hbB2 ?_
        refine h_one 17 ?_
        have szq13 := hbB2.size
        refine s_build1 (B := w9.heap.size) (wn rfl) rfl rfl szq13 (fun tb w13 ht st hg13 _ => ?_)
        have hb13 := below_of_grownBy hg13
        have sw13 := hb13.size
        replace hv := hv.below hb13
        replace hv2 := hv2.below hb13
        replace hbx := cell_below hbx hb13
        replace hbx2 := cell_below hbx2 hb13
        replace hx4 := hx4.below hb13
        replace ho := ho.below hb13
        replace hx5 := hx5.below hb13
        replace hr := hr.below hb13
        replace hu := hu.below hb13
        replace hcu := cell_below hcu hb13
        replace hbB2 := hbB2.trans (hb13.mono hbB2.size)
        have szq14 := hbB2.size
        refine w_nil ?_
        refine h_on ⟨hbB2, ?_⟩
        refine h_one 18 ?_
        refine s_appendI (wn rfl) rfl rfl rfl hr ht.il (by simp; omega) szq14 (fun rb' w14 hoN so hgN _ => ?_)
        replace hbB2 := hbB2.trans (hr.below_of hgN szq14)
        have sw14 := hgN.size
        replace hr := hoN
        clear hoN
        replace hv := hv_b2.below hbB2
        replace hv2 := hv2_b2.below hbB2
        replace hbx := cell_below hbx_b2 hbB2
        replace hbx2 := cell_below hbx2_b2 hbB2
        replace hx4 := hx4_b2.below hbB2
        replace ho := ho_b2.below hbB2
        replace hx5 := hx5_b2.below hbB2
        replace hu := hu_b2.below hbB2
        replace hcu := cell_below hcu_b2 hbB2
        refine w_nil ?_
        refine h_on ⟨hbB2, ?_⟩
        refine h_p 19 hbB2 ?_
        refine h_nil ?_
        refine go ?_
        refine ⟨A * K - (q + 1), by omega, q + 1, rb', _, rfl, by omega, rfl, rfl, rfl, rfl, rfl, rfl, rfl, rfl, rfl, hr, by simp [hLl], fun x hx => by
              rcases List.mem_append.1 hx with hx | hx
              · exact hLr x hx
              · simp at hx; subst hx; omega, hbB2⟩
      obtain ⟨u, hu_b2, hcu_b2⟩ := hv2_b2.row (j := (i : Int) - ms.length) (by omega) (by omega)
      have hrow := hk.row (j := (i : Int) - ms.length) (by omega) (by omega)
      have hyy := hk.at (j := (i : Int) - ms.length) (x := (q : Int) % K) (by omega) (by omega) ⟨hq3, hq4⟩
      have hpp := hprod _ hq1 hq2
      have su := hu_b2.sv
      have hu := hu_b2.below hbB2
      have hcu := cell_below hcu_b2 hbB2
      refine go ?_
      refine region_hS (fun w' => Below w9.heap.size w9 w') mixed (fun w15 hb15 => ?_)
      have sw15 := hb15.size
      replace hv := hv.below hb15
      replace hv2 := hv2.below hb15
      replace hbx := cell_below hbx hb15
      replace hbx2 := cell_below hbx2 hb15
      replace hx4 := hx4.below hb15
      replace ho := ho.below hb15
      replace hx5 := hx5.below hb15
      replace hr := hr.below hb15
      replace hu := hu.below hb15
      replace hcu := cell_below hcu hb15
      replace hbB2 := hbB2.trans (hb15.mono hbB2.size)
      refine h_p 0 hbB2 ?_
      refine h_p 1 hbB2 ?_
      refine h_p 2 hbB2 ?_
      refine h_p 3 hbB2 ?_
      refine h_p 4 hbB2 ?_
      refine h_p 5 hbB2 ?_ (hrun := fun w' hb => y_mul rfl rfl (by omega))
      refine h_p 6 hbB2 ?_
      refine h_p 7 hbB2 ?_
      refine h_p 8 hbB2 ?_
      refine h_p 9 hbB2 ?_
      refine h_p 10 hbB2 ?_
      refine h_p 11 hbB2 ?_
      refine h_p 12 hbB2 ?_
      refine h_p 13 hbB2 ?_
      refine h_p 14 hbB2 ?_
      refine h_p 15 hbB2 ?_
      refine h_p 16 hbB2 ?_
      refine h_p 17 hbB2 ?_
      refine h_p 18 hbB2 ?_
      refine h_p 19 hbB2 ?_
      refine h_p 20 hbB2 ?_
      refine h_one 21 ?_
      have szq16 := hbB2.size
      refine s_build1 (B := w9.heap.size) (wn rfl) rfl rfl szq16 (fun tb w16 ht st hg16 _ => ?_)
      have hb16 := below_of_grownBy hg16
      have sw16 := hb16.size
      replace hv := hv.below hb16
      replace hv2 := hv2.below hb16
      replace hbx := cell_below hbx hb16
      replace hbx2 := cell_below hbx2 hb16
      replace hx4 := hx4.below hb16
      replace ho := ho.below hb16
      replace hx5 := hx5.below hb16
      replace hr := hr.below hb16
      replace hu := hu.below hb16
      replace hcu := cell_below hcu hb16
      replace hbB2 := hbB2.trans (hb16.mono hbB2.size)
      have szq17 := hbB2.size
      refine w_nil ?_
      refine h_on ⟨hbB2, ?_⟩
      refine h_one 22 ?_
      refine s_appendI (wn rfl) rfl rfl rfl hr ht.il (by simp; omega) szq17 (fun rb' w17 hoN so hgN _ => ?_)
      replace hbB2 := hbB2.trans (hr.below_of hgN szq17)
      have sw17 := hgN.size
      replace hr := hoN
      clear hoN
      replace hv := hv_b2.below hbB2
      replace hv2 := hv2_b2.below hbB2
      replace hbx := cell_below hbx_b2 hbB2
      replace hbx2 := cell_below hbx2_b2 hbB2
      replace hx4 := hx4_b2.below hbB2
      replace ho := ho_b2.below hbB2
      replace hx5 := hx5_b2.below hbB2
      replace hu := hu_b2.below hbB2
      replace hcu := cell_below hcu_b2 hbB2
      refine w_nil ?_
      refine h_on ⟨hbB2, ?_⟩
      refine h_p 23 hbB2 ?_
      refine h_nil ?_
      refine go ?_
      refine ⟨A * K - (q + 1), by omega, q + 1, rb', _, rfl, by omega, rfl, rfl, rfl, rfl, rfl, rfl, rfl, rfl, rfl, hr, by simp [hLl], fun x hx => by
            rcases List.mem_append.1 hx with hx | hx
            · exact hLr x hx
            · simp at hx; subst hx; omega, hbB2⟩
    obtain rfl : q = A * K := by omega
    replace hbB1 := hbB1.trans (hbB2.mono hbB1.size)
    have hc_hx5 := hx5.cell
    refine go ?_
    have szq18 := hbB1.size
    refine s_build1V (B := w6.heap.size) (wn rfl) rfl rfl hr.sv.one szq18 (fun tb w18 ht st hg18 _ => ?_)
    have hb18 := below_of_grownBy hg18
    have sw18 := hb18.size
    replace hv := hv.below hb18
    replace hv2 := hv2.below hb18
    replace hbx := cell_below hbx hb18
    replace hbx2 := cell_below hbx2 hb18
    replace hx4 := hx4.below hb18
    replace ho := ho.below hb18
    replace hx5 := hx5.below hb18
    replace hr := hr.below hb18
    replace hc_hx5 := cell_below hc_hx5 hb18
    replace hbB1 := hbB1.trans (hb18.mono hbB1.size)
    have szq19 := hbB1.size
    refine s_appendM (wn rfl) rfl rfl rfl ho ht.rd hr (by omega) (by decide) (by omega) (by omega) (fun ob' w19 hoN so hgN => ?_)
    have sw19 := hgN.size
    replace hbB1 := hbB1.trans ((ho.below_of hgN (by omega)).mono (by omega))
    replace hx5 := hx5.kept hgN (by intro e; have := (ho.ownlt _ e).1; omega)
    replace ho := hoN
    clear hoN
    replace hv := hv_b1.below hbB1
    replace hv2 := hv2_b1.below hbB1
    replace hbx := cell_below hbx_b1 hbB1
    replace hbx2 := cell_below hbx2_b1 hbB1
    replace hx4 := hx4_b1.below hbB1
    refine go ?_
    refine s_storeFld (wn rfl) rfl rfl so.one hx5 (fun w20 hxN hgN => ?_)
    have sw20 := hgN.size
    replace hbB1 := hbB1.trans (hx5.below_of hgN (by omega))
    replace ho := (ho.kept hgN (by omega)).top
    replace hx5 := hxN
    clear hxN
    replace hv := hv_b1.below hbB1
    replace hv2 := hv2_b1.below hbB1
    replace hbx := cell_below hbx_b1 hbB1
    replace hbx2 := cell_below hbx2_b1 hbB1
    replace hx4 := hx4_b1.below hbB1
    refine go ?_
    refine ⟨(ms.length + ks.length) - (i + 1), by omega, i + 1, ob', _, rfl, by omega, rfl, rfl, rfl, rfl, rfl, rfl, rfl, hx5, ho, by omega, by simp [hxl], fun m hm => by
          rcases List.mem_append.1 hm with hm | hm
          · exact hxs m hm
          · simp at hm; subst hm; exact ⟨hLl, hLr⟩, hbB1⟩
  obtain rfl : i = ms.length + ks.length := by omega
  have hcx := hx5.cell
  have hx := ho
  refine go ?_
  have hbY := (hb.trans (hbB1.mono hb.size))
  refine go ?_
  refine s_storeBox (wn rfl) rfl rfl hx.sv.one hx4 (fun w21 hxz hgz => ?_)
  have hbz := hbY.trans (hx4.below_of hgz hbY.size)
  have hxN := hx.kept hgz (by omega)
  refine go ?_
  exact end_cell Tryz.results60 rfl hxz.cell ⟨ob, xss, rfl, (hxN.mono (by omega)).top, hxl, hxs, hbz⟩

end Go.Proofs.YtablpijnjkncfaaGreat

/- Contracts: maps drawn at random. -/
namespace Go.Mem
open Go.RowKit
set_option linter.unusedVariables false
theorem Ap.low {u v : Value} {n : Nat} {w : World} {T : TypeId} {xs : List Int} (hu : ∀ g, u.ownBlock = some g → g < n) (hv : OI w n T v xs) : Ap u v := by
  unfold Ap
  cases e : u.ownBlock with
  | none => exact .inl rfl
  | some g => refine .inr fun e2 => ?_; have := hu g e; have := (hv.lt g e2.symm).1; omega
theorem RL.three {w : World} {B : Nat} {T : TypeId} {v a b c : Value} {xs ys zs : List Int} (h : Own w B T v [a, b, c]) (h1 : IL w a xs) (h2 : IL w b ys) (h3 : IL w c zs) : RL w v [xs, ys, zs] := by
  refine ⟨[a, b, c], h.rd, rfl, fun i u ys ha hy => ?_⟩
  match i, ha, hy with
  | 0, ha, hy => simp at ha hy; subst ha hy; exact h1
  | 1, ha, hy => simp at ha hy; subst ha hy; exact h2
  | 2, ha, hy => simp at ha hy; subst ha hy; exact h3
  | i + 3, ha, hy => simp at ha
theorem xor_two (m : Nat) : (m ^^^ 2 : Nat) = if m % 4 < 2 then m + 2 else m - 2 := by
  have h1 : (m ^^^ 2) / 2 = m / 2 ^^^ 1 := by rw [Nat.xor_div_two]
  have h2 := xor_one (m / 2)
  have h3 : (m ^^^ 2) % 2 = 1 ↔ ¬ (m % 2 = 1 ↔ 2 % 2 = 1) := Nat.xor_mod_two_eq_one
  rw [h2] at h1
  split at h1 <;> split <;> omega
section
variable {P : Program} {ops : Array Oper} {Q : Exit → Fm → World → Prop} {n : Nat} {f : Fm} {w : World} {dst : Option Tmp} {rest : List Oper} {ty : TypeId} {pos : String} {after : Array Edge} {g : Option (Nat × Bool)} {d : Nat}
theorem y_xor2 {x : Operand} {a : Int} {tx ty' : TypeId} (hx : lk n f x = some (.int .i64 a)) (h : 0 ≤ a ∧ a < 4294967296) :
    Yld P (evo n f) ⟨dst, .binOp .xor tx x (.const (.int .i64 2)) ty', ty, pos, after, g⟩ w (.int .i64 (if a % 4 < 2 then a + 2 else a - 2)) := by
  replace hx := lk_evo hx
  constructor
  obtain ⟨m, rfl⟩ : ∃ m : Nat, a = m := ⟨a.toNat, by omega⟩
  have hm : m < 4294967296 := by omega
  have e : (BitVec.ofInt 64 (m : Int) ^^^ BitVec.ofInt 64 2).toNat = m ^^^ 2 := by
    rw [BitVec.toNat_xor]
    have h1 : (BitVec.ofInt 64 (m : Int)).toNat = m := by rw [BitVec.toNat_ofInt]; omega
    have h2 : (BitVec.ofInt 64 2).toNat = 2 := by decide
    rw [h1, h2]
  have hx1 := xor_two m
  have hv : ((m ^^^ 2 : Nat) : Int) = if (m : Int) % 4 < 2 then (m : Int) + 2 else (m : Int) - 2 := by
    rw [hx1]; split <;> split <;> omega
  have e2 := wrap_small (k := .i64) (a := ((m ^^^ 2 : Nat) : Int)) (.inl rfl) (by rw [hv]; split <;> omega)
  have e' : IntKind.i64.wrap ((BitVec.ofInt IntKind.i64.bits (m : Int) ^^^ BitVec.ofInt IntKind.i64.bits 2).toNat : Int) = if (m : Int) % 4 < 2 then (m : Int) + 2 else (m : Int) - 2 := by
    show IntKind.i64.wrap ((BitVec.ofInt 64 (m : Int) ^^^ BitVec.ofInt 64 2).toNat : Int) = _
    rw [e, e2, hv]
  have hc : evo n f (.const (.int .i64 2)) = .int .i64 2 := rfl
  simp [execOp, hx, hc, eqGuard, binOp, Op.intBits, -BitVec.toNat_xor]
  simpa [-BitVec.toNat_xor] using e'
theorem s_build3V {B : Nat} {t e : TypeId} {z : Value} {bytes : Nat} {x y z' : Operand} {u v0 v1 : Value} [ht : SliceTy P t e] [he : CellTy P e z bytes]
    (hw : Wants ⟨some d, .buildSlice t 3 #[(0, x), (1, y), (2, z')], ty, pos, after, g⟩ ops n f) (hd : Nat.ble (d + 1) n = true)
    (hx : lk n f x = some u) (hy : lk n f y = some v0) (hz : lk n f z' = some v1) (hu : u.oneCell' = true) (hv : v0.oneCell' = true) (hv1 : v1.oneCell' = true) (hB : B ≤ w.heap.size)
    (k : ∀ v w', Own w' B e v [u, v0, v1] → SV v 3 → w.grownBy w' none → v.ownBlock = some w.heap.size → WL P ops Q rest n (.upd f d v) w') :
    WL P ops Q (⟨some d, .buildSlice t 3 #[(0, x), (1, y), (2, z')], ty, pos, after, g⟩ :: rest) n f w :=
  s_build [u, v0, v1] hw hd (by simp [lk_evo hx, lk_evo hy, lk_evo hz]; rfl) (by decide) rfl (by intro a ha; simp at ha; rcases ha with rfl | rfl | rfl <;> assumption) hB fun v w' ho hg hb => k v w' ho ho.rd.sv hg hb
end
theorem Syst.three {n : Nat} {xs ys zs : List Int} (h1 : xs.length = n) (h2 : ys.length = n) (h5 : zs.length = n) (h3 : ∀ x ∈ xs, 0 ≤ x ∧ x < n) (h4 : ∀ x ∈ ys, 0 ≤ x ∧ x < n) (h6 : ∀ x ∈ zs, 0 ≤ x ∧ x < n) : Syst n [xs, ys, zs] := by
  intro m hm
  simp at hm
  rcases hm with rfl | rfl | rfl
  · exact ⟨h1, h3⟩
  · exact ⟨h2, h4⟩
  · exact ⟨h5, h6⟩
end Go.Mem
namespace Go.Proofs.YtablpijnjkncfaaGreat
open Go.Mem Go.RowKit
set_option linter.unusedVariables false
set_option linter.unusedSimpArgs false

set_option maxHeartbeats 8000000 in
set_option maxRecDepth 100000 in
theorem l02Map_any  (ed : Int) (q B : Nat) (c : Value) (bs : List Int) (E : Nat) (w : World)  (ee : ed = E) (h1 : 1 ≤ E) (hE : 4 * E ≤ 1000) (hs : Sr w B q 94 c bs) :
    Ret Tryz.prog 145 #[.pointer (some ⟨q, 0, none⟩), .int .i64 ed] w fun r w' => ∃ x xss, ∃ N : Nat, r = .agg #[x] ∧ OM w' w.heap.size w'.heap.size 32 2 x xss ∧ xss.length = 3 ∧ (1 ≤ N ∧ N ≤ 4 * E) ∧ Syst N xss ∧ Sr w' B q 94 c bs ∧ w.grownBy w' (some q) := by
  have hb := Below.refl w.heap.size w
  refine enter2 96 Tryz.func145 rfl Tryz.ntmps145 rfl (fun fr => ?_)
  have hql := hs.lt
  refine go2 ?_
  refine s_alloc (B := w.heap.size) (wn rfl) rfl (Nat.le_refl _) (fun w1 p4 hx4 hg1 hp4 => ?_)
  have hb1 := below_of_grownBy hg1
  have z1 := hb1.size
  have hlt4 := hx4.lt
  replace hs := hs.below hb1
  refine go2 ?_
  refine s_p (wn rfl) rfl (y_mul rfl rfl (by constructor <;> omega)) ?_
  refine go2 ?_
  refine s_build0 (B := w1.heap.size) (wn rfl) rfl (Nat.le_refl _) (fun zb w2 hz so2 hg2 hzb => ?_)
  have hb2 := below_of_grownBy hg2
  have z2 := hb2.size
  replace hs := hs.below hb2
  replace hx4 := hx4.below hb2
  have hltz := fun g hg => (hz.lt g hg).2
  refine go2 ?_
  refine s_build0 (B := w1.heap.size) (wn rfl) rfl z2 (fun tb w3 ht so3 hg3 htb => ?_)
  have hb3 := below_of_grownBy hg3
  have z3 := hb3.size
  replace hs := hs.below hb3
  replace hx4 := hx4.below hb3
  replace hz := hz.below hb3
  have hltt := fun g hg => (ht.lt g hg).2
  refine go2 ?_
  refine s_call2 (wn rfl) rfl rfl rfl (l01Matching_any q B c bs (4 * ed) (4 * E) _ (by omega) (by omega) hs) ?_
  rintro ov w4 ⟨ps, ho, hpl, hpr, hs4, hg4⟩
  have z4 := hg4.size
  replace hs := hs4
  replace hz := hz.kept hg4 (hz.apart_blk (by omega))
  replace ht := ht.kept hg4 (ht.apart_blk (by omega))
  replace hx4 := hx4.kept hg4 (by intro e; have := Option.some.inj e; omega)
  have apzt : Ap zb tb := Ap.new hltz htb
  have aptz := apzt.symm
  have apzo : Ap zb ov := Ap.low (fun g hg => by have := hltz g hg; omega) ho
  have apto : Ap tb ov := Ap.low hltt ho
  have apoz := apzo.symm
  have apot := apto.symm
  replace ho := ho.mono (B' := w1.heap.size) (by omega)
  have hg : w.grownBy w4 (some q) := grownBy_trans (grownBy_trans (grownBy_trans (grownBy_of_below hb1 _) (grownBy_of_below hb2 _)) (grownBy_of_below hb3 _)) hg4
  refine go2 ?_
  refine w_loop (fun kk fr w' => ∃ (i : Nat) (zv tv : Value) (Z Y : List Int), kk = 4 * E - i ∧ i ≤ 4 * E ∧ fr 4 = .pointer (some p4) ∧ fr 5 = .int .i64 (4 * ed) ∧ fr 6 = zv ∧ fr 7 = tv ∧ fr 8 = ov ∧ fr 9 = .int .i64 i ∧ OI w' w1.heap.size 2 zv Z ∧ OI w' w1.heap.size 2 tv Y ∧ Z.length = i ∧ Y.length = i ∧ (∀ x ∈ Z, 0 ≤ x ∧ x < (4 * E : Nat)) ∧ (∀ x ∈ Y, 0 ≤ x ∧ x < (4 * E : Nat)) ∧ OI w' w1.heap.size 2 ov ps ∧ Ap zv tv ∧ Ap ov zv ∧ Ap ov tv ∧ Bx w' w.heap.size p4 26 (.slice none 0 0) ∧ Sr w' B q 94 c bs ∧ w.grownBy w' (some q) ∧ w1.heap.size ≤ w'.heap.size) (4 * E)
    ⟨0, zb, tb, [], [], rfl, Nat.zero_le _, rfl, rfl, rfl, rfl, rfl, rfl, hz, ht, rfl, rfl, fun x h => by simp at h, fun x h => by simp at h, ho, apzt, apoz, apot, hx4, hs, hg, by omega⟩ ?_
  clear hz ht ho apzt aptz apzo apto apoz apot hx4 hs hg hs4 hltz hltt
  rintro kk fr w5 ⟨i, zv, tv, Z, Y, rfl, hi, f4, f5, f6, f7, f8, f9, hz, ht, hZl, hYl, hZr, hYr, ho, apzt, apoz, apot, hx4, hs, hg, hge5⟩
  have aptz := apzt.symm
  refine know (t := 4) f4 ?_; refine know (t := 5) f5 ?_; refine know (t := 6) f6 ?_; refine know (t := 7) f7 ?_; refine know (t := 8) f8 ?_; refine know (t := 9) f9 ?_
  refine go2 ?_
  refine cond_dec rfl (fun hlt => ?_) (fun hge => ?_)
  · refine go2 ?_
    refine s_p (wn rfl) rfl (y_xor1 rfl ⟨by omega, by omega⟩) ?_
    refine go2 ?_
    have zcz := hg.size
    refine s_build1 (B := w.heap.size) (wn rfl) rfl rfl (by omega) (fun bbz wbz hbz stz hgbz _ => ?_)
    have hbbz := below_of_grownBy hgbz
    replace hz := hz.below hbbz
    replace ht := ht.below hbbz
    replace ho := ho.below hbbz
    replace hx4 := hx4.below hbbz
    replace hs := hs.below hbbz
    replace hg := gr_step hg hgbz (fun k hk => by cases hk)
    have zdz := hg.size
    have hzbz := hbbz.size
    refine s_appendI (wn rfl) rfl rfl rfl hz hbz.il (by simp; omega) (by omega) (fun zv' waz hN so hgN hgrow => ?_)
    have hzNz := hgN.size
    have hltt := fun g hg => (ht.lt g hg).2
    have hlto := fun g hg => (ho.lt g hg).2
    replace hg := gr_step hg hgN (fun k hk => by have := (hz.lt k hk).1; omega)
    replace hs := hs.kept hgN (fun k hk => ⟨by have := (hz.lt k hk).1; have := hs.low; omega, by have := (hz.lt k hk).1; omega⟩)
    replace hx4 := hx4.kept hgN (by intro e; have := (hz.lt _ e).1; omega)
    replace ho := ho.kept hgN apoz
    replace ht := ht.kept hgN aptz
    replace apoz := apoz.grow hlto hgrow
    replace aptz := aptz.grow hltt hgrow
    have apzt := aptz.symm
    replace hz := hN
    clear hN hltt hlto hgrow
    refine go2 ?_
    refine s_p (wn rfl) rfl (y_xor2 rfl ⟨by omega, by omega⟩) ?_
    refine go2 ?_
    have zct := hg.size
    refine s_build1 (B := w.heap.size) (wn rfl) rfl rfl (by omega) (fun bbt wbt hbt stt hgbt _ => ?_)
    have hbbt := below_of_grownBy hgbt
    replace hz := hz.below hbbt
    replace ht := ht.below hbbt
    replace ho := ho.below hbbt
    replace hx4 := hx4.below hbbt
    replace hs := hs.below hbbt
    replace hg := gr_step hg hgbt (fun k hk => by cases hk)
    have zdt := hg.size
    have hzbt := hbbt.size
    refine s_appendI (wn rfl) rfl rfl rfl ht hbt.il (by simp; omega) (by omega) (fun tv' wat hN so hgN hgrow => ?_)
    have hzNt := hgN.size
    have hltz := fun g hg => (hz.lt g hg).2
    have hlto := fun g hg => (ho.lt g hg).2
    replace hg := gr_step hg hgN (fun k hk => by have := (ht.lt k hk).1; omega)
    replace hs := hs.kept hgN (fun k hk => ⟨by have := (ht.lt k hk).1; have := hs.low; omega, by have := (ht.lt k hk).1; omega⟩)
    replace hx4 := hx4.kept hgN (by intro e; have := (ht.lt _ e).1; omega)
    replace ho := ho.kept hgN apot
    replace hz := hz.kept hgN apzt
    replace apot := apot.grow hlto hgrow
    replace apzt := apzt.grow hltz hgrow
    have aptz := apzt.symm
    replace ht := hN
    clear hN hltz hlto hgrow
    refine go2 ?_
    exact ⟨4 * E - (i + 1), by omega, i + 1, _, _, _, _, rfl, by omega, rfl, rfl, rfl, rfl, rfl, rfl, hz, ht, by simp [hZl], by simp [hYl], fun x hx => by
      rcases List.mem_append.1 hx with hx | hx
      · exact hZr x hx
      · simp at hx; subst hx; split <;> omega, fun x hx => by
      rcases List.mem_append.1 hx with hx | hx
      · exact hYr x hx
      · simp at hx; subst hx; split <;> omega, ho, apzt, apoz, apot, hx4, hs, hg, by omega⟩
  obtain rfl : i = 4 * E := by omega
  have sz := hz.sv
  have st := ht.sv
  have so := ho.sv
  have z5 := hg.size
  refine go2 ?_
  refine Go.Mem.s_build3V (B := w1.heap.size) (wn rfl) rfl rfl rfl rfl sz.one so.one st.one hge5 (fun mb w6 hm sm hg6 _ => ?_)
  have hb6 := below_of_grownBy hg6
  have hmv := RL.three hm (hz.below hb6).il (ho.below hb6).il (ht.below hb6).il
  have hsys : Syst (4 * E) [Z, ps, Y] := Syst.three hZl hpl hYl hZr hpr hYr
  replace hs := hs.below hb6
  replace hx4 := hx4.below hb6
  replace hg := gr_step hg hg6 (fun k hk => by cases hk)
  generalize hM : [Z, ps, Y] = M at *
  have hMl : M.length = 3 := by rw [← hM]; rfl
  refine go2 ?_
  refine s_call2 (wn rfl) rfl rfl rfl (l01Orbit_any _ _ (4 * E) 0 _ hmv hsys (by omega) (by omega) (by omega)) ?_
  rintro orb w7 ⟨hor, hb7⟩
  replace hs := hs.below hb7
  replace hx4 := hx4.below hb7
  replace hmv := hmv.below hb7
  replace hg := gr_step hg (grownBy_of_below hb7 none) (fun k hk => by cases hk)
  have hor := hor.il
  have hOr := orbit_rng hsys (flag := 0) (by omega) (by omega)
  have hO1 : 1 ≤ (orbit M 0).length := List.length_pos_of_mem ((mem_orbit hsys (p := 0) (by omega) (by omega)).2 (Rch.refl _))
  have hOl := orbit_le hsys (p := 0) (by omega) (by omega)
  have soM := hor.sv
  generalize hOO : orbit M 0 = O at *
  clear hOO
  have en2 : (4 * ed).toNat = 4 * E := by omega
  have hgW := hg
  have hb := Below.refl w7.heap.size w7
  have sbs1 := hb.size
  have hmv_b1 := hmv
  have hor_b1 := hor
  have hx4_b1 := hx4
  have hs_b1 := hs
  have hbB1 := Below.refl w7.heap.size w7
  refine go ?_
  refine go ?_
  have szq11 := hbB1.size
  refine s_makeI (B := w7.heap.size) (wn rfl) rfl rfl rfl (by omega) (by omega) szq11 (fun nb w11 hn sohn hg11 _ => ?_)
  have hb11 := below_of_grownBy hg11
  have sw11 := hb11.size
  replace hmv := hmv.below hb11
  replace hor := hor.below hb11
  replace hx4 := hx4.below hb11
  replace hs := hs.below hb11
  replace hbB1 := hbB1.trans (hb11.mono hbB1.size)
  rw [en2] at hn
  refine go ?_
  refine w_loop (fun kk fr w' => ∃ (i : Nat) (NL : List Int), kk = O.length - i ∧ i ≤ O.length ∧ fr 4 = .pointer (some p4) ∧ fr 10 = mb ∧ fr 11 = orb ∧ fr 12 = nb ∧ fr 13 = .int .i64 i ∧ (OI w' w7.heap.size 2 nb NL) ∧ (NL.length = 4 * E) ∧ (∀ x ∈ NL, 0 ≤ x ∧ x < (O.length : Int)) ∧ Below w7.heap.size w7 w') (O.length)
    ⟨0, _, rfl, Nat.zero_le _, rfl, rfl, rfl, rfl, rfl, hn, by simp, fun x hx => by
        have := (List.mem_replicate.1 hx).2
        subst this; omega, hbB1⟩ ?_
  rintro kk fr w12 ⟨i, NL, rfl, hi, f4, f10, f11, f12, f13, hn, hNl, hNr, hbB1⟩
  have sw12 := hbB1.size
  have hmv := hmv_b1.below hbB1
  have hor := hor_b1.below hbB1
  have hx4 := hx4_b1.below hbB1
  have hs := hs_b1.below hbB1
  have shn := hn.sv
  refine know (t := 4) f4 ?_; refine know (t := 10) f10 ?_; refine know (t := 11) f11 ?_; refine know (t := 12) f12 ?_; refine know (t := 13) f13 ?_
  refine go ?_
  refine cond_dec rfl (fun hlt => ?_) (fun hge => ?_)
  · have hoy := hOr _ (gi_mem (xs := O) (j := (i : Int)) (by omega) (by omega))
    refine go ?_
    have szq13 := hbB1.size
    refine s_storeI (wn rfl) rfl rfl hn (by omega) (by omega) (fun w13 hoN hgN => ?_)
    replace hbB1 := hbB1.trans (hn.below_of hgN szq13)
    have sw13 := hgN.size
    replace hn := hoN
    clear hoN
    replace hmv := hmv_b1.below hbB1
    replace hor := hor_b1.below hbB1
    replace hx4 := hx4_b1.below hbB1
    replace hs := hs_b1.below hbB1
    refine go ?_
    refine ⟨O.length - (i + 1), by omega, i + 1, _, rfl, by omega, rfl, rfl, rfl, rfl, rfl, hn, by rw [seti_len]; exact hNl, seti_all hNr (by omega), hbB1⟩
  obtain rfl : i = O.length := by omega
  have sbs2 := hbB1.size
  have hmv_b2 := hmv
  have hor_b2 := hor
  have hx4_b2 := hx4
  have hs_b2 := hs
  have hn_b2 := hn
  have hbB2 := Below.refl w12.heap.size w12
  refine go ?_
  refine s_p (wn rfl) rfl y_bld0 ?_
  refine go ?_
  refine s_alloc (B := w12.heap.size) (wn rfl) rfl (by first | exact Nat.le_refl _ | omega) (fun w14 p14 hx14 hg14 hpp14 => ?_)
  have hb14 := below_of_grownBy hg14
  have sw14 := hb14.size
  replace hmv := hmv.below hb14
  replace hor := hor.below hb14
  replace hx4 := hx4.below hb14
  replace hs := hs.below hb14
  replace hn := hn.below hb14
  replace hbB2 := hbB2.trans (hb14.mono hbB2.size)
  have hlt_hx14 := hx14.lt
  refine go ?_
  refine s_storeBox (wn rfl) rfl rfl rfl hx14 (fun w15 hxN hgN => ?_)
  replace hbB2 := hbB2.trans (hx14.below_of hgN hbB2.size)
  have sw15 := hgN.size
  replace hx14 := hxN
  replace hmv := hmv_b2.below hbB2
  replace hor := hor_b2.below hbB2
  replace hx4 := hx4_b2.below hbB2
  replace hs := hs_b2.below hbB2
  replace hn := hn_b2.below hbB2
  refine go ?_
  refine w_loop (fun kk fr w' => ∃ (i : Nat) (ob : Value) (xss : List (List Int)), kk = 3 - i ∧ i ≤ 3 ∧ fr 4 = .pointer (some p4) ∧ fr 10 = mb ∧ fr 11 = orb ∧ fr 12 = nb ∧ fr 14 = .pointer (some p14) ∧ fr 15 = .int .i64 i ∧ (Bx w' w12.heap.size p14 26 ob) ∧ (OM w' w15.heap.size w'.heap.size 32 2 ob xss) ∧ (w15.heap.size ≤ w'.heap.size) ∧ (xss.length = i) ∧ (Syst O.length xss) ∧ Below w12.heap.size w12 w') (3)
    ⟨0, _, [], rfl, Nat.zero_le _, rfl, rfl, rfl, rfl, rfl, rfl, hx14, OM.nil _ _ _ _ _, Nat.le_refl _, rfl, fun m h => by simp at h, hbB2⟩ ?_
  rintro kk fr w16 ⟨i, ob, xss, rfl, hi, f4, f10, f11, f12, f14, f15, hx14, ho, hge14, hxl, hxs, hbB2⟩
  have sw16 := hbB2.size
  have hmv := hmv_b2.below hbB2
  have hor := hor_b2.below hbB2
  have hx4 := hx4_b2.below hbB2
  have hs := hs_b2.below hbB2
  have hn := hn_b2.below hbB2
  have sho := ho.sv
  refine know (t := 4) f4 ?_; refine know (t := 10) f10 ?_; refine know (t := 11) f11 ?_; refine know (t := 12) f12 ?_; refine know (t := 14) f14 ?_; refine know (t := 15) f15 ?_
  refine go ?_
  refine cond_dec rfl (fun hlt => ?_) (fun hge => ?_)
  · refine go ?_
    have sbs3 := hbB2.size
    have hmv_b3 := hmv
    have hor_b3 := hor
    have hx4_b3 := hx4
    have hs_b3 := hs
    have hn_b3 := hn
    have ho_b3 := ho
    have hx14_b3 := hx14
    have hbB3 := Below.refl w16.heap.size w16
    obtain ⟨u, hu_b3, hcu_b3⟩ := hmv_b3.row (j := (i : Int)) (by omega) (by omega)
    have hrow := hsys.row (j := (i : Int)) (by omega) (by omega)
    have su := hu_b3.sv
    have hu := hu_b3.below hbB3
    have hcu := cell_below hcu_b3 hbB3
    refine go ?_
    have szq17 := hbB3.size
    refine s_build0 (B := w16.heap.size) (wn rfl) rfl szq17 (fun rb w17 hr so hg17 _ => ?_)
    have hb17 := below_of_grownBy hg17
    have sw17 := hb17.size
    replace hmv := hmv.below hb17
    replace hor := hor.below hb17
    replace hx4 := hx4.below hb17
    replace hs := hs.below hb17
    replace hn := hn.below hb17
    replace ho := ho.below hb17
    replace hx14 := hx14.below hb17
    replace hu := hu.below hb17
    replace hcu := cell_below hcu hb17
    replace hbB3 := hbB3.trans (hb17.mono hbB3.size)
    refine go ?_
    refine go ?_
    refine w_loop (fun kk fr w' => ∃ (t : Nat) (rb : Value) (L : List Int), kk = O.length - t ∧ t ≤ O.length ∧ fr 4 = .pointer (some p4) ∧ fr 10 = mb ∧ fr 11 = orb ∧ fr 12 = nb ∧ fr 14 = .pointer (some p14) ∧ fr 15 = .int .i64 i ∧ fr 16 = rb ∧ fr 17 = .int .i64 t ∧ (OI w' w16.heap.size 2 rb L) ∧ (L.length = t) ∧ (∀ x ∈ L, 0 ≤ x ∧ x < (O.length : Int)) ∧ Below w16.heap.size w16 w') (O.length)
      ⟨0, rb, [], rfl, Nat.zero_le _, rfl, rfl, rfl, rfl, rfl, rfl, rfl, rfl, hr, rfl, fun x h => by simp at h, hbB3⟩ ?_
    rintro kk fr w18 ⟨t, rb, L, rfl, ht, f4, f10, f11, f12, f14, f15, f16, f17, hr, hLl, hLr, hbB3⟩
    have sw18 := hbB3.size
    have hmv := hmv_b3.below hbB3
    have hor := hor_b3.below hbB3
    have hx4 := hx4_b3.below hbB3
    have hs := hs_b3.below hbB3
    have hn := hn_b3.below hbB3
    have ho := ho_b3.below hbB3
    have hx14 := hx14_b3.below hbB3
    have hu := hu_b3.below hbB3
    have hcu := cell_below hcu_b3 hbB3
    have shr := hr.sv
    refine know (t := 4) f4 ?_; refine know (t := 10) f10 ?_; refine know (t := 11) f11 ?_; refine know (t := 12) f12 ?_; refine know (t := 14) f14 ?_; refine know (t := 15) f15 ?_; refine know (t := 16) f16 ?_; refine know (t := 17) f17 ?_
    refine go ?_
    refine cond_dec rfl (fun hlt2 => ?_) (fun hge2 => ?_)
    · have hoy := hOr _ (gi_mem (xs := O) (j := (t : Int)) (by omega) (by omega))
      have hyy := hsys.at (j := (i : Int)) (by omega) (by omega) hoy
      have hny := hNr _ (gi_mem (xs := NL) (j := gi (gr M i) (gi O t)) (by omega) (by omega))
      have snb := hn.sv
      refine go ?_
      refine region_hS (fun w' => Below w16.heap.size w16 w') mixed (fun w19 hb19 => ?_)
      have sw19 := hb19.size
      replace hmv := hmv.below hb19
      replace hor := hor.below hb19
      replace hx4 := hx4.below hb19
      replace hs := hs.below hb19
      replace hn := hn.below hb19
      replace ho := ho.below hb19
      replace hx14 := hx14.below hb19
      replace hu := hu.below hb19
      replace hcu := cell_below hcu hb19
      replace hr := hr.below hb19
      replace hbB3 := hbB3.trans (hb19.mono hbB3.size)
      refine h_p 0 hbB3 ?_
      refine h_p 1 hbB3 ?_
      refine h_p 2 hbB3 ?_
      refine h_p 3 hbB3 ?_
      refine h_p 4 hbB3 ?_
      refine h_p 5 hbB3 ?_
      refine h_p 6 hbB3 ?_
      refine h_p 7 hbB3 ?_
      refine h_p 8 hbB3 ?_
      refine h_p 9 hbB3 ?_
      refine h_p 10 hbB3 ?_
      refine h_p 11 hbB3 ?_
      refine h_p 12 hbB3 ?_
      refine h_p 13 hbB3 ?_
      refine h_one 14 ?_
      have szq20 := hbB3.size
      refine s_build1 (B := w16.heap.size) (wn rfl) rfl rfl szq20 (fun tb w20 ht st hg20 _ => ?_)
      have hb20 := below_of_grownBy hg20
      have sw20 := hb20.size
      replace hmv := hmv.below hb20
      replace hor := hor.below hb20
      replace hx4 := hx4.below hb20
      replace hs := hs.below hb20
      replace hn := hn.below hb20
      replace ho := ho.below hb20
      replace hx14 := hx14.below hb20
      replace hu := hu.below hb20
      replace hcu := cell_below hcu hb20
      replace hr := hr.below hb20
      replace hbB3 := hbB3.trans (hb20.mono hbB3.size)
      have szq21 := hbB3.size
      refine w_nil ?_
      refine h_on ⟨hbB3, ?_⟩
      refine h_one 15 ?_
      refine s_appendI (wn rfl) rfl rfl rfl hr ht.il (by simp; omega) szq21 (fun rb' w21 hoN so hgN _ => ?_)
      replace hbB3 := hbB3.trans (hr.below_of hgN szq21)
      have sw21 := hgN.size
      replace hr := hoN
      clear hoN
      replace hmv := hmv_b3.below hbB3
      replace hor := hor_b3.below hbB3
      replace hx4 := hx4_b3.below hbB3
      replace hs := hs_b3.below hbB3
      replace hn := hn_b3.below hbB3
      replace ho := ho_b3.below hbB3
      replace hx14 := hx14_b3.below hbB3
      replace hu := hu_b3.below hbB3
      replace hcu := cell_below hcu_b3 hbB3
      refine w_nil ?_
      refine h_on ⟨hbB3, ?_⟩
      refine h_p 16 hbB3 ?_
      refine h_nil ?_
      refine go ?_
      refine ⟨O.length - (t + 1), by omega, t + 1, rb', _, rfl, by omega, rfl, rfl, rfl, rfl, rfl, rfl, rfl, rfl, hr, by simp [hLl], fun x hx => by
            rcases List.mem_append.1 hx with hx | hx
            · exact hLr x hx
            · simp at hx; subst hx; omega, hbB3⟩
    obtain rfl : t = O.length := by omega
    replace hbB2 := hbB2.trans (hbB3.mono hbB2.size)
    have hc_hx14 := hx14.cell
    refine go ?_
    have szq22 := hbB2.size
    refine s_build1V (B := w12.heap.size) (wn rfl) rfl rfl hr.sv.one szq22 (fun tb w22 ht st hg22 _ => ?_)
    have hb22 := below_of_grownBy hg22
    have sw22 := hb22.size
    replace hmv := hmv.below hb22
    replace hor := hor.below hb22
    replace hx4 := hx4.below hb22
    replace hs := hs.below hb22
    replace hn := hn.below hb22
    replace ho := ho.below hb22
    replace hx14 := hx14.below hb22
    replace hu := hu.below hb22
    replace hcu := cell_below hcu hb22
    replace hr := hr.below hb22
    replace hc_hx14 := cell_below hc_hx14 hb22
    replace hbB2 := hbB2.trans (hb22.mono hbB2.size)
    have szq23 := hbB2.size
    refine s_appendM (wn rfl) rfl rfl rfl ho ht.rd hr (by omega) (by decide) (by omega) (by omega) (fun ob' w23 hoN so hgN => ?_)
    have sw23 := hgN.size
    replace hbB2 := hbB2.trans ((ho.below_of hgN (by omega)).mono (by omega))
    replace hx14 := hx14.kept hgN (by intro e; have := (ho.ownlt _ e).1; omega)
    replace ho := hoN
    clear hoN
    replace hmv := hmv_b2.below hbB2
    replace hor := hor_b2.below hbB2
    replace hx4 := hx4_b2.below hbB2
    replace hs := hs_b2.below hbB2
    replace hn := hn_b2.below hbB2
    refine go ?_
    refine s_storeFld (wn rfl) rfl rfl so.one hx14 (fun w24 hxN hgN => ?_)
    have sw24 := hgN.size
    replace hbB2 := hbB2.trans (hx14.below_of hgN (by omega))
    replace ho := (ho.kept hgN (by omega)).top
    replace hx14 := hxN
    clear hxN
    replace hmv := hmv_b2.below hbB2
    replace hor := hor_b2.below hbB2
    replace hx4 := hx4_b2.below hbB2
    replace hs := hs_b2.below hbB2
    replace hn := hn_b2.below hbB2
    refine go ?_
    refine ⟨3 - (i + 1), by omega, i + 1, ob', _, rfl, by omega, rfl, rfl, rfl, rfl, rfl, rfl, hx14, ho, by omega, by simp [hxl], fun m hm => by
          rcases List.mem_append.1 hm with hm | hm
          · exact hxs m hm
          · simp at hm; subst hm; exact ⟨hLl, hLr⟩, hbB2⟩
  obtain rfl : i = 3 := by omega
  replace hbB1 := hbB1.trans (hbB2.mono hbB1.size)
  have hcx := hx14.cell
  have zw := hbB1.size
  have hgF := gr_step hgW (grownBy_of_below hbB1 none) (fun k hk => by cases hk)
  refine go2 ?_
  refine s_storeBox (wn rfl) rfl rfl ho.sv.one hx4 (fun wz hxz hgz => ?_)
  have hgZ := gr_step hgF hgz (fun k hk => by cases hk; omega)
  have hsZ := hs.kept hgz (fun k hk => by cases hk; exact ⟨by have := hs.low; omega, by omega⟩)
  have hzz := hgz.size
  have hz7 := hgW.size
  have hxN := ho.kept hgz (by omega)
  refine go2 ?_
  exact end_cell Tryz.results145 rfl hxz.cell ⟨ob, xss, _, rfl, (hxN.mono (by omega)).top, hxl, ⟨hO1, hOl⟩, hxs, hsZ, hgZ⟩

end Go.Proofs.YtablpijnjkncfaaGreat

/- Contracts: any maniplex drawn. -/
namespace Go.Proofs.YtablpijnjkncfaaGreat
open Go.Mem Go.RowKit
set_option linter.unusedVariables false
set_option linter.unusedSimpArgs false

set_option maxHeartbeats 16000000 in
set_option maxRecDepth 100000 in
theorem l02Any_any (q B : Nat) (c : Value) (bs : List Int) (most : Int) (M : Nat) (w : World) (em : most = M) (h1 : 8 ≤ M) (hM : M ≤ 400) (hs : Sr w B q 94 c bs) :
    Ret Tryz.prog 127 #[.pointer (some ⟨q, 0, none⟩), .int .i64 most] w fun r w' => ∃ x xss, ∃ N : Nat, r = .agg #[x] ∧ OM w' w.heap.size w'.heap.size 32 2 x xss ∧ (1 ≤ xss.length ∧ xss.length ≤ 5) ∧ (1 ≤ N ∧ N ≤ M) ∧ Syst N xss ∧ Sr w' B q 94 c bs ∧ w.grownBy w' (some q) := by
  refine enter2 89 Tryz.func127 rfl Tryz.ntmps127 rfl (fun fr => ?_)
  have hql := hs.lt
  have hEs : Syst 2 [[1, 0]] := by
    intro m hm
    simp at hm; subst hm
    exact ⟨rfl, fun x hx => by simp at hx; rcases hx with rfl | rfl <;> omega⟩
  refine go2 ?_
  refine s_alloc (B := w.heap.size) (wn rfl) rfl (Nat.le_refl _) (fun w1 p4 hx4 hg1 hp4 => ?_)
  have hb1 := below_of_grownBy hg1
  have z1 := hb1.size
  have hlt4 := hx4.lt
  replace hs := hs.below hb1
  have hg := grownBy_of_below hb1 (some q)
  refine go2 ?_
  refine s_build2 (B := w1.heap.size) (wn rfl) rfl rfl rfl (Nat.le_refl _) (fun rv w2 hr sr hg2 _ => ?_)
  have hb2 := below_of_grownBy hg2
  replace hx4 := hx4.below hb2
  replace hs := hs.below hb2
  have z_hb2 := hb2.size
  replace hg := gr_step hg (grownBy_of_below hb2 none) (fun k hk => by cases hk)
  have zg_hb2 := hg.size
  have hrlt := fun g hg => (hr.lt g hg).2
  refine go2 ?_
  refine s_build1V (B := w1.heap.size) (wn rfl) rfl rfl sr.one z_hb2 (fun ev w3 he se hg3 _ => ?_)
  have hb3 := below_of_grownBy hg3
  replace hx4 := hx4.below hb3
  replace hs := hs.below hb3
  have z_hb3 := hb3.size
  replace hg := gr_step hg (grownBy_of_below hb3 none) (fun k hk => by cases hk)
  have zg_hb3 := hg.size
  have hE := (Rws.one' (hr.below hb3) (E := w3.heap.size) (fun g h => by have := hrlt g h; omega)).om he
  have hEv := fun g h => (hE.ownlt g h).2
  obtain ⟨E1, hE1⟩ : ∃ E1, E1 = w3.heap.size := ⟨_, rfl⟩
  rw [← hE1] at hE hEv
  refine go2 ?_
  refine s_p (wn rfl) rfl (y_bld1 rfl se.one) ?_
  refine go2 ?_
  refine s_alloc (B := w.heap.size) (wn rfl) rfl (by omega) (fun w4 p5 hx5 hg4 hp5 => ?_)
  have hb4 := below_of_grownBy hg4
  replace hE := hE.below hb4
  replace hx4 := hx4.below hb4
  replace hs := hs.below hb4
  have z_hb4 := hb4.size
  replace hg := gr_step hg (grownBy_of_below hb4 none) (fun k hk => by cases hk)
  have zg_hb4 := hg.size
  have hlt5 := hx5.lt
  refine go2 ?_
  refine s_storeBox (wn rfl) rfl rfl se.one hx5 (fun w5 hx5N hg5 => ?_)
  replace hx5 := hx5N
  replace hx4 := hx4.kept hg5 (by intro e; have := Option.some.inj e; omega)
  replace hE := hE.apart2 hEv hg5 (fun g e => .inr (by have := Option.some.inj e; omega))
  replace hs := hs.kept hg5 (fun k hk => by cases hk; exact ⟨by have := hs.low; omega, by omega⟩)
  replace hg := gr_step hg hg5 (fun k hk => by cases hk; omega)
  have z5 := hg5.size
  have hc5 := hx5.cell
  refine go2 ?_
  refine s_alloc (B := w.heap.size) (wn rfl) rfl (by omega) (fun w6 p6 hx6 hg6 hp6 => ?_)
  have hb6 := below_of_grownBy hg6
  replace hE := hE.below hb6
  replace hx4 := hx4.below hb6
  replace hx5 := hx5.below hb6
  replace hs := hs.below hb6
  have z_hb6 := hb6.size
  replace hg := gr_step hg (grownBy_of_below hb6 none) (fun k hk => by cases hk)
  have zg_hb6 := hg.size
  have hlt6 := hx6.lt
  refine go2 ?_
  refine s_storeBox (wn rfl) rfl rfl se.one hx6 (fun w7 hx6N hg7 => ?_)
  replace hx6 := hx6N
  replace hx4 := hx4.kept hg7 (by intro e; have := Option.some.inj e; omega)
  replace hx5 := hx5.kept hg7 (by intro e; have := Option.some.inj e; omega)
  replace hE := hE.apart2 hEv hg7 (fun g e => .inr (by have := Option.some.inj e; omega))
  replace hs := hs.kept hg7 (fun k hk => by cases hk; exact ⟨by have := hs.low; omega, by omega⟩)
  replace hg := gr_step hg hg7 (fun k hk => by cases hk; omega)
  have z7 := hg7.size
  clear hc5
  refine w_nil ?_
  refine then_normal ?_
  refine w_seq ?_
  refine meet (fun fr w' => ∃ (x : Value) (xss : List (List Int)) (N B3 : Nat), fr 0 = .pointer (some ⟨q, 0, none⟩) ∧ fr 1 = .int .i64 most ∧ fr 4 = .pointer (some p4) ∧ fr 5 = .pointer (some p5) ∧ fr 6 = .pointer (some p6) ∧ Bx w' w.heap.size p6 26 x ∧ OM w' B3 w'.heap.size 32 2 x xss ∧ p6.block < B3 ∧ (1 ≤ xss.length ∧ xss.length ≤ 5) ∧ (1 ≤ N ∧ N ≤ M) ∧ Syst N xss ∧ OM w' w1.heap.size E1 32 2 ev [[1, 0]] ∧ Bx w' w.heap.size p4 26 (.slice none 0 0) ∧ Bx w' w.heap.size p5 26 ev ∧ Sr w' B q 94 c bs ∧ w.grownBy w' (some q)) ?_ ?_
  · refine go2 ?_
    refine s_call2 (wn rfl) rfl rfl rfl (l01Next_any q 7 B c bs _ hs (by omega)) ?_
    rintro _ wna ⟨ka, rfl, _, hka, hsa, hga⟩
    replace hx4 := hx4.kept hga (by intro e; have := Option.some.inj e; omega)
    replace hx5 := hx5.kept hga (by intro e; have := Option.some.inj e; omega)
    replace hx6 := hx6.kept hga (by intro e; have := Option.some.inj e; omega)
    replace hE := hE.kept hga (by omega)
    replace hs := hsa
    replace hg := grownBy_trans hg hga
    have zg_hga := hg.size
    have z_hga := hga.size
    have hk := hka (by omega)
    by_cases c0 : ka = 0
    · refine go2 ?_
      refine s_call2 (wn rfl) rfl rfl rfl (l01Next_any q (most / 2) B c bs _ hs (by omega)) ?_
      rintro _ wnb ⟨kb, rfl, _, hkb, hsb, hgb⟩
      replace hx4 := hx4.kept hgb (by intro e; have := Option.some.inj e; omega)
      replace hx5 := hx5.kept hgb (by intro e; have := Option.some.inj e; omega)
      replace hx6 := hx6.kept hgb (by intro e; have := Option.some.inj e; omega)
      replace hE := hE.kept hgb (by omega)
      replace hs := hsb
      replace hg := grownBy_trans hg hgb
      have zg_hgb := hg.size
      have z_hgb := hgb.size
      have hkb2 := hkb (by omega)
      refine go2 ?_
      refine s_call1 (wn rfl) rfl rfl (l02Polygon_any (1 + kb) ((1 + kb).toNat) _ (by omega) (by omega) (by omega)) ?_
      rintro _ wpp ⟨xp, xsp, rfl, hmp, hlp, hyp, hbp⟩
      replace hE := hE.below hbp
      replace hx4 := hx4.below hbp
      replace hx5 := hx5.below hbp
      replace hx6 := hx6.below hbp
      replace hs := hs.below hbp
      have z_hbp := hbp.size
      replace hg := gr_step hg (grownBy_of_below hbp none) (fun k hk => by cases hk)
      have zg_hbp := hg.size
      have hm := hmp
      refine s_storeBox (wn rfl) rfl rfl hm.sv.one hx6 (fun wsp hxN hgN => ?_)
      replace hm := hm.kept hgN (by omega)
      replace hx4 := hx4.kept hgN (by intro e; have := Option.some.inj e; omega)
      replace hx5 := hx5.kept hgN (by intro e; have := Option.some.inj e; omega)
      replace hE := hE.apart2 hEv hgN (fun g e => .inr (by have := Option.some.inj e; omega))
      replace hs := hs.kept hgN (fun k hk => by cases hk; exact ⟨by have := hs.low; omega, by omega⟩)
      replace hg := gr_step hg hgN (fun k hk => by cases hk; omega)
      have zsp := hgN.size
      replace hx6 := hxN
      clear hxN
      refine go2 ?_
      exact ⟨_, _, 2 * (1 + kb).toNat, _, rfl, rfl, rfl, rfl, rfl, hx6, hm.top, by omega, by omega, by omega, hyp, hE, hx4, hx5, hs, hg⟩
    by_cases c1 : ka = 1
    · have hc5 := hx5.cell
      refine go2 ?_
      refine s_storeBox (wn rfl) rfl rfl se.one hx4 (fun wz hxz hgz => ?_)
      have hEz := hE.apart2 hEv hgz (fun g e => .inl (by have := Option.some.inj e; omega))
      have hsz := hs.kept hgz (fun k hk => by cases hk; exact ⟨by have := hs.low; omega, by omega⟩)
      have zz := hgz.size
      refine go2 ?_
      exact end_cell Tryz.results127 rfl hxz.cell ⟨ev, _, 2, rfl, (hEz.mono (by omega)).top, by decide, by omega, hEs, hsz, gr_step hg hgz (fun k hk => by cases hk; omega)⟩
    by_cases c2 : ka = 2
    · refine go2 ?_
      refine s_call2 (wn rfl) rfl rfl rfl (l01Next_any q (most / 4) B c bs _ hs (by omega)) ?_
      rintro _ wnb ⟨kb, rfl, _, hkb, hsb, hgb⟩
      replace hx4 := hx4.kept hgb (by intro e; have := Option.some.inj e; omega)
      replace hx5 := hx5.kept hgb (by intro e; have := Option.some.inj e; omega)
      replace hx6 := hx6.kept hgb (by intro e; have := Option.some.inj e; omega)
      replace hE := hE.kept hgb (by omega)
      replace hs := hsb
      replace hg := grownBy_trans hg hgb
      have zg_hgb := hg.size
      have z_hgb := hgb.size
      have hkb2 := hkb (by omega)
      refine go2 ?_
      refine s_call1 (wn rfl) rfl rfl (l02Polygon_any (1 + kb) ((1 + kb).toNat) _ (by omega) (by omega) (by omega)) ?_
      rintro _ wpp ⟨xp, xsp, rfl, hmp, hlp, hyp, hbp⟩
      replace hE := hE.below hbp
      replace hx4 := hx4.below hbp
      replace hx5 := hx5.below hbp
      replace hx6 := hx6.below hbp
      replace hs := hs.below hbp
      have z_hbp := hbp.size
      replace hg := gr_step hg (grownBy_of_below hbp none) (fun k hk => by cases hk)
      have zg_hbp := hg.size
      have hm := hmp
      refine s_storeBox (wn rfl) rfl rfl hm.sv.one hx6 (fun wsp hxN hgN => ?_)
      replace hm := hm.kept hgN (by omega)
      replace hx4 := hx4.kept hgN (by intro e; have := Option.some.inj e; omega)
      replace hx5 := hx5.kept hgN (by intro e; have := Option.some.inj e; omega)
      replace hE := hE.apart2 hEv hgN (fun g e => .inr (by have := Option.some.inj e; omega))
      replace hs := hs.kept hgN (fun k hk => by cases hk; exact ⟨by have := hs.low; omega, by omega⟩)
      replace hg := gr_step hg hgN (fun k hk => by cases hk; omega)
      have zsp := hgN.size
      replace hx6 := hxN
      clear hxN
      have hc6 := hx6.cell
      have hc5 := hx5.cell
      refine go2 ?_
      refine s_call2 (wn rfl) rfl rfl rfl (l02Beside_any _ _ _ _ (2 * (1 + kb).toNat) 2 _ hm.rl hE.rl hyp hEs (by omega) (by decide) (by omega) (by decide) (by omega) (by omega) (by decide)) ?_
      rintro _ wq ⟨x2, xs2, rfl, hm2, hl2, hy2, hb2'⟩
      replace hE := hE.below hb2'
      replace hx4 := hx4.below hb2'
      replace hx5 := hx5.below hb2'
      replace hx6 := hx6.below hb2'
      replace hs := hs.below hb2'
      have z_q := hb2'.size
      replace hg := gr_step hg (grownBy_of_below hb2' none) (fun k hk => by cases hk)
      have zg_q := hg.size
      have hlx : xs2.length = 3 := by rw [hl2, hlp]; rfl
      have hm := hm2
      refine s_storeBox (wn rfl) rfl rfl hm.sv.one hx6 (fun wsq hxN hgN => ?_)
      replace hm := hm.kept hgN (by omega)
      replace hx4 := hx4.kept hgN (by intro e; have := Option.some.inj e; omega)
      replace hx5 := hx5.kept hgN (by intro e; have := Option.some.inj e; omega)
      replace hE := hE.apart2 hEv hgN (fun g e => .inr (by have := Option.some.inj e; omega))
      replace hs := hs.kept hgN (fun k hk => by cases hk; exact ⟨by have := hs.low; omega, by omega⟩)
      replace hg := gr_step hg hgN (fun k hk => by cases hk; omega)
      have zsq := hgN.size
      replace hx6 := hxN
      clear hxN
      refine go2 ?_
      exact ⟨_, _, 2 * (1 + kb).toNat * 2, _, rfl, rfl, rfl, rfl, rfl, hx6, hm.top, by omega, by omega, by omega, hy2, hE, hx4, hx5, hs, hg⟩
    by_cases c3 : ka = 3
    · refine go2 ?_
      refine s_call2 (wn rfl) rfl rfl rfl (l01Next_any q 4 B c bs _ hs (by omega)) ?_
      rintro _ wnb ⟨kb, rfl, _, hkb, hsb, hgb⟩
      replace hx4 := hx4.kept hgb (by intro e; have := Option.some.inj e; omega)
      replace hx5 := hx5.kept hgb (by intro e; have := Option.some.inj e; omega)
      replace hx6 := hx6.kept hgb (by intro e; have := Option.some.inj e; omega)
      replace hE := hE.kept hgb (by omega)
      replace hs := hsb
      replace hg := grownBy_trans hg hgb
      have zg_hgb := hg.size
      have z_hgb := hgb.size
      have hkb2 := hkb (by omega)
      obtain ⟨PB, hPB⟩ : ∃ PB : Nat, 1 + kb = PB := ⟨(1 + kb).toNat, by omega⟩
      refine go2 ?_
      refine s_p (wn rfl) rfl (y_mul rfl rfl (by constructor <;> omega)) ?_
      by_cases cp : most < 4 * (1 + kb)
      · obtain ⟨PN, hPN, hP1, hP4⟩ : ∃ PN : Nat, (2 : Int) = PN ∧ 1 ≤ PN ∧ PN ≤ 4 := ⟨2, rfl, by decide, by decide⟩
        have hPM : 4 * PN ≤ M := by omega
        have hP42 : PN = 1 ∨ PN = 2 ∨ PN = 3 ∨ PN = 4 := by omega
        refine go2 ?_
        refine region_hS (fun _ => True) mixed (fun wr cr => ?_)
        replace hE := hE.below cr
        replace hx4 := hx4.below cr
        replace hx5 := hx5.below cr
        replace hx6 := hx6.below cr
        replace hs := hs.below cr
        have z_cr := cr.size
        replace hg := gr_step hg (grownBy_of_below cr none) (fun k hk => by cases hk)
        have zg_cr := hg.size
        refine h_p 0 trivial ?_ (hrun := fun _ _ => yl)
        refine h_p 2 trivial ?_ (hrun := fun _ _ => yl)
        refine h_p 3 trivial ?_ (hrun := fun _ _ => yl)
        refine h_p 4 trivial ?_ (hrun := fun _ _ => yl)
        refine h_p 5 trivial ?_ (hrun := fun _ _ => y_mul rfl rfl (by constructor <;> omega))
        refine h_p 6 trivial ?_ (hrun := fun _ _ => y_quo rfl rfl (by omega) (by omega) (by omega))
        refine h_one 1 ?_
        refine s_call1 (wn rfl) rfl rfl (l02Polygon_any (2) (PN) _ (by omega) (by omega) (by omega)) ?_
        rintro _ wpp ⟨xp, xsp, rfl, hmp, hlp, hyp, hbp⟩
        replace hE := hE.below hbp
        replace hx4 := hx4.below hbp
        replace hx5 := hx5.below hbp
        replace hx6 := hx6.below hbp
        replace hs := hs.below hbp
        have z_hbp := hbp.size
        replace hg := gr_step hg (grownBy_of_below hbp none) (fun k hk => by cases hk)
        have zg_hbp := hg.size
        refine w_nil ?_
        refine h_on ⟨trivial, ?_⟩
        have hmq : 1 ≤ most / (4 * (2)) := by
          rw [hPN, em]
          rcases hP42 with rfl | rfl | rfl | rfl <;> omega
        refine h_one 7 ?_
        refine s_call2 (wn rfl) rfl rfl rfl (l01Next_any q (most / (4 * (2))) B c bs _ hs (Int.le_trans (Int.ediv_le_self _ (by omega)) (by omega))) ?_
        rintro _ wnc ⟨kc, rfl, _, hkc, hsc, hgc⟩
        have hkc2 := hkc hmq
        replace hmp := hmp.kept hgc (by omega)
        replace hx4 := hx4.kept hgc (by intro e; have := Option.some.inj e; omega)
        replace hx5 := hx5.kept hgc (by intro e; have := Option.some.inj e; omega)
        replace hx6 := hx6.kept hgc (by intro e; have := Option.some.inj e; omega)
        replace hE := hE.kept hgc (by omega)
        replace hs := hsc
        replace hg := grownBy_trans hg hgc
        have zg_hgc := hg.size
        have z_hgc := hgc.size
        refine w_nil ?_
        refine h_on ⟨trivial, ?_⟩
        have hkcM : kc < most := Int.lt_of_lt_of_le hkc2.2 (Int.ediv_le_self _ (by omega))
        refine h_p 8 trivial ?_ (hrun := fun _ _ => yl)
        refine h_one 9 ?_
        refine s_call1 (wn rfl) rfl rfl (l02Polygon_any (1 + kc) ((1 + kc).toNat) _ (by omega) (by omega) (by omega)) ?_
        rintro _ wpr ⟨xr, xsr, rfl, hmr, hlr, hyr, hbr⟩
        replace hE := hE.below hbr
        replace hx4 := hx4.below hbr
        replace hx5 := hx5.below hbr
        replace hx6 := hx6.below hbr
        replace hs := hs.below hbr
        have z_hbr := hbr.size
        replace hg := gr_step hg (grownBy_of_below hbr none) (fun k hk => by cases hk)
        have zg_hbr := hg.size
        replace hmp := hmp.below hbr
        refine w_nil ?_
        refine h_on ⟨trivial, ?_⟩
        have hNN : 2 * PN * (2 * (1 + kc).toNat) ≤ M := by
          rw [hPN, em] at hkc2
          rcases hP42 with rfl | rfl | rfl | rfl <;> omega
        have hNN1 : 1 ≤ 2 * PN * (2 * (1 + kc).toNat) := Nat.mul_pos (by omega) (by omega)
        refine h_one 10 ?_
        refine s_call2 (wn rfl) rfl rfl rfl (l02Beside_any _ _ _ _ (2 * PN) (2 * (1 + kc).toNat) _ hmp.rl hmr.rl hyp hyr (by omega) (by omega) (by omega) (by omega) (by omega) (by omega) (by omega)) ?_
        rintro _ wq ⟨x2, xs2, rfl, hm2, hl2, hy2, hbt⟩
        replace hE := hE.below hbt
        replace hx4 := hx4.below hbt
        replace hx5 := hx5.below hbt
        replace hx6 := hx6.below hbt
        replace hs := hs.below hbt
        have z_hbt := hbt.size
        replace hg := gr_step hg (grownBy_of_below hbt none) (fun k hk => by cases hk)
        have zg_hbt := hg.size
        refine w_nil ?_
        refine h_on ⟨trivial, ?_⟩
        refine h_one 11 ?_
        have hm := hm2
        refine s_storeBox (wn rfl) rfl rfl hm.sv.one hx6 (fun wsq hxN hgN => ?_)
        replace hm := hm.kept hgN (by omega)
        replace hx4 := hx4.kept hgN (by intro e; have := Option.some.inj e; omega)
        replace hx5 := hx5.kept hgN (by intro e; have := Option.some.inj e; omega)
        replace hE := hE.apart2 hEv hgN (fun g e => .inr (by have := Option.some.inj e; omega))
        replace hs := hs.kept hgN (fun k hk => by cases hk; exact ⟨by have := hs.low; omega, by omega⟩)
        replace hg := gr_step hg hgN (fun k hk => by cases hk; omega)
        have zsq := hgN.size
        replace hx6 := hxN
        clear hxN
        refine w_nil ?_
        refine h_on ⟨trivial, ?_⟩
        refine h_nil ?_
        refine go2 ?_
        exact ⟨_, _, 2 * PN * (2 * (1 + kc).toNat), _, rfl, rfl, rfl, rfl, rfl, hx6, hm.top, by omega, by omega, by omega, hy2, hE, hx4, hx5, hs, hg⟩
      · obtain ⟨PN, hPN, hP1, hP4⟩ : ∃ PN : Nat, (1 + kb) = PN ∧ 1 ≤ PN ∧ PN ≤ 4 := ⟨PB, hPB, by omega, by omega⟩
        have hPM : 4 * PN ≤ M := by omega
        have hP42 : PN = 1 ∨ PN = 2 ∨ PN = 3 ∨ PN = 4 := by omega
        refine go2 ?_
        refine region_hS (fun _ => True) mixed (fun wr cr => ?_)
        replace hE := hE.below cr
        replace hx4 := hx4.below cr
        replace hx5 := hx5.below cr
        replace hx6 := hx6.below cr
        replace hs := hs.below cr
        have z_cr := cr.size
        replace hg := gr_step hg (grownBy_of_below cr none) (fun k hk => by cases hk)
        have zg_cr := hg.size
        refine h_p 0 trivial ?_ (hrun := fun _ _ => yl)
        refine h_p 2 trivial ?_ (hrun := fun _ _ => yl)
        refine h_p 3 trivial ?_ (hrun := fun _ _ => yl)
        refine h_p 4 trivial ?_ (hrun := fun _ _ => yl)
        refine h_p 5 trivial ?_ (hrun := fun _ _ => y_mul rfl rfl (by constructor <;> omega))
        refine h_p 6 trivial ?_ (hrun := fun _ _ => y_quo rfl rfl (by omega) (by omega) (by omega))
        refine h_one 1 ?_
        refine s_call1 (wn rfl) rfl rfl (l02Polygon_any (1 + kb) (PN) _ (by omega) (by omega) (by omega)) ?_
        rintro _ wpp ⟨xp, xsp, rfl, hmp, hlp, hyp, hbp⟩
        replace hE := hE.below hbp
        replace hx4 := hx4.below hbp
        replace hx5 := hx5.below hbp
        replace hx6 := hx6.below hbp
        replace hs := hs.below hbp
        have z_hbp := hbp.size
        replace hg := gr_step hg (grownBy_of_below hbp none) (fun k hk => by cases hk)
        have zg_hbp := hg.size
        refine w_nil ?_
        refine h_on ⟨trivial, ?_⟩
        have hmq : 1 ≤ most / (4 * (1 + kb)) := by
          rw [hPN, em]
          rcases hP42 with rfl | rfl | rfl | rfl <;> omega
        refine h_one 7 ?_
        refine s_call2 (wn rfl) rfl rfl rfl (l01Next_any q (most / (4 * (1 + kb))) B c bs _ hs (Int.le_trans (Int.ediv_le_self _ (by omega)) (by omega))) ?_
        rintro _ wnc ⟨kc, rfl, _, hkc, hsc, hgc⟩
        have hkc2 := hkc hmq
        replace hmp := hmp.kept hgc (by omega)
        replace hx4 := hx4.kept hgc (by intro e; have := Option.some.inj e; omega)
        replace hx5 := hx5.kept hgc (by intro e; have := Option.some.inj e; omega)
        replace hx6 := hx6.kept hgc (by intro e; have := Option.some.inj e; omega)
        replace hE := hE.kept hgc (by omega)
        replace hs := hsc
        replace hg := grownBy_trans hg hgc
        have zg_hgc := hg.size
        have z_hgc := hgc.size
        refine w_nil ?_
        refine h_on ⟨trivial, ?_⟩
        have hkcM : kc < most := Int.lt_of_lt_of_le hkc2.2 (Int.ediv_le_self _ (by omega))
        refine h_p 8 trivial ?_ (hrun := fun _ _ => yl)
        refine h_one 9 ?_
        refine s_call1 (wn rfl) rfl rfl (l02Polygon_any (1 + kc) ((1 + kc).toNat) _ (by omega) (by omega) (by omega)) ?_
        rintro _ wpr ⟨xr, xsr, rfl, hmr, hlr, hyr, hbr⟩
        replace hE := hE.below hbr
        replace hx4 := hx4.below hbr
        replace hx5 := hx5.below hbr
        replace hx6 := hx6.below hbr
        replace hs := hs.below hbr
        have z_hbr := hbr.size
        replace hg := gr_step hg (grownBy_of_below hbr none) (fun k hk => by cases hk)
        have zg_hbr := hg.size
        replace hmp := hmp.below hbr
        refine w_nil ?_
        refine h_on ⟨trivial, ?_⟩
        have hNN : 2 * PN * (2 * (1 + kc).toNat) ≤ M := by
          rw [hPN, em] at hkc2
          rcases hP42 with rfl | rfl | rfl | rfl <;> omega
        have hNN1 : 1 ≤ 2 * PN * (2 * (1 + kc).toNat) := Nat.mul_pos (by omega) (by omega)
        refine h_one 10 ?_
        refine s_call2 (wn rfl) rfl rfl rfl (l02Beside_any _ _ _ _ (2 * PN) (2 * (1 + kc).toNat) _ hmp.rl hmr.rl hyp hyr (by omega) (by omega) (by omega) (by omega) (by omega) (by omega) (by omega)) ?_
        rintro _ wq ⟨x2, xs2, rfl, hm2, hl2, hy2, hbt⟩
        replace hE := hE.below hbt
        replace hx4 := hx4.below hbt
        replace hx5 := hx5.below hbt
        replace hx6 := hx6.below hbt
        replace hs := hs.below hbt
        have z_hbt := hbt.size
        replace hg := gr_step hg (grownBy_of_below hbt none) (fun k hk => by cases hk)
        have zg_hbt := hg.size
        refine w_nil ?_
        refine h_on ⟨trivial, ?_⟩
        refine h_one 11 ?_
        have hm := hm2
        refine s_storeBox (wn rfl) rfl rfl hm.sv.one hx6 (fun wsq hxN hgN => ?_)
        replace hm := hm.kept hgN (by omega)
        replace hx4 := hx4.kept hgN (by intro e; have := Option.some.inj e; omega)
        replace hx5 := hx5.kept hgN (by intro e; have := Option.some.inj e; omega)
        replace hE := hE.apart2 hEv hgN (fun g e => .inr (by have := Option.some.inj e; omega))
        replace hs := hs.kept hgN (fun k hk => by cases hk; exact ⟨by have := hs.low; omega, by omega⟩)
        replace hg := gr_step hg hgN (fun k hk => by cases hk; omega)
        have zsq := hgN.size
        replace hx6 := hxN
        clear hxN
        refine w_nil ?_
        refine h_on ⟨trivial, ?_⟩
        refine h_nil ?_
        refine go2 ?_
        exact ⟨_, _, 2 * PN * (2 * (1 + kc).toNat), _, rfl, rfl, rfl, rfl, rfl, hx6, hm.top, by omega, by omega, by omega, hy2, hE, hx4, hx5, hs, hg⟩
    · refine go2 ?_
      refine s_call2 (wn rfl) rfl rfl rfl (l01Next_any q (most / 4) B c bs _ hs (by omega)) ?_
      rintro _ wnb ⟨kb, rfl, _, hkb, hsb, hgb⟩
      replace hx4 := hx4.kept hgb (by intro e; have := Option.some.inj e; omega)
      replace hx5 := hx5.kept hgb (by intro e; have := Option.some.inj e; omega)
      replace hx6 := hx6.kept hgb (by intro e; have := Option.some.inj e; omega)
      replace hE := hE.kept hgb (by omega)
      replace hs := hsb
      replace hg := grownBy_trans hg hgb
      have zg_hgb := hg.size
      have z_hgb := hgb.size
      have hkb2 := hkb (by omega)
      refine go2 ?_
      refine s_call2 (wn rfl) rfl rfl rfl (l02Map_any (1 + kb) q B c bs (1 + kb).toNat _ (by omega) (by omega) (by omega) hs) ?_
      rintro _ wm ⟨xm, xsm, Nm, rfl, hm, hlm, hNm, hym, hsm, hgm⟩
      replace hx4 := hx4.kept hgm (by intro e; have := Option.some.inj e; omega)
      replace hx5 := hx5.kept hgm (by intro e; have := Option.some.inj e; omega)
      replace hx6 := hx6.kept hgm (by intro e; have := Option.some.inj e; omega)
      replace hE := hE.kept hgm (by omega)
      replace hs := hsm
      replace hg := grownBy_trans hg hgm
      have zg_hgm := hg.size
      have z_hgm := hgm.size
      refine s_storeBox (wn rfl) rfl rfl hm.sv.one hx6 (fun wsm hxN hgN => ?_)
      replace hm := hm.kept hgN (by omega)
      replace hx4 := hx4.kept hgN (by intro e; have := Option.some.inj e; omega)
      replace hx5 := hx5.kept hgN (by intro e; have := Option.some.inj e; omega)
      replace hE := hE.apart2 hEv hgN (fun g e => .inr (by have := Option.some.inj e; omega))
      replace hs := hs.kept hgN (fun k hk => by cases hk; exact ⟨by have := hs.low; omega, by omega⟩)
      replace hg := gr_step hg hgN (fun k hk => by cases hk; omega)
      have zsm := hgN.size
      replace hx6 := hxN
      clear hxN
      refine go2 ?_
      exact ⟨_, _, Nm, _, rfl, rfl, rfl, rfl, rfl, hx6, hm.top, by omega, by omega, by omega, hym, hE, hx4, hx5, hs, hg⟩
  clear hE hx4 hx5 hx6 hs hg
  rintro fr wj ⟨x, xss, N, B3, f0, f1, f4, f5, f6, hx6, hm, hB3, hxl, hN, hy, hE, hx4, hx5, hs, hg⟩
  refine know (t := 0) f0 ?_; refine know (t := 1) f1 ?_; refine know (t := 4) f4 ?_; refine know (t := 5) f5 ?_; refine know (t := 6) f6 ?_
  refine go2 ?_
  refine w_loop (fun kk fr w' => ∃ (x : Value) (xss : List (List Int)) (N B3 : Nat), kk = 5 - xss.length ∧ fr 0 = .pointer (some ⟨q, 0, none⟩) ∧ fr 1 = .int .i64 most ∧ fr 4 = .pointer (some p4) ∧ fr 5 = .pointer (some p5) ∧ fr 6 = .pointer (some p6) ∧ Bx w' w.heap.size p6 26 x ∧ OM w' B3 w'.heap.size 32 2 x xss ∧ p6.block < B3 ∧ (1 ≤ xss.length ∧ xss.length ≤ 5) ∧ (1 ≤ N ∧ N ≤ M) ∧ Syst N xss ∧ OM w' w1.heap.size E1 32 2 ev [[1, 0]] ∧ Bx w' w.heap.size p4 26 (.slice none 0 0) ∧ Bx w' w.heap.size p5 26 ev ∧ Sr w' B q 94 c bs ∧ w.grownBy w' (some q)) (5 - xss.length)
    ⟨x, xss, N, B3, rfl, rfl, rfl, rfl, rfl, rfl, hx6, hm, hB3, hxl, hN, hy, hE, hx4, hx5, hs, hg⟩ ?_
  clear hE hx4 hx5 hx6 hs hg hm hy hN hxl hB3 f0 f1 f4 f5 f6
  rintro kk fr wl ⟨x, xss, N, B3, rfl, f0, f1, f4, f5, f6, hx6, hm, hB3, hxl, hN, hy, hE, hx4, hx5, hs, hg⟩
  refine know (t := 0) f0 ?_; refine know (t := 1) f1 ?_; refine know (t := 4) f4 ?_; refine know (t := 5) f5 ?_; refine know (t := 6) f6 ?_
  have hc6 := hx6.cell
  have hc5 := hx5.cell
  have sm := hm.sv
  have eN := hy.nf hxl.1
  have zl := hg.size
  have zl6 := hx6.lt
  by_cases l5 : (xss.length : Int) < 5
  rotate_left
  · have l5b : decide ((xss.length : Int) < 5) = !true := decide_eq_false l5
    refine go2 ?_
    refine s_storeBox (wn rfl) rfl rfl hm.sv.one hx4 (fun wz hxz hgz => ?_)
    have hmz := hm.kept hgz (by omega)
    have hsz := hs.kept hgz (fun k hk => by cases hk; exact ⟨by have := hs.low; omega, by omega⟩)
    have zz := hgz.size
    refine go2 ?_
    exact end_cell Tryz.results127 rfl hxz.cell ⟨x, xss, N, rfl, (hmz.mono (by omega)).top, hxl, hN, hy, hsz, gr_step hg hgz (fun k hk => by cases hk; omega)⟩
  have l5t : decide ((xss.length : Int) < 5) = true := decide_eq_true l5
  refine go2 ?_
  refine s_call1 (wy rfl rfl rfl rfl rfl known) rfl rfl (l02Flags_any _ _ _ hm.rl hxl.1) ?_
  rintro _ wf ⟨rfl, hbf⟩
  rw [eN]
  replace hm := hm.below hbf
  replace hE := hE.below hbf
  replace hx4 := hx4.below hbf
  replace hx5 := hx5.below hbf
  replace hx6 := hx6.below hbf
  replace hs := hs.below hbf
  have z_hbf := hbf.size
  replace hg := gr_step hg (grownBy_of_below hbf none) (fun k hk => by cases hk)
  have zg_hbf := hg.size
  have hc6 := hx6.cell
  have hc5 := hx5.cell
  refine go2 ?_
  refine s_p (wy rfl rfl rfl rfl rfl known) rfl (y_mul rfl rfl (by constructor <;> omega)) ?_
  by_cases l6 : (N : Int) * 2 ≤ most
  rotate_left
  · have l6b : decide ((N : Int) * 2 ≤ most) = !true := decide_eq_false l6
    refine go2 ?_
    refine s_storeBox (wn rfl) rfl rfl hm.sv.one hx4 (fun wz hxz hgz => ?_)
    have hmz := hm.kept hgz (by omega)
    have hsz := hs.kept hgz (fun k hk => by cases hk; exact ⟨by have := hs.low; omega, by omega⟩)
    have zz := hgz.size
    refine go2 ?_
    exact end_cell Tryz.results127 rfl hxz.cell ⟨x, xss, N, rfl, (hmz.mono (by omega)).top, hxl, hN, hy, hsz, gr_step hg hgz (fun k hk => by cases hk; omega)⟩
  have l6t : decide ((N : Int) * 2 ≤ most) = true := decide_eq_true l6
  refine go2 ?_
  refine s_call2 (wy rfl rfl rfl rfl rfl known) rfl rfl rfl (l01Next_any q 3 B c bs _ hs (by omega)) ?_
  rintro _ wne ⟨ke, rfl, _, hke, hse, hge⟩
  replace hm := hm.kept hge (by omega)
  replace hm := hm.top
  replace hx4 := hx4.kept hge (by intro e; have := Option.some.inj e; omega)
  replace hx5 := hx5.kept hge (by intro e; have := Option.some.inj e; omega)
  replace hx6 := hx6.kept hge (by intro e; have := Option.some.inj e; omega)
  replace hE := hE.kept hge (by omega)
  replace hs := hse
  replace hg := grownBy_trans hg hge
  have zg_hge := hg.size
  have z_hge := hge.size
  have hc6 := hx6.cell
  have hc5 := hx5.cell
  by_cases l7 : ke = 0
  rotate_left
  · have l7b : decide (ke = 0) = !true := decide_eq_false l7
    refine go2 ?_
    refine s_storeBox (wn rfl) rfl rfl hm.sv.one hx4 (fun wz hxz hgz => ?_)
    have hmz := hm.kept hgz (by omega)
    have hsz := hs.kept hgz (fun k hk => by cases hk; exact ⟨by have := hs.low; omega, by omega⟩)
    have zz := hgz.size
    refine go2 ?_
    exact end_cell Tryz.results127 rfl hxz.cell ⟨x, xss, N, rfl, (hmz.mono (by omega)).top, hxl, hN, hy, hsz, gr_step hg hgz (fun k hk => by cases hk; omega)⟩
  have l7t : decide (ke = 0) = true := decide_eq_true l7
  refine go2 ?_
  refine s_call2 (wn rfl) rfl rfl rfl (l01Next_any q 2 B c bs _ hs (by omega)) ?_
  rintro _ wng ⟨kg, rfl, _, hkg, hsg, hgg⟩
  replace hm := hm.kept hgg (by omega)
  replace hm := hm.top
  replace hx4 := hx4.kept hgg (by intro e; have := Option.some.inj e; omega)
  replace hx5 := hx5.kept hgg (by intro e; have := Option.some.inj e; omega)
  replace hx6 := hx6.kept hgg (by intro e; have := Option.some.inj e; omega)
  replace hE := hE.kept hgg (by omega)
  replace hs := hsg
  replace hg := grownBy_trans hg hgg
  have zg_hgg := hg.size
  have z_hgg := hgg.size
  have hc6 := hx6.cell
  have hc5 := hx5.cell
  by_cases l8 : kg = 0
  · refine go2 ?_
    refine s_call2 (wn rfl) rfl rfl rfl (l02Beside_any _ _ _ _ N 2 _ hm.rl hE.rl hy hEs (by omega) (by decide) (by omega) (by decide) (by omega) (by omega) (by decide)) ?_
    rintro _ wq ⟨x2, xs2, rfl, hm2, hl2, hy2, hbt⟩
    have hl21 : ([[1, 0]] : List (List Int)).length = 1 := rfl
    replace hE := hE.below hbt
    replace hx4 := hx4.below hbt
    replace hx5 := hx5.below hbt
    replace hx6 := hx6.below hbt
    replace hs := hs.below hbt
    have z_hbt := hbt.size
    replace hg := gr_step hg (grownBy_of_below hbt none) (fun k hk => by cases hk)
    have zg_hbt := hg.size
    replace hm := hm2
    refine s_storeBox (wn rfl) rfl rfl hm.sv.one hx6 (fun wsq hxN hgN => ?_)
    replace hm := hm.kept hgN (by omega)
    replace hx4 := hx4.kept hgN (by intro e; have := Option.some.inj e; omega)
    replace hx5 := hx5.kept hgN (by intro e; have := Option.some.inj e; omega)
    replace hE := hE.apart2 hEv hgN (fun g e => .inr (by have := Option.some.inj e; omega))
    replace hs := hs.kept hgN (fun k hk => by cases hk; exact ⟨by have := hs.low; omega, by omega⟩)
    replace hg := gr_step hg hgN (fun k hk => by cases hk; omega)
    have zsq := hgN.size
    replace hx6 := hxN
    clear hxN
    refine go2 ?_
    exact ⟨5 - xs2.length, by omega, _, _, N * 2, _, rfl, rfl, rfl, rfl, rfl, rfl, hx6, hm.top, by omega, by omega, by omega, hy2, hE, hx4, hx5, hs, hg⟩
  · refine go2 ?_
    refine s_call2 (wn rfl) rfl rfl rfl (l02Beside_any _ _ _ _ 2 N _ hE.rl hm.rl hEs hy (by decide) (by omega) (by decide) (by omega) (by omega) (by decide) (by omega)) ?_
    rintro _ wq ⟨x2, xs2, rfl, hm2, hl2, hy2, hbt⟩
    have hl21 : ([[1, 0]] : List (List Int)).length = 1 := rfl
    replace hE := hE.below hbt
    replace hx4 := hx4.below hbt
    replace hx5 := hx5.below hbt
    replace hx6 := hx6.below hbt
    replace hs := hs.below hbt
    have z_hbt := hbt.size
    replace hg := gr_step hg (grownBy_of_below hbt none) (fun k hk => by cases hk)
    have zg_hbt := hg.size
    replace hm := hm2
    refine s_storeBox (wn rfl) rfl rfl hm.sv.one hx6 (fun wsq hxN hgN => ?_)
    replace hm := hm.kept hgN (by omega)
    replace hx4 := hx4.kept hgN (by intro e; have := Option.some.inj e; omega)
    replace hx5 := hx5.kept hgN (by intro e; have := Option.some.inj e; omega)
    replace hE := hE.apart2 hEv hgN (fun g e => .inr (by have := Option.some.inj e; omega))
    replace hs := hs.kept hgN (fun k hk => by cases hk; exact ⟨by have := hs.low; omega, by omega⟩)
    replace hg := gr_step hg hgN (fun k hk => by cases hk; omega)
    have zsq := hgN.size
    replace hx6 := hxN
    clear hxN
    refine go2 ?_
    exact ⟨5 - xs2.length, by omega, _, _, 2 * N, _, rfl, rfl, rfl, rfl, rfl, rfl, hx6, hm.top, by omega, by omega, by omega, hy2, hE, hx4, hx5, hs, hg⟩
  
end Go.Proofs.YtablpijnjkncfaaGreat

/- Contracts: a maniplex drawn, its flags renumbered or not. -/
namespace Go.Proofs.YtablpijnjkncfaaGreat
open Go.Mem Go.RowKit
set_option linter.unusedVariables false
set_option linter.unusedSimpArgs false

set_option maxHeartbeats 8000000 in
set_option maxRecDepth 100000 in
theorem l02Draw_any (q B : Nat) (c : Value) (bs : List Int) (most : Int) (M : Nat) (w : World) (em : most = M) (h1 : 8 ≤ M) (hM : M ≤ 400) (hs : Sr w B q 94 c bs) :
    Ret Tryz.prog 101 #[.pointer (some ⟨q, 0, none⟩), .int .i64 most] w fun r w' => ∃ x xss, ∃ N : Nat, r = .agg #[x] ∧ OM w' w.heap.size w'.heap.size 32 2 x xss ∧ (1 ≤ xss.length ∧ xss.length ≤ 5) ∧ (1 ≤ N ∧ N ≤ M) ∧ Syst N xss ∧ Sr w' B q 94 c bs ∧ w.grownBy w' (some q) := by
  have hql := hs.lt
  refine enter2 19 Tryz.func101 rfl Tryz.ntmps101 rfl (fun fr => ?_)
  refine go2 ?_
  refine s_alloc (B := w.heap.size) (wn rfl) rfl (Nat.le_refl _) (fun w1 p4 hx4 hg1 hp4 => ?_)
  have hb1 := below_of_grownBy hg1
  have z1 := hb1.size
  have hlt4 := hx4.lt
  replace hs := hs.below hb1
  have hg := grownBy_of_below hb1 (some q)
  refine go2 ?_
  refine s_call2 (wn rfl) rfl rfl rfl (l02Any_any q B c bs most M _ em h1 hM hs) ?_
  rintro _ w2 ⟨x, xss, N, rfl, hm, hxl, hN, hy, hs2, hg2⟩
  replace hs := hs2
  replace hx4 := hx4.kept hg2 (by intro e; have := Option.some.inj e; omega)
  replace hg := grownBy_trans hg hg2
  have z2 := hg2.size
  have hxv := fun g h => (hm.ownlt g h).2
  obtain ⟨E, hE⟩ : ∃ E, E = w2.heap.size := ⟨_, rfl⟩
  rw [← hE] at hm hxv
  refine go2 ?_
  refine s_alloc (B := w.heap.size) (wn rfl) rfl (by omega) (fun w3 p5 hx5 hg3 hp5 => ?_)
  have hb3 := below_of_grownBy hg3
  have z3 := hb3.size
  have hlt5 := hx5.lt
  replace hs := hs.below hb3
  replace hm := hm.below hb3
  replace hx4 := hx4.below hb3
  replace hg := gr_step hg hg3 (fun k hk => by cases hk)
  refine go2 ?_
  refine s_storeBox (wn rfl) rfl rfl hm.sv.one hx5 (fun w4 hx5N hg4 => ?_)
  have z4 := hg4.size
  replace hx5 := hx5N
  replace hx4 := hx4.kept hg4 (by intro e; have := Option.some.inj e; omega)
  replace hm := hm.apart2 hxv hg4 (fun g e => .inr (by have := Option.some.inj e; omega))
  replace hs := hs.kept hg4 (fun k hk => by cases hk; exact ⟨by have := hs.low; omega, by omega⟩)
  replace hg := gr_step hg hg4 (fun k hk => by cases hk; omega)
  refine go2 ?_
  refine s_call2 (wn rfl) rfl rfl rfl (l01Next_any q 4 B c bs _ hs (by omega)) ?_
  rintro _ w5 ⟨k, rfl, _, hk, hs5, hg5⟩
  replace hs := hs5
  replace hx4 := hx4.kept hg5 (by intro e; have := Option.some.inj e; omega)
  replace hx5 := hx5.kept hg5 (by intro e; have := Option.some.inj e; omega)
  replace hm := hm.kept hg5 (by omega)
  replace hg := grownBy_trans hg hg5
  have z5 := hg5.size
  have hc5 := hx5.cell
  have sm := hm.sv
  refine go2 ?_
  refine cond_dec rfl (fun hpos => ?_) (fun hneg => ?_)
  · refine go2 ?_
    refine region_hS (fun w' => w'.cell? p5 = some x) mixed (fun wr cr => ?_)
    have zr := cr.size
    replace hs := hs.below cr
    replace hm := hm.below cr
    replace hx4 := hx4.below cr
    replace hx5 := hx5.below cr
    replace hg := gr_step hg (grownBy_of_below cr none) (fun k hk => by cases hk)
    refine h_p 0 hx5.cell ?_ (hrun := fun _ h => y_ldbox rfl h)
    refine h_p 1 hx5.cell ?_ (hrun := fun _ _ => yl)
    refine h_p 2 hx5.cell ?_ (hrun := fun _ h => y_ldbox rfl h)
    refine h_one 3 ?_
    refine s_call1 (wn rfl) rfl rfl (l02Flags_any _ _ _ hm.rl hxl.1) ?_
    rintro _ w6 ⟨rfl, hb6⟩
    rw [hy.nf hxl.1]
    have z6 := hb6.size
    replace hs := hs.below hb6
    replace hm := hm.below hb6
    replace hx4 := hx4.below hb6
    replace hx5 := hx5.below hb6
    replace hg := gr_step hg (grownBy_of_below hb6 none) (fun k hk => by cases hk)
    refine w_nil ?_
    refine h_on ⟨hx5.cell, ?_⟩
    refine h_one 4 ?_
    refine s_call2 (wn rfl) rfl rfl rfl (l01Draw_any q B c bs (N : Int) N _ rfl (by omega) hs) ?_
    rintro pv w7 ⟨ps, hp, hpl, hpr, hs7, hg7⟩
    have z7 := hg7.size
    replace hs := hs7
    replace hx4 := hx4.kept hg7 (by intro e; have := Option.some.inj e; omega)
    replace hx5 := hx5.kept hg7 (by intro e; have := Option.some.inj e; omega)
    replace hm := hm.kept hg7 (by omega)
    replace hg := grownBy_trans hg hg7
    refine w_nil ?_
    refine h_on ⟨hx5.cell, ?_⟩
    refine h_one 5 ?_
    refine s_call2 (wn rfl) rfl rfl rfl (l02RenumberS_any _ _ _ _ N _ hm.rl hp.il hy hxl.1 (by omega) (by omega) hpl (fun y h0 h2 => hpr _ (gi_mem h0 (by omega)))) ?_
    rintro _ w8 ⟨x2, rfl, hm2, hb8⟩
    have z8 := hb8.size
    replace hs := hs.below hb8
    replace hx4 := hx4.below hb8
    replace hx5 := hx5.below hb8
    replace hg := gr_step hg (grownBy_of_below hb8 none) (fun k hk => by cases hk)
    refine w_nil ?_
    refine h_on ⟨hx5.cell, ?_⟩
    refine h_one 6 ?_
    refine s_storeBox (wn rfl) rfl rfl hm2.sv.one hx4 (fun wz hxz hgz => ?_)
    have hm3 := hm2.kept hgz (by omega)
    have hx5z := hx5.kept hgz (by intro e; have := Option.some.inj e; omega)
    have hsz := hs.kept hgz (fun k hk => by cases hk; exact ⟨by have := hs.low; omega, by omega⟩)
    have zz := hgz.size
    refine w_nil ?_
    refine h_on ⟨hx5z.cell, ?_⟩
    refine h_nil ?_
    refine go2 ?_
    exact end_cell Tryz.results101 rfl hxz.cell ⟨x2, _, N, rfl, (hm3.mono (by omega)).top, by simpa [ren] using hxl, hN, hy.ren hpl hpr, hsz, gr_step hg hgz (fun k hk => by cases hk; omega)⟩
  · refine go2 ?_
    refine s_storeBox (wn rfl) rfl rfl sm.one hx4 (fun wz hxz hgz => ?_)
    have hm3 := hm.kept hgz (by omega)
    have hsz := hs.kept hgz (fun k hk => by cases hk; exact ⟨by have := hs.low; omega, by omega⟩)
    have zz := hgz.size
    refine go2 ?_
    exact end_cell Tryz.results101 rfl hxz.cell ⟨x, _, N, rfl, ((hm3.mono (by omega)).wide (by omega)), hxl, hN, hy, hsz, gr_step hg hgz (fun k hk => by cases hk; omega)⟩

end Go.Proofs.YtablpijnjkncfaaGreat

/- Contracts: small functions of the laws. -/
namespace Go.Proofs.YtablpijnjkncfaaGreat
open Go.Mem Go.RowKit
set_option linter.unusedVariables false
set_option linter.unusedSimpArgs false
theorem big_any (c : Value) (bs : List Int) (w : World) (hc : CL w c bs) :
    Ret Tryz.prog 5 #[c] w fun r w' => r = .bool (decide ((4096 : Int) < bs.length)) ∧ w = w' := by
  have sc := hc.sv
  refine enter1 6 Tryz.func5 rfl Tryz.ntmps5 rfl (fun fr => ?_)
  refine go2 ?_
  exact end_one Tryz.results5 rfl ⟨rfl, rfl⟩

set_option maxHeartbeats 8000000 in
set_option maxRecDepth 100000 in
theorem likeInts_any (v : Value) (v2 : Value) (xs : List Int) (ys : List Int) (w : World) (hv : IL w v xs) (hv2 : IL w v2 ys) :
    Ret Tryz.prog 55 #[v, v2] w fun r w' => r = .bool (decide (xs = ys)) ∧ Below w.heap.size w w' := by
  have shv := hv.sv
  have shv2 := hv2.sv
  have hb := Below.refl w.heap.size w
  refine enter2 26 Tryz.func55 rfl Tryz.ntmps55 rfl (fun fr => ?_)
  have sle := shv.le
  by_cases hl : xs.length = ys.length
  rotate_left
  · have hl' : (xs.length : Int) ≠ ys.length := by omega
    refine go ?_
    exact end_one Tryz.results55 rfl ⟨by rw [decide_eq_false (fun e => hl (by rw [e]))], hb⟩
  have hl' : ¬ ((xs.length : Int) ≠ ys.length) := by omega
  refine go ?_
  have sbs1 := hb.size
  have hv_b1 := hv
  have hv2_b1 := hv2
  have hbB1 := Below.refl w.heap.size w
  refine w_loop (fun kk fr w' => ∃ (i : Nat), kk = xs.length - i ∧ i ≤ xs.length ∧ fr 0 = v ∧ fr 1 = v2 ∧ fr 5 = .int .i64 i ∧ (∀ j : Nat, j < i → gi xs j = gi ys j) ∧ Below w.heap.size w w') (xs.length)
    ⟨0, rfl, Nat.zero_le _, rfl, rfl, rfl, fun j hj => by omega, hbB1⟩ ?_
  rintro kk fr w1 ⟨i, rfl, hi, f0, f1, f5, hall, hbB1⟩
  have sw1 := hbB1.size
  have hv := hv_b1.below hbB1
  have hv2 := hv2_b1.below hbB1
  refine know (t := 0) f0 ?_; refine know (t := 1) f1 ?_; refine know (t := 5) f5 ?_
  refine go ?_
  refine cond_dec rfl (fun hlt => ?_) (fun hge => ?_)
  · refine go ?_
    refine region_q mixed (by kernel_rfl) ?_; refine qo ?_; refine q_nil ?_
    intro wq hbq
    have sw1 := hbq.size
    replace hv := hv.below hbq
    replace hv2 := hv2.below hbq
    replace hbB1 := hbB1.trans (hbq.mono hbB1.size)
    by_cases hne : gi xs i ≠ gi ys i
    · refine go ?_
      exact end_one Tryz.results55 rfl ⟨by rw [decide_eq_false (fun e => hne (by rw [e]))], (hb.trans (hbB1.mono hb.size))⟩
    refine go ?_
    refine ⟨xs.length - (i + 1), by omega, i + 1, rfl, by omega, rfl, rfl, rfl, fun j hj => by by_cases hji : j = i; (subst hji; exact Decidable.not_not.1 hne); exact hall j (by omega), hbB1⟩
  obtain rfl : i = xs.length := by omega
  refine go ?_
  exact end_one Tryz.results55 rfl ⟨by rw [decide_eq_true (list_ext_gi hl fun x h0 hx => by have := hall x.toNat (by omega); rw [show ((x.toNat : Nat) : Int) = x by omega] at this; exact this)], (hb.trans (hbB1.mono hb.size))⟩

end Go.Proofs.YtablpijnjkncfaaGreat
