/- Contracts: words and permutations of the laws; the draw of a maniplex with orbits. -/
import Derived.Test.YtlodnhflfijomaaF65
import Derived.Test.YtlodnhflfijomaaF69
import Derived.Test.YtlodnhflfijomaaP28
namespace Go.Mem
theorem rev_take {xs : List Int} {i : Nat} (h : i < xs.length) : (xs.reverse).take (i + 1) = (xs.reverse).take i ++ [gi xs ((xs.length : Int) - 1 - i)] := by
  rw [take_gi (by simpa using h)]
  congr 2
  have e : ((xs.length : Int) - 1 - i).toNat = xs.length - 1 - i := by omega
  have h1 : i < xs.reverse.length := by simpa using h
  have h2 : xs.length - 1 - i < xs.length := by omega
  unfold gi
  rw [e]
  simp [List.getD, h, h2]
end Go.Mem
namespace Go.Proofs.Ytlodnhflfijomaa
open Go.Mem Go.RowKit
set_option linter.unusedVariables false
set_option linter.unusedSimpArgs false

set_option maxHeartbeats 8000000 in
set_option maxRecDepth 100000 in
theorem specIsPermutation_any (v : Value) (xs : List Int) (w : World) (hv : IL w v xs) :
    Ret Try.prog 118 #[v] w fun r w' => r = .bool (decide (IsPerm xs)) ∧ Below w.heap.size w w' := by
  have shv := hv.sv
  have hb := Below.refl w.heap.size w
  refine enter1 5 Try.func118 rfl Try.ntmps118 rfl (fun fr => ?_)
  refine go ?_
  refine s_call1 (wn rfl) rfl rfl (l01Perm_any _ _ _ hv) ?_
  rintro _ w1 ⟨rfl, hb1⟩
  have sw1 := hb1.size
  replace hv := hv.below hb1
  replace hb := hb.trans (hb1.mono hb.size)
  refine go ?_
  exact end_one Try.results118 rfl ⟨rfl, hb⟩

set_option maxHeartbeats 8000000 in
set_option maxRecDepth 100000 in
theorem perms5_good (v : Value) (xss : List (List Int)) (n : Int) (w : World) (hv : RL w v xss) (hall : ∀ xs ∈ xss, (xs.length : Int) = n ∧ IsPerm xs) :
    Ret Try.prog 57 #[v, .int .i64 n] w fun r w' => r = .bool true ∧ Below w.heap.size w w' := by
  have shv := hv.sv
  have hb := Below.refl w.heap.size w
  refine enter2 27 Try.func57 rfl Try.ntmps57 rfl (fun fr => ?_)
  have scap := shv.le
  refine go ?_
  have sbs1 := hb.size
  have hv_b1 := hv
  have hbB1 := Below.refl w.heap.size w
  refine w_loop (fun kk fr w' => ∃ (i : Nat), kk = xss.length - i ∧ i ≤ xss.length ∧ fr 0 = v ∧ fr 1 = .int .i64 n ∧ fr 5 = .int .i64 i ∧ Below w.heap.size w w') (xss.length)
    ⟨0, rfl, Nat.zero_le _, rfl, rfl, rfl, hbB1⟩ ?_
  rintro kk fr w1 ⟨i, rfl, hi, f0, f1, f5, hbB1⟩
  have sw1 := hbB1.size
  have hv := hv_b1.below hbB1
  refine know (t := 0) f0 ?_; refine know (t := 1) f1 ?_; refine know (t := 5) f5 ?_
  refine go ?_
  refine cond_dec rfl (fun hlt => ?_) (fun hge => ?_)
  · obtain ⟨u, hu, hcu⟩ := hv.row (j := (i : Int)) (by omega) (by omega)
    have hp := hall (gr xss i) (gr_in (by omega))
    have su := hu.sv
    have k1 : ¬ (((gr xss i).length : Int) ≠ n) := fun h => h hp.1
    have k2 : decide (IsPerm (gr xss i)) = true := decide_eq_true hp.2
    refine go ?_
    refine s_call1 (wy rfl rfl rfl rfl rfl known) rfl rfl (specIsPermutation_any _ _ _ hu) ?_
    rintro _ w2 ⟨rfl, hb2⟩
    have sw2 := hb2.size
    replace hv := hv.below hb2
    replace hu := hu.below hb2
    replace hcu := cell_below hcu hb2
    replace hbB1 := hbB1.trans (hb2.mono hbB1.size)
    rw [k2]
    refine go ?_
    refine ⟨xss.length - (i + 1), by omega, i + 1, rfl, by omega, rfl, rfl, rfl, hbB1⟩
  obtain rfl : i = xss.length := by omega
  refine go ?_
  exact end_one Try.results57 rfl ⟨rfl, (hb.trans (hbB1.mono hb.size))⟩

set_option maxHeartbeats 8000000 in
set_option maxRecDepth 100000 in
theorem back5_any (v : Value) (xs : List Int) (w : World) (hv : IL w v xs) (hl : xs.length ≤ 1000000) :
    Ret Try.prog 59 #[v] w fun r w' => OI w' w.heap.size 2 r xs.reverse ∧ Below w.heap.size w w' := by
  have shv := hv.sv
  have hb := Below.refl w.heap.size w
  refine enter1 21 Try.func59 rfl Try.ntmps59 rfl (fun fr => ?_)
  refine go ?_
  have sbs1 := hb.size
  have hv_b1 := hv
  have hbB1 := Below.refl w.heap.size w
  refine go ?_
  have szq1 := hbB1.size
  refine s_build0 (B := w.heap.size) (wn rfl) rfl szq1 (fun ob w1 ho so hg1 _ => ?_)
  have hb1 := below_of_grownBy hg1
  have sw1 := hb1.size
  replace hv := hv.below hb1
  replace hbB1 := hbB1.trans (hb1.mono hbB1.size)
  refine go ?_
  refine w_loop (fun kk fr w' => ∃ (i : Nat) (ob : Value), kk = xs.length - i ∧ i ≤ xs.length ∧ fr 0 = v ∧ fr 3 = ob ∧ fr 4 = .int .i64 ((xs.length : Int) - 1 - (i : Int)) ∧ (OI w' w.heap.size 2 ob (xs.reverse.take i)) ∧ Below w.heap.size w w') (xs.length)
    ⟨0, ob, rfl, Nat.zero_le _, rfl, rfl, by show Value.int _ _ = _; congr 1; omega, ho, hbB1⟩ ?_
  rintro kk fr w2 ⟨i, ob, rfl, hi, f0, f3, f4, ho, hbB1⟩
  have sw2 := hbB1.size
  have hv := hv_b1.below hbB1
  have sho := ho.sv
  refine know (t := 0) f0 ?_; refine know (t := 3) f3 ?_; refine know (t := 4) f4 ?_
  refine go ?_
  refine cond_dec rfl (fun hlt => ?_) (fun hge => ?_)
  · refine go ?_
    have szq3 := hbB1.size
    refine s_build1 (B := w.heap.size) (wn rfl) rfl rfl szq3 (fun tb w3 ht st hg3 _ => ?_)
    have hb3 := below_of_grownBy hg3
    have sw3 := hb3.size
    replace hv := hv.below hb3
    replace ho := ho.below hb3
    replace hbB1 := hbB1.trans (hb3.mono hbB1.size)
    have szq4 := hbB1.size
    refine s_appendI (wn rfl) rfl rfl rfl ho ht.il (by simp; omega) szq4 (fun ob' w4 hoN so hgN _ => ?_)
    replace hbB1 := hbB1.trans (ho.below_of hgN szq4)
    have sw4 := hgN.size
    replace ho := hoN
    clear hoN
    replace hv := hv_b1.below hbB1
    refine go ?_
    refine ⟨xs.length - (i + 1), by omega, i + 1, ob', rfl, by omega, rfl, rfl, by show Value.int _ _ = _; congr 1; omega, by rw [rev_take (by omega)]; exact ho, hbB1⟩
  obtain rfl : i = xs.length := by omega
  rw [show xs.reverse.take xs.length = xs.reverse from List.take_of_length_le (by simp)] at ho
  refine go ?_
  exact end_one Try.results59 rfl ⟨ho, (hb.trans (hbB1.mono hb.size))⟩

set_option maxHeartbeats 8000000 in
set_option maxRecDepth 100000 in
theorem word5_any (q B : Nat) (c : Value) (bs : List Int) (n most : Int) (N M : Nat) (w : World) (en : n = N) (em : most = M) (h1 : 1 ≤ N) (hN : N ≤ 1000000) (hM : M ≤ 64) (hs : Sr w B q 95 c bs) :
    Ret Try.prog 58 #[.pointer (some ⟨q, 0, none⟩), .int .i64 n, .int .i64 most] w fun r w' => ∃ wd : List Int, OI w' w.heap.size 2 r wd ∧ wd.length ≤ M ∧ (∀ x ∈ wd, 0 ≤ x ∧ x < N) ∧ Sr w' B q 95 c bs ∧ w.grownBy w' (some q) := by
  subst en em
  have hql := hs.lt
  refine enter3 25 Try.func58 rfl Try.ntmps58 rfl (fun fr => ?_)
  refine go2 ?_
  refine s_build0 (B := w.heap.size) (wn rfl) rfl (Nat.le_refl _) (fun ob w1 ho so hg1 _ => ?_)
  have hb1 := below_of_grownBy hg1
  have z1 := hb1.size
  replace hs := hs.below hb1
  refine go2 ?_
  refine s_call2 (wn rfl) rfl rfl rfl (below_any q ((M : Int) + 1) B c bs _ hs (by omega)) ?_
  rintro _ w2 ⟨k, rfl, _, hk, hs2, hg2⟩
  have hk' := hk (by omega)
  have hg : w.grownBy w2 (some q) := grownBy_trans (grownBy_of_below hb1 _) hg2
  replace ho := ho.kept hg2 (ho.apart_blk (by omega))
  refine go2 ?_
  refine w_loop (fun kk fr w' => ∃ (i : Nat) (ob : Value) (wd : List Int), kk = k.toNat - i ∧ i ≤ k.toNat ∧ fr 0 = .pointer (some ⟨q, 0, none⟩) ∧ fr 1 = .int .i64 N ∧ fr 7 = ob ∧ fr 8 = .int .i64 (k - i) ∧
      OI w' w.heap.size 2 ob wd ∧ wd.length = i ∧ (∀ x ∈ wd, 0 ≤ x ∧ x < (N : Int)) ∧ Sr w' B q 95 c bs ∧ w.grownBy w' (some q)) k.toNat
    ⟨0, ob, [], rfl, Nat.zero_le _, rfl, rfl, rfl, by show Value.int _ _ = _; congr 1; omega, ho, rfl, by simp, hs2, hg⟩ ?_
  clear ho hs hs2 hg hg2
  rintro kk fr w3 ⟨i, ob, wd, rfl, hi, f0, f1, f7, f8, ho, hl, hr, hs, hg⟩
  have so := ho.sv
  have z3 := hg.size
  refine know (t := 0) f0 ?_; refine know (t := 1) f1 ?_; refine know (t := 7) f7 ?_; refine know (t := 8) f8 ?_
  refine go2 ?_
  refine cond_dec rfl (fun hlt => ?_) (fun hge => ?_)
  · refine go2 ?_
    refine s_call2 (wn rfl) rfl rfl rfl (below_any q (N : Int) B c bs _ hs (by omega)) ?_
    rintro _ w4 ⟨y, rfl, _, hy, hs4, hg4⟩
    have hy' := hy (by omega)
    replace ho := ho.kept hg4 (ho.apart_blk (by omega))
    have hgA := grownBy_trans hg hg4
    have z4 := hg4.size
    refine go2 ?_
    refine s_build1 (B := w.heap.size) (wn rfl) rfl rfl (by omega) (fun tb w5 ht st hg5 _ => ?_)
    have hb5 := below_of_grownBy hg5
    have z5 := hb5.size
    replace ho := ho.below hb5
    have hs5 := hs4.below hb5
    have hgB := gr_step hgA (grownBy_of_below hb5 none) (fun k hk => by cases hk)
    refine s_appendI (wn rfl) rfl rfl rfl ho ht.il (by simp; omega) (by omega) (fun ob' w6 ho6 so6 hg6 _ => ?_)
    have hs6 := hs5.kept hg6 (fun k hk => by have := (ho.lt k hk).1; have := hs5.low; omega)
    have hgC := gr_step hgB hg6 (fun k hk => (ho.lt k hk).1)
    refine go2 ?_
    exact ⟨k.toNat - (i + 1), by omega, i + 1, ob', _, rfl, by omega, rfl, rfl, rfl, by show Value.int _ _ = _; congr 1; omega, ho6, by simp [hl], fun x hx => by
      rcases List.mem_append.1 hx with hx | hx
      · exact hr x hx
      · simp at hx; subst hx; exact hy', hs6, hgC⟩
  · refine go2 ?_
    exact end_one Try.results58 rfl ⟨wd, ho, by omega, hr, hs, hg⟩

set_option maxHeartbeats 8000000 in
set_option maxRecDepth 100000 in
theorem DrawIsChiral_any (c : Value) (bs : List Int) (w : World) (hcl : CL w c bs) :
    Ret Try.prog 115 #[c] w fun r w' => ∃ x xss, r = .agg #[x] ∧ OM w' w.heap.size w'.heap.size 40 2 x xss ∧ Below w.heap.size w w' := by
  have sc := hcl.sv
  refine enter1 27 Try.func115 rfl Try.ntmps115 rfl (fun fr => ?_)
  refine go2 ?_
  refine s_alloc (B := w.heap.size) (wn rfl) rfl (Nat.le_refl _) (fun w0 p2 hx2 hg0 hp2 => ?_)
  have hb0 := below_of_grownBy hg0
  have z0 := hb0.size
  have hlt2 := hx2.lt
  refine go2 ?_
  refine s_call1 (wn rfl) rfl rfl (l01From_any c bs _ (hcl.below hb0)) ?_
  rintro _ v0 ⟨q, rfl, hs, hbf⟩
  have zf := hbf.size
  have hql := hs.lt
  have hq1 := hs.low
  replace hx2 := hx2.below hbf
  obtain ⟨B, hBe⟩ : ∃ B, B = w0.heap.size := ⟨_, rfl⟩
  rw [← hBe] at hs
  have hB1 := hb0.trans (hbf.mono z0)
  refine go2 ?_
  refine s_call2 (wn rfl) rfl rfl rfl (l01Next_any q 2 B c bs _ hs (by omega)) ?_
  rintro _ v1 ⟨k, rfl, hk0, hk, hs', hgq⟩
  have zv1 := hgq.size
  replace hs := hs'
  replace hx2 := hx2.kept hgq (by intro e; have := Option.some.inj e; omega)
  have hg := hgq
  clear hgq
  have hk' := hk (by omega)
  refine go2 ?_
  refine cond_dec rfl (fun e0 => ?_) (fun e0 => ?_)
  · refine go2 ?_
    refine s_buildI (B := v0.heap.size) [1, 2, 1, 2] (wn rfl) rfl rfl rfl rfl (by omega) (fun tb v2 ht st hga _ => ?_)
    have hba := below_of_grownBy hga
    have zv2 := hba.size
    replace hs := hs.below hba
    replace hx2 := hx2.below hba
    replace hg := gr_step hg (grownBy_of_below hba none) (fun k hk => by cases hk)
    clear hba hga
    refine go2 ?_
    refine s_call2 (wn rfl) rfl rfl rfl (l01Pick_any q B c bs _ _ v0.heap.size _ ht hql (by simp) (by simp) hs) ?_
    rintro _ v3 ⟨z, hz, rfl, hs', hgq⟩
    have zv3 := hgq.size
    replace hs := hs'
    replace hx2 := hx2.kept hgq (by intro e; have := Option.some.inj e; omega)
    replace ht := ht.kept hgq (ht.apart_blk (by omega))
    replace hg := grownBy_trans hg hgq
    clear hgq
    refine go2 ?_
    have hzz : z = 1 ∨ z = 2 := by simp at hz; omega
    have htur : Ret Try.prog 168 #[.int .i64 z, .int .i64 1] v3 fun r w' => ∃ x xss, ∃ N : Nat, r = .agg #[x] ∧ OM w' v3.heap.size w'.heap.size 40 2 x xss ∧ xss.length = 3 ∧ (1 ≤ N ∧ N ≤ 400) ∧ Syst N xss ∧ Below v3.heap.size v3 w' := by
      rcases hzz with rfl | rfl
      · exact (l06Turned_1 1 1 _ rfl rfl).mono fun r w' ⟨x, xss, h1, h2, h3, h4, h5⟩ => ⟨x, xss, _, h1, h2, h3, ⟨by omega, by omega⟩, h4, h5⟩
      · exact (l06Turned_2 2 1 _ rfl rfl).mono fun r w' ⟨x, xss, h1, h2, h3, h4, h5⟩ => ⟨x, xss, _, h1, h2, h3, ⟨by omega, by omega⟩, h4, h5⟩
    refine s_call2 (wn rfl) rfl rfl rfl htur ?_
    rintro _ v4 ⟨x, xss, N, rfl, hm, hxl, hN, hy, hbq⟩
    have zv4 := hbq.size
    replace hs := hs.below hbq
    replace hx2 := hx2.below hbq
    replace ht := ht.below hbq
    replace hg := gr_step hg (grownBy_of_below hbq none) (fun k hk => by cases hk)
    clear hbq htur
    replace hm := hm.mono (B' := v0.heap.size) (by omega)
    refine go2 ?_
    refine s_alloc (B := v0.heap.size) (wn rfl) rfl (by first | exact Nat.le_refl _ | omega) (fun v5 p4 hx4 hga hpp4 => ?_)
    have hba := below_of_grownBy hga
    have zv5 := hba.size
    replace hs := hs.below hba
    replace hx2 := hx2.below hba
    replace ht := ht.below hba
    replace hm := hm.below hba
    replace hg := gr_step hg (grownBy_of_below hba none) (fun k hk => by cases hk)
    clear hba hga
    have hltp4 := hx4.lt
    refine go2 ?_
    refine s_storeBox (wn rfl) rfl rfl hm.sv.one hx4 (fun v6 hxN hgp => ?_)
    have zv6 := hgp.size
    replace hs := hs.kept hgp (fun k hk => by cases hk; exact ⟨by have := hs.low; omega, by omega⟩)
    replace hx2 := hx2.kept hgp (by intro e; have := Option.some.inj e; omega)
    replace ht := ht.kept hgp (.inr (ht.own.apart_box hx4 (by decide)))
    replace hm := hm.box hx4 (by decide) (by decide) hgp
    replace hx4 := hxN
    replace hg := gr_step hg hgp (fun k hk => by cases hk; omega)
    clear hgp
    refine w_nil ?_
    refine then_normal ?_
    refine w_seq ?_
    refine meet (fun r w' => ∃ (x : Value) (xss : List (List Int)) (N : Nat), r 2 = .pointer (some p2) ∧ r 3 = .pointer (some ⟨q, 0, none⟩) ∧ r 4 = .pointer (some p4) ∧ Bx w' v0.heap.size p4 28 x ∧ Bx w' w.heap.size p2 28 (.slice none 0 0) ∧ OM w' v0.heap.size w'.heap.size 40 2 x xss ∧ xss.length = 3 ∧ (1 ≤ N ∧ N ≤ 400) ∧ Syst N xss ∧ Sr w' B q 140 c bs ∧ v0.grownBy w' (some q)) ?_ ?_
    · refine go2 ?_
      refine s_call2 (wn rfl) rfl rfl rfl (l01Next_any q 3 B c bs _ hs (by omega)) ?_
      rintro _ v7 ⟨k3, rfl, hk30, hk3, hs', hgq⟩
      have zv7 := hgq.size
      replace hs := hs'
      replace hx2 := hx2.kept hgq (by intro e; have := Option.some.inj e; omega)
      replace ht := ht.kept hgq (ht.apart_blk (by omega))
      replace hm := hm.kept hgq (by omega)
      replace hx4 := hx4.kept hgq (by intro e; have := Option.some.inj e; omega)
      replace hg := grownBy_trans hg hgq
      clear hgq
      have hc4 := hx4.cell
      refine go2 ?_
      refine cond_dec rfl (fun e1 => ?_) (fun e1 => ?_)
      · obtain ⟨hpm, hpn⟩ := PM.of hy (by omega) (by omega) (by omega) (by omega)
        refine go2 ?_
        refine s_call1 (wn rfl) rfl rfl (l05DualS_any _ _ _ hm.rl hpm) ?_
        rintro _ v8 ⟨y, rfl, hd, hbq⟩
        have zv8 := hbq.size
        replace hs := hs.below hbq
        replace hx2 := hx2.below hbq
        replace ht := ht.below hbq
        replace hm := hm.below hbq
        replace hx4 := hx4.below hbq
        replace hg := gr_step hg (grownBy_of_below hbq none) (fun k hk => by cases hk)
        clear hbq
        have hlr := revw_len xss.length
        have hsr : Syst (nf xss) (wds xss (revw xss.length)) := wds_systS hpm (fun w h => revw_words w h)
        obtain ⟨K, hK1, hK2, hKs⟩ := frm_syst (p := 0) hsr (by have := hpm.f1; omega) (by have := hpm.f400; omega)
        have hKs : Syst K (repl xss (revw xss.length)) := hKs
        have hdl : (repl xss (revw xss.length)).length = 3 := by
          unfold repl wds; rw [frm_len, List.length_map, hlr, hxl]
        have hf4 := hpm.f400
        replace hd := hd.mono (B' := v0.heap.size) (by omega)
        refine go2 ?_
        refine s_storeBox (wn rfl) rfl rfl hd.sv.one hx4 (fun v9 hxN hgp => ?_)
        have zv9 := hgp.size
        replace hs := hs.kept hgp (fun k hk => by cases hk; exact ⟨by have := hs.low; omega, by omega⟩)
        replace hx2 := hx2.kept hgp (by intro e; have := Option.some.inj e; omega)
        replace ht := ht.kept hgp (.inr (ht.own.apart_box hx4 (by decide)))
        replace hm := hm.box hx4 (by decide) (by decide) hgp
        replace hd := hd.box hx4 (by decide) (by decide) hgp
        replace hx4 := hxN
        replace hg := gr_step hg hgp (fun k hk => by cases hk; omega)
        clear hgp
        refine go2 ?_
        exact ⟨y, _, K, rfl, rfl, rfl, hx4, hx2, hd.top, hdl, ⟨by omega, by omega⟩, hKs, hs, hg⟩
      refine go2 ?_
      exact ⟨x, xss, N, rfl, rfl, rfl, hx4, hx2, hm.top, hxl, hN, hy, hs, hg⟩
    clear hs hg hx2 hx4 hm hy hN hxl
    rintro r v10 ⟨x, xss, N, r2, r3, r4, hx4, hx2, hm, hxl, hN, hy, hs, hg⟩
    have zv10 := hg.size
    have hc4 := hx4.cell
    have hlt4 := hx4.lt
    refine know (t := 2) r2 ?_; refine know (t := 3) r3 ?_; refine know (t := 4) r4 ?_
    refine go2 ?_
    refine region_hS (fun w' => w'.cell? p4 = some x) mixed (fun v11 cr => ?_)
    have zv11 := cr.size
    replace hs := hs.below cr
    replace hx4 := hx4.below cr
    replace hx2 := hx2.below cr
    replace hm := hm.below cr
    replace hc4 := cell_below hc4 cr
    replace hg := gr_step hg (grownBy_of_below cr none) (fun k hk => by cases hk)
    refine h_p 0 hc4 ?_ (hrun := fun w' h => yl)
    refine h_p 1 hc4 ?_ (hrun := fun w' h => yl)
    refine h_p 2 hc4 ?_ (hrun := fun w' h => yl)
    refine h_one 3 ?_
    refine s_call1 (wn rfl) rfl rfl (l02Flags_any _ _ _ hm.rl (by omega)) ?_
    rintro _ v12 ⟨rfl, hbq⟩
    have zv12 := hbq.size
    replace hs := hs.below hbq
    replace hx4 := hx4.below hbq
    replace hx2 := hx2.below hbq
    replace hm := hm.below hbq
    replace hc4 := cell_below hc4 hbq
    replace hg := gr_step hg (grownBy_of_below hbq none) (fun k hk => by cases hk)
    rw [hy.nf (by omega)]
    refine w_nil ?_
    refine h_on ⟨hc4, ?_⟩
    refine h_one 4 ?_
    refine s_call2 (wn rfl) rfl rfl rfl (l01Draw_any q B c bs (N : Int) N _ rfl (by omega) hs) ?_
    rintro pv v13 ⟨ps, hp, hpl, hpr, hs', hgq⟩
    have zv13 := hgq.size
    replace hs := hs'
    replace hx4 := hx4.kept hgq (by intro e; have := Option.some.inj e; omega)
    replace hx2 := hx2.kept hgq (by intro e; have := Option.some.inj e; omega)
    replace hm := hm.kept hgq (by omega)
    replace hc4 := cell_kept hc4 hgq (by intro e; have := Option.some.inj e; omega)
    replace hg := grownBy_trans hg hgq
    refine w_nil ?_
    refine h_on ⟨hc4, ?_⟩
    refine h_one 5 ?_
    refine s_call2 (wn rfl) rfl rfl rfl (l02RenumberS_any _ _ _ _ N _ hm.rl hp.il hy (by omega) (by omega) (by omega) hpl (fun y h0 h2 => hpr _ (gi_mem h0 (by omega)))) ?_
    rintro _ v14 ⟨y, rfl, hd, hbq2⟩
    have zv14 := hbq2.size
    replace hs := hs.below hbq2
    replace hx4 := hx4.below hbq2
    replace hx2 := hx2.below hbq2
    replace hm := hm.below hbq2
    replace hc4 := cell_below hc4 hbq2
    replace hp := hp.below hbq2
    replace hg := gr_step hg (grownBy_of_below hbq2 none) (fun k hk => by cases hk)
    refine w_nil ?_
    refine h_on ⟨hc4, ?_⟩
    refine h_one 6 ?_
    refine s_storeBox (wn rfl) rfl rfl hd.sv.one hx2 (fun v15 hxz hgz => ?_)
    have hmz := hd.box hx2 (by decide) (by decide) hgz
    have hB2 := hB1.trans (gr_below hg hB1.size (by omega))
    have hB3 := hB2.trans (hx2.below_of hgz hB2.size)
    have hx4z := hx4.kept hgz (by intro e; have := Option.some.inj e; omega)
    refine w_nil ?_
    refine h_on ⟨hx4z.cell, ?_⟩
    refine h_nil ?_
    refine go2 ?_
    exact end_cell Try.results115 rfl hxz.cell ⟨y, _, rfl, (hmz.mono (by omega)).top, hB3⟩
  refine go2 ?_
  refine go2 ?_
  refine s_call1 (wn rfl) rfl rfl (l06Even_any q B c bs _ hs) ?_
  rintro _ v16 ⟨x, xss, rfl, hm, hxl, hxr, hs', hgq⟩
  have zv16 := hgq.size
  replace hs := hs'
  replace hx2 := hx2.kept hgq (by intro e; have := Option.some.inj e; omega)
  replace hg := grownBy_trans hg hgq
  clear hgq
  refine go2 ?_
  refine s_storeBox (wn rfl) rfl rfl hm.sv.one hx2 (fun v17 hxz hgz => ?_)
  have hmz := hm.box hx2 (by decide) (by decide) hgz
  have hB2 := hB1.trans (gr_below hg hB1.size (by omega))
  have hB3 := hB2.trans (hx2.below_of hgz hB2.size)
  refine go2 ?_
  exact end_cell Try.results115 rfl hxz.cell ⟨x, _, rfl, (hmz.mono (by omega)).top, hB3⟩

set_option maxHeartbeats 8000000 in
set_option maxRecDepth 100000 in
theorem DrawSymmetryType_any (c : Value) (bs : List Int) (w : World) (hcl : CL w c bs) :
    Ret Try.prog 53 #[c] w fun r w' => ∃ x xss, r = .agg #[x] ∧ RL w' x xss ∧ Below w.heap.size w w' := by
  have sc := hcl.sv
  refine enter1 5 Try.func53 rfl Try.ntmps53 rfl (fun fr => ?_)
  refine go2 ?_
  refine s_alloc (B := w.heap.size) (wn rfl) rfl (Nat.le_refl _) (fun w1 p4 hx4 hg1 hp4 => ?_)
  have hb1 := below_of_grownBy hg1
  have hlow := hx4.lt
  refine go2 ?_
  refine s_call1 (wn rfl) rfl rfl (DrawIsChiral_any c bs _ (hcl.below hb1)) ?_
  rintro _ w2 ⟨x, xss, rfl, hm, hb2⟩
  have hx4' := hx4.below hb2
  have hb3 := hb1.trans (hb2.mono hb1.size)
  refine go2 ?_
  refine s_storeBox (wn rfl) rfl rfl hm.sv.one hx4' (fun w4 hxz hgz => ?_)
  refine go2 ?_
  exact end_cell Try.results53 rfl hxz.cell ⟨x, xss, rfl, (hm.kept hgz hlow).rl, hb3.trans (hx4'.below_of hgz hb3.size)⟩

end Go.Proofs.Ytlodnhflfijomaa
