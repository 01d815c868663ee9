/- Contracts: words and permutations of the laws; the draw of a maniplex with orbits. -/
import Derived.Test.YtmdimdbfgibflaaF65
import Derived.Test.YtmdimdbfgibflaaF69
import Derived.Test.YtmdimdbfgibflaaPD
namespace Go.Mem
theorem rev_take {xs : List Int} {i : Nat} (h : i < xs.length) : (xs.reverse).take (i + 1) = (xs.reverse).take i ++ [gi xs ((xs.length : Int) - 1 - i)] := by
  rw [take_gi (by simpa using h)]
  congr 2
  have e : ((xs.length : Int) - 1 - i).toNat = xs.length - 1 - i := by omega
  have h1 : i < xs.reverse.length := by simpa using h
  have h2 : xs.length - 1 - i < xs.length := by omega
  unfold gi
  rw [e]
  simp [List.getD, h, h2]
end Go.Mem
namespace Go.Proofs.Ytmdimdbfgibflaa
open Go.Mem Go.RowKit
set_option linter.unusedVariables false
set_option linter.unusedSimpArgs false
set_option maxHeartbeats 8000000 in
set_option maxRecDepth 100000 in
theorem back5_any (v : Value) (xs : List Int) (w : World) (hv : IL w v xs) (hl : xs.length ≤ 1000000) :
    Ret Try.prog 60 #[v] w fun r w' => OI w' w.heap.size 2 r xs.reverse ∧ Below w.heap.size w w' := by
  have shv := hv.sv
  have hb := Below.refl w.heap.size w
  refine enter1 21 Try.func60 rfl Try.ntmps60 rfl (fun fr => ?_)
  refine go ?_
  have sbs1 := hb.size
  have hv_b1 := hv
  have hbB1 := Below.refl w.heap.size w
  refine go ?_
  have szq1 := hbB1.size
  refine s_build0 (B := w.heap.size) (wn rfl) rfl szq1 (fun ob w1 ho so hg1 _ => ?_)
  have hb1 := below_of_grownBy hg1
  have sw1 := hb1.size
  replace hv := hv.below hb1
  replace hbB1 := hbB1.trans (hb1.mono hbB1.size)
  refine go ?_
  refine w_loop (fun kk fr w' => ∃ (i : Nat) (ob : Value), kk = xs.length - i ∧ i ≤ xs.length ∧ fr 0 = v ∧ fr 3 = ob ∧ fr 4 = .int .i64 ((xs.length : Int) - 1 - (i : Int)) ∧ (OI w' w.heap.size 2 ob (xs.reverse.take i)) ∧ Below w.heap.size w w') (xs.length)
    ⟨0, ob, rfl, Nat.zero_le _, rfl, rfl, by show Value.int _ _ = _; congr 1; omega, ho, hbB1⟩ ?_
  rintro kk fr w2 ⟨i, ob, rfl, hi, f0, f3, f4, ho, hbB1⟩
  have sw2 := hbB1.size
  have hv := hv_b1.below hbB1
  have sho := ho.sv
  refine know (t := 0) f0 ?_; refine know (t := 3) f3 ?_; refine know (t := 4) f4 ?_
  refine go ?_
  refine cond_dec rfl (fun hlt => ?_) (fun hge => ?_)
  · refine go ?_
    have szq3 := hbB1.size
    refine s_build1 (B := w.heap.size) (wn rfl) rfl rfl szq3 (fun tb w3 ht st hg3 _ => ?_)
    have hb3 := below_of_grownBy hg3
    have sw3 := hb3.size
    replace hv := hv.below hb3
    replace ho := ho.below hb3
    replace hbB1 := hbB1.trans (hb3.mono hbB1.size)
    have szq4 := hbB1.size
    refine s_appendI (wn rfl) rfl rfl rfl ho ht.il (by simp; omega) szq4 (fun ob' w4 hoN so hgN _ => ?_)
    replace hbB1 := hbB1.trans (ho.below_of hgN szq4)
    have sw4 := hgN.size
    replace ho := hoN
    clear hoN
    replace hv := hv_b1.below hbB1
    refine go ?_
    refine ⟨xs.length - (i + 1), by omega, i + 1, ob', rfl, by omega, rfl, rfl, by show Value.int _ _ = _; congr 1; omega, by rw [rev_take (by omega)]; exact ho, hbB1⟩
  obtain rfl : i = xs.length := by omega
  rw [show xs.reverse.take xs.length = xs.reverse from List.take_of_length_le (by simp)] at ho
  refine go ?_
  exact end_one Try.results60 rfl ⟨ho, (hb.trans (hbB1.mono hb.size))⟩

set_option maxHeartbeats 8000000 in
set_option maxRecDepth 100000 in
theorem word5_any (q B : Nat) (c : Value) (bs : List Int) (n most : Int) (N M : Nat) (w : World) (en : n = N) (em : most = M) (h1 : 1 ≤ N) (hN : N ≤ 1000000) (hM : M ≤ 64) (hs : Sr w B q 105 c bs) :
    Ret Try.prog 47 #[.pointer (some ⟨q, 0, none⟩), .int .i64 n, .int .i64 most] w fun r w' => ∃ wd : List Int, OI w' w.heap.size 2 r wd ∧ wd.length ≤ M ∧ (∀ x ∈ wd, 0 ≤ x ∧ x < N) ∧ Sr w' B q 105 c bs ∧ w.grownBy w' (some q) := by
  subst en em
  have hql := hs.lt
  refine enter3 25 Try.func47 rfl Try.ntmps47 rfl (fun fr => ?_)
  refine go2 ?_
  refine s_build0 (B := w.heap.size) (wn rfl) rfl (Nat.le_refl _) (fun ob w1 ho so hg1 _ => ?_)
  have hb1 := below_of_grownBy hg1
  have z1 := hb1.size
  replace hs := hs.below hb1
  refine go2 ?_
  refine s_call2 (wn rfl) rfl rfl rfl (below_any q ((M : Int) + 1) B c bs _ hs (by omega)) ?_
  rintro _ w2 ⟨k, rfl, _, hk, hs2, hg2⟩
  have hk' := hk (by omega)
  have hg : w.grownBy w2 (some q) := grownBy_trans (grownBy_of_below hb1 _) hg2
  replace ho := ho.kept hg2 (ho.apart_blk (by omega))
  refine go2 ?_
  refine w_loop (fun kk fr w' => ∃ (i : Nat) (ob : Value) (wd : List Int), kk = k.toNat - i ∧ i ≤ k.toNat ∧ fr 0 = .pointer (some ⟨q, 0, none⟩) ∧ fr 1 = .int .i64 N ∧ fr 7 = ob ∧ fr 8 = .int .i64 (k - i) ∧
      OI w' w.heap.size 2 ob wd ∧ wd.length = i ∧ (∀ x ∈ wd, 0 ≤ x ∧ x < (N : Int)) ∧ Sr w' B q 105 c bs ∧ w.grownBy w' (some q)) k.toNat
    ⟨0, ob, [], rfl, Nat.zero_le _, rfl, rfl, rfl, by show Value.int _ _ = _; congr 1; omega, ho, rfl, by simp, hs2, hg⟩ ?_
  clear ho hs hs2 hg hg2
  rintro kk fr w3 ⟨i, ob, wd, rfl, hi, f0, f1, f7, f8, ho, hl, hr, hs, hg⟩
  have so := ho.sv
  have z3 := hg.size
  refine know (t := 0) f0 ?_; refine know (t := 1) f1 ?_; refine know (t := 7) f7 ?_; refine know (t := 8) f8 ?_
  refine go2 ?_
  refine cond_dec rfl (fun hlt => ?_) (fun hge => ?_)
  · refine go2 ?_
    refine s_call2 (wn rfl) rfl rfl rfl (below_any q (N : Int) B c bs _ hs (by omega)) ?_
    rintro _ w4 ⟨y, rfl, _, hy, hs4, hg4⟩
    have hy' := hy (by omega)
    replace ho := ho.kept hg4 (ho.apart_blk (by omega))
    have hgA := grownBy_trans hg hg4
    have z4 := hg4.size
    refine go2 ?_
    refine s_build1 (B := w.heap.size) (wn rfl) rfl rfl (by omega) (fun tb w5 ht st hg5 _ => ?_)
    have hb5 := below_of_grownBy hg5
    have z5 := hb5.size
    replace ho := ho.below hb5
    have hs5 := hs4.below hb5
    have hgB := gr_step hgA (grownBy_of_below hb5 none) (fun k hk => by cases hk)
    refine s_appendI (wn rfl) rfl rfl rfl ho ht.il (by simp; omega) (by omega) (fun ob' w6 ho6 so6 hg6 _ => ?_)
    have hs6 := hs5.kept hg6 (fun k hk => by have := (ho.lt k hk).1; have := hs5.low; omega)
    have hgC := gr_step hgB hg6 (fun k hk => (ho.lt k hk).1)
    refine go2 ?_
    exact ⟨k.toNat - (i + 1), by omega, i + 1, ob', _, rfl, by omega, rfl, rfl, rfl, by show Value.int _ _ = _; congr 1; omega, ho6, by simp [hl], fun x hx => by
      rcases List.mem_append.1 hx with hx | hx
      · exact hr x hx
      · simp at hx; subst hx; exact hy', hs6, hgC⟩
  · refine go2 ?_
    exact end_one Try.results47 rfl ⟨wd, ho, by omega, hr, hs, hg⟩

end Go.Proofs.Ytmdimdbfgibflaa
