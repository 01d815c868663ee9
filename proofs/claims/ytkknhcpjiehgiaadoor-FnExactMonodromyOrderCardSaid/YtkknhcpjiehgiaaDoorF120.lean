/- Contracts: MonodromyOrder, the reference's side: a sorted list of lists, the elements of a group. -/
import Derived.Test.YtkknhcpjiehgiaaDoorF42
import Derived.Test.YtkknhcpjiehgiaaDoorFE
import Derived.Test.YtkknhcpjiehgiaaDoorFF
import Derived.Test.YtkknhcpjiehgiaaDoorP50
import Derived.Test.YtkknhcpjiehgiaaDoorLr
namespace Go.Mem
open Go.RowKit
set_option linter.unusedVariables false
section
variable {S : List (List Int)} {q : List Int} {lo : Nat}
theorem gr_nat {i : Nat} (hi : i < S.length) : gr S (i : Int) = S[i] := by simp [gr, List.getD, hi]
theorem up_at (up : S.Pairwise (fun a b => lessL a b = true)) {i j : Nat} (hij : i < j) (hj : j < S.length) : lessL (gr S i) (gr S j) = true := by
  rw [gr_nat hj, gr_nat (by omega)]
  exact List.pairwise_iff_getElem.1 up i j _ _ hij
theorem put_in (up : S.Pairwise (fun a b => lessL a b = true)) (h1 : ∀ i : Nat, i < lo → lessL (gr S i) q = true) (h2 : lo < S.length → lessL (gr S lo) q = false) : q ∈ S ↔ lo < S.length ∧ gr S lo = q := by
  constructor
  · intro h
    obtain ⟨j, hj, rfl⟩ := mem_gr h
    rcases Nat.lt_trichotomy j lo with hl | rfl | hl
    · have := h1 j hl
      rw [lessL_sto.irr] at this; cases this
    · exact ⟨hj, rfl⟩
    · have := h2 (by omega)
      rw [up_at up hl hj] at this; cases this
  · rintro ⟨h, rfl⟩
    exact gr_in h
theorem put_end {x : List Int} (hlo : lo ≤ S.length) (h1 : ∀ i : Nat, i < lo → lessL (gr S i) q = true) (h2 : lo < S.length → lessL (gr S lo) q = false) (hq : q ∉ S) : (S.take lo ++ x :: S.drop lo).set ((lo : Int)).toNat q = insF lessL S q := by
  rw [insF_at S q lo hlo (fun i hi hl => by rw [← gr_nat hi]; exact h1 i hl) (fun hi => by rw [← gr_nat hi]; exact h2 hi), if_neg (by rintro ⟨h, rfl⟩; exact hq (List.getElem_mem h))]
  have e : ((lo : Int)).toNat = lo := by omega
  rw [e, List.set_append_right _ _ (by simp; omega), show lo - (S.take lo).length = 0 by simp; omega]
  rfl
theorem put_step {x : List Int} {k : Nat} (hk : k ≤ S.length) (h0 : 0 < k) : (S.take k ++ x :: S.drop k).set ((k : Int)).toNat (gr (S.take k ++ x :: S.drop k) ((k : Int) - 1)) = S.take (k - 1) ++ gr S ((k - 1 : Nat) : Int) :: S.drop (k - 1) := by
  have e : ((k : Int)).toNat = k := by omega
  have e2 : (k : Int) - 1 = ((k - 1 : Nat) : Int) := by omega
  have hk1 : k - 1 < S.length := by omega
  have e3 : gr (S.take k ++ x :: S.drop k) ((k - 1 : Nat) : Int) = S[k - 1] := by
    rw [gr_nat (by simp; omega), List.getElem_append_left (by simp; omega), List.getElem_take]
  rw [e, e2, e3, gr_nat hk1, List.set_append_right _ _ (by simp; omega), show k - (S.take k).length = 0 by simp; omega]
  obtain ⟨j, rfl⟩ : ∃ j, k = j + 1 := ⟨k - 1, by omega⟩
  simp only [Nat.add_sub_cancel] at *
  replace hk1 : j < S.length := hk1
  show S.take (j + 1) ++ (S[j] :: S.drop (j + 1)) = S.take j ++ S[j] :: S.drop j
  rw [← List.drop_eq_getElem_cons hk1, List.take_add_one, List.getElem?_eq_getElem hk1, List.append_assoc]
  rfl
end
theorem apart_sym {a b : Option Nat} (h : a = none ∨ a ≠ b) : b = none ∨ b ≠ a := by
  rcases h with h | h
  · cases b with
    | none => exact .inl rfl
    | some k => right; rw [h]; simp
  · exact .inr fun e => h e.symm
theorem man_el {ms : List (List Int)} (hm : IsMan ms) : ∀ m ∈ ms, IsEl (nf ms) m := fun m h => by
  obtain ⟨i, hi, rfl⟩ := mem_gr h
  obtain ⟨h1, h2, _⟩ := hm.m0.row i hi
  exact ⟨h1, fun x hx => by rw [← h1]; exact h2.2.1 x hx⟩
end Go.Mem
namespace Go.Proofs.YtkknhcpjiehgiaaDoor
open Go.Mem Go.RowKit
set_option linter.unusedVariables false
set_option linter.unusedSimpArgs false

set_option maxHeartbeats 8000000 in
set_option maxRecDepth 100000 in
theorem l01Unit_any  (n : Int) (N : Nat) (w : World)  (en : n = N) (hN : N ≤ 1000000) :
    Ret Tryd.prog 23 #[.int .i64 n] w fun r w' => OI w' w.heap.size 2 r (idl N) ∧ Below w.heap.size w w' := by
  have hb := Below.refl w.heap.size w
  refine enter1 16 Tryd.func23 rfl Tryd.ntmps23 rfl (fun fr => ?_)
  subst en
  have sbs1 := hb.size
  have hbB1 := Below.refl w.heap.size w
  refine go ?_
  have szq1 := hbB1.size
  refine s_build0 (B := w.heap.size) (wn rfl) rfl szq1 (fun ob w1 ho so hg1 _ => ?_)
  have hb1 := below_of_grownBy hg1
  have sw1 := hb1.size
  replace hbB1 := hbB1.trans (hb1.mono hbB1.size)
  refine go ?_
  refine w_loop (fun kk fr w' => ∃ (i : Nat) (ob : Value), kk = N - i ∧ i ≤ N ∧ fr 0 = .int .i64 N ∧ fr 3 = ob ∧ fr 4 = .int .i64 i ∧ (OI w' w.heap.size 2 ob (idl i)) ∧ Below w.heap.size w w') (N)
    ⟨0, ob, rfl, Nat.zero_le _, rfl, rfl, rfl, ho, hbB1⟩ ?_
  rintro kk fr w2 ⟨i, ob, rfl, hi, f0, f3, f4, ho, hbB1⟩
  have sw2 := hbB1.size
  have sho := ho.sv
  refine know (t := 0) f0 ?_; refine know (t := 3) f3 ?_; refine know (t := 4) f4 ?_
  refine go ?_
  refine cond_dec rfl (fun hlt => ?_) (fun hge => ?_)
  · refine go ?_
    have szq3 := hbB1.size
    refine s_build1 (B := w.heap.size) (wn rfl) rfl rfl szq3 (fun tb w3 ht st hg3 _ => ?_)
    have hb3 := below_of_grownBy hg3
    have sw3 := hb3.size
    replace ho := ho.below hb3
    replace hbB1 := hbB1.trans (hb3.mono hbB1.size)
    have szq4 := hbB1.size
    refine s_appendI (wn rfl) rfl rfl rfl ho ht.il (by simp; omega) szq4 (fun ob' w4 hoN so hgN _ => ?_)
    replace hbB1 := hbB1.trans (ho.below_of hgN szq4)
    have sw4 := hgN.size
    replace ho := hoN
    clear hoN
    refine go ?_
    refine ⟨N - (i + 1), by omega, i + 1, ob', rfl, by omega, rfl, rfl, rfl, by simpa [idl, List.range_succ] using ho, hbB1⟩
  obtain rfl : i = N := by omega
  refine go ?_
  exact end_one Tryd.results23 rfl ⟨ho.mono (by omega), (hb.trans (hbB1.mono hb.size))⟩

set_option maxHeartbeats 8000000 in
set_option maxRecDepth 100000 in
theorem l01Then_any (v : Value) (v2 : Value) (ps : List Int) (qs : List Int) (w : World) (hv : IL w v ps) (hv2 : IL w v2 qs) (hr : ∀ x ∈ ps, 0 ≤ x ∧ x < qs.length) (hl : ps.length ≤ 1000000) :
    Ret Tryd.prog 24 #[v, v2] w fun r w' => OI w' w.heap.size 2 r (aft ps qs) ∧ Below w.heap.size w w' := by
  have shv := hv.sv
  have shv2 := hv2.sv
  have hb := Below.refl w.heap.size w
  refine enter2 25 Tryd.func24 rfl Tryd.ntmps24 rfl (fun fr => ?_)
  refine go ?_
  have sbs1 := hb.size
  have hv_b1 := hv
  have hv2_b1 := hv2
  have hbB1 := Below.refl w.heap.size w
  refine go ?_
  have szq1 := hbB1.size
  refine s_build0 (B := w.heap.size) (wn rfl) rfl szq1 (fun ob w1 ho so hg1 _ => ?_)
  have hb1 := below_of_grownBy hg1
  have sw1 := hb1.size
  replace hv := hv.below hb1
  replace hv2 := hv2.below hb1
  replace hbB1 := hbB1.trans (hb1.mono hbB1.size)
  refine go ?_
  refine w_loop (fun kk fr w' => ∃ (i : Nat) (ob : Value), kk = ps.length - i ∧ i ≤ ps.length ∧ fr 0 = v ∧ fr 1 = v2 ∧ fr 5 = ob ∧ fr 6 = .int .i64 i ∧ (OI w' w.heap.size 2 ob ((ps.take i).map (gi qs))) ∧ Below w.heap.size w w') (ps.length)
    ⟨0, ob, rfl, Nat.zero_le _, rfl, rfl, rfl, rfl, ho, hbB1⟩ ?_
  rintro kk fr w2 ⟨i, ob, rfl, hi, f0, f1, f5, f6, ho, hbB1⟩
  have sw2 := hbB1.size
  have hv := hv_b1.below hbB1
  have hv2 := hv2_b1.below hbB1
  have sho := ho.sv
  refine know (t := 0) f0 ?_; refine know (t := 1) f1 ?_; refine know (t := 5) f5 ?_; refine know (t := 6) f6 ?_
  refine go ?_
  refine cond_dec rfl (fun hlt => ?_) (fun hge => ?_)
  · have hx := hr _ (gi_in (xs := ps) (j := i) (by omega))
    refine go ?_
    have szq3 := hbB1.size
    refine s_build1 (B := w.heap.size) (wn rfl) rfl rfl szq3 (fun tb w3 ht st hg3 _ => ?_)
    have hb3 := below_of_grownBy hg3
    have sw3 := hb3.size
    replace hv := hv.below hb3
    replace hv2 := hv2.below hb3
    replace ho := ho.below hb3
    replace hbB1 := hbB1.trans (hb3.mono hbB1.size)
    have szq4 := hbB1.size
    refine s_appendI (wn rfl) rfl rfl rfl ho ht.il (by simp; omega) szq4 (fun ob' w4 hoN so hgN _ => ?_)
    replace hbB1 := hbB1.trans (ho.below_of hgN szq4)
    have sw4 := hgN.size
    replace ho := hoN
    clear hoN
    replace hv := hv_b1.below hbB1
    replace hv2 := hv2_b1.below hbB1
    refine go ?_
    refine ⟨ps.length - (i + 1), by omega, i + 1, ob', rfl, by omega, rfl, rfl, rfl, rfl, by rw [take_gi (by omega), List.map_append]; exact ho, hbB1⟩
  obtain rfl : i = ps.length := by omega
  rw [List.take_length] at ho
  refine go ?_
  exact end_one Tryd.results24 rfl ⟨ho, (hb.trans (hbB1.mono hb.size))⟩

set_option maxHeartbeats 8000000 in
set_option maxRecDepth 100000 in
theorem l01Own2_any (v : Value) (xss : List (List Int)) (w : World) (hv : RL w v xss) (hm : xss.length ≤ 1000) (hr : ∀ xs ∈ xss, xs.length ≤ 1000000) :
    Ret Tryd.prog 26 #[v] w fun r w' => OM w' w.heap.size w'.heap.size 40 2 r xss ∧ Below w.heap.size w w' := by
  have shv := hv.sv
  have hb := Below.refl w.heap.size w
  refine enter1 21 Tryd.func26 rfl Tryd.ntmps26 rfl (fun fr => ?_)
  have sbs1 := hb.size
  have hv_b1 := hv
  have hbB1 := Below.refl w.heap.size w
  refine go ?_
  have szq1 := hbB1.size
  refine s_build (B := w.heap.size) [] (wn rfl) rfl (by simp) (by decide) rfl (by simp) szq1 (fun ob w1 ho hg1 _ => ?_)
  have hb1 := below_of_grownBy hg1
  have sw1 := hb1.size
  replace hv := hv.below hb1
  replace hbB1 := hbB1.trans (hb1.mono hbB1.size)
  replace ho := OM.empty (E := w1.heap.size) (U := 2) ho
  refine go ?_
  refine w_loop (fun kk fr w' => ∃ (i : Nat) (ob : Value), kk = xss.length - i ∧ i ≤ xss.length ∧ fr 0 = v ∧ fr 3 = ob ∧ fr 4 = .int .i64 i ∧ (OM w' w.heap.size w'.heap.size 40 2 ob (xss.take i)) ∧ Below w.heap.size w w') (xss.length)
    ⟨0, _, rfl, Nat.zero_le _, rfl, rfl, rfl, ho, hbB1⟩ ?_
  rintro kk fr w2 ⟨i, ob, rfl, hi, f0, f3, f4, ho, hbB1⟩
  have sw2 := hbB1.size
  have hv := hv_b1.below hbB1
  have sho := ho.sv
  refine know (t := 0) f0 ?_; refine know (t := 3) f3 ?_; refine know (t := 4) f4 ?_
  refine go ?_
  refine cond_dec rfl (fun hlt => ?_) (fun hge => ?_)
  · have hil : i < xss.length := by omega
    have hrl := hr _ (gr_in hil)
    obtain ⟨u, hu, hcu⟩ := hv.row (j := (i : Int)) (by omega) hlt
    have su := hu.sv
    refine go ?_
    refine s_call1 (wn rfl) rfl rfl (l01Own_any _ _ _ hu (by omega)) ?_
    rintro rb w3 ⟨hr1, hb3⟩
    have sw3 := hb3.size
    replace hv := hv.below hb3
    replace ho := ho.below hb3
    replace hu := hu.below hb3
    replace hcu := cell_below hcu hb3
    replace hbB1 := hbB1.trans (hb3.mono hbB1.size)
    refine go ?_
    have szq4 := hbB1.size
    refine s_build1V (B := w.heap.size) (wn rfl) rfl rfl hr1.sv.one szq4 (fun tb w4 ht st hg4 _ => ?_)
    have hb4 := below_of_grownBy hg4
    have sw4 := hb4.size
    replace hv := hv.below hb4
    replace ho := ho.below hb4
    replace hu := hu.below hb4
    replace hcu := cell_below hcu hb4
    replace hr1 := hr1.below hb4
    replace hbB1 := hbB1.trans (hb4.mono hbB1.size)
    have szq5 := hbB1.size
    refine s_appendM (wn rfl) rfl rfl rfl ho ht.rd hr1 (by omega) (by decide) (by simp; omega) szq5 (fun ob' w5 hoN so hgN => ?_)
    replace hbB1 := hbB1.trans (ho.below_of hgN szq5)
    have sw5 := hgN.size
    replace ho := hoN
    clear hoN
    replace hv := hv_b1.below hbB1
    replace ho := ho.top
    refine go ?_
    refine ⟨xss.length - (i + 1), by omega, i + 1, ob', rfl, by omega, rfl, rfl, rfl, by rw [take_gr hil]; exact ho, hbB1⟩
  obtain rfl : i = xss.length := by omega
  rw [List.take_length] at ho
  replace ho := ho.mono (B' := w.heap.size) (by omega)
  refine go ?_
  exact end_one Tryd.results26 rfl ⟨ho, (hb.trans (hbB1.mono hb.size))⟩

set_option maxHeartbeats 8000000 in
set_option maxRecDepth 100000 in
theorem l01Put_any (v u : Value) (S : List (List Int)) (q : List Int) (B B' : Nat) (w : World) (hv : LR w B 40 2 v S) (hu : OI w B' 2 u q) (hB : B ≤ w.heap.size) (up : S.Pairwise (fun a b => lessL a b = true)) (hl : S.length ≤ 1000000) :
    Ret Tryd.prog 25 #[v, u] w fun r w' => ∃ v', r = .tuple #[v', .bool (decide (q ∉ S))] ∧ LR w' B 40 2 v' (if q ∈ S then S else insF lessL S q) ∧ w.grownBy w' v.ownBlock ∧ (v'.ownBlock = v.ownBlock ∨ ∃ k, v'.ownBlock = some k ∧ w.heap.size ≤ k) := by
  have shv := hv.sv
  have shu := hu.sv
  refine enter2 67 Tryd.func25 rfl Tryd.ntmps25 rfl (fun fr => ?_)
  refine go ?_
  refine w_loop (fun kk fr w' => ∃ (lo hi : Nat), kk = hi - lo ∧ lo ≤ hi ∧ hi ≤ S.length ∧ fr 0 = v ∧ fr 1 = u ∧ fr 6 = .int .i64 lo ∧ fr 7 = .int .i64 hi ∧ (∀ i : Nat, i < lo → lessL (gr S i) q = true) ∧ (hi < S.length → lessL (gr S hi) q = false) ∧ Below w.heap.size w w') S.length
    ⟨0, S.length, rfl, Nat.zero_le _, Nat.le_refl _, rfl, rfl, rfl, rfl, fun i hi => by omega, fun h => by omega, Below.refl _ _⟩ ?_
  rintro kk fr w1 ⟨lo, hi, rfl, h01, h02, f0, f1, f6, f7, hlo, hhi, hb1⟩
  have hv1 := hv.below hb1
  have hu1 := hu.below hb1
  have sz1 := hb1.size
  refine know (t := 0) f0 ?_; refine know (t := 1) f1 ?_; refine know (t := 6) f6 ?_; refine know (t := 7) f7 ?_
  refine go ?_
  refine cond_dec rfl (fun hlt => ?_) (fun hge => ?_)
  · have e : ((lo : Int) + (hi : Int)) / 2 = (((lo + hi) / 2 : Nat) : Int) := by omega
    obtain ⟨x, ⟨Bx, hx⟩, hcx⟩ := hv1.row (j := ((lo : Int) + (hi : Int)) / 2) (by omega) (by omega)
    have sx := hx.sv
    refine go ?_
    refine s_call2 (wn rfl) rfl rfl rfl (l01Less_any _ _ _ _ _ hx.il hu1.il) ?_
    rintro _ w2 ⟨rfl, hb2⟩
    have hbN := hb1.trans (hb2.mono hb1.size)
    refine splitb (lessL (gr S (((lo : Int) + (hi : Int)) / 2)) q) (fun hls => ?_) (fun hls => ?_)
    · refine go ?_
      rw [e] at hls
      exact ⟨hi - ((lo + hi) / 2 + 1), by omega, (lo + hi) / 2 + 1, hi, rfl, by omega, h02, rfl, rfl, by show Value.int _ _ = Value.int _ _; congr 1 <;> omega, rfl, fun i hi' => by
        by_cases hm : i = (lo + hi) / 2
        · rw [hm]; exact hls
        · exact lessL_sto.tr _ _ _ (up_at up (i := i) (j := (lo + hi) / 2) (by omega) (by omega)) hls, hhi, hbN⟩
    · refine go ?_
      rw [e] at hls
      exact ⟨(lo + hi) / 2 - lo, by omega, lo, (lo + hi) / 2, rfl, by omega, by omega, rfl, rfl, rfl, by show Value.int _ _ = Value.int _ _; congr 1, hlo, fun _ => hls, hbN⟩
  obtain rfl : lo = hi := by omega
  refine go ?_
  by_cases hL : (lo : Int) < S.length
  rotate_left
  · have hin : q ∉ S := fun h => by have := (put_in up hlo hhi).1 h; omega
    have hb9 := hb1
    have hv9 := hv1
    have hu9 := hu1
    have sz9 := hb9.size
    refine go ?_
    refine s_build1V (B := w.heap.size) (wn rfl) rfl rfl hu.sv.one sz9 (fun tb w3 ht st hg3 _ => ?_)
    have hb3 := below_of_grownBy hg3
    have hv3 := hv9.below hb3
    have hu3 := hu9.below hb3
    have hb93 := hb9.trans (hb3.mono hb9.size)
    have sz3 := hb93.size
    refine s_appendL (B := B) (wn rfl) rfl rfl rfl hv3 ht.rd hu3 (by decide) (by omega) (by omega) (fun v4 w4 hv4 sv4 hg4 hbk4 => ?_)
    have hu4 := hu3.other hv3 (by decide) hg4
    have hG4 := gr_join (grownBy_of_below hb93 v.ownBlock) hg4 (.inl rfl)
    have sv4l : (S ++ [q]).length = S.length + 1 := by simp
    have hbk : v4.ownBlock = v.ownBlock ∨ ∃ k, v4.ownBlock = some k ∧ w.heap.size ≤ k := by
      rcases hbk4 with e | e
      · exact .inl e
      · exact .inr ⟨_, e, sz3⟩
    refine go ?_
    refine w_loop (fun kk fr w' => ∃ (x : List Int) (k : Nat), kk = k - lo ∧ lo ≤ k ∧ k ≤ S.length ∧ fr 1 = u ∧ fr 6 = .int .i64 lo ∧ fr 9 = v4 ∧ fr 10 = .int .i64 k ∧ LR w' B 40 2 v4 (S.take k ++ x :: S.drop k) ∧ OI w' B' 2 u q ∧ w.grownBy w' v.ownBlock) (S.length - lo)
      ⟨q, S.length, rfl, h02, Nat.le_refl _, rfl, rfl, rfl, by show Value.int _ _ = Value.int _ _; congr 1 <;> omega, by rw [List.take_length, List.drop_length]; exact hv4, hu4, hG4⟩ ?_
    rintro kk fr w5 ⟨x, k, rfl, hk0, hk1, g1, g6, g9, g10, hv5, hu5, hG5⟩
    have hl5 : (S.take k ++ x :: S.drop k).length = S.length + 1 := by simp; omega
    have sv5 := hv5.sv
    rw [hl5] at sv5
    refine know (t := 1) g1 ?_; refine know (t := 6) g6 ?_; refine know (t := 9) g9 ?_; refine know (t := 10) g10 ?_
    refine go ?_
    refine cond_dec rfl (fun hgt => ?_) (fun hng => ?_)
    · obtain ⟨y, ⟨By, hy⟩, hcy⟩ := hv5.row (j := (k : Int) - 1) (by omega) (by omega)
      have sy := hy.sv
      refine go ?_
      refine s_storeL (wn rfl) rfl rfl hv5 hy (by decide) (by omega) (fun w6 hv6 hg6 => ?_)
      have hG6 := gr_join hG5 hg6 (by rcases hbk with e | ⟨b, e, hb'⟩; (left; exact e); (right; intro k' e'; rw [e] at e'; injection e' with e'; omega))
      have hu6 := hu5.other hv5 (by decide) hg6
      rw [put_step hk1 (by omega)] at hv6
      refine go ?_
      exact ⟨k - 1 - lo, by omega, gr S ((k - 1 : Nat) : Int), k - 1, rfl, by omega, by omega, rfl, rfl, rfl, by show Value.int _ _ = Value.int _ _; congr 1 <;> omega, hv6, hu6, hG6⟩
    obtain rfl : k = lo := by omega
    refine go ?_
    refine s_storeL (wn rfl) rfl rfl hv5 hu5 (by decide) (by omega) (fun w6 hv6 hg6 => ?_)
    have hG6 := gr_join hG5 hg6 (by rcases hbk with e | ⟨b, e, hb'⟩; (left; exact e); (right; intro k' e'; rw [e] at e'; injection e' with e'; omega))
    rw [put_end hk1 hlo hhi hin] at hv6
    refine go ?_
    exact end_two Tryd.results25 rfl rfl ⟨v4, by rw [decide_eq_true hin], by rw [if_neg hin]; exact hv6, hG6, hbk⟩
  obtain ⟨x, ⟨Bx, hx⟩, hcx⟩ := hv1.row (j := (lo : Int)) (by omega) hL
  have sx := hx.sv
  refine go ?_
  refine s_call2 (wy rfl rfl rfl rfl rfl known) rfl rfl rfl (l01Same_any _ _ _ _ _ hx.il hu1.il) ?_
  rintro _ w2 ⟨rfl, hb2⟩
  have hb9 := hb1.trans (hb2.mono hb1.size)
  have hv9 := hv.below hb9
  have hu9 := hu.below hb9
  have sz9 := hb9.size
  refine splitb (decide (gr S lo = q)) (fun hq => ?_) (fun hq => ?_)
  · have hin : q ∈ S := (put_in up hlo hhi).2 ⟨by omega, of_decide_eq_true hq⟩
    refine go ?_
    exact end_two Tryd.results25 rfl rfl ⟨v, by rw [decide_eq_false (fun h => h hin)], by rw [if_pos hin]; exact hv9, grownBy_of_below hb9 _, .inl rfl⟩
  have hin : q ∉ S := fun h => absurd ((put_in up hlo hhi).1 h).2 (of_decide_eq_false hq)
  refine go ?_
  refine s_build1V (B := w.heap.size) (wn rfl) rfl rfl hu.sv.one sz9 (fun tb w3 ht st hg3 _ => ?_)
  have hb3 := below_of_grownBy hg3
  have hv3 := hv9.below hb3
  have hu3 := hu9.below hb3
  have hb93 := hb9.trans (hb3.mono hb9.size)
  have sz3 := hb93.size
  refine s_appendL (B := B) (wn rfl) rfl rfl rfl hv3 ht.rd hu3 (by decide) (by omega) (by omega) (fun v4 w4 hv4 sv4 hg4 hbk4 => ?_)
  have hu4 := hu3.other hv3 (by decide) hg4
  have hG4 := gr_join (grownBy_of_below hb93 v.ownBlock) hg4 (.inl rfl)
  have sv4l : (S ++ [q]).length = S.length + 1 := by simp
  have hbk : v4.ownBlock = v.ownBlock ∨ ∃ k, v4.ownBlock = some k ∧ w.heap.size ≤ k := by
    rcases hbk4 with e | e
    · exact .inl e
    · exact .inr ⟨_, e, sz3⟩
  refine go ?_
  refine w_loop (fun kk fr w' => ∃ (x : List Int) (k : Nat), kk = k - lo ∧ lo ≤ k ∧ k ≤ S.length ∧ fr 1 = u ∧ fr 6 = .int .i64 lo ∧ fr 9 = v4 ∧ fr 10 = .int .i64 k ∧ LR w' B 40 2 v4 (S.take k ++ x :: S.drop k) ∧ OI w' B' 2 u q ∧ w.grownBy w' v.ownBlock) (S.length - lo)
    ⟨q, S.length, rfl, h02, Nat.le_refl _, rfl, rfl, rfl, by show Value.int _ _ = Value.int _ _; congr 1 <;> omega, by rw [List.take_length, List.drop_length]; exact hv4, hu4, hG4⟩ ?_
  rintro kk fr w5 ⟨x, k, rfl, hk0, hk1, g1, g6, g9, g10, hv5, hu5, hG5⟩
  have hl5 : (S.take k ++ x :: S.drop k).length = S.length + 1 := by simp; omega
  have sv5 := hv5.sv
  rw [hl5] at sv5
  refine know (t := 1) g1 ?_; refine know (t := 6) g6 ?_; refine know (t := 9) g9 ?_; refine know (t := 10) g10 ?_
  refine go ?_
  refine cond_dec rfl (fun hgt => ?_) (fun hng => ?_)
  · obtain ⟨y, ⟨By, hy⟩, hcy⟩ := hv5.row (j := (k : Int) - 1) (by omega) (by omega)
    have sy := hy.sv
    refine go ?_
    refine s_storeL (wn rfl) rfl rfl hv5 hy (by decide) (by omega) (fun w6 hv6 hg6 => ?_)
    have hG6 := gr_join hG5 hg6 (by rcases hbk with e | ⟨b, e, hb'⟩; (left; exact e); (right; intro k' e'; rw [e] at e'; injection e' with e'; omega))
    have hu6 := hu5.other hv5 (by decide) hg6
    rw [put_step hk1 (by omega)] at hv6
    refine go ?_
    exact ⟨k - 1 - lo, by omega, gr S ((k - 1 : Nat) : Int), k - 1, rfl, by omega, by omega, rfl, rfl, rfl, by show Value.int _ _ = Value.int _ _; congr 1 <;> omega, hv6, hu6, hG6⟩
  obtain rfl : k = lo := by omega
  refine go ?_
  refine s_storeL (wn rfl) rfl rfl hv5 hu5 (by decide) (by omega) (fun w6 hv6 hg6 => ?_)
  have hG6 := gr_join hG5 hg6 (by rcases hbk with e | ⟨b, e, hb'⟩; (left; exact e); (right; intro k' e'; rw [e] at e'; injection e' with e'; omega))
  rw [put_end hk1 hlo hhi hin] at hv6
  refine go ?_
  exact end_two Tryd.results25 rfl rfl ⟨v4, by rw [decide_eq_true hin], by rw [if_neg hin]; exact hv6, hG6, hbk⟩


end Go.Proofs.YtkknhcpjiehgiaaDoor
