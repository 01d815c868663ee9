/- Lists of maniplexes that lie apart; contracts: the laws' comparisons and marks of such lists; sorting them. -/
import Derived.Test.YtdpjjgjeodippaaGreatF98
import Derived.Test.YtdpjjgjeodippaaGreatFB
import Derived.Test.YtdpjjgjeodippaaGreatF34
namespace Go.Mem
open Go.RowKit
set_option linter.unusedVariables false
theorem nodup_at {α : Type} {l : List α} (h : l.Nodup) {i j : Nat} (hi : i < l.length) (hj : j < l.length) (e : l[i] = l[j]) : i = j := by
  rcases Nat.lt_trichotomy i j with h1 | h1 | h1
  · exact absurd e (List.pairwise_iff_getElem.1 h i j hi hj h1)
  · exact h1
  · exact absurd e.symm (List.pairwise_iff_getElem.1 h j i hj hi h1)
def totS : List (List (List Int)) → Int
  | [] => 0
  | m :: L => tot m + totS L
theorem totS_nonneg : ∀ L : List (List (List Int)), 0 ≤ totS L
  | [] => Int.le_refl _
  | m :: L => by have := totS_nonneg L; have := tot_nonneg m; simp only [totS]; omega
theorem totS_take_succ : ∀ (L : List (List (List Int))) (i : Nat), i < L.length → totS (L.take (i + 1)) = totS (L.take i) + tot (L.getD i [])
  | [], i, h => by simp at h
  | m :: L, 0, h => by simp [totS]
  | m :: L, i + 1, h => by
    have := totS_take_succ L i (by simpa using h)
    simp only [List.take_succ_cons, totS, List.getD_cons_succ]
    omega
theorem totS_take_le : ∀ (L : List (List (List Int))) (i : Nat), totS (L.take i) ≤ totS L
  | [], i => by simp
  | m :: L, 0 => by have := totS_nonneg (m :: L); simpa [totS] using this
  | m :: L, i + 1 => by have := totS_take_le L i; simp only [List.take_succ_cons, totS]; omega
theorem totS_le {c : Int} : ∀ L : List (List (List Int)), (∀ m ∈ L, tot m ≤ c) → totS L ≤ L.length * c
  | [], _ => by simp [totS]
  | m :: L, h => by
    have h1 := totS_le L fun a ha => h a (List.mem_cons_of_mem _ ha)
    have h2 := h m (List.mem_cons_self)
    simp only [totS, List.length_cons]
    have e : (((L.length + 1 : Nat) : Int)) * c = (L.length : Int) * c + c := by rw [Int.natCast_add, Int.add_mul]; simp
    rw [e]; omega
/-- the marks -/
def mkS (L : List (List (List Int))) (k : Int) : List (List (List Int)) := (List.range L.length).map fun j => mkRows (L.getD j []) (k + totS (L.take j))
theorem mkS_len (L : List (List (List Int))) (k : Int) : (mkS L k).length = L.length := by simp [mkS]
theorem mkS_at {L : List (List (List Int))} {k : Int} {j : Nat} (h : j < L.length) : (mkS L k).getD j [] = mkRows (L.getD j []) (k + totS (L.take j)) := by simp [mkS, List.getD, h]
/-- v is a list of maniplexes, to be read -/
structure RS (w : World) (v : Value) (mss : List (List (List Int))) : Prop where
  out : ∃ vs, Rd w v vs ∧ vs.length = mss.length ∧ ∀ (i : Nat) u xss, vs[i]? = some u → mss[i]? = some xss → RL w u xss
/-- an owned list of maniplexes, each in blocks of its own -/
structure OS (w : World) (B E : Nat) (TM T U : TypeId) (v : Value) (mss : List (List (List Int))) : Prop where
  out : ∃ (vs : List Value) (Bs Es : Nat → Nat), Own w B TM v vs ∧ vs.length = mss.length ∧ (∀ g, v.ownBlock = some g → g < E) ∧
    (∀ (i : Nat) u xss, vs[i]? = some u → mss[i]? = some xss → OM w (Bs i) (Es i) T U u xss ∧ ∀ g, u.ownBlock = some g → g < Es i) ∧
    (∀ i, i < vs.length → B ≤ Bs i ∧ Es i ≤ E ∧ Bs i ≤ w.heap.size) ∧ (∀ i g, i < vs.length → v.ownBlock = some g → g < Bs i ∨ Es i ≤ g) ∧
    ∀ i j, i < vs.length → j < vs.length → i ≠ j → Es i ≤ Bs j ∨ Es j ≤ Bs i
section
variable {w w' : World} {B E B' E' : Nat} {TM T U : TypeId} {v u : Value} {mss : List (List (List Int))} {xss : List (List Int)}
theorem RS.rs (h : RS w v mss) : RS w v mss := h
theorem RS.below (h : RS w v mss) (hb : Below w.heap.size w w') : RS w' v mss := by
  obtain ⟨vs, h1, h2, h3⟩ := h.out
  exact ⟨vs, h1.below hb, h2, fun i u xss hu hx => (h3 i u xss hu hx).below hb⟩
theorem RS.sv (h : RS w v mss) : SV v mss.length := by
  obtain ⟨vs, h1, h2, h3⟩ := h.out
  rw [← h2]; exact h1.sv
theorem RS.el (h : RS w v mss) {j : Nat} (hj : j < mss.length) : ∃ u, RL w u (mss.getD j []) ∧ w.cell? (addrOf v j) = some u := by
  obtain ⟨vs, h1, h2, h3⟩ := h.out
  have hu : vs[j]? = some (vs[j]'(by omega)) := by simp
  exact ⟨_, h3 j _ _ hu (by simp [List.getD, hj]), h1.cell hu⟩
theorem OS.rs (h : OS w B E TM T U v mss) : RS w v mss := by
  obtain ⟨vs, Bs, Es, h1, h2, _, h3, _⟩ := h.out
  exact ⟨vs, h1.rd, h2, fun i u xss hu hx => (h3 i u xss hu hx).1.rl⟩
theorem OS.sv (h : OS w B E TM T U v mss) : SV v mss.length := h.rs.sv
theorem OS.below (h : OS w B E TM T U v mss) (hb : Below w.heap.size w w') : OS w' B E TM T U v mss := by
  obtain ⟨vs, Bs, Es, h1, h2, h3, h4, h5, h6, h7⟩ := h.out
  exact ⟨vs, Bs, Es, h1.below hb, h2, h3, fun i u xss hu hx => ⟨(h4 i u xss hu hx).1.below hb, (h4 i u xss hu hx).2⟩, fun i hi => ⟨(h5 i hi).1, (h5 i hi).2.1, Nat.le_trans (h5 i hi).2.2 hb.size⟩, h6, h7⟩
theorem OS.mono (h : OS w B E TM T U v mss) (hB : B' ≤ B) : OS w B' E TM T U v mss := by
  obtain ⟨vs, Bs, Es, h1, h2, h3, h4, h5, h6, h7⟩ := h.out
  exact ⟨vs, Bs, Es, h1.mono hB, h2, h3, h4, fun i hi => ⟨Nat.le_trans hB (h5 i hi).1, (h5 i hi).2⟩, h6, h7⟩
theorem OS.wide (h : OS w B E TM T U v mss) (hE : E ≤ E') : OS w B E' TM T U v mss := by
  obtain ⟨vs, Bs, Es, h1, h2, h3, h4, h5, h6, h7⟩ := h.out
  exact ⟨vs, Bs, Es, h1, h2, fun g hg => Nat.lt_of_lt_of_le (h3 g hg) hE, h4, fun i hi => ⟨(h5 i hi).1, Nat.le_trans (h5 i hi).2.1 hE, (h5 i hi).2.2⟩, h6, h7⟩
/-- what lies apart from a turned stretch -/
theorem Own.apart_btw {vs : List Value} (h : Own w B' T v vs) (hv : ∀ g, v.ownBlock = some g → g < B ∨ E ≤ g) (hb : Btw B E w w') : Own w' B' T v vs :=
  by
    rcases h with ⟨rfl, rfl⟩ | ⟨g, off, cap, cur, rfl, hB, hg, r⟩
    · exact .inl ⟨rfl, rfl⟩
    · refine .inr ⟨g, off, cap, cur, rfl, hB, ?_, r⟩
      rw [hb.block g (Array.getElem?_eq_some_iff.1 hg).1 (hv g rfl)]; exact hg
theorem OM.apart_btw (h : OM w B' E' T U u xss) (hu : ∀ g, u.ownBlock = some g → g < E') (hb : Btw B E w w') (hd : E ≤ B' ∨ E' ≤ B) : OM w' B' E' T U u xss := by
  obtain ⟨vs, h1, h2, h3, h4, h5, h6⟩ := h.out
  refine ⟨vs, h1.apart_btw (fun g hg => ?_) hb, h2, h3, fun i a xs ha hx => ⟨(h4 i a xs ha hx).own.apart_btw (fun g hg => ?_) hb⟩, h5, h6⟩
  · have := (h1.lt g hg).1
    have := hu g hg
    omega
  · have := ((h4 i a xs ha hx).lt g hg).1
    have := h5 i a ha g hg
    omega
theorem OS.btw (h : OS w B' E' TM T U v mss) (hb : Btw B E w w') (hE : E ≤ B') : OS w' B' E' TM T U v mss := by
  obtain ⟨vs, Bs, Es, h1, h2, h3, h4, h5, h6, h7⟩ := h.out
  exact ⟨vs, Bs, Es, h1.apart_btw (fun g hg => .inr (Nat.le_trans hE (h1.lt g hg).1)) hb, h2, h3, fun i u xss hu hx => ⟨(h4 i u xss hu hx).1.apart_btw (h4 i u xss hu hx).2 hb (.inl (Nat.le_trans hE (h5 i (List.getElem?_eq_some_iff.1 hu).1).1)), (h4 i u xss hu hx).2⟩,
    fun i hi => ⟨(h5 i hi).1, (h5 i hi).2.1, Nat.le_trans (h5 i hi).2.2 hb.size⟩, h6, h7⟩
/-- an element, and what a turn in its blocks makes of the whole -/
theorem OS.elW (h : OS w B E TM T U v mss) {j : Nat} (hj : j < mss.length) : ∃ (u : Value) (Bj Ej : Nat), OM w Bj Ej T U u (mss.getD j []) ∧ B ≤ Bj ∧ Ej ≤ E ∧ w.cell? (addrOf v j) = some u ∧
    ∀ w' yss, OM w' Bj Ej T U u yss → Btw Bj Ej w w' → OS w' B E TM T U v (mss.set j yss) := by
  obtain ⟨vs, Bs, Es, h1, h2, h3, h4, h5, h6, h7⟩ := h.out
  have hlt : j < vs.length := by omega
  have hu : vs[j]? = some vs[j] := by simp [hlt]
  have hx : mss[j]? = some (mss.getD j []) := by simp [List.getD, hj]
  obtain ⟨k1, k2⟩ := h4 j _ _ hu hx
  refine ⟨vs[j], Bs j, Es j, k1, (h5 j hlt).1, (h5 j hlt).2.1, h1.rd.cell hu, fun w' yss hm hb => ⟨vs, Bs, Es, h1.apart_btw (fun g hg => h6 j g hlt hg) hb, by simpa using h2, h3, fun i a zss ha hz => ?_, fun i hi => ⟨(h5 i hi).1, (h5 i hi).2.1, Nat.le_trans (h5 i hi).2.2 hb.size⟩, h6, h7⟩⟩
  have hi := (List.getElem?_eq_some_iff.1 ha).1
  rw [List.getElem?_set] at hz
  by_cases e : j = i
  · subst e
    rw [if_pos rfl, if_pos hj] at hz
    obtain rfl := Option.some.inj hz
    rw [hu] at ha
    obtain rfl := Option.some.inj ha
    exact ⟨hm, k2⟩
  · rw [if_neg e] at hz
    obtain ⟨l1, l2⟩ := h4 i a zss ha hz
    exact ⟨l1.apart_btw l2 hb (h7 j i hlt hi e), l2⟩
theorem OS.nil (w : World) (B E : Nat) (TM T U : TypeId) : OS w B E TM T U (.slice none 0 0) [] :=
  ⟨[], fun _ => 0, fun _ => 0, Own.nil w B TM, rfl, by simp [Value.ownBlock], by simp, by simp, by simp, by simp⟩
end
end Go.Mem
namespace Go.Proofs.YtdpjjgjeodippaaGreat
open Go.Mem Go.RowKit
set_option linter.unusedVariables false
set_option linter.unusedSimpArgs false

set_option maxHeartbeats 8000000 in
set_option maxRecDepth 100000 in
theorem eqManiplexS_any (v v2 : Value) (mss nss : List (List (List Int))) (w : World) (hv : RS w v mss) (hv2 : RS w v2 nss) :
    Ret Tryz.prog 8 #[v, v2] w fun r w' => r = .bool (decide (mss = nss)) ∧ Below w.heap.size w w' := by
  have sv := hv.sv
  have sv2 := hv2.sv
  have scap := sv.le
  have scap2 := sv2.le
  refine enter2 27 Tryz.func8 rfl Tryz.ntmps8 rfl (fun fr => ?_)
  refine go ?_
  refine cond_dec rfl (fun hne => ?_) (fun hne => ?_)
  · refine go ?_
    exact end_one Tryz.results8 rfl ⟨by rw [decide_eq_false (fun e => by rw [e] at hne; omega)], Below.refl _ _⟩
  have hl : mss.length = nss.length := by omega
  refine go ?_
  refine w_loop (fun kk fr w' => ∃ i : Nat, kk = mss.length - i ∧ i ≤ mss.length ∧ fr 0 = v ∧ fr 1 = v2 ∧ fr 5 = .int .i64 i ∧ mss.take i = nss.take i ∧ Below w.heap.size w w') mss.length
    ⟨0, rfl, Nat.zero_le _, rfl, rfl, rfl, by simp, Below.refl _ _⟩ ?_
  rintro kk fr w1 ⟨i, rfl, hi, f0, f1, f5, heq, hb⟩
  refine know (t := 0) f0 ?_; refine know (t := 1) f1 ?_; refine know (t := 5) f5 ?_
  refine go ?_
  refine cond_dec rfl (fun hlt => ?_) (fun hge => ?_)
  · have hil : i < mss.length := by omega
    obtain ⟨u, hu, hcu⟩ := (hv.below hb).el hil
    obtain ⟨u2, hu2, hcu2⟩ := (hv2.below hb).el (show i < nss.length by omega)
    have hin : ((i : Int)).toNat = i := by omega
    rw [← hin] at hcu hcu2
    refine go ?_
    refine meet (fun r w' => r 0 = v ∧ r 1 = v2 ∧ r 5 = .int .i64 i ∧ r 26 = .bool (!decide (mss.getD i [] = nss.getD i [])) ∧ Below w.heap.size w w') ?_ ?_
    · refine region_hS (fun w' => w'.cell? (addrOf v ((i : Int)).toNat) = some u ∧ w'.cell? (addrOf v2 ((i : Int)).toNat) = some u2) mixed (fun w2 cr => ?_)
      replace hcu := cell_below hcu cr
      replace hcu2 := cell_below hcu2 cr
      replace hu := hu.below cr
      replace hu2 := hu2.below cr
      have hb2 := hb.trans (cr.mono hb.size)
      refine h_p 0 ⟨hcu, hcu2⟩ ?_ (hrun := fun w' h => by obtain ⟨h1, h2⟩ := h; exact yl)
      refine h_p 1 ⟨hcu, hcu2⟩ ?_ (hrun := fun w' h => by obtain ⟨h1, h2⟩ := h; exact yl)
      refine h_p 2 ⟨hcu, hcu2⟩ ?_ (hrun := fun w' h => y_idxSE rfl rfl sv (by omega) (by omega))
      refine h_p 3 ⟨hcu, hcu2⟩ ?_ (hrun := fun w' h => by obtain ⟨h1, h2⟩ := h; exact yl)
      refine h_p 4 ⟨hcu, hcu2⟩ ?_ (hrun := fun w' h => by obtain ⟨h1, h2⟩ := h; exact yl)
      refine h_p 5 ⟨hcu, hcu2⟩ ?_ (hrun := fun w' h => by obtain ⟨h1, h2⟩ := h; exact yl)
      refine h_p 6 ⟨hcu, hcu2⟩ ?_ (hrun := fun w' h => y_idxSE rfl rfl sv2 (by omega) (by omega))
      refine h_p 7 ⟨hcu, hcu2⟩ ?_ (hrun := fun w' h => by obtain ⟨h1, h2⟩ := h; exact yl)
      refine h_one 8 ?_
      refine s_call2 (wn rfl) rfl rfl rfl (eqManiplex_any _ _ _ _ _ hu hu2) ?_
      rintro _ w3 ⟨rfl, hb3⟩
      replace hcu := cell_below hcu hb3
      replace hcu2 := cell_below hcu2 hb3
      refine w_nil ?_
      refine h_on ⟨⟨hcu, hcu2⟩, ?_⟩
      refine h_p 9 ⟨hcu, hcu2⟩ ?_ (hrun := fun w' h => by obtain ⟨h1, h2⟩ := h; exact yl)
      refine h_nil ?_
      exact ⟨rfl, rfl, rfl, rfl, hb2.trans (hb3.mono hb2.size)⟩
    · rintro r w4 ⟨f0, f1, f5, f26, hb4⟩
      refine know (t := 0) f0 ?_; refine know (t := 1) f1 ?_; refine know (t := 5) f5 ?_; refine know (t := 26) f26 ?_
      have e1 : mss.take (i + 1) = mss.take i ++ [mss.getD i []] := by rw [List.take_succ_eq_append_getElem hil]; simp [List.getD, hil]
      have e2 : nss.take (i + 1) = nss.take i ++ [nss.getD i []] := by rw [List.take_succ_eq_append_getElem (by omega)]; simp [List.getD, show i < nss.length by omega]
      by_cases hs : mss.getD i [] = nss.getD i []
      · rw [decide_eq_true hs]
        refine go ?_
        exact ⟨mss.length - (i + 1), by omega, i + 1, rfl, by omega, rfl, rfl, rfl, by rw [e1, e2, heq, hs], hb4⟩
      · rw [decide_eq_false hs]
        refine go ?_
        exact end_one Tryz.results8 rfl ⟨by rw [decide_eq_false (fun e => hs (by rw [e]))], hb4⟩
  obtain rfl : i = mss.length := by omega
  rw [List.take_of_length_le (by omega), List.take_of_length_le (by omega)] at heq
  refine go ?_
  exact end_one Tryz.results8 rfl ⟨by rw [decide_eq_true heq], hb⟩

set_option maxHeartbeats 8000000 in
set_option maxRecDepth 100000 in
theorem markManiplexS_any (v : Value) (mss : List (List (List Int))) (k : Int) (w : World) (B E : Nat) (ho : OS w B E 29 38 2 v mss) (hk : 0 ≤ k) (hl : k + totS mss ≤ 4000000000000000000) :
    Ret Tryz.prog 11 #[v, .int .i64 k] w fun r w' => r = .int .i64 (k + totS mss) ∧ OS w' B E 29 38 2 v (mkS mss k) ∧ Btw B E w w' := by
  refine enter2 20 Tryz.func11 rfl Tryz.ntmps11 rfl (fun fr => ?_)
  refine go ?_
  refine w_loop (fun q fr w' => ∃ (i : Nat) (nss : List (List (List Int))), q = mss.length - i ∧ i ≤ mss.length ∧ fr 0 = v ∧ fr 1 = .int .i64 (k + totS (mss.take i)) ∧ fr 5 = .int .i64 i ∧ nss.length = mss.length ∧
      (∀ j : Nat, j < i → nss.getD j [] = (mkS mss k).getD j []) ∧ (∀ j : Nat, i ≤ j → nss.getD j [] = mss.getD j []) ∧ OS w' B E 29 38 2 v nss ∧ Btw B E w w') mss.length
    ⟨0, mss, rfl, Nat.zero_le _, rfl, by simp [totS]; rfl, rfl, rfl, fun j h1 => by omega, fun j _ => rfl, ho, Btw.refl _ _ _⟩ ?_
  rintro q fr w2 ⟨i, nss, rfl, hi, f0, f1, f5, hyl, hys, hyr, ho, hb⟩
  have so := ho.sv
  have hcap := so.le
  refine know (t := 0) f0 ?_; refine know (t := 1) f1 ?_; refine know (t := 5) f5 ?_
  refine go ?_
  refine cond_dec rfl (fun hlt => ?_) (fun hge => ?_)
  · have hil : i < mss.length := by omega
    obtain ⟨u, Bj, Ej, hu, hBj, hEj, hc, hup⟩ := ho.elW (j := i) (by omega)
    have h1 := totS_take_succ mss i hil
    have h2 := totS_take_le mss (i + 1)
    have h3 := totS_nonneg (mss.take i)
    have h4 := tot_nonneg (mss.getD i [])
    rw [hyr i (Nat.le_refl _)] at hu
    have hin : ((i : Int)).toNat = i := by omega
    rw [← hin] at hc
    refine go ?_
    refine s_p (wn rfl) rfl (y_idxSE rfl rfl so (by omega) (by omega)) ?_
    refine go ?_
    refine s_call2 (wn rfl) rfl rfl rfl (markInt64SS_any _ _ _ _ _ _ hu (by omega) (by omega)) ?_
    rintro _ w3 ⟨rfl, hu3, hb3⟩
    have ho3 := hup w3 _ hu3 hb3
    have hb3' : Btw B E w2 w3 := ⟨hb3.os, hb3.tape, hb3.output, hb3.size, fun g hg hd => hb3.block g hg (by omega)⟩
    refine go ?_
    refine ⟨mss.length - (i + 1), by omega, i + 1, _, rfl, by omega, rfl, by show Value.int _ _ = _; congr 1; omega, rfl, by simp [hyl], fun j hj => ?_, fun j hj => ?_, ho3, hb.trans hb3'⟩
    · by_cases hji : j = i
      · subst hji
        rw [mkS_at hil]
        simp [List.getD, show j < nss.length by omega]
      · rw [← hys j (by omega)]
        simp [List.getD, show ¬ i = j by omega]
    · rw [← hyr j (by omega)]
      simp [List.getD, show ¬ i = j by omega]
  · obtain rfl : i = mss.length := by omega
    refine go ?_
    have : nss = mkS mss k := by
      apply List.ext_getElem
      · rw [hyl, mkS_len]
      · intro j h1 h2
        have := hys j (by omega)
        simpa [List.getD, h1, h2] using this
    rw [this] at ho
    exact end_one Tryz.results11 rfl ⟨by rw [List.take_length], ho, hb⟩

set_option maxHeartbeats 8000000 in
set_option maxRecDepth 100000 in
theorem heldManiplexS_any (v : Value) (mss : List (List (List Int))) (k : Int) (w : World) (hv : RS w v (mkS mss k)) (hk : 0 ≤ k) (hl : k + totS mss ≤ 4000000000000000000) :
    Ret Tryz.prog 12 #[v, .int .i64 k] w fun r w' => r = .int .i64 (k + totS mss) ∧ w = w' := by
  have sv := hv.sv
  rw [mkS_len] at sv
  have hcap := sv.le
  refine enter2 22 Tryz.func12 rfl Tryz.ntmps12 rfl (fun fr => ?_)
  refine go ?_
  refine w_loop (fun q fr w' => ∃ (i : Nat), q = mss.length - i ∧ i ≤ mss.length ∧ fr 0 = v ∧ fr 1 = .int .i64 (k + totS (mss.take i)) ∧ fr 5 = .int .i64 i ∧ w = w') mss.length
    ⟨0, rfl, Nat.zero_le _, rfl, by simp [totS]; rfl, rfl, rfl⟩ ?_
  rintro q fr _ ⟨i, rfl, hi, f0, f1, f5, rfl⟩
  refine know (t := 0) f0 ?_; refine know (t := 1) f1 ?_; refine know (t := 5) f5 ?_
  refine go ?_
  refine cond_dec rfl (fun hlt => ?_) (fun hge => ?_)
  · have hil : i < mss.length := by omega
    obtain ⟨u, hu, hc⟩ := hv.el (j := i) (by rw [mkS_len]; omega)
    rw [mkS_at hil] at hu
    have h1 := totS_take_succ mss i hil
    have h2 := totS_take_le mss (i + 1)
    have h3 := totS_nonneg (mss.take i)
    have h4 := tot_nonneg (mss.getD i [])
    have hin : ((i : Int)).toNat = i := by omega
    rw [← hin] at hc
    refine go ?_
    refine s_p (wn rfl) rfl (y_idxSE rfl rfl sv (by omega) (by omega)) ?_
    refine go ?_
    refine s_call2 (wn rfl) rfl rfl rfl (heldInt64SS_any _ _ _ _ hu (by omega) (by omega)) ?_
    rintro _ _ ⟨rfl, rfl⟩
    have hneg : ¬ (k + totS (mss.take i) + tot (mss.getD i []) < 0) := by omega
    refine go ?_
    exact ⟨mss.length - (i + 1), by omega, i + 1, rfl, by omega, rfl, by show Value.int _ _ = _; congr 1; omega, rfl, rfl⟩
  · obtain rfl : i = mss.length := by omega
    rw [List.take_length]
    refine go ?_
    exact end_one Tryz.results12 rfl ⟨rfl, rfl⟩

set_option maxRecDepth 100000 in
/-- sorting a list that lies apart -/
theorem sortFormsS_any (v : Value) (mss : List (List (List Int))) (B E : Nat) (w : World) (ho : OS w B E 29 38 2 v mss) (hm1 : ∀ m ∈ mss, 1 ≤ m.length) (hne : mss ≠ []) (hl : mss.length ≤ 1000000) :
    Ret Tryz.prog 47 #[v] w fun r w' => OS w' B E 29 38 2 r (fmsM mss) ∧ w.grownBy w' v.ownBlock := by
  obtain ⟨vs, Bs, Es, h1, h2, h3, h4, h5, h6, h7⟩ := ho.out
  have hE : Els w 38 2 vs mss := ⟨h2, fun i u xss hu hx => ⟨_, _, (h4 i u xss hu hx).1⟩⟩
  have hnv : vs ≠ [] := fun e => hne (List.eq_nil_of_length_eq_zero (by rw [← h2, e]; rfl))
  refine enter1 7 Tryz.func47 rfl Tryz.ntmps47 rfl (fun fr => ?_)
  refine go ?_
  refine s_call2 (wn rfl) rfl rfl rfl (SortFunc_any v vs mss B w h1 hE hm1 hnv (by omega)) ?_
  rintro _ w1 ⟨σ, hp, ho1, hs, hg1⟩
  have hσ : σ.length = vs.length := by simpa using hp.length_eq
  have hσlt : ∀ i ∈ σ, i < vs.length := fun i hi => by simpa using hp.mem_iff.1 hi
  have hσn : σ.Nodup := hp.nodup_iff.2 List.nodup_range
  have hE1 := (hE.kept h1 (by decide) (by decide) hg1).pick σ hσlt
  refine go ?_
  refine s_call2 (wn rfl) rfl rfl rfl (CompactFunc_any v _ _ B w1 ho1 hE1 (by simp; omega)) ?_
  rintro r w2 ⟨ho2, hg2, hob⟩
  have el : (σ.map fun i => vs.getD i undef).length = mss.length := by simp; omega
  rw [el] at ho2
  have hfm := kp_fms (σ := σ) (mss := mss) (by rw [← h2]; exact hp) (fun i j hij hj => hs i j hij (by omega))
  generalize hK : kp (σ.map fun i => mss.getD i []) mss.length = K at *
  have hKlt : ∀ a ∈ K, a < σ.length := fun a ha => by rw [hσ, h2]; rw [← hK] at ha; exact kp_lt a ha
  have hKn : K.Nodup := by rw [← hK]; exact (List.nodup_range).filter _
  have hg12 := grownBy_trans hg1 hg2
  have hat : ∀ (i : Nat) (k : Nat), K[i]? = some k → k < σ.length := fun i k h => hKlt k (List.mem_of_getElem? h)
  have hr : OS w2 B E 29 38 2 r (fmsM mss) := by
    rw [← hfm]
    refine ⟨_, fun i => Bs (σ.getD (K.getD i 0) 0), fun i => Es (σ.getD (K.getD i 0) 0), ho2, by simp, fun g hg => h3 g (hob g hg), fun i u xss hu hx => ?_, fun i hi => ?_, fun i g hi hg => ?_, fun i j hi hj hij => ?_⟩
    · rw [List.getElem?_map] at hu hx
      cases e : K[i]? with
      | none => rw [e] at hu; cases hu
      | some k =>
        rw [e] at hu hx
        have hk := hat i k e
        have e0 : K.getD i 0 = k := by simp [List.getD, e]
        have hsk : σ.getD k 0 < vs.length := hσlt _ (by simp [List.getD, hk])
        obtain rfl := Option.some.inj hu
        obtain rfl := Option.some.inj hx
        have e1 : (σ.map fun i => vs.getD i undef).getD k undef = vs.getD (σ.getD k 0) undef := by simp [List.getD, hk]
        have e2 : (σ.map fun i => mss.getD i []).getD k [] = mss.getD (σ.getD k 0) [] := by simp [List.getD, hk]
        obtain ⟨k1, k2⟩ := h4 (σ.getD k 0) (vs.getD (σ.getD k 0) undef) (mss.getD (σ.getD k 0) []) (by simp [List.getD, show σ[k]?.getD 0 < vs.length from hsk]) (by simp [List.getD, show σ[k]?.getD 0 < mss.length by have := hsk; simp only [List.getD] at this; omega])
        simp only [e0]
        rw [e1, e2]
        exact ⟨k1.kept_type h1 (by decide) (by decide) hg12, k2⟩
    · have hi2 : i < K.length := by simpa using hi
      have hk := hat i _ (List.getElem?_eq_getElem hi2)
      have hsk : σ.getD (K.getD i 0) 0 < vs.length := hσlt _ (by simp [List.getD, hi2, hk])
      exact ⟨(h5 _ hsk).1, (h5 _ hsk).2.1, Nat.le_trans (h5 _ hsk).2.2 hg12.size⟩
    · have hi2 : i < K.length := by simpa using hi
      have hk := hat i _ (List.getElem?_eq_getElem hi2)
      exact h6 _ g (hσlt _ (by simp [List.getD, hi2, hk])) (hob g hg)
    · have hi2 : i < K.length := by simpa using hi
      have hj2 : j < K.length := by simpa using hj
      have hk := hat i _ (List.getElem?_eq_getElem hi2)
      have hk' := hat j _ (List.getElem?_eq_getElem hj2)
      refine h7 _ _ (hσlt _ (by simp [List.getD, hi2, hk])) (hσlt _ (by simp [List.getD, hj2, hk'])) (fun e => hij ?_)
      simp only [List.getD, List.getElem?_eq_getElem hi2, List.getElem?_eq_getElem hj2, Option.getD_some, List.getElem?_eq_getElem hk, List.getElem?_eq_getElem hk'] at e
      have := nodup_at hσn _ _ e
      exact nodup_at hKn _ _ this
  refine go ?_
  exact end_one Tryz.results47 rfl ⟨hr, hg12⟩
end Go.Proofs.YtdpjjgjeodippaaGreat
