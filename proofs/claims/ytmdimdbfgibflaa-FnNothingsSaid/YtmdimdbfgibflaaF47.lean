/- Contracts: FirstNothing, on both sides. -/
import Derived.Test.YtmdimdbfgibflaaF31
import Derived.Test.YtmdimdbfgibflaaPD
namespace Go.Mem
theorem does_snoc (ms : List (List Int)) (W : List Int) (i : Int) (n : Nat) : does ms (W ++ [i]) n = aft (does ms W n) (gr ms i) := by simp [does, List.foldl_append]
theorem isWord_snoc {ms : List (List Int)} {W : List Int} {i : Nat} (h : IsWord ms W) (hl : W.length < 64) (hi : i < ms.length) : IsWord ms (W ++ [(i : Int)]) := by
  refine ⟨by simp; omega, fun x hx => ?_⟩
  rcases List.mem_append.1 hx with hx | hx
  · exact h.2 x hx
  · simp at hx; subst hx; omega
theorem getLast_gi {W : List Int} (h : W.length ≠ 0) : W.getLast? = some (gi W ((W.length : Int) - 1)) := by
  rw [List.getLast?_eq_getElem?]
  have e : ((W.length : Int) - 1).toNat = W.length - 1 := by omega
  simp [gi, List.getD, e, show W.length - 1 < W.length by omega]
end Go.Mem
namespace Go.Proofs.Ytmdimdbfgibflaa
open Go.Mem Go.RowKit
set_option linter.unusedVariables false
set_option linter.unusedSimpArgs false
section
variable {P : Program} {ops : Array Oper} {Q : Exit → Fm → World → Prop} {n : Nat} {f : Fm} {w : World} {rest : List Oper} {ty : TypeId} {pos : String} {after : Array Edge} {g : Option (Nat × Bool)} {d : Nat}
theorem s_call6 {fn : FuncId} {x y z u s t : Operand} {ats : Array TypeId} {a b c e i j : Value} {R : Value → World → Prop} [hf : FunTy P fn]
    (hw : Wants ⟨some d, .call ⟨.value (.func fn), #[x, y, z, u, s, t], ats⟩, ty, pos, after, g⟩ ops n f) (hd : Nat.ble (d + 1) n = true)
    (hx : lk n f x = some a) (hy : lk n f y = some b) (hz : lk n f z = some c) (hu : lk n f u = some e) (hs : lk n f s = some i) (ht : lk n f t = some j) (hc : Ret P fn #[a, b, c, e, i, j] w R) (k : ∀ v w', R v w' → WL P ops Q rest n (.upd f d v) w') :
    WL P ops Q (⟨some d, .call ⟨.value (.func fn), #[x, y, z, u, s, t], ats⟩, ty, pos, after, g⟩ :: rest) n f w := s_call hw hd (by simp [lk_evo hx, lk_evo hy, lk_evo hz, lk_evo hu, lk_evo hs, lk_evo ht]) hc k
variable {S : World → Prop} {fuel : Nat} {listed : Array Bool}
theorem _root_.Go.Mem.WL.mono {o : Oper} {Q' : Exit → Fm → World → Prop} (h : WL P ops Q [o] n f w) (hq : ∀ e f w, Q e f w → Q' e f w) : WL P ops Q' [o] n f w := by
  have hk := h.out
  have hl : ∀ e a w, lift n Q e a w → lift n Q' e a w := by
    rintro e a w ⟨h1, f, h2, h3⟩
    exact ⟨h1, f, h2, hq _ _ _ h3⟩
  refine ⟨?_⟩
  unfold wpList at hk ⊢
  have hnext : ∀ a w, wpList P ops (lift n Q) [] a w → wpList P ops (lift n Q') [] a w := fun a w h => hl _ _ _ h
  split
  · rename_i hw
    rw [if_pos hw] at hk
    rcases hk with hk | ⟨h1, a, w, h2⟩
    · exact .inl (wp_exits hnext (fun c a w h => absurd rfl (h.1 c)) (fun a w h => hl _ _ _ h) hk)
    · exact .inr ⟨h1, a, w, hl _ _ _ h2⟩
  · rename_i hw
    rw [if_neg hw] at hk
    exact hnext _ _ hk
theorem _root_.Go.Mem.WH.swap {d d2 : Nat} {v v2 : Value} (hne : d ≠ d2) (h : WH P ops S Q fuel listed n (.upd (.upd f d v) d2 v2) w) : WH P ops S Q fuel listed n (.upd (.upd f d2 v2) d v) w := by
  have e : (Fm.upd (.upd f d2 v2) d v).fn = (Fm.upd (.upd f d v) d2 v2).fn := by
    funext t
    show (if t = d then v else if t = d2 then v2 else f.fn t) = (if t = d2 then v2 else if t = d then v else f.fn t)
    by_cases h1 : t = d
    · subst h1; rw [if_pos rfl, if_neg hne, if_pos rfl]
    · rw [if_neg h1, if_neg h1]
  obtain ⟨h⟩ := h
  exact ⟨by rw [e]; exact h⟩
/-- two operations are ready, in either order; then the same rest -/
theorem h_pair (i i2 d d2 : Nat) {o o2 : Oper} (J : Value → Value → World → Prop)
    (k : WL P ops (seqP (fun f' w' => S w' ∧ ∃ v, f' = .upd f d v ∧ WL P ops (seqP (fun f2 w2 => S w2 ∧ ∃ v2, f2 = .upd (.upd f d v) d2 v2 ∧ J v v2 w2) Q) [o2] n (.upd f d v) w') Q) [o] n f w)
    (k2 : WL P ops (seqP (fun f' w' => S w' ∧ ∃ v2, f' = .upd f d2 v2 ∧ WL P ops (seqP (fun f2 w2 => S w2 ∧ ∃ v, f2 = .upd (.upd f d2 v2) d v ∧ J v v2 w2) Q) [o] n (.upd f d2 v2) w') Q) [o2] n f w)
    (hJ : ∀ v v2 w', S w' → J v v2 w' → WH P ops S Q fuel ((listed.setIfInBounds i true).setIfInBounds i2 true) n (.upd (.upd f d v) d2 v2) w')
    (hne : d ≠ d2 := by decide) (hi : ops[i]? = some o := by rfl) (hi2 : ops[i2]? = some o2 := by rfl) (hr : Region.ready .any ops listed = [i, i2] := by kernel_rfl)
    (hr1 : Region.ready .any ops (listed.setIfInBounds i true) = [i2] := by kernel_rfl) (hr2 : Region.ready .any ops (listed.setIfInBounds i2 true) = [i] := by kernel_rfl)
    (hrr : (listed.setIfInBounds i2 true).setIfInBounds i true = (listed.setIfInBounds i true).setIfInBounds i2 true := by kernel_rfl) : WH P ops S Q (fuel + 2) listed n f w := by
  refine h_two i i2 (k.mono fun e f' w' hq => ?_) (k2.mono fun e f' w' hq => ?_) hi hi2 hr
  · cases e with
    | normal =>
      obtain ⟨hs, v, rfl, h⟩ := hq
      refine ⟨hs, h_one i2 (h.mono fun e f' w' hq => ?_) hi2 hr1⟩
      cases e with
      | normal => obtain ⟨hs, v2, rfl, h⟩ := hq; exact ⟨hs, hJ _ _ _ hs h⟩
      | _ => exact hq
    | _ => exact hq
  · cases e with
    | normal =>
      obtain ⟨hs, v2, rfl, h⟩ := hq
      refine ⟨hs, h_one i (h.mono fun e f' w' hq => ?_) hi hr2⟩
      cases e with
      | normal => obtain ⟨hs, v, rfl, h⟩ := hq; exact ⟨hs, by rw [hrr]; exact (hJ _ _ _ hs h).swap hne⟩
      | _ => exact hq
    | _ => exact hq
end
set_option maxRecDepth 100000 in
theorem CloneI_any (v : Value) (xs : List Int) (w : World) (hv : IL w v xs) (hl : xs.length ≤ 1000000) :
    Ret Try.prog 156 #[v] w fun r w' => OI w' w.heap.size 2 r xs ∧ Below w.heap.size w w' := by
  have sv := hv.sv
  refine enter1 8 Try.func156 rfl Try.ntmps156 rfl (fun fr => ?_)
  refine go ?_
  cases hn : nilV v with
  | true =>
    have hx : xs = [] := by
      by_cases h : xs.length = 0
      · exact List.length_eq_zero_iff.1 h
      · rw [nilV_of sv h] at hn; simp at hn
    subst hx
    refine go ?_
    exact end_one Try.results156 rfl ⟨OI.nil _ _ _, Below.refl _ _⟩
  | false =>
    refine go ?_
    refine s_build0 (B := w.heap.size) (wn rfl) rfl (Nat.le_refl _) (fun ob w1 ho so hg1 _ => ?_)
    have hb1 := below_of_grownBy hg1
    have hv := hv.below hb1
    have h1 := hb1.size
    refine go ?_
    refine s_appendI (wn rfl) rfl rfl rfl ho hv (by simp; omega) h1 (fun ob' w2 ho2 so2 hg2 _ => ?_)
    have hb2 := hb1.trans (ho.below_of hg2 h1)
    refine go ?_
    exact end_one Try.results156 rfl ⟨by simpa using ho2, hb2⟩

set_option maxHeartbeats 8000000 in
set_option maxRecDepth 100000 in
theorem nothingOf_zero (v : Value) (v2 : Value) (v3 : Value) (v4 : Value) (v5 : Value) (ms : List (List Int)) (ks : List (List Int)) (W : List Int) (P : List Int) (Q : List Int) (m : Int) (k : Nat) (w : World) (hv : RL w v ms) (hv2 : RL w v2 ks) (hv3 : IL w v3 W) (hv4 : IL w v4 P) (hv5 : IL w v5 Q) (hm : IsMan ms) (hk : IsMan ks) (hl : ms.length = ks.length) (hw : IsWord ms W) (hlen : W.length + k ≤ 12) (hP : P = does ms W (nf ms)) (hQ : Q = does ks W (nf ks)) (B : Nat) (ho3 : OI w B 2 v3 W) (hB : B ≤ w.heap.size) (em : m = 0) :
    Ret Try.prog 111 #[.agg #[v], .agg #[v2], v3, v4, v5, .int .i64 m] w fun r w' => MapR w' B 2 r (tryW implOk ms.length (goodB ms ks) W 0) ∧ Below w.heap.size w w' := by
  have shv := hv.sv
  have shv2 := hv2.sv
  have shv3 := hv3.sv
  have shv4 := hv4.sv
  have shv5 := hv5.sv
  have hb := Below.refl w.heap.size w
  refine enter6 76 Try.func111 rfl Try.ntmps111 rfl (fun fr => ?_)
  subst hP hQ
  have e1 : decide (does ms W (nf ms) = idl (does ms W (nf ms)).length) = decide (Still ms W) := by rw [length_does]; exact decide_eq_decide.2 (still_does ms W).symm
  have e2 : decide (does ks W (nf ks) = idl (does ks W (nf ks)).length) = decide (Still ks W) := by rw [length_does]; exact decide_eq_decide.2 (still_does ks W).symm
  have et : tryW implOk ms.length (goodB ms ks) W 0 = if goodB ms ks W then some W else none := rfl
  refine go ?_
  refine s_box (wn rfl) rfl rfl (agg_cells shv) (fun w1 hbx _ hp hg => ?_)
  have hb1 := below_of_grownBy hg
  have sw1 := hb1.size
  replace hv := hv.below hb1
  replace hv2 := hv2.below hb1
  replace hv3 := hv3.below hb1
  replace hv4 := hv4.below hb1
  replace hv5 := hv5.below hb1
  replace ho3 := ho3.below hb1
  replace hb := hb.trans (hb1.mono hb.size)
  clear hg hp hb1
  generalize (⟨w.heap.size, 0, none⟩ : Addr) = p at *
  refine go ?_
  refine s_box (wn rfl) rfl rfl (agg_cells shv2) (fun w2 hbx2 _ hp hg => ?_)
  have hb2 := below_of_grownBy hg
  have sw2 := hb2.size
  replace hv := hv.below hb2
  replace hv2 := hv2.below hb2
  replace hv3 := hv3.below hb2
  replace hv4 := hv4.below hb2
  replace hv5 := hv5.below hb2
  replace ho3 := ho3.below hb2
  replace hbx := cell_below hbx hb2
  replace hb := hb.trans (hb2.mono hb.size)
  clear hg hp hb2
  generalize (⟨w1.heap.size, 0, none⟩ : Addr) = p2 at *
  refine go ?_
  refine s_call1 (wn rfl) rfl rfl (isIdentity_any _ _ _ hv4) ?_
  rintro _ _ ⟨rfl, rfl⟩
  rw [e1]
  refine splitb (decide (Still ms W)) (fun h1 => ?_) (fun h1 => ?_)
  rotate_left
  · have h1n : decide (Still ms W) = !true := h1
    have eg : goodB ms ks W = false := by unfold goodB; rw [h1]; rfl
    rw [et, eg]
    refine go ?_
    exact end_one Try.results111 rfl ⟨rfl, hb⟩
  refine go ?_
  refine s_call1 (wy rfl rfl rfl rfl rfl known) rfl rfl (isIdentity_any _ _ _ hv5) ?_
  rintro _ _ ⟨rfl, rfl⟩
  rw [e2]
  refine splitb (decide (Still ks W)) (fun h2 => ?_) (fun h2 => ?_)
  · have h2' : (!decide (Still ks W)) = false := by rw [h2]; rfl
    have eg : goodB ms ks W = false := by unfold goodB; rw [h1, h2]; rfl
    rw [et, eg]
    refine go ?_
    exact end_one Try.results111 rfl ⟨rfl, hb⟩
  have h2' : (!decide (Still ks W)) = true := by rw [h2]; rfl
  have eg : goodB ms ks W = true := by unfold goodB; rw [h1, h2]; rfl
  rw [et, eg]
  have hne : W ≠ [] := fun e => by rw [e, good_nil] at eg; simp at eg
  refine go ?_
  exact end_one Try.results111 rfl ⟨⟨ho3, hne⟩, hb⟩

set_option maxHeartbeats 8000000 in
set_option maxRecDepth 100000 in
theorem nothingOf_succ (v : Value) (v2 : Value) (v3 : Value) (v4 : Value) (v5 : Value) (ms : List (List Int)) (ks : List (List Int)) (W : List Int) (P : List Int) (Q : List Int) (m : Int) (k : Nat) (w : World) (hv : RL w v ms) (hv2 : RL w v2 ks) (hv3 : IL w v3 W) (hv4 : IL w v4 P) (hv5 : IL w v5 Q) (hm : IsMan ms) (hk : IsMan ks) (hl : ms.length = ks.length) (hw : IsWord ms W) (hlen : W.length + (k + 1) ≤ 12) (hP : P = does ms W (nf ms)) (hQ : Q = does ks W (nf ks)) (B : Nat) (ho3 : OI w B 2 v3 W) (hB : B ≤ w.heap.size) (em : m = (k : Int) + 1) (ih : ∀ (v v2 v3 v4 v5 : Value) (W P Q : List Int) (B : Nat) (m : Int) (w : World), RL w v ms → RL w v2 ks → OI w B 2 v3 W → IL w v4 P → IL w v5 Q → IsWord ms W → W.length + k ≤ 12 → P = does ms W (nf ms) → Q = does ks W (nf ks) → B ≤ w.heap.size → m = k →
      Ret Try.prog 111 #[.agg #[v], .agg #[v2], v3, v4, v5, .int .i64 m] w fun r w' => MapR w' B 2 r (tryW implOk ms.length (goodB ms ks) W k) ∧ Below w.heap.size w w') :
    Ret Try.prog 111 #[.agg #[v], .agg #[v2], v3, v4, v5, .int .i64 m] w fun r w' => MapR w' B 2 r (tryW implOk ms.length (goodB ms ks) W (k + 1)) ∧ Below w.heap.size w w' := by
  have shv := hv.sv
  have shv2 := hv2.sv
  have shv3 := hv3.sv
  have shv4 := hv4.sv
  have shv5 := hv5.sv
  have hb := Below.refl w.heap.size w
  refine enter6 76 Try.func111 rfl Try.ntmps111 rfl (fun fr => ?_)
  subst hP hQ
  have hm0 : ¬ m = 0 := by omega
  have r1 := hm.m0.r1
  have r5 := hm.m0.r5
  have f4 := hm.m0.f400
  have g4 := hk.m0.f400
  have et : tryW implOk ms.length (goodB ms ks) W (k + 1) = (List.range ms.length).findSome? fun i : Nat => if okLast implOk W i then tryW implOk ms.length (goodB ms ks) (W ++ [(i : Int)]) k else none := rfl
  have lP := length_does ms W (nf ms)
  have lQ := length_does ks W (nf ks)
  have hwk : IsWord ks W := ⟨hw.1, fun x hx => by rw [← hl]; exact hw.2 x hx⟩
  have hsP := does_syst hm hw
  have hsQ := does_syst hk hwk
  refine go ?_
  refine s_box (wn rfl) rfl rfl (agg_cells shv) (fun w1 hbx _ hp hg => ?_)
  have hb1 := below_of_grownBy hg
  have sw1 := hb1.size
  replace hv := hv.below hb1
  replace hv2 := hv2.below hb1
  replace hv3 := hv3.below hb1
  replace hv4 := hv4.below hb1
  replace hv5 := hv5.below hb1
  replace ho3 := ho3.below hb1
  replace hb := hb.trans (hb1.mono hb.size)
  clear hg hp hb1
  generalize (⟨w.heap.size, 0, none⟩ : Addr) = p at *
  refine go ?_
  refine s_box (wn rfl) rfl rfl (agg_cells shv2) (fun w2 hbx2 _ hp hg => ?_)
  have hb2 := below_of_grownBy hg
  have sw2 := hb2.size
  replace hv := hv.below hb2
  replace hv2 := hv2.below hb2
  replace hv3 := hv3.below hb2
  replace hv4 := hv4.below hb2
  replace hv5 := hv5.below hb2
  replace ho3 := ho3.below hb2
  replace hbx := cell_below hbx hb2
  replace hb := hb.trans (hb2.mono hb.size)
  clear hg hp hb2
  generalize (⟨w1.heap.size, 0, none⟩ : Addr) = p2 at *
  refine go ?_
  refine s_call1 (wn rfl) rfl rfl (rank_any _ _ _ _ hbx shv) ?_
  rintro _ _ ⟨rfl, rfl⟩
  refine go ?_
  have sbs1 := hb.size
  have hv_b1 := hv
  have hv2_b1 := hv2
  have hv3_b1 := hv3
  have hv4_b1 := hv4
  have hv5_b1 := hv5
  have ho3_b1 := ho3
  have hbx_b1 := hbx
  have hbx2_b1 := hbx2
  have hbB1 := Below.refl w2.heap.size w2
  refine w_loop (fun kk fr w' => ∃ (i : Nat), kk = ms.length - i ∧ i ≤ ms.length ∧ fr 2 = v3 ∧ fr 3 = v4 ∧ fr 4 = v5 ∧ fr 5 = .int .i64 m ∧ fr 6 = .pointer (some p) ∧ fr 7 = .pointer (some p2) ∧ fr 26 = .int .i64 ms.length ∧ fr 27 = .int .i64 i ∧ (∀ j : Nat, j < i → okLast implOk W j = true → tryW implOk ms.length (goodB ms ks) (W ++ [(j : Int)]) k = none) ∧ Below w2.heap.size w2 w') (ms.length)
    ⟨0, rfl, Nat.zero_le _, rfl, rfl, rfl, rfl, rfl, rfl, rfl, rfl, fun j hj => by omega, hbB1⟩ ?_
  rintro kk fr w3 ⟨i, rfl, hi, f2, f3, f4, f5, f6, f7, f26, f27, hno, hbB1⟩
  have sw3 := hbB1.size
  have hv := hv_b1.below hbB1
  have hv2 := hv2_b1.below hbB1
  have hv3 := hv3_b1.below hbB1
  have hv4 := hv4_b1.below hbB1
  have hv5 := hv5_b1.below hbB1
  have ho3 := ho3_b1.below hbB1
  have hbx := cell_below hbx_b1 hbB1
  have hbx2 := cell_below hbx2_b1 hbB1
  refine know (t := 2) f2 ?_; refine know (t := 3) f3 ?_; refine know (t := 4) f4 ?_; refine know (t := 5) f5 ?_; refine know (t := 6) f6 ?_; refine know (t := 7) f7 ?_; refine know (t := 26) f26 ?_; refine know (t := 27) f27 ?_
  refine go ?_
  refine cond_dec rfl (fun hlt => ?_) (fun hge => ?_)
  · refine go ?_
    refine meet (fun fr w' => fr 2 = v3 ∧ fr 3 = v4 ∧ fr 4 = v5 ∧ fr 5 = .int .i64 m ∧ fr 6 = .pointer (some p) ∧ fr 7 = .pointer (some p2) ∧ fr 13 = .int .i64 i ∧ fr 26 = .int .i64 ms.length ∧ fr 27 = .int .i64 i ∧ okLast implOk W i = true ∧ w' = w3) ?_ ?_
    · by_cases hW0 : W.length = 0
      · have hW1 : ¬ (0 : Int) < W.length := by omega
        have hok : okLast implOk W i = true := by
          have : W = [] := List.length_eq_zero_iff.1 hW0
          subst this; rfl
        refine go ?_
        exact ⟨rfl, rfl, rfl, rfl, rfl, rfl, rfl, rfl, rfl, hok, rfl⟩
      have hW1 : (0 : Int) < W.length := by omega
      have hla := getLast_gi hW0
      have hlar := hw.2 _ (gi_mem (xs := W) (j := (W.length : Int) - 1) (by omega) (by omega))
      have hek : okLast implOk W i = implOk (gi W ((W.length : Int) - 1)) i := by unfold okLast; rw [hla]
      by_cases hs1 : (i : Int) = gi W ((W.length : Int) - 1)
      · have hok : okLast implOk W i = false := by rw [hek]; unfold implOk; rw [decide_eq_true hs1]; rfl
        refine go ?_
        refine ⟨ms.length - (i + 1), by omega, i + 1, rfl, by omega, rfl, rfl, rfl, rfl, rfl, rfl, rfl, rfl, fun j hj hjo => by by_cases hji : j = i; (subst hji; rw [hok] at hjo; simp at hjo); exact hno j (by omega) hjo, hbB1⟩
      by_cases hs2 : (i : Int) < gi W ((W.length : Int) - 1) - 1
      · have hok : okLast implOk W i = false := by rw [hek]; unfold implOk; rw [decide_eq_true hs2]; simp
        refine go ?_
        refine ⟨ms.length - (i + 1), by omega, i + 1, rfl, by omega, rfl, rfl, rfl, rfl, rfl, rfl, rfl, rfl, fun j hj hjo => by by_cases hji : j = i; (subst hji; rw [hok] at hjo; simp at hjo); exact hno j (by omega) hjo, hbB1⟩
      have hok : okLast implOk W i = true := by rw [hek]; unfold implOk; rw [decide_eq_false hs1, decide_eq_false hs2]; rfl
      refine go ?_
      exact ⟨rfl, rfl, rfl, rfl, rfl, rfl, rfl, rfl, rfl, hok, rfl⟩
    rintro fr _ ⟨f2, f3, f4', f5, f6, f7, f13, f26, f27, hok, rfl⟩
    refine know (t := 2) f2 ?_; refine know (t := 3) f3 ?_; refine know (t := 4) f4' ?_; refine know (t := 5) f5 ?_; refine know (t := 6) f6 ?_; refine know (t := 7) f7 ?_; refine know (t := 13) f13 ?_; refine know (t := 26) f26 ?_; refine know (t := 27) f27 ?_
    have hrm := hm.syst.row (j := (i : Int)) (by omega) (by omega)
    have hrk := hk.syst.row (j := (i : Int)) (by omega) (by omega)
    obtain ⟨u, hu, hcu⟩ := hv.row (j := (i : Int)) (by omega) (by omega)
    obtain ⟨u2, hu2, hcu2⟩ := hv2.row (j := (i : Int)) (by omega) (by omega)
    have hwi := isWord_snoc (i := i) hw (by omega) (by omega)
    refine go ?_
    refine region_h mixed (fun wr cr => ?_)
    have zr := cr.size
    refine h_p 0 cr ?_
    refine h_p 1 cr ?_
    refine h_p 2 cr ?_
    refine h_p 7 cr ?_
    refine h_p 8 cr ?_
    refine h_p 9 cr ?_
    refine h_p 10 cr ?_
    refine h_p 11 cr ?_
    refine h_p 12 cr ?_
    refine h_p 14 cr ?_
    refine h_p 15 cr ?_
    refine h_p 16 cr ?_
    refine h_p 17 cr ?_
    refine h_p 18 cr ?_
    refine h_p 19 cr ?_
    refine h_p 21 cr ?_
    refine h_p 22 cr ?_
    refine h_p 4 cr ?_
    have c2 := Below.refl wr.heap.size wr
    have hv3r := hv3.below cr
    have cr0 := cr
    refine h_pair 3 5 51 53 (fun cb tb w9 => OI w9 wr.heap.size 2 cb W ∧ OI w9 wr.heap.size 2 tb [(i : Int)] ∧ Below wr.heap.size wr w9) ?_ ?_ ?_
    · refine s_call1 (wn rfl) rfl rfl (CloneI_any _ _ _ (hv3r.below c2) (by have := hw.1; omega)) ?_
      rintro cb wc ⟨hcl, hbc⟩
      replace hcl := hcl.mono (B' := wr.heap.size) c2.size
      replace cr := cr.trans (hbc.mono cr.size)
      have c2s := c2.size
      replace c2 := c2.trans (hbc.mono c2s)
      refine w_nil ?_
      refine h_on ⟨cr, _, rfl, ?_⟩
      refine s_build1 (B := wr.heap.size) (wn rfl) rfl rfl c2.size (fun tb wt ht st hgt _ => ?_)
      have hbt := below_of_grownBy hgt
      replace cr := cr.trans (hbt.mono cr.size)
      have c2t := c2.size
      replace c2 := c2.trans (hbt.mono c2t)
      replace hcl := hcl.below hbt
      refine w_nil ?_
      refine h_on ⟨cr, _, rfl, hcl, ht, c2⟩
    · refine s_build1 (B := wr.heap.size) (wn rfl) rfl rfl c2.size (fun tb wt ht st hgt _ => ?_)
      have hbt := below_of_grownBy hgt
      replace cr := cr.trans (hbt.mono cr.size)
      have c2t := c2.size
      replace c2 := c2.trans (hbt.mono c2t)
      refine w_nil ?_
      refine h_on ⟨cr, _, rfl, ?_⟩
      refine s_call1 (wn rfl) rfl rfl (CloneI_any _ _ _ (hv3r.below c2) (by have := hw.1; omega)) ?_
      rintro cb wc ⟨hcl, hbc⟩
      replace hcl := hcl.mono (B' := wr.heap.size) c2.size
      replace cr := cr.trans (hbc.mono cr.size)
      have c2s := c2.size
      replace c2 := c2.trans (hbc.mono c2s)
      replace ht := ht.below hbc
      refine w_nil ?_
      refine h_on ⟨cr, _, rfl, hcl, ht, c2⟩
    clear c2 cr
    rintro cb tb w9 cr ⟨hcl, ht, c2⟩
    refine h_one 6 ?_
    refine s_appendI (wn rfl) rfl rfl rfl hcl ht.il (by simp; omega) c2.size (fun nb wa ho so hga _ => ?_)
    have c2a := c2.size
    replace cr := cr.trans ((hcl.below_of hga c2a).mono zr)
    replace c2 := c2.trans (hcl.below_of hga c2a)
    refine w_nil ?_
    refine h_on ⟨cr, ?_⟩
    refine h_one 13 ?_
    refine s_call2 (wn rfl) rfl rfl rfl (then_any _ _ _ _ _ ((hv4.below cr0).below c2) ((hu.below cr0).below c2) (fun x hx => by rw [hrm.1]; exact hsP.2 x hx) (by omega)) ?_
    rintro pb wp ⟨hp, hbp⟩
    replace cr := cr.trans (hbp.mono cr.size)
    replace ho := ho.below hbp
    have c2p := c2.size
    replace c2 := c2.trans (hbp.mono c2p)
    refine w_nil ?_
    refine h_on ⟨cr, ?_⟩
    refine h_one 20 ?_
    refine s_call2 (wn rfl) rfl rfl rfl (then_any _ _ _ _ _ ((hv5.below cr0).below c2) ((hu2.below cr0).below c2) (fun x hx => by rw [hrk.1]; exact hsQ.2 x hx) (by omega)) ?_
    rintro qb wq ⟨hq, hbq⟩
    replace cr := cr.trans (hbq.mono cr.size)
    replace ho := ho.below hbq
    replace hp := hp.below hbq
    have c2q := c2.size
    replace c2 := c2.trans (hbq.mono c2q)
    refine w_nil ?_
    refine h_on ⟨cr, ?_⟩
    refine h_one 23 ?_
    refine s_call6 (wn rfl) rfl rfl rfl rfl rfl rfl rfl (ih _ _ _ _ _ (W ++ [(i : Int)]) _ _ B _ _ ((hv.below cr0).below c2) ((hv2.below cr0).below c2) (ho.mono (by omega)) hp.il hq.il hwi (by simp; omega) (does_snoc _ _ _ _).symm (does_snoc _ _ _ _).symm (by have := c2.size; omega) (by omega)) ?_
    rintro r wz ⟨hr, hbz⟩
    replace cr := cr.trans (hbz.mono cr.size)
    refine w_nil ?_
    refine h_on ⟨cr, ?_⟩
    refine h_p 24 cr ?_
    refine h_nil ?_
    have sw4 := cr.size
    replace hv := hv.below cr
    replace hv2 := hv2.below cr
    replace hv3 := hv3.below cr
    replace hv4 := hv4.below cr
    replace hv5 := hv5.below cr
    replace ho3 := ho3.below cr
    replace hbx := cell_below hbx cr
    replace hbx2 := cell_below hbx2 cr
    replace hbB1 := hbB1.trans (cr.mono hbB1.size)
    have hnil := hr.nilV
    have sr := hr.oi.sv
    cases hq3 : tryW implOk ms.length (goodB ms ks) (W ++ [(i : Int)]) k with
    | none =>
      rw [hq3] at hnil
      have hnil : nilV r = true := hnil
      have hnil2 : (!nilV r) = false := by rw [hnil]; rfl
      refine go ?_
      refine ⟨ms.length - (i + 1), by omega, i + 1, rfl, by omega, rfl, rfl, rfl, rfl, rfl, rfl, rfl, rfl, fun j hj hjo => by by_cases hji : j = i; (subst hji; exact hq3); exact hno j (by omega) hjo, hbB1⟩
    | some y =>
      rw [hq3] at hnil
      have hnil : nilV r = false := hnil
      have hnil2 : (!nilV r) = true := by rw [hnil]; rfl
      have ey : tryW implOk ms.length (goodB ms ks) W (k + 1) = some y := by
        rw [et]
        refine findSome_hit (i := i) (by omega) (fun j hj => ?_) (by rw [if_pos hok]; exact hq3)
        by_cases hjo : okLast implOk W j = true
        · rw [if_pos hjo]; exact hno j hj hjo
        · rw [if_neg hjo]
      rw [ey]
      rw [hq3] at hr
      refine go ?_
      exact end_one Try.results111 rfl ⟨hr, (hb.trans (hbB1.mono hb.size))⟩
  obtain rfl : i = ms.length := by omega
  have ey : tryW implOk ms.length (goodB ms ks) W (k + 1) = none := by
    rw [et]
    refine findSome_none fun j hj => ?_
    by_cases hjo : okLast implOk W j = true
    · rw [if_pos hjo]; exact hno j hj hjo
    · rw [if_neg hjo]
  rw [ey]
  refine go ?_
  exact end_one Try.results111 rfl ⟨rfl, (hb.trans (hbB1.mono hb.size))⟩

theorem nothingOf_any {ms ks : List (List Int)} (hm : IsMan ms) (hk : IsMan ks) (hl : ms.length = ks.length) : ∀ (k : Nat) (v v2 v3 v4 v5 : Value) (W P Q : List Int) (B : Nat) (m : Int) (w : World), RL w v ms → RL w v2 ks → OI w B 2 v3 W → IL w v4 P → IL w v5 Q → IsWord ms W → W.length + k ≤ 12 → P = does ms W (nf ms) → Q = does ks W (nf ks) → B ≤ w.heap.size → m = k →
      Ret Try.prog 111 #[.agg #[v], .agg #[v2], v3, v4, v5, .int .i64 m] w fun r w' => MapR w' B 2 r (tryW implOk ms.length (goodB ms ks) W k) ∧ Below w.heap.size w w'
  | 0, _, _, _, _, _, _, _, _, B, _, _, h1, h2, h3, h4, h5, hw, hlen, hP, hQ, hB, em => nothingOf_zero _ _ _ _ _ _ _ _ _ _ _ 0 _ h1 h2 h3.il h4 h5 hm hk hl hw hlen hP hQ B h3 hB em
  | k + 1, _, _, _, _, _, _, _, _, B, _, _, h1, h2, h3, h4, h5, hw, hlen, hP, hQ, hB, em => nothingOf_succ _ _ _ _ _ _ _ _ _ _ _ k _ h1 h2 h3.il h4 h5 hm hk hl hw hlen hP hQ B h3 hB (by rw [em]; rfl) (nothingOf_any hm hk hl k)

set_option maxHeartbeats 8000000 in
set_option maxRecDepth 100000 in
theorem l08Try_zero (v : Value) (v2 : Value) (v3 : Value) (ms : List (List Int)) (ks : List (List Int)) (W : List Int) (m : Int) (w : World) (hv : RL w v ms) (hv2 : RL w v2 ks) (hv3 : IL w v3 W) (hm : IsMan ms) (hk : IsMan ks) (hl : ms.length = ks.length) (hw : IsWord ms W) (hlen : W.length + 0 ≤ 12) (B : Nat) (ho3 : OI w B 2 v3 W) (hB : B ≤ w.heap.size) (em : m = W.length) :
    Ret Try.prog 114 #[.agg #[v], .agg #[v2], v3, .int .i64 m] w fun r w' => OI w' B 2 r ((tryW specOk ms.length (goodB ms ks) W 0).getD []) ∧ Below w.heap.size w w' := by
  have shv := hv.sv
  have shv2 := hv2.sv
  have shv3 := hv3.sv
  have hb := Below.refl w.heap.size w
  refine enter4 60 Try.func114 rfl Try.ntmps114 rfl (fun fr => ?_)
  have hwk : IsWord ks W := ⟨hw.1, fun x hx => by rw [← hl]; exact hw.2 x hx⟩
  have et : tryW specOk ms.length (goodB ms ks) W 0 = if goodB ms ks W then some W else none := rfl
  have em2 : ((W.length : Nat) : Int) = m := em.symm
  refine go ?_
  refine s_box (wn rfl) rfl rfl (agg_cells shv) (fun w1 hbx _ hp hg => ?_)
  have hb1 := below_of_grownBy hg
  have sw1 := hb1.size
  replace hv := hv.below hb1
  replace hv2 := hv2.below hb1
  replace hv3 := hv3.below hb1
  replace ho3 := ho3.below hb1
  replace hb := hb.trans (hb1.mono hb.size)
  clear hg hp hb1
  generalize (⟨w.heap.size, 0, none⟩ : Addr) = p at *
  refine go ?_
  refine s_box (wn rfl) rfl rfl (agg_cells shv2) (fun w2 hbx2 _ hp hg => ?_)
  have hb2 := below_of_grownBy hg
  have sw2 := hb2.size
  replace hv := hv.below hb2
  replace hv2 := hv2.below hb2
  replace hv3 := hv3.below hb2
  replace ho3 := ho3.below hb2
  replace hbx := cell_below hbx hb2
  replace hb := hb.trans (hb2.mono hb.size)
  clear hg hp hb2
  generalize (⟨w1.heap.size, 0, none⟩ : Addr) = p2 at *
  have szb := hb.size
  refine go ?_
  refine s_call2 (wn rfl) rfl rfl rfl (l08Nothing_any _ _ _ _ _ hv hv3 hm hw) ?_
  rintro _ w3 ⟨rfl, hb3⟩
  have sw3 := hb3.size
  replace hv := hv.below hb3
  replace hv2 := hv2.below hb3
  replace hv3 := hv3.below hb3
  replace ho3 := ho3.below hb3
  replace hbx := cell_below hbx hb3
  replace hbx2 := cell_below hbx2 hb3
  replace hb := hb.trans (hb3.mono hb.size)
  refine splitb (decide (Still ms W)) (fun h1 => ?_) (fun h1 => ?_)
  rotate_left
  · have h1n : decide (Still ms W) = !true := h1
    have eg : goodB ms ks W = false := by unfold goodB; rw [h1]; rfl
    rw [et, eg]
    refine go ?_
    have szq4 := hb.size
    refine s_build0 (B := B) (wn rfl) rfl (by omega) (fun ob w4 ho so hg4 _ => ?_)
    have hb4 := below_of_grownBy hg4
    have sw4 := hb4.size
    replace hv := hv.below hb4
    replace hv2 := hv2.below hb4
    replace hv3 := hv3.below hb4
    replace ho3 := ho3.below hb4
    replace hbx := cell_below hbx hb4
    replace hbx2 := cell_below hbx2 hb4
    replace hb := hb.trans (hb4.mono hb.size)
    refine go ?_
    exact end_one Try.results114 rfl ⟨ho, hb⟩
  refine go ?_
  refine s_call2 (wy rfl rfl rfl rfl rfl known) rfl rfl rfl (l08Nothing_any _ _ _ _ _ hv2 hv3 hk hwk) ?_
  rintro _ w5 ⟨rfl, hb5⟩
  have sw5 := hb5.size
  replace hv := hv.below hb5
  replace hv2 := hv2.below hb5
  replace hv3 := hv3.below hb5
  replace ho3 := ho3.below hb5
  replace hbx := cell_below hbx hb5
  replace hbx2 := cell_below hbx2 hb5
  replace hb := hb.trans (hb5.mono hb.size)
  refine splitb (decide (Still ks W)) (fun h2 => ?_) (fun h2 => ?_)
  · have h2' : (!decide (Still ks W)) = false := by rw [h2]; rfl
    have eg : goodB ms ks W = false := by unfold goodB; rw [h1, h2]; rfl
    rw [et, eg]
    refine go ?_
    have szq6 := hb.size
    refine s_build0 (B := B) (wn rfl) rfl (by omega) (fun ob w6 ho so hg6 _ => ?_)
    have hb6 := below_of_grownBy hg6
    have sw6 := hb6.size
    replace hv := hv.below hb6
    replace hv2 := hv2.below hb6
    replace hv3 := hv3.below hb6
    replace ho3 := ho3.below hb6
    replace hbx := cell_below hbx hb6
    replace hbx2 := cell_below hbx2 hb6
    replace hb := hb.trans (hb6.mono hb.size)
    refine go ?_
    exact end_one Try.results114 rfl ⟨ho, hb⟩
  have h2' : (!decide (Still ks W)) = true := by rw [h2]; rfl
  have eg : goodB ms ks W = true := by unfold goodB; rw [h1, h2]; rfl
  rw [et, eg]
  refine go ?_
  exact end_one Try.results114 rfl ⟨ho3, hb⟩

set_option maxHeartbeats 8000000 in
set_option maxRecDepth 100000 in
theorem l08Try_succ (v : Value) (v2 : Value) (v3 : Value) (ms : List (List Int)) (ks : List (List Int)) (W : List Int) (m : Int) (k : Nat) (w : World) (hv : RL w v ms) (hv2 : RL w v2 ks) (hv3 : IL w v3 W) (hm : IsMan ms) (hk : IsMan ks) (hl : ms.length = ks.length) (hw : IsWord ms W) (hlen : W.length + (k + 1) ≤ 12) (B : Nat) (ho3 : OI w B 2 v3 W) (hB : B ≤ w.heap.size) (em : m = (W.length : Int) + (k + 1)) (ih : ∀ (v v2 v3 : Value) (W : List Int) (B : Nat) (w : World), RL w v ms → RL w v2 ks → OI w B 2 v3 W → IsWord ms W → W.length + k ≤ 12 → m = (W.length : Int) + k → B ≤ w.heap.size →
      Ret Try.prog 114 #[.agg #[v], .agg #[v2], v3, .int .i64 m] w fun r w' => OI w' B 2 r ((tryW specOk ms.length (goodB ms ks) W k).getD []) ∧ Below w.heap.size w w') :
    Ret Try.prog 114 #[.agg #[v], .agg #[v2], v3, .int .i64 m] w fun r w' => OI w' B 2 r ((tryW specOk ms.length (goodB ms ks) W (k + 1)).getD []) ∧ Below w.heap.size w w' := by
  have shv := hv.sv
  have shv2 := hv2.sv
  have shv3 := hv3.sv
  have hb := Below.refl w.heap.size w
  refine enter4 60 Try.func114 rfl Try.ntmps114 rfl (fun fr => ?_)
  have hm0 : ¬ ((W.length : Int) = m) := by omega
  have r5 := hm.m0.r5
  have et : tryW specOk ms.length (goodB ms ks) W (k + 1) = (List.range ms.length).findSome? fun i : Nat => if okLast specOk W i then tryW specOk ms.length (goodB ms ks) (W ++ [(i : Int)]) k else none := rfl
  refine go ?_
  refine s_box (wn rfl) rfl rfl (agg_cells shv) (fun w1 hbx _ hp hg => ?_)
  have hb1 := below_of_grownBy hg
  have sw1 := hb1.size
  replace hv := hv.below hb1
  replace hv2 := hv2.below hb1
  replace hv3 := hv3.below hb1
  replace ho3 := ho3.below hb1
  replace hb := hb.trans (hb1.mono hb.size)
  clear hg hp hb1
  generalize (⟨w.heap.size, 0, none⟩ : Addr) = p at *
  refine go ?_
  refine s_box (wn rfl) rfl rfl (agg_cells shv2) (fun w2 hbx2 _ hp hg => ?_)
  have hb2 := below_of_grownBy hg
  have sw2 := hb2.size
  replace hv := hv.below hb2
  replace hv2 := hv2.below hb2
  replace hv3 := hv3.below hb2
  replace ho3 := ho3.below hb2
  replace hbx := cell_below hbx hb2
  replace hb := hb.trans (hb2.mono hb.size)
  clear hg hp hb2
  generalize (⟨w1.heap.size, 0, none⟩ : Addr) = p2 at *
  refine go ?_
  have sbs1 := hb.size
  have hv_b1 := hv
  have hv2_b1 := hv2
  have hv3_b1 := hv3
  have ho3_b1 := ho3
  have hbx_b1 := hbx
  have hbx2_b1 := hbx2
  have hbB1 := Below.refl w2.heap.size w2
  refine w_loop (fun kk fr w' => ∃ (i : Nat), kk = ms.length - i ∧ i ≤ ms.length ∧ fr 2 = v3 ∧ fr 3 = .int .i64 m ∧ fr 4 = .pointer (some p) ∧ fr 5 = .pointer (some p2) ∧ fr 9 = .int .i64 i ∧ (∀ j : Nat, j < i → okLast specOk W j = true → tryW specOk ms.length (goodB ms ks) (W ++ [(j : Int)]) k = none) ∧ Below w2.heap.size w2 w') (ms.length)
    ⟨0, rfl, Nat.zero_le _, rfl, rfl, rfl, rfl, rfl, fun j hj => by omega, hbB1⟩ ?_
  rintro kk fr w3 ⟨i, rfl, hi, f2, f3, f4, f5, f9, hno, hbB1⟩
  have sw3 := hbB1.size
  have hv := hv_b1.below hbB1
  have hv2 := hv2_b1.below hbB1
  have hv3 := hv3_b1.below hbB1
  have ho3 := ho3_b1.below hbB1
  have hbx := cell_below hbx_b1 hbB1
  have hbx2 := cell_below hbx2_b1 hbB1
  refine know (t := 2) f2 ?_; refine know (t := 3) f3 ?_; refine know (t := 4) f4 ?_; refine know (t := 5) f5 ?_; refine know (t := 9) f9 ?_
  refine go ?_
  refine cond_dec rfl (fun hlt => ?_) (fun hge => ?_)
  · by_cases hW0 : W.length = 0
    · have hW1 : ¬ (0 : Int) < W.length := by omega
      have hok : okLast specOk W i = true := by
        have : W = [] := List.length_eq_zero_iff.1 hW0
        subst this; rfl
      have hwi := isWord_snoc (i := i) hw (by omega) (by omega)
      have hszx := ho3.own
      refine go ?_
      refine region_h mixed (fun wr cr => ?_)
      have zr := cr.size
      refine h_p 0 cr ?_
      refine h_p 1 cr ?_
      refine h_p 2 cr ?_
      refine h_p 7 cr ?_
      refine h_p 4 cr ?_
      have c2 := Below.refl wr.heap.size wr
      have hv3r := hv3.below cr
      have cr0 := cr
      refine h_pair 3 5 49 51 (fun cb tb w9 => OI w9 wr.heap.size 2 cb W ∧ OI w9 wr.heap.size 2 tb [(i : Int)] ∧ Below wr.heap.size wr w9) ?_ ?_ ?_
      · refine s_call1 (wn rfl) rfl rfl (l01Own_any _ _ _ (hv3r.below c2) (by have := hw.1; omega)) ?_
        rintro cb wc ⟨hcl, hbc⟩
        replace hcl := hcl.mono (B' := wr.heap.size) c2.size
        replace cr := cr.trans (hbc.mono cr.size)
        have c2s := c2.size
        replace c2 := c2.trans (hbc.mono c2s)
        refine w_nil ?_
        refine h_on ⟨cr, _, rfl, ?_⟩
        refine s_build1 (B := wr.heap.size) (wn rfl) rfl rfl c2.size (fun tb wt ht st hgt _ => ?_)
        have hbt := below_of_grownBy hgt
        replace cr := cr.trans (hbt.mono cr.size)
        have c2t := c2.size
        replace c2 := c2.trans (hbt.mono c2t)
        replace hcl := hcl.below hbt
        refine w_nil ?_
        refine h_on ⟨cr, _, rfl, hcl, ht, c2⟩
      · refine s_build1 (B := wr.heap.size) (wn rfl) rfl rfl c2.size (fun tb wt ht st hgt _ => ?_)
        have hbt := below_of_grownBy hgt
        replace cr := cr.trans (hbt.mono cr.size)
        have c2t := c2.size
        replace c2 := c2.trans (hbt.mono c2t)
        refine w_nil ?_
        refine h_on ⟨cr, _, rfl, ?_⟩
        refine s_call1 (wn rfl) rfl rfl (l01Own_any _ _ _ (hv3r.below c2) (by have := hw.1; omega)) ?_
        rintro cb wc ⟨hcl, hbc⟩
        replace hcl := hcl.mono (B' := wr.heap.size) c2.size
        replace cr := cr.trans (hbc.mono cr.size)
        have c2s := c2.size
        replace c2 := c2.trans (hbc.mono c2s)
        replace ht := ht.below hbc
        refine w_nil ?_
        refine h_on ⟨cr, _, rfl, hcl, ht, c2⟩
      clear c2 cr
      rintro cb tb w9 cr ⟨hcl, ht, c2⟩
      refine h_one 6 ?_
      refine s_appendI (wn rfl) rfl rfl rfl hcl ht.il (by simp; omega) c2.size (fun nb wa ho so hga _ => ?_)
      have c2a := c2.size
      replace cr := cr.trans ((hcl.below_of hga c2a).mono zr)
      replace c2 := c2.trans (hcl.below_of hga c2a)
      refine w_nil ?_
      refine h_on ⟨cr, ?_⟩
      refine h_one 8 ?_
      refine s_call4 (wn rfl) rfl rfl rfl rfl rfl (ih _ _ _ (W ++ [(i : Int)]) B _ ((hv.below cr0).below c2) ((hv2.below cr0).below c2) (ho.mono (by omega)) hwi (by simp; omega) (by simp; omega) (by have := c2.size; omega)) ?_
      rintro r wz ⟨hr, hbz⟩
      replace cr := cr.trans (hbz.mono cr.size)
      refine w_nil ?_
      refine h_on ⟨cr, ?_⟩
      refine h_p 9 cr ?_
      refine h_nil ?_
      have sw4 := cr.size
      replace hv := hv.below cr
      replace hv2 := hv2.below cr
      replace hv3 := hv3.below cr
      replace ho3 := ho3.below cr
      replace hbx := cell_below hbx cr
      replace hbx2 := cell_below hbx2 cr
      replace hbB1 := hbB1.trans (cr.mono hbB1.size)
      have sr := hr.sv
      cases hq3 : tryW specOk ms.length (goodB ms ks) (W ++ [(i : Int)]) k with
      | none =>
        rw [hq3] at sr
        have hn0 : ¬ ((0 : Int) < (((none : Option (List Int)).getD []).length : Int)) := by simp
        refine go ?_
        refine ⟨ms.length - (i + 1), by omega, i + 1, rfl, by omega, rfl, rfl, rfl, rfl, rfl, fun j hj hjo => by by_cases hji : j = i; (subst hji; exact hq3); exact hno j (by omega) hjo, hbB1⟩
      | some y =>
        have hyp : 0 < y.length := by
          obtain ⟨z, e, h1, _, h2, _⟩ := try_some _ _ _ hq3
          rw [e]; simp; omega
        rw [hq3] at sr hr
        have hn0 : (0 : Int) < (((some y : Option (List Int)).getD []).length : Int) := by show (0 : Int) < (y.length : Int); omega
        have ey : tryW specOk ms.length (goodB ms ks) W (k + 1) = some y := by
          rw [et]
          refine findSome_hit (i := i) (by omega) (fun j hj => ?_) (by rw [if_pos hok]; exact hq3)
          by_cases hjo : okLast specOk W j = true
          · rw [if_pos hjo]; exact hno j hj hjo
          · rw [if_neg hjo]
        rw [ey]
        refine go ?_
        exact end_one Try.results114 rfl ⟨hr, (hb.trans (hbB1.mono hb.size))⟩
    have hW1 : (0 : Int) < W.length := by omega
    have hla := getLast_gi hW0
    have hlar := hw.2 _ (gi_mem (xs := W) (j := (W.length : Int) - 1) (by omega) (by omega))
    have hek : okLast specOk W i = specOk (gi W ((W.length : Int) - 1)) i := by unfold okLast; rw [hla]
    by_cases hs1 : gi W ((W.length : Int) - 1) = (i : Int)
    · have hok : okLast specOk W i = false := by rw [hek]; unfold specOk; rw [decide_eq_true hs1]; rfl
      refine go ?_
      refine ⟨ms.length - (i + 1), by omega, i + 1, rfl, by omega, rfl, rfl, rfl, rfl, rfl, fun j hj hjo => by by_cases hji : j = i; (subst hji; rw [hok] at hjo; simp at hjo); exact hno j (by omega) hjo, hbB1⟩
    have hok : okLast specOk W i = true := by rw [hek]; unfold specOk; rw [decide_eq_false hs1]; rfl
    have hwi := isWord_snoc (i := i) hw (by omega) (by omega)
    have hszx := ho3.own
    refine go ?_
    refine region_h mixed (fun wr cr => ?_)
    have zr := cr.size
    refine h_p 0 cr ?_
    refine h_p 1 cr ?_
    refine h_p 2 cr ?_
    refine h_p 7 cr ?_
    refine h_p 4 cr ?_
    have c2 := Below.refl wr.heap.size wr
    have hv3r := hv3.below cr
    have cr0 := cr
    refine h_pair 3 5 49 51 (fun cb tb w9 => OI w9 wr.heap.size 2 cb W ∧ OI w9 wr.heap.size 2 tb [(i : Int)] ∧ Below wr.heap.size wr w9) ?_ ?_ ?_
    · refine s_call1 (wn rfl) rfl rfl (l01Own_any _ _ _ (hv3r.below c2) (by have := hw.1; omega)) ?_
      rintro cb wc ⟨hcl, hbc⟩
      replace hcl := hcl.mono (B' := wr.heap.size) c2.size
      replace cr := cr.trans (hbc.mono cr.size)
      have c2s := c2.size
      replace c2 := c2.trans (hbc.mono c2s)
      refine w_nil ?_
      refine h_on ⟨cr, _, rfl, ?_⟩
      refine s_build1 (B := wr.heap.size) (wn rfl) rfl rfl c2.size (fun tb wt ht st hgt _ => ?_)
      have hbt := below_of_grownBy hgt
      replace cr := cr.trans (hbt.mono cr.size)
      have c2t := c2.size
      replace c2 := c2.trans (hbt.mono c2t)
      replace hcl := hcl.below hbt
      refine w_nil ?_
      refine h_on ⟨cr, _, rfl, hcl, ht, c2⟩
    · refine s_build1 (B := wr.heap.size) (wn rfl) rfl rfl c2.size (fun tb wt ht st hgt _ => ?_)
      have hbt := below_of_grownBy hgt
      replace cr := cr.trans (hbt.mono cr.size)
      have c2t := c2.size
      replace c2 := c2.trans (hbt.mono c2t)
      refine w_nil ?_
      refine h_on ⟨cr, _, rfl, ?_⟩
      refine s_call1 (wn rfl) rfl rfl (l01Own_any _ _ _ (hv3r.below c2) (by have := hw.1; omega)) ?_
      rintro cb wc ⟨hcl, hbc⟩
      replace hcl := hcl.mono (B' := wr.heap.size) c2.size
      replace cr := cr.trans (hbc.mono cr.size)
      have c2s := c2.size
      replace c2 := c2.trans (hbc.mono c2s)
      replace ht := ht.below hbc
      refine w_nil ?_
      refine h_on ⟨cr, _, rfl, hcl, ht, c2⟩
    clear c2 cr
    rintro cb tb w9 cr ⟨hcl, ht, c2⟩
    refine h_one 6 ?_
    refine s_appendI (wn rfl) rfl rfl rfl hcl ht.il (by simp; omega) c2.size (fun nb wa ho so hga _ => ?_)
    have c2a := c2.size
    replace cr := cr.trans ((hcl.below_of hga c2a).mono zr)
    replace c2 := c2.trans (hcl.below_of hga c2a)
    refine w_nil ?_
    refine h_on ⟨cr, ?_⟩
    refine h_one 8 ?_
    refine s_call4 (wn rfl) rfl rfl rfl rfl rfl (ih _ _ _ (W ++ [(i : Int)]) B _ ((hv.below cr0).below c2) ((hv2.below cr0).below c2) (ho.mono (by omega)) hwi (by simp; omega) (by simp; omega) (by have := c2.size; omega)) ?_
    rintro r wz ⟨hr, hbz⟩
    replace cr := cr.trans (hbz.mono cr.size)
    refine w_nil ?_
    refine h_on ⟨cr, ?_⟩
    refine h_p 9 cr ?_
    refine h_nil ?_
    have sw5 := cr.size
    replace hv := hv.below cr
    replace hv2 := hv2.below cr
    replace hv3 := hv3.below cr
    replace ho3 := ho3.below cr
    replace hbx := cell_below hbx cr
    replace hbx2 := cell_below hbx2 cr
    replace hbB1 := hbB1.trans (cr.mono hbB1.size)
    have sr := hr.sv
    cases hq3 : tryW specOk ms.length (goodB ms ks) (W ++ [(i : Int)]) k with
    | none =>
      rw [hq3] at sr
      have hn0 : ¬ ((0 : Int) < (((none : Option (List Int)).getD []).length : Int)) := by simp
      refine go ?_
      refine ⟨ms.length - (i + 1), by omega, i + 1, rfl, by omega, rfl, rfl, rfl, rfl, rfl, fun j hj hjo => by by_cases hji : j = i; (subst hji; exact hq3); exact hno j (by omega) hjo, hbB1⟩
    | some y =>
      have hyp : 0 < y.length := by
        obtain ⟨z, e, h1, _, h2, _⟩ := try_some _ _ _ hq3
        rw [e]; simp; omega
      rw [hq3] at sr hr
      have hn0 : (0 : Int) < (((some y : Option (List Int)).getD []).length : Int) := by show (0 : Int) < (y.length : Int); omega
      have ey : tryW specOk ms.length (goodB ms ks) W (k + 1) = some y := by
        rw [et]
        refine findSome_hit (i := i) (by omega) (fun j hj => ?_) (by rw [if_pos hok]; exact hq3)
        by_cases hjo : okLast specOk W j = true
        · rw [if_pos hjo]; exact hno j hj hjo
        · rw [if_neg hjo]
      rw [ey]
      refine go ?_
      exact end_one Try.results114 rfl ⟨hr, (hb.trans (hbB1.mono hb.size))⟩
  obtain rfl : i = ms.length := by omega
  have ey : tryW specOk ms.length (goodB ms ks) W (k + 1) = none := by
    rw [et]
    refine findSome_none fun j hj => ?_
    by_cases hjo : okLast specOk W j = true
    · rw [if_pos hjo]; exact hno j hj hjo
    · rw [if_neg hjo]
  rw [ey]
  replace hb := hb.trans (hbB1.mono hb.size)
  have hszb := hb.size
  refine go ?_
  refine s_build0 (B := B) (wn rfl) rfl (by omega) (fun ob w6 ho so hg6 _ => ?_)
  have hb6 := below_of_grownBy hg6
  replace hb := hb.trans (hb6.mono hb.size)
  refine go ?_
  exact end_one Try.results114 rfl ⟨ho, hb⟩

theorem l08Try_any {ms ks : List (List Int)} (hm : IsMan ms) (hk : IsMan ks) (hl : ms.length = ks.length) (m : Int) : ∀ (k : Nat) (v v2 v3 : Value) (W : List Int) (B : Nat) (w : World), RL w v ms → RL w v2 ks → OI w B 2 v3 W → IsWord ms W → W.length + k ≤ 12 → m = (W.length : Int) + k → B ≤ w.heap.size →
      Ret Try.prog 114 #[.agg #[v], .agg #[v2], v3, .int .i64 m] w fun r w' => OI w' B 2 r ((tryW specOk ms.length (goodB ms ks) W k).getD []) ∧ Below w.heap.size w w'
  | 0, _, _, _, _, B, _, h1, h2, h3, hw, hlen, em, hB => l08Try_zero _ _ _ _ _ _ _ _ h1 h2 h3.il hm hk hl hw hlen B h3 hB (by omega)
  | k + 1, _, _, _, _, B, _, h1, h2, h3, hw, hlen, em, hB => l08Try_succ _ _ _ _ _ _ _ k _ h1 h2 h3.il hm hk hl hw hlen B h3 hB (by omega) (l08Try_any hm hk hl m k)

set_option maxHeartbeats 8000000 in
set_option maxRecDepth 100000 in
theorem implFirstNothing_any (v : Value) (v2 : Value) (ms : List (List Int)) (ks : List (List Int)) (n : Int) (w : World) (hv : RL w v ms) (hv2 : RL w v2 ks) :
    Ret Try.prog 51 #[.agg #[v], .agg #[v2], .int .i64 n] w fun r w' => ∃ x, r = .tuple #[x, .int .i64 (fnC ms ks n)] ∧ OI w' w.heap.size 2 x (fnL ms ks n) ∧ Below w.heap.size w w' := by
  have shv := hv.sv
  have shv2 := hv2.sv
  have hb := Below.refl w.heap.size w
  refine enter3 44 Try.func51 rfl Try.ntmps51 rfl (fun fr => ?_)
  refine go ?_
  refine s_box (wn rfl) rfl rfl (agg_cells shv) (fun w1 hbx _ hp hg => ?_)
  have hb1 := below_of_grownBy hg
  have sw1 := hb1.size
  replace hv := hv.below hb1
  replace hv2 := hv2.below hb1
  replace hb := hb.trans (hb1.mono hb.size)
  clear hg hp hb1
  generalize (⟨w.heap.size, 0, none⟩ : Addr) = p at *
  refine go ?_
  refine s_box (wn rfl) rfl rfl (agg_cells shv2) (fun w2 hbx2 _ hp hg => ?_)
  have hb2 := below_of_grownBy hg
  have sw2 := hb2.size
  replace hv := hv.below hb2
  replace hv2 := hv2.below hb2
  replace hbx := cell_below hbx hb2
  replace hb := hb.trans (hb2.mono hb.size)
  clear hg hp hb2
  generalize (⟨w1.heap.size, 0, none⟩ : Addr) = p2 at *
  refine go ?_
  refine s_call1 (wn rfl) rfl rfl (isManiplex_any _ _ _ hv) ?_
  rintro _ w3 ⟨rfl, hb3⟩
  have sw3 := hb3.size
  replace hv := hv.below hb3
  replace hv2 := hv2.below hb3
  replace hbx := cell_below hbx hb3
  replace hbx2 := cell_below hbx2 hb3
  replace hb := hb.trans (hb3.mono hb.size)
  refine splitb (decide (IsMan ms)) (fun hm => ?_) (fun hm => ?_)
  rotate_left
  · have hm := of_decide_eq_false hm
    have e := fn_1 (ms := ms) (ks := ks) (n := n) (fun h => hm h.1)
    refine go ?_
    exact end_two Try.results51 rfl rfl ⟨.slice none 0 0, by rw [e.2], by rw [e.1]; exact OI.nil _ _ _, hb⟩
  have hm' := of_decide_eq_true hm
  refine go ?_
  refine s_call1 (wy rfl rfl rfl rfl rfl known) rfl rfl (isManiplex_any _ _ _ hv2) ?_
  rintro _ w4 ⟨rfl, hb4⟩
  have sw4 := hb4.size
  replace hv := hv.below hb4
  replace hv2 := hv2.below hb4
  replace hbx := cell_below hbx hb4
  replace hbx2 := cell_below hbx2 hb4
  replace hb := hb.trans (hb4.mono hb.size)
  refine splitb (decide (IsMan ks)) (fun hk => ?_) (fun hk => ?_)
  rotate_left
  · have hk := of_decide_eq_false hk
    have e := fn_1 (ms := ms) (ks := ks) (n := n) (fun h => hk h.2)
    refine go ?_
    exact end_two Try.results51 rfl rfl ⟨.slice none 0 0, by rw [e.2], by rw [e.1]; exact OI.nil _ _ _, hb⟩
  have hk' := of_decide_eq_true hk
  have r1 := hm'.m0.r1
  have k1 := hk'.m0.r1
  have f4 := hm'.m0.f400
  have g4 := hk'.m0.f400
  refine go ?_
  refine s_call3 (wn rfl) rfl rfl rfl rfl (within_any _ _ _ _) ?_
  rintro _ _ ⟨rfl, rfl⟩
  by_cases hn : 0 ≤ n ∧ n ≤ 12
  rotate_left
  · have hin : inB n 0 12 = false := by simp only [inB]; rcases Classical.not_and_iff_not_or_not.1 hn with h | h <;> simp [h]
    have e := fn_2 hm' hk' hn
    refine go ?_
    exact end_two Try.results51 rfl rfl ⟨.slice none 0 0, by rw [e.2], by rw [e.1]; exact OI.nil _ _ _, hb⟩
  have hin : inB n 0 12 = true := by simp [inB, hn.1, hn.2]
  refine go ?_
  refine s_call1 (wn rfl) rfl rfl (rank_any _ _ _ _ hbx shv) ?_
  rintro _ _ ⟨rfl, rfl⟩
  refine go ?_
  refine s_call1 (wn rfl) rfl rfl (rank_any _ _ _ _ hbx2 shv2) ?_
  rintro _ _ ⟨rfl, rfl⟩
  by_cases hl : ms.length = ks.length
  rotate_left
  · have hl' : (ms.length : Int) ≠ ks.length := by omega
    have e := fn_3 hm' hk' hn hl
    refine go ?_
    exact end_two Try.results51 rfl rfl ⟨.slice none 0 0, by rw [e.2], by rw [e.1]; exact OI.nil _ _ _, hb⟩
  have hl' : ¬ ((ms.length : Int) ≠ ks.length) := by omega
  obtain ⟨N, rfl⟩ : ∃ N : Nat, n = N := ⟨n.toNat, by omega⟩
  have sz0 := hb.size
  have e5 : ∀ u, firstW ms ks N = some u → fnL ms ks N = u ∧ fnC ms ks N = 0 := fun u hu => fn_5 hm' hk' hn hl (by rw [Int.toNat_natCast]; exact hu)
  have e4 : firstW ms ks N = none → fnL ms ks N = [] ∧ fnC ms ks N = 4 := fun hu => fn_4 hm' hk' hn hl (by rw [Int.toNat_natCast]; exact hu)
  refine go ?_
  have sbs1 := hb.size
  have hv_b1 := hv
  have hv2_b1 := hv2
  have hbx_b1 := hbx
  have hbx2_b1 := hbx2
  have hbB1 := Below.refl w4.heap.size w4
  refine w_loop (fun kk fr w' => ∃ (i : Nat), kk = (N + 1) - i ∧ i ≤ (N + 1) ∧ fr 3 = .pointer (some p) ∧ fr 4 = .pointer (some p2) ∧ fr 28 = .int .i64 ((N : Int) + 1) ∧ fr 29 = .int .i64 i ∧ (∀ j : Nat, 1 ≤ j → j < i → tryW specOk ms.length (goodB ms ks) [] j = none) ∧ Below w4.heap.size w4 w') ((N + 1))
    ⟨0, rfl, Nat.zero_le _, rfl, rfl, rfl, rfl, fun j hj hj2 => by omega, hbB1⟩ ?_
  rintro kk fr w5 ⟨i, rfl, hi, f3, f4, f28, f29, hno, hbB1⟩
  have sw5 := hbB1.size
  have hv := hv_b1.below hbB1
  have hv2 := hv2_b1.below hbB1
  have hbx := cell_below hbx_b1 hbB1
  have hbx2 := cell_below hbx2_b1 hbB1
  refine know (t := 3) f3 ?_; refine know (t := 4) f4 ?_; refine know (t := 28) f28 ?_; refine know (t := 29) f29 ?_
  refine go ?_
  refine cond_dec rfl (fun hlt => ?_) (fun hge => ?_)
  · have es := try_same hm' hk' hl hno
    refine go ?_
    refine region_h mixed (fun w6 hc6 => ?_)
    have swr6 := hc6.size
    refine h_p 0 hc6 ?_
    refine h_p 1 hc6 ?_
    refine h_p 6 hc6 ?_
    refine h_one 2 ?_
    refine s_call1 (wn rfl) rfl rfl (flags_any _ _ _ _ (cell_below hbx hc6) (hv.below hc6) r1) ?_
    rintro _ _ ⟨rfl, rfl⟩
    refine w_nil ?_
    refine h_on ⟨hc6, ?_⟩
    refine h_one 3 ?_
    refine s_call1 (wn rfl) rfl rfl (identity_any _ (nf ms) (by omega)) ?_
    rintro ip w7 ⟨hip, hb7⟩
    have hc7 := hc6.trans (hb7.mono hc6.size)
    refine w_nil ?_
    refine h_on ⟨hc7, ?_⟩
    refine h_one 4 ?_
    refine s_call1 (wn rfl) rfl rfl (flags_any _ _ _ _ (cell_below hbx2 hc7) (hv2.below hc7) k1) ?_
    rintro _ _ ⟨rfl, rfl⟩
    refine w_nil ?_
    refine h_on ⟨hc7, ?_⟩
    refine h_one 5 ?_
    refine s_call1 (wn rfl) rfl rfl (identity_any _ (nf ks) (by omega)) ?_
    rintro iq w8 ⟨hiq, hb8⟩
    have hc8 := hc7.trans (hb8.mono hc7.size)
    replace hip := hip.below hb8
    refine w_nil ?_
    refine h_on ⟨hc8, ?_⟩
    refine h_one 7 ?_
    refine s_call6 (wn rfl) rfl rfl rfl rfl rfl rfl rfl (nothingOf_any hm' hk' hl i _ _ _ _ _ [] _ _ w.heap.size _ _ (hv.below hc8) (hv2.below hc8) (OI.nil _ _ _) hip.il hiq.il ⟨by simp, fun x hx => by simp at hx⟩ (by simp; omega) rfl rfl (by have := hc8.size; omega) rfl) ?_
    rintro r w9 ⟨hr, hb9⟩
    have hc9 := hc8.trans (hb9.mono hc8.size)
    replace hip := hip.below hb9
    replace hiq := hiq.below hb9
    refine w_nil ?_
    refine h_on ⟨hc9, ?_⟩
    refine h_p 8 hc9 ?_
    refine h_nil ?_
    have sw9 := hc9.size
    replace hv := hv.below hc9
    replace hv2 := hv2.below hc9
    replace hbx := cell_below hbx hc9
    replace hbx2 := cell_below hbx2 hc9
    replace hbB1 := hbB1.trans (hc9.mono hbB1.size)
    rw [es] at hr
    have hnil := hr.nilV
    have sr := hr.oi.sv
    cases hq3 : tryW specOk ms.length (goodB ms ks) [] i with
    | none =>
      rw [hq3] at hnil
      have hnil : nilV r = true := hnil
      have hnil2 : (!nilV r) = false := by rw [hnil]; rfl
      refine go ?_
      refine ⟨(N + 1) - (i + 1), by omega, i + 1, rfl, by omega, rfl, rfl, rfl, rfl, fun j hj hj2 => by by_cases hji : j = i; (subst hji; exact hq3); exact hno j hj (by omega), hbB1⟩
    | some u =>
      rw [hq3] at hnil hr
      have hnil : nilV r = false := hnil
      have hnil2 : (!nilV r) = true := by rw [hnil]; rfl
      have hi0 : i ≠ 0 := by
        rintro rfl
        have : tryW specOk ms.length (goodB ms ks) [] 0 = none := by unfold tryW; rw [good_nil]; rfl
        rw [this] at hq3; cases hq3
      have ef : firstW ms ks N = some u := findSome_hit (i := i - 1) (by omega) (fun j hj => hno (j + 1) (by omega) (by omega)) (by show tryW _ _ _ _ (i - 1 + 1) = _; rw [show i - 1 + 1 = i by omega]; exact hq3)
      have e := e5 u ef
      refine go ?_
      exact end_two Try.results51 rfl rfl ⟨r, by rw [e.2], by rw [e.1]; exact hr.1, (hb.trans (hbB1.mono hb.size))⟩
  obtain rfl : i = N + 1 := by omega
  have e := e4 (findSome_none fun j hj => hno (j + 1) (by omega) (by omega))
  refine go ?_
  exact end_two Try.results51 rfl rfl ⟨.slice none 0 0, by rw [e.2], by rw [e.1]; exact OI.nil _ _ _, (hb.trans (hbB1.mono hb.size))⟩

set_option maxHeartbeats 8000000 in
set_option maxRecDepth 100000 in
theorem specFirstNothing_any (v : Value) (v2 : Value) (ms : List (List Int)) (ks : List (List Int)) (n : Int) (w : World) (hv : RL w v ms) (hv2 : RL w v2 ks) :
    Ret Try.prog 52 #[.agg #[v], .agg #[v2], .int .i64 n] w fun r w' => ∃ x, r = .tuple #[x, .int .i64 (fnC ms ks n)] ∧ OI w' w.heap.size 2 x (fnL ms ks n) ∧ Below w.heap.size w w' := by
  have shv := hv.sv
  have shv2 := hv2.sv
  have hb := Below.refl w.heap.size w
  refine enter3 42 Try.func52 rfl Try.ntmps52 rfl (fun fr => ?_)
  refine go ?_
  refine s_box (wn rfl) rfl rfl (agg_cells shv) (fun w1 hbx _ hp hg => ?_)
  have hb1 := below_of_grownBy hg
  have sw1 := hb1.size
  replace hv := hv.below hb1
  replace hv2 := hv2.below hb1
  replace hb := hb.trans (hb1.mono hb.size)
  clear hg hp hb1
  generalize (⟨w.heap.size, 0, none⟩ : Addr) = p at *
  refine go ?_
  refine s_box (wn rfl) rfl rfl (agg_cells shv2) (fun w2 hbx2 _ hp hg => ?_)
  have hb2 := below_of_grownBy hg
  have sw2 := hb2.size
  replace hv := hv.below hb2
  replace hv2 := hv2.below hb2
  replace hbx := cell_below hbx hb2
  replace hb := hb.trans (hb2.mono hb.size)
  clear hg hp hb2
  generalize (⟨w1.heap.size, 0, none⟩ : Addr) = p2 at *
  refine go ?_
  refine s_call1 (wn rfl) rfl rfl (l02Is_any _ _ _ hv) ?_
  rintro _ w3 ⟨rfl, hb3⟩
  have sw3 := hb3.size
  replace hv := hv.below hb3
  replace hv2 := hv2.below hb3
  replace hbx := cell_below hbx hb3
  replace hbx2 := cell_below hbx2 hb3
  replace hb := hb.trans (hb3.mono hb.size)
  refine splitb (decide (IsMan ms)) (fun hm => ?_) (fun hm => ?_)
  rotate_left
  · have hm := of_decide_eq_false hm
    have e := fn_1 (ms := ms) (ks := ks) (n := n) (fun h => hm h.1)
    refine go ?_
    exact end_two Try.results52 rfl rfl ⟨.slice none 0 0, by rw [e.2], by rw [e.1]; exact OI.nil _ _ _, hb⟩
  have hm' := of_decide_eq_true hm
  refine go ?_
  refine s_call1 (wy rfl rfl rfl rfl rfl known) rfl rfl (l02Is_any _ _ _ hv2) ?_
  rintro _ w4 ⟨rfl, hb4⟩
  have sw4 := hb4.size
  replace hv := hv.below hb4
  replace hv2 := hv2.below hb4
  replace hbx := cell_below hbx hb4
  replace hbx2 := cell_below hbx2 hb4
  replace hb := hb.trans (hb4.mono hb.size)
  refine splitb (decide (IsMan ks)) (fun hk => ?_) (fun hk => ?_)
  rotate_left
  · have hk := of_decide_eq_false hk
    have e := fn_1 (ms := ms) (ks := ks) (n := n) (fun h => hk h.2)
    refine go ?_
    exact end_two Try.results52 rfl rfl ⟨.slice none 0 0, by rw [e.2], by rw [e.1]; exact OI.nil _ _ _, hb⟩
  have hk' := of_decide_eq_true hk
  have r1 := hm'.m0.r1
  have k1 := hk'.m0.r1
  have f4 := hm'.m0.f400
  have g4 := hk'.m0.f400
  refine go ?_
  refine s_call3 (wn rfl) rfl rfl rfl rfl (l01In_any _ _ _ _) ?_
  rintro _ _ ⟨rfl, rfl⟩
  by_cases hn : 0 ≤ n ∧ n ≤ 12
  rotate_left
  · have hin : inB n 0 12 = false := by simp only [inB]; rcases Classical.not_and_iff_not_or_not.1 hn with h | h <;> simp [h]
    have e := fn_2 hm' hk' hn
    refine go ?_
    exact end_two Try.results52 rfl rfl ⟨.slice none 0 0, by rw [e.2], by rw [e.1]; exact OI.nil _ _ _, hb⟩
  have hin : inB n 0 12 = true := by simp [inB, hn.1, hn.2]
  by_cases hl : ms.length = ks.length
  rotate_left
  · have hl' : (ms.length : Int) ≠ ks.length := by omega
    have e := fn_3 hm' hk' hn hl
    refine go ?_
    exact end_two Try.results52 rfl rfl ⟨.slice none 0 0, by rw [e.2], by rw [e.1]; exact OI.nil _ _ _, hb⟩
  have hl' : ¬ ((ms.length : Int) ≠ ks.length) := by omega
  obtain ⟨N, rfl⟩ : ∃ N : Nat, n = N := ⟨n.toNat, by omega⟩
  have sz0 := hb.size
  have e5 : ∀ u, firstW ms ks N = some u → fnL ms ks N = u ∧ fnC ms ks N = 0 := fun u hu => fn_5 hm' hk' hn hl (by rw [Int.toNat_natCast]; exact hu)
  have e4 : firstW ms ks N = none → fnL ms ks N = [] ∧ fnC ms ks N = 4 := fun hu => fn_4 hm' hk' hn hl (by rw [Int.toNat_natCast]; exact hu)
  refine go ?_
  have sbs1 := hb.size
  have hv_b1 := hv
  have hv2_b1 := hv2
  have hbx_b1 := hbx
  have hbx2_b1 := hbx2
  have hbB1 := Below.refl w4.heap.size w4
  refine w_loop (fun kk fr w' => ∃ (i : Nat), kk = N - i ∧ i ≤ N ∧ fr 2 = .int .i64 N ∧ fr 3 = .pointer (some p) ∧ fr 4 = .pointer (some p2) ∧ fr 8 = .int .i64 (1 + (i : Int)) ∧ (∀ j : Nat, 1 ≤ j → j < (i + 1) → tryW specOk ms.length (goodB ms ks) [] j = none) ∧ Below w4.heap.size w4 w') (N)
    ⟨0, rfl, Nat.zero_le _, rfl, rfl, rfl, rfl, fun j hj hj2 => by omega, hbB1⟩ ?_
  rintro kk fr w5 ⟨i, rfl, hi, f2, f3, f4, f8, hno, hbB1⟩
  have sw5 := hbB1.size
  have hv := hv_b1.below hbB1
  have hv2 := hv2_b1.below hbB1
  have hbx := cell_below hbx_b1 hbB1
  have hbx2 := cell_below hbx2_b1 hbB1
  refine know (t := 2) f2 ?_; refine know (t := 3) f3 ?_; refine know (t := 4) f4 ?_; refine know (t := 8) f8 ?_
  refine go ?_
  refine cond_dec rfl (fun hlt => ?_) (fun hge => ?_)
  · refine go ?_
    have szq6 := hbB1.size
    refine s_build0 (B := w.heap.size) (wn rfl) rfl (by omega) (fun ob w6 ho so hg6 _ => ?_)
    have hb6 := below_of_grownBy hg6
    have sw6 := hb6.size
    replace hv := hv.below hb6
    replace hv2 := hv2.below hb6
    replace hbx := cell_below hbx hb6
    replace hbx2 := cell_below hbx2 hb6
    replace hbB1 := hbB1.trans (hb6.mono hbB1.size)
    refine go ?_
    refine s_call4 (wn rfl) rfl rfl rfl rfl rfl (l08Try_any hm' hk' hl _ (i + 1) _ _ _ [] w.heap.size _ hv hv2 ho ⟨by simp, fun x hx => by simp at hx⟩ (by simp; omega) (by simp; omega) (by omega)) ?_
    rintro r w7 ⟨hr, hb7⟩
    have sw7 := hb7.size
    replace hv := hv.below hb7
    replace hv2 := hv2.below hb7
    replace hbx := cell_below hbx hb7
    replace hbx2 := cell_below hbx2 hb7
    replace ho := ho.below hb7
    replace hbB1 := hbB1.trans (hb7.mono hbB1.size)
    have sr := hr.sv
    cases hq3 : tryW specOk ms.length (goodB ms ks) [] (i + 1) with
    | none =>
      rw [hq3] at sr
      have hn0 : ¬ ((0 : Int) < (((none : Option (List Int)).getD []).length : Int)) := by simp
      refine go ?_
      refine ⟨N - (i + 1), by omega, i + 1, rfl, by omega, rfl, rfl, rfl, by show Value.int _ _ = _; congr 1 <;> omega, fun j hj hj2 => by by_cases hji : j = i + 1; (subst hji; exact hq3); exact hno j hj (by omega), hbB1⟩
    | some u =>
      have hyp : 0 < u.length := by
        obtain ⟨z, e, h1, _, h2, _⟩ := try_some _ _ _ hq3
        rw [e]; simp; omega
      rw [hq3] at sr hr
      have hn0 : (0 : Int) < (((some u : Option (List Int)).getD []).length : Int) := by show (0 : Int) < (u.length : Int); omega
      have ef : firstW ms ks N = some u := findSome_hit (i := i) (by omega) (fun j hj => hno (j + 1) (by omega) (by omega)) (by exact hq3)
      have e := e5 u ef
      refine go ?_
      exact end_two Try.results52 rfl rfl ⟨r, by rw [e.2], by rw [e.1]; exact hr, (hb.trans (hbB1.mono hb.size))⟩
  obtain rfl : i = N := by omega
  have e := e4 (findSome_none fun j hj => hno (j + 1) (by omega) (by omega))
  refine go ?_
  exact end_two Try.results52 rfl rfl ⟨.slice none 0 0, by rw [e.2], by rw [e.1]; exact OI.nil _ _ _, (hb.trans (hbB1.mono hb.size))⟩

end Go.Proofs.Ytmdimdbfgibflaa
