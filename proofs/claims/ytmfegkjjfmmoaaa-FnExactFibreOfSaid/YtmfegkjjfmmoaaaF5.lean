/- Contracts: maniplexes. -/
import Derived.Test.YtmfegkjjfmmoaaaF4
import Derived.Test.YtmfegkjjfmmoaaaP6
namespace Go.Proofs.Ytmfegkjjfmmoaaa
open Go.Mem Go.RowKit

theorem agg_cells {v : Value} {m : Nat} (h : SV v m) : (Value.agg #[v]).cells = #[v] := by
  obtain ⟨a, cap, rfl, _⟩ := h.out
  rfl

theorem rank_any (p : Addr) (v : Value) (m : Nat) (w : World) (hc : w.cell? p = some v) (sv : SV v m) :
    Ret Try.prog 60 #[.pointer (some p)] w fun r w' => r = .int .i64 m ∧ w = w' := by
  refine enter1 8 Try.func60 rfl Try.ntmps60 rfl (fun fr => ?_)
  refine go ?_
  refine s_call1 (wn rfl) rfl rfl (sizeR_any _ _ _ sv) ?_
  rintro _ _ ⟨rfl, rfl⟩
  refine go ?_
  exact end_one Try.results60 rfl ⟨rfl, rfl⟩
theorem flags_any (p : Addr) (v : Value) (xss : List (List Int)) (w : World) (hc : w.cell? p = some v) (hv : RL w v xss) (h1 : 1 ≤ xss.length) :
    Ret Try.prog 56 #[.pointer (some p)] w fun r w' => r = .int .i64 (nf xss) ∧ w = w' := by
  have sv := hv.sv
  refine enter1 10 Try.func56 rfl Try.ntmps56 rfl (fun fr => ?_)
  refine go ?_
  refine s_ldR (wn rfl) rfl rfl hv (by omega) (by omega) (fun u hu su => ?_)
  refine s_call1 (wn rfl) rfl rfl (size_any _ _ _ su) ?_
  rintro _ _ ⟨rfl, rfl⟩
  refine go ?_
  exact end_one Try.results56 rfl ⟨rfl, rfl⟩

theorem q_call1 {P : Program} {ops : Array Oper} {Q : Exit → Fm → World → Prop} {n : Nat} {f : Fm} {rest : List Oper} {ty : TypeId} {pos : String} {after : Array Edge} {g : Option (Nat × Bool)} {d : Nat}
    {fn : FuncId} {x : Operand} {ats : Array TypeId} {a v : Value} [hf : FunTy P fn] {w0 : World}
    (hw : Wants ⟨some d, .call ⟨.value (.func fn), #[x], ats⟩, ty, pos, after, g⟩ ops n f) (hd : Nat.ble (d + 1) n = true)
    (hx : lk n f x = some a) (hc : ∀ w, Below w0.heap.size w0 w → Ret P fn #[a] w fun r w' => r = v ∧ Below w.heap.size w w')
    (k : WQ P ops w0 Q rest n (.upd f d v)) :
    WQ P ops w0 Q (⟨some d, .call ⟨.value (.func fn), #[x], ats⟩, ty, pos, after, g⟩ :: rest) n f :=
  q_call hw hd (by simp [lk_evo hx]) (fun w hb => (hc w hb).mono fun _ _ h => ⟨h.1, hb.trans (h.2.mono hb.size)⟩) k

set_option maxHeartbeats 8000000 in
theorem l02Is_any (v : Value) (xss : List (List Int)) (w : World) (hv : RL w v xss) :
    Ret Try.prog 51 #[.agg #[v]] w fun r w' => r = .bool (decide (IsMan xss)) ∧ Below w.heap.size w w' := by
  have sv := hv.sv
  refine enter1 149 Try.func51 rfl Try.ntmps51 rfl (fun fr => ?_)
  refine go ?_
  refine s_box (wn rfl) rfl rfl (agg_cells sv) (fun w1 hbx _ _ hg => ?_)
  have hb := below_of_grownBy hg
  have hv := hv.below hb
  generalize (⟨w.heap.size, 0, none⟩ : Addr) = p at *
  refine go ?_
  refine split (p := (xss.length : Int) < 1) (fun hr => ?_) (fun hr => ?_)
  · refine go ?_
    exact end_one Try.results51 rfl ⟨by rw [decide_eq_false (fun h => by have := h.m0.r1; omega)], hb⟩
  refine split (p := (5 : Int) < xss.length) (fun hr5 => ?_) (fun hr5 => ?_)
  · refine go ?_
    exact end_one Try.results51 rfl ⟨by rw [decide_eq_false (fun h => by have := h.m0.r5; omega)], hb⟩
  obtain ⟨u0, hu0, hc0⟩ := hv.row (j := 0) (by omega) (by omega)
  have su0 : SV u0 (nf xss) := hu0.sv
  refine split (p := (nf xss : Int) < 2) (fun hf => ?_) (fun hf => ?_)
  · refine go ?_
    exact end_one Try.results51 rfl ⟨by rw [decide_eq_false (fun h => by have := h.m0.f2; omega)], hb⟩
  refine split (p := (400 : Int) < nf xss) (fun hf4 => ?_) (fun hf4 => ?_)
  · refine go ?_
    exact end_one Try.results51 rfl ⟨by rw [decide_eq_false (fun h => by have := h.m0.f400; omega)], hb⟩
  refine go ?_
  refine w_loop (fun k fr w' => ∃ i : Nat, k = xss.length - i ∧ i ≤ xss.length ∧ fr 1 = .pointer (some p) ∧ fr 3 = .int .i64 xss.length ∧ fr 4 = .int .i64 i ∧
      (∀ j : Nat, j < i → (gr xss j).length = nf xss ∧ IsPerm (gr xss j) ∧ IsFree (gr xss j)) ∧ Below w1.heap.size w1 w') xss.length
    ⟨0, rfl, Nat.zero_le _, rfl, rfl, rfl, by simp, Below.refl _ _⟩ ?_
  rintro k fr w2 ⟨i, rfl, hi, f1, f3, f4, hrow, hb2⟩
  have hbx2 := cell_below hbx hb2
  have hv2 := hv.below hb2
  have hbw := hb.trans (hb2.mono hb.size)
  refine know (t := 1) f1 ?_; refine know (t := 3) f3 ?_; refine know (t := 4) f4 ?_
  refine go ?_
  refine cond_dec rfl (fun hlt => ?_) (fun hge => ?_)
  · refine go ?_
    obtain ⟨u0, hu0, hc0⟩ := hv2.row (j := 0) (by omega) (by omega)
    obtain ⟨u, hu, hc⟩ := hv2.row (j := i) (by omega) hlt
    have su0 : SV u0 (nf xss) := hu0.sv
    have su := hu.sv
    refine split (p := ((gr xss i).length : Int) ≠ nf xss) (fun hl => ?_) (fun hl => ?_)
    · refine region_q mixed (by kernel_rfl) ?_; refine qo ?_; refine q_nil ?_
      intro w3 hb3
      have hbw := hbw.trans (hb3.mono hbw.size)
      refine go ?_
      exact end_one Try.results51 rfl ⟨by rw [decide_eq_false (fun h => hl (by have := (h.m0.row i (by omega)).1; omega))], hbw⟩
    refine splitb (decide (IsPerm (gr xss i))) (fun hp => ?_) (fun hp => ?_)
    · have hp' : IsPerm (gr xss i) := of_decide_eq_true hp
      refine splitb (decide (IsFree (gr xss i))) (fun hf => ?_) (fun hf => ?_)
      all_goals
        refine region_q mixed (by kernel_rfl) ?_
        refine qo ?_
        refine q_call1 (wy rfl rfl rfl rfl rfl known) rfl rfl (fun w hb => l01Perm_any _ _ _ (hu.below hb)) ?_
        refine qo ?_
        refine q_call1 (wy rfl rfl rfl rfl rfl (by rw [hp]; rfl)) rfl rfl (fun w hb => (l01Free_any _ _ _ (hu.below hb) hp').mono (fun _ _ h => ⟨h.1, h.2 ▸ Below.refl _ _⟩)) ?_
        refine qo ?_
        refine q_nil ?_
        intro w3 hb3
        have hbw := hbw.trans (hb3.mono hbw.size)
        have hb13 := hb2.trans (hb3.mono hb2.size)
        refine go ?_
      · refine ⟨xss.length - (i + 1), by omega, i + 1, rfl, by omega, rfl, rfl, rfl, fun j hj => ?_, hb13⟩
        by_cases hji : j = i
        · subst hji; exact ⟨by omega, hp', of_decide_eq_true hf⟩
        · exact hrow j (by omega)
      · exact end_one Try.results51 rfl ⟨by rw [decide_eq_false (fun h => of_decide_eq_false hf (h.m0.row i (by omega)).2.2)], hbw⟩
    · refine region_q mixed (by kernel_rfl) ?_
      refine qo ?_
      refine q_call1 (wy rfl rfl rfl rfl rfl known) rfl rfl (fun w hb => l01Perm_any _ _ _ (hu.below hb)) ?_
      refine qo ?_
      refine q_nil ?_
      intro w3 hb3
      have hbw := hbw.trans (hb3.mono hbw.size)
      refine go ?_
      exact end_one Try.results51 rfl ⟨by rw [decide_eq_false (fun h => of_decide_eq_false hp (h.m0.row i (by omega)).2.1)], hbw⟩
  · obtain rfl : i = xss.length := by omega
    clear hi hge
    refine go ?_
    refine w_loop (fun k fr w' => ∃ i : Nat, k = xss.length - i ∧ i ≤ xss.length ∧ fr 1 = .pointer (some p) ∧ fr 3 = .int .i64 xss.length ∧ fr 5 = .int .i64 i ∧
        (∀ a < i, FarRow xss a xss.length) ∧ Below w1.heap.size w1 w') xss.length
      ⟨0, rfl, Nat.zero_le _, rfl, rfl, rfl, by simp, hb2⟩ ?_
    rintro k fr w3 ⟨i, rfl, hi, f1, f3, f5, hfar, hb3⟩
    refine know (t := 1) f1 ?_; refine know (t := 3) f3 ?_; refine know (t := 5) f5 ?_
    refine go ?_
    refine cond_dec rfl (fun hlt => ?_) (fun hge => ?_)
    · refine go ?_
      refine w_loop (fun k fr w' => ∃ q : Nat, k = xss.length - q ∧ i + 2 ≤ q ∧ fr 1 = .pointer (some p) ∧ fr 3 = .int .i64 xss.length ∧ fr 5 = .int .i64 i ∧ fr 6 = .int .i64 q ∧
          FarRow xss i q ∧ Below w1.heap.size w1 w') (xss.length - (i + 2))
        ⟨i + 2, rfl, Nat.le_refl _, rfl, rfl, rfl, rfl, fun k h1 h2 => by omega, hb3⟩ ?_
      rintro k fr w4 ⟨q, rfl, hq, f1, f3, f5, f6, hfq, hb4⟩
      refine know (t := 1) f1 ?_; refine know (t := 3) f3 ?_; refine know (t := 5) f5 ?_; refine know (t := 6) f6 ?_
      refine go ?_
      refine cond_dec rfl (fun hltq => ?_) (fun hgeq => ?_)
      · refine go ?_
        refine w_loop (fun k fr w' => ∃ f : Nat, k = nf xss - f ∧ f ≤ nf xss ∧ fr 1 = .pointer (some p) ∧ fr 3 = .int .i64 xss.length ∧ fr 5 = .int .i64 i ∧ fr 6 = .int .i64 q ∧ fr 7 = .int .i64 f ∧
            (∀ f' < f, FarAt xss i q f') ∧ Below w1.heap.size w1 w') (nf xss)
          ⟨0, rfl, Nat.zero_le _, rfl, rfl, rfl, rfl, rfl, by simp, hb4⟩ ?_
        rintro k fr w5 ⟨f, rfl, hf, f1, f3, f5, f6, f7, hff, hb5⟩
        have hbx5 := cell_below hbx hb5
        have hv5 := hv.below hb5
        have hbw := hb.trans (hb5.mono hb.size)
        obtain ⟨u0, hu0, hc0⟩ := hv5.row (j := 0) (by omega) (by omega)
        obtain ⟨ui, hui, hci⟩ := hv5.row (j := i) (by omega) hlt
        obtain ⟨uq, huq, hcq⟩ := hv5.row (j := q) (by omega) hltq
        have su0 : SV u0 (nf xss) := hu0.sv
        have hri := hrow i (by omega)
        have hrq := hrow q (by omega)
        have sui : SV ui (nf xss) := hri.1 ▸ hui.sv
        have suq : SV uq (nf xss) := hrq.1 ▸ huq.sv
        have hli := hri.1
        have hlq := hrq.1
        refine know (t := 1) f1 ?_; refine know (t := 3) f3 ?_; refine know (t := 5) f5 ?_; refine know (t := 6) f6 ?_; refine know (t := 7) f7 ?_
        refine go ?_
        refine cond_dec rfl (fun hltf => ?_) (fun hgef => ?_)
        · have hgi := hri.2.1.gi (j := f) (by omega) (by omega)
          have hgq := hrq.2.1.gi (j := f) (by omega) (by omega)
          rw [hli] at hgi
          rw [hlq] at hgq
          refine go ?_
          refine split (p := gi (gr xss q) (gi (gr xss i) f) ≠ gi (gr xss i) (gi (gr xss q) f)) (fun hE => ?_) (fun hE => ?_)
          · refine region_q mixed (by kernel_rfl) ?_; refine qo ?_; refine q_nil ?_
            intro w6 hb6
            have hbw := hbw.trans (hb6.mono hbw.size)
            refine go ?_
            exact end_one Try.results51 rfl ⟨by rw [decide_eq_false (fun h => hE (h.m0.far i (by omega) q hq (by omega) f (by omega)).1)], hbw⟩
          refine split (p := gi (gr xss i) f = gi (gr xss q) f) (fun hD => ?_) (fun hD => ?_)
          · refine region_q mixed (by kernel_rfl) ?_; refine qo ?_; refine q_nil ?_
            intro w6 hb6
            have hbw := hbw.trans (hb6.mono hbw.size)
            refine go ?_
            exact end_one Try.results51 rfl ⟨by rw [decide_eq_false (fun h => (h.m0.far i (by omega) q hq (by omega) f (by omega)).2 hD)], hbw⟩
          · refine region_q mixed (by kernel_rfl) ?_; refine qo ?_; refine q_nil ?_
            intro w6 hb6
            have hb6' := hb5.trans (hb6.mono hb5.size)
            refine go ?_
            refine ⟨nf xss - (f + 1), by omega, f + 1, rfl, by omega, rfl, rfl, rfl, rfl, rfl, fun f' hf' => ?_, hb6'⟩
            by_cases hji : f' = f
            · subst hji; exact ⟨Decidable.not_not.1 hE, hD⟩
            · exact hff f' (by omega)
        · obtain rfl : f = nf xss := by omega
          refine go ?_
          refine ⟨xss.length - (q + 1), by omega, q + 1, rfl, by omega, rfl, rfl, rfl, rfl, fun k h1 h2 f hf => ?_, hb5⟩
          by_cases hkq : k = q
          · subst hkq; exact hff f hf
          · exact hfq k h1 (by omega) f hf
      · refine go ?_
        refine ⟨xss.length - (i + 1), by omega, i + 1, rfl, by omega, rfl, rfl, rfl, fun a ha => ?_, hb4⟩
        by_cases hai : a = i
        · subst hai; exact fun k h1 h2 => hfq k h1 (by omega)
        · exact hfar a (by omega)
    · obtain rfl : i = xss.length := by omega
      have hM : Man0 xss := ⟨by omega, by omega, by omega, by omega, hrow, hfar⟩
      have hbw := hb.trans (hb3.mono hb.size)
      have hN := hM.f400
      refine go ?_
      refine region_h mixed (fun w4 hb4 => ?_)
      have hb14 := hb3.trans (hb4.mono hb3.size)
      have hbx4 := cell_below (cell_below hbx hb3) hb4
      have hbx3 := cell_below hbx hb3
      have hv3 := hv.below hb3
      have hv4 := hv3.below hb4
      obtain ⟨u0, hu0, hc0⟩ := hv3.row (j := 0) (by omega) (by omega)
      have su0 : SV u0 (nf xss) := hu0.sv
      refine h_p 0 hb4 ?_
      refine h_p 1 hb4 ?_
      refine h_p 4 hb4 ?_
      refine h_p 5 hb4 ?_
      refine h_p 6 hb4 ?_
      refine h_p 7 hb4 ?_
      refine h_p 8 hb4 ?_
      refine h_one 2 ?_
      refine s_call2 (wn rfl) rfl rfl rfl (l01Orbit_any _ _ (nf xss) 0 _ hv4 hM.syst (by omega) (by omega) (by omega)) ?_
      rintro ob w5 ⟨ho, hb5⟩
      have so := ho.sv
      have hb45 := hb4.trans (hb5.mono hb4.size)
      have hbw5 := hbw.trans (hb45.mono hbw.size)
      refine w_nil ?_
      refine h_on ⟨hb45, ?_⟩
      refine h_p 3 hb45 ?_
      refine h_p 9 hb45 ?_ (hrun := fun w hw => y_eql rfl rfl)
      refine h_p 10 hb45 ?_
      refine h_nil ?_
      refine go ?_
      refine end_one Try.results51 rfl ⟨?_, hbw5⟩
      refine congrArg Value.bool ?_
      exact decide_eq_decide.2 ⟨fun h => ⟨hM, by omega⟩, fun h => by have := h.one; omega⟩
end Go.Proofs.Ytmfegkjjfmmoaaa
