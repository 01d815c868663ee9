/- Contracts: what sortForms compares by, with the very worlds. -/
import Derived.Test.YtdpjjgjeodippaaGreatF42
import Derived.Test.YtdpjjgjeodippaaGreatP46
import Derived.Test.YtdpjjgjeodippaaGreatGr
namespace Go.Mem
open Go.RowKit
section
variable {P : Program} {ops : Array Oper} {Q : Exit → Fm → World → Prop} {n : Nat} {f : Fm} {w : World} {rest : List Oper} {ty : TypeId} {pos : String} {after : Array Edge} {g : Option (Nat × Bool)} {d : Nat}

theorem s_buildG {B : Nat} {t e : TypeId} {z : Value} {bytes m : Nat} {parts : Array (Nat × Operand)} [ht : SliceTy P t e] [he : CellTy P e z bytes] (vs : List Value)
    (hw : Wants ⟨some d, .buildSlice t m parts, ty, pos, after, g⟩ ops n f) (hd : Nat.ble (d + 1) n = true)
    (hp : parts.toList.map (fun x => (x.1, evo n f x.2)) = (List.range' 0 vs.length).zip vs) (hm : m ≤ 1000000) (hl : vs.length = m) (h1 : ∀ u ∈ vs, u.oneCell' = true) (hB : B ≤ w.heap.size)
    (k : ∀ v w', Own w' B e v vs → Gr w w' → w.grownBy w' none → v.ownBlock = some w.heap.size → WL P ops Q rest n (.upd f d v) w') :
    WL P ops Q (⟨some d, .buildSlice t m parts, ty, pos, after, g⟩ :: rest) n f w := by
  obtain ⟨i, hi, hz, hsz, hby⟩ := he.info
  have hr : ∃ cells : Array Value, (Instr.buildSlice t m (parts.map fun (i, x) => (i, evo n f x))).run P w = .ok (.slice (some ⟨w.heap.size, 0, none⟩) m m) (w.alloc (.cells cells e)) ∧ cells.toList = vs := by
    have hm' : ¬ (16777216 < m * i.size) := by rw [hsz]; omega
    have key : ∀ cs : Array Value, cs.size = m → ∃ cells : Array Value, Instr.fill (fun i => some (i, 1)) cs ((List.range' 0 vs.length).zip vs) = some cells ∧ cells.toList = vs := by
      intro cs hcs
      obtain ⟨cells, c1, c2⟩ := fill_gen vs 0 cs h1 (by omega)
      refine ⟨cells, c1, ?_⟩
      rw [c2, hl, ← hcs]
      simp
    by_cases h0 : m = 0
    · obtain ⟨cells, c1, c2⟩ := key #[] (by simp [h0])
      refine ⟨cells, ?_, c2⟩
      subst h0
      have hv : vs = [] := List.eq_nil_of_length_eq_zero hl
      subst hv
      simp only [List.length_nil, List.range'_zero, List.zip_nil_left, List.map_eq_nil_iff, Array.toList_eq_nil_iff] at hp
      subst hp
      simp [Instr.fill] at c1
      simp [Instr.buildSlice, run_underlying ht.under, sizeOf, typeInfo, hi, Instr.fill, newRow, Array.range_zero', c1]
    · obtain ⟨cells, c1, c2⟩ := key ((Array.range (m * i.size)).map (z.cells[· % z.cells.size]!)) (by simp [hsz])
      refine ⟨cells, ?_, c2⟩
      simp only [hsz, Nat.mul_one] at c1 hm'
      simp [Instr.buildSlice, run_underlying ht.under, sizeOf, typeInfo, zeroValue, hi, hz, hsz, hm', h0, newRow]
      rw [hp, c1]
      rfl
  obtain ⟨cells, hr, hcl⟩ := hr
  refine s_val hw hd (v := .slice (some ⟨w.heap.size, 0, none⟩) m m) (w' := w.alloc (.cells cells e)) ?_ (k _ (w.alloc (.cells cells e)) ?_ (Gr.alloc w _) (World.grownBy_alloc w _ none) rfl)
  · simp [execOp, hr]
  · subst hcl
    refine .inr ⟨w.heap.size, 0, m, cells, by simp [hl], hB, heap_alloc_new w _, by omega, by simp [maxLen]; omega, by simp at hl; omega, ?_⟩
    intro j u hu
    simpa using hu

end
end Go.Mem
namespace Go.Proofs.YtdpjjgjeodippaaGreat
open Go.Mem Go.RowKit
set_option linter.unusedVariables false
set_option linter.unusedSimpArgs false

set_option maxHeartbeats 8000000 in
set_option maxRecDepth 100000 in
theorem Compare_eq (v : Value) (v2 : Value) (xs : List Int) (ys : List Int) (w : World) (hv : IL w v xs) (hv2 : IL w v2 ys) :
    Ret Tryz.prog 83 #[v, v2] w fun r w' => r = .int .i64 (cmpL ltI xs ys) ∧ w = w' := by
  have shv := hv.sv
  have shv2 := hv2.sv
  refine enter2 36 Tryz.func83 rfl Tryz.ntmps83 rfl (fun fr => ?_)
  have scap := shv.le
  have scap2 := shv2.le
  refine go ?_
  refine w_loop (fun kk fr w' => ∃ (i : Nat), kk = xs.length - i ∧ i ≤ xs.length ∧ fr 0 = v ∧ fr 1 = v2 ∧ fr 9 = v ∧ fr 10 = .int .i64 xs.length ∧ fr 11 = .int .i64 i ∧ (i ≤ ys.length) ∧ (xs.take i = ys.take i) ∧ w = w') (xs.length)
    ⟨0, rfl, Nat.zero_le _, rfl, rfl, rfl, rfl, rfl, Nat.zero_le _, by simp, rfl⟩ ?_
  rintro kk fr w1 ⟨i, rfl, hi, f0, f1, f9, f10, f11, hle, heq, rfl⟩
  refine know (t := 0) f0 ?_; refine know (t := 1) f1 ?_; refine know (t := 9) f9 ?_; refine know (t := 10) f10 ?_; refine know (t := 11) f11 ?_
  refine go ?_
  refine cond_dec rfl (fun hlt => ?_) (fun hge => ?_)
  · refine go ?_
    refine cond_dec rfl (fun hov => ?_) (fun hov => ?_)
    · obtain rfl : i = ys.length := by omega
      have e := cmpL_over (lt := ltI) heq (by omega)
      refine go ?_
      exact end_one Tryz.results83 rfl ⟨by rw [e], rfl⟩
    refine go ?_
    refine go ?_
    refine s_call2 (wn rfl) rfl rfl rfl (cmpCompare_any _ _ _) ?_
    rintro _ _ ⟨rfl, rfl⟩
    refine go ?_
    refine cond_dec rfl (fun hne => ?_) (fun hne => ?_)
    · have e := cmpL_at heq (by omega) (by omega) hne
      refine go ?_
      exact end_one Tryz.results83 rfl ⟨by rw [e], rfl⟩
    have hz := cmpI_zero.1 (Decidable.not_not.1 hne)
    refine go ?_
    refine ⟨xs.length - (i + 1), by omega, i + 1, rfl, by omega, rfl, rfl, rfl, rfl, rfl, by omega, take_gi_eq (by omega) (by omega) heq hz, rfl⟩
  obtain rfl : i = xs.length := by omega
  have e := cmpL_end (lt := ltI) heq hle
  refine go ?_
  refine cond_dec rfl (fun hsh => ?_) (fun hsh => ?_)
  · rw [if_pos (by omega)] at e
    refine go ?_
    exact end_one Tryz.results83 rfl ⟨by rw [e], rfl⟩
  rw [if_neg (by omega)] at e
  refine go ?_
  exact end_one Tryz.results83 rfl ⟨by rw [e], rfl⟩

set_option maxHeartbeats 8000000 in
set_option maxRecDepth 100000 in
theorem CompareFunc_eq (v : Value) (v2 : Value) (xss : List (List Int)) (yss : List (List Int)) (w : World) (hv : RL w v xss) (hv2 : RL w v2 yss) :
    Ret Tryz.prog 82 #[v, v2, .func (.func 83) #[] #[]] w fun r w' => r = .int .i64 (cmpL lessL xss yss) ∧ w = w' := by
  have shv := hv.sv
  have shv2 := hv2.sv
  refine enter3 39 Tryz.func82 rfl Tryz.ntmps82 rfl (fun fr => ?_)
  have scap := shv.le
  have scap2 := shv2.le
  refine go ?_
  refine w_loop (fun kk fr w' => ∃ (i : Nat), kk = xss.length - i ∧ i ≤ xss.length ∧ fr 0 = v ∧ fr 1 = v2 ∧ fr 2 = .func (.func 83) #[] #[] ∧ fr 11 = v ∧ fr 12 = .int .i64 xss.length ∧ fr 13 = .int .i64 i ∧ (i ≤ yss.length) ∧ (xss.take i = yss.take i) ∧ w = w') (xss.length)
    ⟨0, rfl, Nat.zero_le _, rfl, rfl, rfl, rfl, rfl, rfl, Nat.zero_le _, by simp, rfl⟩ ?_
  rintro kk fr w1 ⟨i, rfl, hi, f0, f1, f2, f11, f12, f13, hle, heq, rfl⟩
  refine know (t := 0) f0 ?_; refine know (t := 1) f1 ?_; refine know (t := 2) f2 ?_; refine know (t := 11) f11 ?_; refine know (t := 12) f12 ?_; refine know (t := 13) f13 ?_
  refine go ?_
  refine cond_dec rfl (fun hlt => ?_) (fun hge => ?_)
  · obtain ⟨u, hu, hcu⟩ := hv.row (j := (i : Int)) (by omega) hlt
    have su := hu.sv
    refine go ?_
    refine cond_dec rfl (fun hov => ?_) (fun hov => ?_)
    · obtain rfl : i = yss.length := by omega
      have e := cmpL_over (lt := lessL) heq (by omega)
      refine go ?_
      exact end_one Tryz.results82 rfl ⟨by rw [e], rfl⟩
    obtain ⟨u2, hu2, hcu2⟩ := hv2.row (j := (i : Int)) (by omega) (by omega)
    have su2 := hu2.sv
    refine go ?_
    refine s_callV2 (wn rfl) rfl rfl rfl rfl (Compare_eq _ _ _ _ _ hu hu2) ?_
    rintro _ _ ⟨rfl, rfl⟩
    refine go ?_
    refine cond_dec rfl (fun hne => ?_) (fun hne => ?_)
    · have e := cmpR_at heq (by omega) (by omega) hne
      refine go ?_
      exact end_one Tryz.results82 rfl ⟨by rw [e], rfl⟩
    have hz := (cmpL_zero _ _).1 (Decidable.not_not.1 hne)
    refine go ?_
    refine ⟨xss.length - (i + 1), by omega, i + 1, rfl, by omega, rfl, rfl, rfl, rfl, rfl, rfl, by omega, take_gr_eq (by omega) (by omega) heq hz, rfl⟩
  obtain rfl : i = xss.length := by omega
  have e := cmpL_end (lt := lessL) heq hle
  refine go ?_
  refine cond_dec rfl (fun hsh => ?_) (fun hsh => ?_)
  · rw [if_pos (by omega)] at e
    refine go ?_
    exact end_one Tryz.results82 rfl ⟨by rw [e], rfl⟩
  rw [if_neg (by omega)] at e
  refine go ?_
  exact end_one Tryz.results82 rfl ⟨by rw [e], rfl⟩

set_option maxHeartbeats 8000000 in
set_option maxRecDepth 100000 in
theorem compareManiplexes_gr (v : Value) (v2 : Value) (xss : List (List Int)) (yss : List (List Int)) (w : World) (hv : RL w v xss) (hv2 : RL w v2 yss) :
    Ret Tryz.prog 67 #[.agg #[v], .agg #[v2]] w fun r w' => r = .int .i64 (cmpL lessL xss yss) ∧ Gr w w' := by
  have shv := hv.sv
  have shv2 := hv2.sv
  refine enter2 10 Tryz.func67 rfl Tryz.ntmps67 rfl (fun fr => ?_)
  refine go ?_
  refine s_boxG (wn rfl) rfl rfl (agg_cells shv) (fun w1 p hx g1 hp => ?_)
  have b1 := g1.below
  replace hv := hv.below b1
  replace hv2 := hv2.below b1
  refine go ?_
  refine s_boxG (wn rfl) rfl rfl (agg_cells shv2) (fun w2 p2 hx2 g2 hp2 => ?_)
  have b2 := g2.below
  replace hv := hv.below b2
  replace hv2 := hv2.below b2
  replace hx := cell_below hx b2
  have g12 := g1.trans g2
  refine go ?_
  refine s_call3 (wn rfl) rfl rfl rfl rfl (CompareFunc_eq _ _ _ _ _ hv hv2) ?_
  rintro _ _ ⟨rfl, rfl⟩
  refine go ?_
  exact end_one Tryz.results67 rfl ⟨rfl, g12⟩

set_option maxHeartbeats 8000000 in
set_option maxRecDepth 100000 in
theorem cmpOr_eq (v : Value) (a b : Int) (w : World) (hv : IL w v [a, b]) :
    Ret Tryz.prog 71 #[v] w fun r w' => r = .int .i64 (if a ≠ 0 then a else b) ∧ w = w' := by
  have shv := hv.sv
  have hl : ([a, b] : List Int).length = 2 := rfl
  rw [hl] at shv
  refine enter1 18 Tryz.func71 rfl Tryz.ntmps71 rfl (fun fr => ?_)
  refine go ?_
  refine w_loop (fun kk fr w' => ∃ i : Nat, kk = 2 - i ∧ i ≤ 2 ∧ fr 3 = .int .i64 0 ∧ fr 6 = v ∧ fr 7 = .int .i64 (2 : Nat) ∧ fr 8 = .int .i64 i ∧ (1 ≤ i → a = 0) ∧ (2 ≤ i → b = 0) ∧ w = w') 2
    ⟨0, rfl, by omega, rfl, rfl, rfl, rfl, by omega, by omega, rfl⟩ ?_
  rintro kk fr w1 ⟨i, rfl, hi, f3, f6, f7, f8, ha, hb, rfl⟩
  refine know (t := 3) f3 ?_; refine know (t := 6) f6 ?_; refine know (t := 7) f7 ?_; refine know (t := 8) f8 ?_
  have h01 : i = 0 ∨ i = 1 ∨ i = 2 := by omega
  have hga : gi [a, b] ((0 : Nat) : Int) = a := rfl
  have hgb : gi [a, b] ((1 : Nat) : Int) = b := rfl
  refine go ?_
  refine cond_dec rfl (fun hlt => ?_) (fun hge => ?_)
  · rcases h01 with rfl | rfl | rfl
    · refine go ?_
      rw [hga]
      refine cond_dec rfl (fun hne => ?_) (fun hne => ?_)
      · refine go ?_
        exact end_one Tryz.results71 rfl ⟨by rw [if_pos hne], rfl⟩
      · refine go ?_
        exact ⟨1, by omega, 1, rfl, by omega, rfl, rfl, rfl, rfl, fun _ => Decidable.not_not.1 hne, by omega, rfl⟩
    · refine go ?_
      rw [hgb]
      have ha0 := ha (by omega)
      refine cond_dec rfl (fun hne => ?_) (fun hne => ?_)
      · refine go ?_
        exact end_one Tryz.results71 rfl ⟨by rw [if_neg (fun h => h ha0)], rfl⟩
      · refine go ?_
        exact ⟨0, by omega, 2, rfl, by omega, rfl, rfl, rfl, rfl, fun _ => ha0, fun _ => Decidable.not_not.1 hne, rfl⟩
    · omega
  · have hi2 : i = 2 := by omega
    have ha0 := ha (by omega)
    have hb0 := hb (by omega)
    refine go ?_
    exact end_one Tryz.results71 rfl ⟨by rw [if_neg (fun h => h ha0), hb0], rfl⟩

set_option maxHeartbeats 8000000 in
set_option maxRecDepth 100000 in
theorem sortForms1_gr (v : Value) (v2 : Value) (xss : List (List Int)) (yss : List (List Int)) (w : World) (hv : RL w v xss) (hv2 : RL w v2 yss) (r1 : 1 ≤ xss.length) (r2 : 1 ≤ yss.length) :
    Ret Tryz.prog 70 #[.agg #[v], .agg #[v2]] w fun r w' => r = .int .i64 (cmpM xss yss) ∧ Gr w w' := by
  have shv := hv.sv
  have shv2 := hv2.sv
  refine enter2 13 Tryz.func70 rfl Tryz.ntmps70 rfl (fun fr => ?_)
  refine go ?_
  refine s_boxG (wn rfl) rfl rfl (agg_cells shv) (fun w1 p hx g1 hp => ?_)
  have b1 := g1.below
  replace hv := hv.below b1
  replace hv2 := hv2.below b1
  refine go ?_
  refine s_boxG (wn rfl) rfl rfl (agg_cells shv2) (fun w2 p2 hx2 g2 hp2 => ?_)
  have b2 := g2.below
  replace hv := hv.below b2
  replace hv2 := hv2.below b2
  replace hx := cell_below hx b2
  have g12 := g1.trans g2
  refine go ?_
  refine region_hG (fun w' => w'.cell? p = some v ∧ w'.cell? p2 = some v2) mixed (fun w3 g3 => ?_)
  have b3 := g3.below
  replace hv := hv.below b3
  replace hv2 := hv2.below b3
  replace hx := cell_below hx b3
  replace hx2 := cell_below hx2 b3
  refine h_p 3 ⟨hx, hx2⟩ ?_ (hrun := fun w' h => by obtain ⟨h1, h2⟩ := h; exact yl)
  refine h_p 4 ⟨hx, hx2⟩ ?_ (hrun := fun w' h => by obtain ⟨h1, h2⟩ := h; exact yl)
  refine h_one 0 ?_
  refine s_call1 (wn rfl) rfl rfl (flags_any _ _ _ _ hx hv r1) ?_
  rintro _ _ ⟨rfl, rfl⟩
  refine w_nil ?_
  refine h_on ⟨⟨hx, hx2⟩, ?_⟩
  refine h_one 1 ?_
  refine s_call1 (wn rfl) rfl rfl (flags_any _ _ _ _ hx2 hv2 r2) ?_
  rintro _ _ ⟨rfl, rfl⟩
  refine w_nil ?_
  refine h_on ⟨⟨hx, hx2⟩, ?_⟩
  refine h_one 2 ?_
  refine s_call2 (wn rfl) rfl rfl rfl (cmpCompare_any _ _ _) ?_
  rintro _ _ ⟨rfl, rfl⟩
  refine w_nil ?_
  refine h_on ⟨⟨hx, hx2⟩, ?_⟩
  refine h_one 5 ?_
  refine s_call2 (wn rfl) rfl rfl rfl (compareManiplexes_gr _ _ _ _ _ hv hv2) ?_
  rintro _ w4 ⟨rfl, g4⟩
  have b4 := g4.below
  replace hx := cell_below hx b4
  replace hx2 := cell_below hx2 b4
  refine w_nil ?_
  refine h_on ⟨⟨hx, hx2⟩, ?_⟩
  refine h_one 6 ?_
  refine s_buildG (B := w4.heap.size) [.int .i64 (cmpI (nf xss) (nf yss)), .int .i64 (cmpL lessL xss yss)] (wn rfl) rfl rfl (by decide) rfl (by simp [Value.oneCell']) (Nat.le_refl _) (fun tb w5 ht g5 _ _ => ?_)
  have b5 := g5.below
  replace hx := cell_below hx b5
  replace hx2 := cell_below hx2 b5
  refine w_nil ?_
  refine h_on ⟨⟨hx, hx2⟩, ?_⟩
  refine h_one 7 ?_
  have hti : IL w5 tb [cmpI (nf xss) (nf yss), cmpL lessL xss yss] := ⟨ht.rd⟩
  refine s_call1 (wn rfl) rfl rfl (cmpOr_eq _ _ _ _ hti) ?_
  rintro _ _ ⟨rfl, rfl⟩
  refine w_nil ?_
  refine h_on ⟨⟨hx, hx2⟩, ?_⟩
  refine h_p 8 ⟨hx, hx2⟩ ?_ (hrun := fun w' h => by obtain ⟨h1, h2⟩ := h; exact yl)
  refine h_nil ?_
  refine go ?_
  exact end_one Tryz.results70 rfl ⟨rfl, g12.trans (g3.trans (g4.trans g5))⟩

end Go.Proofs.YtdpjjgjeodippaaGreat
