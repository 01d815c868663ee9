/- Texts laid together: F95 F96 F97 F98 F99. -/
import Derived.Test.YtablpijnjkncfaaGreatF42
import Derived.Test.YtablpijnjkncfaaGreatPH
import Derived.Test.YtablpijnjkncfaaGreatLA
import Derived.Test.YtablpijnjkncfaaGreatSg
import Derived.Test.YtablpijnjkncfaaGreatF35
import Derived.Test.YtablpijnjkncfaaGreatF41
/- Contracts: what sortForms compares by, with the very worlds. -/
namespace Go.Mem
open Go.RowKit
section
variable {P : Program} {ops : Array Oper} {Q : Exit → Fm → World → Prop} {n : Nat} {f : Fm} {w : World} {rest : List Oper} {ty : TypeId} {pos : String} {after : Array Edge} {g : Option (Nat × Bool)} {d : Nat}

theorem s_buildG {B : Nat} {t e : TypeId} {z : Value} {bytes m : Nat} {parts : Array (Nat × Operand)} [ht : SliceTy P t e] [he : CellTy P e z bytes] (vs : List Value)
    (hw : Wants ⟨some d, .buildSlice t m parts, ty, pos, after, g⟩ ops n f) (hd : Nat.ble (d + 1) n = true)
    (hp : parts.toList.map (fun x => (x.1, evo n f x.2)) = (List.range' 0 vs.length).zip vs) (hm : m ≤ 1000000) (hl : vs.length = m) (h1 : ∀ u ∈ vs, u.oneCell' = true) (hB : B ≤ w.heap.size)
    (k : ∀ v w', Own w' B e v vs → Gr w w' → w.grownBy w' none → v.ownBlock = some w.heap.size → WL P ops Q rest n (.upd f d v) w') :
    WL P ops Q (⟨some d, .buildSlice t m parts, ty, pos, after, g⟩ :: rest) n f w := by
  obtain ⟨i, hi, hz, hsz, hby⟩ := he.info
  have hr : ∃ cells : Array Value, (Instr.buildSlice t m (parts.map fun (i, x) => (i, evo n f x))).run P w = .ok (.slice (some ⟨w.heap.size, 0, none⟩) m m) (w.alloc (.cells cells e)) ∧ cells.toList = vs := by
    have hm' : ¬ (16777216 < m * i.size) := by rw [hsz]; omega
    have key : ∀ cs : Array Value, cs.size = m → ∃ cells : Array Value, Instr.fill (fun i => some (i, 1)) cs ((List.range' 0 vs.length).zip vs) = some cells ∧ cells.toList = vs := by
      intro cs hcs
      obtain ⟨cells, c1, c2⟩ := fill_gen vs 0 cs h1 (by omega)
      refine ⟨cells, c1, ?_⟩
      rw [c2, hl, ← hcs]
      simp
    by_cases h0 : m = 0
    · obtain ⟨cells, c1, c2⟩ := key #[] (by simp [h0])
      refine ⟨cells, ?_, c2⟩
      subst h0
      have hv : vs = [] := List.eq_nil_of_length_eq_zero hl
      subst hv
      simp only [List.length_nil, List.range'_zero, List.zip_nil_left, List.map_eq_nil_iff, Array.toList_eq_nil_iff] at hp
      subst hp
      simp [Instr.fill] at c1
      simp [Instr.buildSlice, run_underlying ht.under, sizeOf, typeInfo, hi, Instr.fill, newRow, Array.range_zero', c1]
    · obtain ⟨cells, c1, c2⟩ := key ((Array.range (m * i.size)).map (z.cells[· % z.cells.size]!)) (by simp [hsz])
      refine ⟨cells, ?_, c2⟩
      simp only [hsz, Nat.mul_one] at c1 hm'
      simp [Instr.buildSlice, run_underlying ht.under, sizeOf, typeInfo, zeroValue, hi, hz, hsz, hm', h0, newRow]
      rw [hp, c1]
      rfl
  obtain ⟨cells, hr, hcl⟩ := hr
  refine s_val hw hd (v := .slice (some ⟨w.heap.size, 0, none⟩) m m) (w' := w.alloc (.cells cells e)) ?_ (k _ (w.alloc (.cells cells e)) ?_ (Gr.alloc w _) (World.grownBy_alloc w _ none) rfl)
  · simp [execOp, hr]
  · subst hcl
    refine .inr ⟨w.heap.size, 0, m, cells, by simp [hl], hB, heap_alloc_new w _, by omega, by simp [maxLen]; omega, by simp at hl; omega, ?_⟩
    intro j u hu
    simpa using hu

end
end Go.Mem
namespace Go.Proofs.YtablpijnjkncfaaGreat
open Go.Mem Go.RowKit
set_option linter.unusedVariables false
set_option linter.unusedSimpArgs false

set_option maxHeartbeats 8000000 in
set_option maxRecDepth 100000 in
theorem Compare_eq (v : Value) (v2 : Value) (xs : List Int) (ys : List Int) (w : World) (hv : IL w v xs) (hv2 : IL w v2 ys) :
    Ret Tryz.prog 122 #[v, v2] w fun r w' => r = .int .i64 (cmpL ltI xs ys) ∧ w = w' := by
  have shv := hv.sv
  have shv2 := hv2.sv
  refine enter2 36 Tryz.func122 rfl Tryz.ntmps122 rfl (fun fr => ?_)
  have scap := shv.le
  have scap2 := shv2.le
  refine go ?_
  refine w_loop (fun kk fr w' => ∃ (i : Nat), kk = xs.length - i ∧ i ≤ xs.length ∧ fr 0 = v ∧ fr 1 = v2 ∧ fr 9 = v ∧ fr 10 = .int .i64 xs.length ∧ fr 11 = .int .i64 i ∧ (i ≤ ys.length) ∧ (xs.take i = ys.take i) ∧ w = w') (xs.length)
    ⟨0, rfl, Nat.zero_le _, rfl, rfl, rfl, rfl, rfl, Nat.zero_le _, by simp, rfl⟩ ?_
  rintro kk fr w1 ⟨i, rfl, hi, f0, f1, f9, f10, f11, hle, heq, rfl⟩
  refine know (t := 0) f0 ?_; refine know (t := 1) f1 ?_; refine know (t := 9) f9 ?_; refine know (t := 10) f10 ?_; refine know (t := 11) f11 ?_
  refine go ?_
  refine cond_dec rfl (fun hlt => ?_) (fun hge => ?_)
  · refine go ?_
    refine cond_dec rfl (fun hov => ?_) (fun hov => ?_)
    · obtain rfl : i = ys.length := by omega
      have e := cmpL_over (lt := ltI) heq (by omega)
      refine go ?_
      exact end_one Tryz.results122 rfl ⟨by rw [e], rfl⟩
    refine go ?_
    refine go ?_
    refine s_call2 (wn rfl) rfl rfl rfl (cmpCompare_any _ _ _) ?_
    rintro _ _ ⟨rfl, rfl⟩
    refine go ?_
    refine cond_dec rfl (fun hne => ?_) (fun hne => ?_)
    · have e := cmpL_at heq (by omega) (by omega) hne
      refine go ?_
      exact end_one Tryz.results122 rfl ⟨by rw [e], rfl⟩
    have hz := cmpI_zero.1 (Decidable.not_not.1 hne)
    refine go ?_
    refine ⟨xs.length - (i + 1), by omega, i + 1, rfl, by omega, rfl, rfl, rfl, rfl, rfl, by omega, take_gi_eq (by omega) (by omega) heq hz, rfl⟩
  obtain rfl : i = xs.length := by omega
  have e := cmpL_end (lt := ltI) heq hle
  refine go ?_
  refine cond_dec rfl (fun hsh => ?_) (fun hsh => ?_)
  · rw [if_pos (by omega)] at e
    refine go ?_
    exact end_one Tryz.results122 rfl ⟨by rw [e], rfl⟩
  rw [if_neg (by omega)] at e
  refine go ?_
  exact end_one Tryz.results122 rfl ⟨by rw [e], rfl⟩

set_option maxHeartbeats 8000000 in
set_option maxRecDepth 100000 in
theorem CompareFunc_eq (v : Value) (v2 : Value) (xss : List (List Int)) (yss : List (List Int)) (w : World) (hv : RL w v xss) (hv2 : RL w v2 yss) :
    Ret Tryz.prog 121 #[v, v2, .func (.func 122) #[] #[]] w fun r w' => r = .int .i64 (cmpL lessL xss yss) ∧ w = w' := by
  have shv := hv.sv
  have shv2 := hv2.sv
  refine enter3 39 Tryz.func121 rfl Tryz.ntmps121 rfl (fun fr => ?_)
  have scap := shv.le
  have scap2 := shv2.le
  refine go ?_
  refine w_loop (fun kk fr w' => ∃ (i : Nat), kk = xss.length - i ∧ i ≤ xss.length ∧ fr 0 = v ∧ fr 1 = v2 ∧ fr 2 = .func (.func 122) #[] #[] ∧ fr 11 = v ∧ fr 12 = .int .i64 xss.length ∧ fr 13 = .int .i64 i ∧ (i ≤ yss.length) ∧ (xss.take i = yss.take i) ∧ w = w') (xss.length)
    ⟨0, rfl, Nat.zero_le _, rfl, rfl, rfl, rfl, rfl, rfl, Nat.zero_le _, by simp, rfl⟩ ?_
  rintro kk fr w1 ⟨i, rfl, hi, f0, f1, f2, f11, f12, f13, hle, heq, rfl⟩
  refine know (t := 0) f0 ?_; refine know (t := 1) f1 ?_; refine know (t := 2) f2 ?_; refine know (t := 11) f11 ?_; refine know (t := 12) f12 ?_; refine know (t := 13) f13 ?_
  refine go ?_
  refine cond_dec rfl (fun hlt => ?_) (fun hge => ?_)
  · obtain ⟨u, hu, hcu⟩ := hv.row (j := (i : Int)) (by omega) hlt
    have su := hu.sv
    refine go ?_
    refine cond_dec rfl (fun hov => ?_) (fun hov => ?_)
    · obtain rfl : i = yss.length := by omega
      have e := cmpL_over (lt := lessL) heq (by omega)
      refine go ?_
      exact end_one Tryz.results121 rfl ⟨by rw [e], rfl⟩
    obtain ⟨u2, hu2, hcu2⟩ := hv2.row (j := (i : Int)) (by omega) (by omega)
    have su2 := hu2.sv
    refine go ?_
    refine s_callV2 (wn rfl) rfl rfl rfl rfl (Compare_eq _ _ _ _ _ hu hu2) ?_
    rintro _ _ ⟨rfl, rfl⟩
    refine go ?_
    refine cond_dec rfl (fun hne => ?_) (fun hne => ?_)
    · have e := cmpR_at heq (by omega) (by omega) hne
      refine go ?_
      exact end_one Tryz.results121 rfl ⟨by rw [e], rfl⟩
    have hz := (cmpL_zero _ _).1 (Decidable.not_not.1 hne)
    refine go ?_
    refine ⟨xss.length - (i + 1), by omega, i + 1, rfl, by omega, rfl, rfl, rfl, rfl, rfl, rfl, by omega, take_gr_eq (by omega) (by omega) heq hz, rfl⟩
  obtain rfl : i = xss.length := by omega
  have e := cmpL_end (lt := lessL) heq hle
  refine go ?_
  refine cond_dec rfl (fun hsh => ?_) (fun hsh => ?_)
  · rw [if_pos (by omega)] at e
    refine go ?_
    exact end_one Tryz.results121 rfl ⟨by rw [e], rfl⟩
  rw [if_neg (by omega)] at e
  refine go ?_
  exact end_one Tryz.results121 rfl ⟨by rw [e], rfl⟩

set_option maxHeartbeats 8000000 in
set_option maxRecDepth 100000 in
theorem compareManiplexes_gr (v : Value) (v2 : Value) (xss : List (List Int)) (yss : List (List Int)) (w : World) (hv : RL w v xss) (hv2 : RL w v2 yss) :
    Ret Tryz.prog 94 #[.agg #[v], .agg #[v2]] w fun r w' => r = .int .i64 (cmpL lessL xss yss) ∧ Gr w w' := by
  have shv := hv.sv
  have shv2 := hv2.sv
  refine enter2 10 Tryz.func94 rfl Tryz.ntmps94 rfl (fun fr => ?_)
  refine go ?_
  refine s_boxG (wn rfl) rfl rfl (agg_cells shv) (fun w1 p hx g1 hp => ?_)
  have b1 := g1.below
  replace hv := hv.below b1
  replace hv2 := hv2.below b1
  refine go ?_
  refine s_boxG (wn rfl) rfl rfl (agg_cells shv2) (fun w2 p2 hx2 g2 hp2 => ?_)
  have b2 := g2.below
  replace hv := hv.below b2
  replace hv2 := hv2.below b2
  replace hx := cell_below hx b2
  have g12 := g1.trans g2
  refine go ?_
  refine s_call3 (wn rfl) rfl rfl rfl rfl (CompareFunc_eq _ _ _ _ _ hv hv2) ?_
  rintro _ _ ⟨rfl, rfl⟩
  refine go ?_
  exact end_one Tryz.results94 rfl ⟨rfl, g12⟩

set_option maxHeartbeats 8000000 in
set_option maxRecDepth 100000 in
theorem cmpOr_eq (v : Value) (a b : Int) (w : World) (hv : IL w v [a, b]) :
    Ret Tryz.prog 97 #[v] w fun r w' => r = .int .i64 (if a ≠ 0 then a else b) ∧ w = w' := by
  have shv := hv.sv
  have hl : ([a, b] : List Int).length = 2 := rfl
  rw [hl] at shv
  refine enter1 18 Tryz.func97 rfl Tryz.ntmps97 rfl (fun fr => ?_)
  refine go ?_
  refine w_loop (fun kk fr w' => ∃ i : Nat, kk = 2 - i ∧ i ≤ 2 ∧ fr 3 = .int .i64 0 ∧ fr 6 = v ∧ fr 7 = .int .i64 (2 : Nat) ∧ fr 8 = .int .i64 i ∧ (1 ≤ i → a = 0) ∧ (2 ≤ i → b = 0) ∧ w = w') 2
    ⟨0, rfl, by omega, rfl, rfl, rfl, rfl, by omega, by omega, rfl⟩ ?_
  rintro kk fr w1 ⟨i, rfl, hi, f3, f6, f7, f8, ha, hb, rfl⟩
  refine know (t := 3) f3 ?_; refine know (t := 6) f6 ?_; refine know (t := 7) f7 ?_; refine know (t := 8) f8 ?_
  have h01 : i = 0 ∨ i = 1 ∨ i = 2 := by omega
  have hga : gi [a, b] ((0 : Nat) : Int) = a := rfl
  have hgb : gi [a, b] ((1 : Nat) : Int) = b := rfl
  refine go ?_
  refine cond_dec rfl (fun hlt => ?_) (fun hge => ?_)
  · rcases h01 with rfl | rfl | rfl
    · refine go ?_
      rw [hga]
      refine cond_dec rfl (fun hne => ?_) (fun hne => ?_)
      · refine go ?_
        exact end_one Tryz.results97 rfl ⟨by rw [if_pos hne], rfl⟩
      · refine go ?_
        exact ⟨1, by omega, 1, rfl, by omega, rfl, rfl, rfl, rfl, fun _ => Decidable.not_not.1 hne, by omega, rfl⟩
    · refine go ?_
      rw [hgb]
      have ha0 := ha (by omega)
      refine cond_dec rfl (fun hne => ?_) (fun hne => ?_)
      · refine go ?_
        exact end_one Tryz.results97 rfl ⟨by rw [if_neg (fun h => h ha0)], rfl⟩
      · refine go ?_
        exact ⟨0, by omega, 2, rfl, by omega, rfl, rfl, rfl, rfl, fun _ => ha0, fun _ => Decidable.not_not.1 hne, rfl⟩
    · omega
  · have hi2 : i = 2 := by omega
    have ha0 := ha (by omega)
    have hb0 := hb (by omega)
    refine go ?_
    exact end_one Tryz.results97 rfl ⟨by rw [if_neg (fun h => h ha0), hb0], rfl⟩

set_option maxHeartbeats 8000000 in
set_option maxRecDepth 100000 in
theorem sortForms1_gr (v : Value) (v2 : Value) (xss : List (List Int)) (yss : List (List Int)) (w : World) (hv : RL w v xss) (hv2 : RL w v2 yss) (r1 : 1 ≤ xss.length) (r2 : 1 ≤ yss.length) :
    Ret Tryz.prog 96 #[.agg #[v], .agg #[v2]] w fun r w' => r = .int .i64 (cmpM xss yss) ∧ Gr w w' := by
  have shv := hv.sv
  have shv2 := hv2.sv
  refine enter2 13 Tryz.func96 rfl Tryz.ntmps96 rfl (fun fr => ?_)
  refine go ?_
  refine s_boxG (wn rfl) rfl rfl (agg_cells shv) (fun w1 p hx g1 hp => ?_)
  have b1 := g1.below
  replace hv := hv.below b1
  replace hv2 := hv2.below b1
  refine go ?_
  refine s_boxG (wn rfl) rfl rfl (agg_cells shv2) (fun w2 p2 hx2 g2 hp2 => ?_)
  have b2 := g2.below
  replace hv := hv.below b2
  replace hv2 := hv2.below b2
  replace hx := cell_below hx b2
  have g12 := g1.trans g2
  refine go ?_
  refine region_hG (fun w' => w'.cell? p = some v ∧ w'.cell? p2 = some v2) mixed (fun w3 g3 => ?_)
  have b3 := g3.below
  replace hv := hv.below b3
  replace hv2 := hv2.below b3
  replace hx := cell_below hx b3
  replace hx2 := cell_below hx2 b3
  refine h_p 3 ⟨hx, hx2⟩ ?_ (hrun := fun w' h => by obtain ⟨h1, h2⟩ := h; exact yl)
  refine h_p 4 ⟨hx, hx2⟩ ?_ (hrun := fun w' h => by obtain ⟨h1, h2⟩ := h; exact yl)
  refine h_one 0 ?_
  refine s_call1 (wn rfl) rfl rfl (flags_any _ _ _ _ hx hv r1) ?_
  rintro _ _ ⟨rfl, rfl⟩
  refine w_nil ?_
  refine h_on ⟨⟨hx, hx2⟩, ?_⟩
  refine h_one 1 ?_
  refine s_call1 (wn rfl) rfl rfl (flags_any _ _ _ _ hx2 hv2 r2) ?_
  rintro _ _ ⟨rfl, rfl⟩
  refine w_nil ?_
  refine h_on ⟨⟨hx, hx2⟩, ?_⟩
  refine h_one 2 ?_
  refine s_call2 (wn rfl) rfl rfl rfl (cmpCompare_any _ _ _) ?_
  rintro _ _ ⟨rfl, rfl⟩
  refine w_nil ?_
  refine h_on ⟨⟨hx, hx2⟩, ?_⟩
  refine h_one 5 ?_
  refine s_call2 (wn rfl) rfl rfl rfl (compareManiplexes_gr _ _ _ _ _ hv hv2) ?_
  rintro _ w4 ⟨rfl, g4⟩
  have b4 := g4.below
  replace hx := cell_below hx b4
  replace hx2 := cell_below hx2 b4
  refine w_nil ?_
  refine h_on ⟨⟨hx, hx2⟩, ?_⟩
  refine h_one 6 ?_
  refine s_buildG (B := w4.heap.size) [.int .i64 (cmpI (nf xss) (nf yss)), .int .i64 (cmpL lessL xss yss)] (wn rfl) rfl rfl (by decide) rfl (by simp [Value.oneCell']) (Nat.le_refl _) (fun tb w5 ht g5 _ _ => ?_)
  have b5 := g5.below
  replace hx := cell_below hx b5
  replace hx2 := cell_below hx2 b5
  refine w_nil ?_
  refine h_on ⟨⟨hx, hx2⟩, ?_⟩
  refine h_one 7 ?_
  have hti : IL w5 tb [cmpI (nf xss) (nf yss), cmpL lessL xss yss] := ⟨ht.rd⟩
  refine s_call1 (wn rfl) rfl rfl (cmpOr_eq _ _ _ _ hti) ?_
  rintro _ _ ⟨rfl, rfl⟩
  refine w_nil ?_
  refine h_on ⟨⟨hx, hx2⟩, ?_⟩
  refine h_p 8 ⟨hx, hx2⟩ ?_ (hrun := fun w' h => by obtain ⟨h1, h2⟩ := h; exact yl)
  refine h_nil ?_
  refine go ?_
  exact end_one Tryz.results96 rfl ⟨rfl, g12.trans (g3.trans (g4.trans g5))⟩

end Go.Proofs.YtablpijnjkncfaaGreat

/- Contract: slices.SortFunc at maniplexes. -/
namespace Go.Mem
open Go.RowKit Go.Sort Go.Proofs
set_option linter.unusedVariables false
section
variable {w : World} {B : Nat} {T : TypeId} {v : Value} {vs : List Value}
/-- an owned list that is not empty lies in a block -/
theorem Own.place (h : Own w B T v vs) (hne : vs ≠ []) : ∃ g off cap, v = .slice (some ⟨g, off, none⟩) vs.length cap ∧ B ≤ g ∧ g < w.heap.size ∧ vs.length ≤ cap ∧ Holds id w g off vs.toArray := by
  rcases h with ⟨_, e⟩ | ⟨g, off, cap, cur, e, hb, hg, hl, hc, hs, hx⟩
  · exact absurd e hne
  · refine ⟨g, off, cap, e, hb, (Array.getElem?_eq_some_iff.1 hg).1, hl, fun j hj => ⟨?_, ?_⟩⟩
    · have hj' : j < vs.length := by simpa using hj
      have hu := hx j vs[j] (by simp [hj'])
      have he : vs.toArray[j]! = vs[j] := by rw [getElem!_pos vs.toArray j hj]; simp
      show _ = some (vs.toArray[j]!)
      rw [he]
      simp [World.cell?, hg, hu]
    · simp [World.frozen?, hg]
/-- other values have been laid in the place of an owned list -/
theorem Own.put {g off cap : Nat} (h : Own w B T (.slice (some ⟨g, off, none⟩) vs.length cap) vs) {zs : Array Value} (hz : zs.size = vs.length) (n : Nat) (os : Array Obj) :
    Own (grow (putRow id (Sort.ahead w n) g off zs) os) B T (.slice (some ⟨g, off, none⟩) vs.length cap) zs.toList ∧ w.grownBy (grow (putRow id (Sort.ahead w n) g off zs) os) (some g) := by
  rcases h with ⟨e, _⟩ | ⟨g', off', cap', cur, e, hb, hg, hl, hc, hs, hx⟩
  · cases e
  · injection e with e1 e2 e3
    injection e1 with e1
    injection e1 with f1 f2 f3
    subst f1 f2 e3
    have hlt := (Array.getElem?_eq_some_iff.1 hg).1
    have hg1 : (putRow id (Sort.ahead w n) g off zs).heap[g]? = some (.cells (putCells id off zs cur) T (0, 0)) := by
      unfold putRow mapBlock
      have : (Sort.ahead w n).heap = w.heap := rfl
      simp [Array.getElem?_modify, hg, onCells]
    have hg2 : (grow (putRow id (Sort.ahead w n) g off zs) os).heap[g]? = some (.cells (putCells id off zs cur) T (0, 0)) := by
      rw [heap_grow_old _ os (by simpa using hlt)]; exact hg1
    refine ⟨.inr ⟨g, off, cap, _, by rw [show zs.toList.length = vs.length by simp [hz]], hb, hg2, by rw [Array.length_toList]; omega, hc, by simpa [putCells] using hs, fun i u hu => ?_⟩, ⟨rfl, rfl, rfl, by simp, fun b hb hne => ?_⟩⟩
    · have hi : i < zs.size := by
        have := (List.getElem?_eq_some_iff.1 hu).1
        simpa using this
      rw [Array.getElem?_toList, Array.getElem?_eq_getElem hi] at hu
      obtain rfl := Option.some.inj hu
      have hc0 : off + i < cur.size := by omega
      simp only [putCells, Array.getElem?_mapIdx, Array.getElem?_eq_getElem hc0, Option.map_some]
      rw [if_pos (by omega), show off + i - off = i by omega]
      show some (zs[i]!) = _
      rw [getElem!_pos zs i hi]
    · rw [heap_grow_old _ os (by simpa using hb)]
      have : b ≠ g := fun e => hne (by rw [e])
      show ((Sort.ahead w n).heap.modify g _)[b]? = _
      rw [Array.getElem?_modify, if_neg (fun e => this e.symm)]
      rfl
end
/-- the order of the forms at places of a list -/
def cmpAt (mss : List (List (List Int))) (n : Nat) (i j : Fin n) : Int := cmpM (mss.getD i.1 []) (mss.getD j.1 [])
theorem cmpAt_swo (mss : List (List (List Int))) (n : Nat) : SWO (Go.Proofs.ltOf (cmpAt mss n)) := by
  have h := befM_sto
  have e : ∀ x y, Go.Proofs.ltOf (cmpAt mss n) x y = befM (mss.getD x.1 []) (mss.getD y.1 []) := fun x y => cmpM_neg _ _
  refine ⟨fun x => by rw [e]; exact h.irr _, fun x y z h1 h2 => ?_, fun x y z h1 h2 => ?_⟩
  · rw [e] at *; exact h.tr _ _ _ h1 h2
  · rw [e] at *
    cases h3 : befM (mss.getD x.1 []) (mss.getD z.1 []) with
    | false => rfl
    | true =>
      by_cases hxy : mss.getD x.1 [] = mss.getD y.1 []
      · rw [hxy, h2] at h3; cases h3
      · rcases h.tri _ _ hxy with h4 | h4
        · rw [h1] at h4; cases h4
        · have := h.tr _ _ _ h4 h3
          rw [h2] at this; cases this
/-- the places of a list, as an array -/
theorem flat_one {n : Nat} [Inhabited (Fin n)] {vs : List Value} (hn : n = vs.length) (d : Array (Fin n)) : (flatK (fun i : Fin n => [vs.getD i.1 undef]) 1 d).toList = d.toList.map fun i => vs.getD i.1 undef := by
  apply List.ext_getElem
  · simp
  · intro t h1 h2
    have ht : t < d.size := by simpa using h2
    have := get_flatK (fun i : Fin n => [vs.getD i.1 undef]) 1 d t (by omega)
    have h3 : t < (flatK (fun i : Fin n => [vs.getD i.1 undef]) 1 d).size := by simp; omega
    rw [getElem!_pos _ t h3] at this
    rw [Array.getElem_toList, this, List.getElem_map, Array.getElem_toList]
    have e1 : t / 1 = t := Nat.div_one t
    have e2 : t % 1 = 0 := Nat.mod_one t
    rw [e1, e2, getElem!_pos d t ht]
    rfl
end Go.Mem
namespace Go.Proofs.YtablpijnjkncfaaGreat
open Go.Mem Go.RowKit
set_option linter.unusedVariables false
set_option linter.unusedSimpArgs false

theorem SortFunc_any (v : Value) (vs : List Value) (mss : List (List (List Int))) (B : Nat) (w : World) (ho : Own w B 26 v vs) (hE : Els w 32 2 vs mss) (hm1 : ∀ m ∈ mss, 1 ≤ m.length) (hne : vs ≠ []) (hl : vs.length ≤ 1000000) :
    Ret Tryz.prog 95 #[v, .func (.func 96) #[] #[]] w fun r w' => ∃ σ : List Nat, σ.Perm (List.range vs.length) ∧ Own w' B 26 v (σ.map fun i => vs.getD i undef) ∧
      (∀ i j : Nat, i < j → j < vs.length → befM (mss.getD (σ.getD j 0) []) (mss.getD (σ.getD i 0) []) = false) ∧ w.grownBy w' v.ownBlock := by
  obtain ⟨g, off, cap, rfl, hb, hlt, hc, hH⟩ := ho.place hne
  have hn : 0 < vs.length := List.length_pos_iff.2 hne
  have hlen := hE.len
  haveI : Inhabited (Fin vs.length) := ⟨⟨0, hn⟩⟩
  have hd0 : ((Array.ofFn fun i : Fin vs.length => i).toList.map fun i => i.1) = List.range vs.length := by
    apply List.ext_getElem
    · simp
    · intro t h1 h2; simp
  have hds : (Array.ofFn fun i : Fin vs.length => i).size = vs.length := by simp
  have hfl : Go.Sort.flatK (fun i : Fin vs.length => [vs.getD i.1 undef]) 1 (Array.ofFn fun i : Fin vs.length => i) = vs.toArray := by
    apply Array.ext'
    rw [flat_one rfl]
    apply List.ext_getElem
    · simp
    · intro t h1 h2
      have ht : t < vs.length := by simpa using h2
      simp [List.getD, ht]
  generalize (Array.ofFn fun i : Fin vs.length => i) = d at *
  have hrow : ∀ x : Fin vs.length, ∃ B' E, OM w B' E 32 2 (vs.getD x.1 undef) (mss.getD x.1 []) := fun x => hE.row x.1 _ _ (by simp [List.getD]) (by have := x.2; simp [List.getD, show x.1 < mss.length by omega])
  have hone : ∀ x : Fin vs.length, (vs.getD x.1 undef).oneCell' = true := fun x => by obtain ⟨_, _, h⟩ := hrow x; exact h.sv.one
  have hr1 : ∀ x : Fin vs.length, 1 ≤ (mss.getD x.1 []).length := fun x => hm1 _ (by
    have := x.2
    have h2 : x.1 < mss.length := by omega
    simp [List.getD, h2])
  have hcmp : CmpLays Tryz.prog 96 #[] (fun i : Fin vs.length => [vs.getD i.1 undef]) 1 (cmpAt mss vs.length) g off d.size w := by
    intro m os dk hs x y
    have hW : w.grownBy (sortWorldK (fun i : Fin vs.length => [vs.getD i.1 undef]) 1 w g off m dk os) (some g) := (ho.put (zs := Go.Sort.flatK (fun i : Fin vs.length => [vs.getD i.1 undef]) 1 dk) (by simp; omega) m os).2
    generalize sortWorldK (fun i : Fin vs.length => [vs.getD i.1 undef]) 1 w g off m dk os = W at *
    have hEW := hE.kept ho (by decide) (by decide) hW
    have gx : ∀ x : Fin vs.length, RL W (vs.getD x.1 undef) (mss.getD x.1 []) := fun x => by
      obtain ⟨_, _, h⟩ := hEW.row x.1 (vs.getD x.1 undef) (mss.getD x.1 []) (by simp [List.getD]) (by have := x.2; simp [List.getD, show x.1 < mss.length by omega])
      exact h.rl
    refine Calls.mono (sortForms1_gr _ _ _ _ W (gx x) (gx y) (hr1 x) (hr1 y)) ?_
    rintro e w' ⟨u, he, hu, q, os', hw⟩
    subst hu
    exact ⟨he, q, os', hw⟩
  have hcon := AnyQ.slices_SortFunc Tryz.laysSortF 1 Tryz.isAgg26 Tryz.sizeOf26 (fun i : Fin vs.length => [vs.getD i.1 undef]) (fun _ => rfl) (fun x u hu => by rw [List.mem_singleton.1 hu]; exact hone x) (cmpAt mss vs.length) (cmpAt_swo mss vs.length) 96 #[] g off cap d w
    (fun args w => (inferInstance : FunTy Tryz.prog 96).enters args w) hcmp (by show Sort.Holds id w g off (Go.Sort.flatK _ 1 d); rw [hfl]; exact hH) hlt (by omega)
  rw [hds] at hcon
  change Calls Tryz.prog 95 _ _ _ at hcon
  refine Calls.mono hcon ?_
  rintro e w' ⟨he, d', n, os, hp, hso, hw⟩
  subst he
  obtain ⟨hp1, _, hp2⟩ := hp
  have hd's : d'.size = vs.length := by omega
  have ep : d'.toList.Perm d.toList := by
    have e1 : (d'.extract 0 vs.length).toList = d'.toList := by rw [Array.toList_extract]; exact List.take_of_length_le (by simp; omega)
    have e2 : (d.extract 0 vs.length).toList = d.toList := by rw [Array.toList_extract]; exact List.take_of_length_le (by simp; omega)
    rw [e1, e2] at hp2; exact hp2
  obtain ⟨o1, o2⟩ := ho.put (zs := Go.Sort.flatK (fun i : Fin vs.length => [vs.getD i.1 undef]) 1 d') (by simp; omega) n os
  have hw2 : w' = Sort.grow (Sort.putRow id (Sort.ahead w n) g off (Go.Sort.flatK (fun i : Fin vs.length => [vs.getD i.1 undef]) 1 d')) os := hw
  rw [← hw2, flat_one rfl] at o1
  rw [← hw2] at o2
  refine ⟨_, rfl, d'.toList.map fun i => i.1, ?_, ?_, fun i j hij hj => ?_, o2⟩
  · have := ep.map (fun i : Fin vs.length => i.1)
    rwa [hd0] at this
  · rw [List.map_map]; exact o1
  · have h1 := hso i j (Nat.zero_le _) hij hj
    have e : Go.Proofs.ltOf (cmpAt mss vs.length) d'[j]! d'[i]! = befM (mss.getD (d'[j]!).1 []) (mss.getD (d'[i]!).1 []) := cmpM_neg _ _
    rw [e] at h1
    have gi : ∀ t : Nat, t < vs.length → (d'.toList.map fun i : Fin vs.length => i.1).getD t 0 = (d'[t]!).1 := fun t ht => by
      rw [getElem!_pos d' t (by omega)]
      simp [List.getD, show t < d'.size by omega]
    rw [gi j hj, gi i (by omega)]
    exact h1
end Go.Proofs.YtablpijnjkncfaaGreat

/- Contracts: slices.CompactFunc and slices.Clone at maniplexes. -/
namespace Go.Mem
open Go.RowKit Go.Lib
set_option linter.unusedVariables false
section
variable {ns : List (List (List Int))} {ws : List Value} {m j : Nat}
/-- the places of the first m at which another one stands than before it -/
def kp (ns : List (List (List Int))) (m : Nat) : List Nat := (List.range m).filter (keeps ns.toArray)
theorem kp_succ : kp ns (m + 1) = kp ns m ++ (if keeps ns.toArray m = true then [m] else []) := by
  unfold kp
  rw [List.range_succ, List.filter_append]
  congr 1
  by_cases h : keeps ns.toArray m = true <;> simp [h]
theorem kp_all (h : ∀ j, j < m → keeps ns.toArray j = true) : kp ns m = List.range m := List.filter_eq_self.2 fun a ha => h a (List.mem_range.1 ha)
theorem kp_len : (kp ns m).length ≤ m := Nat.le_trans (List.length_filter_le _ _) (by simp)
theorem kp_lt : ∀ i ∈ kp ns m, i < m := fun i hi => List.mem_range.1 (List.mem_filter.1 hi).1
theorem keeps_get (h1 : 1 ≤ m) (hm : m < ns.length) : keeps ns.toArray m = true ↔ ns.getD m [] ≠ ns.getD (m - 1) [] := by
  have e : ∀ t, t < ns.length → ns.toArray[t]! = ns.getD t [] := fun t ht => by
    rw [getElem!_pos ns.toArray t (by simpa using ht)]
    simp [List.getD, ht]
  unfold keeps
  rw [e m hm, e (m - 1) (by omega), decide_eq_true_iff]
  constructor
  · rintro (h | h)
    · omega
    · exact h
  · exact .inr
theorem all_getD (ws : List Value) : (List.range ws.length).map (fun i => ws.getD i undef) = ws := by
  apply List.ext_getElem
  · simp
  · intro t h1 h2; simp [List.getD, h2]
/-- the cells while it goes on -/
def cst (ws : List Value) (ns : List (List (List Int))) (m : Nat) : List Value := (kp ns m).map (fun i => ws.getD i undef) ++ ws.drop (kp ns m).length
theorem cst_len (hm : m ≤ ws.length) : (cst ws ns m).length = ws.length := by
  have := kp_len (ns := ns) (m := m)
  simp [cst]; omega
theorem cst_get (h : (kp ns m).length ≤ j) : (cst ws ns m)[j]? = ws[j]? := by
  unfold cst
  rw [List.getElem?_append_right (by simpa using h), List.getElem?_drop, List.length_map]
  congr 1; omega
theorem cst_skip (h : ¬ keeps ns.toArray m = true) : kp ns (m + 1) = kp ns m ∧ cst ws ns (m + 1) = cst ws ns m := by
  have e : kp ns (m + 1) = kp ns m := by rw [kp_succ, if_neg h, List.append_nil]
  exact ⟨e, by unfold cst; rw [e]⟩
theorem cst_take : (cst ws ns m).take (kp ns m).length = (kp ns m).map fun i => ws.getD i undef := by
  unfold cst
  rw [List.take_left' (by simp)]
theorem cst_set (h : keeps ns.toArray m = true) (hm : m < ws.length) : (cst ws ns m).set (kp ns m).length (ws.getD m undef) = cst ws ns (m + 1) ∧ (kp ns (m + 1)).length = (kp ns m).length + 1 := by
  have hl := kp_len (ns := ns) (m := m)
  have e : kp ns (m + 1) = kp ns m ++ [m] := by rw [kp_succ, if_pos h]
  refine ⟨?_, by rw [e]; simp⟩
  unfold cst
  rw [e, List.set_append_right _ _ (by simp)]
  simp only [List.length_map, Nat.sub_self, List.map_append, List.map_cons, List.map_nil, List.length_append, List.length_cons, List.length_nil, List.append_assoc]
  congr 1
  rw [List.drop_eq_getElem_cons (by omega), List.set_cons_zero]
  rfl
end
theorem cut_own {v : Value} {l r g : Nat} (h : (cut v l r).ownBlock = some g) : v.ownBlock = some g := by rw [← cut_block v l r]; exact h
end Go.Mem
namespace Go.Proofs.YtablpijnjkncfaaGreat
open Go.Mem Go.RowKit
set_option linter.unusedVariables false
set_option linter.unusedSimpArgs false
instance : ElTy Tryz.prog 26 (.slice none 0 0) 24 := ⟨info_parts (by kernel_rfl), Tryz.isAgg26, rfl, by decide⟩

set_option maxHeartbeats 8000000 in
set_option maxRecDepth 100000 in
theorem CompactFunc_any (v : Value) (ws : List Value) (ns : List (List (List Int))) (B : Nat) (w : World) (ho : Own w B 26 v ws) (hE : Els w 32 2 ws ns) (hl : ws.length ≤ 1000000) :
    Ret Tryz.prog 99 #[v, .func (.func 100) #[] #[]] w fun r w' => Own w' B 26 r ((kp ns ws.length).map fun i => ws.getD i undef) ∧ w.grownBy w' v.ownBlock ∧ (∀ g, r.ownBlock = some g → v.ownBlock = some g) := by
  have hlen := hE.len
  have shv := ho.sv
  have scap := shv.le
  have hg0 : w.grownBy w v.ownBlock := grownBy_of_below (Below.refl _ _) _
  refine enter2 66 Tryz.func99 rfl Tryz.ntmps99 rfl (fun fr => ?_)
  refine go ?_
  refine cond_dec rfl (fun h2 => ?_) (fun h2 => ?_)
  · refine go ?_
    exact end_one Tryz.results99 rfl ⟨by rw [kp_all (fun j hj => Lib.keeps_lt_one _ j (by omega)), all_getD]; exact ho, hg0, fun _ h => h⟩
  refine go ?_
  refine w_loop (fun kk fr w' => ∃ k : Nat, kk = ws.length - k ∧ 1 ≤ k ∧ k ≤ ws.length ∧ fr 0 = v ∧ fr 1 = .func (.func 100) #[] #[] ∧ fr 5 = .int .i64 k ∧ (∀ j, j < k → Lib.keeps ns.toArray j = true) ∧ w.grownBy w' v.ownBlock ∧ Own w' B 26 v ws) (ws.length - 1)
    ⟨1, rfl, by omega, by omega, rfl, rfl, rfl, Lib.keeps_lt_one _, hg0, ho⟩ ?_
  rintro kk fr w1 ⟨k, rfl, hk1, hk, f0, f1, f5, hall, hg, ho1⟩
  refine know (t := 0) f0 ?_; refine know (t := 1) f1 ?_; refine know (t := 5) f5 ?_
  refine go ?_
  refine cond_dec rfl (fun hlt => ?_) (fun hge => ?_)
  rotate_left
  · obtain rfl : k = ws.length := by omega
    refine go ?_
    exact end_one Tryz.results99 rfl ⟨by rw [kp_all hall, all_getD]; exact ho1, hg, fun _ h => h⟩
  have hkl : k < ws.length := by omega
  have hE1 := hE.kept ho (by decide) (by decide) hg
  have c1 : w1.cell? (addrOf v ((k : Int)).toNat) = some (ws.getD k undef) := by
    rw [show ((k : Int)).toNat = k by omega]
    exact ho1.rd.cell (by simp [List.getD, hkl])
  have c2 : w1.cell? (addrOf v ((k : Int) - 1).toNat) = some (ws.getD (k - 1) undef) := by
    rw [show ((k : Int) - 1).toNat = k - 1 by omega]
    exact ho1.rd.cell (by simp [List.getD, show k - 1 < ws.length by omega])
  obtain ⟨_, _, m1⟩ := hE1.row k (ws.getD k undef) (ns.getD k []) (by simp [List.getD, hkl]) (by simp [List.getD, show k < ns.length by omega])
  obtain ⟨_, _, m2⟩ := hE1.row (k - 1) (ws.getD (k - 1) undef) (ns.getD (k - 1) []) (by simp [List.getD, show k - 1 < ws.length by omega]) (by simp [List.getD, show k - 1 < ns.length by omega])
  have r1 := m1.rl
  have r2 := m2.rl
  clear m1 m2 hE1
  refine go ?_
  refine region_hS (fun w' => w'.cell? (addrOf v ((k : Int)).toNat) = some (ws.getD k undef) ∧ w'.cell? (addrOf v ((k : Int) - 1).toNat) = some (ws.getD (k - 1) undef)) mixed (fun w2 cr => ?_)
  replace hg := grownBy_trans hg (grownBy_of_below cr _)
  replace ho1 := ho1.below cr
  replace c1 := cell_below c1 cr
  replace c2 := cell_below c2 cr
  replace r1 := r1.below cr
  replace r2 := r2.below cr
  refine h_p 0 ⟨c1, c2⟩ ?_ (hrun := fun w' h => by obtain ⟨h1, h2⟩ := h; exact yl)
  refine h_p 1 ⟨c1, c2⟩ ?_ (hrun := fun w' h => by obtain ⟨h1, h2⟩ := h; exact yl)
  refine h_p 2 ⟨c1, c2⟩ ?_ (hrun := fun w' h => by obtain ⟨h1, h2⟩ := h; exact yl)
  refine h_p 3 ⟨c1, c2⟩ ?_ (hrun := fun w' h => y_idxSE rfl rfl shv (by omega) (by omega))
  refine h_p 4 ⟨c1, c2⟩ ?_ (hrun := fun w' h => by obtain ⟨h1, h2⟩ := h; exact yl)
  refine h_p 5 ⟨c1, c2⟩ ?_ (hrun := fun w' h => by obtain ⟨h1, h2⟩ := h; exact yl)
  refine h_p 6 ⟨c1, c2⟩ ?_ (hrun := fun w' h => by obtain ⟨h1, h2⟩ := h; exact yl)
  refine h_p 7 ⟨c1, c2⟩ ?_ (hrun := fun w' h => by obtain ⟨h1, h2⟩ := h; exact yl)
  refine h_p 8 ⟨c1, c2⟩ ?_ (hrun := fun w' h => y_idxSE rfl rfl shv (by omega) (by omega))
  refine h_p 9 ⟨c1, c2⟩ ?_ (hrun := fun w' h => by obtain ⟨h1, h2⟩ := h; exact yl)
  refine h_one 10 ?_
  refine s_callV2 (wn rfl) rfl rfl rfl rfl (sameManiplex_any _ _ _ _ _ r1 r2) ?_
  rintro _ w3 ⟨rfl, hb3⟩
  replace hg := grownBy_trans hg (grownBy_of_below hb3 _)
  replace ho1 := ho1.below hb3
  replace c1 := cell_below c1 hb3
  replace c2 := cell_below c2 hb3
  refine w_nil ?_
  refine h_on ⟨⟨c1, c2⟩, ?_⟩
  refine h_nil ?_
  by_cases he : ns.getD k [] = ns.getD (k - 1) []
  rotate_left
  · rw [decide_eq_false he]
    refine go ?_
    refine ⟨ws.length - (k + 1), by omega, k + 1, rfl, by omega, by omega, rfl, rfl, rfl, fun j hj => ?_, hg, ho1⟩
    by_cases hjk : j = k
    · subst hjk; exact (keeps_get (by omega) (by omega)).2 he
    · exact hall j (by omega)
  rw [decide_eq_true he]
  have hnk : ¬ Lib.keeps ns.toArray k = true := fun h => (keeps_get (by omega) (by omega)).1 h he
  have hk0 : kp ns (k + 1) = List.range k := by rw [(cst_skip (ws := ws) hnk).1, kp_all hall]
  have hk0l : (kp ns (k + 1)).length = k := by rw [hk0]; simp
  have hc0 : cst ws ns (k + 1) = ws := by
    unfold cst
    rw [hk0l, hk0]
    have e1 : (List.range k).map (fun i => ws.getD i undef) = ws.take k := by
      apply List.ext_getElem
      · simp; omega
      · intro t h1 h3
        have ht : t < k := by simpa using h1
        simp [List.getD, show t < ws.length by omega]
    rw [e1, List.take_append_drop]
  refine go ?_
  refine s_p (wn rfl) rfl (y_cut_loE rfl rfl ho1.rd (by omega) (by omega)) ?_
  rw [show ((k : Int)).toNat = k by omega]
  have scut := shv.cut (l := k) (r := ws.length) (by omega) (Nat.le_refl _)
  refine go ?_
  refine w_loop (fun kk fr w' => ∃ k2 : Nat, kk = ws.length - k - k2 ∧ 1 ≤ k2 ∧ k + k2 ≤ ws.length ∧ fr 0 = v ∧ fr 1 = .func (.func 100) #[] #[] ∧ fr 5 = .int .i64 (kp ns (k + k2)).length ∧ fr 6 = cut v k ws.length ∧ fr 7 = .int .i64 k2 ∧ (kp ns (k + k2)).length < k + k2 ∧ w.grownBy w' v.ownBlock ∧ Own w' B 26 v (cst ws ns (k + k2))) (ws.length - k - 1)
    ⟨1, rfl, by omega, by omega, rfl, rfl, by rw [hk0l]; rfl, rfl, rfl, by omega, hg, by rw [hc0]; exact ho1⟩ ?_
  clear hg ho1 c1 c2 r1 r2 hall f0 f1 f5
  rintro kk fr w4 ⟨k2, rfl, h21, h2l, f0, f1, f5, f6, f7, hcl, hg, ho1⟩
  refine know (t := 0) f0 ?_; refine know (t := 1) f1 ?_; refine know (t := 5) f5 ?_; refine know (t := 6) f6 ?_; refine know (t := 7) f7 ?_
  have hcs := cst_len (ws := ws) (ns := ns) (m := k + k2) (by omega)
  refine go ?_
  refine cond_dec rfl (fun hlt2 => ?_) (fun hge2 => ?_)
  rotate_left
  · -- the rest is cleared
    have hm : k + k2 = ws.length := by omega
    have hkl : (kp ns (k + k2)).length ≤ ws.length := by omega
    have he : kp ns ws.length = kp ns (k + k2) := by rw [hm]
    rw [he]
    refine go ?_
    refine s_p (wn rfl) rfl (y_cut_loE rfl rfl ho1.rd (by omega) (by omega)) ?_
    rw [Int.toNat_natCast]
    refine s_clearE (wn rfl) rfl ho1 (by omega) (fun w5 ho5 hg5 => ?_)
    have hg6 := grownBy_trans hg hg5
    rw [cst_take] at ho5
    refine go ?_
    refine s_p (wn rfl) rfl (y_cut_hiE rfl rfl ho5.rd (by omega) (by simp; omega)) ?_
    rw [Int.toNat_natCast]
    have hoc := ho5.cut (l := 0) (r := (kp ns (k + k2)).length) (by omega) (by simp)
    rw [List.take_left' (by simp)] at hoc
    refine go ?_
    exact end_one Tryz.results99 rfl ⟨hoc, hg6, fun g h => cut_own h⟩
  have hml : k + k2 < ws.length := by omega
  have hE1 := hE.kept ho (by decide) (by decide) hg
  have hrc := ho1.rd.cut (l := k) (r := ws.length) (by omega) (by omega)
  have hat : ∀ t : Nat, k + t < ws.length → (kp ns (k + k2)).length ≤ k + t → (((cst ws ns (k + k2)).take ws.length).drop k)[t]? = some (ws.getD (k + t) undef) := fun t ht hle => by
    rw [List.getElem?_drop, List.take_of_length_le (by omega), cst_get hle]
    simp [List.getD, ht]
  have c1 : w4.cell? (addrOf (cut v k ws.length) ((k2 : Int)).toNat) = some (ws.getD (k + k2) undef) := by
    rw [show ((k2 : Int)).toNat = k2 by omega]
    exact hrc.cell (hat k2 (by omega) (by omega))
  have c2 : w4.cell? (addrOf (cut v k ws.length) ((k2 : Int) - 1).toNat) = some (ws.getD (k + (k2 - 1)) undef) := by
    rw [show ((k2 : Int) - 1).toNat = k2 - 1 by omega]
    exact hrc.cell (hat (k2 - 1) (by omega) (by omega))
  rw [show k + (k2 - 1) = k + k2 - 1 by omega] at c2
  obtain ⟨_, _, m1⟩ := hE1.row (k + k2) (ws.getD (k + k2) undef) (ns.getD (k + k2) []) (by simp [List.getD, hml]) (by simp [List.getD, show k + k2 < ns.length by omega])
  obtain ⟨_, _, m2⟩ := hE1.row (k + k2 - 1) (ws.getD (k + k2 - 1) undef) (ns.getD (k + k2 - 1) []) (by simp [List.getD, show k + k2 - 1 < ws.length by omega]) (by simp [List.getD, show k + k2 - 1 < ns.length by omega])
  have r1 := m1.rl
  have r2 := m2.rl
  have hone := m1.sv.one
  clear m1 m2 hE1 hrc
  refine go ?_
  refine region_hS (fun w' => w'.cell? (addrOf (cut v k ws.length) ((k2 : Int)).toNat) = some (ws.getD (k + k2) undef) ∧ w'.cell? (addrOf (cut v k ws.length) ((k2 : Int) - 1).toNat) = some (ws.getD (k + k2 - 1) undef)) mixed (fun w5 cr => ?_)
  replace hg := grownBy_trans hg (grownBy_of_below cr _)
  replace ho1 := ho1.below cr
  replace c1 := cell_below c1 cr
  replace c2 := cell_below c2 cr
  replace r1 := r1.below cr
  replace r2 := r2.below cr
  refine h_p 0 ⟨c1, c2⟩ ?_ (hrun := fun w' h => by obtain ⟨h1, h2⟩ := h; exact yl)
  refine h_p 1 ⟨c1, c2⟩ ?_ (hrun := fun w' h => by obtain ⟨h1, h2⟩ := h; exact yl)
  refine h_p 2 ⟨c1, c2⟩ ?_ (hrun := fun w' h => by obtain ⟨h1, h2⟩ := h; exact yl)
  refine h_p 3 ⟨c1, c2⟩ ?_ (hrun := fun w' h => y_idxSE rfl rfl scut (by omega) (by omega))
  refine h_p 4 ⟨c1, c2⟩ ?_ (hrun := fun w' h => by obtain ⟨h1, h2⟩ := h; exact yl)
  refine h_p 5 ⟨c1, c2⟩ ?_ (hrun := fun w' h => by obtain ⟨h1, h2⟩ := h; exact yl)
  refine h_p 6 ⟨c1, c2⟩ ?_ (hrun := fun w' h => by obtain ⟨h1, h2⟩ := h; exact yl)
  refine h_p 7 ⟨c1, c2⟩ ?_ (hrun := fun w' h => by obtain ⟨h1, h2⟩ := h; exact yl)
  refine h_p 8 ⟨c1, c2⟩ ?_ (hrun := fun w' h => y_idxSE rfl rfl scut (by omega) (by omega))
  refine h_p 9 ⟨c1, c2⟩ ?_ (hrun := fun w' h => by obtain ⟨h1, h2⟩ := h; exact yl)
  refine h_one 10 ?_
  refine s_callV2 (wn rfl) rfl rfl rfl rfl (sameManiplex_any _ _ _ _ _ r1 r2) ?_
  rintro _ w6 ⟨rfl, hb6⟩
  replace hg := grownBy_trans hg (grownBy_of_below hb6 _)
  replace ho1 := ho1.below hb6
  replace c1 := cell_below c1 hb6
  replace c2 := cell_below c2 hb6
  refine w_nil ?_
  refine h_on ⟨⟨c1, c2⟩, ?_⟩
  refine h_p 11 ⟨c1, c2⟩ ?_ (hrun := fun w' h => by obtain ⟨h1, h2⟩ := h; exact yl)
  refine h_nil ?_
  by_cases he2 : ns.getD (k + k2) [] = ns.getD (k + k2 - 1) []
  · rw [decide_eq_true he2]
    have hnk2 : ¬ Lib.keeps ns.toArray (k + k2) = true := fun h => (keeps_get (by omega) (by omega)).1 h he2
    obtain ⟨s1, s2⟩ := cst_skip (ws := ws) hnk2
    refine go ?_
    exact ⟨ws.length - k - (k2 + 1), by omega, k2 + 1, rfl, by omega, by omega, rfl, rfl, by rw [show k + (k2 + 1) = k + k2 + 1 from rfl, s1]; rfl, rfl, rfl, by rw [show k + (k2 + 1) = k + k2 + 1 from rfl, s1]; omega, hg, by rw [show k + (k2 + 1) = k + k2 + 1 from rfl, s2]; exact ho1⟩
  · rw [decide_eq_false he2]
    have hyk : Lib.keeps ns.toArray (k + k2) = true := (keeps_get (by omega) (by omega)).2 he2
    obtain ⟨s1, s2⟩ := cst_set (ws := ws) hyk hml
    refine go ?_
    refine s_p (wn rfl) rfl (y_idxSE rfl rfl scut (by omega) (by omega)) ?_
    refine go ?_
    refine s_p (wn rfl) rfl (y_idxSE rfl rfl shv (by omega) (by omega)) ?_
    rw [Int.toNat_natCast]
    refine s_storeE (wn rfl) rfl rfl hone ho1 (by omega) (fun w7 ho7 hg7 => ?_)
    rw [Int.toNat_natCast, s1] at ho7
    have hg8 := grownBy_trans hg hg7
    refine go ?_
    exact ⟨ws.length - k - (k2 + 1), by omega, k2 + 1, rfl, by omega, by omega, rfl, rfl, by show Value.int _ _ = _; rw [show k + (k2 + 1) = k + k2 + 1 from rfl, s2]; rfl, rfl, rfl, by rw [show k + (k2 + 1) = k + k2 + 1 from rfl, s2]; omega, hg8, ho7⟩
end Go.Proofs.YtablpijnjkncfaaGreat

/- Contracts: clone, the forms sorted, the place of a form. -/
namespace Go.Mem
open Go.RowKit Go.Lib
set_option linter.unusedVariables false
theorem kp_fms {σ : List Nat} {mss : List (List (List Int))} (hp : σ.Perm (List.range mss.length)) (hs : ∀ i j : Nat, i < j → j < mss.length → befM (mss.getD (σ.getD j 0) []) (mss.getD (σ.getD i 0) []) = false) :
    (kp (σ.map fun i => mss.getD i []) mss.length).map (fun i => (σ.map fun i => mss.getD i []).getD i []) = fmsM mss := by
  have hl : σ.length = mss.length := by simpa using hp.length_eq
  have hlt : ∀ j, j < mss.length → σ.getD j 0 < mss.length := fun j hj => by
    have : σ.getD j 0 ∈ σ := by simp [List.getD, hl, hj]
    simpa using hp.mem_iff.1 this
  have hg : ∀ j, j < mss.length → ((σ.map fun i => mss.getD i []).toArray)[j]! = mss.getD (σ.getD j 0) [] := fun j hj => by
    rw [getElem!_pos _ j (by simp [hl, hj])]
    simp [List.getD, hl, hj]
  have hg2 : ∀ j, j < mss.length → (σ.map fun i => mss.getD i []).getD j [] = mss.getD (σ.getD j 0) [] := fun j hj => by
    simp [List.getD, hl, hj]
  have hc := compact_sto befM_sto (d := (σ.map fun i => mss.getD i []).toArray) (fun i j hij hj => by
    have hj' : j < mss.length := by simpa [hl] using hj
    rw [hg j hj', hg i (by omega)]
    exact hs i j hij hj') mss.length (by simp [hl])
  have e : (kp (σ.map fun i => mss.getD i []) mss.length).map (fun i => (σ.map fun i => mss.getD i []).getD i []) = compactUpTo (σ.map fun i => mss.getD i []).toArray mss.length := by
    unfold compactUpTo kp
    refine List.map_congr_left fun i hi => ?_
    have hi' : i < mss.length := List.mem_range.1 (List.mem_filter.1 hi).1
    show _ = (σ.map fun i => mss.getD i []).toArray[i]!
    rw [hg i hi', hg2 i hi']
  rw [e]
  refine fmsM_eq hc.1 fun a => ?_
  rw [hc.2]
  constructor
  · rintro ⟨j, hj, rfl⟩
    rw [hg j hj]
    have hj2 := hlt j hj
    generalize σ.getD j 0 = t at *
    simp [List.getD, hj2]
  · intro ha
    obtain ⟨k, hk, rfl⟩ := List.getElem_of_mem ha
    have hk2 : k ∈ σ := hp.mem_iff.2 (List.mem_range.2 hk)
    obtain ⟨j, hj, e⟩ := List.getElem_of_mem hk2
    refine ⟨j, by omega, ?_⟩
    rw [hg j (by omega)]
    simp [List.getD, hj, e, hk]
/-- values at places of a list -/
theorem Els.pick {w : World} {T U : TypeId} {vs : List Value} {mss : List (List (List Int))} (h : Els w T U vs mss) (σ : List Nat) (hσ : ∀ i ∈ σ, i < vs.length) : Els w T U (σ.map fun i => vs.getD i undef) (σ.map fun i => mss.getD i []) := by
  refine ⟨by simp, fun i u xss hu hx => ?_⟩
  rw [List.getElem?_map] at hu hx
  cases e : σ[i]? with
  | none => rw [e] at hu; cases hu
  | some k =>
    rw [e] at hu hx
    have hk := hσ k (List.mem_of_getElem? e)
    have hl := h.len
    obtain rfl := Option.some.inj hu
    obtain rfl := Option.some.inj hx
    exact h.row k _ _ (by simp [List.getD, hk]) (by simp [List.getD, show k < mss.length by omega])
/-- the place of the first at which p holds -/
def idxM (p : List (List Int) → Bool) (mss : List (List (List Int))) (k : Nat) : Prop := k ≤ mss.length ∧ (∀ j, j < k → p (mss.getD j []) = false) ∧ (k < mss.length → p (mss.getD k []) = true)
end Go.Mem
namespace Go.Proofs.YtablpijnjkncfaaGreat
open Go.Mem Go.RowKit
set_option linter.unusedVariables false
set_option linter.unusedSimpArgs false

set_option maxRecDepth 100000 in
theorem CloneM_any (v : Value) (B' : Nat) (vs : List Value) (w : World) (hv : Own w B' 26 v vs) (h1 : ∀ u ∈ vs, u.oneCell' = true) (hl : vs.length ≤ 1000000) :
    Ret Tryz.prog 104 #[v] w fun r w' => Own w' w.heap.size 26 r vs ∧ Below w.heap.size w w' := by
  have sv := hv.sv
  refine enter1 8 Tryz.func104 rfl Tryz.ntmps104 rfl (fun fr => ?_)
  refine go ?_
  cases hn : nilV v with
  | true =>
    have hx : vs = [] := by
      by_cases h : vs.length = 0
      · exact List.length_eq_zero_iff.1 h
      · rw [nilV_of sv h] at hn; simp at hn
    subst hx
    refine go ?_
    exact end_one Tryz.results104 rfl ⟨Own.nil _ _ _, Below.refl _ _⟩
  | false =>
    refine go ?_
    refine s_buildE (B := w.heap.size) [] (wn rfl) rfl rfl (by decide) rfl (by simp) (Nat.le_refl _) (fun ob w1 ho hg1 _ => ?_)
    have hb1 := below_of_grownBy hg1
    have hv := hv.below hb1
    have hs1 := hb1.size
    refine go ?_
    refine s_appendE (wn rfl) rfl rfl rfl ho hv.rd h1 (by simp; omega) hs1 (fun ob' w2 ho2 hg2 _ => ?_)
    have hb2 := hb1.trans (grownBy_below hg2 hs1 fun k hk => (ho.lt k hk).1)
    refine go ?_
    exact end_one Tryz.results104 rfl ⟨by simpa using ho2, hb2⟩

set_option maxRecDepth 100000 in
theorem sortForms_any (v : Value) (vs : List Value) (mss : List (List (List Int))) (B : Nat) (w : World) (ho : Own w B 26 v vs) (hE : Els w 32 2 vs mss) (hm1 : ∀ m ∈ mss, 1 ≤ m.length) (hne : vs ≠ []) (hl : vs.length ≤ 1000000) :
    Ret Tryz.prog 58 #[v] w fun r w' => ∃ us, Own w' B 26 r us ∧ Els w' 32 2 us (fmsM mss) ∧ w.grownBy w' v.ownBlock := by
  refine enter1 7 Tryz.func58 rfl Tryz.ntmps58 rfl (fun fr => ?_)
  refine go ?_
  refine s_call2 (wn rfl) rfl rfl rfl (SortFunc_any v vs mss B w ho hE hm1 hne hl) ?_
  rintro _ w1 ⟨σ, hp, ho1, hs, hg1⟩
  have hlen := hE.len
  have hσ : σ.length = vs.length := by simpa using hp.length_eq
  have hσlt : ∀ i ∈ σ, i < vs.length := fun i hi => by simpa using hp.mem_iff.1 hi
  have hE1 := (hE.kept ho (by decide) (by decide) hg1).pick σ hσlt
  refine go ?_
  refine s_call2 (wn rfl) rfl rfl rfl (CompactFunc_any v _ _ B w1 ho1 hE1 (by simp; omega)) ?_
  rintro r w2 ⟨ho2, hg2, _⟩
  have hE2 := (hE1.kept ho1 (by decide) (by decide) hg2).pick (kp (σ.map fun i => mss.getD i []) (σ.map fun i => vs.getD i undef).length) (fun i hi => kp_lt i hi)
  have el : (σ.map fun i => vs.getD i undef).length = mss.length := by simp; omega
  rw [el] at hE2 ho2
  rw [kp_fms (by rw [← hlen]; exact hp) (fun i j hij hj => hs i j hij (by omega))] at hE2
  refine go ?_
  exact end_one Tryz.results58 rfl ⟨_, ho2, hE2, grownBy_trans hg1 hg2⟩

set_option maxRecDepth 100000 in
theorem IndexFuncM_any (fn : FuncId) [FunTy Tryz.prog fn] (caps : Array Value) (p : List (List Int) → Bool) (v : Value) (B : Nat) (vs : List Value) (mss : List (List (List Int))) (w : World) (ho : Own w B 26 v vs) (hE : Els w 32 2 vs mss)
    (hf : ∀ (w' : World) (u : Value) (ms : List (List Int)), Below w.heap.size w w' → ms ∈ mss → RL w' u ms → Ret Tryz.prog fn (#[.agg #[u]] ++ caps) w' fun r w'' => r = .bool (p ms) ∧ Below w'.heap.size w' w'') :
    Ret Tryz.prog 105 #[v, .func (.func fn) #[] caps] w fun r w' => (∃ k : Nat, idxM p mss k ∧ r = .int .i64 (if k < mss.length then (k : Int) else -1)) ∧ Below w.heap.size w w' := by
  have hlen := hE.len
  have sv := ho.sv
  rw [hlen] at sv
  have scap := sv.le
  refine enter2 19 Tryz.func105 rfl Tryz.ntmps105 rfl (fun fr => ?_)
  refine go ?_
  refine w_loop (fun kk fr w' => ∃ (i : Nat), kk = mss.length - i ∧ i ≤ mss.length ∧ fr 0 = v ∧ fr 1 = .func (.func fn) #[] caps ∧ fr 7 = .int .i64 mss.length ∧ fr 8 = .int .i64 i ∧ (∀ j, j < i → p (mss.getD j []) = false) ∧ Below w.heap.size w w') mss.length
    ⟨0, rfl, Nat.zero_le _, rfl, rfl, rfl, rfl, fun j hj => by omega, Below.refl _ _⟩ ?_
  rintro kk fr w2 ⟨i, rfl, hi, f0, f1, f7, f8, hall, hb⟩
  have ho2 := ho.below hb
  have hE2 := hE.below hb
  refine know (t := 0) f0 ?_; refine know (t := 1) f1 ?_; refine know (t := 7) f7 ?_; refine know (t := 8) f8 ?_
  refine go ?_
  refine cond_dec rfl (fun hlt => ?_) (fun hge => ?_)
  · have hil : i < mss.length := by omega
    obtain ⟨_, _, hu⟩ := hE2.row i (vs.getD i undef) (mss.getD i []) (by simp [List.getD, show i < vs.length by omega]) (by simp [List.getD, hil])
    have hcu : w2.cell? (addrOf v ((i : Int)).toNat) = some (vs.getD i undef) := by
      rw [show ((i : Int)).toNat = i by omega]
      exact ho2.rd.cell (by simp [List.getD, show i < vs.length by omega])
    have hin : mss.getD i [] ∈ mss := by simp [List.getD, hil]
    refine go ?_
    refine s_p (wn rfl) rfl (y_idxSE rfl rfl sv (by omega) (by omega)) ?_
    refine go ?_
    refine s_callV1 (wn rfl) rfl rfl rfl (hf _ _ _ hb hin hu.rl) ?_
    rintro _ w3 ⟨rfl, hb3⟩
    have hb3 := hb.trans (hb3.mono hb.size)
    refine splitb (p (mss.getD i [])) (fun hp => ?_) (fun hp => ?_)
    · refine go ?_
      exact end_one Tryz.results105 rfl ⟨⟨i, ⟨by omega, hall, fun _ => hp⟩, by rw [if_pos (by omega)]⟩, hb3⟩
    · refine go ?_
      exact ⟨mss.length - (i + 1), by omega, i + 1, rfl, by omega, rfl, rfl, rfl, rfl, fun j hj => by by_cases hji : j = i; (subst hji; exact hp); exact hall j (by omega), hb3⟩
  · obtain rfl : i = mss.length := by omega
    refine go ?_
    exact end_one Tryz.results105 rfl ⟨⟨mss.length, ⟨Nat.le_refl _, hall, fun h => by omega⟩, by rw [if_neg (by omega)]⟩, hb⟩

set_option maxHeartbeats 8000000 in
set_option maxRecDepth 100000 in
/-- the closure that sectionForms hands over -/
theorem sectionForms1_any (u : Value) (ms : List (List Int)) (p q : Addr) (v : Value) (l : Int) (B : Nat) (vs : List Value) (mss : List (List (List Int))) (w : World) (hu : RL w u ms) (hp : w.cell? p = some v) (hq : w.cell? q = some (.int .i64 l)) (ho : Own w B 26 v vs) (hE : Els w 32 2 vs mss) (hl : 0 ≤ l ∧ l < mss.length) :
    Ret Tryz.prog 106 #[.agg #[u], .pointer (some p), .pointer (some q)] w fun r w' => r = .bool (decide (ms = mss.getD l.toNat [])) ∧ Below w.heap.size w w' := by
  have hlen := hE.len
  have shv := hu.sv
  have sv := ho.sv
  rw [hlen] at sv
  refine enter3 11 Tryz.func106 rfl Tryz.ntmps106 rfl (fun fr => ?_)
  refine go ?_
  refine s_box (wn rfl) rfl rfl (agg_cells shv) (fun w1 hx _ hp1 hg1 => ?_)
  have hb1 := below_of_grownBy hg1
  replace hu := hu.below hb1
  replace hp := cell_below hp hb1
  replace hq := cell_below hq hb1
  replace ho := ho.below hb1
  replace hE := hE.below hb1
  generalize (⟨w.heap.size, 0, none⟩ : Addr) = b at *
  have hc : w1.cell? (addrOf v l.toNat) = some (vs.getD l.toNat undef) := ho.rd.cell (by simp [List.getD, show l.toNat < vs.length by omega])
  obtain ⟨_, _, he⟩ := hE.row l.toNat (vs.getD l.toNat undef) (mss.getD l.toNat []) (by simp [List.getD, show l.toNat < vs.length by omega]) (by simp [List.getD, show l.toNat < mss.length by omega])
  have re := he.rl
  refine go ?_
  refine region_hS (fun w' => w'.cell? b = some u ∧ w'.cell? p = some v ∧ w'.cell? q = some (.int .i64 l) ∧ w'.cell? (addrOf v l.toNat) = some (vs.getD l.toNat undef)) mixed (fun w2 cr => ?_)
  replace hu := hu.below cr
  replace re := re.below cr
  replace hx := cell_below hx cr
  replace hp := cell_below hp cr
  replace hq := cell_below hq cr
  replace hc := cell_below hc cr
  have hb2 := hb1.trans (cr.mono hb1.size)
  refine h_p 0 ⟨hx, hp, hq, hc⟩ ?_ (hrun := fun w' h => by obtain ⟨h1, h2, h3, h4⟩ := h; exact yl)
  refine h_p 1 ⟨hx, hp, hq, hc⟩ ?_ (hrun := fun w' h => by obtain ⟨h1, h2, h3, h4⟩ := h; exact yl)
  refine h_p 2 ⟨hx, hp, hq, hc⟩ ?_ (hrun := fun w' h => by obtain ⟨h1, h2, h3, h4⟩ := h; exact yl)
  refine h_p 3 ⟨hx, hp, hq, hc⟩ ?_ (hrun := fun w' h => y_idxSE rfl rfl sv (by omega) (by omega))
  refine h_p 4 ⟨hx, hp, hq, hc⟩ ?_ (hrun := fun w' h => by obtain ⟨h1, h2, h3, h4⟩ := h; exact yl)
  refine h_one 5 ?_
  refine s_call2 (wn rfl) rfl rfl rfl (sameManiplex_any _ _ _ _ _ hu re) ?_
  rintro _ w3 ⟨rfl, hb3⟩
  replace hx := cell_below hx hb3
  replace hp := cell_below hp hb3
  replace hq := cell_below hq hb3
  replace hc := cell_below hc hb3
  have hbz := hb2.trans (hb3.mono hb2.size)
  refine w_nil ?_
  refine h_on ⟨⟨hx, hp, hq, hc⟩, ?_⟩
  refine h_p 6 ⟨hx, hp, hq, hc⟩ ?_ (hrun := fun w' h => by obtain ⟨h1, h2, h3, h4⟩ := h; exact yl)
  refine h_nil ?_
  refine go ?_
  exact end_one Tryz.results106 rfl ⟨rfl, hbz⟩
end Go.Proofs.YtablpijnjkncfaaGreat

/- Contracts: a maniplex's clone. -/
namespace Go.Mem
open Go.RowKit
set_option linter.unusedVariables false
section
variable {P : Program} {ops : Array Oper} {Q : Exit → Fm → World → Prop} {n : Nat} {f : Fm} {w : World} {rest : List Oper} {ty : TypeId} {pos : String} {after : Array Edge} {g : Option (Nat × Bool)} {d : Nat}
variable {S : World → Prop} {fuel : Nat} {listed : Array Bool}
theorem WL.mono2 {o : Oper} {Q' : Exit → Fm → World → Prop} (h : WL P ops Q [o] n f w) (hq : ∀ e f w, Q e f w → Q' e f w) : WL P ops Q' [o] n f w := by
  have hk := h.out
  have hl : ∀ e a w, lift n Q e a w → lift n Q' e a w := by
    rintro e a w ⟨h1, f, h2, h3⟩
    exact ⟨h1, f, h2, hq _ _ _ h3⟩
  refine ⟨?_⟩
  unfold wpList at hk ⊢
  have hnext : ∀ a w, wpList P ops (lift n Q) [] a w → wpList P ops (lift n Q') [] a w := fun a w h => hl _ _ _ h
  split
  · rename_i hw
    rw [if_pos hw] at hk
    rcases hk with hk | ⟨h1, a, w, h2⟩
    · exact .inl (wp_exits hnext (fun c a w h => absurd rfl (h.1 c)) (fun a w h => hl _ _ _ h) hk)
    · exact .inr ⟨h1, a, w, hl _ _ _ h2⟩
  · rename_i hw
    rw [if_neg hw] at hk
    exact hnext _ _ hk

theorem WH.fn_eq {f' : Fm} (e : f.fn = f'.fn) (h : WH P ops S Q fuel listed n f w) : WH P ops S Q fuel listed n f' w := by
  obtain ⟨h⟩ := h
  exact ⟨by rw [← e]; exact h⟩
theorem upd3 {d d2 d3 : Nat} {v v2 v3 : Value} (h1 : d ≠ d2) (h2 : d ≠ d3) (h3 : d2 ≠ d3) : (Fm.upd (.upd (.upd f d v) d2 v2) d3 v3).fn = (Fm.upd (.upd (.upd f d2 v2) d v) d3 v3).fn ∧
    (Fm.upd (.upd (.upd f d v) d2 v2) d3 v3).fn = (Fm.upd (.upd (.upd f d2 v2) d3 v3) d v).fn := by
  constructor
  · funext t
    show (if t = d3 then v3 else if t = d2 then v2 else if t = d then v else f.fn t) = (if t = d3 then v3 else if t = d then v else if t = d2 then v2 else f.fn t)
    repeat' split
    all_goals first | rfl | omega
  · funext t
    show (if t = d3 then v3 else if t = d2 then v2 else if t = d then v else f.fn t) = (if t = d then v else if t = d3 then v3 else if t = d2 then v2 else f.fn t)
    repeat' split
    all_goals first | rfl | omega
/-- two steps in order, and a third that may come up at any time beside them -/
theorem h_tri (i i2 i3 d d2 d3 : Nat) {o o2 o3 : Oper} (J : Value → Value → Value → World → Prop)
    (k1 : WL P ops (seqP (fun f' w' => S w' ∧ ∃ v, f' = .upd f d v ∧ WL P ops (seqP (fun f2 w2 => S w2 ∧ ∃ v2, f2 = .upd (.upd f d v) d2 v2 ∧ WL P ops (seqP (fun f3 w3 => S w3 ∧ ∃ v3, f3 = .upd (.upd (.upd f d v) d2 v2) d3 v3 ∧ J v v2 v3 w3) Q) [o3] n (.upd (.upd f d v) d2 v2) w2) Q) [o2] n (.upd f d v) w') Q) [o] n f w)
    (k2 : WL P ops (seqP (fun f' w' => S w' ∧ ∃ v2, f' = .upd f d2 v2 ∧
      WL P ops (seqP (fun f2 w2 => S w2 ∧ ∃ v, f2 = .upd (.upd f d2 v2) d v ∧ WL P ops (seqP (fun f3 w3 => S w3 ∧ ∃ v3, f3 = .upd (.upd (.upd f d2 v2) d v) d3 v3 ∧ J v v2 v3 w3) Q) [o3] n (.upd (.upd f d2 v2) d v) w2) Q) [o] n (.upd f d2 v2) w' ∧
      WL P ops (seqP (fun f2 w2 => S w2 ∧ ∃ v3, f2 = .upd (.upd f d2 v2) d3 v3 ∧ WL P ops (seqP (fun f3 w3 => S w3 ∧ ∃ v, f3 = .upd (.upd (.upd f d2 v2) d3 v3) d v ∧ J v v2 v3 w3) Q) [o] n (.upd (.upd f d2 v2) d3 v3) w2) Q) [o3] n (.upd f d2 v2) w') Q) [o2] n f w)
    (hJ : ∀ v v2 v3 w', S w' → J v v2 v3 w' → WH P ops S Q fuel (((listed.setIfInBounds i true).setIfInBounds i2 true).setIfInBounds i3 true) n (.upd (.upd (.upd f d v) d2 v2) d3 v3) w')
    (h1 : d ≠ d2 := by decide) (h2 : d ≠ d3 := by decide) (h3 : d2 ≠ d3 := by decide) (hi : ops[i]? = some o := by rfl) (hi2 : ops[i2]? = some o2 := by rfl) (hi3 : ops[i3]? = some o3 := by rfl)
    (hr : Region.ready .any ops listed = [i, i2] := by kernel_rfl) (hr1 : Region.ready .any ops (listed.setIfInBounds i true) = [i2] := by kernel_rfl)
    (hr12 : Region.ready .any ops ((listed.setIfInBounds i true).setIfInBounds i2 true) = [i3] := by kernel_rfl)
    (hr2 : Region.ready .any ops (listed.setIfInBounds i2 true) = [i, i3] := by kernel_rfl) (hr21 : Region.ready .any ops ((listed.setIfInBounds i2 true).setIfInBounds i true) = [i3] := by kernel_rfl)
    (hr23 : Region.ready .any ops ((listed.setIfInBounds i2 true).setIfInBounds i3 true) = [i] := by kernel_rfl)
    (e1 : ((listed.setIfInBounds i2 true).setIfInBounds i true).setIfInBounds i3 true = ((listed.setIfInBounds i true).setIfInBounds i2 true).setIfInBounds i3 true := by kernel_rfl)
    (e2 : ((listed.setIfInBounds i2 true).setIfInBounds i3 true).setIfInBounds i true = ((listed.setIfInBounds i true).setIfInBounds i2 true).setIfInBounds i3 true := by kernel_rfl) : WH P ops S Q (fuel + 3) listed n f w := by
  refine h_two i i2 (k1.mono2 fun e f' w' hq => ?_) (k2.mono2 fun e f' w' hq => ?_) hi hi2 hr
  · cases e with
    | normal =>
      obtain ⟨hs, v, rfl, h⟩ := hq
      refine ⟨hs, h_one i2 (h.mono2 fun e f' w' hq => ?_) hi2 hr1⟩
      cases e with
      | normal =>
        obtain ⟨hs, v2, rfl, h⟩ := hq
        refine ⟨hs, h_one i3 (h.mono2 fun e f' w' hq => ?_) hi3 hr12⟩
        cases e with
        | normal => obtain ⟨hs, v3, rfl, h⟩ := hq; exact ⟨hs, hJ _ _ _ _ hs h⟩
        | _ => exact hq
      | _ => exact hq
    | _ => exact hq
  · cases e with
    | normal =>
      obtain ⟨hs, v2, rfl, ha, hb⟩ := hq
      refine ⟨hs, h_two i i3 (ha.mono2 fun e f' w' hq => ?_) (hb.mono2 fun e f' w' hq => ?_) hi hi3 hr2⟩
      · cases e with
        | normal =>
          obtain ⟨hs, v, rfl, h⟩ := hq
          refine ⟨hs, h_one i3 (h.mono2 fun e f' w' hq => ?_) hi3 hr21⟩
          cases e with
          | normal => obtain ⟨hs, v3, rfl, h⟩ := hq; exact ⟨hs, by rw [e1]; exact (hJ _ _ _ _ hs h).fn_eq (upd3 h1 h2 h3).1⟩
          | _ => exact hq
        | _ => exact hq
      · cases e with
        | normal =>
          obtain ⟨hs, v3, rfl, h⟩ := hq
          refine ⟨hs, h_one i (h.mono2 fun e f' w' hq => ?_) hi hr23⟩
          cases e with
          | normal => obtain ⟨hs, v, rfl, h⟩ := hq; exact ⟨hs, by rw [e2]; exact (hJ _ _ _ _ hs h).fn_eq (upd3 h1 h2 h3).2⟩
          | _ => exact hq
        | _ => exact hq
    | _ => exact hq
end
end Go.Mem
namespace Go.Proofs.YtablpijnjkncfaaGreat
open Go.Mem Go.RowKit
set_option linter.unusedVariables false
set_option linter.unusedSimpArgs false
set_option maxRecDepth 100000 in
theorem CloneI2_any (v : Value) (xs : List Int) (w : World) (hv : IL w v xs) (hl : xs.length ≤ 1000000) :
    Ret Tryz.prog 128 #[v] w fun r w' => OI w' w.heap.size 2 r xs ∧ Below w.heap.size w w' := by
  have sv := hv.sv
  refine enter1 8 Tryz.func128 rfl Tryz.ntmps128 rfl (fun fr => ?_)
  refine go ?_
  cases hn : nilV v with
  | true =>
    have hx : xs = [] := by
      by_cases h : xs.length = 0
      · exact List.length_eq_zero_iff.1 h
      · rw [nilV_of sv h] at hn; simp at hn
    subst hx
    refine go ?_
    exact end_one Tryz.results128 rfl ⟨OI.nil _ _ _, Below.refl _ _⟩
  | false =>
    refine go ?_
    refine s_build0 (B := w.heap.size) (wn rfl) rfl (Nat.le_refl _) (fun ob w1 ho so hg1 _ => ?_)
    have hb1 := below_of_grownBy hg1
    have hv := hv.below hb1
    have h1 := hb1.size
    refine go ?_
    refine s_appendI (wn rfl) rfl rfl rfl ho hv (by simp; omega) h1 (fun ob' w2 ho2 so2 hg2 _ => ?_)
    have hb2 := hb1.trans (ho.below_of hg2 h1)
    refine go ?_
    exact end_one Tryz.results128 rfl ⟨by simpa using ho2, hb2⟩


set_option maxHeartbeats 8000000 in
set_option maxRecDepth 100000 in
theorem cloneManiplex_any (v : Value) (ms : List (List Int)) (w : World) (hv : RL w v ms) (hm : ms.length ≤ 1000) (hr : ∀ xs ∈ ms, xs.length ≤ 1000000) :
    Ret Tryz.prog 107 #[.agg #[v]] w fun r w' => ∃ x, r = .agg #[x] ∧ OM w' w.heap.size w'.heap.size 32 2 x ms ∧ Below w.heap.size w w' := by
  have shv := hv.sv
  have hb := Below.refl w.heap.size w
  refine enter1 22 Tryz.func107 rfl Tryz.ntmps107 rfl (fun fr => ?_)
  refine go ?_
  refine s_box (wn rfl) rfl rfl (agg_cells shv) (fun w1 hbx _ hp hg => ?_)
  have hb1 := below_of_grownBy hg
  have sw1 := hb1.size
  replace hv := hv.below hb1
  replace hb := hb.trans (hb1.mono hb.size)
  clear hg hp hb1
  generalize (⟨w.heap.size, 0, none⟩ : Addr) = p at *
  have sz0 := hb.size
  refine go ?_
  refine s_alloc (B := w.heap.size) (wn rfl) rfl (by first | exact Nat.le_refl _ | omega) (fun w2 p4 hx4 hg2 hpp4 => ?_)
  have hb2 := below_of_grownBy hg2
  have sw2 := hb2.size
  replace hv := hv.below hb2
  replace hbx := cell_below hbx hb2
  replace hb := hb.trans (hb2.mono hb.size)
  have hlt_hx4 := hx4.lt
  have sz1 := hb.size
  have sbs1 := hb.size
  have hv_b1 := hv
  have hbx_b1 := hbx
  have hx4_b1 := hx4
  have hbB1 := Below.refl w2.heap.size w2
  refine go ?_
  refine s_alloc (B := w2.heap.size) (wn rfl) rfl (by first | exact Nat.le_refl _ | omega) (fun w3 p5 hx5 hg3 hpp5 => ?_)
  have hb3 := below_of_grownBy hg3
  have sw3 := hb3.size
  replace hv := hv.below hb3
  replace hbx := cell_below hbx hb3
  replace hx4 := hx4.below hb3
  replace hbB1 := hbB1.trans (hb3.mono hbB1.size)
  have hlt_hx5 := hx5.lt
  refine go ?_
  refine w_loop (fun kk fr w' => ∃ (i : Nat) (ob : Value), kk = ms.length - i ∧ i ≤ ms.length ∧ fr 2 = .pointer (some p4) ∧ fr 3 = .pointer (some p5) ∧ fr 7 = v ∧ fr 8 = .int .i64 ms.length ∧ fr 9 = .int .i64 i ∧ (Bx w' w2.heap.size p5 26 ob) ∧ (OM w' w3.heap.size w'.heap.size 32 2 ob (ms.take i)) ∧ (w3.heap.size ≤ w'.heap.size) ∧ Below w2.heap.size w2 w') (ms.length)
    ⟨0, _, rfl, Nat.zero_le _, rfl, rfl, rfl, rfl, rfl, hx5, OM.nil _ _ _ _ _, Nat.le_refl _, hbB1⟩ ?_
  rintro kk fr w4 ⟨i, ob, rfl, hi, f2, f3, f7, f8, f9, hx5, ho, hge5, hbB1⟩
  have sw4 := hbB1.size
  have hv := hv_b1.below hbB1
  have hbx := cell_below hbx_b1 hbB1
  have hx4 := hx4_b1.below hbB1
  have sho := ho.sv
  refine know (t := 2) f2 ?_; refine know (t := 3) f3 ?_; refine know (t := 7) f7 ?_; refine know (t := 8) f8 ?_; refine know (t := 9) f9 ?_
  refine go ?_
  refine cond_dec rfl (fun hlt => ?_) (fun hge => ?_)
  · have hil : i < ms.length := by omega
    have hrl := hr _ (gr_in hil)
    obtain ⟨u, hu, hcu⟩ := hv.row (j := (i : Int)) (by omega) hlt
    have su := hu.sv
    have hc5 := hx5.cell
    refine go ?_
    refine region_hS (fun w' => Below w2.heap.size w2 w') mixed (fun w5 hb5 => ?_)
    have sw5 := hb5.size
    replace hv := hv.below hb5
    replace hbx := cell_below hbx hb5
    replace hx4 := hx4.below hb5
    replace ho := ho.below hb5
    replace hx5 := hx5.below hb5
    replace hu := hu.below hb5
    replace hcu := cell_below hcu hb5
    replace hc5 := cell_below hc5 hb5
    replace hbB1 := hbB1.trans (hb5.mono hbB1.size)
    refine h_p 0 hbB1 ?_
    refine h_p 2 hbB1 ?_
    refine h_tri 1 3 4 14 16 17 (fun a b e w' => a = ob ∧ OI w' w5.heap.size 2 b (gr ms i) ∧ Own w' w2.heap.size 32 e [b] ∧ Below w5.heap.size w5 w') ?_ ?_ ?_
    · refine s_p (wn rfl) rfl (y_ldc rfl hc5) ?_
      refine w_nil ?_
      refine ⟨hbB1, _, rfl, ?_⟩
      refine s_call1 (wn rfl) rfl rfl (CloneI2_any _ _ _ hu (by omega)) ?_
      rintro _ wk ⟨hk1, hk2⟩
      refine w_nil ?_
      have hbk := hbB1.trans (hk2.mono hbB1.size)
      refine ⟨hbk, _, rfl, ?_⟩
      refine s_build1V (B := w2.heap.size) (wn rfl) rfl rfl hk1.sv.one (by have := hbk.size; omega) (fun tb wt ht st hgt _ => ?_)
      refine w_nil ?_
      have hbt := below_of_grownBy hgt
      have hbk2 := hbk.trans (hbt.mono hbk.size)
      exact ⟨hbk2, _, rfl, ⟨rfl, hk1.below hbt, ht, hk2.trans (hbt.mono hk2.size)⟩⟩
    · refine s_call1 (wn rfl) rfl rfl (CloneI2_any _ _ _ hu (by omega)) ?_
      rintro _ wk ⟨hk1, hk2⟩
      refine w_nil ?_
      have hbk := hbB1.trans (hk2.mono hbB1.size)
      refine ⟨hbk, _, rfl, ?_, ?_⟩
      · refine s_p (wn rfl) rfl (y_ldc rfl (cell_below hc5 hk2)) ?_
        refine w_nil ?_
        refine ⟨hbk, _, rfl, ?_⟩
        refine s_build1V (B := w2.heap.size) (wn rfl) rfl rfl hk1.sv.one (by have := hbk.size; omega) (fun tb wt ht st hgt _ => ?_)
        refine w_nil ?_
        have hbt := below_of_grownBy hgt
        have hbk2 := hbk.trans (hbt.mono hbk.size)
        exact ⟨hbk2, _, rfl, ⟨rfl, hk1.below hbt, ht, hk2.trans (hbt.mono hk2.size)⟩⟩
      · refine s_build1V (B := w2.heap.size) (wn rfl) rfl rfl hk1.sv.one (by have := hbk.size; omega) (fun tb wt ht st hgt _ => ?_)
        refine w_nil ?_
        have hbt := below_of_grownBy hgt
        have hbk2 := hbk.trans (hbt.mono hbk.size)
        refine ⟨hbk2, _, rfl, ?_⟩
        refine s_p (wn rfl) rfl (y_ldc rfl (cell_below hc5 (hk2.trans (hbt.mono hk2.size)))) ?_
        refine w_nil ?_
        exact ⟨hbk2, _, rfl, ⟨rfl, hk1.below hbt, ht, hk2.trans (hbt.mono hk2.size)⟩⟩
    rintro _ rb tb w6 _ ⟨rfl, hr1, ht, hb6⟩
    have sw6 := hb6.size
    replace hv := hv.below hb6
    replace hbx := cell_below hbx hb6
    replace hx4 := hx4.below hb6
    replace ho := ho.below hb6
    replace hx5 := hx5.below hb6
    replace hu := hu.below hb6
    replace hcu := cell_below hcu hb6
    replace hc5 := cell_below hc5 hb6
    replace hbB1 := hbB1.trans (hb6.mono hbB1.size)
    replace hr1 := hr1.mono (B' := w4.heap.size) (by omega)
    refine h_one 5 ?_
    have szq7 := hbB1.size
    refine s_appendM (wn rfl) rfl rfl rfl ho ht.rd hr1 (by omega) (by decide) (by simp; omega) (by omega) (fun ob' w7 hoN so hgN => ?_)
    have sw7 := hgN.size
    replace hbB1 := hbB1.trans ((ho.below_of hgN (by omega)).mono (by omega))
    replace hx5 := hx5.kept hgN (by intro e; have := (ho.ownlt _ e).1; omega)
    replace ho := hoN
    clear hoN
    replace hv := hv_b1.below hbB1
    replace hbx := cell_below hbx_b1 hbB1
    replace hx4 := hx4_b1.below hbB1
    refine w_nil ?_
    refine h_on ⟨hbB1, ?_⟩
    refine h_p 6 hbB1 ?_
    refine h_one 7 ?_
    refine s_storeFld (wn rfl) rfl rfl so.one hx5 (fun w8 hxN hgN => ?_)
    have sw8 := hgN.size
    replace hbB1 := hbB1.trans (hx5.below_of hgN (by omega))
    replace ho := (ho.kept hgN (by omega)).top
    replace hx5 := hxN
    clear hxN
    replace hv := hv_b1.below hbB1
    replace hbx := cell_below hbx_b1 hbB1
    replace hx4 := hx4_b1.below hbB1
    refine w_nil ?_
    refine h_on ⟨hbB1, ?_⟩
    refine h_nil ?_
    refine go ?_
    refine ⟨ms.length - (i + 1), by omega, i + 1, ob', rfl, by omega, rfl, rfl, rfl, rfl, rfl, hx5, by rw [take_gr hil]; exact ho, by omega, hbB1⟩
  obtain rfl : i = ms.length := by omega
  rw [List.take_length] at ho
  have hcx := hx5.cell
  have hx := ho
  refine go ?_
  have hbY := (hb.trans (hbB1.mono hb.size))
  refine go ?_
  refine s_storeBox (wn rfl) rfl rfl hx.sv.one hx4 (fun w9 hxz hgz => ?_)
  have hbz := hbY.trans (hx4.below_of hgz hbY.size)
  have hxN := hx.kept hgz (by omega)
  refine go ?_
  exact end_cell Tryz.results107 rfl hxz.cell ⟨ob, rfl, (hxN.mono (by omega)).top, hbz⟩

end Go.Proofs.YtablpijnjkncfaaGreat
