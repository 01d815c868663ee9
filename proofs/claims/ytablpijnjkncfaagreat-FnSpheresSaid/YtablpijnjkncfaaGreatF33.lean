/- Contracts: HalfOf, OppositeOf, on both sides. -/
import Derived.Test.YtablpijnjkncfaaGreatF32
namespace Go.Proofs.YtablpijnjkncfaaGreat
open Go.Mem Go.RowKit
set_option linter.unusedVariables false


section
variable {P : Program} {ops : Array Oper} {Q : Exit → Fm → World → Prop} {n : Nat} {f : Fm} {w : World} {rest : List Oper} {ty : TypeId} {pos : String} {after : Array Edge} {g : Option (Nat × Bool)} {d : Nat}
theorem s_build3 {B : Nat} {t e : TypeId} {z : Value} {bytes : Nat} {x y y2 : Operand} {a b c : Int} [ht : SliceTy P t e] [he : CellTy P e z bytes]
    (hw : Wants ⟨some d, .buildSlice t 3 #[(0, x), (1, y), (2, y2)], ty, pos, after, g⟩ ops n f) (hd : Nat.ble (d + 1) n = true)
    (hx : lk n f x = some (.int .i64 a)) (hy : lk n f y = some (.int .i64 b)) (hz : lk n f y2 = some (.int .i64 c)) (hB : B ≤ w.heap.size)
    (k : ∀ v w', OI w' B e v [a, b, c] → SV v 3 → w.grownBy w' none → v.ownBlock = some w.heap.size → WL P ops Q rest n (.upd f d v) w') :
    WL P ops Q (⟨some d, .buildSlice t 3 #[(0, x), (1, y), (2, y2)], ty, pos, after, g⟩ :: rest) n f w :=
  s_buildI [a, b, c] hw hd (by simp [lk_evo hx, lk_evo hy, lk_evo hz]; rfl) rfl rfl hB k
theorem s_build3V {B : Nat} {t e : TypeId} {z : Value} {bytes : Nat} {x y y2 : Operand} {a b c : Value} [ht : SliceTy P t e] [he : CellTy P e z bytes]
    (hw : Wants ⟨some d, .buildSlice t 3 #[(0, x), (1, y), (2, y2)], ty, pos, after, g⟩ ops n f) (hd : Nat.ble (d + 1) n = true)
    (hx : lk n f x = some a) (hy : lk n f y = some b) (hz : lk n f y2 = some c) (h1 : a.oneCell' = true) (h2 : b.oneCell' = true) (h3 : c.oneCell' = true) (hB : B ≤ w.heap.size)
    (k : ∀ v w', Own w' B e v [a, b, c] → w.grownBy w' none → WL P ops Q rest n (.upd f d v) w') :
    WL P ops Q (⟨some d, .buildSlice t 3 #[(0, x), (1, y), (2, y2)], ty, pos, after, g⟩ :: rest) n f w :=
  s_build [a, b, c] hw hd (by simp [lk_evo hx, lk_evo hy, lk_evo hz]; rfl) (by decide) rfl (by intro u hu; simp at hu; rcases hu with rfl | rfl | rfl <;> assumption) hB fun v w' ho hg _ => k v w' ho hg
end
theorem RL.three {w : World} {B : Nat} {T : TypeId} {v a b c : Value} {x y z : List Int} (h : Own w B T v [a, b, c]) (ha : IL w a x) (hb : IL w b y) (hc : IL w c z) : RL w v [x, y, z] := by
  refine ⟨[a, b, c], h.rd, rfl, fun i u xs hu hx => ?_⟩
  match i, hu, hx with
  | 0, hu, hx => simp at hu hx; subst hu hx; exact ha
  | 1, hu, hx => simp at hu hx; subst hu hx; exact hb
  | 2, hu, hx => simp at hu hx; subst hu hx; exact hc
  | i + 3, hu, hx => simp at hu
theorem words3 {ms ws : List (List Int)} (h : ms.length = 3) (hw : ∀ w ∈ ws, w.length ≤ 64 ∧ ∀ x ∈ w, 0 ≤ x ∧ x < 3) : ∀ w ∈ ws, IsWord ms w := fun w hx =>
  ⟨(hw w hx).1, fun x hx' => by have := (hw w hx).2 x hx'; omega⟩

set_option maxHeartbeats 8000000 in
set_option maxRecDepth 100000 in
theorem l05Replace_any (v : Value) (v2 : Value) (ms : List (List Int)) (ws : List (List Int)) (w : World) (hv : RL w v ms) (hv2 : RL w v2 ws) (hm : IsMan ms) (hw : ∀ x ∈ ws, IsWord ms x) (hwl : ws.length ≤ 1000) (h1w : 1 ≤ ws.length) :
    Ret Tryz.prog 114 #[.agg #[v], v2] w fun r w' => ∃ x, r = .tuple #[.agg #[x], .bool (decide (IsMan (repl ms ws)))] ∧ OM w' w.heap.size w'.heap.size 32 2 x (repl ms ws) ∧ Below w.heap.size w w' := by
  have shv := hv.sv
  have shv2 := hv2.sv
  have hb := Below.refl w.heap.size w
  refine enter2 20 Tryz.func114 rfl Tryz.ntmps114 rfl (fun fr => ?_)
  have h2 := hm.m0.f2
  have h4 := hm.m0.f400
  refine go ?_
  refine s_box (wn rfl) rfl rfl (agg_cells shv) (fun w1 hbx _ hp hg => ?_)
  have hb1 := below_of_grownBy hg
  have sw1 := hb1.size
  replace hv := hv.below hb1
  replace hv2 := hv2.below hb1
  replace hb := hb.trans (hb1.mono hb.size)
  clear hg hp hb1
  generalize (⟨w.heap.size, 0, none⟩ : Addr) = p at *
  have sz0 := hb.size
  refine s_alloc (B := w.heap.size) (wn rfl) rfl (by first | exact Nat.le_refl _ | omega) (fun w2 p4 hx4 hg2 hpp4 => ?_)
  have hb2 := below_of_grownBy hg2
  have sw2 := hb2.size
  replace hv := hv.below hb2
  replace hv2 := hv2.below hb2
  replace hbx := cell_below hbx hb2
  replace hb := hb.trans (hb2.mono hb.size)
  have hlt4 := hx4.lt
  have sz1 := hb.size
  refine go ?_
  refine s_call2 (wn rfl) rfl rfl rfl (l05Words_any _ _ _ _ _ hv hv2 hm hw hwl) ?_
  rintro y w3 ⟨hy, hb3⟩
  have sw3 := hb3.size
  replace hv := hv.below hb3
  replace hv2 := hv2.below hb3
  replace hbx := cell_below hbx hb3
  replace hx4 := hx4.below hb3
  replace hb := hb.trans (hb3.mono hb.size)
  refine go ?_
  refine s_p (wn rfl) rfl (y_bld1 rfl hy.sv.one) ?_
  refine s_alloc (B := w3.heap.size) (wn rfl) rfl (Nat.le_refl _) (fun w4 p6 hx6 hg4 hpp6 => ?_)
  have hb4 := below_of_grownBy hg4
  refine go ?_
  refine s_storeBox (wn rfl) rfl rfl hy.sv.one hx6 (fun w5 hx6b hg6 => ?_)
  have hbq6 := hb4.trans (hx6.below_of hg6 hb4.size)
  have sw5 := hbq6.size
  replace hv := hv.below hbq6
  replace hv2 := hv2.below hbq6
  replace hbx := cell_below hbx hbq6
  replace hx4 := hx4.below hbq6
  replace hy := hy.below hbq6
  replace hb := hb.trans (hbq6.mono hb.size)
  have hc6 := hx6b.cell
  have sv2 := hv2.sv
  have hwlen : (wds ms ws).length = ws.length := by simp [wds]
  refine go ?_
  refine s_call4 (wn rfl) rfl rfl rfl rfl rfl (l04Section_any _ _ (nf ms) 0 0 _ _ hy.rl (wds_syst hm hw) (by omega) (by omega) (by omega) (by omega)) ?_
  rintro _ w6 ⟨x, rfl, hx, hb6⟩
  have sw6 := hb6.size
  replace hv := hv.below hb6
  replace hv2 := hv2.below hb6
  replace hbx := cell_below hbx hb6
  replace hx4 := hx4.below hb6
  replace hy := hy.below hb6
  replace hc6 := cell_below hc6 hb6
  replace hx6b := hx6b.below hb6
  replace hb := hb.trans (hb6.mono hb.size)
  have e0 : ((wds ms ws).take ((ws.length : Int) - 1 + 1).toNat).drop (0 : Int).toNat = wds ms ws := by
    rw [List.take_of_length_le (by omega)]; rfl
  rw [e0] at hx
  have hrepl : frm (nf ms) (wds ms ws) 0 = repl ms ws := rfl
  rw [hrepl] at hx
  refine go ?_
  refine s_alloc (B := w6.heap.size) (wn rfl) rfl (Nat.le_refl _) (fun w7 p7 hx7 hg7 hpp7 => ?_)
  have hb7 := below_of_grownBy hg7
  refine go ?_
  refine s_storeBox (wn rfl) rfl rfl hx.sv.one hx7 (fun w8 hx7b hg7 => ?_)
  have hbq7 := hb7.trans (hx7.below_of hg7 hb7.size)
  have sw8 := hbq7.size
  replace hv := hv.below hbq7
  replace hv2 := hv2.below hbq7
  replace hbx := cell_below hbx hbq7
  replace hx4 := hx4.below hbq7
  replace hy := hy.below hbq7
  replace hc6 := cell_below hc6 hbq7
  replace hx6b := hx6b.below hbq7
  replace hx := hx.below hbq7
  replace hb := hb.trans (hbq7.mono hb.size)
  have hc7 := hx7b.cell
  refine go ?_
  have hbb := hb
  have hxx := hx
  refine region_hS (fun w' => w'.cell? p7 = some x) mixed (fun wr hbr => ?_)
  have hc7r := cell_below hc7 hbr
  have hx4r := hx4.below hbr
  have hx7r := hx7b.below hbr
  have hxr := hx.below hbr
  have hbR := hb.trans (hbr.mono hb.size)
  refine h_p 0 hc7r ?_ (hrun := fun w hw => y_ldbox rfl hw)
  refine h_p 1 hc7r ?_ (hrun := fun w hw => y_ldbox rfl hw)
  refine h_one 2 ?_
  refine s_call1 (wn rfl) rfl rfl (l02Is_any _ _ _ hxr.rl) ?_
  rintro _ ws2 ⟨rfl, hbs⟩
  have hc7s := cell_below hc7r hbs
  have hx4s := hx4r.below hbs
  have hx7s := hx7r.below hbs
  have hxs := hxr.below hbs
  have hbS := hbR.trans (hbs.mono hbR.size)
  refine w_nil ?_
  refine h_on ⟨hc7s, ?_⟩
  refine h_one 3 ?_
  refine s_storeBox (wn rfl) rfl rfl hxs.sv.one hx4s (fun wt hx4t hgt => ?_)
  have hxt := hxs.kept hgt (by omega)
  have hx7t := hx7s.kept hgt (by intro e; have := Option.some.inj e; omega)
  have hbT := hbS.trans (hx4s.below_of hgt hbS.size)
  refine w_nil ?_
  refine h_on ⟨hx7t.cell, ?_⟩
  refine h_p 4 hx7t.cell ?_ (hrun := fun w _ => y_pop rfl)
  refine h_nil ?_
  refine go ?_
  exact end_cellT Tryz.results114 rfl rfl hx4t.cell ⟨x, rfl, (hxt.mono (by omega)).top, hbT⟩

end Go.Proofs.YtablpijnjkncfaaGreat
