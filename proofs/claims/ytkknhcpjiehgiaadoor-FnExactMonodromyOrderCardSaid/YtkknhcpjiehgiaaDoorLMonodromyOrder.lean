/- The law of MonodromyOrder, for all arguments: its walk, its row and the card that ties the row's tables to the program's text. The row's conditions: three tables of the library read as their initialisers lay them. -/
import Derived.Test.YtkknhcpjiehgiaaDoorF122
import Derived.Test.YtkknhcpjiehgiaaDoorF125
import Derived.Test.YtkknhcpjiehgiaaDoorFB
import Derived.Test.YtkknhcpjiehgiaaDoorRA
import Derived.Test.YtkknhcpjiehgiaaDoorTie
import Derived.Test.YtkknhcpjiehgiaaDoorCards
import Derived.WalkKit
import Derived.ShutString
import Derived.LaidMore
import Derived.Stop.Joined
import Derived.SevenTiedAt
import Derived.Lib.LaidTab
import Derived.Lib.LaidIn
namespace Go.Proofs.YtkknhcpjiehgiaaDoor
open Go.Mem Go.ChangeShapes Go.WideShapes Go.ChangeAt Go.RowKit
set_option linter.unusedVariables false
set_option linter.unusedSimpArgs false

set_option maxHeartbeats 16000000 in
set_option maxRecDepth 100000 in
theorem lawMonodromyOrder_any (v0 : Value) (a0 : List (List Int)) (w : World) (hv0 : RL w v0 a0) (hT : Lib.TabIs Tryd.prog w "internal/strconv.uint64pow10" .u64 Lib.pow10Tab) :
    Ret Tryd.prog 3 #[.agg #[v0]] w fun r w' => r = .bool true ∧ Below w.heap.size w w' := by
  have sv0 := hv0.sv
  have hTB := Lib.tabBelow_of_tabIs hT
  have hb := Below.refl w.heap.size w
  refine enter1 40 Tryd.func3 rfl Tryd.ntmps3 rfl (fun fr => ?_)
  refine go ?_
  refine s_box (wn rfl) rfl rfl (agg_cells sv0) (fun w1 hbx0 _ hp hg => ?_)
  have hb1 := below_of_grownBy hg
  have sz1 := hb1.size
  replace hv0 := hv0.below hb1
  replace hb := hb.trans (hb1.mono hb.size)
  clear hg hp hb1
  generalize (⟨w.heap.size, 0, none⟩ : Addr) = p0 at *
  refine go ?_
  refine s_call2 (wn rfl) rfl rfl rfl (szManiplex_any _ _ _ _ hv0 (by omega)) ?_
  rintro _ w2 ⟨⟨z1, rfl, hz1⟩, hb2⟩
  have sz2 := hb2.size
  replace hv0 := hv0.below hb2
  replace hbx0 := cell_below hbx0 hb2
  replace hb := hb.trans (hb2.mono hb.size)
  refine go ?_
  refine cond_dec rfl (fun h => ?_) (fun h => ?_)
  · refine go ?_
    exact end_one Tryd.results3 rfl ⟨rfl, hb⟩
  have hz1a := hz1.hi
  have hz1b : 0 ≤ z1 := by omega
  obtain ⟨hl0', hr0'⟩ := hz1.all (by omega)
  have hl0 : a0.length ≤ 1048576 := by omega
  have hr0 : ∀ xs ∈ a0, xs.length ≤ 1048576 := fun xs hx => by have := hr0' xs hx; omega
  clear hl0' hr0' h
  refine go ?_
  refine s_call1 (wn rfl) rfl rfl (toManiplex_any _ _ _ hv0 hl0 hr0) ?_
  rintro _ w3 ⟨t0, rfl, ht0, hb3⟩
  have sz3 := hb3.size
  replace hv0 := hv0.below hb3
  replace hbx0 := cell_below hbx0 hb3
  replace hb := hb.trans (hb3.mono hb.size)
  refine go ?_
  refine s_call1 (wn rfl) rfl rfl (specMonodromyOrder_any _ _ _ ht0.rl) ?_
  rintro _ w4 ⟨rfl, hb4⟩
  have sz4 := hb4.size
  replace hv0 := hv0.below hb4
  replace hbx0 := cell_below hbx0 hb4
  replace ht0 := ht0.below hb4
  replace hb := hb.trans (hb4.mono hb.size)
  clear ht0
  have hn0 : ¬ (moN a0 ≠ moN a0) := fun h => h rfl
  have hn1 : ¬ (moC a0 ≠ moC a0) := fun h => h rfl
  have hq0 : decide (a0 = a0) = true := decide_eq_true rfl
  refine go ?_
  refine s_call1 (wn rfl) rfl rfl (toManiplex_any _ _ _ hv0 hl0 hr0) ?_
  rintro _ w5 ⟨x0, rfl, hx0, hb5⟩
  have sz5 := hb5.size
  replace hv0 := hv0.below hb5
  replace hbx0 := cell_below hbx0 hb5
  replace hb := hb.trans (hb5.mono hb.size)
  refine s_alloc (B := w5.heap.size) (wn rfl) rfl (Nat.le_refl _) (fun w6 px0 hxa hga hpa => ?_)
  have hba := below_of_grownBy hga
  refine go ?_
  refine s_storeBox (wn rfl) rfl rfl hx0.sv.one hxa (fun w7 hxb hgb => ?_)
  have hb7 := hba.trans (hxa.below_of hgb hba.size)
  have sz7 := hb7.size
  replace hv0 := hv0.below hb7
  replace hbx0 := cell_below hbx0 hb7
  replace hx0 := hx0.below hb7
  replace hb := hb.trans (hb7.mono hb.size)
  have hc0x := hxb.cell
  have hlow0 := hxb.low
  clear hxa hxb hga hgb hpa hba hb7
  refine go ?_
  refine s_call1 (wn rfl) rfl rfl (implMonodromyOrder_any _ _ _ hx0.rl (hTB.on hb).here) ?_
  rintro _ w8 ⟨rfl, hb8⟩
  have sz8 := hb8.size
  replace hv0 := hv0.below hb8
  replace hbx0 := cell_below hbx0 hb8
  replace hx0 := hx0.below hb8
  replace hc0x := cell_below hc0x hb8
  replace hb := hb.trans (hb8.mono hb.size)
  refine go ?_
  refine region_h mixed (fun w9 hc9 => ?_)
  refine h_p 0 hc9 ?_
  refine h_p 1 hc9 ?_
  refine h_one 2 ?_
  refine s_call1 (wn rfl) rfl rfl (toManiplex_any _ _ _ (hv0.below hc9) hl0 hr0) ?_
  rintro _ w10 ⟨e0, rfl, he0, hb10⟩
  have hc10 := hc9.trans (hb10.mono hc9.size)
  refine w_nil ?_
  refine h_on ⟨hc10, ?_⟩
  refine h_one 3 ?_
  refine s_call2 (wn rfl) rfl rfl rfl (eqManiplex_any _ _ _ _ _ (hx0.below hc10).rl he0.rl) ?_
  rintro _ w11 ⟨rfl, hb11⟩
  have hc11 := hc10.trans (hb11.mono hc10.size)
  replace he0 := he0.below hb11
  refine w_nil ?_
  refine h_on ⟨hc11, ?_⟩
  refine h_p 4 hc11 ?_
  refine h_nil ?_
  have sz11 := hc11.size
  replace hv0 := hv0.below hc11
  replace hbx0 := cell_below hbx0 hc11
  replace hx0 := hx0.below hc11
  replace hc0x := cell_below hc0x hc11
  replace hb := hb.trans (hc11.mono hb.size)
  refine go ?_
  exact end_one Tryd.results3 rfl ⟨rfl, hb⟩

theorem gPow : Tryd.prog.globalNamed "internal/strconv.uint64pow10" = some 0 := by kernel_rfl
theorem gPowType : (Tryd.prog.globals[0]?).map (·.type) = some 104 := by kernel_rfl
theorem powData : (Rows.laid_internal_strconv_uint64pow10 : DataW Unit) = Lib.tabData .u64 Lib.pow10Tab := by kernel_rfl
/-- what the row's condition gives the walk -/
theorem tab_of_laid {W : World} (h : laidMetH Tryd.prog Rows.fnExactMonodromyOrderRow.laid W) : Lib.TabIs Tryd.prog W "internal/strconv.uint64pow10" .u64 Lib.pow10Tab := by
  rw [MakeChecks.laidMetH_plain _ _ _ (by kernel_rfl)] at h
  obtain ⟨ps, ⟨_, _, _, _, _, _, _, _, _, _, ⟨_, _, _, _, _, _, _, _, _, _, ⟨g, t, cs, fuel, p, q, hg, ht, hv, hd, _, _⟩, _⟩, _⟩, _⟩ := h
  obtain rfl := Option.some.inj (gPow.symm.trans hg)
  obtain rfl := Option.some.inj (gPowType.symm.trans ht)
  rw [powData] at hd
  unfold Lib.TabIs
  rw [hv, ← Lib.cells_of_tab Tryd.underlying104 Tryd.underlying81 (by kernel_rfl) (by kernel_rfl) hd]
/-- the heap that the initialisers leave meets the condition -/
theorem door_met (os : Os) (args : Array Value) : laidMetH Tryd.prog Rows.fnExactMonodromyOrderRow.laid ((World.doorLaid Tryd.prog 400 os).forCall (fun _ _ => 0) ⟨#[], args, []⟩).memory := by
  rw [MakeChecks.laidMetH_plain _ _ _ (by kernel_rfl)]
  exact (LaidIn.of_run [0, 1, 2] 8 (by kernel_rfl) (by kernel_rfl) (by kernel_rfl) (by kernel_rfl)).met

set_option maxRecDepth 100000 in
theorem liftedMonodromyOrder (os : Os) (started : os.Started) (H : Type) (enc : TypeId × Value → H) :
    ReturnsInHanded {} Tryd.checked os 3 .any (fun w args => (Rows.fnExactMonodromyOrderSpec.pre enc Tryd.prog Tryd.f3 [] false w args ∧ laidMetH Tryd.prog Rows.fnExactMonodromyOrderRow.laid w) ∧ sizedMet enc Tryd.prog Tryd.f3 (OpenSpec.ofChange Rows.fnExactMonodromyOrderSpec) false w args)
      (Rows.fnExactMonodromyOrderSpec.post enc Tryd.prog Tryd.f3 false true false false) := by
  refine returnsInHanded_of_change_and (C := Tryd.checked) (X := fun w _ => laidMetH Tryd.prog Rows.fnExactMonodromyOrderRow.laid w) (fun _ _ _ hh h => h.of_heap hh) own started (by kernel_rfl) Tryd.func3
    (ChangeSpec.witness_shaped (enc := enc) (C := Tryd.checked) (os := os) (X := fun w _ => laidMetH Tryd.prog Rows.fnExactMonodromyOrderRow.laid w) false (World.doorLaid Tryd.prog 400 os) #[.agg #[.slice none 0 0]] 8 rfl (World.shaped_of_RefB (by kernel_rfl) (by kernel_rfl)) (by kernel_rfl) (by kernel_rfl) (by kernel_rfl) (door_met os _)) ?_
  intro W base args ds gs before hval0 hW hcnd _ hL _
  have hval : ∀ (j : Nat) t v, Tryd.f3.params[j]? = some t → args[j]? = some v → Value.okWide Tryd.prog W .any base t v := hval0
  have hW' := hW
  obtain ⟨p, q, hA0, hV, rfl, hfz, hnd⟩ := hW
  have hA : DataW.TrodAll enc Tryd.prog W 0 (fun _ => true) true Tryd.f3.params.toList args.toList ds p := hA0
  rw [Tryd.params3] at hA hval
  obtain ⟨v0, vs0, d0, ds0, p0, q0, hargs, rfl, rfl, h0, r0⟩ := trodAll_cons hA
  obtain ⟨rfl, rfl, rfl⟩ := trodAll_nil r0
  obtain rfl : args = #[v0] := by cases args; simp_all
  obtain ⟨rfl, rfl⟩ := trodVars_none hV
  have lt0 : ∀ x ∈ p0, x.block < W.heap.size := by obtain ⟨m, hm⟩ := h0; exact DataW.trod_lt m _ _ _ hm
  obtain ⟨u0, xss0, rfl, hu0⟩ := open_arg (hval 0 24 v0 rfl rfl) h0
  clear hA0 hval0
  have hT := tab_of_laid hL
  refine Calls.mono (lawMonodromyOrder_any u0 xss0 W hu0 hT) fun e W' ⟨v, he, hv, bel⟩ => ?_
  subst he
  subst hv
  exact ⟨_, rfl, _, _, _, [], _, [], hW', trodAll_mk1 (shut_bool Tryd.underlying4 _), (trodAll_cons_mk (Below.trod laidOut (by kernel_rfl) (of_decide_eq_true (by kernel_rfl)) h0 bel lt0) trodAll_mk0), rfl, bel.frame _, fun h => by cases h⟩

theorem rowMonodromyOrder : Rows.FnExactMonodromyOrderSaid :=
  OpenClaim.holds_of_wide 3 Tryd.f3 rfl rfl rfl rfl rfl rfl rfl ⟨rfl, rfl, rfl, rfl, rfl⟩ rfl rfl rfl rfl rfl (by kernel_rfl) Tryd.func3 (by kernel_rfl)
    (of_decide_eq_true (by kernel_rfl)) (by unfold Func.isWrapper; first | (rw [if_pos (by decide +kernel)]; kernel_rfl) | (rw [if_neg (by decide +kernel)]; exact ⟨rfl, rfl⟩))
    (fun os started H enc _ => liftedMonodromyOrder os started H enc)

theorem provedMonodromyOrder : Rows.FnExactMonodromyOrderCardSaid :=
  Claim7.holds_tied_plain_at .later [] [.data, .data, .data] true _ false
    rowMonodromyOrder (fun _ h => by cases h) (by kernel_rfl) (fun _ h => by cases h) fnExactMonodromyOrder_row_tie rfl ⟨rfl, rfl⟩ (by kernel_rfl) rfl
    (fun f fn hf hfn => by
      obtain rfl : f = 3 := Option.some.inj ((show Tryd.prog.funcNamed Rows.fnExactMonodromyOrderRow.func = some 3 by kernel_rfl).symm.trans hf) |>.symm
      obtain rfl : fn = Tryd.f3 := (Option.some.inj (Tryd.func3.symm.trans hfn)).symm
      exact ⟨by kernel_rfl, fun j t ht => by
        rw [Tryd.params3] at ht
        have hm : t ∈ [24] := by simpa using Array.mem_of_getElem? ht
        have hall : ([24].all fun u => !Tryd.prog.wantsStandIn u) = true := by kernel_rfl
        exact (show Tryd.prog.wantsStandIn t = false by simpa using List.all_eq_true.1 hall t hm)⟩)
    (by kernel_rfl)
end Go.Proofs.YtkknhcpjiehgiaaDoor
