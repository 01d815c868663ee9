/- Texts laid together: F10 F12 F14 F17. -/
import Derived.Test.YtkknhcpjiehgiaaDoorFA
import Derived.Test.YtkknhcpjiehgiaaDoorPA
/- Contracts: the laws' own helpers. -/
namespace Go.Proofs.YtkknhcpjiehgiaaDoor
open Go.Mem Go.RowKit

theorem szInt64S_any (v : Value) (m : Nat) (left : Int) (w : World) (sv : SV v m) (hl : 0 ≤ left ∧ left ≤ 1048576) :
    Ret Tryd.prog 19 #[v, .int .i64 left] w fun r w' => (∃ z : Int, r = .int .i64 z ∧ -1 ≤ z ∧ z ≤ left ∧ (0 ≤ z → (m : Int) ≤ left)) ∧ w = w' := by
  have hm := sv.le
  refine enter2 12 Tryd.func19 rfl Tryd.ntmps19 rfl (fun fr => ?_)
  refine go ?_
  refine cond_dec rfl (fun h => ?_) (fun h => ?_)
  · refine go ?_
    exact end_one Tryd.results19 rfl ⟨⟨-1, rfl, by omega, by omega, by omega⟩, rfl⟩
  · refine go ?_
    exact end_one Tryd.results19 rfl ⟨⟨_, rfl, by omega, by omega, by omega⟩, rfl⟩

theorem szInt64SS_any (v : Value) (xss : List (List Int)) (left : Int) (w : World) (hv : RL w v xss) (hl : 0 ≤ left ∧ left ≤ 1048576) :
    Ret Tryd.prog 9 #[v, .int .i64 left] w fun r w' => (∃ z : Int, r = .int .i64 z ∧ SzR xss left z) ∧ w = w' := by
  have sv := hv.sv
  have hm := sv.le
  refine enter2 27 Tryd.func9 rfl Tryd.ntmps9 rfl (fun fr => ?_)
  refine go ?_
  refine cond_dec rfl (fun h => ?_) (fun h => ?_)
  · refine go ?_
    exact end_one Tryd.results9 rfl ⟨⟨-1, rfl, by omega, by omega, by omega⟩, rfl⟩
  · refine go ?_
    refine w_loop (fun k fr w' => ∃ (i : Nat) (z : Int), k = xss.length - i ∧ i ≤ xss.length ∧ fr 0 = v ∧ fr 1 = .int .i64 z ∧ fr 5 = .int .i64 i ∧ w = w' ∧ 0 ≤ z ∧ z ≤ left ∧ ∀ j : Nat, j < i → ((gr xss j).length : Int) ≤ left) xss.length
      ⟨0, _, rfl, Nat.zero_le _, rfl, rfl, rfl, rfl, by omega, by omega, by simp⟩ ?_
    rintro k fr _ ⟨i, z, rfl, hi, f0, f1, f5, rfl, hz0, hz, hall⟩
    refine know (t := 0) f0 ?_; refine know (t := 1) f1 ?_; refine know (t := 5) f5 ?_
    refine go ?_
    refine cond_dec rfl (fun hlt => ?_) (fun hge => ?_)
    · refine go ?_
      refine s_ldR (wn rfl) rfl rfl hv (by omega) (by omega) (fun u hu su => ?_)
      refine go ?_
      refine s_call2 (wn rfl) rfl rfl rfl (szInt64S_any _ _ _ _ su (by omega)) ?_
      rintro _ _ ⟨⟨z', rfl, h1, h2, h3⟩, rfl⟩
      refine go ?_
      refine cond_dec rfl (fun hneg => ?_) (fun hneg => ?_)
      · refine go ?_
        exact end_one Tryd.results9 rfl ⟨⟨-1, rfl, by omega, by omega, by omega⟩, rfl⟩
      · refine go ?_
        refine ⟨xss.length - (i + 1), by omega, i + 1, z', rfl, by omega, rfl, rfl, rfl, rfl, by omega, by omega, fun j hj => ?_⟩
        by_cases hji : j = i
        · subst hji; have := h3 (by omega); omega
        · exact hall j (by omega)
    · obtain rfl : i = xss.length := by omega
      refine go ?_
      refine end_one Tryd.results9 rfl ⟨⟨z, rfl, by omega, hz, fun _ => ⟨by omega, fun xs hx => ?_⟩⟩, rfl⟩
      obtain ⟨j, hj, rfl⟩ := mem_gr hx
      exact hall j hj

theorem szManiplex_any (v : Value) (xss : List (List Int)) (left : Int) (w : World) (hv : RL w v xss) (hl : 0 ≤ left ∧ left ≤ 1048576) :
    Ret Tryd.prog 4 #[.agg #[v], .int .i64 left] w fun r w' => (∃ z : Int, r = .int .i64 z ∧ SzR xss left z) ∧ Below w.heap.size w w' := by
  have sv := hv.sv
  refine enter2 12 Tryd.func4 rfl Tryd.ntmps4 rfl (fun fr => ?_)
  refine go ?_
  refine s_box (wn rfl) rfl rfl (agg_cells sv) (fun w1 hbx _ _ hg => ?_)
  have hb := below_of_grownBy hg
  have hv := hv.below hb
  generalize (⟨w.heap.size, 0, none⟩ : Addr) = p at *
  refine go ?_
  refine s_call2 (wn rfl) rfl rfl rfl (szInt64SS_any _ _ _ _ hv hl) ?_
  rintro _ _ ⟨⟨z, rfl, hz⟩, rfl⟩
  refine go ?_
  have h1 := hz.lo
  refine cond_dec rfl (fun h => ?_) (fun h => ?_)
  · refine go ?_
    obtain rfl : z = -1 := by omega
    exact end_one Tryd.results4 rfl ⟨⟨-1, rfl, hz⟩, hb⟩
  · refine go ?_
    exact end_one Tryd.results4 rfl ⟨⟨z, rfl, hz⟩, hb⟩

theorem toInt64S_any (v : Value) (xs : List Int) (w : World) (hv : IL w v xs) (hl : xs.length ≤ 1048576) :
    Ret Tryd.prog 27 #[v] w fun r w' => OI w' w.heap.size 2 r xs ∧ Below w.heap.size w w' := by
  have sv := hv.sv
  refine enter1 22 Tryd.func27 rfl Tryd.ntmps27 rfl (fun fr => ?_)
  refine go ?_
  refine s_makeI (B := w.heap.size) (wn rfl) rfl rfl rfl (by omega) (by omega) (Nat.le_refl _) (fun ob w1 ho so hg hb => ?_)
  have hb1 := below_of_grownBy hg
  refine go ?_
  refine w_loop (fun k fr w' => ∃ (i : Nat) (ys : List Int), k = xs.length - i ∧ i ≤ xs.length ∧ fr 0 = v ∧ fr 3 = ob ∧ fr 4 = .int .i64 i ∧ ys.length = xs.length ∧ (∀ j : Int, 0 ≤ j → j < i → gi ys j = gi xs j) ∧ OI w' w.heap.size 2 ob ys ∧ Below w.heap.size w w') xs.length
    ⟨0, _, rfl, Nat.zero_le _, rfl, rfl, rfl, by simp, fun j h0 h1 => by omega, ho, hb1⟩ ?_
  rintro k fr w2 ⟨i, ys, rfl, hi, f0, f3, f4, hyl, hys, ho, hb⟩
  have hv := hv.below hb
  have so := ho.sv
  refine know (t := 0) f0 ?_; refine know (t := 3) f3 ?_; refine know (t := 4) f4 ?_
  refine go ?_
  refine cond_dec rfl (fun hlt => ?_) (fun hge => ?_)
  · refine go ?_
    refine s_storeI (wn rfl) rfl rfl ho (by omega) (by omega) (fun w3 ho3 hg3 => ?_)
    have hb3 := hb.trans (ho.below_of hg3 hb.size)
    refine go ?_
    refine ⟨xs.length - (i + 1), by omega, i + 1, _, rfl, by omega, rfl, rfl, rfl, by simp [hyl], fun j h0 hj => ?_, ho3, hb3⟩
    rw [gi_seti _ _ _ _ (by omega) (by omega) h0]
    split
    · rename_i e; rw [e]
    · exact hys j h0 (by omega)
  · obtain rfl : i = xs.length := by omega
    refine go ?_
    have : ys = xs := list_ext_gi hyl fun j h0 hj => hys j h0 (by omega)
    rw [this] at ho
    exact end_one Tryd.results27 rfl ⟨ho, hb⟩

theorem toInt64SS_any (v : Value) (xss : List (List Int)) (w : World) (hv : RL w v xss) (hl : xss.length ≤ 1048576) (hr : ∀ xs ∈ xss, xs.length ≤ 1048576) :
    Ret Tryd.prog 13 #[v] w fun r w' => OM w' w.heap.size w'.heap.size 40 2 r xss ∧ Below w.heap.size w w' := by
  have sv := hv.sv
  refine enter1 23 Tryd.func13 rfl Tryd.ntmps13 rfl (fun fr => ?_)
  refine go ?_
  refine s_make (B := w.heap.size) (wn rfl) rfl rfl rfl (by omega) (by omega) (Nat.le_refl _) (fun ob w1 ho hg hb => ?_)
  have hb1 := below_of_grownBy hg
  have hn : ((xss.length : Nat) : Int).toNat = xss.length := by omega
  rw [hn] at ho
  refine go ?_
  refine w_loop (fun k fr w' => ∃ (i : Nat), k = xss.length - i ∧ i ≤ xss.length ∧ fr 0 = v ∧ fr 3 = ob ∧ fr 4 = .int .i64 i ∧ OMp w' w.heap.size w'.heap.size 40 2 ob xss.length (xss.take i) ∧ Below w.heap.size w w') xss.length
    ⟨0, rfl, Nat.zero_le _, rfl, rfl, rfl, by simpa using OMp.start ho rfl, hb1⟩ ?_
  rintro k fr w2 ⟨i, rfl, hi, f0, f3, f4, ho, hb⟩
  have hv := hv.below hb
  have so := ho.sv
  refine know (t := 0) f0 ?_; refine know (t := 3) f3 ?_; refine know (t := 4) f4 ?_
  refine go ?_
  refine cond_dec rfl (fun hlt => ?_) (fun hge => ?_)
  · refine go ?_
    refine s_ldR (wn rfl) rfl rfl hv (by omega) (by omega) (fun u hu su => ?_)
    refine s_call1 (wn rfl) rfl rfl (toInt64S_any _ _ _ hu (hr _ (gr_in (by omega)))) ?_
    rintro r w3 ⟨hr3, hb3⟩
    have ho3 := ho.below hb3
    have hb23 := hb.trans (hb3.mono hb.size)
    have htk : (xss.take i).length = i := by simp; omega
    refine go ?_
    refine s_storeM (wn rfl) rfl rfl ho3 hr3 hb.size (by decide) (by omega) (by omega) (fun w4 ho4 hg4 => ?_)
    have hb4 := hb23.trans (ho3.below_of hg4 hb23.size)
    have htk1 : xss.take i ++ [gr xss i] = xss.take (i + 1) := by
      rw [List.take_succ_eq_append_getElem (by omega)]
      congr 1
      have : i < xss.length := by omega
      simp [gr, List.getD, this]
    rw [htk1] at ho4
    refine go ?_
    exact ⟨xss.length - (i + 1), by omega, i + 1, rfl, by omega, rfl, rfl, rfl, ho4, hb4⟩
  · obtain rfl : i = xss.length := by omega
    refine go ?_
    rw [List.take_length] at ho
    exact end_one Tryd.results13 rfl ⟨ho.done rfl, hb⟩

theorem toManiplex_any (v : Value) (xss : List (List Int)) (w : World) (hv : RL w v xss) (hl : xss.length ≤ 1048576) (hr : ∀ xs ∈ xss, xs.length ≤ 1048576) :
    Ret Tryd.prog 6 #[.agg #[v]] w fun r w' => ∃ u, r = .agg #[u] ∧ OM w' w.heap.size w'.heap.size 40 2 u xss ∧ Below w.heap.size w w' := by
  have sv := hv.sv
  refine enter1 9 Tryd.func6 rfl Tryd.ntmps6 rfl (fun fr => ?_)
  refine go ?_
  refine s_box (wn rfl) rfl rfl (agg_cells sv) (fun w1 hbx _ _ hg => ?_)
  have hb := below_of_grownBy hg
  have hv := hv.below hb
  generalize (⟨w.heap.size, 0, none⟩ : Addr) = p at *
  refine s_alloc (B := w.heap.size) (wn rfl) rfl hb.size (fun w2 p2 hx2 hg2 hp2 => ?_)
  have hb2 := below_of_grownBy hg2
  have hbw2 := hb.trans (hb2.mono hb.size)
  refine go ?_
  refine s_alloc (B := w.heap.size) (wn rfl) rfl hbw2.size (fun w3 p3 hx3 hg3 hp3 => ?_)
  have hb3 := below_of_grownBy hg3
  have hbw3 := hbw2.trans (hb3.mono hbw2.size)
  have hlt2 := hx2.lt
  have hlt3 := hx3.lt
  have h23 := hb3.size
  have hx2 := hx2.below hb3
  have hv3 := (hv.below hb2).below hb3
  have hbx3 := cell_below (cell_below hbx hb2) hb3
  refine go ?_
  refine s_call1 (wn rfl) rfl rfl (toInt64SS_any _ _ _ hv3 hl hr) ?_
  rintro u w4 ⟨hu, hb4⟩
  have hx2 := hx2.below hb4
  have hx3 := hx3.below hb4
  have hbw4 := hbw3.trans (hb4.mono hbw3.size)
  refine go ?_
  refine s_storeFld (wn rfl) rfl rfl hu.sv.one hx3 (fun w5 hx3' hg5 => ?_)
  have hu5 := hu.kept hg5 (by omega)
  have hx5 := hx2.kept hg5 (by intro e; have := Option.some.inj e; omega)
  have hbw5 := hbw4.trans (hx3.below_of hg5 hbw4.size)
  have hc5 := hx3'.cell
  refine go ?_
  refine s_storeBox (wn rfl) rfl rfl hu.sv.one hx5 (fun w6 hx6 hg6 => ?_)
  have hu6 := hu5.kept hg6 (by omega)
  have hbw6 := hbw5.trans (hx5.below_of hg6 hbw5.size)
  refine go ?_
  exact end_cell Tryd.results6 rfl hx6.cell ⟨u, rfl, (hu6.mono hbw3.size).top, hbw6⟩

theorem eqInt64S_any (v v2 : Value) (xs ys : List Int) (w : World) (hv : IL w v xs) (hv2 : IL w v2 ys) :
    Ret Tryd.prog 38 #[v, v2] w fun r w' => r = .bool (decide (xs = ys)) ∧ Below w.heap.size w w' := by
  have sv := hv.sv
  have sv2 := hv2.sv
  have hm := sv.le
  refine enter2 26 Tryd.func38 rfl Tryd.ntmps38 rfl (fun fr => ?_)
  refine go ?_
  refine cond_dec rfl (fun h => ?_) (fun hl => ?_)
  · refine go ?_
    exact end_one Tryd.results38 rfl ⟨by rw [decide_eq_false (fun e => h (by rw [e]))], Below.refl _ _⟩
  refine go ?_
  refine w_loop (fun k fr w' => ∃ (i : Nat), k = xs.length - i ∧ i ≤ xs.length ∧ fr 0 = v ∧ fr 1 = v2 ∧ fr 5 = .int .i64 i ∧ (∀ j : Int, 0 ≤ j → j < i → gi xs j = gi ys j) ∧ Below w.heap.size w w') xs.length
    ⟨0, rfl, Nat.zero_le _, rfl, rfl, rfl, fun j h0 h1 => by omega, Below.refl _ _⟩ ?_
  rintro k fr w2 ⟨i, rfl, hi, f0, f1, f5, hys, hb⟩
  have hv := hv.below hb
  have hv2 := hv2.below hb
  refine know (t := 0) f0 ?_; refine know (t := 1) f1 ?_; refine know (t := 5) f5 ?_
  refine go ?_
  refine cond_dec rfl (fun hlt => ?_) (fun hge => ?_)
  · refine go ?_
    refine region_q mixed (by kernel_rfl) ?_
    refine qo ?_
    refine q_nil ?_
    intro w3 hb3
    have hb := hb.trans (hb3.mono hb.size)
    refine go ?_
    refine cond_dec rfl (fun hne => ?_) (fun hne => ?_)
    · refine go ?_
      exact end_one Tryd.results38 rfl ⟨by rw [decide_eq_false (fun e => hne (by rw [e]))], hb⟩
    · refine go ?_
      refine ⟨xs.length - (i + 1), by omega, i + 1, rfl, by omega, rfl, rfl, rfl, fun j h0 hj => ?_, hb⟩
      by_cases hji : j = i
      · subst hji; exact Decidable.not_not.1 hne
      · exact hys j h0 (by omega)
  · obtain rfl : i = xs.length := by omega
    refine go ?_
    have : xs = ys := list_ext_gi (by omega) fun j h0 hj => hys j h0 (by omega)
    exact end_one Tryd.results38 rfl ⟨by rw [decide_eq_true this], hb⟩

theorem q_call2 {P : Program} {ops : Array Oper} {Q : Exit → Fm → World → Prop} {n : Nat} {f : Fm} {rest : List Oper} {ty : TypeId} {pos : String} {after : Array Edge} {g : Option (Nat × Bool)} {d : Nat}
    {fn : FuncId} {x y : Operand} {ats : Array TypeId} {a b v : Value} [hf : FunTy P fn] {w0 : World}
    (hw : Wants ⟨some d, .call ⟨.value (.func fn), #[x, y], ats⟩, ty, pos, after, g⟩ ops n f) (hd : Nat.ble (d + 1) n = true)
    (hx : lk n f x = some a) (hy : lk n f y = some b) (hc : ∀ w, Below w0.heap.size w0 w → Ret P fn #[a, b] w fun r w' => r = v ∧ Below w.heap.size w w')
    (k : WQ P ops w0 Q rest n (.upd f d v)) :
    WQ P ops w0 Q (⟨some d, .call ⟨.value (.func fn), #[x, y], ats⟩, ty, pos, after, g⟩ :: rest) n f :=
  q_call hw hd (by simp [lk_evo hx, lk_evo hy]) (fun w hb => (hc w hb).mono fun _ _ h => ⟨h.1, hb.trans (h.2.mono hb.size)⟩) k

theorem eqInt64SS_any (v v2 : Value) (xss yss : List (List Int)) (w : World) (hv : RL w v xss) (hv2 : RL w v2 yss) :
    Ret Tryd.prog 18 #[v, v2] w fun r w' => r = .bool (decide (xss = yss)) ∧ Below w.heap.size w w' := by
  have sv := hv.sv
  have sv2 := hv2.sv
  have hm := sv.le
  refine enter2 27 Tryd.func18 rfl Tryd.ntmps18 rfl (fun fr => ?_)
  refine go ?_
  refine cond_dec rfl (fun h => ?_) (fun hl => ?_)
  · refine go ?_
    exact end_one Tryd.results18 rfl ⟨by rw [decide_eq_false (fun e => h (by rw [e]))], Below.refl _ _⟩
  refine go ?_
  refine w_loop (fun k fr w' => ∃ (i : Nat), k = xss.length - i ∧ i ≤ xss.length ∧ fr 0 = v ∧ fr 1 = v2 ∧ fr 5 = .int .i64 i ∧ (∀ j : Nat, j < i → gr xss j = gr yss j) ∧ Below w.heap.size w w') xss.length
    ⟨0, rfl, Nat.zero_le _, rfl, rfl, rfl, fun j h1 => by omega, Below.refl _ _⟩ ?_
  rintro k fr w2 ⟨i, rfl, hi, f0, f1, f5, hys, hb⟩
  have hv := hv.below hb
  have hv2 := hv2.below hb
  refine know (t := 0) f0 ?_; refine know (t := 1) f1 ?_; refine know (t := 5) f5 ?_
  refine go ?_
  refine cond_dec rfl (fun hlt => ?_) (fun hge => ?_)
  · refine go ?_
    obtain ⟨u, hu, hc⟩ := hv.row (j := i) (by omega) hlt
    obtain ⟨u2, hu2, hc2⟩ := hv2.row (j := i) (by omega) (by omega)
    refine region_q mixed (by kernel_rfl) ?_
    refine qo ?_
    refine q_call2 (wn rfl) rfl rfl rfl (fun w hw => eqInt64S_any _ _ _ _ _ (hu.below hw) (hu2.below hw)) ?_
    refine qo ?_
    refine q_nil ?_
    intro w3 hb3
    have hb := hb.trans (hb3.mono hb.size)
    refine splitb (decide (gr xss i = gr yss i)) (fun he => ?_) (fun he => ?_)
    · have he' := of_decide_eq_true he
      refine go ?_
      refine ⟨xss.length - (i + 1), by omega, i + 1, rfl, by omega, rfl, rfl, rfl, fun j hj => ?_, hb⟩
      by_cases hji : j = i
      · subst hji; exact he'
      · exact hys j (by omega)
    · have he' := of_decide_eq_false he
      refine go ?_
      exact end_one Tryd.results18 rfl ⟨by rw [decide_eq_false (fun e => he' (by rw [e]))], hb⟩
  · obtain rfl : i = xss.length := by omega
    refine go ?_
    have : xss = yss := rows_ext (by omega) hys
    exact end_one Tryd.results18 rfl ⟨by rw [decide_eq_true this], hb⟩

theorem eqManiplex_any (v v2 : Value) (xss yss : List (List Int)) (w : World) (hv : RL w v xss) (hv2 : RL w v2 yss) :
    Ret Tryd.prog 8 #[.agg #[v], .agg #[v2]] w fun r w' => r = .bool (decide (xss = yss)) ∧ Below w.heap.size w w' := by
  have sv := hv.sv
  have sv2 := hv2.sv
  refine enter2 11 Tryd.func8 rfl Tryd.ntmps8 rfl (fun fr => ?_)
  refine go ?_
  refine s_box (wn rfl) rfl rfl (agg_cells sv) (fun w1 hbx _ hp1 hg => ?_)
  have hb := below_of_grownBy hg
  have hv := hv.below hb
  have hv2 := hv2.below hb
  generalize hpe : (⟨w.heap.size, 0, none⟩ : Addr) = p at *
  refine s_box (wn rfl) rfl rfl (agg_cells sv2) (fun w2 hbx2 _ hp2 hg2 => ?_)
  have hb2 := below_of_grownBy hg2
  have hbx := cell_below hbx hb2
  have hv := hv.below hb2
  have hv2 := hv2.below hb2
  have hb := hb.trans (hb2.mono hb.size)
  clear hb2 hg hg2 hp1 hp2
  generalize (⟨w1.heap.size, 0, none⟩ : Addr) = p2 at *
  refine go ?_
  refine s_call2 (wn rfl) rfl rfl rfl (eqInt64SS_any _ _ _ _ _ hv hv2) ?_
  rintro _ w3 ⟨rfl, hb3⟩
  have hb := hb.trans (hb3.mono hb.size)
  refine splitb (decide (xss = yss)) (fun he => ?_) (fun he => ?_)
  · refine go ?_
    exact end_one Tryd.results8 rfl ⟨by rw [he], hb⟩
  · refine go ?_
    exact end_one Tryd.results8 rfl ⟨by rw [he], hb⟩
end Go.Proofs.YtkknhcpjiehgiaaDoor

/- Contracts: coverings and isomorphisms of two maniplexes. -/
namespace Go.Proofs.YtkknhcpjiehgiaaDoor
open Go.Mem Go.RowKit
end Go.Proofs.YtkknhcpjiehgiaaDoor

/- Contracts: the laws' marks. -/
namespace Go.Proofs.YtkknhcpjiehgiaaDoor
open Go.Mem Go.RowKit
end Go.Proofs.YtkknhcpjiehgiaaDoor

/- Contracts: what the laws' marks hold, for rows; a variable's cell beside what is marked. -/
namespace Go.Proofs.YtkknhcpjiehgiaaDoor
open Go.Mem Go.RowKit

theorem cell_btw {B E : Nat} {w w' : World} {a : Addr} {u : Value} (h : w.cell? a = some u) (hb : Btw B E w w') (ha : a.block < B ∨ E ≤ a.block) : w'.cell? a = some u := by
  rw [World.cell?_of_block (w := w) (hb.block _ (World.block_lt_of_cell? w a h) ha)]; exact h

end Go.Proofs.YtkknhcpjiehgiaaDoor
