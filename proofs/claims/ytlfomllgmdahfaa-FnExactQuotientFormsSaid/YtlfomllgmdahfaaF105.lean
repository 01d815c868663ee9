/- Contracts: QuotientForms (the program's side). -/
import Derived.Test.YtlfomllgmdahfaaF104
import Derived.Test.YtlfomllgmdahfaaF41
import Derived.Test.YtlfomllgmdahfaaF43
import Derived.Shelf.SlSortCmp.NoneTotal
namespace Go.Mem
open Go.RowKit
set_option linter.unusedVariables false
section
variable {w w2 : World} {B E : Nat} {TM T U : TypeId} {v v' x : Value} {mss : List (List (List Int))} {xss : List (List Int)}
/-- one more, in blocks of its own -/
theorem OS.snoc {vs : List Value} {Bs Es : Nat → Nat} {bx ex : Nat} (h1 : Own w B TM v vs) (h2 : vs.length = mss.length) (h3 : ∀ g, v.ownBlock = some g → g < E)
    (h4 : ∀ (i : Nat) u xss, vs[i]? = some u → mss[i]? = some xss → OM w (Bs i) (Es i) T U u xss ∧ ∀ g, u.ownBlock = some g → g < Es i)
    (h5 : ∀ i, i < vs.length → B ≤ Bs i ∧ Es i ≤ E ∧ Bs i ≤ w.heap.size) (h6 : ∀ i g, i < vs.length → v.ownBlock = some g → g < Bs i ∨ Es i ≤ g)
    (h7 : ∀ i j, i < vs.length → j < vs.length → i ≠ j → Es i ≤ Bs j ∨ Es j ≤ Bs i)
    (hx : OM w bx ex T U x xss) (hxo : ∀ g, x.ownBlock = some g → g < ex) (hE : E ≤ bx) (hB : B ≤ bx) (hex : ex ≤ w.heap.size) (hbx : bx ≤ w.heap.size)
    (ho' : Own w2 B TM v' (vs ++ [x])) (hg : w.grownBy w2 v.ownBlock) (hob : v'.ownBlock = v.ownBlock ∨ v'.ownBlock = some w.heap.size) (hT : T ≠ TM) (hU : U ≠ TM) : OS w2 B w2.heap.size TM T U v' (mss ++ [xss]) := by
  have hsz := hg.size
  refine ⟨vs ++ [x], fun i => if i < vs.length then Bs i else bx, fun i => if i < vs.length then Es i else ex, ho', by simp [h2], fun g hg' => (ho'.lt g hg').2, fun i u zss hu hz => ?_, fun i hi => ?_, fun i g hi hg' => ?_, fun i j hi hj hij => ?_⟩
  · rw [List.getElem?_append] at hu hz
    by_cases hi : i < vs.length
    · rw [if_pos hi] at hu
      rw [if_pos (by omega)] at hz
      obtain ⟨k1, k2⟩ := h4 i u zss hu hz
      simp only [if_pos hi]
      exact ⟨k1.kept_type h1 hT (fun e => hU e.symm) hg, k2⟩
    · rw [if_neg hi] at hu
      rw [if_neg (by omega)] at hz
      have h8 : i - vs.length = 0 := by
        have := (List.getElem?_eq_some_iff.1 hu).1
        simp at this; omega
      rw [h8] at hu
      rw [show i - mss.length = 0 by omega] at hz
      obtain rfl := Option.some.inj hu
      obtain rfl := Option.some.inj hz
      simp only [if_neg hi]
      exact ⟨hx.kept_type h1 hT (fun e => hU e.symm) hg, hxo⟩
  · by_cases hi2 : i < vs.length
    · simp only [if_pos hi2]
      have := h5 i hi2
      omega
    · simp only [if_neg hi2]
      omega
  · by_cases hi2 : i < vs.length
    · simp only [if_pos hi2]
      have := h5 i hi2
      rcases hob with e | e
      · exact h6 i g hi2 (e ▸ hg')
      · rw [e] at hg'
        have := Option.some.inj hg'
        omega
    · simp only [if_neg hi2]
      rcases hob with e | e
      · have := h3 g (e ▸ hg')
        omega
      · rw [e] at hg'
        have := Option.some.inj hg'
        omega
  · simp only [List.length_append, List.length_cons, List.length_nil] at hi hj
    by_cases hi2 : i < vs.length
    · by_cases hj2 : j < vs.length
      · simp only [if_pos hi2, if_pos hj2]
        exact h7 i j hi2 hj2 hij
      · simp only [if_pos hi2, if_neg hj2]
        have := h5 i hi2
        omega
    · by_cases hj2 : j < vs.length
      · simp only [if_neg hi2, if_pos hj2]
        have := h5 j hj2
        omega
      · omega
end
/-- the forms of the quotients by the first i automorphisms, as they come -/
noncomputable def qfT (ms : List (List Int)) (i : Nat) : List (List (List Int)) := (((auts ms).take i).filter fun p => decide (IsMan (quoL ms [p]))).map fun p => lst (quoL ms [p])
noncomputable def qfL (ms : List (List Int)) : List (List (List Int)) := if IsMan ms then fmsM (qfT ms (auts ms).length) else []
noncomputable def qfC (ms : List (List Int)) : Int := if IsMan ms then 0 else 1
section
variable {ms : List (List Int)}
theorem qf_1 (h : ¬ IsMan ms) : qfL ms = [] ∧ qfC ms = 1 := ⟨if_neg h, if_neg h⟩
theorem qf_2 (h : IsMan ms) : qfL ms = fmsM (qfT ms (auts ms).length) ∧ qfC ms = 0 := ⟨if_pos h, if_pos h⟩
theorem qfT_succ {i : Nat} (h : i < (auts ms).length) : qfT ms (i + 1) = qfT ms i ++ (if IsMan (quoL ms [gr (auts ms) i]) then [lst (quoL ms [gr (auts ms) i])] else []) := by
  unfold qfT
  rw [take_gr h, List.filter_append, List.map_append]
  congr 1
  by_cases hm : IsMan (quoL ms [gr (auts ms) i]) <;> simp [hm]
theorem qfT_ok (i : Nat) : ∀ m ∈ qfT ms i, IsMan m := fun m hm => by
  obtain ⟨p, hp, rfl⟩ := List.mem_map.1 hm
  have h := of_decide_eq_true (List.mem_filter.1 hp).2
  obtain ⟨f, hf, e⟩ := lst_frm (ms := quoL ms [p]) (by have := h.m0.f2; omega)
  rw [e]; exact form_man h hf
theorem qfT_le (hm : IsMan ms) (i : Nat) : (qfT ms i).length ≤ 400 := by
  have h1 := auts_le hm
  have h2 : (qfT ms i).length ≤ ((auts ms).take i).length := by unfold qfT; rw [List.length_map]; exact List.length_filter_le _ _
  rw [List.length_take] at h2
  omega
theorem qfL_len (ms : List (List Int)) : 1 + totS (qfL ms) ≤ 4000000000000000000 := by
  unfold qfL
  split
  · rename_i hm
    have h1 : (fmsM (qfT ms (auts ms).length)).length ≤ 400 := Nat.le_trans (List.Nodup.length_le_of_subset (fmsM_nodup _) fun a ha => ((fmsM_ok _).2 a).1 ha) (qfT_le hm _)
    have h2 := totS_le (c := 1000000000) (fmsM (qfT ms (auts ms).length)) fun m hin => by
      have hk := qfT_ok _ m (((fmsM_ok _).2 m).1 hin)
      have r5 := hk.m0.r5
      have f4 := hk.m0.f400
      have := tot_le (c := 400) (xss := m) (fun xs hx => by obtain ⟨q, hq, rfl⟩ := mem_gr hx; have := (hk.m0.row q hq).1; omega)
      omega
    omega
  · simp [totS]
end
end Go.Mem
namespace Go.Proofs.Ytlfomllgmdahfaa
open Go.Mem Go.RowKit
set_option linter.unusedVariables false
set_option linter.unusedSimpArgs false

theorem SortFunc_none (v : Value) (B : Nat) (w : World) (ho : Own w B 28 v []) :
    Ret Try.prog 75 #[v, .func (.func 76) #[] #[]] w fun r w' => w' = w := by
  have key : ∀ (p : Option Addr) (cap : Nat), Ret Try.prog 75 #[.slice p 0 cap, .func (.func 76) #[] #[]] w fun r w' => w' = w := fun p cap => by
    have hcon := AnyF.slices_SortFunc_none Try.laysSortF p cap (.func (.func 76) #[] #[]) w
    change Calls Try.prog 75 _ _ _ at hcon
    refine Calls.mono hcon ?_
    rintro e w' ⟨he, hw⟩
    subst he
    exact ⟨_, rfl, hw⟩
  rcases ho with ⟨rfl, _⟩ | ⟨g, off, cap, cur, rfl, _⟩
  · exact key _ _
  · exact key _ _

set_option maxRecDepth 100000 in
theorem sortFormsS2_any (v : Value) (mss : List (List (List Int))) (B E : Nat) (w : World) (ho : OS w B E 28 32 2 v mss) (hm1 : ∀ m ∈ mss, 1 ≤ m.length) (hl : mss.length ≤ 1000000) :
    Ret Try.prog 44 #[v] w fun r w' => OS w' B E 28 32 2 r (fmsM mss) ∧ w.grownBy w' v.ownBlock := by
  by_cases hne : mss = []
  rotate_left
  · exact sortFormsS_any v mss B E w ho hm1 hne hl
  subst hne
  obtain ⟨vs, Bs, Es, h1, h2, h3, _⟩ := ho.out
  obtain rfl : vs = [] := List.eq_nil_of_length_eq_zero h2
  refine enter1 7 Try.func44 rfl Try.ntmps44 rfl (fun fr => ?_)
  refine go ?_
  refine s_call2 (wn rfl) rfl rfl rfl (SortFunc_none v B w h1) ?_
  rintro _ _ rfl
  refine go ?_
  refine s_call2 (wn rfl) rfl rfl rfl (CompactFunc_any v [] [] B _ h1 (Els.nil _ _ _) (by simp)) ?_
  rintro r w2 ⟨ho2, hg2, hob⟩
  refine go ?_
  exact end_one Try.results44 rfl ⟨⟨[], fun _ => 0, fun _ => 0, by simpa [kp] using ho2, rfl, fun g hg => h3 g (hob g hg), by simp, by simp, by simp, by simp⟩, hg2⟩

set_option maxHeartbeats 16000000 in
set_option maxRecDepth 100000 in
theorem implQuotientForms_any (v : Value) (ms : List (List Int)) (w : World) (hv : RL w v ms) :
    Ret Try.prog 18 #[.agg #[v]] w fun r w' => ∃ x, r = .tuple #[x, .int .i64 (qfC ms)] ∧ OS w' w.heap.size w'.heap.size 28 32 2 x (qfL ms) ∧ Below w.heap.size w w' := by
  have sv := hv.sv
  refine enter1 32 Try.func18 rfl Try.ntmps18 rfl (fun fr => ?_)
  refine go ?_
  refine s_box (wn rfl) rfl rfl (agg_cells sv) (fun w1 hbx _ hp1 hg => ?_)
  have hb := below_of_grownBy hg
  have hv := hv.below hb
  generalize hpe : (⟨w.heap.size, 0, none⟩ : Addr) = p at *
  refine go ?_
  refine s_call1 (wn rfl) rfl rfl (isManiplex_any _ _ _ hv) ?_
  rintro _ w2 ⟨rfl, hb2⟩
  have hb := hb.trans (hb2.mono hb.size)
  have hbx := cell_below hbx hb2
  have hv := hv.below hb2
  refine splitb (decide (IsMan ms)) (fun hm => ?_) (fun hm => ?_)
  rotate_left
  · have e := qf_1 (of_decide_eq_false hm)
    refine go ?_
    exact end_two Try.results18 rfl rfl ⟨_, by rw [e.2], by rw [e.1]; exact OS.nil _ _ _ _ _ _, hb⟩
  have hm' := of_decide_eq_true hm
  have hal := auts_le hm'
  refine go ?_
  refine s_call2 (wn rfl) rfl rfl rfl (coveringsOf_any _ _ _ _ _ hv hv hm' hm') ?_
  rintro cv wA ⟨hcv, hbA⟩
  have hv := hv.below hbA
  have hbx := cell_below hbx hbA
  have hbW := hb.trans (hbA.mono hb.size)
  have zW := hbW.size
  have eA : covers ms ms (nf ms) = auts ms := rfl
  rw [eA] at hcv
  have hcr := hcv.rl
  have scv := hcr.sv
  refine go ?_
  refine w_loop (fun kk fr w' => ∃ (i : Nat) (fv : Value), kk = (auts ms).length - i ∧ i ≤ (auts ms).length ∧ fr 1 = .pointer (some p) ∧ fr 4 = fv ∧ fr 13 = cv ∧ fr 14 = .int .i64 (auts ms).length ∧ fr 15 = .int .i64 i ∧
      OS w' wA.heap.size w'.heap.size 28 32 2 fv (qfT ms i) ∧ Below wA.heap.size wA w') (auts ms).length
    ⟨0, _, rfl, Nat.zero_le _, rfl, rfl, rfl, rfl, rfl, OS.nil _ _ _ _ _ _, Below.refl _ _⟩ ?_
  rintro kk fr w3 ⟨i, fv, rfl, hi, f1, f4, f13, f14, f15, hos, hb3⟩
  have z3 := hb3.size
  have hv3 := hv.below hb3
  have hbx3 := cell_below hbx hb3
  have hcr3 := hcr.below hb3
  refine know (t := 1) f1 ?_; refine know (t := 4) f4 ?_; refine know (t := 13) f13 ?_; refine know (t := 14) f14 ?_; refine know (t := 15) f15 ?_
  refine go ?_
  refine cond_dec rfl (fun hlt => ?_) (fun hge => ?_)
  · have hil : i < (auts ms).length := by omega
    obtain ⟨u, hu, hcu⟩ := hcr3.row (j := (i : Int)) (by omega) hlt
    have hHom := (mem_auts hm').1 (gr_in hil)
    have hsu := qfT_succ hil
    have hle := qfT_le hm' i
    generalize hpp : gr (auts ms) i = pp at *
    refine go ?_
    refine s_build1V (B := w3.heap.size) (wn rfl) rfl rfl hu.sv.one (Nat.le_refl _) (fun tb w4 ht st hg4 _ => ?_)
    have hb4 := below_of_grownBy hg4
    have hrt : RL w4 tb [pp] := ⟨[u], ht.rd, rfl, fun q a xs ha hx => by
      match q, ha, hx with
      | 0, ha, hx =>
        obtain rfl := Option.some.inj ha
        obtain rfl := Option.some.inj hx
        exact hu.below hb4⟩
    refine go ?_
    refine s_call2 (wn rfl) rfl rfl rfl (quotient_any _ _ _ _ _ _ (hv3.below hb4) (cell_below hbx3 hb4) hrt hm' (fun q hq => by rw [List.mem_singleton.1 hq]; exact hHom) (by simp)) ?_
    rintro _ w5 ⟨y, rfl, hy, hb5⟩
    have hb45 := hb4.trans (hb5.mono hb4.size)
    refine go ?_
    refine s_alloc (B := w5.heap.size) (wn rfl) rfl (Nat.le_refl _) (fun w6 p7 h7 hg6 _ => ?_)
    have hb6 := below_of_grownBy hg6
    refine go ?_
    refine s_storeBox (wn rfl) rfl rfl hy.sv.one h7 (fun w7 h77 hg7 => ?_)
    have hb57 := hb6.trans (h7.below_of hg7 hb6.size)
    have hy7 := hy.rl.below hb57
    have hc7 := h77.cell
    have hb37 := hb45.trans (hb57.mono hb45.size)
    refine go ?_
    refine s_call1 (wn rfl) rfl rfl (isManiplex_any _ _ _ hy7) ?_
    rintro _ w8 ⟨rfl, hb8⟩
    have hy8 := hy7.below hb8
    have hc8 := cell_below hc7 hb8
    have hb38 := hb37.trans (hb8.mono hb37.size)
    refine splitb (decide (IsMan (quoL ms [pp]))) (fun hq => ?_) (fun hq => ?_)
    · have hq' := of_decide_eq_true hq
      rw [if_pos hq'] at hsu
      refine go ?_
      refine s_call1 (wn rfl) rfl rfl (leastForm_any _ _ _ hy8 hq') ?_
      rintro _ w9 ⟨z, rfl, hz, hb9⟩
      have hb39 := hb38.trans (hb9.mono hb38.size)
      refine go ?_
      refine s_buildE (B := w9.heap.size) [z] (wn rfl) rfl rfl (by decide) rfl (by simpa using hz.sv.one) (Nat.le_refl _) (fun tc w10 htc hg10 _ => ?_)
      have hb10 := below_of_grownBy hg10
      have hz10 := hz.below hb10
      have hb310 := hb39.trans (hb10.mono hb39.size)
      have z10 := hb310.size
      have z9 := hb39.size
      have z8 := hb38.size
      have z910 := hb10.size
      have z89 := hb9.size
      have hos10 := hos.below hb310
      obtain ⟨vs, Bs, Es, h1, h2, h3, h4, h5, h6, h7'⟩ := hos10.out
      refine go ?_
      refine s_appendE (wn rfl) rfl rfl rfl h1 htc.rd (by simpa using hz.sv.one) (by simp; omega) (by omega) (fun fv' w11 ho11 hg11 hown => ?_)
      have hos11 := OS.snoc h1 h2 h3 h4 h5 h6 h7' hz10 (fun g hg => (hz.ownlt g hg).2) (by omega) (by omega) (by omega) (by omega) ho11 hg11 hown (by decide) (by decide)
      have hb11 := (hb3.trans (hb310.mono z3)).trans (grownBy_below hg11 (by omega) (fun g hg => (h1.lt g hg).1))
      refine go ?_
      exact ⟨(auts ms).length - (i + 1), by omega, i + 1, fv', rfl, by omega, rfl, rfl, rfl, rfl, rfl, by rw [hsu]; exact hos11, hb11⟩
    · have hq' := of_decide_eq_false hq
      rw [if_neg hq', List.append_nil] at hsu
      have z8 := hb38.size
      refine go ?_
      exact ⟨(auts ms).length - (i + 1), by omega, i + 1, fv, rfl, by omega, rfl, rfl, rfl, rfl, rfl, by rw [hsu]; exact (hos.below hb38).wide z8, hb3.trans (hb38.mono z3)⟩
  obtain rfl : i = (auts ms).length := by omega
  have e := qf_2 hm'
  have hle := qfT_le hm' (auts ms).length
  refine go ?_
  refine s_call1 (wn rfl) rfl rfl (sortFormsS2_any fv _ _ _ _ hos (fun m h => (qfT_ok _ m h).m0.r1) (by omega)) ?_
  rintro r w4 ⟨hr, hg4⟩
  obtain ⟨vs, Bs, Es, h1, _⟩ := hos.out
  have hb4 := hbW.trans ((hb3.trans (grownBy_below hg4 z3 (fun g hg => (h1.lt g hg).1))).mono zW)
  refine go ?_
  exact end_two Try.results18 rfl rfl ⟨_, by rw [e.2], by rw [e.1]; exact (hr.mono zW).wide hg4.size, hb4⟩
end Go.Proofs.Ytlfomllgmdahfaa
