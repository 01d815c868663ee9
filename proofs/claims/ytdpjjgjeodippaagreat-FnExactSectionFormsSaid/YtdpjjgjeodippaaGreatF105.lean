/- Contracts: QuotientForms (the program's side). -/
import Derived.Test.YtdpjjgjeodippaaGreatF104
import Derived.Test.YtdpjjgjeodippaaGreatF41
import Derived.Test.YtdpjjgjeodippaaGreatF43
import Derived.Shelf.SlSortCmp.NoneTotal
namespace Go.Mem
open Go.RowKit
set_option linter.unusedVariables false
section
variable {w w2 : World} {B E : Nat} {TM T U : TypeId} {v v' x : Value} {mss : List (List (List Int))} {xss : List (List Int)}
/-- one more, in blocks of its own -/
theorem OS.snoc {vs : List Value} {Bs Es : Nat → Nat} {bx ex : Nat} (h1 : Own w B TM v vs) (h2 : vs.length = mss.length) (h3 : ∀ g, v.ownBlock = some g → g < E)
    (h4 : ∀ (i : Nat) u xss, vs[i]? = some u → mss[i]? = some xss → OM w (Bs i) (Es i) T U u xss ∧ ∀ g, u.ownBlock = some g → g < Es i)
    (h5 : ∀ i, i < vs.length → B ≤ Bs i ∧ Es i ≤ E ∧ Bs i ≤ w.heap.size) (h6 : ∀ i g, i < vs.length → v.ownBlock = some g → g < Bs i ∨ Es i ≤ g)
    (h7 : ∀ i j, i < vs.length → j < vs.length → i ≠ j → Es i ≤ Bs j ∨ Es j ≤ Bs i)
    (hx : OM w bx ex T U x xss) (hxo : ∀ g, x.ownBlock = some g → g < ex) (hE : E ≤ bx) (hB : B ≤ bx) (hex : ex ≤ w.heap.size) (hbx : bx ≤ w.heap.size)
    (ho' : Own w2 B TM v' (vs ++ [x])) (hg : w.grownBy w2 v.ownBlock) (hob : v'.ownBlock = v.ownBlock ∨ v'.ownBlock = some w.heap.size) (hT : T ≠ TM) (hU : U ≠ TM) : OS w2 B w2.heap.size TM T U v' (mss ++ [xss]) := by
  have hsz := hg.size
  refine ⟨vs ++ [x], fun i => if i < vs.length then Bs i else bx, fun i => if i < vs.length then Es i else ex, ho', by simp [h2], fun g hg' => (ho'.lt g hg').2, fun i u zss hu hz => ?_, fun i hi => ?_, fun i g hi hg' => ?_, fun i j hi hj hij => ?_⟩
  · rw [List.getElem?_append] at hu hz
    by_cases hi : i < vs.length
    · rw [if_pos hi] at hu
      rw [if_pos (by omega)] at hz
      obtain ⟨k1, k2⟩ := h4 i u zss hu hz
      simp only [if_pos hi]
      exact ⟨k1.kept_type h1 hT (fun e => hU e.symm) hg, k2⟩
    · rw [if_neg hi] at hu
      rw [if_neg (by omega)] at hz
      have h8 : i - vs.length = 0 := by
        have := (List.getElem?_eq_some_iff.1 hu).1
        simp at this; omega
      rw [h8] at hu
      rw [show i - mss.length = 0 by omega] at hz
      obtain rfl := Option.some.inj hu
      obtain rfl := Option.some.inj hz
      simp only [if_neg hi]
      exact ⟨hx.kept_type h1 hT (fun e => hU e.symm) hg, hxo⟩
  · by_cases hi2 : i < vs.length
    · simp only [if_pos hi2]
      have := h5 i hi2
      omega
    · simp only [if_neg hi2]
      omega
  · by_cases hi2 : i < vs.length
    · simp only [if_pos hi2]
      have := h5 i hi2
      rcases hob with e | e
      · exact h6 i g hi2 (e ▸ hg')
      · rw [e] at hg'
        have := Option.some.inj hg'
        omega
    · simp only [if_neg hi2]
      rcases hob with e | e
      · have := h3 g (e ▸ hg')
        omega
      · rw [e] at hg'
        have := Option.some.inj hg'
        omega
  · simp only [List.length_append, List.length_cons, List.length_nil] at hi hj
    by_cases hi2 : i < vs.length
    · by_cases hj2 : j < vs.length
      · simp only [if_pos hi2, if_pos hj2]
        exact h7 i j hi2 hj2 hij
      · simp only [if_pos hi2, if_neg hj2]
        have := h5 i hi2
        omega
    · by_cases hj2 : j < vs.length
      · simp only [if_neg hi2, if_pos hj2]
        have := h5 j hj2
        omega
      · omega
end
/-- the forms of the quotients by the first i automorphisms, as they come -/
noncomputable def qfT (ms : List (List Int)) (i : Nat) : List (List (List Int)) := (((auts ms).take i).filter fun p => decide (IsMan (quoL ms [p]))).map fun p => lst (quoL ms [p])
noncomputable def qfL (ms : List (List Int)) : List (List (List Int)) := if IsMan ms then fmsM (qfT ms (auts ms).length) else []
noncomputable def qfC (ms : List (List Int)) : Int := if IsMan ms then 0 else 1
section
variable {ms : List (List Int)}
theorem qf_1 (h : ¬ IsMan ms) : qfL ms = [] ∧ qfC ms = 1 := ⟨if_neg h, if_neg h⟩
theorem qf_2 (h : IsMan ms) : qfL ms = fmsM (qfT ms (auts ms).length) ∧ qfC ms = 0 := ⟨if_pos h, if_pos h⟩
theorem qfT_succ {i : Nat} (h : i < (auts ms).length) : qfT ms (i + 1) = qfT ms i ++ (if IsMan (quoL ms [gr (auts ms) i]) then [lst (quoL ms [gr (auts ms) i])] else []) := by
  unfold qfT
  rw [take_gr h, List.filter_append, List.map_append]
  congr 1
  by_cases hm : IsMan (quoL ms [gr (auts ms) i]) <;> simp [hm]
theorem qfT_ok (i : Nat) : ∀ m ∈ qfT ms i, IsMan m := fun m hm => by
  obtain ⟨p, hp, rfl⟩ := List.mem_map.1 hm
  have h := of_decide_eq_true (List.mem_filter.1 hp).2
  obtain ⟨f, hf, e⟩ := lst_frm (ms := quoL ms [p]) (by have := h.m0.f2; omega)
  rw [e]; exact form_man h hf
theorem qfT_le (hm : IsMan ms) (i : Nat) : (qfT ms i).length ≤ 400 := by
  have h1 := auts_le hm
  have h2 : (qfT ms i).length ≤ ((auts ms).take i).length := by unfold qfT; rw [List.length_map]; exact List.length_filter_le _ _
  rw [List.length_take] at h2
  omega
theorem qfL_len (ms : List (List Int)) : 1 + totS (qfL ms) ≤ 4000000000000000000 := by
  unfold qfL
  split
  · rename_i hm
    have h1 : (fmsM (qfT ms (auts ms).length)).length ≤ 400 := Nat.le_trans (List.Nodup.length_le_of_subset (fmsM_nodup _) fun a ha => ((fmsM_ok _).2 a).1 ha) (qfT_le hm _)
    have h2 := totS_le (c := 1000000000) (fmsM (qfT ms (auts ms).length)) fun m hin => by
      have hk := qfT_ok _ m (((fmsM_ok _).2 m).1 hin)
      have r5 := hk.m0.r5
      have f4 := hk.m0.f400
      have := tot_le (c := 400) (xss := m) (fun xs hx => by obtain ⟨q, hq, rfl⟩ := mem_gr hx; have := (hk.m0.row q hq).1; omega)
      omega
    omega
  · simp [totS]
end
end Go.Mem
namespace Go.Proofs.YtdpjjgjeodippaaGreat
open Go.Mem Go.RowKit
set_option linter.unusedVariables false
set_option linter.unusedSimpArgs false

theorem SortFunc_none (v : Value) (B : Nat) (w : World) (ho : Own w B 29 v []) :
    Ret Tryz.prog 69 #[v, .func (.func 70) #[] #[]] w fun r w' => w' = w := by
  have key : ∀ (p : Option Addr) (cap : Nat), Ret Tryz.prog 69 #[.slice p 0 cap, .func (.func 70) #[] #[]] w fun r w' => w' = w := fun p cap => by
    have hcon := AnyF.slices_SortFunc_none Tryz.laysSortF p cap (.func (.func 70) #[] #[]) w
    change Calls Tryz.prog 69 _ _ _ at hcon
    refine Calls.mono hcon ?_
    rintro e w' ⟨he, hw⟩
    subst he
    exact ⟨_, rfl, hw⟩
  rcases ho with ⟨rfl, _⟩ | ⟨g, off, cap, cur, rfl, _⟩
  · exact key _ _
  · exact key _ _

set_option maxRecDepth 100000 in
theorem sortFormsS2_any (v : Value) (mss : List (List (List Int))) (B E : Nat) (w : World) (ho : OS w B E 29 38 2 v mss) (hm1 : ∀ m ∈ mss, 1 ≤ m.length) (hl : mss.length ≤ 1000000) :
    Ret Tryz.prog 47 #[v] w fun r w' => OS w' B E 29 38 2 r (fmsM mss) ∧ w.grownBy w' v.ownBlock := by
  by_cases hne : mss = []
  rotate_left
  · exact sortFormsS_any v mss B E w ho hm1 hne hl
  subst hne
  obtain ⟨vs, Bs, Es, h1, h2, h3, _⟩ := ho.out
  obtain rfl : vs = [] := List.eq_nil_of_length_eq_zero h2
  refine enter1 7 Tryz.func47 rfl Tryz.ntmps47 rfl (fun fr => ?_)
  refine go ?_
  refine s_call2 (wn rfl) rfl rfl rfl (SortFunc_none v B w h1) ?_
  rintro _ _ rfl
  refine go ?_
  refine s_call2 (wn rfl) rfl rfl rfl (CompactFunc_any v [] [] B _ h1 (Els.nil _ _ _) (by simp)) ?_
  rintro r w2 ⟨ho2, hg2, hob⟩
  refine go ?_
  exact end_one Tryz.results47 rfl ⟨⟨[], fun _ => 0, fun _ => 0, by simpa [kp] using ho2, rfl, fun g hg => h3 g (hob g hg), by simp, by simp, by simp, by simp⟩, hg2⟩

end Go.Proofs.YtdpjjgjeodippaaGreat
