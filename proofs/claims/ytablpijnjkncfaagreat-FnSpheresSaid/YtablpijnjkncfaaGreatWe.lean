/- Regions that draw their order, in which the operation L writes what others read ahead of it: S holds till L. -/
import Derived.Test.YtablpijnjkncfaaGreatSc
namespace Go
section
variable {P : Program} {md : Region.Mode} {ops : Array Oper} {Q : Exit → Act → World → Prop} {S : World → Prop} {L : Nat}
def wpAnyL (P : Program) (md : Region.Mode) (ops : Array Oper) (Q : Exit → Act → World → Prop) (S : World → Prop) (L : Nat) : Nat → Array Bool → Act → World → Prop
  | 0, listed, a, w => Region.ready md ops listed = [] ∧ Q .normal a w
  | fuel + 1, listed, a, w =>
    (Region.ready md ops listed = [] → Q .normal a w) ∧
    ∀ i ∈ Region.ready md ops listed, wpOp P ops Q i (fun a' w' => (i ≠ L → S w') ∧ wpAnyL P md ops Q S L fuel (listed.setIfInBounds i true) a' w') a w
theorem wpAny_of_L : ∀ (fuel : Nat) (listed : Array Bool) (a : Act) (w : World), wpAnyL P md ops Q S L fuel listed a w → wpAny P md ops Q fuel listed a w
  | 0, _, _, _, h => h
  | fuel + 1, _, _, _, h => ⟨h.1, fun i hi => wpOp_mono (fun a' w' h' => wpAny_of_L fuel _ a' w' h'.2) (h.2 i hi)⟩
theorem wpAnyL_first {i : Nat} {oi oL : Oper} {v : Value} (hi : ops[i]? = some oi) (hL : ops[L]? = some oL) (hLi : ∃ e ∈ oL.after, Region.binds md e = true ∧ e.on = i) (hsel : ∀ (j : Nat) (o : Oper) cs b, ops[j]? = some o → o.op ≠ .select cs b)
    (hQ : ∀ c a w, Q (.panic c) (a.put oi.dst v) w → Q (.panic c) a w) :
    ∀ (fuel : Nat) (listed : Array Bool) (a : Act) (w : World),
      (∀ j oj, ops[j]? = some oj → j ≠ i → listed.getD j true = false → (∀ e ∈ oj.after, Region.binds md e = true → e.on ≠ i) → oi.apart ops oj = true) →
      i ∈ Region.ready md ops listed → YieldsIf P ops S oi v a → S w →
      wpAnyL P md ops Q S L fuel (listed.setIfInBounds i true) (a.put oi.dst v) w → wpAnyL P md ops Q S L (fuel + 1) listed a w := by
  intro fuel
  induction fuel with
  | zero =>
    intro listed a w _ hr hy hS H
    refine ⟨fun h => (by rw [h] at hr; cases hr), fun j hj => ?_⟩
    by_cases hji : j = i
    · subst hji; exact hy.wpOp hi hS ⟨fun _ => hS, H⟩
    · have := ready_mono hj hji
      rw [H.1] at this
      cases this
  | succ fuel ih =>
    intro listed a w hfree hr hy hS H
    refine ⟨fun h => (by rw [h] at hr; cases hr), fun j hj => ?_⟩
    by_cases hji : j = i
    · subst hji; exact hy.wpOp hi hS ⟨fun _ => hS, H⟩
    · have h1 := H.2 j (ready_mono hj hji)
      obtain ⟨hjun, oj, hoj, hall⟩ := mem_ready.1 hj
      have hnot : ∀ e ∈ oj.after, Region.binds md e = true → e.on ≠ i := fun e he hb heq => by
        have h1 := hall e he hb
        have h0 := (mem_ready.1 hr).1
        rw [heq] at h1
        rcases Nat.lt_or_ge i listed.size with h' | h'
        · simp [h'] at h0 h1; rw [h0] at h1; cases h1
        · simp [Array.getElem?_eq_none h'] at h1
      have hjL : j ≠ L := by
        rintro rfl
        obtain ⟨e, he, hb, heq⟩ := hLi
        rw [hL] at hoj
        cases hoj
        exact hnot e he hb heq
      have h2 := wpOp_putIf hoj (hfree j oj hoj hji hjun hnot) (fun cs b => hsel i oi cs b hi) (fun cs b => hsel j oj cs b hoj) hQ hy h1
      have hfree' : ∀ k ok, ops[k]? = some ok → k ≠ i → (listed.setIfInBounds j true).getD k true = false →
          (∀ e ∈ ok.after, Region.binds md e = true → e.on ≠ i) → oi.apart ops ok = true := fun k ok hk hki hun hno => by
        refine hfree k ok hk hki ?_ hno
        by_cases hjk : j = k
        · subst hjk; exact hjun
        · rw [getD_set_ne true hjk] at hun; exact hun
      refine wpOp_mono (fun a' w' h3 => ⟨fun _ => h3.2.1 hjL, ih (listed.setIfInBounds j true) a' w' hfree' (ready_mono hr (Ne.symm hji)) h3.1 (h3.2.1 hjL) ?_⟩) h2
      rw [Array.setIfInBounds_comm _ _ hji]
      exact h3.2.2
theorem wpAnyL_done {listed : Array Bool} {a : Act} {w : World} (hr : Region.ready md ops listed = []) (h : Q .normal a w) : ∀ fuel, wpAnyL P md ops Q S L fuel listed a w
  | 0 => ⟨hr, h⟩
  | fuel + 1 => ⟨fun _ => h, fun i hi => by rw [hr] at hi; cases hi⟩
end
end Go
namespace Go.Mem
open Go.RowKit
set_option linter.unusedVariables false
/-- what is left of such a region -/
structure WX (P : Program) (ops : Array Oper) (S : World → Prop) (L : Nat) (Q : Exit → Fm → World → Prop) (fuel : Nat) (listed : Array Bool) (n : Nat) (f : Fm) (w : World) : Prop where
  out : wpAnyL P .any ops (lift n Q) S L fuel listed (act n f.fn) w
section
variable {P : Program} {ops : Array Oper} {Q : Exit → Fm → World → Prop} {n : Nat} {f : Fm} {w w0 : World} {S : World → Prop} {L : Nat} {fuel : Nat} {listed : Array Bool}
theorem region_x (L : Nat) {id : Nat} (hm : P.follows .mixedOrders = true)
    (h : ∀ w', Below w.heap.size w w' → WX P ops (fun w' => Below w.heap.size w w') L Q ops.size (Array.replicate ops.size false) n f w') : WC P (.region id ops true) Q n f w :=
  ⟨wp_region_any hm (wpAny_of_L _ _ _ _ (h _ (Below.refl _ _).drew).out)⟩
theorem x_nil (h : Q .normal f w) (hr : Region.ready .any ops listed = [] := by kernel_rfl) : WX P ops S L Q fuel listed n f w := ⟨wpAnyL_done hr ⟨nofun, f, rfl, h⟩ fuel⟩
def waits (ops : Array Oper) (L i : Nat) : Bool := (ops[L]?.map fun o => o.after.toList.any fun e => Region.binds .any e && e.on == i) == some true
theorem waits_spec {L i : Nat} (h : waits ops L i = true) : ∃ oL, ops[L]? = some oL ∧ ∃ e ∈ oL.after, Region.binds .any e = true ∧ e.on = i := by
  unfold waits at h
  cases ho : ops[L]? with
  | none => rw [ho] at h; simp at h
  | some o =>
    rw [ho] at h
    have h : (o.after.toList.any fun e => Region.binds .any e && e.on == i) = true := by simpa [-Array.any_toList] using h
    simp only [List.any_eq_true, Bool.and_eq_true, beq_iff_eq] at h
    obtain ⟨x, hx, h1⟩ := h
    exact ⟨o, rfl, x, by simpa using hx, h1.1, h1.2⟩
theorem x_p (i : Nat) {d : Nat} {op : Op} {ty : TypeId} {pos : String} {after : Array Edge} {g : Option (Nat × Bool)} {v : Value}
    (hb : S w)
    (k : WX P ops S L Q fuel (listed.setIfInBounds i true) n (.upd f d v) w)
    (hi : ops[i]? = some ⟨some d, op, ty, pos, after, g⟩ := by rfl) (hs : Region.noSelect ops = true := by kernel_rfl)
    (hf : Region.free .any ops listed i = true := by kernel_rfl) (hr : (Region.ready .any ops listed).contains i = true := by kernel_rfl) (hl : waits ops L i = true := by kernel_rfl)
    (hw : Wants ⟨some d, op, ty, pos, after, g⟩ ops n f := by first | exact wn rfl | exact wy rfl rfl rfl rfl rfl known)
    (hd : Nat.ble (d + 1) n = true := by rfl)
    (hrun : ∀ w, S w → Yld P (evo n f) ⟨some d, op, ty, pos, after, g⟩ w v := by exact qyl2) : WX P ops S L Q (fuel + 1) listed n f w := by
  obtain ⟨oL, h1, h2⟩ := waits_spec hl
  refine ⟨wpAnyL_first hi h1 h2 (Region.noSelect_spec hs) (fun c a w h => absurd rfl (h.1 c)) fuel listed _ w (Region.free_spec hi hf) (by simpa using hr) (v := v) (.inl ⟨hw, fun w hw => by rw [act_eval]; exact (hrun w hw).out⟩) hb ?_⟩
  rw [act_put f v (Nat.le_of_ble_eq_true hd)]
  exact k.out
theorem x_one (i : Nat) {o : Oper}
    (k : WL P ops (seqP (fun f' w' => (i ≠ L → S w') ∧ WX P ops S L Q fuel (listed.setIfInBounds i true) n f' w') Q) [o] n f w)
    (hi : ops[i]? = some o := by rfl) (hr : Region.ready .any ops listed = [i] := by kernel_rfl) : WX P ops S L Q (fuel + 1) listed n f w := by
  refine ⟨And.intro (fun h => by rw [h] at hr; cases hr) (fun j hj => ?_)⟩
  rw [hr] at hj
  obtain rfl : j = i := by simpa using hj
  have hk := k.out
  unfold wpList at hk
  have hnext : ∀ a w, wpList P ops (lift n (seqP (fun f' w' => (j ≠ L → S w') ∧ WX P ops S L Q fuel (listed.setIfInBounds j true) n f' w') Q)) [] a w →
      (j ≠ L → S w) ∧ wpAnyL P .any ops (lift n Q) S L fuel (listed.setIfInBounds j true) a w := by
    rintro a w ⟨_, f', rfl, hb, hw⟩
    exact ⟨hb, hw.out⟩
  unfold wpOp
  simp only [hi]
  split
  · rename_i hw
    rw [if_pos hw] at hk
    rcases hk with hk | ⟨h1, a, w, h2⟩
    · exact .inl (wp_exits hnext (fun c a w h => absurd rfl (h.1 c)) (fun a w h => h) hk)
    · exact .inr ⟨h1, a, w, h2⟩
  · rename_i hw
    rw [if_neg hw] at hk
    exact hnext _ _ hk
/-- L is done -/
theorem x_end {K : Fm → World → Prop} (h : K f w) : seqP K Q .normal f w := h
end
end Go.Mem
