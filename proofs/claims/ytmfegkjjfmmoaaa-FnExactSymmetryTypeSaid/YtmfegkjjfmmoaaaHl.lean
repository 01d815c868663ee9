/- The walk's own words, continued: a region that draws its order and in which calls give memory: what only looks is taken first, by its number; then the one call that is ready. Over any program. -/
import Derived.Test.YtmfegkjjfmmoaaaGo
namespace Go.Mem
open Go.RowKit

/-- What is left of such a region: 'listed' says what has come up. S holds of every world that the region meets. -/
structure WH (P : Program) (ops : Array Oper) (S : World → Prop) (Q : Exit → Fm → World → Prop) (fuel : Nat) (listed : Array Bool) (n : Nat) (f : Fm) (w : World) : Prop where
  out : wpAnyH P .any ops (lift n Q) S fuel listed (act n f.fn) w

section
variable {P : Program} {ops : Array Oper} {Q : Exit → Fm → World → Prop} {n : Nat} {f : Fm} {w w0 : World} {S : World → Prop} {fuel : Nat} {listed : Array Bool}

theorem region_hS {id : Nat} (S : World → Prop) (hm : P.follows .mixedOrders = true)
    (h : ∀ w', Below w.heap.size w w' → WH P ops S Q ops.size (Array.replicate ops.size false) n f w') : WC P (.region id ops true) Q n f w :=
  ⟨wp_region_held (S := S) hm (h _ (Below.refl _ _).drew).out⟩
theorem region_h {id : Nat} (hm : P.follows .mixedOrders = true)
    (h : ∀ w', Below w.heap.size w w' → WH P ops (fun w' => Below w.heap.size w w') Q ops.size (Array.replicate ops.size false) n f w') : WC P (.region id ops true) Q n f w :=
  region_hS _ hm h

theorem h_nil (h : Q .normal f w) (hr : Region.ready .any ops listed = [] := by kernel_rfl) : WH P ops S Q fuel listed n f w := ⟨wpAnyH_done hr ⟨nofun, f, rfl, h⟩ fuel⟩

theorem h_p (i : Nat) {d : Nat} {op : Op} {ty : TypeId} {pos : String} {after : Array Edge} {g : Option (Nat × Bool)} {v : Value}
    (hb : S w)
    (k : WH P ops S Q fuel (listed.setIfInBounds i true) n (.upd f d v) w)
    (hi : ops[i]? = some ⟨some d, op, ty, pos, after, g⟩ := by rfl) (hs : Region.noSelect ops = true := by kernel_rfl)
    (hf : Region.free .any ops listed i = true := by kernel_rfl) (hr : (Region.ready .any ops listed).contains i = true := by kernel_rfl)
    (hw : Wants ⟨some d, op, ty, pos, after, g⟩ ops n f := by first | exact wn rfl | exact wy rfl rfl rfl rfl rfl known)
    (hd : Nat.ble (d + 1) n = true := by rfl)
    (hrun : ∀ w, S w → Yld P (evo n f) ⟨some d, op, ty, pos, after, g⟩ w v := by exact qyl) : WH P ops S Q (fuel + 1) listed n f w := by
  refine ⟨wpAnyH_take hi hs hf hr (v := v) (fun c a w h => absurd rfl (h.1 c)) (.inl ⟨hw, fun w hw => by rw [act_eval]; exact (hrun w hw).out⟩) hb ?_⟩
  rw [act_put f v (Nat.le_of_ble_eq_true hd)]
  exact k.out

theorem h_no (i : Nat) {d : Nat} {op : Op} {ty : TypeId} {pos : String} {after : Array Edge} {g : Option (Nat × Bool)}
    (hb : S w)
    (k : WH P ops S Q fuel (listed.setIfInBounds i true) n (.upd f d undef) w)
    (hi : ops[i]? = some ⟨some d, op, ty, pos, after, g⟩ := by rfl) (hs : Region.noSelect ops = true := by kernel_rfl)
    (hf : Region.free .any ops listed i = true := by kernel_rfl) (hr : (Region.ready .any ops listed).contains i = true := by kernel_rfl)
    (hw : Idle ⟨some d, op, ty, pos, after, g⟩ ops n f := by exact wx rfl rfl rfl rfl rfl known)
    (hd : Nat.ble (d + 1) n = true := by rfl) : WH P ops S Q (fuel + 1) listed n f w := by
  refine ⟨wpAnyH_take hi hs hf hr (v := undef) (fun c a w h => absurd rfl (h.1 c)) (.inr ⟨hw, rfl⟩) hb ?_⟩
  rw [act_put f undef (Nat.le_of_ble_eq_true hd)]
  exact k.out

theorem wp_exits {o : Oper} {a : Act} {w : World} {K K' : Act → World → Prop} {Q1 Q2 : Exit → Act → World → Prop} (h : ∀ a w, K a w → K' a w) (hp : ∀ c a w, Q1 (.panic c) a w → Q2 (.panic c) a w)
    (hg : ∀ a w, Q1 .outgrown a w → Q2 .outgrown a w) (hh : o.wp P a w K Q1) : o.wp P a w K' Q2 := by
  unfold Oper.wp at *
  generalize (execOp a.eval o).run P w = r at *
  have hl : LetsOut Q1 → LetsOut Q2 := fun ⟨a, w, h⟩ => ⟨a, w, hg a w h⟩
  cases r with
  | ok n w' =>
    cases n <;> simp only [Oper.upon] at hh ⊢ <;>
      first
        | exact h _ _ hh
        | exact Calls.mono hh (fun e w'' he => by cases e <;> first | exact h _ _ he | exact hp _ _ _ he | exact hl he)
        | exact Rows.mono hh (fun _ _ he => h _ _ he)
  | halt x w' => cases x <;> simp only [Oper.upon] at hh ⊢ <;> first | exact hp _ _ _ hh | exact hh

/-- What stands alone comes up now, as it would in an ordered region. -/
theorem h_one (i : Nat) {o : Oper}
    (k : WL P ops (seqP (fun f' w' => S w' ∧ WH P ops S Q fuel (listed.setIfInBounds i true) n f' w') Q) [o] n f w)
    (hi : ops[i]? = some o := by rfl) (hr : Region.ready .any ops listed = [i] := by kernel_rfl) : WH P ops S Q (fuel + 1) listed n f w := by
  refine ⟨wpAnyH_all hr (by simp) fun j hj => ?_⟩
  obtain rfl : j = i := by simpa using hj
  have hk := k.out
  unfold wpList at hk
  have hnext : ∀ a w, wpList P ops (lift n (seqP (fun f' w' => S w' ∧ WH P ops S Q fuel (listed.setIfInBounds j true) n f' w') Q)) [] a w →
      S w ∧ wpAnyH P .any ops (lift n Q) S fuel (listed.setIfInBounds j true) a w := by
    rintro a w ⟨_, f', rfl, hb, hw⟩
    exact ⟨hb, hw.out⟩
  unfold wpOp
  simp only [hi]
  split
  · rename_i hw
    rw [if_pos hw] at hk
    rcases hk with hk | ⟨h1, a, w, h2⟩
    · exact .inl (wp_exits hnext (fun c a w h => absurd rfl (h.1 c)) (fun a w h => h) hk)
    · exact .inr ⟨h1, a, w, h2⟩
  · rename_i hw
    rw [if_neg hw] at hk
    exact hnext _ _ hk

/-- the call's end: the region goes on -/
theorem h_on {K : Fm → World → Prop} (h : K f w) : seqP K Q .normal f w := h
end
end Go.Mem
