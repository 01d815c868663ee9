/- Contracts: FirstNothing, on both sides. -/
import Derived.Test.YtlodnhflfijomaaF31
import Derived.Test.YtlodnhflfijomaaP26
import Derived.Test.YtlodnhflfijomaaP25
namespace Go.Mem
theorem does_snoc (ms : List (List Int)) (W : List Int) (i : Int) (n : Nat) : does ms (W ++ [i]) n = aft (does ms W n) (gr ms i) := by simp [does, List.foldl_append]
theorem isWord_snoc {ms : List (List Int)} {W : List Int} {i : Nat} (h : IsWord ms W) (hl : W.length < 64) (hi : i < ms.length) : IsWord ms (W ++ [(i : Int)]) := by
  refine ⟨by simp; omega, fun x hx => ?_⟩
  rcases List.mem_append.1 hx with hx | hx
  · exact h.2 x hx
  · simp at hx; subst hx; omega
theorem getLast_gi {W : List Int} (h : W.length ≠ 0) : W.getLast? = some (gi W ((W.length : Int) - 1)) := by
  rw [List.getLast?_eq_getElem?]
  have e : ((W.length : Int) - 1).toNat = W.length - 1 := by omega
  simp [gi, List.getD, e, show W.length - 1 < W.length by omega]
end Go.Mem
namespace Go.Proofs.Ytlodnhflfijomaa
open Go.Mem Go.RowKit
set_option linter.unusedVariables false
set_option linter.unusedSimpArgs false
section
variable {P : Program} {ops : Array Oper} {Q : Exit → Fm → World → Prop} {n : Nat} {f : Fm} {w : World} {rest : List Oper} {ty : TypeId} {pos : String} {after : Array Edge} {g : Option (Nat × Bool)} {d : Nat}
theorem s_call6 {fn : FuncId} {x y z u s t : Operand} {ats : Array TypeId} {a b c e i j : Value} {R : Value → World → Prop} [hf : FunTy P fn]
    (hw : Wants ⟨some d, .call ⟨.value (.func fn), #[x, y, z, u, s, t], ats⟩, ty, pos, after, g⟩ ops n f) (hd : Nat.ble (d + 1) n = true)
    (hx : lk n f x = some a) (hy : lk n f y = some b) (hz : lk n f z = some c) (hu : lk n f u = some e) (hs : lk n f s = some i) (ht : lk n f t = some j) (hc : Ret P fn #[a, b, c, e, i, j] w R) (k : ∀ v w', R v w' → WL P ops Q rest n (.upd f d v) w') :
    WL P ops Q (⟨some d, .call ⟨.value (.func fn), #[x, y, z, u, s, t], ats⟩, ty, pos, after, g⟩ :: rest) n f w := s_call hw hd (by simp [lk_evo hx, lk_evo hy, lk_evo hz, lk_evo hu, lk_evo hs, lk_evo ht]) hc k
variable {S : World → Prop} {fuel : Nat} {listed : Array Bool}
theorem _root_.Go.Mem.WL.mono {o : Oper} {Q' : Exit → Fm → World → Prop} (h : WL P ops Q [o] n f w) (hq : ∀ e f w, Q e f w → Q' e f w) : WL P ops Q' [o] n f w := by
  have hk := h.out
  have hl : ∀ e a w, lift n Q e a w → lift n Q' e a w := by
    rintro e a w ⟨h1, f, h2, h3⟩
    exact ⟨h1, f, h2, hq _ _ _ h3⟩
  refine ⟨?_⟩
  unfold wpList at hk ⊢
  have hnext : ∀ a w, wpList P ops (lift n Q) [] a w → wpList P ops (lift n Q') [] a w := fun a w h => hl _ _ _ h
  split
  · rename_i hw
    rw [if_pos hw] at hk
    rcases hk with hk | ⟨h1, a, w, h2⟩
    · exact .inl (wp_exits hnext (fun c a w h => absurd rfl (h.1 c)) (fun a w h => hl _ _ _ h) hk)
    · exact .inr ⟨h1, a, w, hl _ _ _ h2⟩
  · rename_i hw
    rw [if_neg hw] at hk
    exact hnext _ _ hk
theorem _root_.Go.Mem.WH.swap {d d2 : Nat} {v v2 : Value} (hne : d ≠ d2) (h : WH P ops S Q fuel listed n (.upd (.upd f d v) d2 v2) w) : WH P ops S Q fuel listed n (.upd (.upd f d2 v2) d v) w := by
  have e : (Fm.upd (.upd f d2 v2) d v).fn = (Fm.upd (.upd f d v) d2 v2).fn := by
    funext t
    show (if t = d then v else if t = d2 then v2 else f.fn t) = (if t = d2 then v2 else if t = d then v else f.fn t)
    by_cases h1 : t = d
    · subst h1; rw [if_pos rfl, if_neg hne, if_pos rfl]
    · rw [if_neg h1, if_neg h1]
  obtain ⟨h⟩ := h
  exact ⟨by rw [e]; exact h⟩
/-- two operations are ready, in either order; then the same rest -/
theorem h_pair (i i2 d d2 : Nat) {o o2 : Oper} (J : Value → Value → World → Prop)
    (k : WL P ops (seqP (fun f' w' => S w' ∧ ∃ v, f' = .upd f d v ∧ WL P ops (seqP (fun f2 w2 => S w2 ∧ ∃ v2, f2 = .upd (.upd f d v) d2 v2 ∧ J v v2 w2) Q) [o2] n (.upd f d v) w') Q) [o] n f w)
    (k2 : WL P ops (seqP (fun f' w' => S w' ∧ ∃ v2, f' = .upd f d2 v2 ∧ WL P ops (seqP (fun f2 w2 => S w2 ∧ ∃ v, f2 = .upd (.upd f d2 v2) d v ∧ J v v2 w2) Q) [o] n (.upd f d2 v2) w') Q) [o2] n f w)
    (hJ : ∀ v v2 w', S w' → J v v2 w' → WH P ops S Q fuel ((listed.setIfInBounds i true).setIfInBounds i2 true) n (.upd (.upd f d v) d2 v2) w')
    (hne : d ≠ d2 := by decide) (hi : ops[i]? = some o := by rfl) (hi2 : ops[i2]? = some o2 := by rfl) (hr : Region.ready .any ops listed = [i, i2] := by kernel_rfl)
    (hr1 : Region.ready .any ops (listed.setIfInBounds i true) = [i2] := by kernel_rfl) (hr2 : Region.ready .any ops (listed.setIfInBounds i2 true) = [i] := by kernel_rfl)
    (hrr : (listed.setIfInBounds i2 true).setIfInBounds i true = (listed.setIfInBounds i true).setIfInBounds i2 true := by kernel_rfl) : WH P ops S Q (fuel + 2) listed n f w := by
  refine h_two i i2 (k.mono fun e f' w' hq => ?_) (k2.mono fun e f' w' hq => ?_) hi hi2 hr
  · cases e with
    | normal =>
      obtain ⟨hs, v, rfl, h⟩ := hq
      refine ⟨hs, h_one i2 (h.mono fun e f' w' hq => ?_) hi2 hr1⟩
      cases e with
      | normal => obtain ⟨hs, v2, rfl, h⟩ := hq; exact ⟨hs, hJ _ _ _ hs h⟩
      | _ => exact hq
    | _ => exact hq
  · cases e with
    | normal =>
      obtain ⟨hs, v2, rfl, h⟩ := hq
      refine ⟨hs, h_one i (h.mono fun e f' w' hq => ?_) hi hr2⟩
      cases e with
      | normal => obtain ⟨hs, v, rfl, h⟩ := hq; exact ⟨hs, by rw [hrr]; exact (hJ _ _ _ hs h).swap hne⟩
      | _ => exact hq
    | _ => exact hq
end
set_option maxRecDepth 100000 in
theorem CloneI_any (v : Value) (xs : List Int) (w : World) (hv : IL w v xs) (hl : xs.length ≤ 1000000) :
    Ret Try.prog 200 #[v] w fun r w' => OI w' w.heap.size 2 r xs ∧ Below w.heap.size w w' := by
  have sv := hv.sv
  refine enter1 8 Try.func200 rfl Try.ntmps200 rfl (fun fr => ?_)
  refine go ?_
  cases hn : nilV v with
  | true =>
    have hx : xs = [] := by
      by_cases h : xs.length = 0
      · exact List.length_eq_zero_iff.1 h
      · rw [nilV_of sv h] at hn; simp at hn
    subst hx
    refine go ?_
    exact end_one Try.results200 rfl ⟨OI.nil _ _ _, Below.refl _ _⟩
  | false =>
    refine go ?_
    refine s_build0 (B := w.heap.size) (wn rfl) rfl (Nat.le_refl _) (fun ob w1 ho so hg1 _ => ?_)
    have hb1 := below_of_grownBy hg1
    have hv := hv.below hb1
    have h1 := hb1.size
    refine go ?_
    refine s_appendI (wn rfl) rfl rfl rfl ho hv (by simp; omega) h1 (fun ob' w2 ho2 so2 hg2 _ => ?_)
    have hb2 := hb1.trans (ho.below_of hg2 h1)
    refine go ?_
    exact end_one Try.results200 rfl ⟨by simpa using ho2, hb2⟩

end Go.Proofs.Ytlodnhflfijomaa
