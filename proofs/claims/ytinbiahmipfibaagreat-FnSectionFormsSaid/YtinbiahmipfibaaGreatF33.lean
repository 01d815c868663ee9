/- Contracts: HalfOf, OppositeOf, on both sides. -/
import Derived.Test.YtinbiahmipfibaaGreatF32
namespace Go.Proofs.YtinbiahmipfibaaGreat
open Go.Mem Go.RowKit
set_option linter.unusedVariables false


section
variable {P : Program} {ops : Array Oper} {Q : Exit → Fm → World → Prop} {n : Nat} {f : Fm} {w : World} {rest : List Oper} {ty : TypeId} {pos : String} {after : Array Edge} {g : Option (Nat × Bool)} {d : Nat}
theorem s_build3 {B : Nat} {t e : TypeId} {z : Value} {bytes : Nat} {x y y2 : Operand} {a b c : Int} [ht : SliceTy P t e] [he : CellTy P e z bytes]
    (hw : Wants ⟨some d, .buildSlice t 3 #[(0, x), (1, y), (2, y2)], ty, pos, after, g⟩ ops n f) (hd : Nat.ble (d + 1) n = true)
    (hx : lk n f x = some (.int .i64 a)) (hy : lk n f y = some (.int .i64 b)) (hz : lk n f y2 = some (.int .i64 c)) (hB : B ≤ w.heap.size)
    (k : ∀ v w', OI w' B e v [a, b, c] → SV v 3 → w.grownBy w' none → v.ownBlock = some w.heap.size → WL P ops Q rest n (.upd f d v) w') :
    WL P ops Q (⟨some d, .buildSlice t 3 #[(0, x), (1, y), (2, y2)], ty, pos, after, g⟩ :: rest) n f w :=
  s_buildI [a, b, c] hw hd (by simp [lk_evo hx, lk_evo hy, lk_evo hz]; rfl) rfl rfl hB k
theorem s_build3V {B : Nat} {t e : TypeId} {z : Value} {bytes : Nat} {x y y2 : Operand} {a b c : Value} [ht : SliceTy P t e] [he : CellTy P e z bytes]
    (hw : Wants ⟨some d, .buildSlice t 3 #[(0, x), (1, y), (2, y2)], ty, pos, after, g⟩ ops n f) (hd : Nat.ble (d + 1) n = true)
    (hx : lk n f x = some a) (hy : lk n f y = some b) (hz : lk n f y2 = some c) (h1 : a.oneCell' = true) (h2 : b.oneCell' = true) (h3 : c.oneCell' = true) (hB : B ≤ w.heap.size)
    (k : ∀ v w', Own w' B e v [a, b, c] → w.grownBy w' none → WL P ops Q rest n (.upd f d v) w') :
    WL P ops Q (⟨some d, .buildSlice t 3 #[(0, x), (1, y), (2, y2)], ty, pos, after, g⟩ :: rest) n f w :=
  s_build [a, b, c] hw hd (by simp [lk_evo hx, lk_evo hy, lk_evo hz]; rfl) (by decide) rfl (by intro u hu; simp at hu; rcases hu with rfl | rfl | rfl <;> assumption) hB fun v w' ho hg _ => k v w' ho hg
end
theorem RL.three {w : World} {B : Nat} {T : TypeId} {v a b c : Value} {x y z : List Int} (h : Own w B T v [a, b, c]) (ha : IL w a x) (hb : IL w b y) (hc : IL w c z) : RL w v [x, y, z] := by
  refine ⟨[a, b, c], h.rd, rfl, fun i u xs hu hx => ?_⟩
  match i, hu, hx with
  | 0, hu, hx => simp at hu hx; subst hu hx; exact ha
  | 1, hu, hx => simp at hu hx; subst hu hx; exact hb
  | 2, hu, hx => simp at hu hx; subst hu hx; exact hc
  | i + 3, hu, hx => simp at hu
theorem words3 {ms ws : List (List Int)} (h : ms.length = 3) (hw : ∀ w ∈ ws, w.length ≤ 64 ∧ ∀ x ∈ w, 0 ≤ x ∧ x < 3) : ∀ w ∈ ws, IsWord ms w := fun w hx =>
  ⟨(hw w hx).1, fun x hx' => by have := (hw w hx).2 x hx'; omega⟩

end Go.Proofs.YtinbiahmipfibaaGreat
