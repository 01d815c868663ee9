/- Contracts: StabilizerOf, on both sides. -/
import Derived.Test.YtablpijnjkncfaaGreatF26
namespace Go.Mem
open Go.RowKit
set_option linter.unusedVariables false
section
variable {w w' : World} {B B' E : Nat} {U : TypeId} {vs : List Value} {xss : List (List Int)}
theorem Rws.mono (h : Rws w B E U vs xss) (hB : B' ≤ B) : Rws w B' E U vs xss := ⟨h.one, h.len, fun i u xs hu hx => (h.row i u xs hu hx).mono hB, h.lt, h.apart⟩
end
section
variable {P : Program} {ops : Array Oper} {Q : Exit → Fm → World → Prop} {n : Nat} {f : Fm} {w : World} {rest : List Oper} {ty : TypeId} {pos : String} {after : Array Edge} {g : Option (Nat × Bool)} {d : Nat}
/-- a variable of a plain type -/
theorem s_allocC {B : Nat} {e : TypeId} {z : Value} {bytes : Nat} [he : CellTy P e z bytes]
    (hw : Wants ⟨some d, .alloc e, ty, pos, after, g⟩ ops n f) (hd : Nat.ble (d + 1) n = true) (hB : B ≤ w.heap.size)
    (k : ∀ w' p, Bx w' B p e z → w.grownBy w' none → p.block = w.heap.size → WL P ops Q rest n (.upd f d (.pointer (some p))) w') :
    WL P ops Q (⟨some d, .alloc e, ty, pos, after, g⟩ :: rest) n f w := by
  obtain ⟨i, hi, hz, _, _⟩ := he.info
  have hz1 : z.cells = #[z] := by have := he.one; cases z <;> first | rfl | simp [Value.oneCell'] at this
  refine s_val hw hd (v := .pointer (some ⟨w.heap.size, 0, none⟩)) (w' := w.alloc (.cells #[z] e)) ?_ (k _ ⟨w.heap.size, 0, none⟩ ⟨rfl, rfl, hB, heap_alloc_new w _⟩ (World.grownBy_alloc w _ none) rfl)
  simp [execOp, Instr.alloc, newVar, newRow, zeroValue, typeInfo, hi, hz, hz1]
end
section
variable {ms : List (List Int)} {i a : Int}
/-- the automorphisms that keep a face -/
def stabF (ms : List (List Int)) (i a : Int) (p : List Int) : Bool := decide (gi (facL ms i) (gi p (idxOf (facL ms i) a)) = a)
noncomputable def stab (ms : List (List Int)) (i a : Int) : List (List Int) := if rkC ms i = 0 ∧ a ∈ facL ms i then (auts ms).filter (stabF ms i a) else []
noncomputable def stabC (ms : List (List Int)) (i a : Int) : Int := if rkC ms i = 0 then (if a ∈ facL ms i then 0 else 2) else rkC ms i
theorem stab_1 (h : rkC ms i ≠ 0) : stab ms i a = [] ∧ stabC ms i a = rkC ms i := ⟨if_neg fun e => h e.1, if_neg h⟩
theorem stab_2 (h : rkC ms i = 0) (ha : ¬ a ∈ facL ms i) : stab ms i a = [] ∧ stabC ms i a = 2 := ⟨if_neg fun e => ha e.2, by unfold stabC; rw [if_pos h, if_neg ha]⟩
theorem stab_3 (h : rkC ms i = 0) (ha : a ∈ facL ms i) : stab ms i a = (auts ms).filter (stabF ms i a) ∧ stabC ms i a = 0 := ⟨if_pos ⟨h, ha⟩, by unfold stabC; rw [if_pos h, if_pos ha]⟩
theorem stab_len (ms : List (List Int)) (i a : Int) : 1 + tot (stab ms i a) ≤ 4000000000000000000 := by
  unfold stab
  split
  · rename_i h
    obtain ⟨hm, _⟩ := rkC_0 h.1
    have h4 := hm.m0.f400
    have hal := auts_le hm
    have hf := List.length_filter_le (stabF ms i a) (auts ms)
    refine rows_tot (n := 1000) (by omega) (fun xs hx => ?_) (by omega)
    have := ((mem_auts hm).1 (List.mem_filter.1 hx).1).len
    omega
  · simp [tot]
end
end Go.Mem
namespace Go.Proofs.YtablpijnjkncfaaGreat
open Go.Mem Go.RowKit
set_option linter.unusedVariables false
end Go.Proofs.YtablpijnjkncfaaGreat
