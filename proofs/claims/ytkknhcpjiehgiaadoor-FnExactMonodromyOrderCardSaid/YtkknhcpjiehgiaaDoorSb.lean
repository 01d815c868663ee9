/- Words between the kit's contracts of sorting and compacting and owned lists of numbers. -/
import Derived.Test.YtkknhcpjiehgiaaDoorRp
import Derived.Sort.Grow
namespace Go.Mem
open Go.RowKit Go.Sort
set_option linter.unusedVariables false
section
variable {w : World} {B : Nat} {T : TypeId} {v : Value} {xs : List Int}
/-- an owned list that is not empty lies in a block -/
theorem OI.place (h : OI w B T v xs) (hne : xs ≠ []) : ∃ g off cap, v = .slice (some ⟨g, off, none⟩) xs.length cap ∧ B ≤ g ∧ g < w.heap.size ∧ xs.length ≤ cap ∧ Holds (Value.int .i64) w g off xs.toArray := by
  rcases h.own with ⟨_, e⟩ | ⟨g, off, cap, cur, e, hb, hg, hl, hc, hs, hx⟩
  · exact absurd (List.map_eq_nil_iff.1 e) hne
  · refine ⟨g, off, cap, by simpa using e, hb, (Array.getElem?_eq_some_iff.1 hg).1, by simpa using hl, fun j hj => ⟨?_, ?_⟩⟩
    · have hj' : j < xs.length := by simpa using hj
      have hu := hx j (.int .i64 xs[j]) (by simp [hj'])
      have he : xs.toArray[j]! = xs[j] := by rw [getElem!_pos xs.toArray j hj]; simp
      rw [he]
      simp [World.cell?, hg, hu]
    · simp [World.frozen?, hg]
theorem putRow_heap {enc : Int → Value} {w : World} {g off : Nat} {d : Array Int} {cur : Array Value} {T : TypeId} {fr : Nat × Nat} (hg : w.heap[g]? = some (.cells cur T fr)) : (putRow enc w g off d).heap[g]? = some (.cells (putCells enc off d cur) T fr) := by
  unfold putRow mapBlock
  simp [Array.getElem?_modify, hg, onCells]
/-- other numbers have been laid in the place of an owned list -/
theorem OI.put {g off cap : Nat} (h : OI w B T (.slice (some ⟨g, off, none⟩) xs.length cap) xs) (hne : xs ≠ []) {zs : List Int} (hz : zs.length = xs.length) (n : Nat) (os : Array Obj) {k : Nat} (hk : k ≤ zs.length) :
    OI (grow (putRow (Value.int .i64) (Sort.ahead w n) g off zs.toArray) os) B T (.slice (some ⟨g, off, none⟩) k cap) (zs.take k) ∧ w.grownBy (grow (putRow (Value.int .i64) (Sort.ahead w n) g off zs.toArray) os) (some g) := by
  rcases h.own with ⟨e, _⟩ | ⟨g', off', cap', cur, e, hb, hg, hl, hc, hs, hx⟩
  · cases e
  · injection e with e1 e2 e3
    injection e1 with e1
    injection e1 with f1 f2 f3
    subst f1 f2 e3
    have hlt := (Array.getElem?_eq_some_iff.1 hg).1
    have hg1 : (putRow (Value.int .i64) (Sort.ahead w n) g off zs.toArray).heap[g]? = some (.cells (putCells (Value.int .i64) off zs.toArray cur) T (0, 0)) := putRow_heap (w := Sort.ahead w n) hg
    have hg2 : (grow (putRow (Value.int .i64) (Sort.ahead w n) g off zs.toArray) os).heap[g]? = some (.cells (putCells (Value.int .i64) off zs.toArray cur) T (0, 0)) := by
      rw [heap_grow_old _ os (by simpa using hlt)]; exact hg1
    have hl2 : xs.length ≤ cap := by simpa using hl
    refine ⟨⟨.inr ⟨g, off, cap, _, by simp [Nat.min_eq_left hk], hb, hg2, by simp; omega, hc, by simpa [putCells] using hs, fun i u hu => ?_⟩⟩, ⟨rfl, rfl, rfl, by simp, fun b hb hne => ?_⟩⟩
    · rw [List.getElem?_map, List.getElem?_take] at hu
      split at hu
      · rename_i hik
        have hi : i < zs.length := by omega
        rw [List.getElem?_eq_getElem hi] at hu
        simp at hu
        subst hu
        have hc0 : off + i < cur.size := by omega
        have he : zs.toArray[i]! = zs[i] := by rw [getElem!_pos zs.toArray i (by simpa using hi)]; simp
        simp only [putCells, Array.getElem?_mapIdx, Array.getElem?_eq_getElem hc0, Option.map_some]
        rw [if_pos (by simp; omega), show off + i - off = i by omega, he]
      · simp at hu
    · rw [heap_grow_old _ os (by simpa using hb)]
      have : b ≠ g := fun e => hne (by rw [e])
      show ((Sort.ahead w n).heap.modify g _)[b]? = _
      rw [Array.getElem?_modify, if_neg (fun e => this e.symm)]
      rfl
end
end Go.Mem
