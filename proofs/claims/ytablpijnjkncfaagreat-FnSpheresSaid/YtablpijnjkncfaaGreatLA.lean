/- Texts laid together: El Ml Sb Gr. -/
import Derived.Test.YtablpijnjkncfaaGreatWC
import Derived.Test.YtablpijnjkncfaaGreatWB
import Derived.Test.YtablpijnjkncfaaGreatF45
import Derived.Test.YtablpijnjkncfaaGreatRp
import Derived.Sort.Grow
/- Slices whose elements are structs of one field: a cell each. Over any program. -/
namespace Go.Mem
open Go.RowKit
/-- e is a struct type of one field; z its field's zero -/
class ElTy (P : Program) (e : TypeId) (z : outParam Value) (bytes : outParam Nat) : Prop where
  info : ∃ i, P.info? e = some i ∧ i.zero = some (.agg #[z]) ∧ i.size = 1 ∧ i.bytes = bytes
  agg : ∀ w, (isAgg e).run P w = .ok true w
  one : z.oneCell' = true
  small : bytes ≤ 24
section run
variable {P : Program} {w : World} {B : Nat} {T : TypeId} {v : Value} {vs : List Value}
theorem storeVar_runE {e : TypeId} {z : Value} {bytes : Nat} [he : ElTy P e z bytes] {a : Addr} {u u0 : Value} (hu : u.oneCell' = true) (hc : w.cell? a = some u0) (hf : w.frozen? a = false) :
    (storeVar e a (.agg #[u])).run P w = .ok () (w.setCell a u) := by
  obtain ⟨ti, hti, _, hs, _⟩ := he.info
  have hst := run_store P w a u .plain hu
  simp only [hc, hf] at hst
  simp [storeVar, sizeOf, typeInfo, hti, hs, cells_one hu, storeCells, Addr.add_zero', hst]

theorem store_runE {e : TypeId} {z : Value} {bytes : Nat} [he : ElTy P e z bytes] {j : Nat} {u : Value} (h : Own w B T v vs) (hj : j < vs.length) (hu : u.oneCell' = true) :
    ∃ w', (storeVar e (addrOf v j) (.agg #[u])).run P w = .ok () w' ∧ Own w' B T v (vs.set j u) ∧ w.grownBy w' v.ownBlock := by
  rcases h with ⟨rfl, rfl⟩ | ⟨g, off, cap, cur, rfl, hb, hg, hl, hc, hs, hx⟩
  · simp at hj
  · have hin : off + j < cur.size := by omega
    have ha : addrOf (.slice (some ⟨g, off, none⟩) vs.length cap) j = ⟨g, off + j, none⟩ := by simp [addrOf, Addr.add_lit]
    have hcell : w.cell? ⟨g, off + j, none⟩ = some cur[off + j] := by rw [cell?_in_block hg]; simp [hin]
    refine ⟨w.setCell ⟨g, off + j, none⟩ u, ?_, ?_, ?_⟩
    · rw [ha]; exact storeVar_runE hu hcell (frozen?_in_block hg)
    · refine .inr ⟨g, off, cap, cur.setIfInBounds (off + j) u, by simp, hb, ?_, by simpa using hl, hc, by simpa using hs, ?_⟩
      · simp [World.setCell, Array.getElem?_modify, hg]
      · intro i x hi
        rw [List.getElem?_set] at hi
        rw [Array.getElem?_setIfInBounds]
        by_cases hij : j = i
        · subst hij
          simp [hj] at hi
          simp [hin, hi]
        · rw [if_neg hij] at hi
          rw [if_neg (by omega)]
          exact hx i x hi
    · refine ⟨rfl, rfl, rfl, by simp, fun k _ hk => ?_⟩
      exact Below.heap_setCell _ _ _ _ (by simpa [Value.ownBlock] using hk)

/-- append -/
theorem append_runE {t ty e : TypeId} {z : Value} {bytes : Nat} [ht : SliceTy P t e] [he : ElTy P e z bytes] {sv : Value} {news : List Value} (h : Own w B e v vs) (hsrc : Rd w sv news) (h1 : ∀ u ∈ news, u.oneCell' = true)
    (hlen : vs.length + news.length ≤ 1000000000000) (hB : B ≤ w.heap.size) :
    ∃ v' w', (Builtin.append_ #[t, t] ty #[v, sv]).run P w = .ok v' w' ∧ Own w' B e v' (vs ++ news) ∧ w.grownBy w' v.ownBlock ∧ (v'.ownBlock = v.ownBlock ∨ v'.ownBlock = some w.heap.size) := by
  obtain ⟨i, hi, hz, hsz, hby⟩ := he.info
  have hf := firstCells_run (P := P) hsrc
  have hfd := firstCells_run (P := P) (loadCells_drew hsrc)
  have hlo : (Builtin.lenOf sv).run P w = .ok news.length w := by
    obtain ⟨a, cap, rfl, _⟩ := hsrc
    simp [Builtin.lenOf]
  have hz1 : (Value.agg #[z]).cells = #[z] := cells_one he.one
  have hb24 := he.small
  have grow : ∀ (base : Option Addr) (old : Nat), v = .slice base vs.length old → old < vs.length + news.length →
      ∃ v' w', (Builtin.append_ #[t, t] ty #[v, sv]).run P w = .ok v' w' ∧ Own w' B e v' (vs ++ news) ∧ w.grownBy w' v.ownBlock ∧ (v'.ownBlock = v.ownBlock ∨ v'.ownBlock = some w.heap.size) := by
    intro base old hv ho
    have hrd : Rd w v vs := h.rd
    have hold := firstCells_run (P := P) (loadCells_drew hrd)
    have hfit : Builtin.nextslicecap (vs.length + news.length) old * bytes ≤ 281474976710656 := by
      refine growslice_fits ho ?_
      have : (vs.length + news.length) * bytes ≤ 1000000000000 * 24 := Nat.mul_le_mul hlen hb24
      omega
    have hge := grownCap_ge w (vs.length + news.length) old e
    have hcm : grownCap w (vs.length + news.length) old e ≤ maxLen := grownCap_le_maxLen w _ old e (by simp [maxLen]; omega)
    refine ⟨.slice (some ⟨w.heap.size, 0, none⟩) (vs.length + news.length) (grownCap w (vs.length + news.length) old e),
      w.drew.alloc (.cells (vs.toArray ++ news.toArray ++ Builtin.zeroCells (Value.agg #[z]).cells (grownCap w (vs.length + news.length) old e - (vs.length + news.length))) e), ?_, ?_, ?_, ?_⟩
    · have hn : ¬ (vs.length + news.length ≤ old) := by omega
      have h63' : ¬ (9223372036854775807 < ((vs.length : Int) + (news.length : Int))) := by omega
      have h48' : ¬ (281474976710656 < Builtin.nextslicecap (vs.length + news.length) old * bytes) := by omega
      have hlo' := hlo
      rw [hv] at hold ⊢
      simp [Builtin.append_, run_underlying ht.under, sizeOf, typeInfo, zeroValue, hi, hz, hsz, hby, hlo, hn, h63', h48', Question.forced, hfd, hold, newRow, grownCap]
      congr 2
      apply Array.ext'
      simp [List.append_assoc]
    · refine .inr ⟨w.heap.size, 0, _, _, by simp, hB, heap_alloc_new w.drew _, by simpa using hge, hcm, ?_, ?_⟩
      · simp only [Array.size_append, List.size_toArray, size_zeroCells, hz1, List.size_toArray, List.length_cons, List.length_nil]
        omega
      · intro j u hu
        simp only [Nat.zero_add]
        rw [Array.getElem?_append_left (by
          have := (List.getElem?_eq_some_iff.1 hu).1
          simpa using this)]
        simpa using hu
    · exact ⟨rfl, rfl, rfl, by simp, fun k hk _ => Below.heap_alloc w.drew _ k hk⟩
    · exact .inr rfl
  rcases h with ⟨rfl, rfl⟩ | ⟨g, off, cap, cur, rfl, hb, hg, hl, hc, hs, hx⟩
  · by_cases hm : news = []
    · subst hm
      refine ⟨.slice none 0 0, w, ?_, Own.nil w B e, ⟨rfl, rfl, rfl, Nat.le_refl _, fun _ _ _ => rfl⟩, .inl rfl⟩
      simp only [List.length_nil] at hf hlo
      simp [Builtin.append_, run_underlying ht.under, sizeOf, typeInfo, hi, hsz, hlo, hf]
    · have : 0 < news.length := List.length_pos_iff.2 hm
      exact grow none 0 rfl (by simpa using this)
  · by_cases hroom : vs.length + news.length ≤ cap
    · refine ⟨.slice (some ⟨g, off, none⟩) (vs.length + news.length) cap, w.setRow g (cur.toList.take (off + vs.length) ++ news ++ cur.toList.drop (off + vs.length + news.length)).toArray, ?_, ?_, ?_, .inl rfl⟩
      · have hst := run_storeCells_at P g (off + vs.length) e news 0 cur w hg (by omega) h1
        simp only [Nat.add_zero] at hst
        simp [Builtin.append_, run_underlying ht.under, sizeOf, typeInfo, hi, hsz, hlo, hroom, hf, Addr.add_lit, hst]
      · refine .inr ⟨g, off, cap, _, by simp, hb, setRow_heap w g cur _ e _ hg, by simpa using hroom, hc, ?_, ?_⟩
        · simp only [List.size_toArray, List.length_append, List.length_take, List.length_drop, Array.length_toList]
          omega
        · intro j u hu
          simp only [List.getElem?_toArray]
          rw [List.getElem?_append] at hu
          rw [List.append_assoc, List.getElem?_append]
          have htl : (cur.toList.take (off + vs.length)).length = off + vs.length := by simp; omega
          rw [htl]
          by_cases hj : j < vs.length
          · rw [if_pos hj] at hu
            rw [if_pos (by omega), List.getElem?_take, if_pos (by omega)]
            simpa using hx j u hu
          · rw [if_neg hj] at hu
            rw [if_neg (by omega)]
            have e1 : off + j - (off + vs.length) = j - vs.length := by omega
            rw [e1, List.getElem?_append]
            have hlt := (List.getElem?_eq_some_iff.1 hu).1
            rw [if_pos hlt]
            exact hu
      · exact ⟨rfl, rfl, rfl, by simp, fun k _ hk => setRow_other w g k _ (fun e => hk (by simp [Value.ownBlock, e]))⟩
    · exact grow _ cap rfl (by omega)

/-- make([]T, n) -/

theorem make_runE {t e : TypeId} {z : Value} {bytes : Nat} [ht : SliceTy P t e] [he : ElTy P e z bytes] {kl kc : IntKind} {m : Int} (h0 : 0 ≤ m) (hm : m ≤ 1000000000000) (hB : B ≤ w.heap.size) :
    ∃ w', (Instr.makeSlice t (.int kl m) (.int kc m)).run P w = .ok (.slice (some ⟨w.heap.size, 0, none⟩) m.toNat m.toNat) w' ∧
      Own w' B e (.slice (some ⟨w.heap.size, 0, none⟩) m.toNat m.toNat) (List.replicate m.toNat z) ∧ w.grownBy w' none := by
  obtain ⟨i, hi, hz, hsz, hby⟩ := he.info
  have hz1 : (Value.agg #[z]).cells = #[z] := cells_one he.one
  have hb24 := he.small
  have hbytes : (i.bytes : Int) * m ≤ 281474976710656 := by
    have h24 : (i.bytes : Int) ≤ 24 := by omega
    have : (i.bytes : Int) * m ≤ 24 * 1000000000000 := Int.mul_le_mul h24 hm h0 (by omega)
    omega
  have hr := run_make (P := P) w t e i (.agg #[z]) ht.under hi hz kl kc m m h0 (Int.le_refl _) hbytes (by omega)
  refine ⟨_, hr, ?_, World.grownBy_alloc w _ none⟩
  refine .inr ⟨w.heap.size, 0, m.toNat, _, by simp, hB, heap_alloc_new w _, by simp, by simp [maxLen]; omega, by simp [size_madeCells, hsz], ?_⟩
  intro j u hu
  rw [List.getElem?_replicate] at hu
  have hj : j < m.toNat := by
    by_cases hj : j < m.toNat
    · exact hj
    · rw [if_neg hj] at hu; simp at hu
  rw [if_pos hj] at hu
  simp only [Option.some.injEq] at hu
  subst hu
  simp [madeCells, hz1, hsz, hj, Nat.mod_one]

theorem cut_runE {t e : TypeId} {z : Value} {bytes : Nat} [ht : SliceTy P t e] [he : ElTy P e z bytes] (h : Rd w v vs) {kl kh : IntKind} {l r : Int} (h0 : 0 ≤ l) (hl : l ≤ r) (hr : r ≤ vs.length) :
    (Instr.sliceAt t v (some (.int kl l)) (some (.int kh r)) none).run P w = .ok (cut v l.toNat r.toNat) w := by
  obtain ⟨a, cap, rfl, _, ⟨_, hcap⟩, _⟩ := h
  obtain ⟨i, hi, hz, hsz, hby⟩ := he.info
  have h0r : 0 ≤ r := by omega
  have hrc : r ≤ cap := by omega
  have hlr : l ≤ max r 0 := by omega
  simp [Instr.sliceAt, Instr.slice, run_underlying ht.under, Instr.sliceBounds, Instr.sliceBound, asIntOf, h0, h0r, hrc, hlr, sizeOf, typeInfo, hi, hsz, cut]

theorem cut_run_loE {t e : TypeId} {z : Value} {bytes : Nat} [ht : SliceTy P t e] [he : ElTy P e z bytes] (h : Rd w v vs) {kl : IntKind} {l : Int} (h0 : 0 ≤ l) (hl : l ≤ vs.length) :
    (Instr.sliceAt t v (some (.int kl l)) none none).run P w = .ok (cut v l.toNat vs.length) w := by
  obtain ⟨a, cap, rfl, _, ⟨_, hcap⟩, _⟩ := h
  obtain ⟨i, hi, hz, hsz, hby⟩ := he.info
  simp [Instr.sliceAt, Instr.slice, run_underlying ht.under, Instr.sliceBounds, Instr.sliceBound, asIntOf, h0, hl, sizeOf, typeInfo, hi, hsz, cut]

theorem cut_run_hiE {t e : TypeId} {z : Value} {bytes : Nat} [ht : SliceTy P t e] [he : ElTy P e z bytes] (h : Rd w v vs) {kh : IntKind} {r : Int} (h0 : 0 ≤ r) (hr : r ≤ vs.length) :
    (Instr.sliceAt t v none (some (.int kh r)) none).run P w = .ok (cut v 0 r.toNat) w := by
  obtain ⟨a, cap, rfl, _, ⟨_, hcap⟩, _⟩ := h
  obtain ⟨i, hi, hz, hsz, hby⟩ := he.info
  have hrc : r ≤ cap := by omega
  simp [Instr.sliceAt, Instr.slice, run_underlying ht.under, Instr.sliceBounds, Instr.sliceBound, asIntOf, h0, hrc, sizeOf, typeInfo, hi, cut]

theorem clear_runE {t ty e : TypeId} {z : Value} {bytes : Nat} [ht : SliceTy P t e] [he : ElTy P e z bytes] {l : Nat} (h : Own w B e v vs) (hl : l ≤ vs.length) :
    ∃ w', (Builtin.clear_ #[t] ty #[cut v l vs.length]).run P w = .ok (.tuple #[]) w' ∧ Own w' B e v (vs.take l ++ List.replicate (vs.length - l) z) ∧ w.grownBy w' v.ownBlock := by
  obtain ⟨inf, hinf, hz, hsz, hby⟩ := he.info
  have hz1 : (Value.agg #[z]).cells = #[z] := cells_one he.one
  rcases h with ⟨rfl, rfl⟩ | ⟨g, off, cap, cur, rfl, hb, hg, hlc, hc, hs, hx⟩
  · have hl0 : l = 0 := by simpa using hl
    subst hl0
    refine ⟨w, ?_, by simpa using Own.nil w B e, ⟨rfl, rfl, rfl, Nat.le_refl _, fun _ _ _ => rfl⟩⟩
    simp [Builtin.clear_, run_underlying ht.under, cut]
  · by_cases hk : l = vs.length
    · subst hk
      refine ⟨w, ?_, ?_, ⟨rfl, rfl, rfl, Nat.le_refl _, fun _ _ _ => rfl⟩⟩
      · by_cases hcl : cap = vs.length
        · simp [Builtin.clear_, run_underlying ht.under, cut, hcl]
        · simp [Builtin.clear_, run_underlying ht.under, cut, hcl]
      · simp only [Nat.sub_self, List.replicate_zero, List.append_nil, List.take_of_length_le (Nat.le_refl _)]
        exact .inr ⟨g, off, cap, cur, rfl, hb, hg, hlc, hc, hs, hx⟩
    · have hcl : ¬ cap = l := by omega
      have hn : ∃ m, vs.length - l = m + 1 := ⟨vs.length - l - 1, by omega⟩
      obtain ⟨m, hm⟩ := hn
      have hst := run_storeCells_at P g (off + l) e (List.replicate (vs.length - l) z) 0 cur w hg (by simp; omega) (by intro u hu; rw [List.mem_replicate] at hu; rw [hu.2]; exact he.one)
      simp only [Nat.add_zero] at hst
      refine ⟨w.setRow g (cur.toList.take (off + l) ++ List.replicate (vs.length - l) z ++ cur.toList.drop (off + l + (List.replicate (vs.length - l) z).length)).toArray, ?_, ?_, ?_⟩
      · have hzc := zeroCells_one (zcells he.one) (vs.length - l)
        rw [zcells he.one, ← hz1] at hzc
        rw [hm] at hzc hst ⊢
        simp [Builtin.clear_, run_underlying ht.under, cut, hcl, hm, zeroValue, typeInfo, hinf, hz, hzc, Addr.add_lit, hst]
      · have hlen : (vs.take l ++ List.replicate (vs.length - l) z).length = vs.length := by simp; omega
        refine .inr ⟨g, off, cap, _, by rw [hlen], hb, setRow_heap w g cur _ e _ hg, by rw [hlen]; exact hlc, hc, ?_, ?_⟩
        · simp only [List.size_toArray, List.length_append, List.length_take, List.length_drop, Array.length_toList, List.length_replicate]
          omega
        · intro j u hu
          have hj := (List.getElem?_eq_some_iff.1 hu).1
          rw [hlen] at hj
          simp only [List.getElem?_toArray]
          rw [List.getElem?_append] at hu
          rw [List.append_assoc, List.getElem?_append]
          have htl : (cur.toList.take (off + l)).length = off + l := by simp; omega
          have htv : (vs.take l).length = l := by simp; omega
          rw [htl]
          rw [htv] at hu
          by_cases hjl : j < l
          · rw [if_pos hjl] at hu
            rw [if_pos (by omega), List.getElem?_take, if_pos (by omega)]
            rw [List.getElem?_take, if_pos hjl] at hu
            simpa using hx j u hu
          · rw [if_neg hjl] at hu
            rw [if_neg (by omega)]
            have e1 : off + j - (off + l) = j - l := by omega
            rw [e1, List.getElem?_append, if_pos (by simp; omega)]
            exact hu
      · exact ⟨rfl, rfl, rfl, by simp, fun k _ hk => setRow_other w g k _ (fun e => hk (by simp [Value.ownBlock, e]))⟩

theorem fill_genE : ∀ (vs : List Value) (k : Nat) (cells : Array Value), (∀ u ∈ vs, u.oneCell' = true) → k + vs.length ≤ cells.size →
    ∃ cs, Instr.fill (fun i => some (i, 1)) cells ((List.range' k vs.length).zip (vs.map fun u => Value.agg #[u])) = some cs ∧ cs.toList = cells.toList.take k ++ vs ++ cells.toList.drop (k + vs.length)
  | [], k, cells, _, _ => ⟨cells, by simp [Instr.fill], by simp⟩
  | u :: vs, k, cells, h1, hl => by
    have hu := cells_one (h1 u (by simp))
    simp only [List.length_cons] at hl
    obtain ⟨cs, h2, h3⟩ := fill_genE vs (k + 1) (cells.setIfInBounds k u) (fun x hx => h1 x (by simp [hx])) (by simp; omega)
    refine ⟨cs, ?_, ?_⟩
    · have hle : ¬ (cells.size < k + 1) := by omega
      simp [List.range'_succ, Instr.fill, hu, hle, h2]
    · rw [h3]
      have := list_seg_step cells.toList k u vs (by simp; omega)
      simp only [List.length_cons]
      simpa [Array.toList_setIfInBounds, Nat.add_assoc, Nat.add_comm 1] using this
end run
section
variable {P : Program} {n : Nat} {f : Fm} {w : World} {dst : Option Tmp} {ty : TypeId} {pos : String} {after : Array Edge} {g : Option (Nat × Bool)}

theorem y_cutE {x lo hi : Operand} {t e : TypeId} {z : Value} {bytes : Nat} [ht : SliceTy P t e] [he : ElTy P e z bytes] {v : Value} {vs : List Value} {kl kh : IntKind} {l r : Int}
    (hx : lk n f x = some v) (hlo : lk n f lo = some (.int kl l)) (hhi : lk n f hi = some (.int kh r)) (h : Rd w v vs) (h0 : 0 ≤ l) (hl : l ≤ r) (hr : r ≤ vs.length) :
    Yld P (evo n f) ⟨dst, .slice t x (some lo) (some hi) none, ty, pos, after, g⟩ w (cut v l.toNat r.toNat) := by
  replace hx := lk_evo hx
  replace hlo := lk_evo hlo
  replace hhi := lk_evo hhi
  constructor; simp [execOp, hx, hlo, hhi, cut_runE h h0 hl hr]

theorem y_cut_loE {x lo : Operand} {t e : TypeId} {z : Value} {bytes : Nat} [ht : SliceTy P t e] [he : ElTy P e z bytes] {v : Value} {vs : List Value} {kl : IntKind} {l : Int}
    (hx : lk n f x = some v) (hlo : lk n f lo = some (.int kl l)) (h : Rd w v vs) (h0 : 0 ≤ l) (hl : l ≤ vs.length) :
    Yld P (evo n f) ⟨dst, .slice t x (some lo) none none, ty, pos, after, g⟩ w (cut v l.toNat vs.length) := by
  replace hx := lk_evo hx
  replace hlo := lk_evo hlo
  constructor; simp [execOp, hx, hlo, cut_run_loE h h0 hl]

theorem y_cut_hiE {x hi : Operand} {t e : TypeId} {z : Value} {bytes : Nat} [ht : SliceTy P t e] [he : ElTy P e z bytes] {v : Value} {vs : List Value} {kh : IntKind} {r : Int}
    (hx : lk n f x = some v) (hhi : lk n f hi = some (.int kh r)) (h : Rd w v vs) (h0 : 0 ≤ r) (hr : r ≤ vs.length) :
    Yld P (evo n f) ⟨dst, .slice t x none (some hi) none, ty, pos, after, g⟩ w (cut v 0 r.toNat) := by
  replace hx := lk_evo hx
  replace hhi := lk_evo hhi
  constructor; simp [execOp, hx, hhi, cut_run_hiE h h0 hr]

theorem y_idxSE {x i : Operand} {t e : TypeId} {v : Value} {m : Nat} {k : IntKind} {j : Int} {z : Value} {bytes : Nat} [h : SliceTy P t e] [he : ElTy P e z bytes]
    (hx : lk n f x = some v) (hi : lk n f i = some (.int k j)) (hv : SV v m) (h0 : 0 ≤ j) (hj : j < m) :
    Yld P (evo n f) ⟨dst, .indexAddr t x i, ty, pos, after, g⟩ w (.pointer (some (addrOf v j.toNat))) := by
  replace hx := lk_evo hx
  replace hi := lk_evo hi
  obtain ⟨ti, hti, _, hs, _⟩ := he.info
  obtain ⟨a, cap, rfl, h1, h2⟩ := hv.out
  constructor
  cases a with
  | none => exact absurd rfl (h1 (by omega))
  | some a => simp [execOp, hx, hi, Instr.indexAt, run_underlying h.under, asIntOf, addrOf, sizeOf, typeInfo, hti, hs, h0, hj]

end
section steps
variable {P : Program} {ops : Array Oper} {Q : Exit → Fm → World → Prop} {n : Nat} {f : Fm} {w : World} {rest : List Oper} {ty : TypeId} {pos : String} {after : Array Edge} {g : Option (Nat × Bool)} {d : Nat}

theorem s_storeE {B : Nat} {T e : TypeId} {z : Value} {bytes : Nat} [he : ElTy P e z bytes] {x y : Operand} {v u : Value} {vs : List Value} {j : Nat}
    (hw : Wants ⟨none, .store e x y, ty, pos, after, g⟩ ops n f)
    (hx : lk n f x = some (.pointer (some (addrOf v j)))) (hy : lk n f y = some (.agg #[u])) (hu : u.oneCell' = true) (hv : Own w B T v vs) (hj : j < vs.length)
    (k : ∀ w', Own w' B T v (vs.set j u) → w.grownBy w' v.ownBlock → WL P ops Q rest n f w') :
    WL P ops Q (⟨none, .store e x y, ty, pos, after, g⟩ :: rest) n f w := by
  replace hx := lk_evo hx
  replace hy := lk_evo hy
  obtain ⟨w', hr, ho, hg⟩ := store_runE (P := P) (e := e) hv hj hu
  refine s_unit hw ?_ (k w' ho hg)
  simp [execOp, Instr.storeAt, Instr.sureAddr, hx, hy, hr]

theorem s_appendE {B : Nat} {t e : TypeId} {z : Value} {bytes : Nat} [ht : SliceTy P t e] [he : ElTy P e z bytes] {x y : Operand} {v sv : Value} {vs news : List Value}
    (hw : Wants ⟨some d, .call ⟨.builtin .append, #[x, y], #[t, t]⟩, ty, pos, after, g⟩ ops n f) (hd : Nat.ble (d + 1) n = true)
    (hx : lk n f x = some v) (hy : lk n f y = some sv) (hv : Own w B e v vs) (hs : Rd w sv news) (h1 : ∀ u ∈ news, u.oneCell' = true) (hlen : vs.length + news.length ≤ 1000000000000) (hB : B ≤ w.heap.size)
    (k : ∀ v' w', Own w' B e v' (vs ++ news) → w.grownBy w' v.ownBlock → (v'.ownBlock = v.ownBlock ∨ v'.ownBlock = some w.heap.size) → WL P ops Q rest n (.upd f d v') w') :
    WL P ops Q (⟨some d, .call ⟨.builtin .append, #[x, y], #[t, t]⟩, ty, pos, after, g⟩ :: rest) n f w := by
  replace hx := lk_evo hx
  replace hy := lk_evo hy
  obtain ⟨v', w', hr, ho, hg, hb⟩ := append_runE (P := P) (t := t) (ty := ty) hv hs h1 hlen hB
  refine s_val hw hd ?_ (k v' w' ho hg hb)
  simp [execOp, resolve, invoke, builtin, hx, hy, hr]

theorem s_makeE {B : Nat} {t e : TypeId} {z : Value} {bytes : Nat} [ht : SliceTy P t e] [he : ElTy P e z bytes] {x y : Operand} {kl kc : IntKind} {m : Int}
    (hw : Wants ⟨some d, .makeSlice t x y, ty, pos, after, g⟩ ops n f) (hd : Nat.ble (d + 1) n = true)
    (hx : lk n f x = some (.int kl m)) (hy : lk n f y = some (.int kc m)) (h0 : 0 ≤ m) (hm : m ≤ 1000000000000) (hB : B ≤ w.heap.size)
    (k : ∀ v w', Own w' B e v (List.replicate m.toNat z) → w.grownBy w' none → v.ownBlock = some w.heap.size → WL P ops Q rest n (.upd f d v) w') :
    WL P ops Q (⟨some d, .makeSlice t x y, ty, pos, after, g⟩ :: rest) n f w := by
  replace hx := lk_evo hx
  replace hy := lk_evo hy
  obtain ⟨w', hr, ho, hg⟩ := make_runE (P := P) (t := t) (kl := kl) (kc := kc) h0 hm hB
  refine s_val hw hd ?_ (k _ w' ho hg rfl)
  simp [execOp, hx, hy, hr]

theorem s_buildE {B : Nat} {t e : TypeId} {z : Value} {bytes m : Nat} {parts : Array (Nat × Operand)} [ht : SliceTy P t e] [he : ElTy P e z bytes] (vs : List Value)
    (hw : Wants ⟨some d, .buildSlice t m parts, ty, pos, after, g⟩ ops n f) (hd : Nat.ble (d + 1) n = true)
    (hp : parts.toList.map (fun x => (x.1, evo n f x.2)) = (List.range' 0 vs.length).zip (vs.map fun u => Value.agg #[u])) (hm : m ≤ 1000000) (hl : vs.length = m) (h1 : ∀ u ∈ vs, u.oneCell' = true) (hB : B ≤ w.heap.size)
    (k : ∀ v w', Own w' B e v vs → w.grownBy w' none → v.ownBlock = some w.heap.size → WL P ops Q rest n (.upd f d v) w') :
    WL P ops Q (⟨some d, .buildSlice t m parts, ty, pos, after, g⟩ :: rest) n f w := by
  obtain ⟨i, hi, hz, hsz, hby⟩ := he.info
  have hr : ∃ cells : Array Value, (Instr.buildSlice t m (parts.map fun (i, x) => (i, evo n f x))).run P w = .ok (.slice (some ⟨w.heap.size, 0, none⟩) m m) (w.alloc (.cells cells e)) ∧ cells.toList = vs := by
    have hm' : ¬ (16777216 < m * i.size) := by rw [hsz]; omega
    have key : ∀ cs : Array Value, cs.size = m → ∃ cells : Array Value, Instr.fill (fun i => some (i, 1)) cs ((List.range' 0 vs.length).zip (vs.map fun u => Value.agg #[u])) = some cells ∧ cells.toList = vs := by
      intro cs hcs
      obtain ⟨cells, c1, c2⟩ := fill_genE vs 0 cs h1 (by omega)
      refine ⟨cells, c1, ?_⟩
      rw [c2, hl, ← hcs]
      simp
    by_cases h0 : m = 0
    · obtain ⟨cells, c1, c2⟩ := key #[] (by simp [h0])
      refine ⟨cells, ?_, c2⟩
      subst h0
      have hv : vs = [] := List.eq_nil_of_length_eq_zero hl
      subst hv
      simp only [List.length_nil, List.range'_zero, List.map_nil, List.zip_nil_left, List.map_eq_nil_iff, Array.toList_eq_nil_iff] at hp
      subst hp
      simp [Instr.fill] at c1
      simp [Instr.buildSlice, run_underlying ht.under, sizeOf, typeInfo, hi, Instr.fill, newRow, Array.range_zero', c1]
    · obtain ⟨cells, c1, c2⟩ := key ((Array.range (m * i.size)).map ((Value.agg #[z]).cells[· % (Value.agg #[z]).cells.size]!)) (by simp [hsz])
      refine ⟨cells, ?_, c2⟩
      simp only [hsz, Nat.mul_one] at c1 hm'
      simp [Instr.buildSlice, run_underlying ht.under, sizeOf, typeInfo, zeroValue, hi, hz, hsz, hm', h0, newRow]
      rw [hp, c1]
      rfl
  obtain ⟨cells, hr, hcl⟩ := hr
  refine s_val hw hd (v := .slice (some ⟨w.heap.size, 0, none⟩) m m) (w' := w.alloc (.cells cells e)) ?_ (k _ (w.alloc (.cells cells e)) ?_ (World.grownBy_alloc w _ none) rfl)
  · simp [execOp, hr]
  · subst hcl
    refine .inr ⟨w.heap.size, 0, m, cells, by simp [hl], hB, heap_alloc_new w _, by omega, by simp [maxLen]; omega, by simp at hl; omega, ?_⟩
    intro j u hu
    simpa using hu

theorem s_clearE {B : Nat} {t e : TypeId} {z : Value} {bytes : Nat} [ht : SliceTy P t e] [he : ElTy P e z bytes] {x : Operand} {v : Value} {vs : List Value} {l : Nat}
    (hw : Wants ⟨none, .call ⟨.builtin .clear, #[x], #[t]⟩, ty, pos, after, g⟩ ops n f)
    (hx : lk n f x = some (cut v l vs.length)) (hv : Own w B e v vs) (hl : l ≤ vs.length)
    (k : ∀ w', Own w' B e v (vs.take l ++ List.replicate (vs.length - l) z) → w.grownBy w' v.ownBlock → WL P ops Q rest n f w') :
    WL P ops Q (⟨none, .call ⟨.builtin .clear, #[x], #[t]⟩, ty, pos, after, g⟩ :: rest) n f w := by
  replace hx := lk_evo hx
  obtain ⟨w', hr, ho, hg⟩ := clear_runE (P := P) (t := t) (ty := ty) hv hl
  unfold Wants at hw
  refine ⟨wpList_step fun K hK => ?_⟩
  rw [if_pos hw]
  unfold Oper.wp
  have hrun : (execOp (evo n f) ⟨none, .call ⟨.builtin .clear, #[x], #[t]⟩, ty, pos, after, g⟩).run P w = .ok (.value (.tuple #[])) w' := by
    simp [execOp, resolve, invoke, builtin, hx, hr]
  rw [act_eval, hrun, Oper.upon_value]
  exact hK _ _ (k w' ho hg).out

end steps
end Go.Mem

/- Memory words for lists of maniplexes: a slice of structs, each of which holds rows. Over any program. -/
namespace Go.Mem
open Go.RowKit
set_option linter.unusedVariables false
/-- the values vs are maniplexes with the rows mss, in memory of the program's own making -/
structure Els (w : World) (T U : TypeId) (vs : List Value) (mss : List (List (List Int))) : Prop where
  len : vs.length = mss.length
  row : ∀ (i : Nat) u xss, vs[i]? = some u → mss[i]? = some xss → ∃ B E, OM w B E T U u xss
/-- an owned list of maniplexes -/
structure ML (w : World) (B : Nat) (TM T U : TypeId) (v : Value) (mss : List (List (List Int))) : Prop where
  out : ∃ vs, Own w B TM v vs ∧ Els w T U vs mss
section
variable {w w' : World} {B B' : Nat} {TM T U : TypeId} {v u : Value} {vs us : List Value} {mss kss : List (List (List Int))} {xss : List (List Int)}
theorem Els.one (h : Els w T U vs mss) : ∀ u ∈ vs, u.oneCell' = true := fun u hu => by
  obtain ⟨i, hi, rfl⟩ := List.getElem_of_mem hu
  have hl := h.len
  obtain ⟨B, E, ho⟩ := h.row i vs[i] (mss[i]'(by omega)) (by simp) (by simp)
  exact ho.sv.one
theorem Els.below (h : Els w T U vs mss) (hb : Below w.heap.size w w') : Els w' T U vs mss :=
  ⟨h.len, fun i u xss hu hx => by obtain ⟨B, E, ho⟩ := h.row i u xss hu hx; exact ⟨B, E, ho.below hb⟩⟩
theorem Els.kept (h : Els w T U vs mss) (ho : Own w B' TM u us) (h1 : T ≠ TM) (h2 : U ≠ TM) (hg : w.grownBy w' u.ownBlock) : Els w' T U vs mss :=
  ⟨h.len, fun i a xss ha hx => by obtain ⟨B, E, hm⟩ := h.row i a xss ha hx; exact ⟨B, E, hm.kept_type ho h1 (fun e => h2 e.symm) hg⟩⟩
theorem Els.nil (w : World) (T U : TypeId) : Els w T U [] [] := ⟨rfl, by simp⟩
theorem Els.single {E : Nat} (h : OM w B E T U u xss) : Els w T U [u] [xss] := by
  refine ⟨rfl, fun i a ys ha hy => ?_⟩
  match i, ha, hy with
  | 0, ha, hy =>
    obtain rfl := Option.some.inj ha
    obtain rfl := Option.some.inj hy
    exact ⟨_, _, h⟩
theorem Els.app (h : Els w T U vs mss) (k : Els w T U us kss) : Els w T U (vs ++ us) (mss ++ kss) := by
  have hl := h.len
  have kl := k.len
  refine ⟨by simp [hl, kl], fun i a ys ha hy => ?_⟩
  rw [List.getElem?_append] at ha hy
  by_cases hi : i < vs.length
  · rw [if_pos hi] at ha; rw [if_pos (by omega)] at hy; exact h.row i a ys ha hy
  · rw [if_neg hi] at ha; rw [if_neg (by omega), ← hl] at hy; exact k.row _ a ys ha hy
theorem Els.take (h : Els w T U vs mss) (k : Nat) : Els w T U (vs.take k) (mss.take k) := by
  refine ⟨by simp [h.len], fun i a ys ha hy => ?_⟩
  rw [List.getElem?_take] at ha hy
  split at ha
  · rename_i hlt; rw [if_pos hlt] at hy; exact h.row i a ys ha hy
  · cases ha
theorem Els.drop (h : Els w T U vs mss) (k : Nat) : Els w T U (vs.drop k) (mss.drop k) := by
  refine ⟨by simp [h.len], fun i a ys ha hy => ?_⟩
  rw [List.getElem?_drop] at ha hy
  exact h.row _ a ys ha hy
theorem Els.set {E : Nat} (h : Els w T U vs mss) (j : Nat) (hm : OM w B E T U u xss) : Els w T U (vs.set j u) (mss.set j xss) := by
  refine ⟨by simp [h.len], fun i a ys ha hy => ?_⟩
  have hl := h.len
  rw [List.getElem?_set] at ha hy
  by_cases e : j = i
  · subst e
    rw [if_pos rfl] at ha hy
    by_cases hj : j < vs.length
    · rw [if_pos hj] at ha; rw [if_pos (by omega)] at hy
      obtain rfl := Option.some.inj ha
      obtain rfl := Option.some.inj hy
      exact ⟨_, _, hm⟩
    · rw [if_neg hj] at ha; cases ha
  · rw [if_neg e] at ha hy; exact h.row i a ys ha hy
theorem ML.sv (h : ML w B TM T U v mss) : SV v mss.length := by
  obtain ⟨vs, h1, h2⟩ := h.out
  rw [← h2.len]; exact h1.rd.sv
theorem ML.below (h : ML w B TM T U v mss) (hb : Below w.heap.size w w') : ML w' B TM T U v mss := by
  obtain ⟨vs, h1, h2⟩ := h.out
  exact ⟨vs, h1.below hb, h2.below hb⟩
theorem ML.mono (h : ML w B TM T U v mss) (hB : B' ≤ B) : ML w B' TM T U v mss := by
  obtain ⟨vs, h1, h2⟩ := h.out
  exact ⟨vs, h1.mono hB, h2⟩
theorem ML.nil (w : World) (B : Nat) (TM T U : TypeId) : ML w B TM T U (.slice none 0 0) [] := ⟨[], Own.nil w B TM, Els.nil w T U⟩
theorem ML.lt (h : ML w B TM T U v mss) : ∀ g, v.ownBlock = some g → B ≤ g ∧ g < w.heap.size := by
  obtain ⟨vs, h1, _⟩ := h.out
  exact h1.lt
theorem ML.below_of (h : ML w B TM T U v mss) (hg : w.grownBy w' v.ownBlock) (hB : B ≤ w.heap.size) : Below B w w' := grownBy_below hg hB (fun k hk => (h.lt k hk).1)
/-- an element -/
theorem ML.el (h : ML w B TM T U v mss) {j : Int} (h0 : 0 ≤ j) (hj : j < mss.length) : ∃ u B' E, OM w B' E T U u (mss.getD j.toNat []) ∧ w.cell? (addrOf v j.toNat) = some u := by
  obtain ⟨vs, h1, h2⟩ := h.out
  have hl := h2.len
  have hlt : j.toNat < vs.length := by omega
  have hlm : j.toNat < mss.length := by omega
  have hu : vs[j.toNat]? = some vs[j.toNat] := by simp [hlt]
  obtain ⟨B', E, ho⟩ := h2.row j.toNat _ (mss[j.toNat]) hu (by simp [hlm])
  refine ⟨_, B', E, ?_, h1.rd.cell hu⟩
  simpa [List.getD, hlm] using ho
end
end Go.Mem

/- Words between the kit's contracts of sorting and compacting and owned lists of numbers. -/
namespace Go.Mem
open Go.RowKit Go.Sort
set_option linter.unusedVariables false
section
variable {w : World} {B : Nat} {T : TypeId} {v : Value} {xs : List Int}
/-- an owned list that is not empty lies in a block -/
theorem OI.place (h : OI w B T v xs) (hne : xs ≠ []) : ∃ g off cap, v = .slice (some ⟨g, off, none⟩) xs.length cap ∧ B ≤ g ∧ g < w.heap.size ∧ xs.length ≤ cap ∧ Holds (Value.int .i64) w g off xs.toArray := by
  rcases h.own with ⟨_, e⟩ | ⟨g, off, cap, cur, e, hb, hg, hl, hc, hs, hx⟩
  · exact absurd (List.map_eq_nil_iff.1 e) hne
  · refine ⟨g, off, cap, by simpa using e, hb, (Array.getElem?_eq_some_iff.1 hg).1, by simpa using hl, fun j hj => ⟨?_, ?_⟩⟩
    · have hj' : j < xs.length := by simpa using hj
      have hu := hx j (.int .i64 xs[j]) (by simp [hj'])
      have he : xs.toArray[j]! = xs[j] := by rw [getElem!_pos xs.toArray j hj]; simp
      rw [he]
      simp [World.cell?, hg, hu]
    · simp [World.frozen?, hg]
theorem putRow_heap {enc : Int → Value} {w : World} {g off : Nat} {d : Array Int} {cur : Array Value} {T : TypeId} {fr : Nat × Nat} (hg : w.heap[g]? = some (.cells cur T fr)) : (putRow enc w g off d).heap[g]? = some (.cells (putCells enc off d cur) T fr) := by
  unfold putRow mapBlock
  simp [Array.getElem?_modify, hg, onCells]
/-- other numbers have been laid in the place of an owned list -/
theorem OI.put {g off cap : Nat} (h : OI w B T (.slice (some ⟨g, off, none⟩) xs.length cap) xs) (hne : xs ≠ []) {zs : List Int} (hz : zs.length = xs.length) (n : Nat) (os : Array Obj) {k : Nat} (hk : k ≤ zs.length) :
    OI (grow (putRow (Value.int .i64) (Sort.ahead w n) g off zs.toArray) os) B T (.slice (some ⟨g, off, none⟩) k cap) (zs.take k) ∧ w.grownBy (grow (putRow (Value.int .i64) (Sort.ahead w n) g off zs.toArray) os) (some g) := by
  rcases h.own with ⟨e, _⟩ | ⟨g', off', cap', cur, e, hb, hg, hl, hc, hs, hx⟩
  · cases e
  · injection e with e1 e2 e3
    injection e1 with e1
    injection e1 with f1 f2 f3
    subst f1 f2 e3
    have hlt := (Array.getElem?_eq_some_iff.1 hg).1
    have hg1 : (putRow (Value.int .i64) (Sort.ahead w n) g off zs.toArray).heap[g]? = some (.cells (putCells (Value.int .i64) off zs.toArray cur) T (0, 0)) := putRow_heap (w := Sort.ahead w n) hg
    have hg2 : (grow (putRow (Value.int .i64) (Sort.ahead w n) g off zs.toArray) os).heap[g]? = some (.cells (putCells (Value.int .i64) off zs.toArray cur) T (0, 0)) := by
      rw [heap_grow_old _ os (by simpa using hlt)]; exact hg1
    have hl2 : xs.length ≤ cap := by simpa using hl
    refine ⟨⟨.inr ⟨g, off, cap, _, by simp [Nat.min_eq_left hk], hb, hg2, by simp; omega, hc, by simpa [putCells] using hs, fun i u hu => ?_⟩⟩, ⟨rfl, rfl, rfl, by simp, fun b hb hne => ?_⟩⟩
    · rw [List.getElem?_map, List.getElem?_take] at hu
      split at hu
      · rename_i hik
        have hi : i < zs.length := by omega
        rw [List.getElem?_eq_getElem hi] at hu
        simp at hu
        subst hu
        have hc0 : off + i < cur.size := by omega
        have he : zs.toArray[i]! = zs[i] := by rw [getElem!_pos zs.toArray i (by simpa using hi)]; simp
        simp only [putCells, Array.getElem?_mapIdx, Array.getElem?_eq_getElem hc0, Option.map_some]
        rw [if_pos (by simp; omega), show off + i - off = i by omega, he]
      · simp at hu
    · rw [heap_grow_old _ os (by simpa using hb)]
      have : b ≠ g := fun e => hne (by rw [e])
      show ((Sort.ahead w n).heap.modify g _)[b]? = _
      rw [Array.getElem?_modify, if_neg (fun e => this e.symm)]
      rfl
end
end Go.Mem

/- Worlds that have drawn and have got new blocks, and nothing else: what the kit's sort by a function asks of that function. Over any program. -/
namespace Go.Mem
open Go.RowKit Go.Sort
set_option linter.unusedVariables false
def Gr (w w' : World) : Prop := ∃ (q : Nat) (os : Array Obj), w' = grow (Sort.ahead w q) os
theorem Gr.refl (w : World) : Gr w w := ⟨0, #[], by simp⟩
theorem Gr.trans {a b c : World} (h : Gr a b) (k : Gr b c) : Gr a c := by
  obtain ⟨q, os, rfl⟩ := h
  obtain ⟨q2, os2, rfl⟩ := k
  exact ⟨q + q2, os ++ os2, by rw [ahead_grow, ahead_ahead, grow_grow]⟩
theorem Gr.drew (w : World) : Gr w w.drew := ⟨1, #[], by simp [drew_eq_ahead]⟩
theorem Gr.alloc (w : World) (o : Obj) : Gr w (w.alloc o) := ⟨0, #[o], by rw [ahead_zero, alloc_eq_grow]⟩
theorem Gr.below {w w' : World} (h : Gr w w') : Below w.heap.size w w' := by
  obtain ⟨q, os, rfl⟩ := h
  exact ⟨rfl, rfl, rfl, by simp, fun k hk => by rw [heap_grow_old _ os (by simpa using hk)]; rfl⟩
section
variable {P : Program} {ops : Array Oper} {Q : Exit → Fm → World → Prop} {n : Nat} {f : Fm} {w : World} {rest : List Oper} {d : Nat} {ty : TypeId} {pos : String} {after : Array Edge} {g : Option (Nat × Bool)}
theorem s_boxG {e : TypeId} {x : Operand} {v u : Value}
    (hw : Wants ⟨some d, .box e x, ty, pos, after, g⟩ ops n f) (hd : Nat.ble (d + 1) n = true)
    (hx : lk n f x = some v) (hc : v.cells = #[u])
    (k : ∀ w' p, w'.cell? p = some u → Gr w w' → p.block = w.heap.size → WL P ops Q rest n (.upd f d (.pointer (some p))) w') :
    WL P ops Q (⟨some d, .box e x, ty, pos, after, g⟩ :: rest) n f w := by
  have key : ∀ w', w' = w.alloc (.cells #[u] e) → w'.cell? ⟨w.heap.size, 0, none⟩ = some u → WL P ops Q rest n (.upd f d (.pointer (some ⟨w.heap.size, 0, none⟩))) w' := fun w' e2 hcell => k w' _ hcell (e2 ▸ Gr.alloc w _) rfl
  replace hx := lk_evo hx
  refine s_val hw hd (v := .pointer (some ⟨w.heap.size, 0, none⟩)) (w' := w.alloc (.cells #[u] e)) ?_ (key _ rfl ?_)
  · simp [execOp, Instr.box, newVar, newRow, hx, hc]
  · simp
/-- a region that draws its order: the very world -/
theorem region_hG {id : Nat} (S : World → Prop) (hm : P.follows .mixedOrders = true)
    (h : ∀ w', Gr w w' → WH P ops S Q ops.size (Array.replicate ops.size false) n f w') : WC P (.region id ops true) Q n f w :=
  ⟨wp_region_held (S := S) hm (h _ (Gr.drew w)).out⟩
end
end Go.Mem
