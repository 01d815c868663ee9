/- Maps in memory: what a map's block holds, and what each operation makes of it. Rows that grow each by itself. Over any program. -/
import Derived.Test.YtkknhcpjiehgiaaDoorRp
import Derived.MapKept
namespace Go.Mem
open Go.RowKit
set_option linter.unusedVariables false
/-- the map's block r, from B on, holds kv, in the order in which it came in -/
structure MK (w : World) (B : Nat) (r : Nat) (kv : List (Value × Value)) : Prop where
  low : B ≤ r
  out : ∃ es clock, w.heap[r]? = some (.map es clock) ∧ es.toList.map (fun e : MapEntry => (e.key, e.val)) = kv
section
variable {w w' : World} {B r : Nat} {kv : List (Value × Value)}
theorem MK.lt (h : MK w B r kv) : r < w.heap.size := by
  obtain ⟨es, c, h1, _⟩ := h.out
  exact (Array.getElem?_eq_some_iff.1 h1).1
theorem MK.same (h : MK w B r kv) (hs : w'.heap[r]? = w.heap[r]?) : MK w' B r kv := by
  obtain ⟨es, c, h1, h2⟩ := h.out
  exact ⟨h.low, es, c, by rw [hs]; exact h1, h2⟩
theorem MK.below (h : MK w B r kv) (hb : Below w.heap.size w w') : MK w' B r kv := h.same (hb.block _ h.lt)
theorem MK.kept {row : Option Nat} (h : MK w B r kv) (hg : w.grownBy w' row) (hne : row ≠ some r) : MK w' B r kv := h.same (hg.block _ h.lt (fun e => hne e.symm))
theorem MK.below_of (h : MK w B r kv) (hg : w.grownBy w' (some r)) (hB : B ≤ w.heap.size) : Below B w w' := grownBy_below hg hB (fun k hk => by cases hk; exact h.low)
/-- a slice's block is no map's block -/
theorem Own.apart_map {B' : Nat} {T : TypeId} {v : Value} {vs : List Value} (h : Own w B' T v vs) (k : MK w B r kv) : v.ownBlock ≠ some r := by
  obtain ⟨es, c, h1, _⟩ := k.out
  rcases h with ⟨rfl, rfl⟩ | ⟨g, off, cap, cur, rfl, hb, hg, _⟩
  · simp [Value.ownBlock]
  · simp only [Value.ownBlock, ne_eq, Option.some.injEq]
    rintro rfl
    rw [hg] at h1
    cases h1
theorem Bx.apart_map {B' : Nat} {p : Addr} {T : TypeId} {u : Value} (h : Bx w B' p T u) (k : MK w B r kv) : (some r : Option Nat) ≠ some p.block := by
  obtain ⟨es, c, h1, _⟩ := k.out
  intro e
  have := h.row
  cases e
  rw [h1] at this
  cases this
end
class MapTy (P : Program) (t : TypeId) (kt : outParam TypeId) (et : outParam TypeId) (z : outParam Value) : Prop where
  under : P.underlying t = some (.map kt et)
  zero : ∀ w, (zeroValue et).run P w = .ok z w
/-- keys of the kind K: how they are looked for -/
class KeyTy (P : Program) (kt : TypeId) (K : outParam (Value → Prop)) : Prop where
  check : ∀ b k w, K k → (Instr.checkKey b 10000 kt k).run P w = .ok () w
  miss : ∀ k l w, K k → (∀ e ∈ l, K e.key ∧ e.key ≠ k) → (Instr.findKey kt k l).run P w = .ok none w
  hit : ∀ k (l : List MapEntry) w i e, K k → (∀ e ∈ l, K e.key) → l[i]? = some e → e.key = k → (∀ j e', j < i → l[j]? = some e' → e'.key ≠ k) → (Instr.findKey kt k l).run P w = .ok (some (i, e.val)) w
section
variable {P : Program} {kt : TypeId} {K : Value → Prop}
theorem asking_miss (heq : ∀ a b w, K a → K b → ∃ r : Bool, (Op.equal kt a b).run P w = .ok r w ∧ (r = true ↔ a = b)) (k : Value) (w : World) (hk : K k) :
    ∀ (l : List MapEntry) (i : Nat), (∀ e ∈ l, K e.key ∧ e.key ≠ k) → (Instr.findAsking kt k l i).run P w = .ok none w
  | [], i, _ => by simp [Instr.findAsking]
  | e :: l, i, h => by
    obtain ⟨r, hr, hiff⟩ := heq k e.key w hk (h e (by simp)).1
    have : r = false := by
      cases r with
      | false => rfl
      | true => exact absurd (hiff.1 rfl).symm (h e (by simp)).2
    subst this
    simp [Instr.findAsking, hr, asking_miss heq k w hk l (i + 1) (fun x hx => h x (by simp [hx]))]
theorem asking_hit (heq : ∀ a b w, K a → K b → ∃ r : Bool, (Op.equal kt a b).run P w = .ok r w ∧ (r = true ↔ a = b)) (k : Value) (w : World) (hk : K k) :
    ∀ (l : List MapEntry) (q i : Nat) (e : MapEntry), (∀ e ∈ l, K e.key) → l[i]? = some e → e.key = k → (∀ j e', j < i → l[j]? = some e' → e'.key ≠ k) → (Instr.findAsking kt k l q).run P w = .ok (some (q + i, e.val)) w
  | [], q, i, e, _, h, _, _ => by simp at h
  | e0 :: l, q, 0, e, hK, h, he, _ => by
    simp at h
    subst h
    obtain ⟨r, hr, hiff⟩ := heq k e0.key w hk (hK e0 (by simp))
    have : r = true := hiff.2 he.symm
    subst this
    simp [Instr.findAsking, hr]
  | e0 :: l, q, i + 1, e, hK, h, he, hb => by
    simp at h
    obtain ⟨r, hr, hiff⟩ := heq k e0.key w hk (hK e0 (by simp))
    have : r = false := by
      cases r with
      | false => rfl
      | true => exact absurd (hiff.1 rfl).symm (hb 0 e0 (by omega) (by simp))
    subst this
    have ih := asking_hit heq k w hk l (q + 1) i e (fun x hx => hK x (by simp [hx])) h he (fun j e' hj h' => hb (j + 1) e' (by omega) (by simpa using h'))
    simp [Instr.findAsking, hr, ih]
    omega
theorem keyTy_of_equal {d : TypeDesc} (hd : P.underlying kt = some d) (hn : ∀ a b, Instr.sameNow d a b = none)
    (hc : ∀ b k w, K k → (Instr.checkKey b 10000 kt k).run P w = .ok () w)
    (heq : ∀ a b w, K a → K b → ∃ r : Bool, (Op.equal kt a b).run P w = .ok r w ∧ (r = true ↔ a = b)) : KeyTy P kt K := by
  refine ⟨hc, fun k l w hk h => ?_, fun k l w i e hk hK h he hb => ?_⟩
  · cases l with
    | nil => simp [Instr.findKey, run_underlying hd, Instr.findNow]
    | cons e l =>
      have : Instr.findNow d k (e :: l) 0 = none := by simp [Instr.findNow, hn]
      simp [Instr.findKey, run_underlying hd, this, asking_miss heq k w hk (e :: l) 0 h]
  · cases l with
    | nil => simp at h
    | cons e0 l =>
      have : Instr.findNow d k (e0 :: l) 0 = none := by simp [Instr.findNow, hn]
      have hh := asking_hit heq k w hk (e0 :: l) 0 i e hK h he hb
      rw [Nat.zero_add] at hh
      simp [Instr.findKey, run_underlying hd, this, hh]
end
section
variable {P : Program} {ops : Array Oper} {Q : Exit → Fm → World → Prop} {n : Nat} {f : Fm} {w : World} {rest : List Oper} {ty : TypeId} {pos : String} {after : Array Edge} {g : Option (Nat × Bool)} {d : Nat} {dst : Option Tmp}
theorem s_makeMap {B : Nat} {t kt et : TypeId} {z : Value} [ht : MapTy P t kt et z]
    (hw : Wants ⟨some d, .makeMap t none, ty, pos, after, g⟩ ops n f) (hd : Nat.ble (d + 1) n = true) (hB : B ≤ w.heap.size)
    (k : ∀ w' r, MK w' B r [] → w.grownBy w' none → r = w.heap.size → WL P ops Q rest n (.upd f d (.map (some r))) w') :
    WL P ops Q (⟨some d, .makeMap t none, ty, pos, after, g⟩ :: rest) n f w := by
  refine s_val hw hd (v := .map (some w.heap.size)) (w' := w.alloc (.map #[] 0)) ?_ (k _ _ ⟨hB, #[], 0, heap_alloc_new w _, rfl⟩ (World.grownBy_alloc w _ none) rfl)
  simp [execOp, Instr.makeMap]
theorem s_makeMapH {B : Nat} {t kt et : TypeId} {z : Value} {x : Operand} {m : Int} {kd : IntKind} [ht : MapTy P t kt et z]
    (hw : Wants ⟨some d, .makeMap t (some x), ty, pos, after, g⟩ ops n f) (hd : Nat.ble (d + 1) n = true) (hx : lk n f x = some (.int kd m)) (hB : B ≤ w.heap.size)
    (k : ∀ w' r, MK w' B r [] → w.grownBy w' none → r = w.heap.size → WL P ops Q rest n (.upd f d (.map (some r))) w') :
    WL P ops Q (⟨some d, .makeMap t (some x), ty, pos, after, g⟩ :: rest) n f w := by
  replace hx := lk_evo hx
  refine s_val hw hd (v := .map (some w.heap.size)) (w' := w.alloc (.map #[] 0)) ?_ (k _ _ ⟨hB, #[], 0, heap_alloc_new w _, rfl⟩ (World.grownBy_alloc w _ none) rfl)
  simp [execOp, Instr.makeMap, run_underlying ht.under, hx, asInt, asIntOf]
theorem update_run {B r : Nat} {t kt et : TypeId} {z key val : Value} {K : Value → Prop} {kv : List (Value × Value)} [ht : MapTy P t kt et z] [hk : KeyTy P kt K] (h : MK w B r kv) (hK : K key) (hKs : ∀ x ∈ kv, K x.1 ∧ x.1 ≠ key) :
    ∃ w', (Instr.mapUpdate t (.map (some r)) key val).run P w = .ok () w' ∧ MK w' B r (kv ++ [(key, val)]) ∧ w.grownBy w' (some r) := by
  obtain ⟨es, c, h1, h2⟩ := h.out
  have hes : ∀ e ∈ es.toList, K e.key ∧ e.key ≠ key := fun e he => by
    have : (e.key, e.val) ∈ kv := by rw [← h2]; exact List.mem_map.2 ⟨e, he, rfl⟩
    exact hKs _ this
  have hf := hk.miss key es.toList w hK hes
  have hlt := h.lt
  refine ⟨{ w with heap := w.heap.setIfInBounds r (.map (es.push { key, val, born := c }) (c + 1)) }, ?_, ⟨h.low, es.push { key, val, born := c }, c + 1, by simp [hlt], by simp [← h2]⟩, ?_⟩
  · simp [Instr.mapUpdate, run_underlying ht.under, MapKept.run_getObj_map h1, hk.check false key w hK, hf, MapKept.run_setObj_map _ h1]
  · refine ⟨rfl, rfl, rfl, by simp, fun i hi hne => ?_⟩
    have : r ≠ i := fun e => hne (by rw [e])
    simp [this]
theorem lookup_miss {B r : Nat} {t kt et : TypeId} {z key : Value} {K : Value → Prop} {kv : List (Value × Value)} [ht : MapTy P t kt et z] [hk : KeyTy P kt K] (h : MK w B r kv) (hK : K key) (hKs : ∀ x ∈ kv, K x.1 ∧ x.1 ≠ key) (b : Bool) :
    (Instr.lookup t (.map (some r)) key b).run P w = .ok (if b then .tuple #[z, .bool false] else z) w := by
  obtain ⟨es, c, h1, h2⟩ := h.out
  have hes : ∀ e ∈ es.toList, K e.key ∧ e.key ≠ key := fun e he => by
    have : (e.key, e.val) ∈ kv := by rw [← h2]; exact List.mem_map.2 ⟨e, he, rfl⟩
    exact hKs _ this
  simp [Instr.lookup, run_underlying ht.under, MapKept.run_getObj_map h1, hk.check es.isEmpty key w hK, hk.miss key es.toList w hK hes, ht.zero]
theorem lookup_hit {B r : Nat} {t kt et : TypeId} {z key val : Value} {K : Value → Prop} {kv : List (Value × Value)} [ht : MapTy P t kt et z] [hk : KeyTy P kt K] (h : MK w B r kv) (hK : K key) (hKs : ∀ x ∈ kv, K x.1) {i : Nat}
    (hi : kv[i]? = some (key, val)) (hb : ∀ j x, j < i → kv[j]? = some x → x.1 ≠ key) (b : Bool) :
    (Instr.lookup t (.map (some r)) key b).run P w = .ok (if b then .tuple #[val, .bool true] else val) w := by
  obtain ⟨es, c, h1, h2⟩ := h.out
  have hes : ∀ e ∈ es.toList, K e.key := fun e he => by
    have : (e.key, e.val) ∈ kv := by rw [← h2]; exact List.mem_map.2 ⟨e, he, rfl⟩
    exact hKs _ this
  rw [← h2, List.getElem?_map] at hi
  cases he : es.toList[i]? with
  | none => rw [he] at hi; simp at hi
  | some e =>
    rw [he] at hi
    simp at hi
    have hf := hk.hit key es.toList w i e hK hes he hi.1 (fun j e' hj h' => hb j (e'.key, e'.val) hj (by rw [← h2, List.getElem?_map, h']; rfl))
    simp [Instr.lookup, run_underlying ht.under, MapKept.run_getObj_map h1, hk.check es.isEmpty key w hK, hf, hi.2]
theorem y_lookMiss {B r : Nat} {t kt et : TypeId} {z key : Value} {K : Value → Prop} {kv : List (Value × Value)} {x y : Operand} [ht : MapTy P t kt et z] [hk : KeyTy P kt K] (hx : lk n f x = some (.map (some r))) (hy : lk n f y = some key)
    (h : MK w B r kv) (hK : K key) (hKs : ∀ x ∈ kv, K x.1 ∧ x.1 ≠ key) : Yld P (evo n f) ⟨dst, .lookup t x y true, ty, pos, after, g⟩ w (.tuple #[z, .bool false]) := by
  replace hx := lk_evo hx
  replace hy := lk_evo hy
  constructor; simp [execOp, hx, hy, lookup_miss h hK hKs]
theorem y_lookHit {B r : Nat} {t kt et : TypeId} {z key val : Value} {K : Value → Prop} {kv : List (Value × Value)} {x y : Operand} [ht : MapTy P t kt et z] [hk : KeyTy P kt K] (hx : lk n f x = some (.map (some r))) (hy : lk n f y = some key)
    (h : MK w B r kv) (hK : K key) (hKs : ∀ x ∈ kv, K x.1) {i : Nat} (hi : kv[i]? = some (key, val)) (hb : ∀ j x, j < i → kv[j]? = some x → x.1 ≠ key) :
    Yld P (evo n f) ⟨dst, .lookup t x y true, ty, pos, after, g⟩ w (.tuple #[val, .bool true]) := by
  replace hx := lk_evo hx
  replace hy := lk_evo hy
  constructor; simp [execOp, hx, hy, lookup_hit h hK hKs hi hb]
theorem y_look1Miss {B r : Nat} {t kt et : TypeId} {z key : Value} {K : Value → Prop} {kv : List (Value × Value)} {x y : Operand} [ht : MapTy P t kt et z] [hk : KeyTy P kt K] (hx : lk n f x = some (.map (some r))) (hy : lk n f y = some key)
    (h : MK w B r kv) (hK : K key) (hKs : ∀ x ∈ kv, K x.1 ∧ x.1 ≠ key) : Yld P (evo n f) ⟨dst, .lookup t x y false, ty, pos, after, g⟩ w z := by
  replace hx := lk_evo hx
  replace hy := lk_evo hy
  constructor; simp [execOp, hx, hy, lookup_miss h hK hKs]
theorem y_look1Hit {B r : Nat} {t kt et : TypeId} {z key val : Value} {K : Value → Prop} {kv : List (Value × Value)} {x y : Operand} [ht : MapTy P t kt et z] [hk : KeyTy P kt K] (hx : lk n f x = some (.map (some r))) (hy : lk n f y = some key)
    (h : MK w B r kv) (hK : K key) (hKs : ∀ x ∈ kv, K x.1) {i : Nat} (hi : kv[i]? = some (key, val)) (hb : ∀ j x, j < i → kv[j]? = some x → x.1 ≠ key) :
    Yld P (evo n f) ⟨dst, .lookup t x y false, ty, pos, after, g⟩ w val := by
  replace hx := lk_evo hx
  replace hy := lk_evo hy
  constructor; simp [execOp, hx, hy, lookup_hit h hK hKs hi hb]
theorem s_mapUpdate {B r : Nat} {t kt et : TypeId} {z key val : Value} {K : Value → Prop} {kv : List (Value × Value)} {m x y : Operand} [ht : MapTy P t kt et z] [hk : KeyTy P kt K]
    (hw : Wants ⟨none, .mapUpdate t m x y, ty, pos, after, g⟩ ops n f)
    (hm : lk n f m = some (.map (some r))) (hx : lk n f x = some key) (hy : lk n f y = some val) (h : MK w B r kv) (hK : K key) (hKs : ∀ x ∈ kv, K x.1 ∧ x.1 ≠ key)
    (k : ∀ w', MK w' B r (kv ++ [(key, val)]) → w.grownBy w' (some r) → WL P ops Q rest n f w') :
    WL P ops Q (⟨none, .mapUpdate t m x y, ty, pos, after, g⟩ :: rest) n f w := by
  replace hm := lk_evo hm
  replace hx := lk_evo hx
  replace hy := lk_evo hy
  obtain ⟨w', hr, h1, h2⟩ := update_run (P := P) (t := t) (val := val) h hK hKs
  refine s_unit hw ?_ (k w' h1 h2)
  simp [execOp, hm, hx, hy, hr]
theorem s_insert {B r : Nat} {t kt et : TypeId} {z key val : Value} {K : Value → Prop} {kv : List (Value × Value)} {m x y : Operand} [ht : MapTy P t kt et z] [hk : KeyTy P kt K]
    (hw : Wants ⟨none, .insert t m x y, ty, pos, after, g⟩ ops n f)
    (hm : lk n f m = some (.map (some r))) (hx : lk n f x = some key) (hy : lk n f y = some val) (h : MK w B r kv) (hK : K key) (hKs : ∀ x ∈ kv, K x.1 ∧ x.1 ≠ key)
    (k : ∀ w', MK w' B r (kv ++ [(key, val)]) → w.grownBy w' (some r) → WL P ops Q rest n f w') :
    WL P ops Q (⟨none, .insert t m x y, ty, pos, after, g⟩ :: rest) n f w := by
  replace hm := lk_evo hm
  replace hx := lk_evo hx
  replace hy := lk_evo hy
  obtain ⟨w', hr, h1, h2⟩ := update_run (P := P) (t := t) (val := val) h hK hKs
  refine s_unit hw ?_ (k w' h1 h2)
  simp [execOp, hm, hx, hy, hr]
end
end Go.Mem
