/- The walk's own words, continued: slices of numbers, of Bools, of rows. Over any program. -/
import Derived.Test.YtmfegkjjfmmoaaaCal
namespace Go.Mem
open Go.RowKit

/-- owned numbers, Bools -/
structure OI (w : World) (B : Nat) (T : TypeId) (v : Value) (xs : List Int) : Prop where
  own : Own w B T v (xs.map (.int .i64))
structure OB (w : World) (B : Nat) (T : TypeId) (v : Value) (bs : List Bool) : Prop where
  own : Own w B T v (bs.map .bool)
/-- An owned slice of rows, which are read. -/
structure OR (w : World) (B : Nat) (T : TypeId) (v : Value) (xss : List (List Int)) : Prop where
  out : ∃ vs, Own w B T v vs ∧ (∀ u ∈ vs, u.oneCell' = true) ∧ vs.length = xss.length ∧ ∀ (i : Nat) u xs, vs[i]? = some u → xss[i]? = some xs → IL w u xs

def seti (xs : List Int) (j a : Int) : List Int := xs.set j.toNat a
def setb (bs : List Bool) (j : Int) (b : Bool) : List Bool := bs.set j.toNat b
@[simp] theorem length_seti (xs : List Int) (j a : Int) : (seti xs j a).length = xs.length := by simp [seti]
@[simp] theorem length_setb (bs : List Bool) (j : Int) (b : Bool) : (setb bs j b).length = bs.length := by simp [setb]

section
variable {w w' : World} {B : Nat} {T : TypeId} {v : Value} {xs : List Int} {bs : List Bool} {xss : List (List Int)}
theorem OI.il (h : OI w B T v xs) : IL w v xs := ⟨h.own.rd⟩
theorem OB.bl (h : OB w B T v bs) : BL w v bs := ⟨h.own.rd⟩
theorem OR.rl (h : OR w B T v xss) : RL w v xss := by obtain ⟨vs, h1, _, h2, h3⟩ := h.out; exact ⟨vs, h1.rd, h2, h3⟩
theorem OI.sv (h : OI w B T v xs) : SV v xs.length := h.il.sv
theorem OB.sv (h : OB w B T v bs) : SV v bs.length := h.bl.sv
theorem OR.sv (h : OR w B T v xss) : SV v xss.length := h.rl.sv
theorem OI.below (h : OI w B T v xs) (hb : Below w.heap.size w w') : OI w' B T v xs := ⟨h.own.below hb⟩
theorem OB.below (h : OB w B T v bs) (hb : Below w.heap.size w w') : OB w' B T v bs := ⟨h.own.below hb⟩
theorem OR.below (h : OR w B T v xss) (hb : Below w.heap.size w w') : OR w' B T v xss := by
  obtain ⟨vs, h1, h2, h3, h4⟩ := h.out
  exact ⟨vs, h1.below hb, h2, h3, fun i u xs hu hx => (h4 i u xs hu hx).below hb⟩
theorem OI.kept {row : Option Nat} (h : OI w B T v xs) (hg : w.grownBy w' row) (hne : v.ownBlock = none ∨ v.ownBlock ≠ row) : OI w' B T v xs := ⟨h.own.kept hg hne⟩
theorem OB.kept {row : Option Nat} (h : OB w B T v bs) (hg : w.grownBy w' row) (hne : v.ownBlock = none ∨ v.ownBlock ≠ row) : OB w' B T v bs := ⟨h.own.kept hg hne⟩
theorem OI.mono {B' : Nat} (h : OI w B T v xs) (hB : B' ≤ B) : OI w B' T v xs := ⟨h.own.mono hB⟩
theorem OB.mono {B' : Nat} (h : OB w B T v bs) (hB : B' ≤ B) : OB w B' T v bs := ⟨h.own.mono hB⟩
theorem OR.mono {B' : Nat} (h : OR w B T v xss) (hB : B' ≤ B) : OR w B' T v xss := by obtain ⟨vs, h1, h2⟩ := h.out; exact ⟨vs, h1.mono hB, h2⟩
theorem IL.kept {row : Option Nat} (h : IL w v xs) (hg : w.grownBy w' row) (hne : v.ownBlock = none ∨ v.ownBlock ≠ row) : IL w' v xs := ⟨h.rd.kept hg hne⟩
theorem OI.lt (h : OI w B T v xs) : ∀ g, v.ownBlock = some g → B ≤ g ∧ g < w.heap.size := h.own.lt
theorem OB.lt (h : OB w B T v bs) : ∀ g, v.ownBlock = some g → B ≤ g ∧ g < w.heap.size := h.own.lt
theorem OI.nil (w : World) (B : Nat) (T : TypeId) : OI w B T (.slice none 0 0) [] := ⟨Own.nil w B T⟩
theorem OR.nil (w : World) (B : Nat) (T : TypeId) : OR w B T (.slice none 0 0) [] := ⟨[], Own.nil w B T, by simp, rfl, by simp⟩
theorem OI.apart_OB {B' : Nat} {T' : TypeId} {v' : Value} (h : OI w B T v xs) (h' : OB w B' T' v' bs) (hT : T ≠ T') : v.ownBlock = none ∨ v.ownBlock ≠ v'.ownBlock := h.own.apart_type h'.own hT
theorem OB.apart_OI {B' : Nat} {T' : TypeId} {v' : Value} (h : OB w B T v bs) (h' : OI w B' T' v' xs) (hT : T ≠ T') : v.ownBlock = none ∨ v.ownBlock ≠ v'.ownBlock := h.own.apart_type h'.own hT
/-- What lies below B is apart from what is owned from B on. -/
theorem OI.apart_low {u : Value} (h : OI w B T v xs) (hu : ∀ g, u.ownBlock = some g → g < B) : u.ownBlock = none ∨ u.ownBlock ≠ v.ownBlock := by
  cases e : u.ownBlock with
  | none => exact .inl rfl
  | some g =>
    refine .inr fun e' => ?_
    have := (h.own.lt g e'.symm).1
    have := hu g e
    omega
theorem OI.apart_high {u : Value} (h : OI w B T v xs) (hu : ∀ g, u.ownBlock = some g → g < B) : v.ownBlock = none ∨ v.ownBlock ≠ u.ownBlock := by
  cases e : v.ownBlock with
  | none => exact .inl rfl
  | some g =>
    refine .inr fun e' => ?_
    have := (h.own.lt g e).1
    have := hu g e'.symm
    omega
/-- What is owned from B on is written: below B nothing turns. -/
theorem OI.below_of {row : Value} (h : OI w B T row xs) (hg : w.grownBy w' row.ownBlock) (hB : B ≤ w.heap.size) : Below B w w' := grownBy_below hg hB (fun k hk => (h.lt k hk).1)
theorem OB.below_of {row : Value} (h : OB w B T row bs) (hg : w.grownBy w' row.ownBlock) (hB : B ≤ w.heap.size) : Below B w w' := grownBy_below hg hB (fun k hk => (h.lt k hk).1)
theorem OR.below_of {row : Value} (h : OR w B T row xss) (hg : w.grownBy w' row.ownBlock) (hB : B ≤ w.heap.size) : Below B w w' := by
  obtain ⟨vs, h1, _⟩ := h.out
  exact grownBy_below hg hB (fun k hk => (h1.lt k hk).1)
end

section ops
variable {P : Program} {n : Nat} {f : Fm} {w : World} {dst : Option Tmp} {ty : TypeId} {pos : String} {after : Array Edge} {g : Option (Nat × Bool)}

theorem y_lenS {x : Operand} {t e : TypeId} {v : Value} {m : Nat} [h : SliceTy P t e] (hx : lk n f x = some v) (hv : SV v m) :
    Yld P (evo n f) ⟨dst, .call ⟨.builtin .len, #[x], #[t]⟩, ty, pos, after, g⟩ w (.int .i64 m) := by
  replace hx := lk_evo hx
  obtain ⟨a, cap, rfl, h1, h2⟩ := hv.out
  constructor
  simp [execOp, resolve, invoke, builtin, Builtin.len_, run_underlying h.under, goInt, hx]

theorem y_idxS {x i : Operand} {t e : TypeId} {v : Value} {m : Nat} {k : IntKind} {j : Int} {z : Value} {bytes : Nat} [h : SliceTy P t e] [he : CellTy P e z bytes]
    (hx : lk n f x = some v) (hi : lk n f i = some (.int k j)) (hv : SV v m) (h0 : 0 ≤ j) (hj : j < m) :
    Yld P (evo n f) ⟨dst, .indexAddr t x i, ty, pos, after, g⟩ w (.pointer (some (addrOf v j.toNat))) := by
  replace hx := lk_evo hx
  replace hi := lk_evo hi
  obtain ⟨ti, hti, _, hs, _⟩ := he.info
  obtain ⟨a, cap, rfl, h1, h2⟩ := hv.out
  constructor
  cases a with
  | none => exact absurd rfl (h1 (by omega))
  | some a => simp [execOp, hx, hi, Instr.indexAt, run_underlying h.under, asIntOf, addrOf, sizeOf, typeInfo, hti, hs, h0, hj]

theorem get_map {α : Type} (c : α → Value) (l : List α) (d : α) {j : Int} (h0 : 0 ≤ j) (hj : j < l.length) : (l.map c)[j.toNat]? = some (c (l.getD j.toNat d)) := by
  have hlt : j.toNat < l.length := by omega
  simp [List.getD, hlt]

theorem y_ldI {x : Operand} {e : TypeId} {v : Value} {xs : List Int} {j : Int} {z : Value} {bytes : Nat} [he : CellTy P e z bytes]
    (hx : lk n f x = some (.pointer (some (addrOf v j.toNat)))) (hv : IL w v xs) (h0 : 0 ≤ j) (hj : j < xs.length) :
    Yld P (evo n f) ⟨dst, .load e x, ty, pos, after, g⟩ w (.int .i64 (gi xs j)) := y_ld hx hv.rd (get_map (.int .i64) xs 0 h0 hj)
theorem y_ldB {x : Operand} {e : TypeId} {v : Value} {bs : List Bool} {j : Int} {z : Value} {bytes : Nat} [he : CellTy P e z bytes]
    (hx : lk n f x = some (.pointer (some (addrOf v j.toNat)))) (hv : BL w v bs) (h0 : 0 ≤ j) (hj : j < bs.length) :
    Yld P (evo n f) ⟨dst, .load e x, ty, pos, after, g⟩ w (.bool (gb bs j)) := y_ld hx hv.rd (get_map .bool bs false h0 hj)
theorem y_ldOI {x : Operand} {e : TypeId} {v : Value} {xs : List Int} {j : Int} {z : Value} {bytes B : Nat} {T : TypeId} [he : CellTy P e z bytes]
    (hx : lk n f x = some (.pointer (some (addrOf v j.toNat)))) (hv : OI w B T v xs) (h0 : 0 ≤ j) (hj : j < xs.length) :
    Yld P (evo n f) ⟨dst, .load e x, ty, pos, after, g⟩ w (.int .i64 (gi xs j)) := y_ldI hx hv.il h0 hj
theorem y_ldOB {x : Operand} {e : TypeId} {v : Value} {bs : List Bool} {j : Int} {z : Value} {bytes B : Nat} {T : TypeId} [he : CellTy P e z bytes]
    (hx : lk n f x = some (.pointer (some (addrOf v j.toNat)))) (hv : OB w B T v bs) (h0 : 0 ≤ j) (hj : j < bs.length) :
    Yld P (evo n f) ⟨dst, .load e x, ty, pos, after, g⟩ w (.bool (gb bs j)) := y_ldB hx hv.bl h0 hj

theorem RL.row {v : Value} {xss : List (List Int)} (h : RL w v xss) {j : Int} (h0 : 0 ≤ j) (hj : j < xss.length) : ∃ u, IL w u (gr xss j) ∧ w.cell? (addrOf v j.toNat) = some u := by
  obtain ⟨vs, h1, h2, h3⟩ := h.out
  have hlt : j.toNat < vs.length := by omega
  have hlt' : j.toNat < xss.length := by omega
  refine ⟨vs[j.toNat], ?_, h1.cell (by simp [hlt])⟩
  refine h3 j.toNat _ _ (by simp [hlt]) ?_
  simp [gr, List.getD, hlt']
end ops

section steps
variable {P : Program} {ops : Array Oper} {Q : Exit → Fm → World → Prop} {n : Nat} {f : Fm} {w : World} {rest : List Oper} {ty : TypeId} {pos : String} {after : Array Edge} {g : Option (Nat × Bool)} {d : Nat}

/-- A row is loaded. -/
theorem s_ldR {x : Operand} {e : TypeId} {v : Value} {xss : List (List Int)} {j : Int} {z : Value} {bytes : Nat} [he : CellTy P e z bytes]
    (hw : Wants ⟨some d, .load e x, ty, pos, after, g⟩ ops n f) (hd : Nat.ble (d + 1) n = true)
    (hx : lk n f x = some (.pointer (some (addrOf v j.toNat)))) (hv : RL w v xss) (h0 : 0 ≤ j) (hj : j < xss.length)
    (k : ∀ u, IL w u (gr xss j) → SV u (gr xss j).length → WL P ops Q rest n (.upd f d u) w) :
    WL P ops Q (⟨some d, .load e x, ty, pos, after, g⟩ :: rest) n f w := by
  obtain ⟨u, hu, hc⟩ := hv.row h0 hj
  exact s_p hw hd (y_ldc hx hc) (k u hu hu.sv)

theorem s_storeI {B : Nat} {T e : TypeId} {z : Value} {bytes : Nat} [he : CellTy P e z bytes] {x y : Operand} {v : Value} {xs : List Int} {j a : Int}
    (hw : Wants ⟨none, .store e x y, ty, pos, after, g⟩ ops n f)
    (hx : lk n f x = some (.pointer (some (addrOf v j.toNat)))) (hy : lk n f y = some (.int .i64 a)) (hv : OI w B T v xs) (h0 : 0 ≤ j) (hj : j < xs.length)
    (k : ∀ w', OI w' B T v (seti xs j a) → w.grownBy w' v.ownBlock → WL P ops Q rest n f w') :
    WL P ops Q (⟨none, .store e x y, ty, pos, after, g⟩ :: rest) n f w :=
  s_store hw hx hy rfl hv.own (by simp; omega) fun w' ho hg => k w' ⟨by simpa [seti, List.map_set] using ho⟩ hg
theorem s_storeB {B : Nat} {T e : TypeId} {z : Value} {bytes : Nat} [he : CellTy P e z bytes] {x y : Operand} {v : Value} {bs : List Bool} {j : Int} {b : Bool}
    (hw : Wants ⟨none, .store e x y, ty, pos, after, g⟩ ops n f)
    (hx : lk n f x = some (.pointer (some (addrOf v j.toNat)))) (hy : lk n f y = some (.bool b)) (hv : OB w B T v bs) (h0 : 0 ≤ j) (hj : j < bs.length)
    (k : ∀ w', OB w' B T v (setb bs j b) → w.grownBy w' v.ownBlock → WL P ops Q rest n f w') :
    WL P ops Q (⟨none, .store e x y, ty, pos, after, g⟩ :: rest) n f w :=
  s_store hw hx hy rfl hv.own (by simp; omega) fun w' ho hg => k w' ⟨by simpa [setb, List.map_set] using ho⟩ hg

/-- make([]int64, m), make([]bool, m) -/
theorem s_makeI {B : Nat} {t e : TypeId} {bytes : Nat} [ht : SliceTy P t e] [he : CellTy P e (.int .i64 0) bytes] {x y : Operand} {kl kc : IntKind} {m : Int}
    (hw : Wants ⟨some d, .makeSlice t x y, ty, pos, after, g⟩ ops n f) (hd : Nat.ble (d + 1) n = true)
    (hx : lk n f x = some (.int kl m)) (hy : lk n f y = some (.int kc m)) (h0 : 0 ≤ m) (hm : m ≤ 1000000000000) (hB : B ≤ w.heap.size)
    (k : ∀ v w', OI w' B e v (List.replicate m.toNat 0) → SV v m.toNat → w.grownBy w' none → v.ownBlock = some w.heap.size → WL P ops Q rest n (.upd f d v) w') :
    WL P ops Q (⟨some d, .makeSlice t x y, ty, pos, after, g⟩ :: rest) n f w :=
  s_make hw hd hx hy h0 hm hB fun v w' ho hg hb => by
    have h : OI w' B e v (List.replicate m.toNat 0) := ⟨by simpa using ho⟩
    exact k v w' h (by simpa using h.sv) hg hb
theorem s_makeB {B : Nat} {t e : TypeId} {bytes : Nat} [ht : SliceTy P t e] [he : CellTy P e (.bool false) bytes] {x y : Operand} {kl kc : IntKind} {m : Int}
    (hw : Wants ⟨some d, .makeSlice t x y, ty, pos, after, g⟩ ops n f) (hd : Nat.ble (d + 1) n = true)
    (hx : lk n f x = some (.int kl m)) (hy : lk n f y = some (.int kc m)) (h0 : 0 ≤ m) (hm : m ≤ 1000000000000) (hB : B ≤ w.heap.size)
    (k : ∀ v w', OB w' B e v (List.replicate m.toNat false) → SV v m.toNat → w.grownBy w' none → v.ownBlock = some w.heap.size → WL P ops Q rest n (.upd f d v) w') :
    WL P ops Q (⟨some d, .makeSlice t x y, ty, pos, after, g⟩ :: rest) n f w :=
  s_make hw hd hx hy h0 hm hB fun v w' ho hg hb => by
    have h : OB w' B e v (List.replicate m.toNat false) := ⟨by simpa using ho⟩
    exact k v w' h (by simpa using h.sv) hg hb

/-- append(v, sv...) over numbers -/
theorem s_appendI {B : Nat} {t e : TypeId} {z : Value} {bytes : Nat} [ht : SliceTy P t e] [he : CellTy P e z bytes] {x y : Operand} {v sv : Value} {xs ys : List Int}
    (hw : Wants ⟨some d, .call ⟨.builtin .append, #[x, y], #[t, t]⟩, ty, pos, after, g⟩ ops n f) (hd : Nat.ble (d + 1) n = true)
    (hx : lk n f x = some v) (hy : lk n f y = some sv) (hv : OI w B e v xs) (hs : IL w sv ys) (hlen : xs.length + ys.length ≤ 1000000000000) (hB : B ≤ w.heap.size)
    (k : ∀ v' w', OI w' B e v' (xs ++ ys) → SV v' (xs.length + ys.length) → w.grownBy w' v.ownBlock → (v'.ownBlock = v.ownBlock ∨ v'.ownBlock = some w.heap.size) → WL P ops Q rest n (.upd f d v') w') :
    WL P ops Q (⟨some d, .call ⟨.builtin .append, #[x, y], #[t, t]⟩, ty, pos, after, g⟩ :: rest) n f w :=
  s_append hw hd hx hy hv.own hs.rd (by intro u hu; obtain ⟨a, _, rfl⟩ := List.mem_map.1 hu; rfl) (by simpa using hlen) hB fun v' w' ho hg hb => by
    have h : OI w' B e v' (xs ++ ys) := ⟨by simpa using ho⟩
    exact k v' w' h (by simpa using h.sv) hg hb

/-- []int64{..} -/
theorem s_buildI {B : Nat} {t e : TypeId} {z : Value} {bytes m : Nat} {parts : Array (Nat × Operand)} [ht : SliceTy P t e] [he : CellTy P e z bytes] (xs : List Int)
    (hw : Wants ⟨some d, .buildSlice t m parts, ty, pos, after, g⟩ ops n f) (hd : Nat.ble (d + 1) n = true)
    (hp : parts.toList.map (fun x => (x.1, evo n f x.2)) = (List.range' 0 xs.length).zip (xs.map (.int .i64))) (hm : Nat.ble m 1000000 = true) (hl : xs.length = m) (hB : B ≤ w.heap.size)
    (k : ∀ v w', OI w' B e v xs → SV v m → w.grownBy w' none → v.ownBlock = some w.heap.size → WL P ops Q rest n (.upd f d v) w') :
    WL P ops Q (⟨some d, .buildSlice t m parts, ty, pos, after, g⟩ :: rest) n f w :=
  s_build (xs.map (.int .i64)) hw hd (by simpa using hp) (Nat.le_of_ble_eq_true hm) (by simpa using hl) (by intro u hu; obtain ⟨a, _, rfl⟩ := List.mem_map.1 hu; rfl) hB fun v w' ho hg hb => by
    have h : OI w' B e v xs := ⟨ho⟩
    exact k v w' h (by rw [← hl]; exact h.sv) hg hb
theorem s_build1 {B : Nat} {t e : TypeId} {z : Value} {bytes : Nat} {x : Operand} {a : Int} [ht : SliceTy P t e] [he : CellTy P e z bytes]
    (hw : Wants ⟨some d, .buildSlice t 1 #[(0, x)], ty, pos, after, g⟩ ops n f) (hd : Nat.ble (d + 1) n = true)
    (hx : lk n f x = some (.int .i64 a)) (hB : B ≤ w.heap.size)
    (k : ∀ v w', OI w' B e v [a] → SV v 1 → w.grownBy w' none → v.ownBlock = some w.heap.size → WL P ops Q rest n (.upd f d v) w') :
    WL P ops Q (⟨some d, .buildSlice t 1 #[(0, x)], ty, pos, after, g⟩ :: rest) n f w := s_buildI [a] hw hd (by simp [lk_evo hx]) rfl rfl hB k
theorem s_build2 {B : Nat} {t e : TypeId} {z : Value} {bytes : Nat} {x y : Operand} {a b : Int} [ht : SliceTy P t e] [he : CellTy P e z bytes]
    (hw : Wants ⟨some d, .buildSlice t 2 #[(0, x), (1, y)], ty, pos, after, g⟩ ops n f) (hd : Nat.ble (d + 1) n = true)
    (hx : lk n f x = some (.int .i64 a)) (hy : lk n f y = some (.int .i64 b)) (hB : B ≤ w.heap.size)
    (k : ∀ v w', OI w' B e v [a, b] → SV v 2 → w.grownBy w' none → v.ownBlock = some w.heap.size → WL P ops Q rest n (.upd f d v) w') :
    WL P ops Q (⟨some d, .buildSlice t 2 #[(0, x), (1, y)], ty, pos, after, g⟩ :: rest) n f w := s_buildI [a, b] hw hd (by simp [lk_evo hx, lk_evo hy, List.range'_succ]) rfl rfl hB k
theorem s_build0 {B : Nat} {t e : TypeId} {z : Value} {bytes : Nat} [ht : SliceTy P t e] [he : CellTy P e z bytes]
    (hw : Wants ⟨some d, .buildSlice t 0 #[], ty, pos, after, g⟩ ops n f) (hd : Nat.ble (d + 1) n = true) (hB : B ≤ w.heap.size)
    (k : ∀ v w', OI w' B e v [] → SV v 0 → w.grownBy w' none → v.ownBlock = some w.heap.size → WL P ops Q rest n (.upd f d v) w') :
    WL P ops Q (⟨some d, .buildSlice t 0 #[], ty, pos, after, g⟩ :: rest) n f w := s_buildI [] hw hd (by simp) rfl rfl hB k
end steps
end Go.Mem
