/- The walk's own words: rows that lie apart from their list; lists of rows laid together. Over any program. -/
import Derived.Test.YtkknhcpjiehgiaaDoorWC
import Derived.Test.YtkknhcpjiehgiaaDoorWB
namespace Go.Mem
open Go.RowKit
set_option linter.unusedVariables false
theorem Own.sv {w : World} {B : Nat} {T : TypeId} {v : Value} {vs : List Value} (h : Own w B T v vs) : SV v vs.length := h.rd.sv
theorem cell_kept {w w' : World} {a : Addr} {u : Value} {row : Option Nat} (h : w.cell? a = some u) (hg : w.grownBy w' row) (hne : some a.block ≠ row) : w'.cell? a = some u := by
  rw [World.cell?_of_block (w := w) (hg.block _ (World.block_lt_of_cell? w a h) hne)]; exact h
section
variable {w w' : World} {B B2 B3 E E2 E3 : Nat} {T U : TypeId} {v u : Value} {vs us : List Value} {xss yss : List (List Int)} {xs : List Int}
theorem Rws.one' (h : OI w B U u xs) (hE : ∀ g, u.ownBlock = some g → g < E) : Rws w B E U [u] [xs] := by
  refine ⟨fun a ha => by simp at ha; subst ha; exact h.sv.one, rfl, fun i a ys ha hy => ?_, fun i a ha g hg => ?_, fun i j a b hij ha hb => ?_⟩
  · match i, ha, hy with
    | 0, ha, hy => simp at ha hy; subst ha hy; exact h
    | i + 1, ha, hy => simp at ha
  · match i, ha with
    | 0, ha => simp at ha; subst ha; exact hE g hg
    | i + 1, ha => simp at ha
  · have := (List.getElem?_eq_some_iff.1 hb).1
    simp at this; omega
theorem Rws.mono' (h : Rws w B E U vs xss) (hB : B2 ≤ B) (hE : E ≤ E2) : Rws w B2 E2 U vs xss :=
  ⟨h.one, h.len, fun i a ys ha hy => (h.row i a ys ha hy).mono hB, fun i a ha g hg => Nat.lt_of_lt_of_le (h.lt i a ha g hg) hE, h.apart⟩
theorem Rws.turn' {r : Value} {ws : List Value} {B4 : Nat} (h : Rws w B E U vs xss) (ho : Own w B4 T r ws) (hT : T ≠ U) (hg : w.grownBy w' r.ownBlock) : Rws w' B E U vs xss :=
  ⟨h.one, h.len, fun i u xs hu hx => (h.row i u xs hu hx).kept hg ((h.row i u xs hu hx).own.apart_type ho (fun e => hT e.symm)), h.lt, h.apart⟩
theorem Rws.nil' : Rws w B E U [] [] := ⟨by simp, rfl, by simp, by simp, by simp⟩
theorem Rws.blk (h : Rws w B E U vs xss) {i : Nat} {a : Value} (ha : vs[i]? = some a) : ∀ g, a.ownBlock = some g → B ≤ g ∧ g < E := fun g hg => by
  have hi := (List.getElem?_eq_some_iff.1 ha).1
  have hx : i < xss.length := by rw [← h.len]; exact hi
  exact ⟨((h.row i a (xss[i]'hx) ha (by simp [hx])).lt g hg).1, h.lt i a ha g hg⟩
theorem Rws.app (h : Rws w B E U vs xss) (k : Rws w B2 E2 U us yss) (hd : E ≤ B2 ∨ E2 ≤ B) (h1 : B3 ≤ B) (h2 : B3 ≤ B2) (h3 : E ≤ E3) (h4 : E2 ≤ E3) : Rws w B3 E3 U (vs ++ us) (xss ++ yss) := by
  have hl := h.len
  refine ⟨fun a ha => ?_, by simp [hl, k.len], fun i a ys ha hy => ?_, fun i a ha g hg => ?_, fun i j a b hij ha hb => ?_⟩
  · rcases List.mem_append.1 ha with ha | ha
    · exact h.one a ha
    · exact k.one a ha
  · rw [List.getElem?_append] at ha hy
    rw [hl] at ha
    split at ha
    · rename_i hi; rw [if_pos hi] at hy; exact (h.row i a ys ha hy).mono h1
    · rename_i hi; rw [if_neg hi] at hy; exact (k.row _ a ys ha hy).mono h2
  · rw [List.getElem?_append] at ha
    split at ha
    · exact Nat.lt_of_lt_of_le (h.lt i a ha g hg) h3
    · exact Nat.lt_of_lt_of_le (k.lt _ a ha g hg) h4
  · rw [List.getElem?_append] at ha hb
    split at ha
    · split at hb
      · exact h.apart i j a b hij ha hb
      · cases e1 : a.ownBlock with
        | none => exact .inl rfl
        | some g =>
          refine .inr fun e2 => ?_
          have l1 := h.blk ha g e1
          have l2 := k.blk hb g e2.symm
          omega
    · split at hb
      · omega
      · exact k.apart _ _ a b (by omega) ha hb
/-- an owned list (from B on) of owned rows, which lie between B2 and E -/
structure OM2 (w : World) (B B2 E : Nat) (T U : TypeId) (v : Value) (xss : List (List Int)) : Prop where
  out : ∃ vs, Own w B T v vs ∧ Rws w B2 E U vs xss
theorem OM2.start (h : Own w B T v []) : OM2 w B B2 E T U v [] := ⟨⟨_, h, Rws.nil'⟩⟩
theorem OM2.sv (h : OM2 w B B2 E T U v xss) : SV v xss.length := by
  obtain ⟨vs, h1, h2⟩ := h.out
  rw [← h2.len]; exact h1.sv
theorem OM2.below (h : OM2 w B B2 E T U v xss) (hb : Below w.heap.size w w') : OM2 w' B B2 E T U v xss := by
  obtain ⟨vs, h1, h2⟩ := h.out
  exact ⟨⟨vs, h1.below hb, h2.below hb⟩⟩
theorem OM2.below_of (h : OM2 w B B2 E T U v xss) (hg : w.grownBy w' v.ownBlock) (hB : B ≤ w.heap.size) : Below B w w' := by
  obtain ⟨vs, h1, h2⟩ := h.out
  exact grownBy_below hg hB (fun k hk => (h1.lt k hk).1)
theorem OM2.top (h : OM2 w B B2 E T U v xss) : OM2 w B B2 w.heap.size T U v xss := by
  obtain ⟨vs, h1, h2⟩ := h.out
  refine ⟨⟨vs, h1, h2.one, h2.len, h2.row, fun i a ha g hg => ?_, h2.apart⟩⟩
  have hi := (List.getElem?_eq_some_iff.1 ha).1
  have hx : i < xss.length := by rw [← h2.len]; exact hi
  exact ((h2.row i a (xss[i]'hx) ha (by simp [hx])).lt g hg).2
theorem OM2.wide (h : OM2 w B B2 E T U v xss) (hE : E ≤ E2) : OM2 w B B2 E2 T U v xss := by
  obtain ⟨vs, h1, h2⟩ := h.out
  exact ⟨⟨vs, h1, h2.mono' (Nat.le_refl _) hE⟩⟩
theorem OI.apart_OM2 {B' : Nat} (h : OI w B' U u xs) (k : OM2 w B B2 E T U v xss) (hT : T ≠ U) : u.ownBlock = none ∨ u.ownBlock ≠ v.ownBlock := by
  obtain ⟨vs, h1, h2⟩ := k.out
  exact h.own.apart_type h1 (fun e => hT e.symm)
theorem OI.apart_Own {B' : Nat} (h : OI w B' U u xs) (k : Own w B T v vs) (hT : T ≠ U) : u.ownBlock = none ∨ u.ownBlock ≠ v.ownBlock := h.own.apart_type k (fun e => hT e.symm)
theorem OM2.rl (h : OM2 w B B2 E T U v xss) : RL w v xss := by
  obtain ⟨vs, h1, h2⟩ := h.out
  exact ⟨vs, h1.rd, h2.len, fun i a ys ha hy => (h2.row i a ys ha hy).il⟩
theorem OM2.om (h : OM2 w B B2 E T U v xss) (hB : B ≤ B2) : OM w B E T U v xss := by
  obtain ⟨vs, h1, h2⟩ := h.out
  exact (h2.mono' hB (Nat.le_refl _)).om h1
end
section
variable {P : Program} {ops : Array Oper} {Q : Exit → Fm → World → Prop} {n : Nat} {f : Fm} {w : World} {dst : Option Tmp} {rest : List Oper} {ty : TypeId} {pos : String} {after : Array Edge} {g : Option (Nat × Bool)} {d : Nat}
/-- append(v, u), u a new row; the rows lie apart from the list -/
theorem s_appendQ {B B2 E : Nat} {t e U : TypeId} {z : Value} {bytes : Nat} [ht : SliceTy P t e] [he : CellTy P e z bytes] {x y : Operand} {v sv u : Value} {xss : List (List Int)} {xs : List Int}
    (hw : Wants ⟨some d, .call ⟨.builtin .append, #[x, y], #[t, t]⟩, ty, pos, after, g⟩ ops n f) (hd : Nat.ble (d + 1) n = true)
    (hx : lk n f x = some v) (hy : lk n f y = some sv) (hv : OM2 w B B2 E e U v xss) (hs : Rd w sv [u]) (hu : OI w E U u xs) (hBE : B2 ≤ E) (hT : e ≠ U) (hlen : xss.length + 1 ≤ 1000000000000) (hB : B ≤ w.heap.size)
    (k : ∀ v' w', OM2 w' B B2 w'.heap.size e U v' (xss ++ [xs]) → SV v' (xss.length + 1) → w.grownBy w' v.ownBlock → WL P ops Q rest n (.upd f d v') w') :
    WL P ops Q (⟨some d, .call ⟨.builtin .append, #[x, y], #[t, t]⟩, ty, pos, after, g⟩ :: rest) n f w := by
  obtain ⟨vs, h1, h2⟩ := hv.out
  refine s_append hw hd hx hy h1 hs (by intro a ha; simp at ha; subst ha; exact hu.sv.one) (by have := h2.len; simp; omega) hB fun v' w' ho hg hb => ?_
  have hsz := hg.size
  have hu' := hu.kept hg (hu.own.apart_type h1 (fun e => hT e.symm))
  have hr := (h2.turn' h1 hT hg).app (Rws.one' (E := w'.heap.size) hu' (fun g hg => (hu'.lt g hg).2)) (B3 := B2) (E3 := max E w'.heap.size) (.inl (Nat.le_refl _)) (Nat.le_refl _) hBE (Nat.le_max_left _ _) (Nat.le_max_right _ _)
  have hO : OM2 w' B B2 (max E w'.heap.size) e U v' (xss ++ [xs]) := ⟨⟨_, ho, hr⟩⟩
  exact k v' w' hO.top (by have := ho.sv; simpa [h2.len] using this) hg
/-- append(v, sv...), both lists of owned rows -/
theorem s_appendRR {B B1 B2 B3 E1 E2 : Nat} {t e U : TypeId} {z : Value} {bytes : Nat} [ht : SliceTy P t e] [he : CellTy P e z bytes] {x y : Operand} {v sv : Value} {vs us : List Value} {xss yss : List (List Int)}
    (hw : Wants ⟨some d, .call ⟨.builtin .append, #[x, y], #[t, t]⟩, ty, pos, after, g⟩ ops n f) (hd : Nat.ble (d + 1) n = true)
    (hx : lk n f x = some v) (hy : lk n f y = some sv) (hv : Own w B e v vs) (h1 : Rws w B1 E1 U vs xss) (hs : Rd w sv us) (h2 : Rws w B2 E2 U us yss) (hdis : E1 ≤ B2 ∨ E2 ≤ B1)
    (hB1 : B3 ≤ B1) (hB2 : B3 ≤ B2) (hB3 : B3 ≤ B) (hT : e ≠ U) (hlen : xss.length + yss.length ≤ 1000000000000) (hB : B ≤ w.heap.size)
    (k : ∀ v' w', OM w' B3 w'.heap.size e U v' (xss ++ yss) → SV v' (xss.length + yss.length) → w.grownBy w' v.ownBlock → WL P ops Q rest n (.upd f d v') w') :
    WL P ops Q (⟨some d, .call ⟨.builtin .append, #[x, y], #[t, t]⟩, ty, pos, after, g⟩ :: rest) n f w := by
  have l1 := h1.len
  have l2 := h2.len
  refine s_append hw hd hx hy hv hs h2.one (by omega) hB fun v' w' ho hg hb => ?_
  have hr := (h1.turn' hv hT hg).app (h2.turn' hv hT hg) (B3 := B3) (E3 := max E1 E2) hdis hB1 hB2 (Nat.le_max_left _ _) (Nat.le_max_right _ _)
  exact k v' w' (hr.om (ho.mono hB3)).top (by have := ho.sv; simpa [l1, l2] using this) hg
theorem xor_one (m : Nat) : (m ^^^ 1 : Nat) = if m % 2 = 0 then m + 1 else m - 1 := by
  have h1 : (m ^^^ 1) % 2 = 1 ↔ ¬ (m % 2 = 1 ↔ 1 % 2 = 1) := Nat.xor_mod_two_eq_one
  have h2 : (m ^^^ 1) / 2 = m / 2 := by rw [Nat.xor_div_two]; simp
  split <;> omega
theorem y_xor1 {x : Operand} {a : Int} {tx ty' : TypeId} (hx : lk n f x = some (.int .i64 a)) (h : 0 ≤ a ∧ a < 4294967296) :
    Yld P (evo n f) ⟨dst, .binOp .xor tx x (.const (.int .i64 1)) ty', ty, pos, after, g⟩ w (.int .i64 (if a % 2 = 0 then a + 1 else a - 1)) := by
  replace hx := lk_evo hx
  constructor
  obtain ⟨m, rfl⟩ : ∃ m : Nat, a = m := ⟨a.toNat, by omega⟩
  have hm : m < 4294967296 := by omega
  have e : (BitVec.ofInt 64 (m : Int) ^^^ BitVec.ofInt 64 1).toNat = m ^^^ 1 := by
    rw [BitVec.toNat_xor]
    have h1 : (BitVec.ofInt 64 (m : Int)).toNat = m := by rw [BitVec.toNat_ofInt]; omega
    have h2 : (BitVec.ofInt 64 1).toNat = 1 := by decide
    rw [h1, h2]
  have hx1 := xor_one m
  have hv : ((m ^^^ 1 : Nat) : Int) = if (m : Int) % 2 = 0 then (m : Int) + 1 else (m : Int) - 1 := by
    rw [hx1]; split <;> split <;> omega
  have e2 := wrap_small (k := .i64) (a := ((m ^^^ 1 : Nat) : Int)) (.inl rfl) (by rw [hv]; split <;> omega)
  have e' : IntKind.i64.wrap ((BitVec.ofInt IntKind.i64.bits (m : Int) ^^^ BitVec.ofInt IntKind.i64.bits 1).toNat : Int) = if (m : Int) % 2 = 0 then (m : Int) + 1 else (m : Int) - 1 := by
    show IntKind.i64.wrap ((BitVec.ofInt 64 (m : Int) ^^^ BitVec.ofInt 64 1).toNat : Int) = _
    rw [e, e2, hv]
  have hc : evo n f (.const (.int .i64 1)) = .int .i64 1 := rfl
  simp [execOp, hx, hc, eqGuard, binOp, Op.intBits, -BitVec.toNat_xor]
  simpa [-BitVec.toNat_xor] using e'
end
end Go.Mem
