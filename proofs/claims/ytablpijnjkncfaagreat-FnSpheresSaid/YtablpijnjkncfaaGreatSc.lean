/- Sources of drawn numbers: a struct of three fields behind a pointer (the code, a place, a hash). -/
import Derived.Test.YtablpijnjkncfaaGreatMn
import Derived.Test.YtablpijnjkncfaaGreatWC
namespace Go.Mem
open Go.RowKit
set_option linter.unusedVariables false
class SrcTy (P : Program) (t : TypeId) : Prop where
  f0 : ∀ (g : Nat) w, (Instr.fieldAt t (.pointer (some ⟨g, 0, none⟩)) 0).run P w = .ok (.pointer (some ⟨g, 0, none⟩)) w
  f1 : ∀ (g : Nat) w, (Instr.fieldAt t (.pointer (some ⟨g, 0, none⟩)) 1).run P w = .ok (.pointer (some ⟨g, 1, none⟩)) w
  f2 : ∀ (g : Nat) w, (Instr.fieldAt t (.pointer (some ⟨g, 0, none⟩)) 2).run P w = .ok (.pointer (some ⟨g, 2, none⟩)) w
  bld : ∀ (a : Option Addr) (l c : Nat) (h : Int) w, (Instr.build t #[(0, .slice a l c), (2, .int .u64 h)]).run P w = .ok (.agg #[.slice a l c, .int .i64 0, .int .u64 h]) w
/-- a list of bytes -/
structure CL (w : World) (v : Value) (bs : List Int) : Prop where
  rd : Rd w v (bs.map (.int .u8))
  rng : ∀ b ∈ bs, 0 ≤ b ∧ b ≤ 255
/-- the source in the block g, of the code c -/
structure Sr (w : World) (B g : Nat) (T : TypeId) (c : Value) (bs : List Int) : Prop where
  low : B ≤ g
  row : ∃ (a h : Int), w.heap[g]? = some (.cells #[c, .int .i64 a, .int .u64 h] T (0, 0)) ∧ (0 ≤ a ∧ a ≤ bs.length) ∧ (0 ≤ h ∧ h < 18446744073709551616)
  cl : CL w c bs
  apart : bs = [] ∨ ∀ k, c.ownBlock = some k → k < B
section
variable {w w' : World} {B g : Nat} {T : TypeId} {c v : Value} {bs : List Int}
theorem CL.sv (h : CL w v bs) : SV v bs.length := by simpa using h.rd.sv
theorem CL.at (h : CL w v bs) {i : Int} (h0 : 0 ≤ i) (hi : i < bs.length) : w.cell? (addrOf v i.toNat) = some (.int .u8 (gi bs i)) ∧ 0 ≤ gi bs i ∧ gi bs i ≤ 255 := by
  refine ⟨h.rd.cell (get_map (.int .u8) bs 0 h0 hi), h.rng _ (gi_mem h0 hi)⟩
theorem CL.nil_any (h : CL w v []) : CL w' v [] := by
  obtain ⟨a, cap, rfl, h1, h2, h3⟩ := h.rd
  exact ⟨⟨a, cap, rfl, h1, h2, fun i u hu => by simp at hu⟩, h.rng⟩
theorem CL.kept {row : Option Nat} (h : CL w v bs) (hg : w.grownBy w' row) (hne : bs = [] ∨ v.ownBlock = none ∨ v.ownBlock ≠ row) : CL w' v bs := by
  rcases hne with rfl | hne
  · exact h.nil_any
  · exact ⟨h.rd.kept hg hne, h.rng⟩
theorem CL.below (h : CL w v bs) (hb : Below w.heap.size w w') : CL w' v bs := h.kept (grownBy_of_below hb none) (by
  cases v.ownBlock with
  | none => exact .inr (.inl rfl)
  | some g => exact .inr (.inr (by simp)))
theorem Sr.lt (h : Sr w B g T c bs) : g < w.heap.size := by
  obtain ⟨a, h', hr, _⟩ := h.row
  exact (Array.getElem?_eq_some_iff.1 hr).1
theorem Sr.below (h : Sr w B g T c bs) (hb : Below w.heap.size w w') : Sr w' B g T c bs := by
  have hlt := h.lt
  obtain ⟨h1, ⟨a, h', hr, h2, h3⟩, h4, h5⟩ := h
  exact ⟨h1, ⟨a, h', by rw [hb.block _ hlt]; exact hr, h2, h3⟩, h4.below hb, h5⟩
theorem Sr.kept {row : Option Nat} (h : Sr w B g T c bs) (hg : w.grownBy w' row) (hne : ∀ k, row = some k → B ≤ k ∧ k ≠ g) : Sr w' B g T c bs := by
  have hlt := h.lt
  obtain ⟨h1, ⟨a, h', hr, h2, h3⟩, h4, h5⟩ := h
  refine ⟨h1, ⟨a, h', by rw [hg.block _ hlt (fun e => (hne _ e.symm).2 rfl)]; exact hr, h2, h3⟩, h4.kept hg ?_, h5⟩
  rcases h5 with h5 | h5
  · exact .inl h5
  · refine .inr ?_
    cases hc : c.ownBlock with
    | none => exact .inl rfl
    | some k => refine .inr fun e => ?_; have := h5 k hc; have := (hne k e.symm).1; omega
/-- a cell of the source is written -/
theorem Sr.set (h : Sr w B g T c bs) {a' h' : Int} (hr : w'.heap[g]? = some (.cells #[c, .int .i64 a', .int .u64 h'] T (0, 0))) (ha : 0 ≤ a' ∧ a' ≤ bs.length) (hh : 0 ≤ h' ∧ h' < 18446744073709551616) (hg : w.grownBy w' (some g)) : Sr w' B g T c bs := by
  obtain ⟨h1, _, h4, h5⟩ := h
  refine ⟨h1, ⟨a', h', hr, ha, hh⟩, h4.kept hg ?_, h5⟩
  rcases h5 with h5 | h5
  · exact .inl h5
  · refine .inr ?_
    cases hc : c.ownBlock with
    | none => exact .inl rfl
    | some k => refine .inr fun e => ?_; have := h5 k hc; have e2 : k = g := Option.some.inj e; omega
theorem gr_below (h : w.grownBy w' (some g)) (hB : B ≤ w.heap.size) (hg : B ≤ g) : Below B w w' := grownBy_below h hB (fun k hk => by cases hk; exact hg)
theorem gr_step {w0 : World} {row : Option Nat} (h : w0.grownBy w (some g)) (hg : w.grownBy w' row) (hr : ∀ k, row = some k → w0.heap.size ≤ k) : w0.grownBy w' (some g) :=
  ⟨hg.os.trans h.os, hg.tape.trans h.tape, hg.output.trans h.output, Nat.le_trans h.size hg.size, fun i hi hne => (hg.block i (Nat.lt_of_lt_of_le hi h.size) (fun e => by have := hr i e.symm; omega)).trans (h.block i hi hne)⟩
end
section
variable {P : Program} {ops : Array Oper} {Q : Exit → Fm → World → Prop} {n : Nat} {f : Fm} {w w0 : World} {dst : Option Tmp} {rest : List Oper} {ty : TypeId} {pos : String} {after : Array Edge} {g : Option (Nat × Bool)} {d : Nat}
theorem y_sf0 {x : Operand} {t : TypeId} {q : Nat} [h : SrcTy P t] (hx : lk n f x = some (.pointer (some ⟨q, 0, none⟩))) : Yld P (evo n f) ⟨dst, .fieldAddr t x 0, ty, pos, after, g⟩ w (.pointer (some ⟨q, 0, none⟩)) := by
  replace hx := lk_evo hx
  constructor; simp [execOp, hx, h.f0]
theorem y_sf1 {x : Operand} {t : TypeId} {q : Nat} [h : SrcTy P t] (hx : lk n f x = some (.pointer (some ⟨q, 0, none⟩))) : Yld P (evo n f) ⟨dst, .fieldAddr t x 1, ty, pos, after, g⟩ w (.pointer (some ⟨q, 1, none⟩)) := by
  replace hx := lk_evo hx
  constructor; simp [execOp, hx, h.f1]
theorem y_sf2 {x : Operand} {t : TypeId} {q : Nat} [h : SrcTy P t] (hx : lk n f x = some (.pointer (some ⟨q, 0, none⟩))) : Yld P (evo n f) ⟨dst, .fieldAddr t x 2, ty, pos, after, g⟩ w (.pointer (some ⟨q, 2, none⟩)) := by
  replace hx := lk_evo hx
  constructor; simp [execOp, hx, h.f2]
theorem y_bldS {x y : Operand} {t : TypeId} {a : Option Addr} {l cp : Nat} {h' : Int} [h : SrcTy P t] (hx : lk n f x = some (.slice a l cp)) (hy : lk n f y = some (.int .u64 h')) :
    Yld P (evo n f) ⟨dst, .build t #[(0, x), (2, y)], ty, pos, after, g⟩ w (.agg #[.slice a l cp, .int .i64 0, .int .u64 h']) := by
  replace hx := lk_evo hx
  replace hy := lk_evo hy
  constructor; simp [execOp, hx, hy, h.bld]
theorem y_mulW {x y : Operand} {a b : Int} {tx ty' : TypeId} (hx : lk n f x = some (.int .u64 a)) (hy : lk n f y = some (.int .u64 b)) :
    Yld P (evo n f) ⟨dst, .binOp .mul tx x y ty', ty, pos, after, g⟩ w (.int .u64 (a * b % 18446744073709551616)) := by
  replace hx := lk_evo hx
  replace hy := lk_evo hy
  constructor; simp [execOp, hx, hy, eqGuard, binOp, Op.intArith, IntKind.wrap_u64]
theorem y_addW {x y : Operand} {a b : Int} {tx ty' : TypeId} (hx : lk n f x = some (.int .u64 a)) (hy : lk n f y = some (.int .u64 b)) :
    Yld P (evo n f) ⟨dst, .binOp .add tx x y ty', ty, pos, after, g⟩ w (.int .u64 ((a + b) % 18446744073709551616)) := by
  replace hx := lk_evo hx
  replace hy := lk_evo hy
  constructor; simp [execOp, hx, hy, eqGuard, binOp, Op.intArith, IntKind.wrap_u64]
theorem y_shr33 {x : Operand} {a : Int} {tx ty' : TypeId} (hx : lk n f x = some (.int .u64 a)) (h : 0 ≤ a) :
    Yld P (evo n f) ⟨dst, .binOp .shr tx x (.const (.int .u64 33)) ty', ty, pos, after, g⟩ w (.int .u64 (a / 8589934592)) := by
  replace hx := lk_evo hx
  constructor
  have e : a.fdiv 8589934592 = a / 8589934592 := Int.fdiv_eq_ediv_of_nonneg _ (by omega)
  have hb : min 33 IntKind.u64.bits = 33 := by decide
  have hc : evo n f (.const (.int .u64 33)) = .int .u64 33 := rfl
  simp [execOp, hx, hc, eqGuard, binOp, Op.shift, hb, e]
theorem y_and24 {x : Operand} {a : Int} {tx ty' : TypeId} (hx : lk n f x = some (.int .u64 a)) (h : 0 ≤ a ∧ a < 18446744073709551616) :
    Yld P (evo n f) ⟨dst, .binOp .and tx x (.const (.int .u64 16777215)) ty', ty, pos, after, g⟩ w (.int .u64 (a % 16777216)) := by
  replace hx := lk_evo hx
  constructor
  obtain ⟨m, rfl⟩ : ∃ m : Nat, a = m := ⟨a.toNat, by omega⟩
  have hm : m < 18446744073709551616 := by omega
  have e : (BitVec.ofInt 64 (m : Int) &&& BitVec.ofInt 64 16777215).toNat = m % 16777216 := by
    rw [BitVec.toNat_and]
    have h1 : (BitVec.ofInt 64 (m : Int)).toNat = m := by rw [BitVec.toNat_ofInt]; omega
    have h2 : (BitVec.ofInt 64 16777215).toNat = 2 ^ 24 - 1 := by decide
    rw [h1, h2, Nat.and_two_pow_sub_one_eq_mod]
  have e2 := wrap_small (k := .u64) (a := ((m % 16777216 : Nat) : Int)) (.inr rfl) (by omega)
  have e' : IntKind.u64.wrap ((BitVec.ofInt IntKind.u64.bits (m : Int) &&& BitVec.ofInt IntKind.u64.bits 16777215).toNat : Int) = (m : Int) % 16777216 := by
    show IntKind.u64.wrap ((BitVec.ofInt 64 (m : Int) &&& BitVec.ofInt 64 16777215).toNat : Int) = (m : Int) % 16777216
    rw [e, e2, Int.natCast_emod]; rfl
  have hc : evo n f (.const (.int .u64 16777215)) = .int .u64 16777215 := rfl
  simp [execOp, hx, hc, eqGuard, binOp, Op.intBits, -BitVec.toNat_and]
  simpa [-BitVec.toNat_and] using e'
/-- a struct of three cells is boxed -/
theorem s_box3 {x : Operand} {e : TypeId} {a : Option Addr} {l cp : Nat} {i h' : Int}
    (hw : Wants ⟨some d, .box e x, ty, pos, after, g⟩ ops n f) (hd : Nat.ble (d + 1) n = true)
    (hx : lk n f x = some (.agg #[.slice a l cp, .int .i64 i, .int .u64 h']))
    (k : ∀ w' q, q = w.heap.size → w'.heap[q]? = some (.cells #[.slice a l cp, .int .i64 i, .int .u64 h'] e (0, 0)) → w.grownBy w' none → WL P ops Q rest n (.upd f d (.pointer (some ⟨q, 0, none⟩))) w') :
    WL P ops Q (⟨some d, .box e x, ty, pos, after, g⟩ :: rest) n f w := by
  replace hx := lk_evo hx
  refine s_val hw hd (v := .pointer (some ⟨w.heap.size, 0, none⟩)) (w' := w.alloc (.cells #[.slice a l cp, .int .i64 i, .int .u64 h'] e)) ?_ (k (w.alloc (.cells #[.slice a l cp, .int .i64 i, .int .u64 h'] e)) w.heap.size rfl (heap_alloc_new w _) (World.grownBy_alloc w _ none))
  have hc : (Value.agg #[.slice a l cp, .int .i64 i, .int .u64 h']).cells = #[.slice a l cp, .int .i64 i, .int .u64 h'] := rfl
  simp [execOp, Instr.box, newVar, newRow, hx, hc]
/-- the hash is written -/
theorem s_setH {B q : Nat} {e : TypeId} {z : Value} {bytes : Nat} [he : CellTy P e z bytes] {x y : Operand} {T : TypeId} {c : Value} {bs : List Int} {h' : Int}
    (hw : Wants ⟨none, .store e x y, ty, pos, after, g⟩ ops n f)
    (hx : lk n f x = some (.pointer (some ⟨q, 2, none⟩))) (hy : lk n f y = some (.int .u64 h')) (hv : Sr w B q T c bs) (hh : 0 ≤ h' ∧ h' < 18446744073709551616)
    (k : ∀ w', Sr w' B q T c bs → w.grownBy w' (some q) → WL P ops Q rest n f w') :
    WL P ops Q (⟨none, .store e x y, ty, pos, after, g⟩ :: rest) n f w := by
  replace hx := lk_evo hx
  replace hy := lk_evo hy
  obtain ⟨a, h0, hr, ha, _⟩ := hv.row
  have hf : w.frozen? ⟨q, 2, none⟩ = false := frozen?_in_block hr
  have hc : w.cell? ⟨q, 2, none⟩ = some (.int .u64 h0) := by simp [World.cell?, hr]
  have hst := storeVar_run (P := P) (e := e) (u := .int .u64 h') rfl hc hf
  have hg : w.grownBy (w.setCell ⟨q, 2, none⟩ (.int .u64 h')) (some q) := ⟨rfl, rfl, rfl, by simp, fun k _ hk => Below.heap_setCell _ _ _ _ (fun e => hk (by rw [e]))⟩
  refine s_unit hw (w' := w.setCell ⟨q, 2, none⟩ (.int .u64 h')) ?_ (k _ (hv.set (a' := a) (h' := h') ?_ ha hh hg) hg)
  · simp [execOp, Instr.storeAt, Instr.sureAddr, hx, hy, hst]
  · simp [World.setCell, Array.getElem?_modify, hr]
/-- the place is written -/
theorem s_setA {B q : Nat} {e : TypeId} {z : Value} {bytes : Nat} [he : CellTy P e z bytes] {x y : Operand} {T : TypeId} {c : Value} {bs : List Int} {a' : Int}
    (hw : Wants ⟨none, .store e x y, ty, pos, after, g⟩ ops n f)
    (hx : lk n f x = some (.pointer (some ⟨q, 1, none⟩))) (hy : lk n f y = some (.int .i64 a')) (hv : Sr w B q T c bs) (ha : 0 ≤ a' ∧ a' ≤ bs.length)
    (k : ∀ w', Sr w' B q T c bs → w.grownBy w' (some q) → WL P ops Q rest n f w') :
    WL P ops Q (⟨none, .store e x y, ty, pos, after, g⟩ :: rest) n f w := by
  replace hx := lk_evo hx
  replace hy := lk_evo hy
  obtain ⟨a, h0, hr, _, hh⟩ := hv.row
  have hf : w.frozen? ⟨q, 1, none⟩ = false := frozen?_in_block hr
  have hc : w.cell? ⟨q, 1, none⟩ = some (.int .i64 a) := by simp [World.cell?, hr]
  have hst := storeVar_run (P := P) (e := e) (u := .int .i64 a') rfl hc hf
  have hg : w.grownBy (w.setCell ⟨q, 1, none⟩ (.int .i64 a')) (some q) := ⟨rfl, rfl, rfl, by simp, fun k _ hk => Below.heap_setCell _ _ _ _ (fun e => hk (by rw [e]))⟩
  refine s_unit hw (w' := w.setCell ⟨q, 1, none⟩ (.int .i64 a')) ?_ (k _ (hv.set (a' := a') (h' := h0) ?_ ha hh hg) hg)
  · simp [execOp, Instr.storeAt, Instr.sureAddr, hx, hy, hst]
  · simp [World.setCell, Array.getElem?_modify, hr]
/-- what a source's cells hold -/
theorem Sr.cells {w : World} {B q : Nat} {T : TypeId} {c : Value} {bs : List Int} (h : Sr w B q T c bs) : ∃ a h' : Int, w.cell? ⟨q, 0, none⟩ = some c ∧ w.cell? ⟨q, 1, none⟩ = some (.int .i64 a) ∧ w.cell? ⟨q, 2, none⟩ = some (.int .u64 h') ∧ (0 ≤ a ∧ a ≤ bs.length) ∧ (0 ≤ h' ∧ h' < 18446744073709551616) := by
  obtain ⟨a, h0, hr, ha, hh⟩ := h.row
  exact ⟨a, h0, by simp [World.cell?, hr], by simp [World.cell?, hr], by simp [World.cell?, hr], ha, hh⟩
/-- an operation that looks only; with sources -/
theorem yl2 {ρ : Operand → Value} {o : Oper} {v : Value} (h : Yld P ρ o w v := by first | exact yl | exact y_sf0 rfl | exact y_sf1 rfl | exact y_sf2 rfl | exact y_mulW rfl rfl | exact y_addW rfl rfl | exact y_shr33 rfl (by omega) | exact y_and24 rfl (by omega) | exact y_bldS rfl rfl) : Yld P ρ o w v := h
theorem qyl2 {ρ : Operand → Value} {o : Oper} {v : Value} (h : ∀ w, Below w0.heap.size w0 w → Yld P ρ o w v := by first | exact qyl | (intro w' hb; first | exact y_sf0 rfl | exact y_sf1 rfl | exact y_sf2 rfl | exact y_mulW rfl rfl | exact y_addW rfl rfl | exact y_bldS rfl rfl | exact y_conv rfl (by first | exact .inl rfl | exact .inr rfl) (by constructor <;> omega))) : ∀ w, Below w0.heap.size w0 w → Yld P ρ o w v := h
/-- GO, with sources -/
theorem go2 {G G' : Prop} (k : G') (h : Kp G' → G := by intro kk; (repeat (first | ((with_reducible show WL _ _ _ _ _ _ _); first | with_reducible refine w_nil ?_ | refine s_p (wn rfl) rfl yl2 ?_ | refine s_p (wy rfl rfl rfl rfl rfl known) rfl yl2 ?_ | refine s_no (wx rfl rfl rfl rfl rfl known) rfl ?_) | with_reducible refine then_normal ?_ | with_reducible refine w_seq ?_ | with_reducible refine w_region ?_ | ((with_reducible show WC _ (.cond _ _ _) _ _ _ _); first | refine cond_true rfl known ?_ | refine cond_false rfl known ?_) | with_reducible refine block_normal ?_ | with_reducible refine w_block ?_ | with_reducible refine then_exit ?_ | with_reducible refine block_same ?_ | with_reducible refine block_other (by with_unfolding_all rfl) ?_ | with_reducible refine then_ret ?_ | with_reducible refine block_ret ?_ | with_reducible refine w_ret ?_ | with_reducible refine w_skip ?_ | with_reducible refine w_exit ?_)); exact kk.out) : G := h ⟨k⟩
theorem qo2 {G G' : Prop} (k : G') (h : Kp G' → G := by intro kk; (repeat (first | refine q_p (wn rfl) rfl qyl2 ?_ | refine q_p (wy rfl rfl rfl rfl rfl known) rfl qyl2 ?_ | refine q_no (wx rfl rfl rfl rfl rfl known) rfl ?_)); exact kk.out) : G := h ⟨k⟩
theorem h_p2 {S : World → Prop} {fuel : Nat} {listed : Array Bool} (i : Nat) {d : Nat} {op : Op} {ty : TypeId} {pos : String} {after : Array Edge} {g : Option (Nat × Bool)} {v : Value}
    (hb : S w)
    (k : WH P ops S Q fuel (listed.setIfInBounds i true) n (.upd f d v) w)
    (hi : ops[i]? = some ⟨some d, op, ty, pos, after, g⟩ := by rfl) (hs : Region.noSelect ops = true := by kernel_rfl)
    (hf : Region.free .any ops listed i = true := by kernel_rfl) (hr : (Region.ready .any ops listed).contains i = true := by kernel_rfl)
    (hw : Wants ⟨some d, op, ty, pos, after, g⟩ ops n f := by first | exact wn rfl | exact wy rfl rfl rfl rfl rfl known)
    (hd : Nat.ble (d + 1) n = true := by rfl)
    (hrun : ∀ w, S w → Yld P (evo n f) ⟨some d, op, ty, pos, after, g⟩ w v := by exact qyl2) : WH P ops S Q (fuel + 1) listed n f w := h_p i hb k hi hs hf hr hw hd hrun
end
end Go.Mem
namespace Go.Proofs.YtablpijnjkncfaaGreat
open Go.Mem
instance : SrcTy Tryz.prog 94 := ⟨fun _ _ => by kernel_rfl, fun _ _ => by kernel_rfl, fun _ _ => by kernel_rfl, fun _ _ _ _ _ => by kernel_rfl⟩
end Go.Proofs.YtablpijnjkncfaaGreat
