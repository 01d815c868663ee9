/- Lists of rows that nobody writes any more; maps keyed by texts; rows of bytes. Over any program. -/
import Derived.Test.YtkknhcpjiehgiaaDoorMp
import Derived.Laws.AppendOwn
import Derived.Laws.IdiomStrings
import Derived.Lib.UnsafeStr
namespace Go.Mem
open Go.RowKit
set_option linter.unusedVariables false
/-- what has been written since w0: one block at most, and what is new -/
theorem gr_join {w0 w w' : World} {row row2 : Option Nat} (h : w0.grownBy w row) (hg : w.grownBy w' row2) (hr : row2 = row ∨ ∀ k, row2 = some k → w0.heap.size ≤ k) : w0.grownBy w' row :=
  ⟨hg.os.trans h.os, hg.tape.trans h.tape, hg.output.trans h.output, Nat.le_trans h.size hg.size, fun i hi hne => (hg.block i (Nat.lt_of_lt_of_le hi h.size) (fun e => by
    rcases hr with hr | hr
    · exact hne (e.trans hr)
    · have := hr i e.symm; omega)).trans (h.block i hi hne)⟩
/-- an owned list; its rows are lists of numbers of their own, wherever they lie, and nobody writes them -/
structure LR (w : World) (B : Nat) (T U : TypeId) (v : Value) (xss : List (List Int)) : Prop where
  out : ∃ vs, Own w B T v vs ∧ vs.length = xss.length ∧ ∀ (i : Nat) u xs, vs[i]? = some u → xss[i]? = some xs → ∃ B', OI w B' U u xs
section
variable {w w' : World} {B : Nat} {T U : TypeId} {v u : Value} {xss : List (List Int)} {xs : List Int}
theorem LR.sv (h : LR w B T U v xss) : SV v xss.length := by
  obtain ⟨vs, h1, h2, _⟩ := h.out
  rw [← h2]; exact h1.sv
theorem LR.rl (h : LR w B T U v xss) : RL w v xss := by
  obtain ⟨vs, h1, h2, h3⟩ := h.out
  exact ⟨vs, h1.rd, h2, fun i a ys ha hy => by obtain ⟨_, h⟩ := h3 i a ys ha hy; exact h.il⟩
theorem LR.lt (h : LR w B T U v xss) : ∀ g, v.ownBlock = some g → B ≤ g ∧ g < w.heap.size := by
  obtain ⟨vs, h1, _⟩ := h.out
  exact h1.lt
theorem LR.mono (h : LR w B T U v xss) {B2 : Nat} (hB : B2 ≤ B) : LR w B2 T U v xss := by
  obtain ⟨vs, h1, h2⟩ := h.out
  exact ⟨vs, h1.mono hB, h2⟩
theorem LR.below (h : LR w B T U v xss) (hb : Below w.heap.size w w') : LR w' B T U v xss := by
  obtain ⟨vs, h1, h2, h3⟩ := h.out
  exact ⟨vs, h1.below hb, h2, fun i a ys ha hy => by obtain ⟨B', h⟩ := h3 i a ys ha hy; exact ⟨B', h.below hb⟩⟩
theorem LR.below_of (h : LR w B T U v xss) (hg : w.grownBy w' v.ownBlock) (hB : B ≤ w.heap.size) : Below B w w' := grownBy_below hg hB (fun k hk => (h.lt k hk).1)
/-- something else has been written -/
theorem LR.turn {row : Option Nat} (h : LR w B T U v xss) (hg : w.grownBy w' row) (hv : v.ownBlock = none ∨ v.ownBlock ≠ row) (hr : ∀ u ys B', OI w B' U u ys → u.ownBlock = none ∨ u.ownBlock ≠ row) : LR w' B T U v xss := by
  obtain ⟨vs, h1, h2, h3⟩ := h.out
  exact ⟨vs, h1.kept hg hv, h2, fun i a ys ha hy => by obtain ⟨B', h⟩ := h3 i a ys ha hy; exact ⟨B', h.kept hg (hr _ _ _ h)⟩⟩
/-- another list has been written -/
theorem LR.other {r : Value} {ws : List (List Int)} {B2 : Nat} (h : LR w B T U v xss) (k : LR w B2 T U r ws) (hT : T ≠ U) (hg : w.grownBy w' r.ownBlock) (hap : v.ownBlock = none ∨ v.ownBlock ≠ r.ownBlock) : LR w' B T U v xss := by
  obtain ⟨vs, k1, _⟩ := k.out
  exact h.turn hg hap fun u ys B' hu => hu.own.apart_type k1 (fun e => hT e.symm)
theorem OI.other {r : Value} {ws : List (List Int)} {B2 B3 : Nat} (h : OI w B3 U u xs) (k : LR w B2 T U r ws) (hT : T ≠ U) (hg : w.grownBy w' r.ownBlock) : OI w' B3 U u xs := by
  obtain ⟨vs, k1, _⟩ := k.out
  exact h.kept hg (h.own.apart_type k1 (fun e => hT e.symm))
theorem LR.map {r : Nat} {kv : List (Value × Value)} {B2 : Nat} (h : LR w B T U v xss) (k : MK w B2 r kv) (hg : w.grownBy w' (some r)) : LR w' B T U v xss :=
  by
    obtain ⟨vs, h1, _⟩ := h.out
    exact h.turn hg (.inr (h1.apart_map k)) fun u ys B' hu => .inr (hu.own.apart_map k)
theorem OI.map {r : Nat} {kv : List (Value × Value)} {B2 : Nat} (h : OI w B U u xs) (k : MK w B2 r kv) (hg : w.grownBy w' (some r)) : OI w' B U u xs := h.kept hg (.inr (h.own.apart_map k))
theorem MK.list {r : Nat} {kv : List (Value × Value)} {B2 : Nat} (k : MK w B2 r kv) (h : LR w B T U v xss) (hg : w.grownBy w' v.ownBlock) : MK w' B2 r kv := by
  obtain ⟨vs, h1, _⟩ := h.out
  exact k.kept hg (h1.apart_map k)
theorem LR.one (ho : Own w B T v [u]) (hu : ∃ B', OI w B' U u xs) : LR w B T U v [xs] :=
  ⟨[u], ho, rfl, fun i a ys ha hy => by
    cases i with
    | zero => simp at ha hy; subst ha; subst hy; exact hu
    | succ i => simp at ha⟩
/-- a row -/
theorem LR.row (h : LR w B T U v xss) {j : Int} (h0 : 0 ≤ j) (hj : j < xss.length) : ∃ u, (∃ B', OI w B' U u (gr xss j)) ∧ w.cell? (addrOf v j.toNat) = some u := by
  obtain ⟨vs, h1, h2, h3⟩ := h.out
  have hl : j.toNat < vs.length := by omega
  have hu : vs[j.toNat]? = some (vs[j.toNat]) := by simp
  exact ⟨_, h3 j.toNat _ _ hu (by simp [gr, List.getD, show j.toNat < xss.length by omega]), h1.rd.cell hu⟩
end
section
variable {P : Program} {ops : Array Oper} {Q : Exit → Fm → World → Prop} {n : Nat} {f : Fm} {w : World} {dst : Option Tmp} {rest : List Oper} {ty : TypeId} {pos : String} {after : Array Edge} {g : Option (Nat × Bool)} {d : Nat}
/-- append(v, u), u any row -/
theorem s_appendL {B B' : Nat} {t e U : TypeId} {z : Value} {bytes : Nat} [ht : SliceTy P t e] [he : CellTy P e z bytes] {x y : Operand} {v sv u : Value} {xss : List (List Int)} {xs : List Int}
    (hw : Wants ⟨some d, .call ⟨.builtin .append, #[x, y], #[t, t]⟩, ty, pos, after, g⟩ ops n f) (hd : Nat.ble (d + 1) n = true)
    (hx : lk n f x = some v) (hy : lk n f y = some sv) (hv : LR w B e U v xss) (hs : Rd w sv [u]) (hu : OI w B' U u xs) (hT : e ≠ U) (hlen : xss.length + 1 ≤ 1000000000000) (hB : B ≤ w.heap.size)
    (k : ∀ v' w', LR w' B e U v' (xss ++ [xs]) → SV v' (xss.length + 1) → w.grownBy w' v.ownBlock → (v'.ownBlock = v.ownBlock ∨ v'.ownBlock = some w.heap.size) → WL P ops Q rest n (.upd f d v') w') :
    WL P ops Q (⟨some d, .call ⟨.builtin .append, #[x, y], #[t, t]⟩, ty, pos, after, g⟩ :: rest) n f w := by
  obtain ⟨vs, h1, h2, h3⟩ := hv.out
  refine s_append hw hd hx hy h1 hs (by intro a ha; simp at ha; subst ha; exact hu.sv.one) (by simp; omega) hB fun v' w' ho hg hb => ?_
  have hk : ∀ {a : Value} {ys : List Int} {B2 : Nat}, OI w B2 U a ys → OI w' B2 U a ys := fun h => h.kept hg (h.own.apart_type h1 (fun e => hT e.symm))
  have hO : LR w' B e U v' (xss ++ [xs]) := ⟨vs ++ [u], ho, by simp [h2], fun i a ys ha hy => by
    rw [List.getElem?_append] at ha hy
    by_cases hi : i < vs.length
    · rw [if_pos hi] at ha
      rw [if_pos (by omega)] at hy
      obtain ⟨B2, h⟩ := h3 i a ys ha hy
      exact ⟨B2, hk h⟩
    · rw [if_neg hi] at ha
      rw [if_neg (by omega)] at hy
      have h8 : i - vs.length = 0 := by
        have := (List.getElem?_eq_some_iff.1 ha).1
        simp at this; omega
      rw [h8] at ha
      rw [show i - xss.length = 0 by omega] at hy
      simp at ha hy
      subst ha; subst hy
      exact ⟨B', hk hu⟩⟩
  exact k v' w' hO (by have := hO.sv; simpa using this) hg hb
/-- v[j] = u, u any row -/
theorem s_storeL {B B' : Nat} {e U : TypeId} {z : Value} {bytes : Nat} [he : CellTy P e z bytes] {x y : Operand} {v u : Value} {xss : List (List Int)} {xs : List Int} {j : Nat}
    (hw : Wants ⟨none, .store e x y, ty, pos, after, g⟩ ops n f)
    (hx : lk n f x = some (.pointer (some (addrOf v j)))) (hy : lk n f y = some u) (hv : LR w B e U v xss) (hu : OI w B' U u xs) (hT : e ≠ U) (hj : j < xss.length)
    (k : ∀ w', LR w' B e U v (xss.set j xs) → w.grownBy w' v.ownBlock → WL P ops Q rest n f w') :
    WL P ops Q (⟨none, .store e x y, ty, pos, after, g⟩ :: rest) n f w := by
  obtain ⟨vs, h1, h2, h3⟩ := hv.out
  refine s_store hw hx hy hu.sv.one h1 (by omega) fun w' ho hg => ?_
  have hk : ∀ {a : Value} {ys : List Int} {B2 : Nat}, OI w B2 U a ys → OI w' B2 U a ys := fun h => h.kept hg (h.own.apart_type h1 (fun e => hT e.symm))
  refine k w' ⟨vs.set j u, ho, by simp [h2], fun i a ys ha hy => ?_⟩ hg
  rw [List.getElem?_set] at ha hy
  by_cases hi : j = i
  · rw [if_pos hi, if_pos (by omega)] at ha hy
    obtain rfl := Option.some.inj ha
    obtain rfl := Option.some.inj hy
    exact ⟨B', hk hu⟩
  · rw [if_neg hi] at ha hy
    obtain ⟨B2, h⟩ := h3 i a ys ha hy
    exact ⟨B2, hk h⟩
end
/-- texts as keys -/
def IsStr (v : Value) : Prop := ∃ s, v = .string s
section
variable {P : Program} {kt : TypeId}
theorem findNow_miss (k : ByteArray) : ∀ (l : List MapEntry) (i : Nat), (∀ e ∈ l, IsStr e.key ∧ e.key ≠ .string k) → Instr.findNow .string (.string k) l i = some none
  | [], i, _ => rfl
  | e :: l, i, h => by
    obtain ⟨⟨s, hs⟩, hne⟩ := h e (by simp)
    have : (k == s) = false := Bool.eq_false_iff.2 fun e2 => hne (by rw [hs, (MapKept.bytes_beq k s).1 e2])
    simp only [Instr.findNow, hs, Instr.sameNow, this]
    exact findNow_miss k l (i + 1) fun x hx => h x (List.mem_cons_of_mem _ hx)
theorem findNow_hit (k : ByteArray) : ∀ (l : List MapEntry) (q i : Nat) (e : MapEntry), (∀ x ∈ l, IsStr x.key) → l[i]? = some e → e.key = .string k → (∀ j e', j < i → l[j]? = some e' → e'.key ≠ .string k) →
    Instr.findNow .string (.string k) l q = some (some (q + i, e.val))
  | [], q, i, e, _, he, _, _ => by simp at he
  | x :: l, q, i, e, hK, he, hk, hb => by
    obtain ⟨s, hs⟩ := hK x (by simp)
    cases i with
    | zero =>
      simp at he; subst he
      rw [hk] at hs
      injection hs with hs
      subst hs
      have : (k == k) = true := (MapKept.bytes_beq k k).2 rfl
      simp [Instr.findNow, hk, Instr.sameNow, this]
    | succ i =>
      have hne := hb 0 x (by omega) (by simp)
      have : (k == s) = false := Bool.eq_false_iff.2 fun e2 => hne (by rw [hs, (MapKept.bytes_beq k s).1 e2])
      simp only [Instr.findNow, hs, Instr.sameNow, this]
      rw [findNow_hit k l (q + 1) i e (fun y hy => hK y (List.mem_cons_of_mem _ hy)) (by simpa using he) hk fun j e' hj h' => hb (j + 1) e' (by omega) (by simpa using h')]
      congr 3; omega
theorem keyTy_string (hd : P.underlying kt = some .string) : KeyTy P kt IsStr := by
  refine ⟨fun b k w hk => ?_, fun k l w hk h => ?_, fun k l w i e hk hK h he hb => ?_⟩
  · obtain ⟨s, rfl⟩ := hk
    rw [Instr.checkKey]
    simp [run_underlying hd]
  · obtain ⟨s, rfl⟩ := hk
    simp [Instr.findKey, run_underlying hd, findNow_miss s l 0 h]
  · obtain ⟨s, rfl⟩ := hk
    have := findNow_hit s l 0 i e hK h he hb
    rw [Nat.zero_add] at this
    simp [Instr.findKey, run_underlying hd, this]
end
section
variable {P : Program} {ops : Array Oper} {Q : Exit → Fm → World → Prop} {n : Nat} {f : Fm} {w : World} {dst : Option Tmp} {rest : List Oper} {ty : TypeId} {pos : String} {after : Array Edge} {g : Option (Nat × Bool)} {d : Nat}
/-- append(v, b), v a row of bytes in the kit's words -/
theorem s_appendB {B m : Nat} {t e : TypeId} {z : Value} [ht : SliceTy P t e] [he : CellTy P e z 1] {x y : Operand} {v sv u : Value} {xs : List Value}
    (hw : Wants ⟨some d, .call ⟨.builtin .append, #[x, y], #[t, t]⟩, ty, pos, after, g⟩ ops n f) (hd : Nat.ble (d + 1) n = true)
    (hx : lk n f x = some v) (hy : lk n f y = some sv) (hv : w.ownsRow B e 1 v m xs) (hs : Rd w sv [u]) (hu : u.oneCell' = true) (hl : m ≤ 1000000000) (hB : B ≤ w.heap.size)
    (k : ∀ v' w', w'.ownsRow B e 1 v' (m + 1) (xs ++ [u]) → w.grownBy w' v.ownBlock → WL P ops Q rest n (.upd f d v') w') :
    WL P ops Q (⟨some d, .call ⟨.builtin .append, #[x, y], #[t, t]⟩, ty, pos, after, g⟩ :: rest) n f w := by
  replace hx := lk_evo hx
  replace hy := lk_evo hy
  obtain ⟨a, cap, rfl, hne, hcap, hcell⟩ := hs
  obtain ⟨i, hi, hz, hsz, hby⟩ := he.info
  have hz1 : z.cells = #[z] := by have := he.one; cases z <;> first | rfl | simp [Value.oneCell'] at this
  cases a with
  | none => exact absurd rfl (hne (by simp))
  | some a =>
    obtain ⟨v', w', hr, ho, hg, _⟩ := run_append_own (P := P) w B t ty e i z 1 1 ht.under hi hz hsz hby (by rw [hz1]; rfl) (by omega) v m xs hv a 1 cap [u] rfl (fun j u' hj => by
      have := hcell j u' hj
      simpa [addrOf] using this) (by intro a ha; simp at ha; subst ha; exact hu) (by simp [maxLen]; omega) (by omega) hB
    refine s_val hw hd ?_ (k v' w' ho hg)
    have hr' : (Builtin.append_ #[t, t] ty #[v, Value.slice (some a) [u].length cap]).run P w = .ok v' w' := hr
    simp [execOp, resolve, invoke, builtin, hx, hy]
    simp at hr'
    rw [hr']; rfl
/-- string(v) -/
theorem y_strB {B : Nat} {src tgt e : TypeId} {x : Operand} {v : Value} {l : List UInt8} (hx : lk n f x = some v) (hs : P.underlying src = some (.slice e)) (he : P.underlying e = some (.int .u8)) (ht : P.underlying tgt = some .string)
    (hv : w.ownsRow B e 1 v l.length (Lib.byteCells l)) (hl : l ≠ []) : Yld P (evo n f) ⟨dst, .convert src tgt x, ty, pos, after, g⟩ w (.string ⟨l.toArray⟩) := by
  replace hx := lk_evo hx
  rcases hv.2 with ⟨e1, e2⟩ | ⟨q, cap, cur, e1, _⟩
  · exact absurd (List.length_eq_zero_iff.1 e2) hl
  · subst e1
    have hcv := run_convert_bytes_back (P := P) w src tgt e ⟨q, 0, none⟩ cap l hs he ht (fun j hj => hv.cells (g := q) rfl j _ (by simp [Lib.byteCells, hj]))
    constructor
    simp [execOp, hx, hcv]
end
end Go.Mem
