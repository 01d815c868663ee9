/- The walk's own words, continued: numbers without a sign, conversions, min and max, tuples, copies. Over any program. -/
import Derived.Test.YtmfegkjjfmmoaaaLs
namespace Go.Mem
open Go.RowKit

/-- t is a type of whole numbers of kind k -/
class IntTy (P : Program) (t : TypeId) (k : outParam IntKind) : Prop where
  under : P.underlying t = some (.int k)

theorem wrap_small {k : IntKind} {a : Int} (hk : k = .i64 ∨ k = .u64) (h : 0 ≤ a ∧ a ≤ 9223372036854775807) : k.wrap a = a := by
  rcases hk with rfl | rfl
  · rw [IntKind.wrap_i64]; omega
  · rw [IntKind.wrap_u64]; omega

section
variable {P : Program} {n : Nat} {f : Fm} {w : World} {dst : Option Tmp} {ty : TypeId} {pos : String} {after : Array Edge} {g : Option (Nat × Bool)}

theorem y_conv {x : Operand} {s t : TypeId} {k k0 : IntKind} {a : Int} [ht : IntTy P t k] [hs : IntTy P s k0] (hx : lk n f x = some (.int k0 a)) (hk : k = .i64 ∨ k = .u64) (h : 0 ≤ a ∧ a ≤ 9223372036854775807) :
    Yld P (evo n f) ⟨dst, .convert s t x, ty, pos, after, g⟩ w (.int k a) := by
  replace hx := lk_evo hx
  constructor
  simp [execOp, convert, run_underlying ht.under, run_underlying hs.under, hx, Conv.intToInt, wrap_small hk h]
theorem y_and32 {x : Operand} {a : Int} {tx ty' : TypeId} (hx : lk n f x = some (.int .u64 a)) (h : 0 ≤ a ∧ a < 4294967296) :
    Yld P (evo n f) ⟨dst, .binOp .and tx x (.const (.int .u64 4294967295)) ty', ty, pos, after, g⟩ w (.int .u64 a) := by
  replace hx := lk_evo hx
  constructor
  obtain ⟨m, rfl⟩ : ∃ m : Nat, a = m := ⟨a.toNat, by omega⟩
  have hm : m < 4294967296 := by omega
  have e : (BitVec.ofInt 64 (m : Int) &&& BitVec.ofInt 64 4294967295).toNat = m := by
    rw [BitVec.toNat_and]
    have h1 : (BitVec.ofInt 64 (m : Int)).toNat = m := by rw [BitVec.toNat_ofInt]; omega
    have h2 : (BitVec.ofInt 64 4294967295).toNat = 2 ^ 32 - 1 := by decide
    rw [h1, h2, Nat.and_two_pow_sub_one_eq_mod]
    omega
  have e2 := wrap_small (k := .u64) (a := m) (.inr rfl) (by omega)
  have e' : IntKind.u64.wrap ((BitVec.ofInt IntKind.u64.bits (m : Int) &&& BitVec.ofInt IntKind.u64.bits 4294967295).toNat : Int) = m := by
    show IntKind.u64.wrap ((BitVec.ofInt 64 (m : Int) &&& BitVec.ofInt 64 4294967295).toNat : Int) = m
    rw [e, e2]
  have hc : evo n f (.const (.int .u64 4294967295)) = .int .u64 4294967295 := rfl
  simp [execOp, hx, hc, eqGuard, binOp, Op.intBits, -BitVec.toNat_and]
  simpa [-BitVec.toNat_and] using e'
theorem y_shr32 {x : Operand} {a : Int} {tx ty' : TypeId} (hx : lk n f x = some (.int .u64 a)) (h : 0 ≤ a ∧ a < 4294967296) :
    Yld P (evo n f) ⟨dst, .binOp .shr tx x (.const (.int .u64 32)) ty', ty, pos, after, g⟩ w (.int .u64 0) := by
  replace hx := lk_evo hx
  constructor
  have e : a.fdiv 4294967296 = 0 := by
    rw [Int.fdiv_eq_ediv_of_nonneg _ (by omega)]; omega
  have hb : min 32 IntKind.u64.bits = 32 := by decide
  have hc : evo n f (.const (.int .u64 32)) = .int .u64 32 := rfl
  simp [execOp, hx, hc, eqGuard, binOp, Op.shift, hb, e]
theorem y_mulU {x y : Operand} {a b : Int} {tx ty' : TypeId} (hx : lk n f x = some (.int .u64 a)) (hy : lk n f y = some (.int .u64 b)) (h : 0 ≤ a * b ∧ a * b ≤ 9223372036854775807) :
    Yld P (evo n f) ⟨dst, .binOp .mul tx x y ty', ty, pos, after, g⟩ w (.int .u64 (a * b)) := by
  replace hx := lk_evo hx
  replace hy := lk_evo hy
  constructor; simp [execOp, hx, hy, eqGuard, binOp, Op.intArith, wrap_small (.inr rfl) h]
theorem y_addU {x y : Operand} {a b : Int} {tx ty' : TypeId} (hx : lk n f x = some (.int .u64 a)) (hy : lk n f y = some (.int .u64 b)) (h : 0 ≤ a + b ∧ a + b ≤ 9223372036854775807) :
    Yld P (evo n f) ⟨dst, .binOp .add tx x y ty', ty, pos, after, g⟩ w (.int .u64 (a + b)) := by
  replace hx := lk_evo hx
  replace hy := lk_evo hy
  constructor; simp [execOp, hx, hy, eqGuard, binOp, Op.intArith, wrap_small (.inr rfl) h]
theorem y_gtrU {x y : Operand} {a b : Int} {tx ty' : TypeId} (hx : lk n f x = some (.int .u64 a)) (hy : lk n f y = some (.int .u64 b)) :
    Yld P (evo n f) ⟨dst, .binOp .gtr tx x y ty', ty, pos, after, g⟩ w (.bool (decide (b < a))) := by
  replace hx := lk_evo hx
  replace hy := lk_evo hy
  constructor; simp [execOp, hx, hy, eqGuard, binOp, Op.intCmp]
theorem y_min {x y : Operand} {a b : Int} {ats : Array TypeId} (hx : lk n f x = some (.int .i64 a)) (hy : lk n f y = some (.int .i64 b)) :
    Yld P (evo n f) ⟨dst, .call ⟨.builtin .min, #[x, y], ats⟩, ty, pos, after, g⟩ w (.int .i64 (min a b)) := by
  replace hx := lk_evo hx
  replace hy := lk_evo hy
  have e : (if b < a then b else a) = min a b := by split <;> omega
  constructor; simp [execOp, resolve, invoke, builtin, Builtin.min_, Builtin.min2, hx, hy, e]
theorem y_ext {x : Operand} {vs : Array Value} {i : Nat} {v : Value} (hx : lk n f x = some (.tuple vs)) (hv : vs[i]? = some v) :
    Yld P (evo n f) ⟨dst, .extract x i, ty, pos, after, g⟩ w v := by
  replace hx := lk_evo hx
  constructor; simp [execOp, Instr.extract, hx, hv]
theorem y_ext20 {x : Operand} {a b : Value} (hx : lk n f x = some (.tuple #[a, b])) : Yld P (evo n f) ⟨dst, .extract x 0, ty, pos, after, g⟩ w a := y_ext hx rfl
theorem y_ext21 {x : Operand} {a b : Value} (hx : lk n f x = some (.tuple #[a, b])) : Yld P (evo n f) ⟨dst, .extract x 1, ty, pos, after, g⟩ w b := y_ext hx rfl
end

section
variable {P : Program} {w : World} {B : Nat} {T : TypeId} {v : Value} {vs : List Value}
theorem firstCells_take {sv : Value} {news : List Value} (h : Rd w sv news) (m : Nat) (hm : m ≤ news.length) : (Builtin.firstCells 1 m sv).run P w = .ok (news.take m).toArray w := by
  obtain ⟨a, cap, rfl, h1, h2, h3⟩ := h
  cases a with
  | none =>
    have : news = [] := by
      cases news with
      | nil => rfl
      | cons _ _ => exact absurd rfl (h1 (by simp))
    subst this
    simp [Builtin.firstCells]
  | some a =>
    refine run_firstCells_some w 1 m a news.length cap (news.take m) (by simp; omega) (fun j u hu => h3 j u ?_)
    rw [List.getElem?_take] at hu
    split at hu
    · exact hu
    · simp at hu

/-- copy(v[l:], sv) -/
theorem copy_run {t ty e : TypeId} {z : Value} {bytes : Nat} [ht : SliceTy P t e] [he : CellTy P e z bytes] {sv : Value} {news : List Value} {l : Nat} (h : Own w B e v vs) (hl : l ≤ vs.length) (hsrc : Rd w sv news) (h1 : ∀ u ∈ news, u.oneCell' = true) :
    ∃ w', (Builtin.copy_ #[t, t] ty #[cut v l vs.length, sv]).run P w = .ok (.int .i64 (min news.length (vs.length - l) : Nat)) w' ∧
      Own w' B e v (vs.take l ++ news.take (vs.length - l) ++ vs.drop (l + news.length)) ∧ w.grownBy w' v.ownBlock := by
  obtain ⟨i, hi, hz, hsz, hby⟩ := he.info
  have hlo : (Builtin.lenOf sv).run P w = .ok news.length w := by
    obtain ⟨a, cap, rfl, _⟩ := hsrc
    simp [Builtin.lenOf]
  have hf := firstCells_take (P := P) hsrc (min news.length (vs.length - l)) (Nat.min_le_left _ _)
  have htk : news.take (min news.length (vs.length - l)) = news.take (vs.length - l) := by
    by_cases h : news.length ≤ vs.length - l
    · rw [Nat.min_eq_left h, List.take_of_length_le h, List.take_of_length_le (Nat.le_refl _)]
    · rw [Nat.min_eq_right (by omega)]
  rw [htk] at hf
  have hnm : Nat.min news.length (vs.length - l) = min news.length (vs.length - l) := rfl
  rcases h with ⟨rfl, rfl⟩ | ⟨g, off, cap, cur, rfl, hb, hg, hlc, hc, hs, hx⟩
  · have hl0 : l = 0 := by simpa using hl
    subst hl0
    refine ⟨w, ?_, ?_, ⟨rfl, rfl, rfl, Nat.le_refl _, fun _ _ _ => rfl⟩⟩
    · simp only [List.length_nil, Nat.sub_zero, List.take_zero] at hf ⊢
      simp at hf
      simp [Builtin.copy_, run_underlying ht.under, sizeOf, typeInfo, hi, hsz, hlo, hf, cut, goInt]
    · simpa using Own.nil w B e
  · have hcells : off + l + (news.take (vs.length - l)).length ≤ cur.size := by simp; omega
    have hst := run_storeCells_at P g (off + l) e (news.take (vs.length - l)) 0 cur w hg (by simp at hcells ⊢; omega) (fun u hu => h1 u (List.mem_of_mem_take hu))
    simp only [Nat.add_zero] at hst
    by_cases hcl : cap = l
    · have hvl : vs.length = l := by omega
      have ht0 : news.take (vs.length - l) = [] := by rw [hvl]; simp
      rw [ht0] at hf
      refine ⟨w, ?_, ?_, ⟨rfl, rfl, rfl, Nat.le_refl _, fun _ _ _ => rfl⟩⟩
      · simp only [hvl] at hf ⊢
        simp at hf
        simp [Builtin.copy_, run_underlying ht.under, sizeOf, typeInfo, hi, hsz, hlo, hf, cut, goInt, storeCells, hcl]
      · rw [ht0, ← hvl, List.take_of_length_le (Nat.le_refl _), List.drop_of_length_le (by omega)]
        simp only [List.append_nil]
        exact .inr ⟨g, off, cap, cur, rfl, hb, hg, hlc, hc, hs, hx⟩
    · refine ⟨w.setRow g (cur.toList.take (off + l) ++ news.take (vs.length - l) ++ cur.toList.drop (off + l + (news.take (vs.length - l)).length)).toArray, ?_, ?_, ?_⟩
      · simp [Builtin.copy_, run_underlying ht.under, sizeOf, typeInfo, hi, hsz, hlo, hf, cut, goInt, hcl, Addr.add_lit, hst, hnm]
      · have hlen : (vs.take l ++ news.take (vs.length - l) ++ vs.drop (l + news.length)).length = vs.length := by simp; omega
        refine .inr ⟨g, off, cap, _, by rw [hlen], hb, setRow_heap w g cur _ e _ hg, by rw [hlen]; exact hlc, hc, ?_, ?_⟩
        · simp only [List.size_toArray, List.length_append, List.length_take, List.length_drop, Array.length_toList]
          omega
        · intro j u hu
          simp only [List.getElem?_toArray]
          have hjl := (List.getElem?_eq_some_iff.1 hu).1
          rw [hlen] at hjl
          rw [List.append_assoc, List.getElem?_append] at hu ⊢
          have htl : (cur.toList.take (off + l)).length = off + l := by simp; omega
          have htl' : (vs.take l).length = l := by simp; omega
          rw [htl]
          rw [htl'] at hu
          by_cases hj : j < l
          · rw [if_pos hj] at hu
            rw [if_pos (by omega), List.getElem?_take, if_pos (by omega)]
            rw [List.getElem?_take, if_pos hj] at hu
            simpa using hx j u hu
          · rw [if_neg hj] at hu
            rw [if_neg (by omega)]
            have e1 : off + j - (off + l) = j - l := by omega
            rw [e1]
            rw [List.getElem?_append] at hu ⊢
            by_cases hj2 : j - l < (news.take (vs.length - l)).length
            · rw [if_pos hj2] at hu ⊢; exact hu
            · rw [if_neg hj2] at hu ⊢
              have hnl : (news.take (vs.length - l)).length = news.length := by
                simp only [List.length_take] at hj2 ⊢
                omega
              rw [hnl] at hu hj2 ⊢
              rw [List.getElem?_drop] at hu ⊢
              have := hx j u (by rw [← hu]; congr 1; omega)
              rw [← this]
              simp only [Array.getElem?_toList]
              congr 1; omega
      · exact ⟨rfl, rfl, rfl, by simp, fun k _ hk => setRow_other w g k _ (fun e => hk (by simp [Value.ownBlock, e]))⟩
end

section steps
variable {P : Program} {ops : Array Oper} {Q : Exit → Fm → World → Prop} {n : Nat} {f : Fm} {w : World} {rest : List Oper} {ty : TypeId} {pos : String} {after : Array Edge} {g : Option (Nat × Bool)} {d : Nat}
theorem s_copyI {B : Nat} {t e : TypeId} {z : Value} {bytes : Nat} [ht : SliceTy P t e] [he : CellTy P e z bytes] {x y : Operand} {v sv : Value} {xs ys : List Int} {l : Nat}
    (hw : Wants ⟨some d, .call ⟨.builtin .copy, #[x, y], #[t, t]⟩, ty, pos, after, g⟩ ops n f) (hd : Nat.ble (d + 1) n = true)
    (hx : lk n f x = some (cut v l xs.length)) (hy : lk n f y = some sv) (hv : OI w B e v xs) (hl : l ≤ xs.length) (hs : IL w sv ys)
    (k : ∀ w', OI w' B e v (xs.take l ++ ys.take (xs.length - l) ++ xs.drop (l + ys.length)) → w.grownBy w' v.ownBlock → WL P ops Q rest n (.upd f d (.int .i64 (min ys.length (xs.length - l) : Nat))) w') :
    WL P ops Q (⟨some d, .call ⟨.builtin .copy, #[x, y], #[t, t]⟩, ty, pos, after, g⟩ :: rest) n f w := by
  replace hx := lk_evo hx
  replace hy := lk_evo hy
  obtain ⟨w', hr, ho, hg⟩ := copy_run (P := P) (t := t) (ty := ty) (l := l) hv.own (by simpa using hl) hs.rd (by intro u hu; obtain ⟨a, _, rfl⟩ := List.mem_map.1 hu; rfl)
  simp only [List.length_map] at hr
  refine s_val hw hd ?_ (k w' ⟨by simpa [List.map_take, List.map_drop] using ho⟩ hg)
  simp [execOp, resolve, invoke, builtin, hx, hy, hr]
theorem cut_all {v : Value} {m : Nat} (h : SV v m) : cut v 0 m = v := by
  obtain ⟨a, cap, rfl, _⟩ := h.out
  cases a <;> simp [cut, Addr.add]
theorem IL.cut {v : Value} {xs : List Int} {l r : Nat} (h : IL w v xs) (hl : l ≤ r) (hr : r ≤ xs.length) : IL w (Mem.cut v l r) ((xs.take r).drop l) :=
  ⟨by simpa [List.map_take, List.map_drop] using h.rd.cut hl (by simpa using hr)⟩
theorem OI.cut {B : Nat} {T : TypeId} {v : Value} {xs : List Int} {l r : Nat} (h : OI w B T v xs) (hl : l ≤ r) (hr : r ≤ xs.length) : OI w B T (Mem.cut v l r) ((xs.take r).drop l) :=
  ⟨by simpa [List.map_take, List.map_drop] using h.own.cut hl (by simpa using hr)⟩
theorem RL.cut {v : Value} {xss : List (List Int)} {l r : Nat} (h : RL w v xss) (hl : l ≤ r) (hr : r ≤ xss.length) : RL w (Mem.cut v l r) ((xss.take r).drop l) := by
  obtain ⟨vs, h1, h2, h3⟩ := h.out
  refine ⟨_, h1.cut hl (by omega), by simp [h2], fun i u xs hu hx => ?_⟩
  rw [List.getElem?_drop, List.getElem?_take] at hu hx
  split at hu
  · rename_i hlt; rw [if_pos hlt] at hx; exact h3 _ u xs hu hx
  · simp at hu
theorem SV.cut {v : Value} {m l r : Nat} (h : SV v m) (hl : l ≤ r) (hr : r ≤ m) : SV (Mem.cut v l r) (r - l) := by
  obtain ⟨a, cap, rfl, h1, h2⟩ := h.out
  refine ⟨_, _, rfl, fun hm => ?_, by omega⟩
  have := h1 (by omega)
  cases a with
  | none => exact absurd rfl this
  | some a => split <;> simp
end steps

section
variable {P : Program} {n : Nat} {f : Fm} {w : World} {dst : Option Tmp} {ty : TypeId} {pos : String} {after : Array Edge} {g : Option (Nat × Bool)}
/-- v[l:], v[:r] of a slice of m elements, l and r no more than m; where the capacity is not looked at -/
theorem y_cutI {x lo : Operand} {t e : TypeId} {z : Value} {bytes : Nat} [ht : SliceTy P t e] [he : CellTy P e z bytes] {v : Value} {xs : List Int} {kl : IntKind} {l : Int}
    (hx : lk n f x = some v) (hlo : lk n f lo = some (.int kl l)) (h : IL w v xs) (h0 : 0 ≤ l) (hl : l ≤ xs.length) :
    Yld P (evo n f) ⟨dst, .slice t x (some lo) none none, ty, pos, after, g⟩ w (cut v l.toNat xs.length) := by
  have := y_cut_lo (P := P) (dst := dst) (ty := ty) (pos := pos) (after := after) (g := g) (t := t) hx hlo h.rd h0 (by simpa using hl)
  simpa using this
theorem y_cutI_hi {x hi : Operand} {t e : TypeId} {z : Value} {bytes : Nat} [ht : SliceTy P t e] [he : CellTy P e z bytes] {v : Value} {xs : List Int} {kh : IntKind} {r : Int}
    (hx : lk n f x = some v) (hhi : lk n f hi = some (.int kh r)) (h : IL w v xs) (h0 : 0 ≤ r) (hr : r ≤ xs.length) :
    Yld P (evo n f) ⟨dst, .slice t x none (some hi) none, ty, pos, after, g⟩ w (cut v 0 r.toNat) := y_cut_hi hx hhi h.rd h0 (by simpa using hr)
theorem y_cutR {x lo : Operand} {t e : TypeId} {z : Value} {bytes : Nat} [ht : SliceTy P t e] [he : CellTy P e z bytes] {v : Value} {xss : List (List Int)} {kl : IntKind} {l : Int}
    (hx : lk n f x = some v) (hlo : lk n f lo = some (.int kl l)) (h : RL w v xss) (h0 : 0 ≤ l) (hl : l ≤ xss.length) :
    Yld P (evo n f) ⟨dst, .slice t x (some lo) none none, ty, pos, after, g⟩ w (cut v l.toNat xss.length) := by
  obtain ⟨vs, h1, h2, _⟩ := h.out
  rw [← h2]
  exact y_cut_lo hx hlo h1 h0 (by omega)
end
end Go.Mem
