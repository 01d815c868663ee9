/- Texts laid together: Lw De Df. -/
import Derived.Test.YtkknhcpjiehgiaaDoorWB
import Derived.Test.YtkknhcpjiehgiaaDoorPA
/- The walk's own words, continued: rows that the call owns, and what is read beside them. Over any program. -/
namespace Go.Mem
open Go.RowKit
section
variable {w w' : World} {B E : Nat} {T U : TypeId} {v : Value} {xss : List (List Int)} {xs : List Int}
/-- what lies between B and E is kept by a turn elsewhere -/
theorem OM.apart2 (h : OM w B E T U v xss) (hv : ∀ g, v.ownBlock = some g → g < E) {r : Option Nat} (hg : w.grownBy w' r) (hr : ∀ g, r = some g → g < B ∨ E ≤ g) : OM w' B E T U v xss := by
  obtain ⟨vs, h1, h2, h3, h4, h5, h6⟩ := h.out
  have ne : ∀ (u : Value), (∀ g, u.ownBlock = some g → B ≤ g ∧ g < E) → u.ownBlock = none ∨ u.ownBlock ≠ r := fun u hu => by
    cases e : u.ownBlock with
    | none => exact .inl rfl
    | some g =>
      right
      intro e2
      have := hu g e
      have := hr g e2.symm
      omega
  refine ⟨vs, h1.kept hg (ne v fun g e => ⟨(h1.lt g e).1, hv g e⟩), h2, h3, fun i u xs hu hx => ?_, h5, h6⟩
  have hrow := h4 i u xs hu hx
  exact hrow.kept hg (ne u fun g e => ⟨(hrow.lt g e).1, h5 i u hu g e⟩)
theorem OM.ownlt (h : OM w B E T U v xss) : ∀ g, v.ownBlock = some g → B ≤ g ∧ g < w.heap.size := by
  obtain ⟨vs, h1, _⟩ := h.out
  exact h1.lt
theorem OI.apart2 (h : OI w B T v xs) (hv : ∀ g, v.ownBlock = some g → g < E) {r : Option Nat} (hg : w.grownBy w' r) (hr : ∀ g, r = some g → g < B ∨ E ≤ g) : OI w' B T v xs := by
  refine h.kept hg ?_
  cases e : v.ownBlock with
  | none => exact .inl rfl
  | some g =>
    right
    intro e2
    have := h.lt g e
    have := hv g e
    have := hr g e2.symm
    omega
end
/-- append(v, u), u a new row; where the list lies then -/
theorem s_appendM2 {P : Program} {ops : Array Oper} {Q : Exit → Fm → World → Prop} {n : Nat} {f : Fm} {w : World} {rest : List Oper} {ty : TypeId} {pos : String} {after : Array Edge} {g : Option (Nat × Bool)} {d : Nat}
    {B E : Nat} {t e U : TypeId} {z : Value} {bytes : Nat} [ht : SliceTy P t e] [he : CellTy P e z bytes] {x y : Operand} {v sv u : Value} {xss : List (List Int)} {xs : List Int}
    (hw : Wants ⟨some d, .call ⟨.builtin .append, #[x, y], #[t, t]⟩, ty, pos, after, g⟩ ops n f) (hd : Nat.ble (d + 1) n = true)
    (hx : lk n f x = some v) (hy : lk n f y = some sv) (hv : OM w B E e U v xss) (hs : Rd w sv [u]) (hu : OI w E U u xs) (hBE : B ≤ E) (hT : e ≠ U) (hlen : xss.length + 1 ≤ 1000000000000) (hB : B ≤ w.heap.size)
    (k : ∀ v' w', OM w' B w'.heap.size e U v' (xss ++ [xs]) → SV v' (xss.length + 1) → w.grownBy w' v.ownBlock → (v'.ownBlock = v.ownBlock ∨ v'.ownBlock = some w.heap.size) → WL P ops Q rest n (.upd f d v') w') :
    WL P ops Q (⟨some d, .call ⟨.builtin .append, #[x, y], #[t, t]⟩, ty, pos, after, g⟩ :: rest) n f w := by
  obtain ⟨vs, h1, h2, h3, h4, h5, h6⟩ := hv.out
  refine s_append hw hd hx hy h1 hs (by intro a ha; simp at ha; subst ha; exact hu.sv.one) (by simp; omega) hB fun v' w' ho hg hb => ?_
  have hOM : OM w' B w'.heap.size e U v' (xss ++ [xs]) := by
    refine OM.top (E := w'.heap.size) ⟨vs ++ [u], ho, ?_, by simp [h3], ?_, ?_, ?_⟩
    · intro a ha
      rcases List.mem_append.1 ha with ha | ha
      · exact h2 a ha
      · simp at ha; subst ha; exact hu.sv.one
    · intro i a ys ha hys
      rw [List.getElem?_append] at ha hys
      rw [h3] at ha
      split at ha
      · rename_i hlt
        rw [if_pos hlt] at hys
        have hr := h4 i a ys ha hys
        exact hr.kept hg (hr.own.apart_type h1 (fun e => hT e.symm))
      · rename_i hlt
        rw [if_neg hlt] at hys
        have hi : i - xss.length = 0 := by
          have := (List.getElem?_eq_some_iff.1 ha).1
          simpa using this
        rw [hi] at ha hys
        simp at ha hys
        subst ha hys
        exact (hu.mono hBE).kept hg (hu.own.apart_type h1 (fun e => hT e.symm))
    · intro i a ha g' hg'
      have hsz := hg.size
      rw [List.getElem?_append] at ha
      split at ha
      · rename_i hlt
        have := ((h4 i a (xss[i]'(by omega)) ha (by simp)).lt g' hg').2
        omega
      · have : a = u := by
          have := List.mem_of_getElem? ha
          simpa using this
        subst this
        have := (hu.lt g' hg').2
        omega
    · intro i j a b hij ha hb'
      rw [List.getElem?_append] at ha hb'
      split at hb'
      · rename_i hlt
        rw [if_pos (by omega)] at ha
        exact h6 i j a b hij ha hb'
      · rename_i hge
        have hbu : b = u := by
          have := List.mem_of_getElem? hb'
          simpa using this
        subst hbu
        have hjl := (List.getElem?_eq_some_iff.1 hb').1
        simp at hjl
        rw [if_pos (by omega)] at ha
        cases e1 : a.ownBlock with
        | none => exact .inl rfl
        | some g1 =>
          refine .inr fun e2 => ?_
          have := h5 i a ha g1 e1
          have := (hu.lt g1 e2.symm).1
          omega
  exact k v' w' hOM (by simpa using hOM.sv) hg hb
end Go.Mem

/- The walk's own words, continued: elements taken out of an owned slice in place (append within its room, clear). Over any program. -/
namespace Go.Mem
open Go.RowKit
set_option linter.unusedVariables false
set_option linter.unusedSimpArgs false
section
variable {P : Program} {w : World} {B : Nat} {v : Value} {vs : List Value}
theorem zeroCells_one {z : Value} (h : z.cells = #[z]) (n : Nat) : (Builtin.zeroCells z.cells n).toList = List.replicate n z := by
  rw [h]
  unfold Builtin.zeroCells
  apply List.ext_getElem
  · simp
  · intro i h1 h2
    simp [Nat.mod_one]

/-- append within the slice itself: the elements from i on become news -/
theorem append_in_run {t ty e : TypeId} {z : Value} {bytes : Nat} [ht : SliceTy P t e] [he : CellTy P e z bytes] {sv : Value} {news : List Value} {i : Nat} (h : Own w B e v vs) (hi : i + news.length ≤ vs.length) (hsrc : Rd w sv news)
    (h1 : ∀ u ∈ news, u.oneCell' = true) :
    ∃ w', (Builtin.append_ #[t, t] ty #[cut v 0 i, sv]).run P w = .ok (cut v 0 (i + news.length)) w' ∧ Own w' B e v (vs.take i ++ news ++ vs.drop (i + news.length)) ∧ w.grownBy w' v.ownBlock := by
  obtain ⟨inf, hinf, hz, hsz, hby⟩ := he.info
  have hlo : (Builtin.lenOf sv).run P w = .ok news.length w := by
    obtain ⟨a, cap, rfl, _⟩ := hsrc
    simp [Builtin.lenOf]
  have hf := firstCells_run (P := P) hsrc
  rcases h with ⟨rfl, rfl⟩ | ⟨g, off, cap, cur, rfl, hb, hg, hlc, hc, hs, hx⟩
  · simp at hi
    obtain ⟨rfl, rfl⟩ := hi
    refine ⟨w, ?_, ?_, ⟨rfl, rfl, rfl, Nat.le_refl _, fun _ _ _ => rfl⟩⟩
    · simp at hf hlo
      simp [Builtin.append_, run_underlying ht.under, sizeOf, typeInfo, hinf, hsz, hlo, hf, cut]
    · simpa using Own.nil w B e
  · have hst := run_storeCells_at P g (off + i) e news 0 cur w hg (by omega) h1
    simp only [Nat.add_zero] at hst
    have hroom : i + news.length ≤ cap := by omega
    refine ⟨w.setRow g (cur.toList.take (off + i) ++ news ++ cur.toList.drop (off + i + news.length)).toArray, ?_, ?_, ?_⟩
    · by_cases hc0 : cap = 0
      · have hi0 : i = 0 := by omega
        have hn0 : news = [] := List.length_eq_zero_iff.1 (by omega)
        subst hi0 hn0
        simp only [List.length_nil, Nat.add_zero] at hf hlo hst ⊢
        simp [Builtin.append_, run_underlying ht.under, sizeOf, typeInfo, hinf, hsz, hlo, hf, cut, hc0, storeCells, setRow_self w g cur e (0, 0) hg]
      · simp [Builtin.append_, run_underlying ht.under, sizeOf, typeInfo, hinf, hsz, hlo, hf, cut, hc0, Addr.add_lit, hst, hroom]
    · have hlen : (vs.take i ++ news ++ vs.drop (i + news.length)).length = vs.length := by simp; omega
      refine .inr ⟨g, off, cap, _, by rw [hlen], hb, setRow_heap w g cur _ e _ hg, by rw [hlen]; exact hlc, hc, ?_, ?_⟩
      · simp only [List.size_toArray, List.length_append, List.length_take, List.length_drop, Array.length_toList]
        omega
      · intro j u hu
        have hj := (List.getElem?_eq_some_iff.1 hu).1
        rw [hlen] at hj
        simp only [List.getElem?_toArray]
        rw [List.append_assoc, List.getElem?_append] at hu ⊢
        have htl : (cur.toList.take (off + i)).length = off + i := by simp; omega
        have htv : (vs.take i).length = i := by simp; omega
        rw [htl]
        rw [htv] at hu
        by_cases hji : j < i
        · rw [if_pos hji] at hu
          rw [if_pos (by omega), List.getElem?_take, if_pos (by omega)]
          rw [List.getElem?_take, if_pos hji] at hu
          simpa using hx j u hu
        · rw [if_neg hji] at hu
          rw [if_neg (by omega)]
          have e1 : off + j - (off + i) = j - i := by omega
          rw [e1, List.getElem?_append]
          rw [List.getElem?_append] at hu
          by_cases hjn : j - i < news.length
          · rw [if_pos hjn] at hu ⊢; exact hu
          · rw [if_neg hjn] at hu ⊢
            rw [List.getElem?_drop] at hu ⊢
            have e2 : off + i + news.length + (j - i - news.length) = off + j := by omega
            have e3 : i + news.length + (j - i - news.length) = j := by omega
            rw [e2]
            rw [e3] at hu
            simpa using hx j u hu
    · exact ⟨rfl, rfl, rfl, by simp, fun k _ hk => setRow_other w g k _ (fun e => hk (by simp [Value.ownBlock, e]))⟩

/-- clear(v[l:]) -/
theorem clear_run {t ty e : TypeId} {z : Value} {bytes : Nat} [ht : SliceTy P t e] [he : CellTy P e z bytes] {l : Nat} (h : Own w B e v vs) (hl : l ≤ vs.length) :
    ∃ w', (Builtin.clear_ #[t] ty #[cut v l vs.length]).run P w = .ok (.tuple #[]) w' ∧ Own w' B e v (vs.take l ++ List.replicate (vs.length - l) z) ∧ w.grownBy w' v.ownBlock := by
  obtain ⟨inf, hinf, hz, hsz, hby⟩ := he.info
  have hz1 : z.cells = #[z] := by have := he.one; cases z <;> first | rfl | simp [Value.oneCell'] at this
  rcases h with ⟨rfl, rfl⟩ | ⟨g, off, cap, cur, rfl, hb, hg, hlc, hc, hs, hx⟩
  · have hl0 : l = 0 := by simpa using hl
    subst hl0
    refine ⟨w, ?_, by simpa using Own.nil w B e, ⟨rfl, rfl, rfl, Nat.le_refl _, fun _ _ _ => rfl⟩⟩
    simp [Builtin.clear_, run_underlying ht.under, cut]
  · by_cases hk : l = vs.length
    · subst hk
      refine ⟨w, ?_, ?_, ⟨rfl, rfl, rfl, Nat.le_refl _, fun _ _ _ => rfl⟩⟩
      · by_cases hcl : cap = vs.length
        · simp [Builtin.clear_, run_underlying ht.under, cut, hcl]
        · simp [Builtin.clear_, run_underlying ht.under, cut, hcl]
      · simp only [Nat.sub_self, List.replicate_zero, List.append_nil, List.take_of_length_le (Nat.le_refl _)]
        exact .inr ⟨g, off, cap, cur, rfl, hb, hg, hlc, hc, hs, hx⟩
    · have hcl : ¬ cap = l := by omega
      have hn : ∃ m, vs.length - l = m + 1 := ⟨vs.length - l - 1, by omega⟩
      obtain ⟨m, hm⟩ := hn
      have hst := run_storeCells_at P g (off + l) e (List.replicate (vs.length - l) z) 0 cur w hg (by simp; omega) (by intro u hu; rw [List.mem_replicate] at hu; rw [hu.2]; exact he.one)
      simp only [Nat.add_zero] at hst
      refine ⟨w.setRow g (cur.toList.take (off + l) ++ List.replicate (vs.length - l) z ++ cur.toList.drop (off + l + (List.replicate (vs.length - l) z).length)).toArray, ?_, ?_, ?_⟩
      · have hzc := zeroCells_one hz1 (vs.length - l)
        rw [hm] at hzc hst ⊢
        simp [Builtin.clear_, run_underlying ht.under, cut, hcl, hm, zeroValue, typeInfo, hinf, hz, hzc, Addr.add_lit, hst]
      · have hlen : (vs.take l ++ List.replicate (vs.length - l) z).length = vs.length := by simp; omega
        refine .inr ⟨g, off, cap, _, by rw [hlen], hb, setRow_heap w g cur _ e _ hg, by rw [hlen]; exact hlc, hc, ?_, ?_⟩
        · simp only [List.size_toArray, List.length_append, List.length_take, List.length_drop, Array.length_toList, List.length_replicate]
          omega
        · intro j u hu
          have hj := (List.getElem?_eq_some_iff.1 hu).1
          rw [hlen] at hj
          simp only [List.getElem?_toArray]
          rw [List.getElem?_append] at hu
          rw [List.append_assoc, List.getElem?_append]
          have htl : (cur.toList.take (off + l)).length = off + l := by simp; omega
          have htv : (vs.take l).length = l := by simp; omega
          rw [htl]
          rw [htv] at hu
          by_cases hjl : j < l
          · rw [if_pos hjl] at hu
            rw [if_pos (by omega), List.getElem?_take, if_pos (by omega)]
            rw [List.getElem?_take, if_pos hjl] at hu
            simpa using hx j u hu
          · rw [if_neg hjl] at hu
            rw [if_neg (by omega)]
            have e1 : off + j - (off + l) = j - l := by omega
            rw [e1, List.getElem?_append, if_pos (by simp; omega)]
            exact hu
      · exact ⟨rfl, rfl, rfl, by simp, fun k _ hk => setRow_other w g k _ (fun e => hk (by simp [Value.ownBlock, e]))⟩

theorem cut3_run {t e : TypeId} {z : Value} {bytes : Nat} [ht : SliceTy P t e] [he : CellTy P e z bytes] (h : Rd w v vs) {kl kh km : IntKind} {l r m : Int} (h0 : 0 ≤ l) (hl : l ≤ r) (hr : r ≤ m) (hm : m ≤ vs.length) :
    ∃ u, (Instr.sliceAt t v (some (.int kl l)) (some (.int kh r)) (some (.int km m))).run P w = .ok u w := by
  obtain ⟨a, cap, rfl, _, ⟨_, hcap⟩, _⟩ := h
  obtain ⟨i, hi, hz, hsz, hby⟩ := he.info
  have h0r : 0 ≤ r := by omega
  have h0m : 0 ≤ m := by omega
  have hmc : m ≤ cap := by omega
  have hrm : r ≤ max m 0 := by omega
  have hlr : l ≤ max r 0 := by omega
  exact ⟨_, by simp [Instr.sliceAt, Instr.slice, run_underlying ht.under, Instr.sliceBounds, Instr.sliceBound, asIntOf, h0, h0r, h0m, hmc, hrm, hlr, sizeOf, typeInfo, hi, hsz]; rfl⟩
/-- v[:r][l:h] with r ≤ h: within the room -/
theorem cut_room_run {t e : TypeId} {z : Value} {bytes : Nat} [ht : SliceTy P t e] [he : CellTy P e z bytes] (h : Rd w v vs) {kl kh : IntKind} {q : Nat} {l r : Int} (h0 : 0 ≤ l) (hl : l ≤ r) (hr : r ≤ vs.length) :
    (Instr.sliceAt t (cut v 0 q) (some (.int kl l)) (some (.int kh r)) none).run P w = .ok (cut v l.toNat r.toNat) w := by
  obtain ⟨a, cap, rfl, _, ⟨_, hcap⟩, _⟩ := h
  obtain ⟨i, hi, hz, hsz, hby⟩ := he.info
  have h0r : 0 ≤ r := by omega
  have hrc : r ≤ cap := by omega
  have hlr : l ≤ max r 0 := by omega
  cases a with
  | none => simp [Instr.sliceAt, Instr.slice, run_underlying ht.under, Instr.sliceBounds, Instr.sliceBound, asIntOf, h0, h0r, hrc, hlr, sizeOf, typeInfo, hi, hsz, cut]
  | some a =>
    by_cases hc0 : cap = 0
    · have hl0 : l = 0 := by omega
      have hr0 : r = 0 := by omega
      subst hl0 hr0
      simp [Instr.sliceAt, Instr.slice, run_underlying ht.under, Instr.sliceBounds, Instr.sliceBound, asIntOf, sizeOf, typeInfo, hi, hsz, cut, hc0]
    · simp [Instr.sliceAt, Instr.slice, run_underlying ht.under, Instr.sliceBounds, Instr.sliceBound, asIntOf, h0, h0r, hrc, hlr, sizeOf, typeInfo, hi, hsz, cut, hc0, Addr.add]
end
section
variable {P : Program} {ops : Array Oper} {Q : Exit → Fm → World → Prop} {n : Nat} {f : Fm} {w : World} {dst : Option Tmp} {rest : List Oper} {ty : TypeId} {pos : String} {after : Array Edge} {g : Option (Nat × Bool)} {d : Nat}
theorem y_room {x lo hi : Operand} {t e : TypeId} {z : Value} {bytes : Nat} [ht : SliceTy P t e] [he : CellTy P e z bytes] {v : Value} {vs : List Value} {kl kh : IntKind} {q : Nat} {l r : Int}
    (hx : lk n f x = some (cut v 0 q)) (hlo : lk n f lo = some (.int kl l)) (hhi : lk n f hi = some (.int kh r)) (h : Rd w v vs) (h0 : 0 ≤ l) (hl : l ≤ r) (hr : r ≤ vs.length) :
    Yld P (evo n f) ⟨dst, .slice t x (some lo) (some hi) none, ty, pos, after, g⟩ w (cut v l.toNat r.toNat) := by
  replace hx := lk_evo hx
  replace hlo := lk_evo hlo
  replace hhi := lk_evo hhi
  constructor; simp [execOp, hx, hlo, hhi, cut_room_run h h0 hl hr]
theorem y_max {x y : Operand} {a b : Int} {ats : Array TypeId} (hx : lk n f x = some (.int .i64 a)) (hy : lk n f y = some (.int .i64 b)) :
    Yld P (evo n f) ⟨dst, .call ⟨.builtin .max, #[x, y], ats⟩, ty, pos, after, g⟩ w (.int .i64 (max a b)) := by
  replace hx := lk_evo hx
  replace hy := lk_evo hy
  have e : (if a < b then b else a) = max a b := by split <;> omega
  constructor; simp [execOp, resolve, invoke, builtin, Builtin.max_, Builtin.max2, hx, hy, e]
theorem s_cut3 {x lo hi mx : Operand} {t e : TypeId} {z : Value} {bytes : Nat} [ht : SliceTy P t e] [he : CellTy P e z bytes] {v : Value} {vs : List Value} {kl kh km : IntKind} {l r m : Int}
    (hw : Wants ⟨some d, .slice t x (some lo) (some hi) (some mx), ty, pos, after, g⟩ ops n f) (hd : Nat.ble (d + 1) n = true)
    (hx : lk n f x = some v) (hlo : lk n f lo = some (.int kl l)) (hhi : lk n f hi = some (.int kh r)) (hmx : lk n f mx = some (.int km m)) (h : Rd w v vs) (h0 : 0 ≤ l) (hl : l ≤ r) (hr : r ≤ m) (hm : m ≤ vs.length)
    (k : ∀ u, WL P ops Q rest n (.upd f d u) w) : WL P ops Q (⟨some d, .slice t x (some lo) (some hi) (some mx), ty, pos, after, g⟩ :: rest) n f w := by
  obtain ⟨u, hu⟩ := cut3_run (P := P) (t := t) h (kl := kl) (kh := kh) (km := km) h0 hl hr hm
  refine s_val hw hd ?_ (k u)
  simp [execOp, lk_evo hx, lk_evo hlo, lk_evo hhi, lk_evo hmx, hu]
theorem s_appendIn {B : Nat} {t e : TypeId} {z : Value} {bytes : Nat} [ht : SliceTy P t e] [he : CellTy P e z bytes] {x y : Operand} {v sv : Value} {vs news : List Value} {i : Nat}
    (hw : Wants ⟨some d, .call ⟨.builtin .append, #[x, y], #[t, t]⟩, ty, pos, after, g⟩ ops n f) (hd : Nat.ble (d + 1) n = true)
    (hx : lk n f x = some (cut v 0 i)) (hy : lk n f y = some sv) (hv : Own w B e v vs) (hi : i + news.length ≤ vs.length) (hs : Rd w sv news) (h1 : ∀ u ∈ news, u.oneCell' = true)
    (k : ∀ w', Own w' B e v (vs.take i ++ news ++ vs.drop (i + news.length)) → w.grownBy w' v.ownBlock → WL P ops Q rest n (.upd f d (cut v 0 (i + news.length))) w') :
    WL P ops Q (⟨some d, .call ⟨.builtin .append, #[x, y], #[t, t]⟩, ty, pos, after, g⟩ :: rest) n f w := by
  replace hx := lk_evo hx
  replace hy := lk_evo hy
  obtain ⟨w', hr, ho, hg⟩ := append_in_run (P := P) (t := t) (ty := ty) hv hi hs h1
  refine s_val hw hd ?_ (k w' ho hg)
  simp [execOp, resolve, invoke, builtin, hx, hy, hr]
theorem s_clear {B : Nat} {t e : TypeId} {z : Value} {bytes : Nat} [ht : SliceTy P t e] [he : CellTy P e z bytes] {x : Operand} {v : Value} {vs : List Value} {l : Nat}
    (hw : Wants ⟨none, .call ⟨.builtin .clear, #[x], #[t]⟩, ty, pos, after, g⟩ ops n f)
    (hx : lk n f x = some (cut v l vs.length)) (hv : Own w B e v vs) (hl : l ≤ vs.length)
    (k : ∀ w', Own w' B e v (vs.take l ++ List.replicate (vs.length - l) z) → w.grownBy w' v.ownBlock → WL P ops Q rest n f w') :
    WL P ops Q (⟨none, .call ⟨.builtin .clear, #[x], #[t]⟩, ty, pos, after, g⟩ :: rest) n f w := by
  replace hx := lk_evo hx
  obtain ⟨w', hr, ho, hg⟩ := clear_run (P := P) (t := t) (ty := ty) hv hl
  unfold Wants at hw
  refine ⟨wpList_step fun K hK => ?_⟩
  rw [if_pos hw]
  unfold Oper.wp
  have hrun : (execOp (evo n f) ⟨none, .call ⟨.builtin .clear, #[x], #[t]⟩, ty, pos, after, g⟩).run P w = .ok (.value (.tuple #[])) w' := by
    simp [execOp, resolve, invoke, builtin, hx, hr]
  rw [act_eval, hrun, Oper.upon_value]
  exact hK _ _ (k w' ho hg).out
end
section
variable {P : Program} {ops : Array Oper} {Q : Exit → Fm → World → Prop} {n : Nat} {f : Fm} {w : World} {S : World → Prop} {fuel : Nat} {listed : Array Bool}
/-- Two operations are ready: either may come up next. -/
theorem h_two (i i2 : Nat) {o o2 : Oper}
    (k : WL P ops (seqP (fun f' w' => S w' ∧ WH P ops S Q fuel (listed.setIfInBounds i true) n f' w') Q) [o] n f w)
    (k2 : WL P ops (seqP (fun f' w' => S w' ∧ WH P ops S Q fuel (listed.setIfInBounds i2 true) n f' w') Q) [o2] n f w)
    (hi : ops[i]? = some o := by rfl) (hi2 : ops[i2]? = some o2 := by rfl) (hr : Region.ready .any ops listed = [i, i2] := by kernel_rfl) : WH P ops S Q (fuel + 1) listed n f w := by
  refine ⟨wpAnyH_all hr (by simp) fun j hj => ?_⟩
  have key : ∀ (j : Nat) (o : Oper), ops[j]? = some o → WL P ops (seqP (fun f' w' => S w' ∧ WH P ops S Q fuel (listed.setIfInBounds j true) n f' w') Q) [o] n f w →
      wpOp P ops (lift n Q) j (fun a w => S w ∧ wpAnyH P .any ops (lift n Q) S fuel (listed.setIfInBounds j true) a w) (act n f.fn) w := by
    intro j o hi k
    have hk := k.out
    unfold wpList at hk
    have hnext : ∀ a w, wpList P ops (lift n (seqP (fun f' w' => S w' ∧ WH P ops S Q fuel (listed.setIfInBounds j true) n f' w') Q)) [] a w →
        S w ∧ wpAnyH P .any ops (lift n Q) S fuel (listed.setIfInBounds j true) a w := by
      rintro a w ⟨_, f', rfl, hb, hw⟩
      exact ⟨hb, hw.out⟩
    unfold wpOp
    simp only [hi]
    split
    · rename_i hw
      rw [if_pos hw] at hk
      rcases hk with hk | ⟨h1, a, w, h2⟩
      · exact .inl (wp_exits hnext (fun c a w h => absurd rfl (h.1 c)) (fun a w h => h) hk)
      · exact .inr ⟨h1, a, w, h2⟩
    · rename_i hw
      rw [if_neg hw] at hk
      exact hnext _ _ hk
  have hj : j = i ∨ j = i2 := by simpa using hj
  rcases hj with rfl | rfl
  · exact key _ _ hi k
  · exact key _ _ hi2 k2
end
end Go.Mem

/- The walk's own words, continued: the rows of an owned list, apart from the list itself; some of them picked. Over any program. -/
namespace Go.Mem
open Go.RowKit
set_option linter.unusedVariables false
/-- the rows vs, owned, each in a block of its own between B and E -/
structure Rws (w : World) (B E : Nat) (U : TypeId) (vs : List Value) (xss : List (List Int)) : Prop where
  one : ∀ u ∈ vs, u.oneCell' = true
  len : vs.length = xss.length
  row : ∀ (i : Nat) u xs, vs[i]? = some u → xss[i]? = some xs → OI w B U u xs
  lt : ∀ (i : Nat) u, vs[i]? = some u → ∀ g, u.ownBlock = some g → g < E
  apart : ∀ (i j : Nat) u u', i < j → vs[i]? = some u → vs[j]? = some u' → u.ownBlock = none ∨ u.ownBlock ≠ u'.ownBlock
section
variable {w w' : World} {B E : Nat} {T U : TypeId} {v : Value} {vs : List Value} {xss : List (List Int)}
theorem OM.rws (h : OM w B E T U v xss) : ∃ vs, Own w B T v vs ∧ Rws w B E U vs xss := by
  obtain ⟨vs, h1, h2, h3, h4, h5, h6⟩ := h.out
  exact ⟨vs, h1, h2, h3, h4, h5, h6⟩
theorem Rws.om (h : Rws w B E U vs xss) (ho : Own w B T v vs) : OM w B E T U v xss := ⟨vs, ho, h.one, h.len, h.row, h.lt, h.apart⟩
theorem Rws.below (h : Rws w B E U vs xss) (hb : Below w.heap.size w w') : Rws w' B E U vs xss := ⟨h.one, h.len, fun i u xs hu hx => (h.row i u xs hu hx).below hb, h.lt, h.apart⟩
theorem Rws.turn (h : Rws w B E U vs xss) {ws : List Value} (ho : Own w B T v ws) (hT : T ≠ U) (hg : w.grownBy w' v.ownBlock) : Rws w' B E U vs xss :=
  ⟨h.one, h.len, fun i u xs hu hx => (h.row i u xs hu hx).kept hg ((h.row i u xs hu hx).own.apart_type ho (fun e => hT e.symm)), h.lt, h.apart⟩
theorem Rws.il (h : Rws w B E U vs xss) {i : Nat} (hi : i < xss.length) : ∃ u, vs[i]? = some u ∧ OI w B U u (gr xss i) := by
  have hv : i < vs.length := by rw [h.len]; exact hi
  refine ⟨vs[i], by simp [hv], ?_⟩
  have := h.row i vs[i] xss[i] (by simp [hv]) (by simp [hi])
  simpa [gr, List.getD, hi] using this
/-- the rows with the numbers I, which climb -/
theorem Rws.pick (h : Rws w B E U vs xss) {I : List Nat} (hI : ∀ i ∈ I, i < xss.length) (hc : I.Pairwise (· < ·)) {z : Value} : Rws w B E U (I.map fun i => vs.getD i z) (I.map fun i : Nat => gr xss i) := by
  have key : ∀ (k : Nat) u, (I.map fun i => vs.getD i z)[k]? = some u → ∃ i, I[k]? = some i ∧ i < xss.length ∧ vs[i]? = some u := by
    intro k u hu
    rw [List.getElem?_map, Option.map_eq_some_iff] at hu
    obtain ⟨i, hi, e⟩ := hu
    have hil := hI i (List.mem_of_getElem? hi)
    have hvl : i < vs.length := by rw [h.len]; exact hil
    refine ⟨i, hi, hil, ?_⟩
    rw [← e]; simp [List.getD, hvl]
  refine ⟨fun u hu => ?_, by simp, fun k u xs hu hx => ?_, fun k u hu => ?_, fun a b u u' hab ha hb => ?_⟩
  · obtain ⟨k, hk, e⟩ := List.mem_iff_getElem.1 hu
    obtain ⟨i, _, _, hv⟩ := key k u (by rw [List.getElem?_eq_getElem hk, e])
    exact h.one u (List.mem_of_getElem? hv)
  · obtain ⟨i, hi, hil, hv⟩ := key k u hu
    rw [List.getElem?_map, hi] at hx
    simp only [Option.map_some, Option.some.injEq] at hx
    have := h.row i u xss[i] hv (by simp [hil])
    rw [← hx]
    simpa [gr, List.getD, hil] using this
  · obtain ⟨i, _, _, hv⟩ := key k u hu
    exact h.lt i u hv
  · obtain ⟨i, hi, _, hv⟩ := key a u ha
    obtain ⟨j, hj, _, hv'⟩ := key b u' hb
    rw [List.pairwise_iff_getElem] at hc
    have hal := (List.getElem?_eq_some_iff.1 hi).1
    have hbl := (List.getElem?_eq_some_iff.1 hj).1
    have hlt := hc a b hal hbl hab
    rw [(List.getElem?_eq_some_iff.1 hi).2, (List.getElem?_eq_some_iff.1 hj).2] at hlt
    exact h.apart i j u u' hlt hv hv'
end
/-- the numbers below k for which p does not hold -/
def left (p : List Int → Bool) (xss : List (List Int)) (k : Nat) : List Nat := (List.range k).filter fun i : Nat => !p (gr xss i)
section
variable {p : List Int → Bool} {xss : List (List Int)} {k : Nat}
theorem left_hit (h : p (gr xss k) = true) : left p xss (k + 1) = left p xss k := by
  unfold left; rw [List.range_succ, List.filter_append]; simp [h]
theorem left_miss (h : p (gr xss k) = false) : left p xss (k + 1) = left p xss k ++ [k] := by
  unfold left; rw [List.range_succ, List.filter_append]; simp [h]
theorem left_lt : ∀ i ∈ left p xss k, i < k := fun i hi => by
  unfold left at hi; exact List.mem_range.1 (List.mem_filter.1 hi).1
theorem left_climb : (left p xss k).Pairwise (· < ·) := by
  unfold left; exact List.Pairwise.filter _ List.pairwise_lt_range
theorem left_le : (left p xss k).length ≤ k := by
  unfold left; have := List.length_filter_le (fun i : Nat => !p (gr xss i)) (List.range k); simpa using this
theorem left_all (h : ∀ i, i < k → p (gr xss i) = false) : left p xss k = List.range k := by
  unfold left
  rw [List.filter_eq_self]
  intro i hi
  simp [h i (List.mem_range.1 hi)]
theorem left_gr (p : List Int → Bool) (xss : List (List Int)) : (left p xss xss.length).map (fun i : Nat => gr xss i) = xss.filter fun xs => !p xs := by
  have e : (List.range xss.length).map (fun i : Nat => gr xss i) = xss := by
    refine List.ext_getElem (by simp) fun i h1 h2 => ?_
    simp [gr, List.getD, h2]
  unfold left
  conv => rhs; rw [← e]
  rw [List.filter_map]
  rfl
end
end Go.Mem
