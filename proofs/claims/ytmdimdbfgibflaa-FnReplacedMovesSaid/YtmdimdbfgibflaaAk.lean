/- Appending, with what becomes of a slice that shares the appended one's elements; rows laid in an owned list of rows. -/
import Derived.Test.YtmdimdbfgibflaaTw
import Derived.Test.YtmdimdbfgibflaaF46
namespace Go.Mem
open Go.RowKit
set_option linter.unusedVariables false
set_option linter.unusedSimpArgs false
section
variable {P : Program} {w w' : World} {B : Nat} {v : Value} {vs : List Value}
theorem append_run2 {t ty e : TypeId} {z : Value} {bytes : Nat} [ht : SliceTy P t e] [he : CellTy P e z bytes] {sv : Value} {news : List Value} (h : Own w B e v vs) (hsrc : Rd w sv news) (h1 : ∀ u ∈ news, u.oneCell' = true)
    (hlen : vs.length + news.length ≤ 1000000000000) (hB : B ≤ w.heap.size) :
    ∃ v' w', (Builtin.append_ #[t, t] ty #[v, sv]).run P w = .ok v' w' ∧ Own w' B e v' (vs ++ news) ∧ w.grownBy w' v.ownBlock ∧ (v'.ownBlock = v.ownBlock ∨ v'.ownBlock = some w.heap.size) ∧ ((∃ a cap, v = .slice a vs.length cap ∧ v' = .slice a (vs.length + news.length) cap) ∨ (w.grownBy w' none ∧ v'.ownBlock = some w.heap.size)) := by
  obtain ⟨i, hi, hz, hsz, hby⟩ := he.info
  have hf := firstCells_run (P := P) hsrc
  have hfd := firstCells_run (P := P) (loadCells_drew hsrc)
  have hlo : (Builtin.lenOf sv).run P w = .ok news.length w := by
    obtain ⟨a, cap, rfl, _⟩ := hsrc
    simp [Builtin.lenOf]
  have hz1 : z.cells = #[z] := by have := he.one; cases z <;> first | rfl | simp [Value.oneCell'] at this
  have hb24 := he.small
  have grow : ∀ (base : Option Addr) (old : Nat), v = .slice base vs.length old → old < vs.length + news.length →
      ∃ v' w', (Builtin.append_ #[t, t] ty #[v, sv]).run P w = .ok v' w' ∧ Own w' B e v' (vs ++ news) ∧ w.grownBy w' v.ownBlock ∧ (v'.ownBlock = v.ownBlock ∨ v'.ownBlock = some w.heap.size) ∧ ((∃ a cap, v = .slice a vs.length cap ∧ v' = .slice a (vs.length + news.length) cap) ∨ (w.grownBy w' none ∧ v'.ownBlock = some w.heap.size)) := by
    intro base old hv ho
    have hrd : Rd w v vs := h.rd
    have hold := firstCells_run (P := P) (loadCells_drew hrd)
    have hfit : Builtin.nextslicecap (vs.length + news.length) old * bytes ≤ 281474976710656 := by
      refine growslice_fits ho ?_
      have : (vs.length + news.length) * bytes ≤ 1000000000000 * 24 := Nat.mul_le_mul hlen hb24
      omega
    have hge := grownCap_ge w (vs.length + news.length) old e
    have hcm : grownCap w (vs.length + news.length) old e ≤ maxLen := grownCap_le_maxLen w _ old e (by simp [maxLen]; omega)
    refine ⟨.slice (some ⟨w.heap.size, 0, none⟩) (vs.length + news.length) (grownCap w (vs.length + news.length) old e),
      w.drew.alloc (.cells (vs.toArray ++ news.toArray ++ Builtin.zeroCells z.cells (grownCap w (vs.length + news.length) old e - (vs.length + news.length))) e), ?_, ?_, ?_, .inr rfl, .inr ⟨?_, rfl⟩⟩
    · have hn : ¬ (vs.length + news.length ≤ old) := by omega
      have h63' : ¬ (9223372036854775807 < ((vs.length : Int) + (news.length : Int))) := by omega
      have h48' : ¬ (281474976710656 < Builtin.nextslicecap (vs.length + news.length) old * bytes) := by omega
      have hlo' := hlo
      rw [hv] at hold ⊢
      simp [Builtin.append_, run_underlying ht.under, sizeOf, typeInfo, zeroValue, hi, hz, hsz, hby, hlo, hn, h63', h48', Question.forced, hfd, hold, newRow, grownCap]
      congr 2
      apply Array.ext'
      simp [List.append_assoc]
    · refine .inr ⟨w.heap.size, 0, _, _, by simp, hB, heap_alloc_new w.drew _, by simpa using hge, hcm, ?_, ?_⟩
      · simp only [Array.size_append, List.size_toArray, size_zeroCells, hz1, List.size_toArray, List.length_cons, List.length_nil]
        omega
      · intro j u hu
        simp only [Nat.zero_add]
        rw [Array.getElem?_append_left (by
          have := (List.getElem?_eq_some_iff.1 hu).1
          simpa using this)]
        simpa using hu
    · exact ⟨rfl, rfl, rfl, by simp, fun k hk _ => Below.heap_alloc w.drew _ k hk⟩
    · exact ⟨rfl, rfl, rfl, by simp, fun k hk _ => Below.heap_alloc w.drew _ k hk⟩
  rcases h with ⟨rfl, rfl⟩ | ⟨g, off, cap, cur, rfl, hb, hg, hl, hc, hs, hx⟩
  · by_cases hm : news = []
    · subst hm
      refine ⟨.slice none 0 0, w, ?_, Own.nil w B e, ⟨rfl, rfl, rfl, Nat.le_refl _, fun _ _ _ => rfl⟩, .inl rfl, .inl ⟨none, 0, rfl, rfl⟩⟩
      simp only [List.length_nil] at hf hlo
      simp [Builtin.append_, run_underlying ht.under, sizeOf, typeInfo, hi, hsz, hlo, hf]
    · have : 0 < news.length := List.length_pos_iff.2 hm
      exact grow none 0 rfl (by simpa using this)
  · by_cases hroom : vs.length + news.length ≤ cap
    · refine ⟨.slice (some ⟨g, off, none⟩) (vs.length + news.length) cap, w.setRow g (cur.toList.take (off + vs.length) ++ news ++ cur.toList.drop (off + vs.length + news.length)).toArray, ?_, ?_, ?_, .inl rfl, .inl ⟨_, _, rfl, rfl⟩⟩
      · have hst := run_storeCells_at P g (off + vs.length) e news 0 cur w hg (by omega) h1
        simp only [Nat.add_zero] at hst
        simp [Builtin.append_, run_underlying ht.under, sizeOf, typeInfo, hi, hsz, hlo, hroom, hf, Addr.add_lit, hst]
      · refine .inr ⟨g, off, cap, _, by simp, hb, setRow_heap w g cur _ e _ hg, by simpa using hroom, hc, ?_, ?_⟩
        · simp only [List.size_toArray, List.length_append, List.length_take, List.length_drop, Array.length_toList]
          omega
        · intro j u hu
          simp only [List.getElem?_toArray]
          rw [List.getElem?_append] at hu
          rw [List.append_assoc, List.getElem?_append]
          have htl : (cur.toList.take (off + vs.length)).length = off + vs.length := by simp; omega
          rw [htl]
          by_cases hj : j < vs.length
          · rw [if_pos hj] at hu
            rw [if_pos (by omega), List.getElem?_take, if_pos (by omega)]
            simpa using hx j u hu
          · rw [if_neg hj] at hu
            rw [if_neg (by omega)]
            have e1 : off + j - (off + vs.length) = j - vs.length := by omega
            rw [e1, List.getElem?_append]
            have hlt := (List.getElem?_eq_some_iff.1 hu).1
            rw [if_pos hlt]
            exact hu
      · exact ⟨rfl, rfl, rfl, by simp, fun k _ hk => setRow_other w g k _ (fun e => hk (by simp [Value.ownBlock, e]))⟩
    · exact grow _ cap rfl (by omega)

end
section
variable {P : Program} {ops : Array Oper} {Q : Exit → Fm → World → Prop} {n : Nat} {f : Fm} {w : World} {rest : List Oper} {d : Nat} {ty : TypeId} {pos : String} {after : Array Edge} {g : Option (Nat × Bool)}
theorem s_appendK {B : Nat} {t e : TypeId} {z : Value} {bytes : Nat} [ht : SliceTy P t e] [he : CellTy P e z bytes] {x y : Operand} {v sv : Value} {xs ys : List Int}
    (hw : Wants ⟨some d, .call ⟨.builtin .append, #[x, y], #[t, t]⟩, ty, pos, after, g⟩ ops n f) (hd : Nat.ble (d + 1) n = true)
    (hx : lk n f x = some v) (hy : lk n f y = some sv) (hv : OI w B e v xs) (hs : IL w sv ys) (hlen : xs.length + ys.length ≤ 1000000000000) (hB : B ≤ w.heap.size)
    (k : ∀ v' w', OI w' B e v' (xs ++ ys) → SV v' (xs.length + ys.length) → w.grownBy w' v.ownBlock → (v'.ownBlock = v.ownBlock ∨ v'.ownBlock = some w.heap.size) →
      ((∃ a cap, v = .slice a xs.length cap ∧ v' = .slice a (xs.length + ys.length) cap) ∨ (w.grownBy w' none ∧ v'.ownBlock = some w.heap.size)) → WL P ops Q rest n (.upd f d v') w') :
    WL P ops Q (⟨some d, .call ⟨.builtin .append, #[x, y], #[t, t]⟩, ty, pos, after, g⟩ :: rest) n f w := by
  replace hx := lk_evo hx
  replace hy := lk_evo hy
  obtain ⟨v', w', hr, ho, hg, hb, hc⟩ := append_run2 (P := P) (t := t) (ty := ty) hv.own hs.rd (by intro u hu; obtain ⟨a, _, rfl⟩ := List.mem_map.1 hu; rfl) (by simpa using hlen) hB
  have h : OI w' B e v' (xs ++ ys) := ⟨by simpa using ho⟩
  refine s_val hw hd ?_ (k v' w' h (by simpa using h.sv) hg hb (by simpa using hc))
  simp [execOp, resolve, invoke, builtin, hx, hy, hr]
end
/-- the slice v (elements wd) is the beginning of u (elements xs), or lies elsewhere -/
def Al (w : World) (B : Nat) (T : TypeId) (u : Value) (xs : List Int) (v : Value) (wd : List Int) : Prop :=
  (∃ a cap, u = .slice a xs.length cap ∧ v = .slice a wd.length cap ∧ wd.length ≤ xs.length ∧ xs.take wd.length = wd) ∨ (OI w B T v wd ∧ Ap v u)
section
variable {w w' : World} {B : Nat} {T : TypeId} {u u' v : Value} {xs ys wd : List Int}
theorem cut_pre {a : Option Addr} {l cap L : Nat} : cut (.slice a l cap) 0 L = .slice a L cap := by
  cases a <;> simp [cut, Addr.add]
theorem Al.own (h : Al w B T u xs v wd) (hu : OI w B T u xs) : OI w B T v wd := by
  rcases h with ⟨a, cap, rfl, rfl, hl, ht⟩ | ⟨h2, _⟩
  · have := hu.cut (l := 0) (r := wd.length) (by omega) hl
    rw [cut_pre, ht] at this
    exact this
  · exact h2
theorem Al.keep (h : Al w B T u xs v wd) (k : OI w B T v wd → OI w' B T v wd) : Al w' B T u xs v wd := by
  rcases h with h | ⟨h2, h3⟩
  · exact .inl h
  · exact .inr ⟨k h2, h3⟩
/-- u has been appended to -/
theorem Al.app (h : Al w B T u xs v wd) (hu : OI w B T u xs) (hg : w.grownBy w' u.ownBlock) (hb : u'.ownBlock = u.ownBlock ∨ u'.ownBlock = some w.heap.size)
    (hc : (∃ a cap, u = .slice a xs.length cap ∧ u' = .slice a (xs.length + ys.length) cap) ∨ (w.grownBy w' none ∧ u'.ownBlock = some w.heap.size)) : Al w' B T u' (xs ++ ys) v wd := by
  rcases hc with ⟨a, cap, e1, e2⟩ | ⟨hg2, e2⟩
  · rcases h with ⟨a', cap', e3, e4, h5, h6⟩ | ⟨h2, h3⟩
    · rw [e1] at e3
      injection e3 with f1 f2 f3
      subst f1 f3
      exact .inl ⟨a, cap, by rw [e2, List.length_append], e4, by rw [List.length_append]; omega, by rw [List.take_append_of_le_length h5]; exact h6⟩
    · exact .inr ⟨h2.kept hg h3, h3.grow (fun g hg => (h2.lt g hg).2) hb⟩
  · have h2 := h.own hu
    exact .inr ⟨h2.below (below_of_grownBy hg2), Ap.new (fun g hg => (h2.lt g hg).2) e2⟩
/-- the slice itself has been appended to -/
theorem Al.start (hu : OI w B T u xs) (hc : (∃ a cap, u = .slice a xs.length cap ∧ u' = .slice a (xs.length + ys.length) cap) ∨ (w.grownBy w' none ∧ u'.ownBlock = some w.heap.size)) : Al w' B T u' (xs ++ ys) u xs := by
  rcases hc with ⟨a, cap, e1, e2⟩ | ⟨hg2, e2⟩
  · exact .inl ⟨a, cap, by rw [e2, List.length_append], e1, by rw [List.length_append]; omega, List.take_left⟩
  · exact .inr ⟨hu.below (below_of_grownBy hg2), Ap.new (fun g hg => (hu.lt g hg).2) e2⟩
end
section
variable {w w' : World} {B E : Nat} {T U : TypeId} {v u : Value} {vs us : List Value} {xss : List (List Int)} {xs : List Int}
/-- a fresh row takes the place of another one -/
theorem Rws.put (h : Rws w B E U vs xss) (hBE : B ≤ E) (hu : OI w E U u xs) (j : Nat) (hE : E ≤ w.heap.size) : Rws w B w.heap.size U (vs.set j u) (xss.set j xs) := by
  have hul : ∀ g, u.ownBlock = some g → E ≤ g ∧ g < w.heap.size := fun g hg => hu.lt g hg
  have hlt : ∀ (i : Nat) a, (vs.set j u)[i]? = some a → (i = j ∧ a = u) ∨ (i ≠ j ∧ vs[i]? = some a) := by
    intro i a ha
    rw [List.getElem?_set] at ha
    by_cases e : j = i
    · subst e
      rw [if_pos rfl] at ha
      split at ha
      · exact .inl ⟨rfl, (Option.some.inj ha).symm⟩
      · cases ha
    · rw [if_neg e] at ha; exact .inr ⟨fun e' => e e'.symm, ha⟩
  have hfar : ∀ (i : Nat) a, vs[i]? = some a → a.ownBlock = none ∨ a.ownBlock ≠ u.ownBlock := fun i a ha => by
    cases e : a.ownBlock with
    | none => exact .inl rfl
    | some k =>
      refine .inr fun e2 => ?_
      have h1 := h.lt i a ha k e
      have h2 := hul k e2.symm
      omega
  refine ⟨fun a ha => ?_, by simp [h.len], fun i a ys ha hy => ?_, fun i a ha g hg => ?_, fun i k a b hik ha hb => ?_⟩
  · rcases List.mem_or_eq_of_mem_set ha with h1 | h1
    · exact h.one a h1
    · subst h1; exact hu.sv.one
  · rcases hlt i a ha with ⟨rfl, rfl⟩ | ⟨hij, h1⟩
    · have hj : i < xss.length := by
        have := (List.getElem?_eq_some_iff.1 hy).1
        simpa using this
      rw [List.getElem?_set, if_pos rfl, if_pos hj] at hy
      obtain rfl := Option.some.inj hy
      exact hu.mono hBE
    · rw [List.getElem?_set, if_neg (fun e => hij e.symm)] at hy
      exact h.row i a ys h1 hy
  · rcases hlt i a ha with ⟨rfl, rfl⟩ | ⟨_, h1⟩
    · exact (hul g hg).2
    · exact Nat.lt_of_lt_of_le (h.lt i a h1 g hg) hE
  · rcases hlt i a ha with ⟨rfl, rfl⟩ | ⟨hij, h1⟩
    · rcases hlt k b hb with ⟨e, rfl⟩ | ⟨_, h2⟩
      · omega
      · exact Ap.symm (hfar k b h2)
    · rcases hlt k b hb with ⟨rfl, rfl⟩ | ⟨_, h2⟩
      · exact hfar i a h1
      · exact h.apart i k a b hik h1 h2
end
/-- a fresh row is laid in an owned list of rows -/
theorem s_storePut {P : Program} {ops : Array Oper} {Q : Exit → Fm → World → Prop} {n : Nat} {f : Fm} {w : World} {rest : List Oper} {ty : TypeId} {pos : String} {after : Array Edge} {g : Option (Nat × Bool)}
    {B E : Nat} {e U : TypeId} {z : Value} {bytes : Nat} [he : CellTy P e z bytes] {x y : Operand} {v u : Value} {xss : List (List Int)} {xs : List Int} {j : Int}
    (hw : Wants ⟨none, .store e x y, ty, pos, after, g⟩ ops n f)
    (hx : lk n f x = some (.pointer (some (addrOf v j.toNat)))) (hy : lk n f y = some u) (hv : OM w B E e U v xss) (hBE : B ≤ E) (hE : E ≤ w.heap.size) (hu : OI w E U u xs) (hT : e ≠ U) (h0 : 0 ≤ j) (hj : j < xss.length)
    (k : ∀ w', OM w' B w'.heap.size e U v (xss.set j.toNat xs) → OI w' E U u xs → w.grownBy w' v.ownBlock → (∀ g, v.ownBlock = some g → B ≤ g) → (∀ {B2 : Nat} {a : Value} {zs : List Int}, OI w B2 U a zs → OI w' B2 U a zs) → w'.cell? (addrOf v j.toNat) = some u → WL P ops Q rest n f w') :
    WL P ops Q (⟨none, .store e x y, ty, pos, after, g⟩ :: rest) n f w := by
  obtain ⟨vs, ho, hr⟩ := hv.rws
  have hl := hr.len
  refine s_store hw hx hy hu.sv.one ho (by omega) fun w' ho' hg => ?_
  have keep : ∀ {B2 : Nat} {a : Value} {zs : List Int}, OI w B2 U a zs → OI w' B2 U a zs := fun h => h.kept hg (h.own.apart_type ho (fun e => hT e.symm))
  exact k w' (((hr.put hBE hu j.toNat hE).turn' ho hT hg).mono' (Nat.le_refl _) hg.size |>.om ho') (keep hu) hg (fun g hg => (ho.lt g hg).1) keep (ho'.rd.cell (by rw [List.getElem?_set, if_pos rfl, if_pos (by omega)]))
theorem gr_set_same {xss : List (List Int)} {i : Nat} {ys : List Int} (h : i < xss.length) : gr (xss.set i ys) i = ys := by simp [gr, List.getD, h]
end Go.Mem
