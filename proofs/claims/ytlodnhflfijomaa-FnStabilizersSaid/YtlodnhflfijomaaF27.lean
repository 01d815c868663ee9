/- Contracts: StabilizerOf, on both sides. -/
import Derived.Test.YtlodnhflfijomaaF26
namespace Go.Mem
open Go.RowKit
set_option linter.unusedVariables false
section
variable {w w' : World} {B B' E : Nat} {U : TypeId} {vs : List Value} {xss : List (List Int)}
theorem Rws.mono (h : Rws w B E U vs xss) (hB : B' ≤ B) : Rws w B' E U vs xss := ⟨h.one, h.len, fun i u xs hu hx => (h.row i u xs hu hx).mono hB, h.lt, h.apart⟩
end
section
variable {P : Program} {ops : Array Oper} {Q : Exit → Fm → World → Prop} {n : Nat} {f : Fm} {w : World} {rest : List Oper} {ty : TypeId} {pos : String} {after : Array Edge} {g : Option (Nat × Bool)} {d : Nat}
/-- a variable of a plain type -/
theorem s_allocC {B : Nat} {e : TypeId} {z : Value} {bytes : Nat} [he : CellTy P e z bytes]
    (hw : Wants ⟨some d, .alloc e, ty, pos, after, g⟩ ops n f) (hd : Nat.ble (d + 1) n = true) (hB : B ≤ w.heap.size)
    (k : ∀ w' p, Bx w' B p e z → w.grownBy w' none → p.block = w.heap.size → WL P ops Q rest n (.upd f d (.pointer (some p))) w') :
    WL P ops Q (⟨some d, .alloc e, ty, pos, after, g⟩ :: rest) n f w := by
  obtain ⟨i, hi, hz, _, _⟩ := he.info
  have hz1 : z.cells = #[z] := by have := he.one; cases z <;> first | rfl | simp [Value.oneCell'] at this
  refine s_val hw hd (v := .pointer (some ⟨w.heap.size, 0, none⟩)) (w' := w.alloc (.cells #[z] e)) ?_ (k _ ⟨w.heap.size, 0, none⟩ ⟨rfl, rfl, hB, heap_alloc_new w _⟩ (World.grownBy_alloc w _ none) rfl)
  simp [execOp, Instr.alloc, newVar, newRow, zeroValue, typeInfo, hi, hz, hz1]
end
section
variable {ms : List (List Int)} {i a : Int}
/-- the automorphisms that keep a face -/
def stabF (ms : List (List Int)) (i a : Int) (p : List Int) : Bool := decide (gi (facL ms i) (gi p (idxOf (facL ms i) a)) = a)
noncomputable def stab (ms : List (List Int)) (i a : Int) : List (List Int) := if rkC ms i = 0 ∧ a ∈ facL ms i then (auts ms).filter (stabF ms i a) else []
noncomputable def stabC (ms : List (List Int)) (i a : Int) : Int := if rkC ms i = 0 then (if a ∈ facL ms i then 0 else 2) else rkC ms i
theorem stab_1 (h : rkC ms i ≠ 0) : stab ms i a = [] ∧ stabC ms i a = rkC ms i := ⟨if_neg fun e => h e.1, if_neg h⟩
theorem stab_2 (h : rkC ms i = 0) (ha : ¬ a ∈ facL ms i) : stab ms i a = [] ∧ stabC ms i a = 2 := ⟨if_neg fun e => ha e.2, by unfold stabC; rw [if_pos h, if_neg ha]⟩
theorem stab_3 (h : rkC ms i = 0) (ha : a ∈ facL ms i) : stab ms i a = (auts ms).filter (stabF ms i a) ∧ stabC ms i a = 0 := ⟨if_pos ⟨h, ha⟩, by unfold stabC; rw [if_pos h, if_pos ha]⟩
theorem stab_len (ms : List (List Int)) (i a : Int) : 1 + tot (stab ms i a) ≤ 4000000000000000000 := by
  unfold stab
  split
  · rename_i h
    obtain ⟨hm, _⟩ := rkC_0 h.1
    have h4 := hm.m0.f400
    have hal := auts_le hm
    have hf := List.length_filter_le (stabF ms i a) (auts ms)
    refine rows_tot (n := 1000) (by omega) (fun xs hx => ?_) (by omega)
    have := ((mem_auts hm).1 (List.mem_filter.1 hx).1).len
    omega
  · simp [tot]
end
end Go.Mem
namespace Go.Proofs.Ytlodnhflfijomaa
open Go.Mem Go.RowKit
set_option linter.unusedVariables false

set_option maxHeartbeats 8000000 in
set_option maxRecDepth 100000 in
theorem specStabilizerOf_any (v : Value) (ms : List (List Int)) (i : Int) (a : Int) (w : World) (hv : RL w v ms) :
    Ret Try.prog 62 #[.agg #[v], .int .i64 i, .int .i64 a] w fun r w' => ∃ x, r = .tuple #[x, .int .i64 (stabC ms i a)] ∧ OM w' w.heap.size w'.heap.size 40 2 x (stab ms i a) ∧ Below w.heap.size w w' := by
  have shv := hv.sv
  have hb := Below.refl w.heap.size w
  refine enter3 59 Try.func62 rfl Try.ntmps62 rfl (fun fr => ?_)
  refine go ?_
  refine s_box (wn rfl) rfl rfl (agg_cells shv) (fun w1 hbx _ hp hg => ?_)
  have hb1 := below_of_grownBy hg
  have sw1 := hb1.size
  replace hv := hv.below hb1
  replace hb := hb.trans (hb1.mono hb.size)
  clear hg hp hb1
  generalize (⟨w.heap.size, 0, none⟩ : Addr) = p at *
  refine go ?_
  refine s_call2 (wn rfl) rfl rfl rfl (l06Code_any _ _ i _ hv) ?_
  rintro _ w2 ⟨rfl, hb2⟩
  have sw2 := hb2.size
  replace hv := hv.below hb2
  replace hbx := cell_below hbx hb2
  replace hb := hb.trans (hb2.mono hb.size)
  have h20 : (2 : Int) ≠ 0 := by decide
  by_cases h : rkC ms i = 0
  rotate_left
  · have h' : ¬ (rkC ms i = 0) := h
    have h2 : rkC ms i ≠ 0 := h
    have e := stab_1 (a := a) h
    refine go ?_
    exact end_two Try.results62 rfl rfl ⟨.slice none 0 0, by rw [e.2], by rw [e.1]; exact OM.nil _ _ _ _ _, hb⟩
  have h' : ¬ (rkC ms i ≠ 0) := fun h' => h' h
  obtain ⟨hm, hi⟩ := rkC_0 h
  have h4 := hm.m0.f400
  have hfc := facC_pos hm i
  have hal := auts_le hm
  refine go ?_
  refine s_call2 (wy rfl rfl rfl rfl rfl known) rfl rfl rfl (l02Faces_any _ _ i _ hv hm hi) ?_
  rintro lb w3 ⟨hl, hb3⟩
  have sw3 := hb3.size
  replace hv := hv.below hb3
  replace hbx := cell_below hbx hb3
  replace hb := hb.trans (hb3.mono hb.size)
  refine go ?_
  refine s_call2 (wy rfl rfl rfl rfl rfl known) rfl rfl rfl (l01Has_any _ _ a _ hl.il) ?_
  rintro _ _ ⟨rfl, rfl⟩
  refine splitb (decide (a ∈ facL ms i)) (fun ha => ?_) (fun ha => ?_)
  rotate_left
  · have e := stab_2 h (of_decide_eq_false ha)
    refine go ?_
    exact end_two Try.results62 rfl rfl ⟨.slice none 0 0, by rw [e.2], by rw [e.1]; exact OM.nil _ _ _ _ _, hb⟩
  have ha' := of_decide_eq_true ha
  have e := stab_3 h ha'
  have hs0 := hb.size
  have har : 0 ≤ a ∧ a < facC ms i := (facL_all hm i).mem a ha'
  have hfl := facL_hit hm i har.1 har.2
  have hfal : (facA ms i).length = (auts ms).length := by simp [facA]
  refine go ?_
  refine s_call1 (wn rfl) rfl rfl (l06All_any _ _ _ hv hm) ?_
  rintro x w4 ⟨hx, hb4⟩
  have sw4 := hb4.size
  replace hv := hv.below hb4
  replace hbx := cell_below hbx hb4
  replace hl := hl.below hb4
  replace hb := hb.trans (hb4.mono hb.size)
  have hauts : covers ms ms (nf ms) = auts ms := rfl
  rw [hauts] at hx
  have sbs1 := hb.size
  have hv_b1 := hv
  have hbx_b1 := hbx
  have hl_b1 := hl
  have hx_b1 := hx
  have hbB1 := Below.refl w4.heap.size w4
  obtain ⟨vs, gx, hxr⟩ := hx_b1.rws
  have hvl := hxr.len
  refine go ?_
  refine s_build (B := w4.heap.size) [] (wn rfl) rfl (by simp) (by decide) rfl (by simp) (Nat.le_refl _) (fun ob w5 ho hg5 _ => ?_)
  have hb5 := below_of_grownBy hg5
  have sw5 := hb5.size
  replace hv := hv.below hb5
  replace hbx := cell_below hbx hb5
  replace hl := hl.below hb5
  replace hx := hx.below hb5
  replace hbB1 := hbB1.trans (hb5.mono hbB1.size)
  have holt := ho.lt
  refine go ?_
  refine s_call3 (wn rfl) rfl rfl rfl rfl (l06Faces_any _ _ _ i _ _ hv hx.rl hm hi rfl) ?_
  rintro y w6 ⟨hy, hb6⟩
  have sw6 := hb6.size
  replace hv := hv.below hb6
  replace hbx := cell_below hbx hb6
  replace hl := hl.below hb6
  replace hx := hx.below hb6
  replace hbB1 := hbB1.trans (hb6.mono hbB1.size)
  have hylt := hy.ownlt
  have szy := hb6.size
  replace ho := ho.below hb6
  have sy := hy.sv
  refine go ?_
  refine w_loop (fun kk fr w' => ∃ (q : Nat) (ob : Value), kk = (auts ms).length - q ∧ q ≤ (auts ms).length ∧ fr 2 = .int .i64 a ∧ fr 9 = x ∧ fr 10 = ob ∧ fr 11 = y ∧ fr 12 = .int .i64 q ∧ (Own w' w4.heap.size 40 ob ((left (fun p => !stabF ms i a p) (auts ms) q).map (fun j : Nat => vs.getD j (Value.slice none 0 0)))) ∧ (OM w' w5.heap.size w6.heap.size 40 2 y (facA ms i)) ∧ (∀ g, ob.ownBlock = some g → g < w5.heap.size ∨ w6.heap.size ≤ g) ∧ (w6.heap.size ≤ w'.heap.size) ∧ Below w4.heap.size w4 w') ((auts ms).length)
    ⟨0, ob, rfl, Nat.zero_le _, rfl, rfl, rfl, rfl, rfl, ho, hy, fun g hg => .inl (holt g hg).2, Nat.le_refl _, hbB1⟩ ?_
  rintro kk fr w7 ⟨q, ob, rfl, hq, f2, f9, f10, f11, f12, ho, hy, hol, hsz, hbB1⟩
  have sw7 := hbB1.size
  have hv := hv_b1.below hbB1
  have hbx := cell_below hbx_b1 hbB1
  have hl := hl_b1.below hbB1
  have hx := hx_b1.below hbB1
  have shy := hy.sv
  have sx := hx.sv
  refine know (t := 2) f2 ?_; refine know (t := 9) f9 ?_; refine know (t := 10) f10 ?_; refine know (t := 11) f11 ?_; refine know (t := 12) f12 ?_
  refine go ?_
  refine cond_dec rfl (fun hlt => ?_) (fun hge => ?_)
  · have hp := auts_gr hm (k := q) (by omega)
    have hpl := hp.len
    obtain ⟨u, hu, hcu⟩ := hy.row (j := (q : Int)) (by omega) (by omega)
    have su := hu.sv
    have hrow : gr (facA ms i) q = symRow (facL ms i) (facC ms i).toNat (gr (auts ms) q) := by
      have hq : q < (auts ms).length := by omega
      simp [facA, gr, List.getD, hq]
    have hrl : (gr (facA ms i) q).length = (facC ms i).toNat := by rw [hrow, length_symRow]
    have hval : gi (gr (facA ms i) q) a = gi (facL ms i) (gi (gr (auts ms) q) (idxOf (facL ms i) a)) := by
      rw [hrow]; unfold symRow; rw [gi_range_map har.1 (by omega), show ((a.toNat : Nat) : Int) = a by omega]
    have hlle := left_le (p := fun p => !stabF ms i a p) (xss := auts ms) (k := q)
    refine go ?_
    rw [hval]
    refine cond_dec rfl (fun he => ?_) (fun he => ?_)
    · have hleft := left_miss (p := fun p => !stabF ms i a p) (xss := auts ms) (k := q) (by simp [stabF, he])
      obtain ⟨u2, hu2, hou2⟩ := hxr.il (i := q) (by omega)
      have hcu2 := cell_below (gx.rd.cell hu2) hbB1
      have hto : ((q : Int)).toNat = q := by omega
      rw [← hto] at hcu2
      have one2 := hou2.sv.one
      refine go ?_
      have szq8 := hbB1.size
      refine s_build1V (B := w4.heap.size) (wn rfl) rfl rfl one2 szq8 (fun tb w8 ht st hg8 _ => ?_)
      have hb8 := below_of_grownBy hg8
      replace ho := ho.below hb8
      have sw8 := hb8.size
      replace hv := hv.below hb8
      replace hbx := cell_below hbx hb8
      replace hl := hl.below hb8
      replace hx := hx.below hb8
      replace hy := hy.below hb8
      replace hbB1 := hbB1.trans (hb8.mono hbB1.size)
      have szq9 := hbB1.size
      refine s_append (wn rfl) rfl rfl rfl ho ht.rd (by intro b hb; simp at hb; subst hb; exact one2) (by simp; omega) szq9 (fun ob' w9 hoN hgN hat => ?_)
      have hyN := hy.apart2 (fun g hg => (hylt g hg).2) hgN hol
      have hol2 : ∀ g, ob'.ownBlock = some g → g < w5.heap.size ∨ w6.heap.size ≤ g := fun g hg => by rcases hat with h | h; (exact hol g (by rw [← h]; exact hg)); (rw [h] at hg; cases hg; right; omega)
      have szc := hgN.size
      replace hbB1 := hbB1.trans (grownBy_below hgN szq9 (fun k hk => (ho.lt k hk).1))
      refine go ?_
      refine ⟨(auts ms).length - (q + 1), by omega, q + 1, ob', rfl, by omega, rfl, rfl, rfl, rfl, rfl, by rw [hleft, List.map_append]; simpa [List.getD, hu2] using hoN, hyN, hol2, by omega, hbB1⟩
    have hleft := left_hit (p := fun p => !stabF ms i a p) (xss := auts ms) (k := q) (by simp [stabF, he])
    refine go ?_
    refine ⟨(auts ms).length - (q + 1), by omega, q + 1, ob, rfl, by omega, rfl, rfl, rfl, rfl, rfl, by rw [hleft]; exact ho, hy, hol, hsz, hbB1⟩
  obtain rfl : q = (auts ms).length := by omega
  have hpick := (hxr.below hbB1).pick (I := left (fun p => !stabF ms i a p) (auts ms) (auts ms).length) (fun j hj => left_lt j hj) left_climb (z := Value.slice none 0 0)
  rw [left_gr] at hpick
  have hfe : (auts ms).filter (fun p => !(!stabF ms i a p)) = (auts ms).filter (stabF ms i a) := List.filter_congr fun p _ => by simp
  rw [hfe] at hpick
  have hfin := (hpick.mono (B' := w.heap.size) (by omega)).om (ho.mono (B' := w.heap.size) (by omega))
  refine go ?_
  exact end_two Try.results62 rfl rfl ⟨ob, by rw [e.2], by rw [e.1]; exact hfin.top, (hb.trans (hbB1.mono hb.size))⟩

set_option maxHeartbeats 8000000 in
set_option maxRecDepth 100000 in
theorem leastWith_any (v : Value) (pv : Addr) (ms : List (List Int)) (i : Int) (a : Int) (w : World) (hv : RL w v ms) (hxv : w.cell? pv = some v) :
    Ret Try.prog 121 #[.pointer (some pv), .int .i64 i, .int .i64 a] w fun r w' => ∃ fl : Int, r = .tuple #[.int .i64 fl, .int .i64 (stabC ms i a)] ∧ (stabC ms i a = 0 → rkC ms i = 0 ∧ a ∈ facL ms i ∧ fl = idxOf (facL ms i) a) ∧ Below w.heap.size w w' := by
  have shv := hv.sv
  have hb := Below.refl w.heap.size w
  refine enter3 32 Try.func121 rfl Try.ntmps121 rfl (fun fr => ?_)
  refine go ?_
  refine s_call1 (wn rfl) rfl rfl (isManiplex_any _ _ _ hv) ?_
  rintro _ w1 ⟨rfl, hb1⟩
  have sw1 := hb1.size
  replace hv := hv.below hb1
  replace hxv := cell_below hxv hb1
  replace hb := hb.trans (hb1.mono hb.size)
  refine splitb (decide (IsMan ms)) (fun hm => ?_) (fun hm => ?_)
  rotate_left
  · have e2 := rkC_1 (i := i) (of_decide_eq_false hm)
    have h : rkC ms i ≠ 0 := by rw [e2]; decide
    have e := (stab_1 (a := a) h).2
    rw [e2] at e
    refine go ?_
    exact end_two Try.results121 rfl rfl ⟨0, by rw [e], fun h0 => by rw [e] at h0; omega, hb⟩
  have hm' := of_decide_eq_true hm
  have r5 := hm'.m0.r5
  refine go ?_
  refine s_call2 (wn rfl) rfl rfl rfl (hasRank_any _ _ _ i _ hv hxv r5) ?_
  rintro _ _ ⟨rfl, rfl⟩
  refine splitb (decide (0 ≤ i ∧ i < ms.length)) (fun hf => ?_) (fun hf => ?_)
  rotate_left
  · have e2 := rkC_2 hm' (of_decide_eq_false hf)
    have h : rkC ms i ≠ 0 := by rw [e2]; decide
    have e := (stab_1 (a := a) h).2
    rw [e2] at e
    refine go ?_
    exact end_two Try.results121 rfl rfl ⟨0, by rw [e], fun h0 => by rw [e] at h0; omega, hb⟩
  have hi := of_decide_eq_true hf
  have h := rkC_3 hm' hi
  refine go ?_
  refine s_call2 (wn rfl) rfl rfl rfl (faces_any _ _ _ i _ hv hxv hm' hi) ?_
  rintro _ w2 ⟨lb, rfl, hx, hb2⟩
  have sw2 := hb2.size
  replace hv := hv.below hb2
  replace hxv := cell_below hxv hb2
  replace hb := hb.trans (hb2.mono hb.size)
  refine go ?_
  refine s_call2 (wn rfl) rfl rfl rfl (Index_any _ _ a _ hx.il) ?_
  rintro _ _ ⟨rfl, rfl⟩
  by_cases ha : a ∈ facL ms i
  rotate_left
  · have e := (stab_2 h ha).2
    have hid : idxOf (facL ms i) a = -1 := idxOf_none fun j hj e => ha (by rw [← e]; exact gi_in hj)
    have hneg : idxOf (facL ms i) a < 0 := by omega
    refine go ?_
    exact end_two Try.results121 rfl rfl ⟨0, by rw [e], fun h0 => by rw [e] at h0; omega, hb⟩
  have e := (stab_3 h ha).2
  have hid := idxOf_mem ha
  have hneg : ¬ (idxOf (facL ms i) a < 0) := by omega
  refine go ?_
  exact end_two Try.results121 rfl rfl ⟨_, by rw [e], fun _ => ⟨h, ha, rfl⟩, hb⟩

set_option maxHeartbeats 8000000 in
set_option maxRecDepth 100000 in
theorem stabOf1_any (u : Value) (ps : List Int) (q q2 q3 : Addr) (l : Value) (lb : List Int) (fg a : Int) (w : World) (hu : IL w u ps) (hq : w.cell? q = some l) (hl : IL w l lb) (hq2 : w.cell? q2 = some (.int .i64 fg)) (hq3 : w.cell? q3 = some (.int .i64 a)) (h1 : 0 ≤ fg ∧ fg < ps.length) (h2 : 0 ≤ gi ps fg ∧ gi ps fg < lb.length) :
    Ret Try.prog 124 #[u, .pointer (some q), .pointer (some q2), .pointer (some q3)] w fun r w' => r = .bool (decide (gi lb (gi ps fg) ≠ a)) ∧ Below w.heap.size w w' := by
  have shu := hu.sv
  have hb := Below.refl w.heap.size w
  refine enter4 15 Try.func124 rfl Try.ntmps124 rfl (fun fr => ?_)
  have sl := hl.sv
  refine go ?_
  refine region_q mixed (by kernel_rfl) ?_; refine qo ?_; refine q_nil ?_
  intro w2 hbq
  replace hb := hb.trans hbq
  refine go ?_
  exact end_one Try.results124 rfl ⟨rfl, hb⟩

set_option maxHeartbeats 8000000 in
set_option maxRecDepth 100000 in
theorem implStabilizerOf_any (v : Value) (ms : List (List Int)) (i : Int) (a : Int) (w : World) (hv : RL w v ms) :
    Ret Try.prog 61 #[.agg #[v], .int .i64 i, .int .i64 a] w fun r w' => ∃ x, r = .tuple #[x, .int .i64 (stabC ms i a)] ∧ OM w' w.heap.size w'.heap.size 40 2 x (stab ms i a) ∧ Below w.heap.size w w' := by
  have shv := hv.sv
  have hb := Below.refl w.heap.size w
  refine enter3 31 Try.func61 rfl Try.ntmps61 rfl (fun fr => ?_)
  refine go ?_
  refine s_box (wn rfl) rfl rfl (agg_cells shv) (fun w1 hbx _ hp hg => ?_)
  have hb1 := below_of_grownBy hg
  have sw1 := hb1.size
  replace hv := hv.below hb1
  replace hb := hb.trans (hb1.mono hb.size)
  clear hg hp hb1
  generalize (⟨w.heap.size, 0, none⟩ : Addr) = p at *
  refine s_box (wn rfl) rfl rfl rfl (fun w2 hba _ hp hg => ?_)
  have hb2 := below_of_grownBy hg
  have sw2 := hb2.size
  replace hv := hv.below hb2
  replace hbx := cell_below hbx hb2
  replace hb := hb.trans (hb2.mono hb.size)
  clear hg hp hb2
  generalize (⟨w1.heap.size, 0, none⟩ : Addr) = pa at *
  refine go ?_
  refine s_call3 (wn rfl) rfl rfl rfl rfl (leastWith_any _ _ _ i a _ hv hbx) ?_
  rintro _ w3 ⟨fl, rfl, hfl, hb3⟩
  have sw3 := hb3.size
  replace hv := hv.below hb3
  replace hbx := cell_below hbx hb3
  replace hba := cell_below hba hb3
  replace hb := hb.trans (hb3.mono hb.size)
  refine go ?_
  have hv_c := hv
  have hbx_c := hbx
  have hba_c := hba
  have hb_c := hb
  refine s_allocC (B := w3.heap.size) (wn rfl) rfl (Nat.le_refl _) (fun w4 pf hxf hg4 _ => ?_)
  have hb4 := below_of_grownBy hg4
  have sw4 := hb4.size
  replace hv := hv.below hb4
  replace hbx := cell_below hbx hb4
  replace hba := cell_below hba hb4
  replace hb := hb.trans (hb4.mono hb.size)
  refine go ?_
  refine s_storeFld (wn rfl) rfl rfl rfl hxf (fun w5 hxf2 hgf => ?_)
  have hbc := hb4.trans (hxf.below_of hgf hb4.size)
  replace hv := hv_c.below hbc
  replace hbx := cell_below hbx_c hbc
  replace hba := cell_below hba_c hbc
  replace hb := hb_c.trans (hbc.mono hb_c.size)
  have swc := hbc.size
  have hcf := hxf2.cell
  by_cases h : stabC ms i a = 0
  rotate_left
  · have h2 : stabC ms i a ≠ 0 := h
    have e : stab ms i a = [] := by
      by_cases h0 : rkC ms i = 0
      · by_cases ha : a ∈ facL ms i
        · exact absurd (stab_3 h0 ha).2 h
        · exact (stab_2 h0 ha).1
      · exact (stab_1 h0).1
    refine go ?_
    exact end_two Try.results61 rfl rfl ⟨.slice none 0 0, rfl, by rw [e]; exact OM.nil _ _ _ _ _, hb⟩
  have h' : ¬ (stabC ms i a ≠ 0) := fun h' => h' h
  obtain ⟨h0, ha, rfl⟩ := hfl h
  obtain ⟨hm, hi⟩ := rkC_0 h0
  have e := stab_3 h0 ha
  have h4 := hm.m0.f400
  have hal := auts_le hm
  have har : 0 ≤ a ∧ a < facC ms i := (facL_all hm i).mem a ha
  have hhit := facL_hit hm i har.1 har.2
  have hll := (facL_all hm i).len
  refine go ?_
  refine s_call2 (wn rfl) rfl rfl rfl (faces_any _ _ _ i _ hv hbx hm hi) ?_
  rintro _ w6 ⟨lb, rfl, hl, hb6⟩
  have sw6 := hb6.size
  replace hv := hv.below hb6
  replace hbx := cell_below hbx hb6
  replace hba := cell_below hba hb6
  replace hcf := cell_below hcf hb6
  replace hb := hb.trans (hb6.mono hb.size)
  have sl := hl.sv
  refine go ?_
  refine s_allocC (B := w6.heap.size) (wn rfl) rfl (Nat.le_refl _) (fun w7 pl hxl hg7 _ => ?_)
  have hb7 := below_of_grownBy hg7
  refine go ?_
  refine s_storeFld (wn rfl) rfl rfl sl.one hxl (fun w8 hxl2 hgl => ?_)
  have hbd := hb7.trans (hxl.below_of hgl hb7.size)
  have sw8 := hbd.size
  replace hv := hv.below hbd
  replace hbx := cell_below hbx hbd
  replace hba := cell_below hba hbd
  replace hcf := cell_below hcf hbd
  replace hl := hl.below hbd
  replace hb := hb.trans (hbd.mono hb.size)
  have hcl := hxl2.cell
  have hs0 := hb.size
  have hclx := hcl
  have hcfx := hcf
  have hbax := hba
  have hlx := hl.il
  refine go ?_
  refine s_call2 (wn rfl) rfl rfl rfl (coveringsOf_any _ _ _ _ _ hv hv hm hm) ?_
  rintro x w9 ⟨hx, hb9⟩
  have sw9 := hb9.size
  replace hv := hv.below hb9
  replace hbx := cell_below hbx hb9
  replace hba := cell_below hba hb9
  replace hcf := cell_below hcf hb9
  replace hl := hl.below hb9
  replace hcl := cell_below hcl hb9
  replace hb := hb.trans (hb9.mono hb.size)
  refine go ?_
  refine s_p (wn rfl) rfl (y_fn3 rfl rfl rfl) ?_
  have hszx := hb9.size
  refine s_call2 (wn rfl) rfl rfl rfl (DeleteFunc_any 124 _ (fun ps => decide (gi (facL ms i) (gi ps (idxOf (facL ms i) a)) ≠ a)) _ _ _ w8.heap.size _ hx (by omega) (by unfold auts at hal; omega) (fun w' u ps hbw hps hu => ?_)) ?_
  · have hp := (mem_auts hm).1 hps
    have hbb := hb9.trans hbw
    exact stabOf1_any _ _ pl pf pa _ (facL ms i) _ a _ hu (cell_below hclx hbb) (hlx.below hbb) (cell_below hcfx hbb) (cell_below hbax hbb) (by rw [hp.len]; exact ⟨hhit.1, hhit.2.1⟩) (by rw [hll]; exact hp.rng _ hhit.1 hhit.2.1)
  rintro y w10 ⟨hy, hby⟩
  have hd : (covers ms ms (nf ms)).filter (fun ps => !decide (gi (facL ms i) (gi ps (idxOf (facL ms i) a)) ≠ a)) = (auts ms).filter (stabF ms i a) := by
    exact List.filter_congr fun p hp => by simp [stabF]
  rw [hd] at hy
  have hbf := hb.trans (hby.mono (by omega))
  refine go ?_
  exact end_two Try.results61 rfl rfl ⟨y, by rw [e.2], by rw [e.1]; exact (hy.mono hs0).top, hbf⟩

end Go.Proofs.Ytlodnhflfijomaa
