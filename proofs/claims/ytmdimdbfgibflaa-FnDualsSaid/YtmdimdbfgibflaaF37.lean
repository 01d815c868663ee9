/- Contracts: slices.Repeat of a list; PetrieOf, HoleOf, on both sides. -/
import Derived.Test.YtmdimdbfgibflaaF33
import Derived.Test.YtmdimdbfgibflaaFA
import Derived.Test.YtmdimdbfgibflaaWC
namespace Go.Mem
set_option linter.unusedVariables false
set_option linter.unusedSimpArgs false
/-- a list m times -/
def rep (xs : List Int) (m : Nat) : List Int := (List.range (xs.length * m)).map fun j : Nat => gi xs ((j % xs.length : Nat) : Int)
theorem rep_len (xs : List Int) (m : Nat) : (rep xs m).length = xs.length * m := by simp [rep]
theorem rep_two (a b : Int) (m : Nat) : rep [a, b] (m + 1) = rep [a, b] m ++ [a, b] := by
  have e : List.range (2 * (m + 1)) = List.range (2 * m) ++ [2 * m, 2 * m + 1] := by
    rw [show 2 * (m + 1) = 2 * m + 1 + 1 by omega, List.range_succ, List.range_succ]; simp
  unfold rep
  rw [show ([a, b] : List Int).length = 2 from rfl, e, List.map_append]
  simp [gi]
/-- single moves -/
def sngl (k : Nat) : List (List Int) := (List.range k).map fun i : Nat => [(i : Int)]
theorem sngl_len (k : Nat) : (sngl k).length = k := by simp [sngl]
theorem sngl_take {k i : Nat} (h : i < k) : (sngl k).take (i + 1) = (sngl k).take i ++ [[(i : Int)]] := by
  rw [List.take_succ_eq_append_getElem (by simpa [sngl] using h)]
  simp [sngl]
/-- the words of the Petrie dual -/
def petW (k : Nat) : List (List Int) := (sngl k).set (k - 3) [(k : Int) - 3, (k : Int) - 1]
theorem petW_len (k : Nat) : (petW k).length = k := by simp [petW, sngl]
theorem petW_words {ms : List (List Int)} (h3 : 3 ≤ ms.length) : ∀ w ∈ petW ms.length, IsWord ms w := fun w hw => by
  rcases List.mem_or_eq_of_mem_set hw with h | h
  · obtain ⟨i, hi, rfl⟩ := List.mem_map.1 h
    have := List.mem_range.1 hi
    exact ⟨by simp, fun x hx => by simp at hx; subst hx; omega⟩
  · subst h
    exact ⟨by simp, fun x hx => by simp at hx; rcases hx with rfl | rfl <;> omega⟩
noncomputable def petL (ms : List (List Int)) : List (List Int) := if IsMan ms ∧ 3 ≤ ms.length then replL ms (petW ms.length) else []
noncomputable def petC (ms : List (List Int)) : Int := if IsMan ms then (if 3 ≤ ms.length then replC ms (petW ms.length) else 5) else 1
section
variable {ms : List (List Int)} {k : Int}
theorem pet_1 (h : ¬ IsMan ms) : petL ms = [] ∧ petC ms = 1 := ⟨if_neg fun e => h e.1, if_neg h⟩
theorem pet_2 (hm : IsMan ms) (h : ¬ 3 ≤ ms.length) : petL ms = [] ∧ petC ms = 5 := ⟨if_neg fun e => h e.2, by unfold petC; rw [if_pos hm, if_neg h]⟩
theorem pet_3 (hm : IsMan ms) (h : 3 ≤ ms.length) : petL ms = replL ms (petW ms.length) ∧ petC ms = replC ms (petW ms.length) := ⟨if_pos ⟨hm, h⟩, by unfold petC; rw [if_pos hm, if_pos h]⟩
theorem petL_len (ms : List (List Int)) : 1 + tot (petL ms) ≤ 4000000000000000000 := by
  unfold petL
  split
  · exact replL_len _ _
  · simp [tot]
/-- the words of a hole -/
def holW (k : Int) : List (List Int) := [[0], 1 :: rep [2, 1] (k - 1).toNat, [2]]
theorem holW_ok (h1 : 1 ≤ k) (h2 : k ≤ 20) : ∀ w ∈ holW k, w.length ≤ 64 ∧ ∀ x ∈ w, 0 ≤ x ∧ x < 3 := fun w hw => by
  simp only [holW, List.mem_cons, List.not_mem_nil, or_false] at hw
  rcases hw with rfl | rfl | rfl
  · simp
  · refine ⟨by simp [rep_len]; omega, fun x hx => ?_⟩
    rcases List.mem_cons.1 hx with rfl | hx
    · omega
    · obtain ⟨j, _, rfl⟩ := List.mem_map.1 hx
      have : j % 2 = 0 ∨ j % 2 = 1 := by omega
      rcases this with e | e <;> simp [e, gi]
  · simp
noncomputable def holL (ms : List (List Int)) (k : Int) : List (List Int) := if IsMan ms ∧ 1 ≤ k ∧ k ≤ 20 then thrL ms (holW k) else []
noncomputable def holC (ms : List (List Int)) (k : Int) : Int := if IsMan ms then (if 1 ≤ k ∧ k ≤ 20 then thrC ms (holW k) else 2) else 1
theorem hol_1 (h : ¬ IsMan ms) : holL ms k = [] ∧ holC ms k = 1 := ⟨if_neg fun e => h e.1, if_neg h⟩
theorem hol_2 (hm : IsMan ms) (h : ¬ (1 ≤ k ∧ k ≤ 20)) : holL ms k = [] ∧ holC ms k = 2 := ⟨if_neg fun e => h e.2, by unfold holC; rw [if_pos hm, if_neg h]⟩
theorem hol_3 (hm : IsMan ms) (h : 1 ≤ k ∧ k ≤ 20) : holL ms k = thrL ms (holW k) ∧ holC ms k = thrC ms (holW k) := ⟨if_pos ⟨hm, h⟩, by unfold holC; rw [if_pos hm, if_pos h]⟩
theorem holL_len (ms : List (List Int)) (k : Int) : 1 + tot (holL ms k) ≤ 4000000000000000000 := by
  unfold holL
  split
  · exact thrL_len _ _
  · simp [tot]
end
/-- a row is laid in an owned list of rows, which is read from then on -/
theorem s_storeRow {P : Program} {ops : Array Oper} {Q : Exit → Fm → World → Prop} {n : Nat} {f : Fm} {w : World} {rest : List Oper} {ty : TypeId} {pos : String} {after : Array Edge} {g : Option (Nat × Bool)}
    {B E B' : Nat} {e U : TypeId} {z : Value} {bytes : Nat} [he : CellTy P e z bytes] {x y : Operand} {v u : Value} {xss : List (List Int)} {xs : List Int} {j : Int}
    (hw : Wants ⟨none, .store e x y, ty, pos, after, g⟩ ops n f)
    (hx : lk n f x = some (.pointer (some (addrOf v j.toNat)))) (hy : lk n f y = some u) (hv : OM w B E e U v xss) (hu : OI w B' U u xs) (hT : e ≠ U) (h0 : 0 ≤ j) (hj : j < xss.length)
    (k : ∀ w', RL w' v (xss.set j.toNat xs) → w.grownBy w' v.ownBlock → WL P ops Q rest n f w') :
    WL P ops Q (⟨none, .store e x y, ty, pos, after, g⟩ :: rest) n f w := by
  obtain ⟨vs, ho, hr⟩ := hv.rws
  have hl := hr.len
  refine s_store hw hx hy hu.sv.one ho (by omega) fun w' ho' hg => k w' ⟨_, ho'.rd, by simp [hl], fun i a ys ha hys => ?_⟩ hg
  have hT' : ∀ {B'' : Nat} {b : Value} {zs : List Int}, OI w B'' U b zs → IL w' b zs := fun h => (h.kept hg (h.own.apart_type ho (fun e => hT e.symm))).il
  rw [List.getElem?_set] at ha hys
  by_cases hij : j.toNat = i
  · rw [if_pos hij, if_pos (by omega)] at ha
    rw [if_pos hij, if_pos (by omega)] at hys
    obtain rfl := Option.some.inj ha
    obtain rfl := Option.some.inj hys
    exact hT' hu
  · rw [if_neg hij] at ha
    rw [if_neg hij] at hys
    exact hT' (hr.row i a ys ha hys)
end Go.Mem
namespace Go.Proofs.Ytmdimdbfgibflaa
open Go.Mem Go.RowKit
set_option linter.unusedVariables false
set_option linter.unusedSimpArgs false
theorem Mul64_gen (a b : Int) (w : World) (ha : 0 ≤ a ∧ a ≤ 1000) (hb : 0 ≤ b ∧ b ≤ 1000000) :
    Ret Try.prog 172 #[.int .u64 a, .int .u64 b] w fun r w' => r = .tuple #[.int .u64 0, .int .u64 (a * b)] ∧ w = w' := by
  have hab : 0 ≤ a * b ∧ a * b ≤ 1000000000 := by
    refine ⟨Int.mul_nonneg ha.1 hb.1, ?_⟩
    have := Int.mul_le_mul ha.2 hb.2 hb.1 (by omega : (0 : Int) ≤ 1000)
    omega
  refine enter2 51 Try.func172 rfl Try.ntmps172 rfl (fun fr => ?_)
  refine go ?_
  refine s_p (wn rfl) rfl (y_and32 rfl (by omega)) ?_
  refine go ?_
  refine s_p (wn rfl) rfl (y_shr32 rfl (by omega)) ?_
  refine go ?_
  refine s_p (wn rfl) rfl (y_and32 rfl (by omega)) ?_
  refine go ?_
  refine s_p (wn rfl) rfl (y_shr32 rfl (by omega)) ?_
  refine go ?_
  refine s_p (wn rfl) rfl (y_mulU rfl rfl (by omega)) ?_
  refine go ?_
  refine s_p (wn rfl) rfl (y_mulU rfl rfl (by omega)) ?_
  refine go ?_
  refine s_p (wn rfl) rfl (y_shr32 rfl (by omega)) ?_
  refine s_p (wn rfl) rfl (y_addU rfl rfl (by omega)) ?_
  refine go ?_
  refine s_p (wn rfl) rfl (y_and32 rfl (by omega)) ?_
  refine go ?_
  refine s_p (wn rfl) rfl (y_shr32 rfl (by omega)) ?_
  refine go ?_
  refine s_p (wn rfl) rfl (y_mulU rfl rfl (by omega)) ?_
  refine s_p (wn rfl) rfl (y_addU rfl rfl (by omega)) ?_
  refine go ?_
  refine s_p (wn rfl) rfl (y_mulU rfl rfl (by omega)) ?_
  refine go ?_
  refine s_p (wn rfl) rfl (y_addU rfl rfl (by omega)) ?_
  refine go ?_
  refine s_p (wn rfl) rfl (y_shr32 rfl (by omega)) ?_
  refine s_p (wn rfl) rfl (y_addU rfl rfl (by omega)) ?_
  refine go ?_
  refine s_p (wn rfl) rfl (y_mulU rfl rfl (by omega)) ?_
  refine go ?_
  exact end_two Try.results172 rfl rfl ⟨by simp, rfl⟩

theorem Mul_gen (a b : Int) (w : World) (ha : 0 ≤ a ∧ a ≤ 1000) (hb : 0 ≤ b ∧ b ≤ 1000000) :
    Ret Try.prog 135 #[.int .u64 a, .int .u64 b] w fun r w' => r = .tuple #[.int .u64 0, .int .u64 (a * b)] ∧ w = w' := by
  refine enter2 30 Try.func135 rfl Try.ntmps135 rfl (fun fr => ?_)
  refine go ?_
  refine s_call2 (wn rfl) rfl rfl rfl (Mul64_gen _ _ _ ha hb) ?_
  rintro _ _ ⟨rfl, rfl⟩
  refine go ?_
  exact end_two Try.results135 rfl rfl ⟨rfl, rfl⟩

set_option maxHeartbeats 4000000 in
theorem Repeat_any (v : Value) (xs : List Int) (m : Int) (w : World) (hv : IL w v xs) (hL : xs.length ≤ 1000) (hL1 : 1 ≤ xs.length) (hm : 0 ≤ m ∧ m ≤ 1000000) :
    Ret Try.prog 81 #[v, .int .i64 m] w fun r w' => OI w' w.heap.size 2 r (rep xs m.toNat) ∧ Below w.heap.size w w' := by
  have sv := hv.sv
  obtain ⟨N, hN⟩ : ∃ N : Nat, N = xs.length * m.toNat := ⟨_, rfl⟩
  have hNm : (xs.length : Int) * m = (N : Int) := by rw [hN, Int.natCast_mul, Int.toNat_of_nonneg hm.1]
  have hN0 : N % xs.length = 0 := by rw [hN]; exact Nat.mul_mod_right _ _
  have hNb : N ≤ 1000000000 := by
    have : xs.length * m.toNat ≤ 1000 * 1000000 := Nat.mul_le_mul hL (by omega)
    omega
  have hN1 : N = 0 ∨ xs.length ≤ N := by
    by_cases h : m.toNat = 0
    · left; rw [hN, h]; rfl
    · right; rw [hN]; exact Nat.le_mul_of_pos_right _ (by omega)
  have h0 : ¬ m < 0 := by omega
  have h1 : ¬ (9223372036854775807 < (N : Int)) := by omega
  refine enter2 48 Try.func81 rfl Try.ntmps81 rfl (fun fr => ?_)
  refine go ?_
  refine s_call2 (wn rfl) rfl rfl rfl (Mul_gen _ _ _ (by omega) hm) ?_
  rintro _ _ ⟨rfl, rfl⟩
  rw [hNm]
  refine go ?_
  refine s_makeI (B := w.heap.size) (wn rfl) rfl rfl rfl (by omega) (by omega) (Nat.le_refl _) (fun nb w1 ho so hg hb => ?_)
  refine go ?_
  have hb1 := below_of_grownBy hg
  have eN : ((N : Int)).toNat = N := by omega
  rw [eN] at ho so
  have hl : (List.replicate N (0 : Int)).length = N := by simp
  refine s_copyI (l := 0) (xs := List.replicate N 0) (wn rfl) rfl (by rw [hl, cut_all so]; rfl) rfl ho (Nat.zero_le _) (hv.below hb1) (fun w2 ho2 hg2 => ?_)
  have hb2 := hb1.trans (ho.below_of hg2 hb1.size)
  refine go ?_
  refine w_loop (fun k fr w' => ∃ (i : Nat) (ys : List Int), k = N - i ∧ i ≤ N ∧ (1 ≤ i ∨ N = 0) ∧ i % xs.length = 0 ∧ fr 7 = nb ∧ fr 8 = .int .i64 i ∧ ys.length = N ∧ (∀ j < i, ys[j]? = some (gi xs ((j % xs.length : Nat) : Int))) ∧ OI w' w.heap.size 2 nb ys ∧ Below w.heap.size w w') (N - min xs.length N)
    ⟨min xs.length N, _, rfl, by omega, by omega, ?_, rfl, by simp; rfl, ?_, ?_, ho2, hb2⟩ ?_
  · rcases hN1 with h | h
    · rw [h]; simp
    · rw [Nat.min_eq_left h]; exact Nat.mod_self _
  · simp; omega
  · intro j hj
    have hjl : j < xs.length := by omega
    rw [Nat.mod_eq_of_lt hjl]
    simp only [List.take_zero, List.nil_append]
    rw [List.getElem?_append, if_pos (by simp; omega), List.getElem?_take, if_pos (by simp; omega)]
    simp [gi, List.getD, hjl]
  rintro k fr w3 ⟨i, ys, rfl, hi, hi1, hi0, f7, f8, hyl, hya, ho, hb⟩
  have so : SV nb N := hyl ▸ ho.sv
  refine know (t := 7) f7 ?_; refine know (t := 8) f8 ?_
  refine go ?_
  refine cond_dec rfl (fun hlt => ?_) (fun hge => ?_)
  · refine go ?_
    have hcut : ∀ w', (∃ zs : List Int, zs.length = ys.length ∧ OI w' w.heap.size 2 nb zs) → ∃ zs : List Int, zs.length = ys.length ∧ IL w' nb zs := fun w' ⟨zs, h1, h2⟩ => ⟨zs, h1, h2.il⟩
    refine region_hS (fun w' => ∃ zs : List Int, zs.length = ys.length ∧ OI w' w.heap.size 2 nb zs) mixed (fun w4 hb4 => ?_)
    have hS : ∃ zs : List Int, zs.length = ys.length ∧ OI w4 w.heap.size 2 nb zs := ⟨ys, rfl, ho.below hb4⟩
    refine h_p 0 hS ?_ (hrun := fun w hw => yl)
    refine h_p 1 hS ?_ (hrun := fun w hw => yl)
    refine h_p 2 hS ?_ (hrun := fun w hw => yl)
    refine h_p 3 hS ?_ (v := cut nb i ys.length) (hrun := fun w hw => by obtain ⟨zs, h1, h2⟩ := hcut w hw; rw [← h1]; exact y_cutI (l := (i : Int)) rfl rfl h2 (by omega) (by omega))
    refine h_p 4 hS ?_ (hrun := fun w hw => yl)
    refine h_p 5 hS ?_ (hrun := fun w hw => yl)
    refine h_p 6 hS ?_ (v := cut nb 0 i) (hrun := fun w hw => by obtain ⟨zs, h1, h2⟩ := hcut w hw; exact y_cutI_hi (r := (i : Int)) rfl rfl h2 (by omega) (by omega))
    have ho4 := ho.below hb4
    have hb4' := hb.trans (hb4.mono hb.size)
    refine h_one 7 ?_
    refine s_copyI (l := i) (wn rfl) rfl rfl rfl ho4 (by omega) (ho4.il.cut (Nat.zero_le _) (by omega)) (fun w5 ho5 hg5 => ?_)
    have hb5 := hb4'.trans (ho4.below_of hg5 hb4'.size)
    refine w_nil ?_
    have hlen : (ys.take i ++ ((ys.take i).drop 0).take (ys.length - i) ++ ys.drop (i + ((ys.take i).drop 0).length)).length = ys.length := by simp; omega
    have hS5 : ∃ zs : List Int, zs.length = ys.length ∧ OI w5 w.heap.size 2 nb zs := ⟨_, hlen, ho5⟩
    have hti : ((ys.take i).drop 0).length = i := by simp; omega
    have hlt' : (i : Int) + (min ((ys.take i).drop 0).length (ys.length - i) : Nat) ≤ 9000000000 := by omega
    refine h_on ⟨hS5, ?_⟩
    refine h_p 8 hS5 ?_ (hrun := fun w hw => yl)
    refine h_p 9 hS5 ?_ (hrun := fun w hw => yl)
    refine h_nil ?_
    refine go ?_
    have hil : i < N := by omega
    refine ⟨N - (i + min ((ys.take i).drop 0).length (ys.length - i)), ?_, _, _, rfl, ?_, .inl (by omega), ?_, rfl, by simp; rfl, by rw [hlen]; exact hyl, ?_, ho5, hb5⟩
    · rw [hti]; omega
    · rw [hti]; omega
    · rw [hti, hyl]
      by_cases hc : i ≤ N - i
      · rw [Nat.min_eq_left hc, Nat.add_mod, hi0]; simp
      · rw [Nat.min_eq_right (by omega), show i + (N - i) = N by omega]; exact hN0
    · intro j hj
      rw [hti] at hj
      simp only [List.drop_zero]
      rw [List.append_assoc, List.getElem?_append]
      have hti : (ys.take i).length = i := by simp; omega
      rw [hti]
      by_cases hji : j < i
      · rw [if_pos hji, List.getElem?_take, if_pos hji]; exact hya j hji
      · rw [if_neg hji, List.getElem?_append]
        rw [if_pos (by simp; omega)]
        rw [List.getElem?_take, if_pos (by omega), List.getElem?_take, if_pos (by omega), hya _ (by omega)]
        have : j % xs.length = (j - i) % xs.length := by
          conv => lhs; rw [show j = (j - i) + i by omega, Nat.add_mod, hi0]
          simp
        rw [this]
  · refine go ?_
    have : ys = rep xs m.toNat := by
      apply List.ext_getElem?
      intro j
      by_cases hj : j < N
      · rw [hya j (by omega)]
        unfold rep
        rw [← hN]
        simp [hj]
      · rw [List.getElem?_eq_none (by omega), List.getElem?_eq_none (by rw [rep_len, ← hN]; omega)]
    subst this
    exact end_one Try.results81 rfl ⟨ho, hb⟩


set_option maxHeartbeats 8000000 in
set_option maxRecDepth 100000 in
theorem l05Singles_any  (m : Int) (w : World)  (k : Nat) (hk : m = k) (h5 : k ≤ 1000) :
    Ret Try.prog 63 #[.int .i64 m] w fun r w' => OM w' w.heap.size w'.heap.size 34 2 r (sngl k) ∧ Below w.heap.size w w' := by
  have hb := Below.refl w.heap.size w
  refine enter1 17 Try.func63 rfl Try.ntmps63 rfl (fun fr => ?_)
  subst hk
  have hsl := sngl_len k
  have sbs1 := hb.size
  have hbB1 := Below.refl w.heap.size w
  refine go ?_
  have szq1 := hbB1.size
  refine s_build (B := w.heap.size) [] (wn rfl) rfl (by simp) (by decide) rfl (by simp) szq1 (fun ob w1 ho hg1 _ => ?_)
  have hb1 := below_of_grownBy hg1
  have sw1 := hb1.size
  replace hbB1 := hbB1.trans (hb1.mono hbB1.size)
  replace ho := OM.empty (E := w1.heap.size) (U := 2) ho
  refine go ?_
  refine w_loop (fun kk fr w' => ∃ (i : Nat) (ob : Value), kk = k - i ∧ i ≤ k ∧ fr 0 = .int .i64 k ∧ fr 3 = ob ∧ fr 4 = .int .i64 i ∧ (OM w' w.heap.size w'.heap.size 34 2 ob ((sngl k).take i)) ∧ Below w.heap.size w w') (k)
    ⟨0, ob, rfl, Nat.zero_le _, rfl, rfl, rfl, ho.top, hbB1⟩ ?_
  rintro kk fr w2 ⟨i, ob, rfl, hi, f0, f3, f4, ho, hbB1⟩
  have sw2 := hbB1.size
  have sho := ho.sv
  refine know (t := 0) f0 ?_; refine know (t := 3) f3 ?_; refine know (t := 4) f4 ?_
  refine go ?_
  refine cond_dec rfl (fun hlt => ?_) (fun hge => ?_)
  · replace ho := ho.top
    refine go ?_
    refine s_build1 (B := w2.heap.size) (wn rfl) rfl rfl (Nat.le_refl _) (fun rb w3 hr sr3 hg3 _ => ?_)
    have hb3 := below_of_grownBy hg3
    have sw3 := hb3.size
    replace ho := ho.below hb3
    replace hbB1 := hbB1.trans (hb3.mono hbB1.size)
    have szq4 := hbB1.size
    refine s_build1V (B := w.heap.size) (wn rfl) rfl rfl hr.sv.one szq4 (fun tb w4 ht st hg4 _ => ?_)
    have hb4 := below_of_grownBy hg4
    have sw4 := hb4.size
    replace ho := ho.below hb4
    replace hr := hr.below hb4
    replace hbB1 := hbB1.trans (hb4.mono hbB1.size)
    have szq5 := hbB1.size
    refine s_appendM (wn rfl) rfl rfl rfl ho ht.rd hr (by omega) (by decide) (by simp; omega) szq5 (fun ob' w5 hoN so hgN => ?_)
    replace hbB1 := hbB1.trans (ho.below_of hgN szq5)
    have sw5 := hgN.size
    replace ho := hoN
    clear hoN
    refine go ?_
    refine ⟨k - (i + 1), by omega, i + 1, ob', rfl, by omega, rfl, rfl, rfl, by rw [sngl_take (by omega)]; exact ho, hbB1⟩
  obtain rfl : i = k := by omega
  rw [List.take_of_length_le (by omega)] at ho
  refine go ?_
  exact end_one Try.results63 rfl ⟨ho, (hb.trans (hbB1.mono hb.size))⟩

set_option maxHeartbeats 8000000 in
set_option maxRecDepth 100000 in
theorem petrieOf_any (v : Value) (ms : List (List Int)) (w : World) (hv : RL w v ms) :
    Ret Try.prog 101 #[.agg #[v]] w fun r w' => ∃ x, r = .tuple #[.agg #[x], .int .i64 (petC ms)] ∧ OM w' w.heap.size w'.heap.size 34 2 x (petL ms) ∧ Below w.heap.size w w' := by
  have shv := hv.sv
  have hb := Below.refl w.heap.size w
  refine enter1 38 Try.func101 rfl Try.ntmps101 rfl (fun fr => ?_)
  refine go ?_
  refine s_box (wn rfl) rfl rfl (agg_cells shv) (fun w1 hbx _ hp hg => ?_)
  have hb1 := below_of_grownBy hg
  have sw1 := hb1.size
  replace hv := hv.below hb1
  replace hb := hb.trans (hb1.mono hb.size)
  clear hg hp hb1
  generalize (⟨w.heap.size, 0, none⟩ : Addr) = p at *
  have sz0 := hb.size
  refine go ?_
  refine s_alloc (B := w.heap.size) (wn rfl) rfl (by first | exact Nat.le_refl _ | omega) (fun w2 p4 hx4 hg2 hpp4 => ?_)
  have hb2 := below_of_grownBy hg2
  have sw2 := hb2.size
  replace hv := hv.below hb2
  replace hbx := cell_below hbx hb2
  replace hb := hb.trans (hb2.mono hb.size)
  have hlt_hx4 := hx4.lt
  have sz1 := hb.size
  refine go ?_
  refine s_call1 (wn rfl) rfl rfl (isManiplex_any _ _ _ hv) ?_
  rintro _ w3 ⟨rfl, hb3⟩
  have sw3 := hb3.size
  replace hv := hv.below hb3
  replace hbx := cell_below hbx hb3
  replace hx4 := hx4.below hb3
  replace hb := hb.trans (hb3.mono hb.size)
  refine splitb (decide (IsMan ms)) (fun hm => ?_) (fun hm => ?_)
  rotate_left
  · have hm' := of_decide_eq_false hm
    have e := pet_1 hm'
    have hbY := hb
    refine go ?_
    refine s_p (wn rfl) rfl y_bld0 ?_
    refine s_storeBox (wn rfl) rfl rfl rfl hx4 (fun w4 hxz hgz => ?_)
    have hbz := hbY.trans (hx4.below_of hgz hbY.size)
    refine go ?_
    exact end_cellT Try.results101 rfl rfl hxz.cell ⟨_, by rw [e.2], by rw [e.1]; exact OM.nil _ _ _ _ _, hbz⟩
  have hm' := of_decide_eq_true hm
  have r5 := hm'.m0.r5
  have r1 := hm'.m0.r1
  refine go ?_
  refine s_call1 (wn rfl) rfl rfl (rank_any _ _ _ _ hbx hv.sv) ?_
  rintro _ _ ⟨rfl, rfl⟩
  refine go ?_
  refine cond_dec rfl (fun hlt => ?_) (fun hge => ?_)
  · have e := pet_2 hm' (by omega)
    have hbY := hb
    refine go ?_
    refine s_p (wn rfl) rfl y_bld0 ?_
    refine s_storeBox (wn rfl) rfl rfl rfl hx4 (fun w5 hxz hgz => ?_)
    have hbz := hbY.trans (hx4.below_of hgz hbY.size)
    refine go ?_
    exact end_cellT Try.results101 rfl rfl hxz.cell ⟨_, by rw [e.2], by rw [e.1]; exact OM.nil _ _ _ _ _, hbz⟩
  have h3 : 3 ≤ ms.length := by omega
  have e := pet_3 hm' h3
  have hsl := sngl_len ms.length
  have sbs1 := hb.size
  have hv_b1 := hv
  have hbx_b1 := hbx
  have hx4_b1 := hx4
  have hbB1 := Below.refl w3.heap.size w3
  refine go ?_
  refine w_loop (fun kk fr w' => ∃ (i : Nat) (ob : Value), kk = ms.length - i ∧ i ≤ ms.length ∧ fr 1 = .pointer (some p) ∧ fr 2 = .pointer (some p4) ∧ fr 4 = .int .i64 ms.length ∧ fr 5 = ob ∧ fr 15 = .int .i64 ms.length ∧ fr 16 = .int .i64 i ∧ (OM w' w3.heap.size w'.heap.size 34 2 ob ((sngl ms.length).take i)) ∧ Below w3.heap.size w3 w') (ms.length)
    ⟨0, _, rfl, Nat.zero_le _, rfl, rfl, rfl, rfl, rfl, rfl, OM.nil _ _ _ _ _, hbB1⟩ ?_
  rintro kk fr w6 ⟨i, ob, rfl, hi, f1, f2, f4, f5, f15, f16, ho, hbB1⟩
  have sw6 := hbB1.size
  have hv := hv_b1.below hbB1
  have hbx := cell_below hbx_b1 hbB1
  have hx4 := hx4_b1.below hbB1
  have sho := ho.sv
  refine know (t := 1) f1 ?_; refine know (t := 2) f2 ?_; refine know (t := 4) f4 ?_; refine know (t := 5) f5 ?_; refine know (t := 15) f15 ?_; refine know (t := 16) f16 ?_
  refine go ?_
  refine cond_dec rfl (fun hlt => ?_) (fun hge => ?_)
  · replace ho := ho.top
    refine go ?_
    refine s_build1 (B := w6.heap.size) (wn rfl) rfl rfl (Nat.le_refl _) (fun rb w7 hr sr7 hg7 _ => ?_)
    have hb7 := below_of_grownBy hg7
    have sw7 := hb7.size
    replace hv := hv.below hb7
    replace hbx := cell_below hbx hb7
    replace hx4 := hx4.below hb7
    replace ho := ho.below hb7
    replace hbB1 := hbB1.trans (hb7.mono hbB1.size)
    have szq8 := hbB1.size
    refine s_build1V (B := w3.heap.size) (wn rfl) rfl rfl hr.sv.one szq8 (fun tb w8 ht st hg8 _ => ?_)
    have hb8 := below_of_grownBy hg8
    have sw8 := hb8.size
    replace hv := hv.below hb8
    replace hbx := cell_below hbx hb8
    replace hx4 := hx4.below hb8
    replace ho := ho.below hb8
    replace hr := hr.below hb8
    replace hbB1 := hbB1.trans (hb8.mono hbB1.size)
    have szq9 := hbB1.size
    refine s_appendM (wn rfl) rfl rfl rfl ho ht.rd hr (by omega) (by decide) (by simp; omega) szq9 (fun ob' w9 hoN so hgN => ?_)
    replace hbB1 := hbB1.trans (ho.below_of hgN szq9)
    have sw9 := hgN.size
    replace ho := hoN
    clear hoN
    replace hv := hv_b1.below hbB1
    replace hbx := cell_below hbx_b1 hbB1
    replace hx4 := hx4_b1.below hbB1
    refine go ?_
    refine ⟨ms.length - (i + 1), by omega, i + 1, ob', rfl, by omega, rfl, rfl, rfl, rfl, rfl, rfl, by rw [sngl_take (by omega)]; exact ho, hbB1⟩
  obtain rfl : i = ms.length := by omega
  rw [List.take_of_length_le (by omega)] at ho
  have so := ho.sv
  refine go ?_
  refine s_build2 (B := w6.heap.size) (wn rfl) rfl rfl rfl (Nat.le_refl _) (fun rb w10 hr sr10 hg10 _ => ?_)
  have hb10 := below_of_grownBy hg10
  have sw10 := hb10.size
  replace hv := hv.below hb10
  replace hbx := cell_below hbx hb10
  replace hx4 := hx4.below hb10
  replace ho := ho.below hb10
  replace hbB1 := hbB1.trans (hb10.mono hbB1.size)
  refine go ?_
  have szq11 := hbB1.size
  refine s_storeRow (wn rfl) rfl rfl ho hr (by decide) (by omega) (by rw [sngl_len]; omega) (fun w11 hws hgN => ?_)
  replace hbB1 := hbB1.trans (ho.below_of hgN (by omega))
  have sw11 := hgN.size
  replace hv := hv_b1.below hbB1
  replace hbx := cell_below hbx_b1 hbB1
  replace hx4 := hx4_b1.below hbB1
  have e3 : ((ms.length : Int) - 3).toNat = ms.length - 3 := by omega
  rw [e3] at hws
  have hpw : (sngl ms.length).set (ms.length - 3) [(ms.length : Int) - 3, (ms.length : Int) - 1] = petW ms.length := rfl
  rw [hpw] at hws
  have hpl := petW_len ms.length
  have sws := hws.sv
  refine go ?_
  refine s_call2 (wn rfl) rfl rfl rfl (replaced_any _ _ _ _ _ _ hv hbx hws hm' (petW_words h3) (by omega) (by omega)) ?_
  rintro _ w12 ⟨x, rfl, hx, hb12⟩
  have sw12 := hb12.size
  replace hv := hv.below hb12
  replace hbx := cell_below hbx hb12
  replace hx4 := hx4.below hb12
  replace hws := hws.below hb12
  replace hbB1 := hbB1.trans (hb12.mono hbB1.size)
  have hbY := (hb.trans (hbB1.mono hb.size))
  refine go ?_
  refine s_storeBox (wn rfl) rfl rfl hx.sv.one hx4 (fun w13 hxz hgz => ?_)
  have hbz := hbY.trans (hx4.below_of hgz hbY.size)
  have hxN := hx.kept hgz (by omega)
  refine go ?_
  exact end_cellT Try.results101 rfl rfl hxz.cell ⟨x, by rw [e.2], by rw [e.1]; exact (hxN.mono (by omega)).top, hbz⟩

set_option maxHeartbeats 8000000 in
set_option maxRecDepth 100000 in
theorem implPetrieOf_any (v : Value) (ms : List (List Int)) (w : World) (hv : RL w v ms) :
    Ret Try.prog 41 #[.agg #[v]] w fun r w' => ∃ x, r = .tuple #[.agg #[x], .int .i64 (petC ms)] ∧ OM w' w.heap.size w'.heap.size 34 2 x (petL ms) ∧ Below w.heap.size w w' := by
  have shv := hv.sv
  have hb := Below.refl w.heap.size w
  refine enter1 8 Try.func41 rfl Try.ntmps41 rfl (fun fr => ?_)
  refine go ?_
  refine s_box (wn rfl) rfl rfl (agg_cells shv) (fun w1 hbx _ hp hg => ?_)
  have hb1 := below_of_grownBy hg
  have sw1 := hb1.size
  replace hv := hv.below hb1
  replace hb := hb.trans (hb1.mono hb.size)
  clear hg hp hb1
  generalize (⟨w.heap.size, 0, none⟩ : Addr) = p at *
  have sz0 := hb.size
  refine go ?_
  refine s_alloc (B := w.heap.size) (wn rfl) rfl (by first | exact Nat.le_refl _ | omega) (fun w2 p4 hx4 hg2 hpp4 => ?_)
  have hb2 := below_of_grownBy hg2
  have sw2 := hb2.size
  replace hv := hv.below hb2
  replace hbx := cell_below hbx hb2
  replace hb := hb.trans (hb2.mono hb.size)
  have hlt_hx4 := hx4.lt
  have sz1 := hb.size
  refine go ?_
  refine s_call1 (wn rfl) rfl rfl (petrieOf_any _ _ _ hv) ?_
  rintro _ w3 ⟨x, rfl, hx, hb3⟩
  have sw3 := hb3.size
  replace hv := hv.below hb3
  replace hbx := cell_below hbx hb3
  replace hx4 := hx4.below hb3
  replace hb := hb.trans (hb3.mono hb.size)
  have hbY := hb
  refine go ?_
  refine s_storeBox (wn rfl) rfl rfl hx.sv.one hx4 (fun w4 hxz hgz => ?_)
  have hbz := hbY.trans (hx4.below_of hgz hbY.size)
  have hxN := hx.kept hgz (by omega)
  refine go ?_
  exact end_cellT Try.results41 rfl rfl hxz.cell ⟨x, rfl, (hxN.mono (by omega)).top, hbz⟩

set_option maxHeartbeats 8000000 in
set_option maxRecDepth 100000 in
theorem implHoleOf_any (v : Value) (ms : List (List Int)) (k : Int) (w : World) (hv : RL w v ms) :
    Ret Try.prog 18 #[.agg #[v], .int .i64 k] w fun r w' => ∃ x, r = .tuple #[.agg #[x], .int .i64 (holC ms k)] ∧ OM w' w.heap.size w'.heap.size 34 2 x (holL ms k) ∧ Below w.heap.size w w' := by
  have shv := hv.sv
  have hb := Below.refl w.heap.size w
  refine enter2 32 Try.func18 rfl Try.ntmps18 rfl (fun fr => ?_)
  refine go ?_
  refine s_box (wn rfl) rfl rfl (agg_cells shv) (fun w1 hbx _ hp hg => ?_)
  have hb1 := below_of_grownBy hg
  have sw1 := hb1.size
  replace hv := hv.below hb1
  replace hb := hb.trans (hb1.mono hb.size)
  clear hg hp hb1
  generalize (⟨w.heap.size, 0, none⟩ : Addr) = p at *
  have sz0 := hb.size
  refine go ?_
  refine s_alloc (B := w.heap.size) (wn rfl) rfl (by first | exact Nat.le_refl _ | omega) (fun w2 p4 hx4 hg2 hpp4 => ?_)
  have hb2 := below_of_grownBy hg2
  have sw2 := hb2.size
  replace hv := hv.below hb2
  replace hbx := cell_below hbx hb2
  replace hb := hb.trans (hb2.mono hb.size)
  have hlt_hx4 := hx4.lt
  have sz1 := hb.size
  refine go ?_
  refine s_call1 (wn rfl) rfl rfl (isManiplex_any _ _ _ hv) ?_
  rintro _ w3 ⟨rfl, hb3⟩
  have sw3 := hb3.size
  replace hv := hv.below hb3
  replace hbx := cell_below hbx hb3
  replace hx4 := hx4.below hb3
  replace hb := hb.trans (hb3.mono hb.size)
  refine splitb (decide (IsMan ms)) (fun hm => ?_) (fun hm => ?_)
  rotate_left
  · have hm' := of_decide_eq_false hm
    have e := hol_1 (k := k) hm'
    have hbY := hb
    refine go ?_
    refine s_p (wn rfl) rfl y_bld0 ?_
    refine s_storeBox (wn rfl) rfl rfl rfl hx4 (fun w4 hxz hgz => ?_)
    have hbz := hbY.trans (hx4.below_of hgz hbY.size)
    refine go ?_
    exact end_cellT Try.results18 rfl rfl hxz.cell ⟨_, by rw [e.2], by rw [e.1]; exact OM.nil _ _ _ _ _, hbz⟩
  have hm' := of_decide_eq_true hm
  have r5 := hm'.m0.r5
  have r1 := hm'.m0.r1
  refine go ?_
  refine s_call3 (wn rfl) rfl rfl rfl rfl (within_any _ _ _ _) ?_
  rintro _ _ ⟨rfl, rfl⟩
  by_cases hl : 1 ≤ k ∧ k ≤ 20
  rotate_left
  · have hin : inB k 1 20 = false := by simp only [inB]; rcases Classical.not_and_iff_not_or_not.1 hl with h | h <;> simp [h]
    have e := hol_2 hm' hl
    have hbY := hb
    refine go ?_
    refine s_p (wn rfl) rfl y_bld0 ?_
    refine s_storeBox (wn rfl) rfl rfl rfl hx4 (fun w5 hxz hgz => ?_)
    have hbz := hbY.trans (hx4.below_of hgz hbY.size)
    refine go ?_
    exact end_cellT Try.results18 rfl rfl hxz.cell ⟨_, by rw [e.2], by rw [e.1]; exact OM.nil _ _ _ _ _, hbz⟩
  have hin : inB k 1 20 = true := by simp [inB, hl.1, hl.2]
  have e := hol_3 hm' hl
  have hk1 := hl.1
  have hk20 := hl.2
  refine go ?_
  refine s_call1 (wn rfl) rfl rfl (rank_any _ _ _ _ hbx hv.sv) ?_
  rintro _ _ ⟨rfl, rfl⟩
  by_cases h3 : ms.length = 3
  rotate_left
  · have e' := thr_2 (ws := holW k) hm' h3
    have h3' : (ms.length : Int) ≠ 3 := by omega
    have hbY := hb
    refine go ?_
    refine s_p (wn rfl) rfl y_bld0 ?_
    refine s_storeBox (wn rfl) rfl rfl rfl hx4 (fun w6 hxz hgz => ?_)
    have hbz := hbY.trans (hx4.below_of hgz hbY.size)
    refine go ?_
    exact end_cellT Try.results18 rfl rfl hxz.cell ⟨_, by rw [e.2, e'.2], by rw [e.1, e'.1]; exact OM.nil _ _ _ _ _, hbz⟩
  have e' := thr_3 (ws := holW k) hm' h3
  have h3' : ¬ ((ms.length : Int) ≠ 3) := by omega
  refine go ?_
  refine s_build1 (B := w3.heap.size) (wn rfl) rfl rfl (Nat.le_refl _) (fun r0 w7 hr0 sr7 hg7 _ => ?_)
  have hb7 := below_of_grownBy hg7
  have sw7 := hb7.size
  replace hv := hv.below hb7
  replace hbx := cell_below hbx hb7
  replace hx4 := hx4.below hb7
  replace hb := hb.trans (hb7.mono hb.size)
  have sbs1 := hb.size
  have hv_b1 := hv
  have hbx_b1 := hbx
  have hx4_b1 := hx4
  have hr0_b1 := hr0
  have hbB1 := Below.refl w7.heap.size w7
  refine go ?_
  refine s_build1 (B := w7.heap.size) (wn rfl) rfl rfl (Nat.le_refl _) (fun r1 w8 ho sr8 hg8 _ => ?_)
  have hb8 := below_of_grownBy hg8
  have sw8 := hb8.size
  replace hv := hv.below hb8
  replace hbx := cell_below hbx hb8
  replace hx4 := hx4.below hb8
  replace hr0 := hr0.below hb8
  replace hbB1 := hbB1.trans (hb8.mono hbB1.size)
  refine go ?_
  refine s_build2 (B := w8.heap.size) (wn rfl) rfl rfl rfl (Nat.le_refl _) (fun tb w9 ht st hg9 _ => ?_)
  have hb9 := below_of_grownBy hg9
  have sw9 := hb9.size
  replace hv := hv.below hb9
  replace hbx := cell_below hbx hb9
  replace hx4 := hx4.below hb9
  replace hr0 := hr0.below hb9
  replace ho := ho.below hb9
  replace hbB1 := hbB1.trans (hb9.mono hbB1.size)
  refine go ?_
  refine s_call2 (wn rfl) rfl rfl rfl (Repeat_any _ [2, 1] _ _ ht.il (by decide) (by decide) ⟨by omega, by omega⟩) ?_
  rintro y w10 ⟨hy, hb10⟩
  have sw10 := hb10.size
  replace hv := hv.below hb10
  replace hbx := cell_below hbx hb10
  replace hx4 := hx4.below hb10
  replace hr0 := hr0.below hb10
  replace ho := ho.below hb10
  replace ht := ht.below hb10
  replace hbB1 := hbB1.trans (hb10.mono hbB1.size)
  have hrl := rep_len [2, 1] (k - 1).toNat
  have hr2' : ([2, 1] : List Int).length = 2 := rfl
  rw [hr2'] at hrl
  refine go ?_
  have szq11 := hbB1.size
  refine s_appendI (wn rfl) rfl rfl rfl ho hy.il (by rw [hrl]; show 1 + _ ≤ _; omega) (by omega) (fun ob' w11 hr1 so hgN _ => ?_)
  replace hbB1 := hbB1.trans (ho.below_of hgN (by omega))
  have sw11 := hgN.size
  replace hv := hv_b1.below hbB1
  replace hbx := cell_below hbx_b1 hbB1
  replace hx4 := hx4_b1.below hbB1
  replace hr0 := hr0_b1.below hbB1
  refine go ?_
  refine s_build1 (B := w11.heap.size) (wn rfl) rfl rfl (Nat.le_refl _) (fun r2 w12 hr2 sr12 hg12 _ => ?_)
  have hb12 := below_of_grownBy hg12
  have sw12 := hb12.size
  replace hv := hv.below hb12
  replace hbx := cell_below hbx hb12
  replace hx4 := hx4.below hb12
  replace hr0 := hr0.below hb12
  replace hr1 := hr1.below hb12
  replace hbB1 := hbB1.trans (hb12.mono hbB1.size)
  refine go ?_
  refine s_build3V (B := w12.heap.size) (wn rfl) rfl rfl rfl rfl hr0.sv.one hr1.sv.one hr2.sv.one (Nat.le_refl _) (fun wb w13 hwb hg13 => ?_)
  have hb13 := below_of_grownBy hg13
  have sw13 := hb13.size
  replace hv := hv.below hb13
  replace hbx := cell_below hbx hb13
  replace hx4 := hx4.below hb13
  replace hr0 := hr0.below hb13
  replace hr1 := hr1.below hb13
  replace hr2 := hr2.below hb13
  replace hbB1 := hbB1.trans (hb13.mono hbB1.size)
  have hww : RL w13 wb (holW k) := RL.three hwb hr0.il hr1.il hr2.il
  refine go ?_
  refine s_call2 (wn rfl) rfl rfl rfl (replaced_any _ _ _ _ _ _ hv hbx hww hm' (words3 h3 (holW_ok hl.1 hl.2)) (by simp [holW]) (by simp [holW])) ?_
  rintro _ w14 ⟨x, rfl, hx, hb14⟩
  have sw14 := hb14.size
  replace hv := hv.below hb14
  replace hbx := cell_below hbx hb14
  replace hx4 := hx4.below hb14
  replace hr0 := hr0.below hb14
  replace hr1 := hr1.below hb14
  replace hr2 := hr2.below hb14
  replace hww := hww.below hb14
  replace hbB1 := hbB1.trans (hb14.mono hbB1.size)
  have hbY := (hb.trans (hbB1.mono hb.size))
  refine go ?_
  refine s_storeBox (wn rfl) rfl rfl hx.sv.one hx4 (fun w15 hxz hgz => ?_)
  have hbz := hbY.trans (hx4.below_of hgz hbY.size)
  have hxN := hx.kept hgz (by omega)
  refine go ?_
  exact end_cellT Try.results18 rfl rfl hxz.cell ⟨x, by rw [e.2, e'.2], by rw [e.1, e'.1]; exact (hxN.mono (by omega)).top, hbz⟩

end Go.Proofs.Ytmdimdbfgibflaa
