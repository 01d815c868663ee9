/- Plain words on lists: forms from a flag. No program in sight. -/
import Derived.Test.YtkknhcpjiehgiaaDoorPC
namespace Go.Mem
set_option linter.unusedVariables false
/-- the numbers of the points of a list: where each lies -/
def numIn (n : Nat) (o : List Int) : List Int := laidTo n o (fun k : Nat => (k : Int)) o.length
/-- the form of moves rs from a point -/
def frm (n : Nat) (rs : List (List Int)) (flag : Int) : List (List Int) := rs.map fun m => (orbit rs flag).map fun x => gi (numIn n (orbit rs flag)) (gi m x)
section
variable {n : Nat} {rs ms : List (List Int)} {flag : Int}
theorem frm_take {k : Nat} (hk : k < rs.length) (g : List Int → List Int) : (rs.take (k + 1)).map g = (rs.take k).map g ++ [g (gr rs k)] := by
  rw [List.take_succ_eq_append_getElem hk, List.map_append]
  simp [gr, List.getD, hk]
theorem map_take_gi {o : List Int} {k : Nat} (hk : k < o.length) (g : Int → Int) : (o.take (k + 1)).map g = (o.take k).map g ++ [g (gi o k)] := by
  rw [take_gi hk, List.map_append]; rfl
theorem orbit_rng (hs : Syst n rs) (hf : 0 ≤ flag ∧ flag < n) (hn : n ≤ 1000) : ∀ x ∈ orbit rs flag, 0 ≤ x ∧ x < n := fun x hx => ((mem_orbit hs hf hn).1 hx).rng hs hf
theorem length_numIn (n : Nat) (o : List Int) : (numIn n o).length = n := length_laidTo _ _ _ _
/-- the permutation of a word -/
theorem does_syst (hm : IsMan ms) {wd : List Int} (hw : IsWord ms wd) : (does ms wd (nf ms)).length = nf ms ∧ ∀ x ∈ does ms wd (nf ms), 0 ≤ x ∧ x < nf ms := by
  refine ⟨length_does _ _ _, fun x hx => ?_⟩
  obtain ⟨j, hj, rfl⟩ := in_gi hx
  rw [length_does] at hj
  rw [gi_does (by omega) (by omega)]
  exact run_rng hm.syst wd hw.2 _ (by omega)
theorem one_word {i : Nat} (hi : i < ms.length) : IsWord ms [(i : Int)] := ⟨by simp, fun x hx => by simp at hx; subst hx; omega⟩
theorem does_one (hm : IsMan ms) {i : Nat} (hi : i < ms.length) : does ms [(i : Int)] (nf ms) = gr ms i := by
  have hrow := hm.syst.row (j := (i : Int)) (by omega) (by omega)
  refine list_ext_gi (by rw [length_does, hrow.1]) fun x h0 hx => ?_
  rw [length_does] at hx
  rw [gi_does h0 hx]; rfl
/-- what words lead to -/
def wds (ms : List (List Int)) (ws : List (List Int)) : List (List Int) := ws.map fun w => does ms w (nf ms)
theorem wds_syst (hm : IsMan ms) {ws : List (List Int)} (hw : ∀ w ∈ ws, IsWord ms w) : Syst (nf ms) (wds ms ws) := fun m h => by
  obtain ⟨w, hw', rfl⟩ := List.mem_map.1 h
  exact does_syst hm (hw w hw')
def repl (ms : List (List Int)) (ws : List (List Int)) : List (List Int) := frm (nf ms) (wds ms ws) 0
theorem frm_len (n : Nat) (rs : List (List Int)) (flag : Int) : (frm n rs flag).length = rs.length := by simp [frm]
theorem frm_tot (hs : Syst n rs) (hf : 0 ≤ flag ∧ flag < n) (hn : n ≤ 1000) (hr : rs.length ≤ 1000) : 1 + tot (frm n rs flag) ≤ 4000000000000000000 :=
  rows_tot (n := 1000) (by rw [frm_len]; exact hr) (fun xs hx => by
    obtain ⟨m, _, rfl⟩ := List.mem_map.1 hx
    have := orbit_le hs hf hn
    simp; omega) (by omega)
/-- all single moves, the last one first -/
def revw (k : Nat) : List (List Int) := (List.range k).map fun i : Nat => [((k : Int) - 1 - i)]
theorem wds_rev (hm : IsMan ms) : wds ms (revw ms.length) = ms.reverse := by
  refine rows_ext (by simp [wds, revw]) fun j hj => ?_
  have hj : j < ms.length := by simpa [wds, revw] using hj
  have e : gr (wds ms (revw ms.length)) j = does ms [((ms.length - 1 - j : Nat) : Int)] (nf ms) := by
    have : ((ms.length : Int) - 1 - j) = ((ms.length - 1 - j : Nat) : Int) := by omega
    simp [wds, revw, gr, List.getD, hj, this]
  rw [e, does_one hm (by omega)]
  have hlt : ms.length - 1 - j < ms.length := by omega
  simp [gr, List.getD, hj, List.getElem_reverse, hlt]
noncomputable def dualL (ms : List (List Int)) : List (List Int) := if IsMan ms then frm (nf ms) ms.reverse 0 else []
theorem dualL_no (h : ¬ IsMan ms) : dualL ms = [] := if_neg h
theorem dualL_yes (h : IsMan ms) : dualL ms = frm (nf ms) ms.reverse 0 := if_pos h
theorem rev_syst (hm : IsMan ms) : Syst (nf ms) ms.reverse := fun m h => hm.syst m (List.mem_reverse.1 h)
theorem dualL_len (ms : List (List Int)) : 1 + tot (dualL ms) ≤ 4000000000000000000 := by
  unfold dualL
  split
  · rename_i h
    have h2 := h.m0.f2
    have h4 := h.m0.f400
    have h5 := h.m0.r5
    exact frm_tot (rev_syst h) (by omega) (by omega) (by simp; omega)
  · simp [tot]
/-- moves replaced by words, if a maniplex comes of it -/
noncomputable def replL (ms : List (List Int)) (ws : List (List Int)) : List (List Int) := if IsMan (repl ms ws) then repl ms ws else []
noncomputable def replC (ms : List (List Int)) (ws : List (List Int)) : Int := if IsMan (repl ms ws) then 0 else 5
theorem man_tot (h : IsMan ms) : 1 + tot ms ≤ 4000000000000000000 := by
  have h4 := h.m0.f400
  have h5 := h.m0.r5
  refine rows_tot (n := 1000) (by omega) (fun xs hx => ?_) (by omega)
  have := (h.syst xs hx).1
  omega
theorem replL_len (ms ws : List (List Int)) : 1 + tot (replL ms ws) ≤ 4000000000000000000 := by
  unfold replL
  split
  · rename_i h; exact man_tot h
  · simp [tot]
/-- the same for a maniplex of rank 3 alone -/
noncomputable def thrL (ms : List (List Int)) (ws : List (List Int)) : List (List Int) := if IsMan ms ∧ ms.length = 3 then replL ms ws else []
noncomputable def thrC (ms : List (List Int)) (ws : List (List Int)) : Int := if IsMan ms then (if ms.length = 3 then replC ms ws else 5) else 1
theorem thr_1 {ws : List (List Int)} (h : ¬ IsMan ms) : thrL ms ws = [] ∧ thrC ms ws = 1 := ⟨if_neg fun h' => h h'.1, if_neg h⟩
theorem thr_2 {ws : List (List Int)} (hm : IsMan ms) (h : ¬ ms.length = 3) : thrL ms ws = [] ∧ thrC ms ws = 5 := ⟨if_neg fun h' => h h'.2, by unfold thrC; rw [if_pos hm, if_neg h]⟩
theorem thr_3 {ws : List (List Int)} (hm : IsMan ms) (h : ms.length = 3) : thrL ms ws = replL ms ws ∧ thrC ms ws = replC ms ws := ⟨if_pos ⟨hm, h⟩, by unfold thrC; rw [if_pos hm, if_pos h]⟩
theorem thrL_len (ms ws : List (List Int)) : 1 + tot (thrL ms ws) ≤ 4000000000000000000 := by
  unfold thrL
  split
  · exact replL_len _ _
  · simp [tot]
end
end Go.Mem
