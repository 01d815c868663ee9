/- Texts laid together: P20 P21 P22 P23 P24 P25 P26 P27 P28. -/
import Derived.Test.YtablpijnjkncfaaGreatPC
import Derived.Test.YtablpijnjkncfaaGreatPB
/- Plain words on lists: forms from a flag. No program in sight. -/
namespace Go.Mem
set_option linter.unusedVariables false
/-- the numbers of the points of a list: where each lies -/
def numIn (n : Nat) (o : List Int) : List Int := laidTo n o (fun k : Nat => (k : Int)) o.length
/-- the form of moves rs from a point -/
def frm (n : Nat) (rs : List (List Int)) (flag : Int) : List (List Int) := rs.map fun m => (orbit rs flag).map fun x => gi (numIn n (orbit rs flag)) (gi m x)
section
variable {n : Nat} {rs ms : List (List Int)} {flag : Int}
theorem frm_take {k : Nat} (hk : k < rs.length) (g : List Int → List Int) : (rs.take (k + 1)).map g = (rs.take k).map g ++ [g (gr rs k)] := by
  rw [List.take_succ_eq_append_getElem hk, List.map_append]
  simp [gr, List.getD, hk]
theorem map_take_gi {o : List Int} {k : Nat} (hk : k < o.length) (g : Int → Int) : (o.take (k + 1)).map g = (o.take k).map g ++ [g (gi o k)] := by
  rw [take_gi hk, List.map_append]; rfl
theorem orbit_rng (hs : Syst n rs) (hf : 0 ≤ flag ∧ flag < n) (hn : n ≤ 1000) : ∀ x ∈ orbit rs flag, 0 ≤ x ∧ x < n := fun x hx => ((mem_orbit hs hf hn).1 hx).rng hs hf
theorem length_numIn (n : Nat) (o : List Int) : (numIn n o).length = n := length_laidTo _ _ _ _
/-- the permutation of a word -/
theorem does_syst (hm : IsMan ms) {wd : List Int} (hw : IsWord ms wd) : (does ms wd (nf ms)).length = nf ms ∧ ∀ x ∈ does ms wd (nf ms), 0 ≤ x ∧ x < nf ms := by
  refine ⟨length_does _ _ _, fun x hx => ?_⟩
  obtain ⟨j, hj, rfl⟩ := in_gi hx
  rw [length_does] at hj
  rw [gi_does (by omega) (by omega)]
  exact run_rng hm.syst wd hw.2 _ (by omega)
theorem one_word {i : Nat} (hi : i < ms.length) : IsWord ms [(i : Int)] := ⟨by simp, fun x hx => by simp at hx; subst hx; omega⟩
theorem does_one (hm : IsMan ms) {i : Nat} (hi : i < ms.length) : does ms [(i : Int)] (nf ms) = gr ms i := by
  have hrow := hm.syst.row (j := (i : Int)) (by omega) (by omega)
  refine list_ext_gi (by rw [length_does, hrow.1]) fun x h0 hx => ?_
  rw [length_does] at hx
  rw [gi_does h0 hx]; rfl
/-- what words lead to -/
def wds (ms : List (List Int)) (ws : List (List Int)) : List (List Int) := ws.map fun w => does ms w (nf ms)
theorem wds_syst (hm : IsMan ms) {ws : List (List Int)} (hw : ∀ w ∈ ws, IsWord ms w) : Syst (nf ms) (wds ms ws) := fun m h => by
  obtain ⟨w, hw', rfl⟩ := List.mem_map.1 h
  exact does_syst hm (hw w hw')
def repl (ms : List (List Int)) (ws : List (List Int)) : List (List Int) := frm (nf ms) (wds ms ws) 0
theorem frm_len (n : Nat) (rs : List (List Int)) (flag : Int) : (frm n rs flag).length = rs.length := by simp [frm]
theorem frm_tot (hs : Syst n rs) (hf : 0 ≤ flag ∧ flag < n) (hn : n ≤ 1000) (hr : rs.length ≤ 1000) : 1 + tot (frm n rs flag) ≤ 4000000000000000000 :=
  rows_tot (n := 1000) (by rw [frm_len]; exact hr) (fun xs hx => by
    obtain ⟨m, _, rfl⟩ := List.mem_map.1 hx
    have := orbit_le hs hf hn
    simp; omega) (by omega)
/-- all single moves, the last one first -/
def revw (k : Nat) : List (List Int) := (List.range k).map fun i : Nat => [((k : Int) - 1 - i)]
theorem wds_rev (hm : IsMan ms) : wds ms (revw ms.length) = ms.reverse := by
  refine rows_ext (by simp [wds, revw]) fun j hj => ?_
  have hj : j < ms.length := by simpa [wds, revw] using hj
  have e : gr (wds ms (revw ms.length)) j = does ms [((ms.length - 1 - j : Nat) : Int)] (nf ms) := by
    have : ((ms.length : Int) - 1 - j) = ((ms.length - 1 - j : Nat) : Int) := by omega
    simp [wds, revw, gr, List.getD, hj, this]
  rw [e, does_one hm (by omega)]
  have hlt : ms.length - 1 - j < ms.length := by omega
  simp [gr, List.getD, hj, List.getElem_reverse, hlt]
noncomputable def dualL (ms : List (List Int)) : List (List Int) := if IsMan ms then frm (nf ms) ms.reverse 0 else []
theorem dualL_no (h : ¬ IsMan ms) : dualL ms = [] := if_neg h
theorem dualL_yes (h : IsMan ms) : dualL ms = frm (nf ms) ms.reverse 0 := if_pos h
theorem rev_syst (hm : IsMan ms) : Syst (nf ms) ms.reverse := fun m h => hm.syst m (List.mem_reverse.1 h)
theorem dualL_len (ms : List (List Int)) : 1 + tot (dualL ms) ≤ 4000000000000000000 := by
  unfold dualL
  split
  · rename_i h
    have h2 := h.m0.f2
    have h4 := h.m0.f400
    have h5 := h.m0.r5
    exact frm_tot (rev_syst h) (by omega) (by omega) (by simp; omega)
  · simp [tot]
/-- moves replaced by words, if a maniplex comes of it -/
noncomputable def replL (ms : List (List Int)) (ws : List (List Int)) : List (List Int) := if IsMan (repl ms ws) then repl ms ws else []
noncomputable def replC (ms : List (List Int)) (ws : List (List Int)) : Int := if IsMan (repl ms ws) then 0 else 5
theorem man_tot (h : IsMan ms) : 1 + tot ms ≤ 4000000000000000000 := by
  have h4 := h.m0.f400
  have h5 := h.m0.r5
  refine rows_tot (n := 1000) (by omega) (fun xs hx => ?_) (by omega)
  have := (h.syst xs hx).1
  omega
theorem replL_len (ms ws : List (List Int)) : 1 + tot (replL ms ws) ≤ 4000000000000000000 := by
  unfold replL
  split
  · rename_i h; exact man_tot h
  · simp [tot]
/-- the same for a maniplex of rank 3 alone -/
noncomputable def thrL (ms : List (List Int)) (ws : List (List Int)) : List (List Int) := if IsMan ms ∧ ms.length = 3 then replL ms ws else []
noncomputable def thrC (ms : List (List Int)) (ws : List (List Int)) : Int := if IsMan ms then (if ms.length = 3 then replC ms ws else 5) else 1
theorem thr_1 {ws : List (List Int)} (h : ¬ IsMan ms) : thrL ms ws = [] ∧ thrC ms ws = 1 := ⟨if_neg fun h' => h h'.1, if_neg h⟩
theorem thr_2 {ws : List (List Int)} (hm : IsMan ms) (h : ¬ ms.length = 3) : thrL ms ws = [] ∧ thrC ms ws = 5 := ⟨if_neg fun h' => h h'.2, by unfold thrC; rw [if_pos hm, if_neg h]⟩
theorem thr_3 {ws : List (List Int)} (hm : IsMan ms) (h : ms.length = 3) : thrL ms ws = replL ms ws ∧ thrC ms ws = replC ms ws := ⟨if_pos ⟨hm, h⟩, by unfold thrC; rw [if_pos hm, if_pos h]⟩
theorem thrL_len (ms ws : List (List Int)) : 1 + tot (thrL ms ws) ≤ 4000000000000000000 := by
  unfold thrL
  split
  · exact replL_len _ _
  · simp [tot]
end
end Go.Mem

/- Plain words on lists: reaching all flags from the flag 0, with a value for each; colourings. No program in sight. -/
namespace Go.Mem
set_option linter.unusedVariables false
section
/-- on the way: the points r have values; those before i are done, of that at i the first j moves are -/
structure Bf (ms : List (List Int)) (n2 : Nat) (E S : Int → Int → Prop) (o r : List Int) (i j : Nat) : Prop where
  mp : Mp (nf ms) n2 o r
  mem : ∀ x : Int, 0 ≤ x → x < nf ms → 0 ≤ gi o x → x ∈ r
  z : (0 : Int) ∈ r
  snd : ∀ x ∈ r, S x (gi o x)
  bnd : ∀ x ∈ r, gi o x ≤ r.length
  done : ∀ k : Nat, k < i → k < r.length → ∀ q : Nat, q < ms.length → 0 ≤ gi o (gi (gr ms q) (gi r k)) ∧ E (gi o (gi r k)) (gi o (gi (gr ms q) (gi r k)))
  now : ∀ q : Nat, q < j → 0 ≤ gi o (gi (gr ms q) (gi r i)) ∧ E (gi o (gi r i)) (gi o (gi (gr ms q) (gi r i)))
variable {ms : List (List Int)} {n2 : Nat} {E E' S : Int → Int → Prop} {o r : List Int} {i j : Nat}
theorem Bf.start (hm : IsMan ms) {a : Int} (ha : 0 ≤ a ∧ a < n2) (ha1 : a ≤ 1) (hS : S 0 a) : Bf ms n2 E S (seti (List.replicate (nf ms) (-1)) 0 a) [0] 0 0 := by
  have h2 := hm.m0.f2
  have g : ∀ x : Int, 0 ≤ x → x < nf ms → gi (seti (List.replicate (nf ms) (-1)) 0 a) x = if x = 0 then a else -1 := fun x h0 hx => by
    rw [gi_seti _ _ _ _ (by omega) (by simp; omega) h0]
    split
    · rfl
    · have : x.toNat < nf ms := by omega
      simp [gi, List.getD, this]
  have g0 : gi (seti (List.replicate (nf ms) (-1)) 0 a) 0 = a := by rw [g 0 (by omega) (by omega), if_pos rfl]
  refine ⟨Mp.start (by omega) ha, fun x h0 hx h => ?_, by simp, fun x hx => ?_, fun x hx => ?_, fun k hk => by omega, fun q hq => by omega⟩
  · rw [g x h0 hx] at h
    split at h
    · rename_i e; simp [e]
    · omega
  · simp at hx; subst hx; rw [g0]; exact hS
  · simp at hx; subst hx; rw [g0]; simpa using ha1
theorem Bf.weaken (h : Bf ms n2 E S o r i j) (hE : ∀ a b, E a b → E' a b) : Bf ms n2 E' S o r i j :=
  ⟨h.mp, h.mem, h.z, h.snd, h.bnd, fun k hk hr q hq => ⟨(h.done k hk hr q hq).1, hE _ _ (h.done k hk hr q hq).2⟩, fun q hq => ⟨(h.now q hq).1, hE _ _ (h.now q hq).2⟩⟩
theorem Bf.at (h : Bf ms n2 E S o r i j) (hi : i < r.length) : 0 ≤ gi r i ∧ gi r i < nf ms ∧ 0 ≤ gi o (gi r i) ∧ gi r i ∈ r := by
  have hx := h.mp.rr _ (gi_in (xs := r) (j := i) hi)
  exact ⟨hx.1, hx.2.1, hx.2.2, gi_in hi⟩
theorem Bf.push (h : Bf ms n2 E S o r i j) (hm : IsMan ms) (hi : i < r.length) (hj : j < ms.length) {y b : Int} (hy : y = gi (gr ms j) (gi r i)) (hn : gi o y < 0) (hb : 0 ≤ b ∧ b < n2) (hb2 : b ≤ r.length + 1)
    (hS : y ≠ 0 → S y b) (hE : E (gi o (gi r i)) b) : Bf ms n2 E S (seti o y b) (r ++ [y]) i (j + 1) := by
  have hx := h.at hi
  have hyr : 0 ≤ y ∧ y < nf ms := by rw [hy]; exact hm.syst.at (by omega) (by omega) ⟨hx.1, hx.2.1⟩
  have hol := h.mp.len
  have g : ∀ x : Int, 0 ≤ x → gi (seti o y b) x = if x = y then b else gi o x := fun x h0 => gi_seti _ _ _ _ hyr.1 (by omega) h0
  have ne : ∀ x : Int, 0 ≤ gi o x → x ≠ y := fun x h0 e => by subst e; omega
  have keep : ∀ x : Int, 0 ≤ x → 0 ≤ gi o x → gi (seti o y b) x = gi o x := fun x h0 h1 => by rw [g x h0, if_neg (ne x h1)]
  have hz := h.mp.rr _ h.z
  have hy0 : y ≠ 0 := fun e => ne 0 hz.2.2 e.symm
  have gy : gi (seti o y b) y = b := by rw [g y hyr.1, if_pos rfl]
  have pre : ∀ k : Nat, k < r.length → gi (r ++ [y]) k = gi r k := fun k hk => gi_append_left (by omega) (by omega)
  have row : ∀ q : Nat, q < ms.length → ∀ x : Int, 0 ≤ x ∧ x < nf ms → 0 ≤ gi (gr ms q) x := fun q hq x hx => (hm.syst.at (by omega) (by omega) hx).1
  refine ⟨h.mp.push hyr hb hn, fun x h0 hxl hx1 => ?_, List.mem_append_left _ h.z, fun x hxr => ?_, fun x hxr => ?_, fun k hk hkr q hq => ?_, fun q hq => ?_⟩
  · rw [g x h0] at hx1
    split at hx1
    · rename_i e; simp [e]
    · exact List.mem_append_left _ (h.mem x h0 hxl hx1)
  · rcases List.mem_append.1 hxr with hxr | hxr
    · have := h.mp.rr x hxr; rw [keep x this.1 this.2.2]; exact h.snd x hxr
    · simp at hxr; subst hxr; rw [gy]; exact hS hy0
  · rcases List.mem_append.1 hxr with hxr | hxr
    · have := h.mp.rr x hxr; rw [keep x this.1 this.2.2]; have := h.bnd x hxr; simp; omega
    · simp at hxr; subst hxr; rw [gy]; simp; omega
  · have hk' : k < r.length := by omega
    rw [pre k hk']
    have hxk := h.mp.rr _ (gi_in (xs := r) (j := k) hk')
    have hd := h.done k hk hk' q hq
    rw [keep _ hxk.1 hxk.2.2, keep _ (row q hq _ ⟨hxk.1, hxk.2.1⟩) hd.1]
    exact hd
  · rw [pre i hi, keep _ hx.1 hx.2.2.1]
    by_cases hqj : q = j
    · subst hqj; rw [← hy, gy]; exact ⟨hb.1, hE⟩
    · have hd := h.now q (by omega)
      rw [keep _ (row q (by omega) _ ⟨hx.1, hx.2.1⟩) hd.1]
      exact hd
theorem Bf.hit (h : Bf ms n2 E S o r i j) {y : Int} (hy : y = gi (gr ms j) (gi r i)) (hn : ¬ gi o y < 0) (hE : E (gi o (gi r i)) (gi o y)) : Bf ms n2 E S o r i (j + 1) := by
  refine ⟨h.mp, h.mem, h.z, h.snd, h.bnd, h.done, fun q hq => ?_⟩
  by_cases hqj : q = j
  · subst hqj; rw [← hy]; exact ⟨by omega, hE⟩
  · exact h.now q (by omega)
theorem Bf.next (h : Bf ms n2 E S o r i ms.length) : Bf ms n2 E S o r (i + 1) 0 := by
  refine ⟨h.mp, h.mem, h.z, h.snd, h.bnd, fun k hk hr q hq => ?_, fun q hq => by omega⟩
  by_cases hki : k = i
  · subst hki; exact h.now q hq
  · exact h.done k (by omega) hr q hq
theorem Bf.full (h : Bf ms n2 E S o r i 0) (hm : IsMan ms) (hi : r.length ≤ i) {x : Int} (h0 : 0 ≤ x) (hx : x < nf ms) : x ∈ r := by
  have key : ∀ y : Int, Rch ms 0 y → y ∈ r := fun y hy => by
    induction hy with
    | refl => exact h.z
    | @step y m hr hmm ih =>
      obtain ⟨q, hq, rfl⟩ := mem_gr hmm
      obtain ⟨k, hk, rfl⟩ := in_gi ih
      have hxk := h.mp.rr _ ih
      have hd := h.done k (by omega) hk q hq
      have hr2 := hm.syst.at (j := (q : Int)) (by omega) (by omega) ⟨hxk.1, hxk.2.1⟩
      exact h.mem _ hr2.1 hr2.2 hd.1
  exact key x (hm.all h0 hx)
theorem Bf.rel (h : Bf ms n2 E S o r i 0) (hm : IsMan ms) (hi : r.length ≤ i) {x : Int} (h0 : 0 ≤ x) (hx : x < nf ms) {q : Nat} (hq : q < ms.length) : E (gi o x) (gi o (gi (gr ms q) x)) := by
  obtain ⟨k, hk, e⟩ := in_gi (h.full hm hi h0 hx)
  subst e
  exact (h.done k (by omega) hk q hq).2
/-- the values 0 and 1, such that all moves change them; that of the flag 0 is 0 -/
structure Valid (ms : List (List Int)) (c : List Int) : Prop where
  rng : ∀ x : Int, 0 ≤ x → x < nf ms → 0 ≤ gi c x ∧ gi c x ≤ 1
  z : gi c 0 = 0
  turn : ∀ q : Nat, q < ms.length → ∀ x : Int, 0 ≤ x → x < nf ms → gi c (gi (gr ms q) x) = 1 - gi c x
def ColS (ms : List (List Int)) (x a : Int) : Prop := (0 ≤ a ∧ a ≤ 1) ∧ (x = 0 → a = 0) ∧ ∀ c, Valid ms c → a = gi c x
def DisS (ms : List (List Int)) (x a : Int) : Prop := (x = 0 → a = 0) ∧ ∀ c, Valid ms c → a % 2 = gi c x
theorem ColS.zero (ms : List (List Int)) : ColS ms 0 0 := ⟨by omega, fun _ => rfl, fun c h => h.z.symm⟩
theorem DisS.zero (ms : List (List Int)) : DisS ms 0 0 := ⟨fun _ => rfl, fun c h => h.z.symm⟩
theorem ColS.turn {x a y : Int} {j : Nat} (h : ColS ms x a) (hj : j < ms.length) (hx : 0 ≤ x ∧ x < nf ms) (hy : y = gi (gr ms j) x) (h0 : y ≠ 0) : ColS ms y (1 - a) :=
  ⟨by have := h.1; omega, fun e => absurd e h0, fun c hc => by rw [hy, hc.turn j hj x hx.1 hx.2, h.2.2 c hc]⟩
theorem DisS.turn {x a y : Int} {j : Nat} (h : DisS ms x a) (hj : j < ms.length) (hx : 0 ≤ x ∧ x < nf ms) (hy : y = gi (gr ms j) x) (h0 : y ≠ 0) : DisS ms y (a + 1) :=
  ⟨fun e => absurd e h0, fun c hc => by
    have h1 := h.2 c hc
    have h2 := hc.rng x hx.1 hx.2
    rw [hy, hc.turn j hj x hx.1 hx.2, ← h1]; omega⟩
/-- there is a colouring -/
def Ori (ms : List (List Int)) : Prop := ∃ c, Valid ms c
noncomputable instance (ms : List (List Int)) : Decidable (Ori ms) := Classical.propDecidable _
end
/-- the first i numbers have been turned by g -/
def upTo (g : Int → Int) (L : List Int) (i : Nat) : List Int := (List.range L.length).map fun f : Nat => if f < i then g (gi L f) else gi L f
theorem upTo_len (g : Int → Int) (L : List Int) (i : Nat) : (upTo g L i).length = L.length := by simp [upTo]
theorem upTo_0 (g : Int → Int) (L : List Int) : upTo g L 0 = L := by
  refine list_ext_gi (upTo_len _ _ _) fun x h0 hx => ?_
  rw [upTo_len] at hx
  unfold upTo
  rw [gi_range_map h0 hx, if_neg (by omega), show ((x.toNat : Nat) : Int) = x by omega]
theorem gi_upTo {g : Int → Int} {L : List Int} {i : Nat} {x : Int} (h0 : 0 ≤ x) (hx : x < L.length) : gi (upTo g L i) x = if x < i then g (gi L x) else gi L x := by
  unfold upTo
  rw [gi_range_map h0 hx, show ((x.toNat : Nat) : Int) = x by omega]
  by_cases h : x < i
  · rw [if_pos (by omega), if_pos h]
  · rw [if_neg (by omega), if_neg h]
theorem upTo_step {g : Int → Int} {L : List Int} {i : Nat} (hi : i < L.length) : seti (upTo g L i) i (g (gi L i)) = upTo g L (i + 1) := by
  refine list_ext_gi (by simp [seti, upTo_len]) fun x h0 hx => ?_
  have hxk : x < L.length := by simpa [seti, upTo_len] using hx
  rw [gi_seti _ _ _ _ (by omega) (by rw [upTo_len]; omega) h0, gi_upTo h0 hxk, gi_upTo h0 hxk]
  split
  · rename_i e; subst e; rw [if_pos (by omega)]
  · rename_i e
    by_cases h : x < i
    · rw [if_pos h, if_pos (by omega)]
    · rw [if_neg h, if_neg (by omega)]
end Go.Mem

/- Plain words on lists: quotients by automorphisms. No program in sight. -/
namespace Go.Mem
set_option linter.unusedVariables false
theorem Rch.sub {A B : List (List Int)} (h : ∀ m ∈ A, m ∈ B) {x y : Int} (hr : Rch A x y) : Rch B x y := by
  induction hr with
  | refl => exact .refl _
  | step hr hm ih => exact .step ih (h _ hm)
/-- a permutation leads back -/
theorem perm_back {p : List Int} {n : Nat} (hl : p.length = n) (hn : p.Nodup) (hr : ∀ x ∈ p, 0 ≤ x ∧ x < n) (hN : n ≤ 1000) {x : Int} (hx : 0 ≤ x ∧ x < n) : Rch [p] (gi p x) x := by
  have hs : Syst n [p] := fun m hm => by
    simp at hm; subst hm; exact ⟨hl, hr⟩
  have hpx := hs.mem (m := p) (by simp) hx
  obtain ⟨O, hm, hOn⟩ : ∃ O : List Int, (∀ y : Int, y ∈ O ↔ Rch [p] (gi p x) y) ∧ O.Nodup := ⟨orbit [p] (gi p x), fun y => mem_orbit hs hpx hN, orbit_nodup _ _⟩
  refine Classical.byContradiction fun hno => ?_
  have hxo : x ∉ O := fun h => hno ((hm _).1 h)
  have hnd : (x :: O).Nodup := by rw [List.nodup_cons]; exact ⟨hxo, hOn⟩
  have hrg : ∀ y ∈ x :: O, 0 ≤ y ∧ y < p.length := fun y hy => by
    rcases List.mem_cons.1 hy with rfl | hy
    · omega
    · have := ((hm _).1 hy).rng hs hpx; omega
  have hnd2 : ((x :: O).map (gi p)).Nodup := by
    refine List.pairwise_map.2 ?_
    refine List.Pairwise.imp_of_mem (fun {a b} ha hb hab e => ?_) (List.nodup_iff_pairwise_ne.1 hnd)
    exact hab (gi_inj hn (hrg a ha) (hrg b hb) e)
  have hsub : ∀ y ∈ (x :: O).map (gi p), y ∈ O := fun y hy => by
    obtain ⟨z, hz, rfl⟩ := List.mem_map.1 hy
    rcases List.mem_cons.1 hz with rfl | hz
    · exact (hm _).2 (.refl _)
    · exact (hm _).2 (.step ((hm _).1 hz) (by simp))
  have := List.Nodup.length_le_of_subset hnd2 hsub
  simp at this
  omega
section
variable {ms A : List (List Int)}
theorem homs_sym (hm : IsMan ms) (hA : ∀ p ∈ A, Hom ms ms p) : Sym (nf ms) A := by
  have h4 := hm.m0.f400
  have hs : Syst (nf ms) A := fun p hp => by
    have h := hA p hp
    refine ⟨h.len, fun x hx => ?_⟩
    obtain ⟨i, hi, e⟩ := in_gi hx
    rw [← e]
    exact h.rng i (by omega) (by rw [← h.len]; omega)
  refine ⟨hs, fun x y h0 hx hr => ?_⟩
  induction hr with
  | refl => exact .refl _
  | @step y p hr hpa ih =>
    have hy := hr.rng hs ⟨h0, hx⟩
    have hb := perm_back (hA p hpa).len ((hA p hpa).nodup hm hm rfl rfl) (hs p hpa).2 (by omega) hy
    exact (hb.sub (fun m hm' => by simp at hm'; subst hm'; exact hpa)).trans ih
theorem homs_comm (hm : IsMan ms) (hA : ∀ p ∈ A, Hom ms ms p) {j : Nat} (hj : j < ms.length) : Comm (nf ms) A (gr ms j) := by
  refine ⟨(hm.syst.row (j := (j : Int)) (by omega) (by omega)).1, fun x h0 hx => hm.syst.at (j := (j : Int)) (by omega) (by omega) ⟨h0, hx⟩, fun p hp x h0 hx => ?_⟩
  exact ((hA p hp).mv j hj x h0 hx).symm
/-- the quotient by automorphisms -/
def quoL (ms A : List (List Int)) : List (List Int) := ms.map (symRow (labs (nf ms) A) (labc (nf ms) A).toNat)
theorem quoL_tot (hm : IsMan ms) (hA : ∀ p ∈ A, Hom ms ms p) : 1 + tot (quoL ms A) ≤ 4000000000000000000 := by
  have r5 := hm.m0.r5
  have f4 := hm.m0.f400
  have hL := (labs_all (homs_sym hm hA) (by omega)).c0
  refine rows_tot (n := 1000) (by simp [quoL]; omega) (fun xs hx => ?_) (by omega)
  obtain ⟨m, _, rfl⟩ := List.mem_map.1 hx
  rw [length_symRow]; omega
/-- at most 16 automorphisms -/
def AutsOk (ms A : List (List Int)) : Prop := A.length ≤ 16 ∧ ∀ p ∈ A, IsCov ms ms p
noncomputable instance (ms A : List (List Int)) : Decidable (AutsOk ms A) := Classical.propDecidable _
theorem AutsOk.hom (h : AutsOk ms A) (hm : IsMan ms) : ∀ p ∈ A, Hom ms ms p := fun p hp => ((h.2 p hp).hom hm hm).2
noncomputable def qbC (ms A : List (List Int)) : Int := if IsMan ms then (if AutsOk ms A then (if IsMan (quoL ms A) then 0 else 5) else 2) else 1
noncomputable def qbL (ms A : List (List Int)) : List (List Int) := if qbC ms A = 0 then quoL ms A else []
theorem qb_1 (h : ¬ IsMan ms) : qbL ms A = [] ∧ qbC ms A = 1 := by
  have e : qbC ms A = 1 := if_neg h
  exact ⟨if_neg (by rw [e]; decide), e⟩
theorem qb_2 (hm : IsMan ms) (h : ¬ AutsOk ms A) : qbL ms A = [] ∧ qbC ms A = 2 := by
  have e : qbC ms A = 2 := by unfold qbC; rw [if_pos hm, if_neg h]
  exact ⟨if_neg (by rw [e]; decide), e⟩
theorem qb_3 (hm : IsMan ms) (h : AutsOk ms A) (h2 : ¬ IsMan (quoL ms A)) : qbL ms A = [] ∧ qbC ms A = 5 := by
  have e : qbC ms A = 5 := by unfold qbC; rw [if_pos hm, if_pos h, if_neg h2]
  exact ⟨if_neg (by rw [e]; decide), e⟩
theorem qb_4 (hm : IsMan ms) (h : AutsOk ms A) (h2 : IsMan (quoL ms A)) : qbL ms A = quoL ms A ∧ qbC ms A = 0 := by
  have e : qbC ms A = 0 := by unfold qbC; rw [if_pos hm, if_pos h, if_pos h2]
  exact ⟨if_pos e, e⟩
theorem qbL_len (ms A : List (List Int)) : 1 + tot (qbL ms A) ≤ 4000000000000000000 := by
  by_cases hm : IsMan ms
  · by_cases h : AutsOk ms A
    · by_cases h2 : IsMan (quoL ms A)
      · rw [(qb_4 hm h h2).1]; exact quoL_tot hm (h.hom hm)
      · rw [(qb_3 hm h h2).1]; simp [tot]
    · rw [(qb_2 hm h).1]; simp [tot]
  · rw [(qb_1 hm).1]; simp [tot]
end
end Go.Mem

/- Plain words on lists: the order of lists of numbers, of lists of these; least forms. No program in sight. -/
namespace Go.Mem
set_option linter.unusedVariables false
section
variable {α : Type} [DecidableEq α] {lt : α → α → Bool}
/-- the order by the first place at which two lists differ -/
def lexL (lt : α → α → Bool) : List α → List α → Bool
  | [], [] => false
  | [], _ :: _ => true
  | _ :: _, [] => false
  | x :: xs, y :: ys => if x = y then lexL lt xs ys else lt x y
theorem lexL_app (p xs ys : List α) : lexL lt (p ++ xs) (p ++ ys) = lexL lt xs ys := by
  induction p with
  | nil => rfl
  | cons a p ih => simp [lexL, ih]
theorem lexL_self (xs : List α) : lexL lt xs xs = false := by
  induction xs with
  | nil => rfl
  | cons a p ih => simp [lexL, ih]
/-- they differ at i first -/
theorem lexL_at {xs ys : List α} {i : Nat} (he : xs.take i = ys.take i) (hx : i < xs.length) (hy : i < ys.length) (hne : xs[i] ≠ ys[i]) : lexL lt xs ys = lt xs[i] ys[i] ∧ xs ≠ ys := by
  have e1 : xs = xs.take i ++ xs[i] :: xs.drop (i + 1) := by rw [← List.drop_eq_getElem_cons hx, List.take_append_drop]
  have e2 : ys = ys.take i ++ ys[i] :: ys.drop (i + 1) := by rw [← List.drop_eq_getElem_cons hy, List.take_append_drop]
  refine ⟨?_, fun e => hne (by subst e; rfl)⟩
  have key : ∀ (p A B : List α) (a b : α), xs = p ++ a :: A → ys = p ++ b :: B → a ≠ b → lexL lt xs ys = lt a b := by
    rintro p A B a b rfl rfl hn
    rw [lexL_app]; simp [lexL, hn]
  exact key _ _ _ _ _ (by rw [← he]; exact e1) e2 hne
theorem lexL_short {xs ys : List α} (he : xs = ys.take xs.length) (hl : xs.length < ys.length) : lexL lt xs ys = true := by
  have e2 : ys = xs ++ ys.drop xs.length := by conv => lhs; rw [← List.take_append_drop xs.length ys, ← he]
  have : ys.drop xs.length ≠ [] := by intro e; rw [List.drop_eq_nil_iff] at e; omega
  rw [e2]
  conv => lhs; arg 2; rw [← List.append_nil xs]
  rw [lexL_app]
  cases h : ys.drop xs.length with
  | nil => exact absurd h this
  | cons a l => rfl
theorem lexL_long {xs ys : List α} (he : xs.take ys.length = ys) (hl : ys.length < xs.length) : lexL lt xs ys = false := by
  have e2 : xs = ys ++ xs.drop ys.length := by conv => lhs; rw [← List.take_append_drop ys.length xs, he]
  have : xs.drop ys.length ≠ [] := by intro e; rw [List.drop_eq_nil_iff] at e; omega
  rw [e2]
  conv => lhs; arg 3; rw [← List.append_nil ys]
  rw [lexL_app]
  cases h : xs.drop ys.length with
  | nil => exact absurd h this
  | cons a l => rfl
/-- less, equal, greater -/
def cmpL (lt : α → α → Bool) (xs ys : List α) : Int := if xs = ys then 0 else if lexL lt xs ys then -1 else 1
theorem cmpL_neg (xs ys : List α) : decide (cmpL lt xs ys < 0) = lexL lt xs ys := by
  unfold cmpL
  split
  · rename_i e; subst e; rw [lexL_self]; rfl
  · split
    · rename_i h; rw [h]; rfl
    · rename_i h; simp at h; rw [h]; rfl
theorem cmpL_zero (xs ys : List α) : cmpL lt xs ys = 0 ↔ xs = ys := by
  unfold cmpL
  split
  · rename_i e; simp [e]
  · rename_i e; split <;> simp [e]
end
def ltI (a b : Int) : Bool := decide (a < b)
def lessL : List Int → List Int → Bool := lexL ltI
def lessR : List (List Int) → List (List Int) → Bool := lexL lessL
def cmpI (a b : Int) : Int := if a = b then 0 else if a < b then -1 else 1
section
variable {xs ys : List Int} {xss yss : List (List Int)} {i : Nat}
theorem take_gi_eq (hx : i < xs.length) (hy : i < ys.length) (he : xs.take i = ys.take i) (h : gi xs i = gi ys i) : xs.take (i + 1) = ys.take (i + 1) := by
  rw [take_gi hx, take_gi hy, he, h]
theorem take_gr {xss : List (List Int)} {i : Nat} (h : i < xss.length) : xss.take (i + 1) = xss.take i ++ [gr xss i] := by
  rw [List.take_succ_eq_append_getElem h]; simp [gr, List.getD, h]
theorem take_gr_eq (hx : i < xss.length) (hy : i < yss.length) (he : xss.take i = yss.take i) (h : gr xss i = gr yss i) : xss.take (i + 1) = yss.take (i + 1) := by
  rw [take_gr hx, take_gr hy, he, h]
theorem gi_get (hx : i < xs.length) : gi xs i = xs[i] := by simp [gi, List.getD, hx]
theorem gr_get (hx : i < xss.length) : gr xss i = xss[i] := by simp [gr, List.getD, hx]
theorem lessL_at (he : xs.take i = ys.take i) (hx : i < xs.length) (hy : i < ys.length) (hne : gi xs i ≠ gi ys i) : lessL xs ys = decide (gi xs i < gi ys i) ∧ xs ≠ ys := by
  rw [gi_get hx, gi_get hy] at hne ⊢
  exact lexL_at he hx hy hne
theorem lessR_at (he : xss.take i = yss.take i) (hx : i < xss.length) (hy : i < yss.length) (hne : gr xss i ≠ gr yss i) : lessR xss yss = lessL (gr xss i) (gr yss i) ∧ xss ≠ yss := by
  rw [gr_get hx, gr_get hy] at hne ⊢
  exact lexL_at he hx hy hne
theorem cmpL_at (he : xs.take i = ys.take i) (hx : i < xs.length) (hy : i < ys.length) (hne : cmpI (gi xs i) (gi ys i) ≠ 0) : cmpL ltI xs ys = cmpI (gi xs i) (gi ys i) := by
  have h0 : gi xs i ≠ gi ys i := fun e => hne (by unfold cmpI; rw [if_pos e])
  obtain ⟨h1, h2⟩ := lessL_at he hx hy h0
  have h1' : lexL ltI xs ys = decide (gi xs i < gi ys i) := h1
  unfold cmpL cmpI
  rw [if_neg h2, if_neg h0, h1']
  simp
theorem cmpI_zero {a b : Int} : cmpI a b = 0 ↔ a = b := by
  unfold cmpI
  split
  · rename_i e; simp [e]
  · rename_i e; split <;> simp [e]
theorem cmpR_at (he : xss.take i = yss.take i) (hx : i < xss.length) (hy : i < yss.length) (hne : cmpL ltI (gr xss i) (gr yss i) ≠ 0) : cmpL lessL xss yss = cmpL ltI (gr xss i) (gr yss i) := by
  have h0 : gr xss i ≠ gr yss i := fun e => hne ((cmpL_zero _ _).2 e)
  obtain ⟨h1, h2⟩ := lessR_at he hx hy h0
  have h1' : lexL lessL xss yss = lexL ltI (gr xss i) (gr yss i) := h1
  unfold cmpL
  rw [if_neg h2, if_neg h0, h1']
end
/-- behind all places of the first list -/
theorem cmpL_end {α : Type} [DecidableEq α] {lt : α → α → Bool} {xs ys : List α} (he : xs.take xs.length = ys.take xs.length) (hl : xs.length ≤ ys.length) : cmpL lt xs ys = if xs.length < ys.length then -1 else 0 := by
  rw [List.take_length] at he
  by_cases h : xs.length < ys.length
  · rw [if_pos h]
    unfold cmpL
    rw [if_neg (fun e => by rw [e] at h; omega), if_pos (lexL_short he h)]
  · rw [if_neg h, cmpL_zero]
    rw [he, List.take_of_length_le (by omega)]
theorem cmpL_over {α : Type} [DecidableEq α] {lt : α → α → Bool} {xs ys : List α} (he : xs.take ys.length = ys.take ys.length) (hl : ys.length < xs.length) : cmpL lt xs ys = 1 := by
  rw [List.take_length] at he
  unfold cmpL
  rw [if_neg (fun e => by rw [e] at hl; omega), if_neg (by rw [lexL_long he hl]; simp)]
/-- least forms -/
def lstTo (ms : List (List Int)) : Nat → List (List Int)
  | 0 => frm (nf ms) ms 0
  | k + 1 => if lessR (frm (nf ms) ms (k : Nat)) (lstTo ms k) then frm (nf ms) ms (k : Nat) else lstTo ms k
def lst (ms : List (List Int)) : List (List Int) := lstTo ms (nf ms)
theorem lstTo_one (ms : List (List Int)) : lstTo ms 1 = lstTo ms 0 := by
  have e : lessR (frm (nf ms) ms ((0 : Nat) : Int)) (frm (nf ms) ms 0) = false := lexL_self _
  show (if lessR (frm (nf ms) ms ((0 : Nat) : Int)) (lstTo ms 0) then _ else lstTo ms 0) = _
  have e' : lessR (frm (nf ms) ms ((0 : Nat) : Int)) (lstTo ms 0) = false := e
  rw [e']; rfl
theorem lstTo_hit {ms : List (List Int)} {k : Nat} (h : lessR (frm (nf ms) ms (k : Nat)) (lstTo ms k) = true) : lstTo ms (k + 1) = frm (nf ms) ms (k : Nat) := by
  show (if lessR (frm (nf ms) ms (k : Nat)) (lstTo ms k) then _ else lstTo ms k) = _
  rw [h]; rfl
theorem lstTo_miss {ms : List (List Int)} {k : Nat} (h : lessR (frm (nf ms) ms (k : Nat)) (lstTo ms k) = false) : lstTo ms (k + 1) = lstTo ms k := by
  show (if lessR (frm (nf ms) ms (k : Nat)) (lstTo ms k) then _ else lstTo ms k) = _
  rw [h]; rfl
end Go.Mem

/- Plain words on lists: a form of moves is a maniplex if the moves are like those of one; renumbering. No program in sight. -/
namespace Go.Mem
set_option linter.unusedVariables false
/-- what is known of the points that maps lead p to, in order -/
structure Obt (n : Nat) (rs : List (List Int)) (p : Int) (O : List Int) : Prop where
  nodup : O.Nodup
  rng : ∀ x ∈ O, 0 ≤ x ∧ x < n
  shut : ∀ x ∈ O, ∀ m ∈ rs, gi m x ∈ O
  pos : 0 < O.length
  first : gi O 0 = p
  rch : ∀ x ∈ O, Rch rs p x
def frmO (n : Nat) (rs : List (List Int)) (O : List Int) : List (List Int) := rs.map fun m => O.map fun x => gi (numIn n O) (gi m x)
theorem bfs_first {ms : List (List Int)} {p : Int} : ∀ i : Nat, gi (bfs ms p i) 0 = p ∧ 0 < (bfs ms p i).length
  | 0 => by simp [bfs, gi]
  | i + 1 => by
    obtain ⟨h1, h2⟩ := bfs_first (ms := ms) (p := p) i
    unfold bfs
    split
    · refine ⟨by rw [gi_visits (by omega) (by omega)]; exact h1, ?_⟩
      have := length_visits (bfs ms p i) (images ms (gi (bfs ms p i) i))
      omega
    · exact ⟨h1, h2⟩
section
variable {n : Nat} {rs : List (List Int)} {p : Int} {O : List Int}
theorem obt_orbit (hs : Syst n rs) (hp : 0 ≤ p ∧ p < n) (hn : n ≤ 1000) : Obt n rs p (orbit rs p) := by
  have hm : ∀ y : Int, y ∈ orbit rs p ↔ Rch rs p y := fun y => mem_orbit hs hp hn
  have hf : gi (orbit rs p) 0 = p ∧ 0 < (orbit rs p).length := bfs_first 1000
  exact ⟨orbit_nodup _ _, fun x hx => ((hm x).1 hx).rng hs hp, fun x hx m hmm => (hm _).2 (.step ((hm x).1 hx) hmm), hf.2, hf.1, fun x hx => (hm x).1 hx⟩
theorem num_at (hnd : O.Nodup) (hr : ∀ x ∈ O, 0 ≤ x ∧ x < n) {k : Nat} (hk : k < O.length) : gi (numIn n O) (gi O k) = k := by
  unfold numIn
  refine gi_laidTo (fun j hj => hr _ (gi_in hj)) (fun i j hi hj e => ?_) O.length (Nat.le_refl _) k hk
  have := gi_inj hnd (a := (i : Int)) (b := (j : Int)) (by omega) (by omega) e
  exact this
theorem Obt.num (h : Obt n rs p O) {x : Int} (hx : x ∈ O) : 0 ≤ gi (numIn n O) x ∧ gi (numIn n O) x < O.length ∧ gi O (gi (numIn n O) x) = x := by
  obtain ⟨k, hk, rfl⟩ := in_gi hx
  rw [num_at h.nodup h.rng hk]
  exact ⟨by omega, by omega, rfl⟩
theorem Obt.le (h : Obt n rs p O) : O.length ≤ n := nodup_le h.nodup h.rng
theorem frmO_gr {q : Nat} (hq : q < rs.length) : gr (frmO n rs O) q = O.map fun x => gi (numIn n O) (gi (gr rs q) x) := by
  simp [frmO, gr, List.getD, hq]
theorem gi_map {f : Int → Int} {k : Int} (h0 : 0 ≤ k) (hk : k < O.length) : gi (O.map f) k = f (gi O k) := by
  have : k.toNat < O.length := by omega
  simp [gi, List.getD, this]
theorem frmO_gi {q : Nat} (hq : q < rs.length) {k : Int} (h0 : 0 ≤ k) (hk : k < O.length) : gi (gr (frmO n rs O) q) k = gi (numIn n O) (gi (gr rs q) (gi O k)) := by
  rw [frmO_gr hq, gi_map h0 hk]
/-- in the form, the number of a point goes where the point goes -/
theorem frmO_num (h : Obt n rs p O) {q : Nat} (hq : q < rs.length) {x : Int} (hx : x ∈ O) : gi (gr (frmO n rs O) q) (gi (numIn n O) x) = gi (numIn n O) (gi (gr rs q) x) := by
  have hn := h.num hx
  rw [frmO_gi hq hn.1 hn.2.1, hn.2.2]
theorem Obt.inj (h : Obt n rs p O) {x y : Int} (hx : x ∈ O) (hy : y ∈ O) (e : gi (numIn n O) x = gi (numIn n O) y) : x = y := by
  rw [← (h.num hx).2.2, ← (h.num hy).2.2, e]
/-- moves like those of a maniplex, on n points -/
structure Like (n : Nat) (rs : List (List Int)) : Prop where
  r1 : 1 ≤ rs.length
  r5 : rs.length ≤ 5
  n400 : n ≤ 400
  syst : Syst n rs
  free : ∀ q : Nat, q < rs.length → ∀ x : Int, 0 ≤ x ∧ x < n → gi (gr rs q) x ≠ x ∧ gi (gr rs q) (gi (gr rs q) x) = x
  far : ∀ a k : Nat, a + 2 ≤ k → k < rs.length → ∀ x : Int, 0 ≤ x ∧ x < n → gi (gr rs k) (gi (gr rs a) x) = gi (gr rs a) (gi (gr rs k) x) ∧ gi (gr rs a) x ≠ gi (gr rs k) x
theorem frmO_man (hl : Like n rs) (h : Obt n rs p O) : IsMan (frmO n rs O) := by
  have hr1 := hl.r1
  have hle := h.le
  have h4 := hl.n400
  have hlen : (frmO n rs O).length = rs.length := by simp [frmO]
  have hnf : nf (frmO n rs O) = O.length := by
    have h0 := frmO_gr (n := n) (O := O) (q := 0) (rs := rs) hr1
    rw [show ((0 : Nat) : Int) = 0 from rfl] at h0
    unfold nf; rw [h0]; simp
  have hin : ∀ q : Nat, q < rs.length → ∀ x ∈ O, gi (gr rs q) x ∈ O := fun q hq x hx => h.shut x hx _ (gr_in hq)
  have hO : ∀ k : Int, 0 ≤ k → k < O.length → gi O k ∈ O := fun k h0 hk => gi_mem h0 hk
  have hrg : ∀ q : Nat, q < rs.length → ∀ k : Int, 0 ≤ k → k < O.length → 0 ≤ gi (gr (frmO n rs O) q) k ∧ gi (gr (frmO n rs O) q) k < O.length := fun q hq k h0 hk => by
    rw [frmO_gi hq h0 hk]
    have := h.num (hin q hq _ (hO k h0 hk))
    exact ⟨this.1, this.2.1⟩
  have hinv : ∀ q : Nat, q < rs.length → ∀ k : Int, 0 ≤ k → k < O.length → gi (gr (frmO n rs O) q) (gi (gr (frmO n rs O) q) k) = k := fun q hq k h0 hk => by
    have hx := hO k h0 hk
    have e : k = gi (numIn n O) (gi O k) := by
      have hk' : k.toNat < O.length := by omega
      have := num_at h.nodup h.rng hk'
      rw [show ((k.toNat : Nat) : Int) = k by omega] at this
      exact this.symm
    conv => lhs; rw [e]
    rw [frmO_num h hq hx, frmO_num h hq (hin q hq _ hx), (hl.free q hq _ (h.rng _ hx)).2, ← e]
  have hne : ∀ q : Nat, q < rs.length → ∀ k : Int, 0 ≤ k → k < O.length → gi (gr (frmO n rs O) q) k ≠ k := fun q hq k h0 hk e => by
    have hx := hO k h0 hk
    have e2 : k = gi (numIn n O) (gi O k) := by
      have hk' : k.toNat < O.length := by omega
      have := num_at h.nodup h.rng hk'
      rw [show ((k.toNat : Nat) : Int) = k by omega] at this
      exact this.symm
    rw [frmO_gi hq h0 hk] at e
    exact (hl.free q hq _ (h.rng _ hx)).1 (h.inj (hin q hq _ hx) hx (by rw [e, ← e2]))
  have hrow : ∀ q : Nat, q < rs.length → (gr (frmO n rs O) q).length = O.length := fun q hq => by rw [frmO_gr hq]; simp
  have h2 : 2 ≤ O.length := by
    refine Classical.byContradiction fun hlt => ?_
    have h1 : O.length = 1 := by have := h.pos; omega
    have := hrg 0 hr1 0 (by omega) (by omega)
    exact hne 0 hr1 0 (by omega) (by omega) (by omega)
  refine ⟨⟨by omega, by have := hl.r5; omega, by omega, by omega, fun q hq => ?_, fun a ha k hak hk f hf => ?_⟩, ?_⟩
  · rw [hlen] at hq
    have hlq := hrow q hq
    refine ⟨by rw [hnf]; exact hlq, ⟨by omega, fun x hx => ?_, surj_nodup hlq (fun x h0 hx => ?_)⟩, fun i hi => ?_⟩
    · obtain ⟨k, hk, rfl⟩ := in_gi hx
      have := hrg q hq k (by omega) (by omega)
      omega
    · have h1 := hrg q hq x h0 hx
      rw [← hinv q hq x h0 hx]
      exact gi_mem h1.1 (by omega)
    · exact ⟨hne q hq i (by omega) (by omega), hinv q hq i (by omega) (by omega)⟩
  · rw [hlen] at ha hk
    rw [hnf] at hf
    have hx := hO (f : Int) (by omega) (by omega)
    have ha' : a < rs.length := by omega
    obtain ⟨f1, f2⟩ := hl.far a k hak hk _ (h.rng _ hx)
    have ea := frmO_gi (n := n) (O := O) ha' (k := (f : Int)) (by omega) (by omega)
    have ek := frmO_gi (n := n) (O := O) hk (k := (f : Int)) (by omega) (by omega)
    refine ⟨?_, fun e => f2 ?_⟩
    · rw [ea, ek, frmO_num h hk (hin a ha' _ hx), frmO_num h ha' (hin k hk _ hx), f1]
    · rw [ea, ek] at e
      exact h.inj (hin a ha' _ hx) (hin k hk _ hx) e
  · have hs : Syst O.length (frmO n rs O) := fun m hm => by
      obtain ⟨q, hq, rfl⟩ := mem_gr hm
      rw [hlen] at hq
      refine ⟨hrow q hq, fun x hx => ?_⟩
      obtain ⟨k, hk, rfl⟩ := in_gi hx
      rw [hrow q hq] at hk
      exact hrg q hq k (by omega) (by omega)
    rw [hnf, orbit_full hs (by omega) (by omega)]
    intro x h0 hx
    have key : ∀ y : Int, Rch rs p y → y ∈ O ∧ Rch (frmO n rs O) 0 (gi (numIn n O) y) := fun y hy => by
      have hp : p ∈ O := by rw [← h.first]; exact gi_mem (by omega) (by have := h.pos; omega)
      induction hy with
      | refl =>
        refine ⟨hp, ?_⟩
        have : gi (numIn n O) p = 0 := by
          have := num_at h.nodup h.rng (k := 0) h.pos
          rw [show ((0 : Nat) : Int) = 0 from rfl, h.first] at this
          exact this
        rw [this]; exact .refl _
      | @step y m hr hm ih =>
        obtain ⟨q, hq, rfl⟩ := mem_gr hm
        refine ⟨hin q hq _ ih.1, ?_⟩
        rw [← frmO_num h hq ih.1]
        exact .step ih.2 (gr_in (by rw [hlen]; exact hq))
    have hxO := hO x h0 hx
    have e : x = gi (numIn n O) (gi O x) := by
      have hk' : x.toNat < O.length := by omega
      have := num_at h.nodup h.rng hk'
      rw [show ((x.toNat : Nat) : Int) = x by omega] at this
      exact this.symm
    rw [e]
    exact (key _ (h.rch _ hxO)).2
theorem frm_man (hl : Like n rs) (hp : 0 ≤ p ∧ p < n) : IsMan (frm n rs p) := frmO_man hl (obt_orbit hl.syst hp (by have := hl.n400; omega))
end
section
variable {ms : List (List Int)}
theorem IsMan.like (hm : IsMan ms) : Like (nf ms) ms := by
  refine ⟨hm.m0.r1, hm.m0.r5, hm.m0.f400, hm.syst, fun q hq x hx => ?_, fun a k hak hk x hx => ?_⟩
  · have := (hm.m0.row q hq).2.2 x.toNat (by rw [(hm.m0.row q hq).1]; omega)
    rw [show ((x.toNat : Nat) : Int) = x by omega] at this
    exact this
  · have := hm.m0.far a (by omega) k hak hk x.toNat (by omega)
    unfold FarAt at this
    rw [show ((x.toNat : Nat) : Int) = x by omega] at this
    exact this
theorem gr_rev {q : Nat} (hq : q < ms.length) : gr ms.reverse q = gr ms (ms.length - 1 - q : Nat) := by
  simp [gr, List.getD, List.getElem?_reverse hq]
theorem IsMan.revLike (hm : IsMan ms) : Like (nf ms) ms.reverse := by
  have hl := hm.like
  refine ⟨by simp; exact hl.r1, by simp; exact hl.r5, hl.n400, rev_syst hm, fun q hq x hx => ?_, fun a k hak hk x hx => ?_⟩
  · rw [gr_rev (by simpa using hq)]
    exact hl.free _ (by simp at hq; omega) x hx
  · simp at hk
    rw [gr_rev hk, gr_rev (by omega)]
    have := hl.far (ms.length - 1 - k) (ms.length - 1 - a) (by omega) (by omega) x hx
    exact ⟨this.1.symm, this.2.symm⟩
theorem dual_man (hm : IsMan ms) : IsMan (frm (nf ms) ms.reverse 0) := frm_man hm.revLike (by have := hm.m0.f2; omega)
theorem man_orbit_len (hm : IsMan ms) {f : Int} (hf : 0 ≤ f ∧ f < nf ms) : (orbit ms f).length = nf ms := by
  have h4 := hm.m0.f400
  have hob := obt_orbit hm.syst hf (by omega)
  obtain ⟨O, hO⟩ : ∃ O, O = orbit ms f := ⟨_, rfl⟩
  have hmem : ∀ y : Int, Rch ms f y → y ∈ O := fun y hy => by rw [hO]; exact (mem_orbit hm.syst hf (by omega)).2 hy
  rw [← hO] at hob ⊢
  have hle := hob.le
  have hall : ∀ x : Int, 0 ≤ x → x < nf ms → x ∈ O := fun x h0 hx => hmem x ((hm.sym.back 0 f (by omega) (by omega) (hm.all hf.1 hf.2)).trans (hm.all h0 hx))
  have := List.Nodup.length_le_of_subset (l₁ := idl (nf ms)) (l₂ := O) (by
    unfold idl
    exact List.pairwise_map.2 (List.nodup_range.imp fun h e => h (by omega))) (fun x hx => by
    obtain ⟨i, hi, rfl⟩ := List.mem_map.1 hx
    have := List.mem_range.1 hi
    exact hall i (by omega) (by omega))
  simp at this
  omega
/-- moves renumbered by p -/
def ren (ms : List (List Int)) (p : List Int) : List (List Int) := ms.map fun m => laidTo p.length p (fun f : Nat => gi p (gi m f)) p.length
theorem ren_frm (hm : IsMan ms) {f : Int} (hf : 0 ≤ f ∧ f < nf ms) : ren ms (numIn (nf ms) (orbit ms f)) = frm (nf ms) ms f := by
  have h4 := hm.m0.f400
  have hob := obt_orbit hm.syst hf (by omega)
  have hol := man_orbit_len hm hf
  have hfr : frm (nf ms) ms f = frmO (nf ms) ms (orbit ms f) := rfl
  rw [hfr]
  generalize orbit ms f = O at *
  unfold ren frmO
  refine List.map_congr_left fun m hmm => ?_
  have hnl := length_numIn (nf ms) O
  rw [hnl]
  have hbij : ∀ x : Int, 0 ≤ x → x < nf ms → x ∈ O := fun x h0 hx => full_mem hob.nodup hob.rng hol h0 hx
  refine list_ext_gi (by rw [length_laidTo]; simp [hol]) fun k h0 hk => ?_
  rw [length_laidTo] at hk
  rw [gi_map h0 (by omega)]
  have hx := gi_mem (xs := O) h0 (by omega)
  have hxr := hob.rng _ hx
  have e : gi (numIn (nf ms) O) (gi O k) = k := by
    have := num_at (n := nf ms) hob.nodup hob.rng (k := k.toNat) (by omega)
    rw [show ((k.toNat : Nat) : Int) = k by omega] at this
    exact this
  have := gi_laidTo (c := nf ms) (L := numIn (nf ms) O) (v := fun f : Nat => gi (numIn (nf ms) O) (gi m f)) (fun j hj => by
      have := hob.num (hbij j (by omega) (by omega)); omega) (fun i j hi hj e => by
      have := hob.inj (hbij i (by omega) (by omega)) (hbij j (by omega) (by omega)) e
      rw [this]) (nf ms) (by omega) (gi O k).toNat (by omega)
  rw [show (((gi O k).toNat : Nat) : Int) = gi O k by omega, e] at this
  exact this
end
end Go.Mem

/- Plain words on lists: cycles of a permutation, periods, orders. No program in sight. -/
namespace Go.Mem
set_option linter.unusedVariables false
def itr (p : List Int) (x : Int) : Nat → Int
  | 0 => x
  | k + 1 => gi p (itr p x k)
/-- p is a permutation of n points -/
structure Pm (n : Nat) (p : List Int) : Prop where
  len : p.length = n
  nodup : p.Nodup
  rng : ∀ x ∈ p, 0 ≤ x ∧ x < n
  n1000 : n ≤ 1000
section
variable {n : Nat} {p : List Int} {x y : Int} {i j k : Nat}
theorem Pm.at (h : Pm n p) (hx : 0 ≤ x ∧ x < n) : 0 ≤ gi p x ∧ gi p x < n := h.rng _ (gi_mem hx.1 (by rw [h.len]; exact hx.2))
theorem Pm.inj (h : Pm n p) (hx : 0 ≤ x ∧ x < n) (hy : 0 ≤ y ∧ y < n) (e : gi p x = gi p y) : x = y := gi_inj h.nodup (by rw [h.len]; exact hx) (by rw [h.len]; exact hy) e
theorem Pm.itr (h : Pm n p) (hx : 0 ≤ x ∧ x < n) : ∀ k, 0 ≤ Mem.itr p x k ∧ Mem.itr p x k < n
  | 0 => hx
  | k + 1 => h.at (h.itr hx k)
theorem itr_add (p : List Int) (x : Int) (j : Nat) : ∀ k, itr p x (j + k) = itr p (itr p x j) k
  | 0 => rfl
  | k + 1 => by
    show gi p (itr p x (j + k)) = gi p (itr p (itr p x j) k)
    rw [itr_add p x j k]
theorem Pm.cancel (h : Pm n p) (hx : 0 ≤ x ∧ x < n) (hy : 0 ≤ y ∧ y < n) : ∀ k, Mem.itr p x k = Mem.itr p y k → x = y
  | 0, e => e
  | k + 1, e => h.cancel hx hy k (h.inj (h.itr hx k) (h.itr hy k) e)
theorem Pm.syst (h : Pm n p) : Syst n [p] := fun m hm => by
  simp at hm; subst hm; exact ⟨h.len, h.rng⟩
theorem Pm.back (h : Pm n p) (hx : 0 ≤ x ∧ x < n) (hr : Rch [p] x y) : Rch [p] y x := by
  induction hr with
  | refl => exact .refl _
  | @step y m hr hm ih =>
    simp at hm; subst hm
    exact (perm_back h.len h.nodup h.rng h.n1000 (hr.rng h.syst hx)).trans ih
theorem itr_rch (p : List Int) (x : Int) : ∀ k, Rch [p] x (itr p x k)
  | 0 => .refl _
  | k + 1 => .step (itr_rch p x k) (by simp)
theorem rch_itr (hr : Rch [p] x y) : ∃ k, y = itr p x k := by
  induction hr with
  | refl => exact ⟨0, rfl⟩
  | @step y m hr hm ih =>
    simp at hm; subst hm
    obtain ⟨k, rfl⟩ := ih
    exact ⟨k + 1, rfl⟩
/-- there is a first time at which a point is led to itself -/
theorem Pm.ret (h : Pm n p) (hx : 0 ≤ x ∧ x < n) : ∃ k : Nat, k < n ∧ Mem.itr p x (k + 1) = x := by
  have hb : Rch [p] (gi p x) x := perm_back h.len h.nodup h.rng h.n1000 hx
  obtain ⟨k, hk⟩ := rch_itr hb
  have e : Mem.itr p x (k + 1) = x := by
    rw [show k + 1 = 1 + k by omega, itr_add]; exact hk.symm
  -- the least such
  have key : ∀ q, ∀ k, k ≤ q → Mem.itr p x (k + 1) = x → ∃ k0, k0 ≤ k ∧ Mem.itr p x (k0 + 1) = x ∧ ∀ j < k0, Mem.itr p x (j + 1) ≠ x := by
    intro q
    induction q with
    | zero => exact fun k hk e => ⟨k, Nat.le_refl _, e, fun j hj => by omega⟩
    | succ q ih =>
      intro k hk e
      by_cases hex : ∃ j, j < k ∧ Mem.itr p x (j + 1) = x
      · obtain ⟨j, hj, ej⟩ := hex
        obtain ⟨k0, h1, h2, h3⟩ := ih j (by omega) ej
        exact ⟨k0, by omega, h2, h3⟩
      · exact ⟨k, Nat.le_refl _, e, fun j hj ej => hex ⟨j, hj, ej⟩⟩
  obtain ⟨k0, _, e0, hmin⟩ := key k k (Nat.le_refl _) e
  refine ⟨k0, ?_, e0⟩
  have hnd : ((List.range (k0 + 1)).map (Mem.itr p x)).Nodup := by
    refine List.pairwise_map.2 ?_
    refine List.Pairwise.imp_of_mem (fun {a b} ha hb hab e => ?_) (List.pairwise_lt_range (n := k0 + 1))
    have hb' := List.mem_range.1 hb
    have e1 : x = Mem.itr p x (b - a) := by
      refine h.cancel hx (h.itr hx _) a ?_
      rw [← itr_add, show b - a + a = b by omega]; exact e
    exact hmin (b - a - 1) (by omega) (by rw [show b - a - 1 + 1 = b - a by omega]; exact e1.symm)
  have := nodup_le (n := n) hnd (fun y hy => by
    obtain ⟨j, _, rfl⟩ := List.mem_map.1 hy
    exact h.itr hx j)
  simp at this
  omega
end
/-- how often p leads x until it is back -/
def per (n : Nat) (p : List Int) (x : Int) : Nat := ((List.range n).find? fun k => decide (itr p x (k + 1) = x)).getD 0 + 1
section
variable {n : Nat} {p : List Int} {x y : Int} {i j k : Nat}
theorem Pm.per (h : Pm n p) (hx : 0 ≤ x ∧ x < n) : 1 ≤ Mem.per n p x ∧ Mem.per n p x ≤ n ∧ Mem.itr p x (Mem.per n p x) = x ∧ ∀ j, 1 ≤ j → j < Mem.per n p x → Mem.itr p x j ≠ x := by
  obtain ⟨k, hk, e⟩ := h.ret hx
  unfold Mem.per
  cases hf : (List.range n).find? fun k => decide (Mem.itr p x (k + 1) = x) with
  | none =>
    rw [List.find?_eq_none] at hf
    exact absurd (decide_eq_true e) (hf k (List.mem_range.2 hk))
  | some k0 =>
    rw [List.find?_eq_some_iff_getElem] at hf
    obtain ⟨h1, q, hq, e1, e2⟩ := hf
    have e1' : q = k0 := by simpa using e1
    subst e1'
    have hqn : q < n := by simpa using hq
    refine ⟨by simp, by simp; omega, by simpa using of_decide_eq_true h1, fun j h1j hj => ?_⟩
    simp at hj
    have := e2 (j - 1) (by omega)
    simp at this
    rwa [show j - 1 + 1 = j by omega] at this
theorem Pm.per_unique (h : Pm n p) (hx : 0 ≤ x ∧ x < n) (h1 : 1 ≤ k) (he : Mem.itr p x k = x) (hmin : ∀ j, 1 ≤ j → j < k → Mem.itr p x j ≠ x) : Mem.per n p x = k := by
  obtain ⟨a, b, c, d⟩ := h.per hx
  rcases Nat.lt_trichotomy (Mem.per n p x) k with hlt | he' | hgt
  · exact absurd c (hmin _ a hlt)
  · exact he'
  · exact absurd he (d _ h1 hgt)
/-- the cycle of a point -/
def cyOf (n : Nat) (p : List Int) (x : Int) : List Int := (List.range (per n p x)).map (itr p x)
theorem cyOf_len (n : Nat) (p : List Int) (x : Int) : (cyOf n p x).length = per n p x := by simp [cyOf]
theorem Pm.mem_cyOf (h : Pm n p) (hx : 0 ≤ x ∧ x < n) : y ∈ cyOf n p x ↔ Rch [p] x y := by
  constructor
  · intro hy
    obtain ⟨k, _, rfl⟩ := List.mem_map.1 hy
    exact itr_rch p x k
  · intro hr
    obtain ⟨a, b, c, d⟩ := h.per hx
    induction hr with
    | refl => exact List.mem_map.2 ⟨0, List.mem_range.2 (by omega), rfl⟩
    | @step y m hr hm ih =>
      simp at hm; subst hm
      obtain ⟨k, hk, rfl⟩ := List.mem_map.1 ih
      have hk := List.mem_range.1 hk
      by_cases hlt : k + 1 < Mem.per n m x
      · exact List.mem_map.2 ⟨k + 1, List.mem_range.2 hlt, rfl⟩
      · have e : k + 1 = Mem.per n m x := by omega
        have : gi m (Mem.itr m x k) = x := by
          show Mem.itr m x (k + 1) = x
          rw [e]; exact c
        rw [this]
        exact List.mem_map.2 ⟨0, List.mem_range.2 (by omega), rfl⟩
theorem Pm.per_same (h : Pm n p) (hx : 0 ≤ x ∧ x < n) (hr : Rch [p] x y) : Mem.per n p y = Mem.per n p x := by
  have hy := hr.rng h.syst hx
  obtain ⟨m, rfl⟩ := rch_itr hr
  obtain ⟨a, b, c, d⟩ := h.per hx
  have key : ∀ k, Mem.itr p (Mem.itr p x m) k = Mem.itr p (Mem.itr p x k) m := fun k => by rw [← itr_add, ← itr_add, Nat.add_comm]
  refine h.per_unique hy a (by rw [key, c]) fun j h1 hj e => d j h1 hj ?_
  rw [key] at e
  exact h.cancel (h.itr hx j) hx m e
/-- the cycles of the points below i -/
noncomputable def cycTo (n : Nat) (p : List Int) : Nat → List (List Int)
  | 0 => []
  | i + 1 => @ite _ (∃ c ∈ cycTo n p i, (i : Int) ∈ c) (Classical.propDecidable _) (cycTo n p i) (cycTo n p i ++ [cyOf n p i])
noncomputable def cyc (n : Nat) (p : List Int) : List (List Int) := cycTo n p n
theorem cycTo_hit (h : ∃ c ∈ cycTo n p i, (i : Int) ∈ c) : cycTo n p (i + 1) = cycTo n p i := if_pos h
theorem cycTo_miss (h : ¬ ∃ c ∈ cycTo n p i, (i : Int) ∈ c) : cycTo n p (i + 1) = cycTo n p i ++ [cyOf n p i] := if_neg h
theorem cycTo_in (hi : i ≤ n) : ∀ c ∈ cycTo n p i, ∃ j : Nat, j < n ∧ j < i ∧ c = cyOf n p j := by
  induction i with
  | zero => intro c hc; exact absurd hc (by simp [cycTo])
  | succ i ih =>
    intro c hc
    by_cases h : ∃ c ∈ cycTo n p i, (i : Int) ∈ c
    · rw [cycTo_hit h] at hc
      obtain ⟨j, h1, h2, h3⟩ := ih (by omega) c hc
      exact ⟨j, h1, by omega, h3⟩
    · rw [cycTo_miss h] at hc
      rcases List.mem_append.1 hc with hc | hc
      · obtain ⟨j, h1, h2, h3⟩ := ih (by omega) c hc
        exact ⟨j, h1, by omega, h3⟩
      · simp at hc; exact ⟨i, by omega, by omega, hc⟩
theorem cycTo_le : (cycTo n p i).length ≤ i := by
  induction i with
  | zero => simp [cycTo]
  | succ i ih =>
    by_cases h : ∃ c ∈ cycTo n p i, (i : Int) ∈ c
    · rw [cycTo_hit h]; omega
    · rw [cycTo_miss h]; simp; omega
theorem Pm.cyc_shut (h : Pm n p) (hi : i ≤ n) {c : List Int} (hc : c ∈ cycTo n p i) (hx : 0 ≤ x ∧ x < n) (hr : Rch [p] x y) : x ∈ c ↔ y ∈ c := by
  obtain ⟨j, hj, _, rfl⟩ := cycTo_in hi c hc
  rw [h.mem_cyOf (by omega), h.mem_cyOf (by omega)]
  exact ⟨fun h1 => h1.trans hr, fun h1 => h1.trans (h.back hx hr)⟩
theorem Pm.cyc_all (h : Pm n p) : ∀ i : Nat, i ≤ n → ∀ j : Nat, j < i → ∃ c ∈ cycTo n p i, (j : Int) ∈ c
  | 0, _, j, hj => by omega
  | i + 1, hi, j, hj => by
    by_cases hex : ∃ c ∈ cycTo n p i, (i : Int) ∈ c
    · rw [cycTo_hit hex]
      by_cases hji : j = i
      · subst hji; exact hex
      · exact h.cyc_all i (by omega) j (by omega)
    · rw [cycTo_miss hex]
      by_cases hji : j = i
      · subst hji
        exact ⟨_, List.mem_append_right _ (by simp), (h.mem_cyOf (by omega)).2 (.refl _)⟩
      · obtain ⟨c, hc, h2⟩ := h.cyc_all i (by omega) j (by omega)
        exact ⟨c, List.mem_append_left _ hc, h2⟩
theorem Pm.cyc_per (h : Pm n p) {c : List Int} (hc : c ∈ cyc n p) : (∀ x ∈ c, 0 ≤ x ∧ x < n ∧ c.length = Mem.per n p x) ∧ 1 ≤ c.length ∧ c.length ≤ n := by
  obtain ⟨j, hj, _, rfl⟩ := cycTo_in (Nat.le_refl n) c hc
  have hj' : 0 ≤ (j : Int) ∧ (j : Int) < n := by omega
  obtain ⟨a, b, _⟩ := h.per hj'
  refine ⟨fun x hx => ?_, by rw [cyOf_len]; exact a, by rw [cyOf_len]; exact b⟩
  have hr := (h.mem_cyOf hj').1 hx
  have hx' := hr.rng h.syst hj'
  exact ⟨hx'.1, hx'.2, by rw [cyOf_len, h.per_same hj' hr]⟩
/-- what marks hold while the cycle of i is walked -/
structure Cw (n : Nat) (p : List Int) (i k : Nat) (bs : List Bool) : Prop where
  len : bs.length = n
  mark : ∀ y : Int, 0 ≤ y → y < n → (gb bs y = true ↔ (∃ c ∈ cycTo n p i, y ∈ c) ∨ ∃ j : Nat, j < k ∧ y = itr p i j)
theorem Pm.cw_new (h : Pm n p) {bs : List Bool} (hw : Cw n p i k bs) (hi : i < n) (hno : ¬ ∃ c ∈ cycTo n p i, (i : Int) ∈ c) (hk : k < Mem.per n p i) : gb bs (Mem.itr p i k) = false := by
  have hi' : 0 ≤ (i : Int) ∧ (i : Int) < n := by omega
  have hx := h.itr hi' k
  cases hb : gb bs (Mem.itr p i k) with
  | false => rfl
  | true =>
    exfalso
    rcases (hw.mark _ hx.1 hx.2).1 hb with ⟨c, hc, hy⟩ | ⟨j, hj, e⟩
    · exact hno ⟨c, hc, (h.cyc_shut (by omega) hc hi' (itr_rch p i k)).2 hy⟩
    · have e1 : (i : Int) = Mem.itr p i (k - j) := by
        refine h.cancel hi' (h.itr hi' _) j ?_
        rw [← itr_add, show k - j + j = k by omega]; exact e.symm
      exact (h.per hi').2.2.2 (k - j) (by omega) (by omega) e1.symm
theorem Pm.cw_end (h : Pm n p) {bs : List Bool} (hw : Cw n p i (Mem.per n p i) bs) (hi : i < n) : gb bs (Mem.itr p i (Mem.per n p i)) = true := by
  have hi' : 0 ≤ (i : Int) ∧ (i : Int) < n := by omega
  obtain ⟨a, b, c, d⟩ := h.per hi'
  rw [c]
  exact (hw.mark _ hi'.1 hi'.2).2 (.inr ⟨0, by omega, rfl⟩)
theorem Pm.cw_step (h : Pm n p) {bs : List Bool} (hw : Cw n p i k bs) (hi : i < n) : Cw n p i (k + 1) (setb bs (Mem.itr p i k) true) := by
  have hx := h.itr (x := (i : Int)) (by omega) k
  refine ⟨by simp [setb, hw.len], fun y h0 hy => ?_⟩
  rw [gb_setb _ _ _ _ hx.1 (by rw [hw.len]; exact hx.2) h0]
  split
  · rename_i e; simp; exact .inr ⟨k, by omega, e⟩
  · rename_i e
    rw [hw.mark y h0 hy]
    constructor
    · rintro (h1 | ⟨j, hj, e2⟩)
      · exact .inl h1
      · exact .inr ⟨j, by omega, e2⟩
    · rintro (h1 | ⟨j, hj, e2⟩)
      · exact .inl h1
      · refine .inr ⟨j, ?_, e2⟩
        by_cases hjk : j = k
        · subst hjk; exact absurd e2 e
        · omega
theorem Pm.cw_next (h : Pm n p) {bs : List Bool} (hw : Cw n p i (Mem.per n p i) bs) (hi : i < n) (hno : ¬ ∃ c ∈ cycTo n p i, (i : Int) ∈ c) : Cw n p (i + 1) 0 bs := by
  refine ⟨hw.len, fun y h0 hy => ?_⟩
  rw [hw.mark y h0 hy, cycTo_miss hno]
  constructor
  · rintro (⟨c, hc, h2⟩ | ⟨j, hj, e⟩)
    · exact .inl ⟨c, List.mem_append_left _ hc, h2⟩
    · exact .inl ⟨cyOf n p i, List.mem_append_right _ (by simp), List.mem_map.2 ⟨j, List.mem_range.2 hj, e.symm⟩⟩
  · rintro (⟨c, hc, h2⟩ | ⟨j, hj, e⟩)
    · rcases List.mem_append.1 hc with hc | hc
      · exact .inl ⟨c, hc, h2⟩
      · simp at hc; subst hc
        obtain ⟨j, hj, e⟩ := List.mem_map.1 h2
        exact .inr ⟨j, List.mem_range.1 hj, e.symm⟩
    · omega
theorem cw_skip {bs : List Bool} (hw : Cw n p i 0 bs) (hyes : ∃ c ∈ cycTo n p i, (i : Int) ∈ c) : Cw n p (i + 1) 0 bs := by
  refine ⟨hw.len, fun y h0 hy => ?_⟩
  rw [hw.mark y h0 hy, cycTo_hit hyes]
  constructor
  · rintro (h1 | ⟨j, hj, _⟩)
    · exact .inl h1
    · omega
  · rintro (h1 | ⟨j, hj, _⟩)
    · exact .inl h1
    · omega
theorem Cw.start (n : Nat) (p : List Int) : Cw n p 0 0 (List.replicate n false) := by
  refine ⟨by simp, fun y h0 hy => ?_⟩
  have : gb (List.replicate n false) y = false := by
    have : y.toNat < n := by omega
    simp [gb, List.getD, this]
  rw [this]
  simp [cycTo]
theorem Cw.seen {bs : List Bool} (hw : Cw n p i 0 bs) (hi : i < n) : gb bs i = true ↔ ∃ c ∈ cycTo n p i, (i : Int) ∈ c := by
  rw [hw.mark _ (by omega) (by omega)]
  constructor
  · rintro (h1 | ⟨j, hj, _⟩)
    · exact h1
    · omega
  · exact .inl
theorem cyTake_succ (p : List Int) (x : Int) (k : Nat) : (List.range (k + 1)).map (itr p x) = (List.range k).map (itr p x) ++ [itr p x k] := by simp [List.range_succ]
end
section
variable {ms : List (List Int)} {wd : List Int}
theorem run_back (hm : IsMan ms) : ∀ (wd : List Int), (∀ x ∈ wd, 0 ≤ x ∧ x < ms.length) → ∀ f : Int, 0 ≤ f ∧ f < nf ms → run ms wd (run ms wd.reverse f) = f
  | [], _, f, hf => rfl
  | x :: wd, h, f, hf => by
    have hx := h x (by simp)
    have ih := run_back hm wd (fun y hy => h y (List.mem_cons_of_mem _ hy)) f hf
    have e : run ms (x :: wd).reverse f = gi (gr ms x) (run ms wd.reverse f) := by simp [run, List.foldl_append]
    have hr := run_rng hm.syst wd.reverse (fun y hy => h y (List.mem_cons_of_mem _ (List.mem_reverse.1 hy))) f hf
    rw [e]
    show run ms wd (gi (gr ms x) (gi (gr ms x) (run ms wd.reverse f))) = f
    obtain ⟨q, rfl⟩ : ∃ q : Nat, x = q := ⟨x.toNat, by omega⟩
    rw [hm.m0.twice (gr_in (by omega)) hr]
    exact ih
theorem does_pm (hm : IsMan ms) (hw : IsWord ms wd) : Pm (nf ms) (does ms wd (nf ms)) := by
  have h4 := hm.m0.f400
  refine ⟨length_does _ _ _, surj_nodup (length_does _ _ _) (fun x h0 hx => ?_), fun x hx => ?_, by omega⟩
  · have hr := run_rng hm.syst wd.reverse (fun y hy => hw.2 y (List.mem_reverse.1 hy)) x ⟨h0, hx⟩
    rw [← run_back hm wd hw.2 x ⟨h0, hx⟩, ← gi_does (n := nf ms) hr.1 hr.2]
    exact gi_mem hr.1 (by rw [length_does]; exact hr.2)
  · obtain ⟨i, hi, rfl⟩ := in_gi hx
    rw [length_does] at hi
    rw [gi_does (by omega) (by omega)]
    exact run_rng hm.syst wd hw.2 _ (by omega)
theorem idl_word (hm : IsMan ms) : IsWord ms (idl ms.length) := by
  have h5 := hm.m0.r5
  refine ⟨by simp; omega, fun x hx => ?_⟩
  obtain ⟨i, hi, rfl⟩ := List.mem_map.1 hx
  have := List.mem_range.1 hi
  omega
noncomputable def plL (ms : List (List Int)) : List Int := if IsMan ms then (List.range (nf ms)).map fun f : Nat => (per (nf ms) (does ms (idl ms.length) (nf ms)) f : Int) else []
theorem plL_no (h : ¬ IsMan ms) : plL ms = [] := if_neg h
theorem plL_yes (h : IsMan ms) : plL ms = (List.range (nf ms)).map fun f : Nat => (per (nf ms) (does ms (idl ms.length) (nf ms)) f : Int) := if_pos h
theorem plL_len (ms : List (List Int)) : (plL ms).length ≤ 4000000000000000000 := by
  unfold plL
  split
  · rename_i h; have := h.m0.f400; simp; omega
  · simp
/-- the order: the least common multiple of the cycles' lengths -/
def lcms (L : List Nat) : Nat := L.foldl Nat.lcm 1
theorem foldl_lcm (L : List Nat) : ∀ a : Nat, L.foldl Nat.lcm a = Nat.lcm a (lcms L) := by
  induction L with
  | nil => intro a; simp [lcms]
  | cons x L ih =>
    intro a
    show L.foldl Nat.lcm (Nat.lcm a x) = _
    rw [ih, Nat.lcm_assoc]
    congr 1
    show Nat.lcm x (lcms L) = L.foldl Nat.lcm (Nat.lcm 1 x)
    rw [ih, Nat.lcm_one_left]
theorem lcms_cons (x : Nat) (L : List Nat) : lcms (x :: L) = Nat.lcm x (lcms L) := by
  show L.foldl Nat.lcm (Nat.lcm 1 x) = _
  rw [foldl_lcm, Nat.lcm_one_left]
theorem lcms_app (L M : List Nat) : lcms (L ++ M) = Nat.lcm (lcms L) (lcms M) := by
  unfold lcms
  rw [List.foldl_append, foldl_lcm]; rfl
theorem lcms_perm {L M : List Nat} (h : L.Perm M) : lcms L = lcms M := by
  induction h with
  | nil => rfl
  | cons x _ ih => rw [lcms_cons, lcms_cons, ih]
  | swap x y L => rw [lcms_cons, lcms_cons, lcms_cons, lcms_cons, ← Nat.lcm_assoc, ← Nat.lcm_assoc, Nat.lcm_comm x y]
  | trans _ _ ih1 ih2 => exact ih1.trans ih2
theorem lcms_pos {L : List Nat} (h : ∀ x ∈ L, 1 ≤ x) : 1 ≤ lcms L := by
  induction L with
  | nil => simp [lcms]
  | cons x L ih =>
    rw [lcms_cons]
    exact Nat.lcm_pos (h x (by simp)) (ih fun y hy => h y (List.mem_cons_of_mem _ hy))
theorem lcms_pre {L : List Nat} (h : ∀ x ∈ L, 1 ≤ x) (i : Nat) : lcms (L.take i) ≤ lcms L := by
  conv => rhs; rw [← List.take_append_drop i L, lcms_app]
  exact Nat.le_of_dvd (Nat.lcm_pos (lcms_pos fun x hx => h x (List.mem_of_mem_take hx)) (lcms_pos fun x hx => h x (List.mem_of_mem_drop hx))) (Nat.dvd_lcm_left _ _)
theorem lcm_mul (a b : Nat) (ha : 1 ≤ a) (hb : 1 ≤ b) : a * (b / Nat.gcd a b) = Nat.lcm a b := by
  unfold Nat.lcm
  rw [Nat.mul_div_assoc _ (Nat.gcd_dvd_right a b)]
theorem lcm_mul2 (a b : Nat) (ha : 1 ≤ a) (hb : 1 ≤ b) : a / Nat.gcd a b * b = Nat.lcm a b := by
  unfold Nat.lcm
  rw [Nat.mul_comm a b, Nat.mul_div_assoc _ (Nat.gcd_dvd_left a b), Nat.mul_comm]
/-- the lengths of the cycles -/
noncomputable def cyl (n : Nat) (p : List Int) : List Nat := (cyc n p).map List.length
noncomputable def ord (n : Nat) (p : List Int) : Nat := lcms (cyl n p)
noncomputable def wpN (ms : List (List Int)) (wd : List Int) : Int := if wordC ms wd = 0 ∧ ord (nf ms) (does ms wd (nf ms)) ≤ 1000000000000000 then ord (nf ms) (does ms wd (nf ms)) else 0
noncomputable def wpC (ms : List (List Int)) (wd : List Int) : Int := if wordC ms wd = 0 then (if ord (nf ms) (does ms wd (nf ms)) ≤ 1000000000000000 then 0 else 3) else wordC ms wd
theorem wp_1 (h : wordC ms wd ≠ 0) : wpN ms wd = 0 ∧ wpC ms wd = wordC ms wd := ⟨if_neg fun e => h e.1, if_neg h⟩
theorem wp_2 (h : wordC ms wd = 0) (hb : ¬ ord (nf ms) (does ms wd (nf ms)) ≤ 1000000000000000) : wpN ms wd = 0 ∧ wpC ms wd = 3 := ⟨if_neg fun e => hb e.2, by unfold wpC; rw [if_pos h, if_neg hb]⟩
theorem wp_3 (h : wordC ms wd = 0) (hb : ord (nf ms) (does ms wd (nf ms)) ≤ 1000000000000000) : wpN ms wd = ord (nf ms) (does ms wd (nf ms)) ∧ wpC ms wd = 0 := ⟨if_pos ⟨h, hb⟩, by unfold wpC; rw [if_pos h, if_pos hb]⟩
theorem wordC_0 (h : wordC ms wd = 0) : IsMan ms ∧ IsWord ms wd := by
  unfold wordC at h
  by_cases hm : IsMan ms
  · rw [if_pos hm] at h
    by_cases hw : IsWord ms wd
    · exact ⟨hm, hw⟩
    · rw [if_neg hw] at h; exact absurd h (by decide)
  · rw [if_neg hm] at h; exact absurd h (by decide)
end
end Go.Mem

/- Plain words on lists: the first word that does nothing on one maniplex but not on another one. No program in sight. -/
namespace Go.Mem
set_option linter.unusedVariables false
/-- i may follow the word -/
def okLast (ok : Int → Int → Bool) (wd : List Int) (i : Int) : Bool :=
  match wd.getLast? with
  | none => true
  | some l => ok l i
def specOk (l i : Int) : Bool := !decide (l = i)
def implOk (l i : Int) : Bool := !(decide (i = l) || decide (i < l - 1))
/-- the first good word that goes on with k moves -/
def tryW (ok : Int → Int → Bool) (r : Nat) (good : List Int → Bool) (wd : List Int) : Nat → Option (List Int)
  | 0 => if good wd then some wd else none
  | k + 1 => (List.range r).findSome? fun i : Nat => if okLast ok wd i then tryW ok r good (wd ++ [(i : Int)]) k else none
/-- the word v may stand behind a move -/
def Vd (ok : Int → Int → Bool) (r : Nat) : Option Int → List Int → Prop
  | _, [] => True
  | l, i :: v => (0 ≤ i ∧ i < r) ∧ (∀ a, l = some a → ok a i = true) ∧ Vd ok r (some i) v
theorem findSome_hit {α : Type} {f : Nat → Option α} {r i : Nat} {u : α} (hi : i < r) (h0 : ∀ j, j < i → f j = none) (h : f i = some u) : (List.range r).findSome? f = some u := by
  have e : List.range r = List.range i ++ i :: (List.range (r - i - 1)).map (· + (i + 1)) := by
    apply List.ext_getElem?
    intro q
    rw [List.getElem?_append]
    simp only [List.length_range]
    split
    · rename_i hq; simp [hq, show q < r by omega]
    · rename_i hq
      rcases Nat.lt_or_ge q r with hqr | hqr
      · rcases Nat.eq_or_lt_of_le (Nat.not_lt.1 hq) with e | hlt
        · subst e; simp [hqr]
        · obtain ⟨d, rfl⟩ : ∃ d, q = i + 1 + d := ⟨q - (i + 1), by omega⟩
          rw [show i + 1 + d - i = d + 1 by omega]
          simp [hqr, show d < r - i - 1 by omega]; omega
      · rw [List.getElem?_eq_none (by simp; omega), List.getElem?_eq_none (by simp; omega)]
  rw [e, List.findSome?_append]
  have hn : (List.range i).findSome? f = none := by
    rw [List.findSome?_eq_none_iff]
    intro j hj
    exact h0 j (List.mem_range.1 hj)
  rw [hn]
  simp [h]
theorem findSome_none {α : Type} {f : Nat → Option α} {r : Nat} (h0 : ∀ j, j < r → f j = none) : (List.range r).findSome? f = none := by
  rw [List.findSome?_eq_none_iff]
  intro j hj
  exact h0 j (List.mem_range.1 hj)
theorem findSome_some {α : Type} {f : Nat → Option α} {u : α} : ∀ {r : Nat}, (List.range r).findSome? f = some u → ∃ i, i < r ∧ f i = some u ∧ ∀ j, j < i → f j = none
  | 0, h => by simp at h
  | r + 1, h => by
    rw [List.range_succ, List.findSome?_append] at h
    cases hp : (List.range r).findSome? f with
    | some v =>
      rw [hp] at h
      simp at h; subst h
      obtain ⟨i, h1, h2, h3⟩ := findSome_some hp
      exact ⟨i, by omega, h2, h3⟩
    | none =>
      rw [hp] at h
      refine ⟨r, by omega, by simpa using h, fun j hj => ?_⟩
      rw [List.findSome?_eq_none_iff] at hp
      exact hp j (List.mem_range.2 hj)
section
variable {ok : Int → Int → Bool} {r : Nat} {good : List Int → Bool} {wd : List Int} {k : Nat}
theorem okLast_vd {i : Nat} {v : List Int} (hi : i < r) : Vd ok r wd.getLast? ((i : Int) :: v) ↔ okLast ok wd i = true ∧ Vd ok r (wd ++ [(i : Int)]).getLast? v := by
  have e : (wd ++ [(i : Int)]).getLast? = some (i : Int) := by simp
  rw [e]
  unfold okLast
  cases h : wd.getLast? with
  | none => simp [Vd]; omega
  | some l => simp [Vd]; omega
theorem try_none : ∀ (k : Nat) (wd : List Int), tryW ok r good wd k = none → ∀ v, v.length = k → Vd ok r wd.getLast? v → good (wd ++ v) = false
  | 0, wd, h, v, hv, _ => by
    have : v = [] := List.length_eq_zero_iff.1 hv
    subst this
    unfold tryW at h
    cases hg : good wd with
    | false => simpa using hg
    | true => rw [hg] at h; simp at h
  | k + 1, wd, h, [], hv, _ => by simp at hv
  | k + 1, wd, h, i :: v, hv, hvd => by
    obtain ⟨q, rfl⟩ : ∃ q : Nat, i = q := ⟨i.toNat, by have := hvd.1; omega⟩
    have hq : q < r := by have := hvd.1; omega
    obtain ⟨h1, h2⟩ := (okLast_vd hq).1 hvd
    unfold tryW at h
    rw [List.findSome?_eq_none_iff] at h
    have h3 := h q (List.mem_range.2 hq)
    rw [if_pos h1] at h3
    have := try_none k _ h3 v (by simpa using hv) h2
    simpa using this
theorem try_some : ∀ (k : Nat) (wd u : List Int), tryW ok r good wd k = some u → ∃ v, u = wd ++ v ∧ v.length = k ∧ Vd ok r wd.getLast? v ∧ good u = true ∧ ∀ v', v'.length = k → Vd ok r wd.getLast? v' → lessL v' v = true → good (wd ++ v') = false
  | 0, wd, u, h => by
    unfold tryW at h
    cases hg : good wd with
    | false => rw [hg] at h; simp at h
    | true =>
      rw [hg] at h; simp at h; subst h
      refine ⟨[], by simp, rfl, trivial, hg, fun v' hv' _ hl => ?_⟩
      have : v' = [] := List.length_eq_zero_iff.1 hv'
      subst this; simp [lessL, lexL] at hl
  | k + 1, wd, u, h => by
    unfold tryW at h
    obtain ⟨i, hi, h1, h2⟩ := findSome_some h
    split at h1
    · rename_i hok
      obtain ⟨v, rfl, hvl, hvd, hg, hmin⟩ := try_some k _ u h1
      refine ⟨(i : Int) :: v, by simp, by simp [hvl], (okLast_vd hi).2 ⟨hok, hvd⟩, hg, fun v' hv' hvd' hl => ?_⟩
      match v', hv', hvd', hl with
      | j :: v', hv', hvd', hl =>
        obtain ⟨q, rfl⟩ : ∃ q : Nat, j = q := ⟨j.toNat, by have := hvd'.1; omega⟩
        have hq : q < r := by have := hvd'.1; omega
        obtain ⟨g1, g2⟩ := (okLast_vd hq).1 hvd'
        have hl' : (if (q : Int) = (i : Int) then lexL ltI v' v else ltI q i) = true := hl
        by_cases hqi : q = i
        · subst hqi
          rw [if_pos rfl] at hl'
          have := hmin v' (by simpa using hv') g2 hl'
          simpa using this
        · rw [if_neg (by omega)] at hl'
          have hlt : q < i := by
            have : (q : Int) < i := of_decide_eq_true hl'
            omega
          have h3 := h2 q hlt
          rw [if_pos g1] at h3
          have := try_none k _ h3 v' (by simpa using hv') g2
          simpa using this
    · simp at h1
end
theorem lessL_total : ∀ (xs ys : List Int), xs ≠ ys → lessL xs ys = true ∨ lessL ys xs = true
  | [], [], h => absurd rfl h
  | [], _ :: _, _ => .inl rfl
  | _ :: _, [], _ => .inr rfl
  | x :: xs, y :: ys, h => by
    show (if x = y then lexL ltI xs ys else ltI x y) = true ∨ (if y = x then lexL ltI ys xs else ltI y x) = true
    by_cases e : x = y
    · subst e
      rw [if_pos rfl, if_pos rfl]
      exact lessL_total xs ys (fun e => h (by rw [e]))
    · rw [if_neg e, if_neg (fun e' => e e'.symm)]
      unfold ltI
      rcases Int.lt_or_gt_of_ne e with h1 | h1
      · exact .inl (decide_eq_true h1)
      · exact .inr (decide_eq_true h1)
theorem Vd.sub {ok ok' : Int → Int → Bool} {r : Nat} (h : ∀ a i, ok a i = true → ok' a i = true) : ∀ (v : List Int) (l : Option Int), Vd ok r l v → Vd ok' r l v
  | [], _, _ => trivial
  | i :: v, l, hv => ⟨hv.1, fun a e => h a i (hv.2.1 a e), Vd.sub h v _ hv.2.2⟩
theorem Vd.rng {ok : Int → Int → Bool} {r : Nat} : ∀ {v : List Int} {l : Option Int}, Vd ok r l v → ∀ x ∈ v, 0 ≤ x ∧ x < r
  | [], _, _, x, hx => by simp at hx
  | i :: v, l, hv, x, hx => by
    rcases List.mem_cons.1 hx with rfl | hx
    · exact hv.1
    · exact Vd.rng hv.2.2 x hx
/-- two equal moves side by side -/
theorem Vd.twice {r : Nat} : ∀ (v : List Int) (l : Option Int), (∀ x ∈ v, 0 ≤ x ∧ x < r) → ¬ Vd specOk r l v → (∃ a y, l = some a ∧ v = a :: y) ∨ ∃ x a y, v = x ++ a :: a :: y
  | [], _, _, h => absurd trivial h
  | i :: v, l, hr, h => by
    by_cases h1 : ∀ a, l = some a → specOk a i = true
    · by_cases h2 : Vd specOk r (some i) v
      · exact absurd ⟨hr i (by simp), h1, h2⟩ h
      · rcases Vd.twice v (some i) (fun x hx => hr x (List.mem_cons_of_mem _ hx)) h2 with ⟨a, y, e1, e2⟩ | ⟨x, a, y, e⟩
        · cases e1; subst e2; exact .inr ⟨[], i, y, rfl⟩
        · subst e; exact .inr ⟨i :: x, a, y, rfl⟩
    · refine .inl ?_
      refine Classical.byContradiction fun hn => h1 fun a e => ?_
      unfold specOk
      by_cases hai : a = i
      · subst hai; exact absurd ⟨a, v, e, rfl⟩ hn
      · simp [hai]
/-- two far moves in the wrong order -/
theorem Vd.wrong {r : Nat} : ∀ (v : List Int) (l : Option Int), Vd specOk r l v → ¬ Vd implOk r l v → (∃ a b y, l = some a ∧ v = b :: y ∧ b + 2 ≤ a) ∨ ∃ x a b y, v = x ++ a :: b :: y ∧ b + 2 ≤ a
  | [], _, _, h => absurd trivial h
  | i :: v, l, hs, h => by
    by_cases h1 : ∀ a, l = some a → implOk a i = true
    · by_cases h2 : Vd implOk r (some i) v
      · exact absurd ⟨hs.1, h1, h2⟩ h
      · rcases Vd.wrong v (some i) hs.2.2 h2 with ⟨a, b, y, e1, e2, h3⟩ | ⟨x, a, b, y, e, h3⟩
        · cases e1; subst e2; exact .inr ⟨[], i, b, y, rfl, h3⟩
        · subst e; exact .inr ⟨i :: x, a, b, y, rfl, h3⟩
    · refine .inl ?_
      refine Classical.byContradiction fun hn => h1 fun a e => ?_
      have hsp := hs.2.1 a e
      unfold implOk
      unfold specOk at hsp
      have hai : ¬ a = i := by simpa using hsp
      have hlt : ¬ i < a - 1 := fun hlt => hn ⟨a, i, v, e, rfl, by omega⟩
      have hia : ¬ i = a := fun e => hai e.symm
      simp [hia, hlt]
section
variable {ms ks : List (List Int)}
theorem run_app (ms : List (List Int)) (x y : List Int) (f : Int) : run ms (x ++ y) f = run ms y (run ms x f) := by simp [run, List.foldl_append]
theorem run_swap (hm : IsMan ms) {x y : List Int} {a b : Int} (hr : ∀ z ∈ x ++ a :: b :: y, 0 ≤ z ∧ z < ms.length) (hab : b + 2 ≤ a) {f : Int} (hf : 0 ≤ f ∧ f < nf ms) : run ms (x ++ b :: a :: y) f = run ms (x ++ a :: b :: y) f := by
  have ha := hr a (by simp)
  have hb := hr b (by simp)
  have hx := run_rng hm.syst x (fun z hz => hr z (List.mem_append_left _ hz)) f hf
  rw [run_app, run_app]
  show run ms y (gi (gr ms a) (gi (gr ms b) (run ms x f))) = run ms y (gi (gr ms b) (gi (gr ms a) (run ms x f)))
  obtain ⟨p, rfl⟩ : ∃ p : Nat, a = p := ⟨a.toNat, by omega⟩
  obtain ⟨q, rfl⟩ : ∃ q : Nat, b = q := ⟨b.toNat, by omega⟩
  rw [(hm.like.far q p (by omega) (by omega) _ hx).1]
theorem run_drop (hm : IsMan ms) {x y : List Int} {a : Int} (hr : ∀ z ∈ x ++ a :: a :: y, 0 ≤ z ∧ z < ms.length) {f : Int} (hf : 0 ≤ f ∧ f < nf ms) : run ms (x ++ a :: a :: y) f = run ms (x ++ y) f := by
  have ha := hr a (by simp)
  have hx := run_rng hm.syst x (fun z hz => hr z (List.mem_append_left _ hz)) f hf
  rw [run_app, run_app]
  show run ms y (gi (gr ms a) (gi (gr ms a) (run ms x f))) = run ms y (run ms x f)
  obtain ⟨p, rfl⟩ : ∃ p : Nat, a = p := ⟨a.toNat, by omega⟩
  rw [hm.m0.twice (gr_in (by omega)) hx]
theorem still_of_run {v w : List Int} (h : ∀ f : Int, 0 ≤ f ∧ f < nf ms → run ms v f = run ms w f) : Still ms v ↔ Still ms w := by
  unfold Still
  constructor
  · intro hs f hf; rw [← h f (by omega)]; exact hs f hf
  · intro hs f hf; rw [h f (by omega)]; exact hs f hf
/-- the word does nothing on the one, but not on the other one -/
noncomputable def goodB (ms ks : List (List Int)) (w : List Int) : Bool := decide (Still ms w) && !decide (Still ks w)
theorem good_of {v w : List Int} (h1 : Still ms v ↔ Still ms w) (h2 : Still ks v ↔ Still ks w) : goodB ms ks v = goodB ms ks w := by
  unfold goodB
  rw [decide_eq_decide.2 h1, decide_eq_decide.2 h2]
theorem good_nil (ms ks : List (List Int)) : goodB ms ks [] = false := by
  have : Still ks [] := fun f hf => rfl
  unfold goodB
  rw [decide_eq_true this]; simp
/-- a good word gives a good one without equal moves side by side, that is not longer -/
theorem good_reduce (hm : IsMan ms) (hk : IsMan ks) (hl : ms.length = ks.length) : ∀ (n : Nat) (w : List Int), w.length ≤ n → (∀ x ∈ w, 0 ≤ x ∧ x < ms.length) → goodB ms ks w = true → ∃ w', w'.length ≤ w.length ∧ Vd specOk ms.length none w' ∧ goodB ms ks w' = true
  | 0, w, hn, _, hg => by
    have : w = [] := List.length_eq_zero_iff.1 (by omega)
    subst this; rw [good_nil] at hg; simp at hg
  | n + 1, w, hn, hr, hg => by
    by_cases hv : Vd specOk ms.length none w
    · exact ⟨w, Nat.le_refl _, hv, hg⟩
    · rcases Vd.twice w none hr hv with ⟨a, y, e, _⟩ | ⟨x, a, y, rfl⟩
      · cases e
      · have e : goodB ms ks (x ++ y) = true := by
          rw [← hg]
          exact (good_of (still_of_run fun f hf => run_drop hm hr hf) (still_of_run fun f hf => run_drop hk (fun z hz => by rw [← hl]; exact hr z hz) hf)).symm
        obtain ⟨w', h1, h2, h3⟩ := good_reduce hm hk hl n (x ++ y) (by simp at hn ⊢; omega) (fun z hz => hr z (by
          rcases List.mem_append.1 hz with h | h
          · exact List.mem_append_left _ h
          · exact List.mem_append_right _ (by simp [h]))) e
        exact ⟨w', by simp at h1 ⊢; omega, h2, h3⟩
theorem implOk_spec (a i : Int) (h : implOk a i = true) : specOk a i = true := by
  unfold implOk at h
  unfold specOk
  simp at h ⊢
  omega
/-- pruned and plain search find the same word, if there is no shorter one -/
theorem try_same (hm : IsMan ms) (hk : IsMan ks) (hl : ms.length = ks.length) {L : Nat} (h0 : ∀ j, 1 ≤ j → j < L → tryW specOk ms.length (goodB ms ks) [] j = none) :
    tryW implOk ms.length (goodB ms ks) [] L = tryW specOk ms.length (goodB ms ks) [] L := by
  cases hs : tryW specOk ms.length (goodB ms ks) [] L with
  | none =>
    cases hi : tryW implOk ms.length (goodB ms ks) [] L with
    | none => rfl
    | some u =>
      obtain ⟨v, e, h1, h2, h3, _⟩ := try_some L [] u hi
      simp at e; subst e
      have := try_none L [] hs u h1 (Vd.sub implOk_spec u _ h2)
      simp at this; rw [this] at h3; simp at h3
  | some u =>
    obtain ⟨v, e, h1, h2, h3, hmin⟩ := try_some L [] u hs
    simp at e; subst e
    have hv : Vd implOk ms.length none u := by
      refine Classical.byContradiction fun hn => ?_
      rcases Vd.wrong u none h2 hn with ⟨a, b, y, e, _⟩ | ⟨x, a, b, y, rfl, hab⟩
      · cases e
      · have hr := h2.rng
        have hg : goodB ms ks (x ++ b :: a :: y) = true := by
          rw [← h3]
          exact good_of (still_of_run fun f hf => run_swap hm hr hab hf) (still_of_run fun f hf => run_swap hk (fun z hz => by rw [← hl]; exact hr z hz) hab hf)
        have hr' : ∀ z ∈ x ++ b :: a :: y, 0 ≤ z ∧ z < ms.length := fun z hz => hr z (by
          simp only [List.mem_append, List.mem_cons] at hz ⊢
          rcases hz with h | h | h | h
          · exact .inl h
          · exact .inr (.inr (.inl h))
          · exact .inr (.inl h)
          · exact .inr (.inr (.inr h)))
        have hlen : (x ++ b :: a :: y).length = L := by simpa using h1
        by_cases hvd : Vd specOk ms.length none (x ++ b :: a :: y)
        · have hless : lessL (x ++ b :: a :: y) (x ++ a :: b :: y) = true := by
            show lexL ltI _ _ = true
            rw [lexL_app]
            show (if b = a then _ else ltI b a) = true
            rw [if_neg (by omega)]
            exact decide_eq_true (by omega)
          have := hmin _ hlen hvd hless
          simp at this; rw [this] at hg; simp at hg
        · rcases Vd.twice _ none hr' hvd with ⟨c, z, e, _⟩ | ⟨x2, c, y2, e⟩
          · cases e
          · have hg2 : goodB ms ks (x2 ++ y2) = true := by
              rw [e] at hg hr'
              rw [← hg]
              exact (good_of (still_of_run fun f hf => run_drop hm hr' hf) (still_of_run fun f hf => run_drop hk (fun z hz => by rw [← hl]; exact hr' z hz) hf)).symm
            rw [e] at hr' hlen
            obtain ⟨w', g1, g2, g3⟩ := good_reduce hm hk hl _ (x2 ++ y2) (Nat.le_refl _) (fun z hz => hr' z (by
              rcases List.mem_append.1 hz with h | h
              · exact List.mem_append_left _ h
              · exact List.mem_append_right _ (by simp [h]))) hg2
            have hpos : 1 ≤ w'.length := by
              rcases Nat.eq_zero_or_pos w'.length with h | h
              · have : w' = [] := List.length_eq_zero_iff.1 h
                subst this; rw [good_nil] at g3; simp at g3
              · exact h
            have := try_none _ [] (h0 w'.length hpos (by simp at g1 hlen; omega)) w' rfl g2
            simp at this; rw [this] at g3; simp at g3
    cases hi : tryW implOk ms.length (goodB ms ks) [] L with
    | none =>
      have := try_none L [] hi u h1 hv
      simp at this; rw [this] at h3; simp at h3
    | some u' =>
      obtain ⟨v', e', i1, i2, i3, imin⟩ := try_some L [] u' hi
      simp at e'; subst e'
      by_cases heq : u' = u
      · rw [heq]
      · rcases lessL_total u' u heq with hlt | hlt
        · have := hmin u' i1 (Vd.sub implOk_spec u' _ i2) hlt
          simp at this; rw [this] at i3; simp at i3
        · have := imin u h1 hv hlt
          simp at this; rw [this] at h3; simp at h3
/-- the first length at which there is one -/
noncomputable def firstW (ms ks : List (List Int)) (n : Nat) : Option (List Int) := (List.range n).findSome? fun j : Nat => tryW specOk ms.length (goodB ms ks) [] (j + 1)
noncomputable def fnC (ms ks : List (List Int)) (n : Int) : Int := if IsMan ms ∧ IsMan ks then (if 0 ≤ n ∧ n ≤ 12 then (if ms.length = ks.length then (if (firstW ms ks n.toNat).isSome then 0 else 4) else 5) else 2) else 1
noncomputable def fnL (ms ks : List (List Int)) (n : Int) : List Int := if fnC ms ks n = 0 then (firstW ms ks n.toNat).getD [] else []
variable {n : Int}
theorem fn_1 (h : ¬ (IsMan ms ∧ IsMan ks)) : fnL ms ks n = [] ∧ fnC ms ks n = 1 := by
  have e : fnC ms ks n = 1 := if_neg h
  exact ⟨if_neg (by rw [e]; decide), e⟩
theorem fn_2 (hm : IsMan ms) (hk : IsMan ks) (h : ¬ (0 ≤ n ∧ n ≤ 12)) : fnL ms ks n = [] ∧ fnC ms ks n = 2 := by
  have e : fnC ms ks n = 2 := by unfold fnC; rw [if_pos ⟨hm, hk⟩, if_neg h]
  exact ⟨if_neg (by rw [e]; decide), e⟩
theorem fn_3 (hm : IsMan ms) (hk : IsMan ks) (h : 0 ≤ n ∧ n ≤ 12) (h2 : ¬ ms.length = ks.length) : fnL ms ks n = [] ∧ fnC ms ks n = 5 := by
  have e : fnC ms ks n = 5 := by unfold fnC; rw [if_pos ⟨hm, hk⟩, if_pos h, if_neg h2]
  exact ⟨if_neg (by rw [e]; decide), e⟩
theorem fn_4 (hm : IsMan ms) (hk : IsMan ks) (h : 0 ≤ n ∧ n ≤ 12) (h2 : ms.length = ks.length) (h3 : firstW ms ks n.toNat = none) : fnL ms ks n = [] ∧ fnC ms ks n = 4 := by
  have e : fnC ms ks n = 4 := by unfold fnC; rw [if_pos ⟨hm, hk⟩, if_pos h, if_pos h2, h3]; rfl
  exact ⟨if_neg (by rw [e]; decide), e⟩
theorem fn_5 (hm : IsMan ms) (hk : IsMan ks) (h : 0 ≤ n ∧ n ≤ 12) (h2 : ms.length = ks.length) {u : List Int} (h3 : firstW ms ks n.toNat = some u) : fnL ms ks n = u ∧ fnC ms ks n = 0 := by
  have e : fnC ms ks n = 0 := by unfold fnC; rw [if_pos ⟨hm, hk⟩, if_pos h, if_pos h2, h3]; rfl
  exact ⟨by unfold fnL; rw [if_pos e, h3]; rfl, e⟩
theorem firstW_len {N : Nat} {u : List Int} (h : firstW ms ks N = some u) : 1 ≤ u.length ∧ u.length ≤ N := by
  obtain ⟨j, hj, h1, _⟩ := findSome_some h
  obtain ⟨v, e, h2, _⟩ := try_some _ _ _ h1
  simp at e; subst e
  omega
theorem fnL_len (ms ks : List (List Int)) (n : Int) : (fnL ms ks n).length ≤ 4000000000000000000 := by
  unfold fnL
  split
  · rename_i h
    cases hf : firstW ms ks n.toNat with
    | none => simp
    | some u =>
      have := firstW_len hf
      have hn : 0 ≤ n ∧ n ≤ 12 := by
        refine Classical.byContradiction fun hb => ?_
        by_cases hmk : IsMan ms ∧ IsMan ks
        · rw [(fn_2 hmk.1 hmk.2 hb).2] at h; exact absurd h (by decide)
        · rw [(fn_1 hmk).2] at h; exact absurd h (by decide)
      simp; omega
  · simp
end
end Go.Mem

/- Plain words on lists: mixes. No program in sight. -/
namespace Go.Mem
set_option linter.unusedVariables false
section
variable {ms ks : List (List Int)} {f g : Int}
/-- the moves on pairs, a pair told by one number -/
def prodM (ms ks : List (List Int)) : List (List Int) := (List.range ms.length).map fun j : Nat => (List.range (nf ms * nf ks)).map fun c : Nat => gi (gr ms j) ((c : Int) / nf ks) * nf ks + gi (gr ks j) ((c : Int) % nf ks)
theorem length_prodM (ms ks : List (List Int)) : (prodM ms ks).length = ms.length := by simp [prodM]
theorem code_lt {a b : Int} {m n : Nat} (ha : 0 ≤ a ∧ a < m) (hb : 0 ≤ b ∧ b < n) : 0 ≤ a * n + b ∧ a * n + b < ((m * n : Nat) : Int) := by
  have h1 : 0 ≤ a * n := Int.mul_nonneg ha.1 (by omega)
  have h2 : (a + 1) * n ≤ (m : Int) * n := Int.mul_le_mul_of_nonneg_right (by omega) (by omega)
  rw [Int.add_mul] at h2
  rw [Int.natCast_mul]
  omega
theorem code_div {a b : Int} {n : Nat} (ha : 0 ≤ a) (hb : 0 ≤ b ∧ b < n) : (a * n + b) / n = a := by
  have hn : (n : Int) ≠ 0 := by omega
  rw [Int.add_comm, Int.add_mul_ediv_right _ _ hn, Int.ediv_eq_zero_of_lt hb.1 hb.2]
  omega
theorem code_mod {a b : Int} {n : Nat} (ha : 0 ≤ a) (hb : 0 ≤ b ∧ b < n) : (a * n + b) % n = b := by
  rw [Int.add_comm, Int.add_mul_emod_self_right, Int.emod_eq_of_lt hb.1 hb.2]
theorem code_of {c : Int} {m n : Nat} (h : 0 ≤ c ∧ c < ((m * n : Nat) : Int)) : (0 ≤ c / n ∧ c / n < m) ∧ (0 ≤ c % n ∧ c % n < n) ∧ c / n * n + c % n = c := by
  have hn : 0 < (n : Int) := by
    rcases Nat.eq_zero_or_pos n with e | e
    · subst e; simp at h; omega
    · omega
  rw [Int.natCast_mul] at h
  refine ⟨⟨Int.ediv_nonneg h.1 (by omega), Int.ediv_lt_of_lt_mul hn h.2⟩, ⟨Int.emod_nonneg _ (by omega), Int.emod_lt_of_pos _ hn⟩, ?_⟩
  have := Int.mul_ediv_add_emod c n
  rw [Int.mul_comm]; exact this
theorem gi_prodM {j : Nat} (hj : j < ms.length) {c : Int} (hc : 0 ≤ c ∧ c < ((nf ms * nf ks : Nat) : Int)) : gi (gr (prodM ms ks) j) c = gi (gr ms j) (c / nf ks) * nf ks + gi (gr ks j) (c % nf ks) := by
  have e : gr (prodM ms ks) j = (List.range (nf ms * nf ks)).map fun c : Nat => gi (gr ms j) ((c : Int) / nf ks) * nf ks + gi (gr ks j) ((c : Int) % nf ks) := by
    simp [prodM, gr, List.getD, hj]
  rw [e, gi_range_map hc.1 hc.2]
  have e2 : ((c.toNat : Nat) : Int) = c := by omega
  rw [e2]
theorem prodM_at (hm : IsMan ms) (hk : IsMan ks) (hl : ms.length = ks.length) {j : Nat} (hj : j < ms.length) {c : Int} (hc : 0 ≤ c ∧ c < ((nf ms * nf ks : Nat) : Int)) :
    (0 ≤ gi (gr ms j) (c / nf ks) ∧ gi (gr ms j) (c / nf ks) < nf ms) ∧ (0 ≤ gi (gr ks j) (c % nf ks) ∧ gi (gr ks j) (c % nf ks) < nf ks) := by
  obtain ⟨h1, h2, _⟩ := code_of hc
  exact ⟨hm.syst.at (j := (j : Int)) (by omega) (by omega) h1, hk.syst.at (j := (j : Int)) (by omega) (by omega) h2⟩
theorem prodM_syst (hm : IsMan ms) (hk : IsMan ks) (hl : ms.length = ks.length) : Syst (nf ms * nf ks) (prodM ms ks) := by
  intro m hmem
  obtain ⟨j, hj, rfl⟩ := mem_gr hmem
  rw [length_prodM] at hj
  have e : gr (prodM ms ks) j = (List.range (nf ms * nf ks)).map fun c : Nat => gi (gr ms j) ((c : Int) / nf ks) * nf ks + gi (gr ks j) ((c : Int) % nf ks) := by
    simp [prodM, gr, List.getD, hj]
  have hlen : (gr (prodM ms ks) j).length = nf ms * nf ks := by rw [e]; simp
  refine ⟨hlen, fun x hx => ?_⟩
  obtain ⟨i, hi, rfl⟩ := in_gi hx
  have hi' : 0 ≤ (i : Int) ∧ (i : Int) < ((nf ms * nf ks : Nat) : Int) := by rw [hlen] at hi; exact ⟨by omega, by exact_mod_cast hi⟩
  rw [gi_prodM hj hi']
  obtain ⟨h1, h2⟩ := prodM_at hm hk hl hj hi'
  exact code_lt h1 h2
/-- the pairs, as far as i of them are done -/
def mixB (ms ks : List (List Int)) (f g : Int) (i : Nat) : List Int := bfs (prodM ms ks) (f * nf ks + g) i
theorem mixO_ex (ms ks : List (List Int)) (f g : Int) : ∃ O, O = mixB ms ks f g 401 := ⟨_, rfl⟩
/-- all pairs (a word that does not unfold) -/
noncomputable def mixO (ms ks : List (List Int)) (f g : Int) : List Int := Classical.choose (mixO_ex ms ks f g)
theorem mixO_eq (ms ks : List (List Int)) (f g : Int) : mixO ms ks f g = mixB ms ks f g 401 := Classical.choose_spec (mixO_ex ms ks f g)
theorem mixB_mono : ∀ (i d : Nat), (mixB ms ks f g i).length ≤ (mixB ms ks f g (i + d)).length
  | i, 0 => Nat.le_refl _
  | i, d + 1 => by
    refine Nat.le_trans (mixB_mono i d) ?_
    show (mixB ms ks f g (i + d)).length ≤ (if i + d < (mixB ms ks f g (i + d)).length then visits (mixB ms ks f g (i + d)) (images (prodM ms ks) (gi (mixB ms ks f g (i + d)) (i + d : Nat))) else mixB ms ks f g (i + d)).length
    split
    · exact length_visits _ _
    · exact Nat.le_refl _
theorem mixB_end {i : Nat} (h : (mixB ms ks f g i).length ≤ i) (hi : i ≤ 401) : mixO ms ks f g = mixB ms ks f g i := by
  have := bfs_stable (ms := prodM ms ks) (p := f * nf ks + g) (i := i) h (401 - i)
  rw [show i + (401 - i) = 401 by omega] at this
  rw [mixO_eq]
  exact this
theorem mixB_big {i : Nat} (hi : i < 401) (h : 400 < (mixB ms ks f g (i + 1)).length) : ¬ (mixO ms ks f g).length ≤ 400 := by
  have := mixB_mono (ms := ms) (ks := ks) (f := f) (g := g) (i + 1) (401 - (i + 1))
  rw [show i + 1 + (401 - (i + 1)) = 401 by omega] at this
  rw [mixO_eq]
  omega
theorem mixB_succ {i : Nat} (h : i < (mixB ms ks f g i).length) : mixB ms ks f g (i + 1) = visits (mixB ms ks f g i) (images (prodM ms ks) (gi (mixB ms ks f g i) i)) := bfs_succ h
theorem mixB_pre (i : Nat) : ∀ d : Nat, ∃ e, mixB ms ks f g (i + d) = mixB ms ks f g i ++ e
  | 0 => ⟨[], by simp⟩
  | d + 1 => by
    obtain ⟨e, h⟩ := mixB_pre i d
    by_cases hlt : i + d < (mixB ms ks f g (i + d)).length
    · obtain ⟨e2, h2⟩ := visits_prefix (images (prodM ms ks) (gi (mixB ms ks f g (i + d)) (i + d : Nat))) (mixB ms ks f g (i + d))
      refine ⟨e ++ e2, ?_⟩
      rw [show i + (d + 1) = i + d + 1 by omega, mixB_succ hlt, h2, h, List.append_assoc]
    · refine ⟨e, ?_⟩
      rw [← h]
      show (if _ then _ else _) = _
      exact if_neg hlt
theorem mixB_rng (hm : IsMan ms) (hk : IsMan ks) (hl : ms.length = ks.length) (hf : 0 ≤ f ∧ f < nf ms) (hg : 0 ≤ g ∧ g < nf ks) {i : Nat} : ∀ x ∈ mixB ms ks f g i, 0 ≤ x ∧ x < ((nf ms * nf ks : Nat) : Int) := fun x hx =>
  (bfs_rch i hx).rng (prodM_syst hm hk hl) (code_lt hf hg)
theorem mixB_nodup {i : Nat} : (mixB ms ks f g i).Nodup := bfs_nodup i
theorem mixO_rng (hm : IsMan ms) (hk : IsMan ks) (hl : ms.length = ks.length) (hf : 0 ≤ f ∧ f < nf ms) (hg : 0 ≤ g ∧ g < nf ks) : ∀ x ∈ mixO ms ks f g, 0 ≤ x ∧ x < ((nf ms * nf ks : Nat) : Int) := by
  rw [mixO_eq]; exact mixB_rng hm hk hl hf hg
theorem mixO_nodup : (mixO ms ks f g).Nodup := by rw [mixO_eq]; exact mixB_nodup
/-- the code of a mix -/
noncomputable def mixC (ms ks : List (List Int)) (f g : Int) : Int :=
  if IsMan ms ∧ IsMan ks then (if (0 ≤ f ∧ f < nf ms) ∧ 0 ≤ g ∧ g < nf ks then (if ms.length = ks.length then (if (mixO ms ks f g).length ≤ 400 then 0 else 3) else 5) else 2) else 1
/-- the pairs -/
noncomputable def mixP (ms ks : List (List Int)) (f g : Int) : List (List Int) := if mixC ms ks f g = 0 then (mixO ms ks f g).map fun c : Int => [c / (nf ks : Int), c % (nf ks : Int)] else []
/-- the moves -/
noncomputable def mixL (ms ks : List (List Int)) (f g : Int) : List (List Int) := if mixC ms ks f g = 0 then (List.range ms.length).map fun j : Nat => (mixO ms ks f g).map fun c => idxOf (mixO ms ks f g) (gi (gr (prodM ms ks) j) c) else []
theorem mix_0 {c : Int} (h : mixC ms ks f g = c) (hc : c ≠ 0) : mixL ms ks f g = [] ∧ mixP ms ks f g = [] ∧ mixC ms ks f g = c := ⟨if_neg (by rw [h]; exact hc), if_neg (by rw [h]; exact hc), h⟩
theorem mix_1 (h : ¬ (IsMan ms ∧ IsMan ks)) : mixL ms ks f g = [] ∧ mixP ms ks f g = [] ∧ mixC ms ks f g = 1 := mix_0 (if_neg h) (by decide)
theorem mix_2 (hm : IsMan ms) (hk : IsMan ks) (h : ¬ ((0 ≤ f ∧ f < nf ms) ∧ 0 ≤ g ∧ g < nf ks)) : mixL ms ks f g = [] ∧ mixP ms ks f g = [] ∧ mixC ms ks f g = 2 :=
  mix_0 (by unfold mixC; rw [if_pos ⟨hm, hk⟩, if_neg h]) (by decide)
theorem mix_3 (hm : IsMan ms) (hk : IsMan ks) (hf : 0 ≤ f ∧ f < nf ms) (hg : 0 ≤ g ∧ g < nf ks) (h : ¬ ms.length = ks.length) : mixL ms ks f g = [] ∧ mixP ms ks f g = [] ∧ mixC ms ks f g = 5 :=
  mix_0 (by unfold mixC; rw [if_pos ⟨hm, hk⟩, if_pos ⟨hf, hg⟩, if_neg h]) (by decide)
theorem mix_4 (hm : IsMan ms) (hk : IsMan ks) (hf : 0 ≤ f ∧ f < nf ms) (hg : 0 ≤ g ∧ g < nf ks) (hl : ms.length = ks.length) (h : ¬ (mixO ms ks f g).length ≤ 400) : mixL ms ks f g = [] ∧ mixP ms ks f g = [] ∧ mixC ms ks f g = 3 :=
  mix_0 (by unfold mixC; rw [if_pos ⟨hm, hk⟩, if_pos ⟨hf, hg⟩, if_pos hl, if_neg h]) (by decide)
theorem mix_5 (hm : IsMan ms) (hk : IsMan ks) (hf : 0 ≤ f ∧ f < nf ms) (hg : 0 ≤ g ∧ g < nf ks) (hl : ms.length = ks.length) (h : (mixO ms ks f g).length ≤ 400) :
    mixL ms ks f g = ((List.range ms.length).map fun j : Nat => (mixO ms ks f g).map fun c => idxOf (mixO ms ks f g) (gi (gr (prodM ms ks) j) c)) ∧ mixP ms ks f g = ((mixO ms ks f g).map fun c : Int => [c / (nf ks : Int), c % (nf ks : Int)]) ∧ mixC ms ks f g = 0 := by
  have e : mixC ms ks f g = 0 := by unfold mixC; rw [if_pos ⟨hm, hk⟩, if_pos ⟨hf, hg⟩, if_pos hl, if_pos h]
  exact ⟨if_pos e, if_pos e, e⟩
theorem mixC_0 (h : mixC ms ks f g = 0) : IsMan ms ∧ IsMan ks ∧ (0 ≤ f ∧ f < nf ms) ∧ (0 ≤ g ∧ g < nf ks) ∧ ms.length = ks.length ∧ (mixO ms ks f g).length ≤ 400 := by
  unfold mixC at h
  split at h
  · rename_i h1
    split at h
    · rename_i h2
      split at h
      · rename_i h3
        split at h
        · rename_i h4; exact ⟨h1.1, h1.2, h2.1, h2.2, h3, h4⟩
        · simp at h
      · simp at h
    · simp at h
  · simp at h
theorem mixP_len (ms ks : List (List Int)) (f g : Int) : 1 + tot (mixP ms ks f g) ≤ 4000000000000000000 := by
  unfold mixP
  split
  · rename_i h
    have := (mixC_0 h).2.2.2.2.2
    refine rows_tot (n := 1000) (by simp; omega) (fun xs hx => ?_) (by omega)
    obtain ⟨c, _, rfl⟩ := List.mem_map.1 hx
    simp
  · simp [tot]
theorem mixL_len (ms ks : List (List Int)) (f g : Int) : 1 + tot (mixL ms ks f g) ≤ 4000000000000000000 := by
  unfold mixL
  split
  · rename_i h
    have h4 := (mixC_0 h).2.2.2.2.2
    have r5 := (mixC_0 h).1.m0.r5
    refine rows_tot (n := 1000) (by simp; omega) (fun xs hx => ?_) (by omega)
    obtain ⟨c, _, rfl⟩ := List.mem_map.1 hx
    simp; omega
  · simp [tot]
theorem idxOf_at {o : List Int} (h : o.Nodup) {i : Nat} (hi : i < o.length) : idxOf o (gi o i) = i := by
  obtain ⟨h0, h1, h2⟩ := idxOf_mem (gi_in hi)
  exact gi_inj h ⟨h0, h1⟩ ⟨by omega, by omega⟩ h2
/-- what has been met keeps its number -/
theorem idxOf_app {o e : List Int} {x : Int} (hn : (o ++ e).Nodup) (h : x ∈ o) : idxOf (o ++ e) x = idxOf o x := by
  obtain ⟨i, hi, rfl⟩ := in_gi h
  have e1 : gi (o ++ e) (i : Int) = gi o i := gi_append_left (by omega) (by omega)
  have h2 := idxOf_at hn (i := i) (by simp; omega)
  rw [e1] at h2
  rw [h2, idxOf_at (List.nodup_append.1 hn).1 hi]
def mixRow (P : List (List Int)) (o : List Int) (j t : Nat) : List Int := (List.range t).map fun q : Nat => idxOf o (gi (gr P j) (gi o q))
theorem length_mixRow (P : List (List Int)) (o : List Int) (j t : Nat) : (mixRow P o j t).length = t := by simp [mixRow]
theorem mixRow_succ (P : List (List Int)) (o : List Int) (j t : Nat) : mixRow P o j (t + 1) = mixRow P o j t ++ [idxOf o (gi (gr P j) (gi o t))] := by
  simp [mixRow, List.range_succ]
theorem mixRow_pre {P : List (List Int)} {o e : List Int} {j t : Nat} (hn : (o ++ e).Nodup) (ht : t ≤ o.length) (hc : ∀ q : Nat, q < t → gi (gr P j) (gi o q) ∈ o) : mixRow P (o ++ e) j t = mixRow P o j t := by
  refine List.map_congr_left fun q hq => ?_
  have hq := List.mem_range.1 hq
  rw [gi_append_left (by omega) (by omega), idxOf_app hn (hc q hq)]
theorem mixRow_all (P : List (List Int)) (o : List Int) (j : Nat) : mixRow P o j o.length = o.map fun c => idxOf o (gi (gr P j) c) := by
  apply List.ext_getElem
  · simp [mixRow]
  · intro i h1 h2
    simp [mixRow, gi, List.getD] at h1 h2 ⊢
    simp [h1]
def mixRows (P : List (List Int)) (o : List Int) (r i j : Nat) : List (List Int) := (List.range r).map fun q : Nat => mixRow P o q (if q < j then i + 1 else i)
theorem length_mixRows (P : List (List Int)) (o : List Int) (r i j : Nat) : (mixRows P o r i j).length = r := by simp [mixRows]
theorem gr_mixRows {P : List (List Int)} {o : List Int} {r i j q : Nat} (hq : q < r) : gr (mixRows P o r i j) q = mixRow P o q (if q < j then i + 1 else i) := by
  simp [mixRows, gr, List.getD, hq]
theorem mixRows_start (P : List (List Int)) (o : List Int) (r : Nat) : mixRows P o r 0 0 = List.replicate r [] := by
  apply List.ext_getElem <;> simp [mixRows, mixRow]
theorem mixRows_next (P : List (List Int)) (o : List Int) (r i : Nat) : mixRows P o r i r = mixRows P o r (i + 1) 0 := by
  refine List.map_congr_left fun q hq => ?_
  have hq := List.mem_range.1 hq
  rw [if_pos hq, if_neg (by omega)]
/-- a number more in the row j -/
theorem mixRows_step {P : List (List Int)} {o : List Int} {r i j : Nat} (hj : j < r) (hi : i < o.length) (hn : o.Nodup)
    (hc : ∀ q : Nat, q < r → ∀ t : Nat, t < (if q < j then i + 1 else i) → gi (gr P q) (gi o t) ∈ o) :
    (mixRows P o r i j).set j (gr (mixRows P o r i j) j ++ [idxOf (visit o (gi (gr P j) (gi o i))) (gi (gr P j) (gi o i))]) = mixRows P (visit o (gi (gr P j) (gi o i))) r i (j + 1) := by
  obtain ⟨e, he⟩ := visit_prefix o (gi (gr P j) (gi o i))
  have hn2 : (o ++ e).Nodup := by rw [← he]; exact nodup_visit hn
  rw [he]
  apply List.ext_getElem
  · simp [mixRows]
  · intro q h1 h2
    simp [mixRows] at h1 h2
    have hpre : mixRow P (o ++ e) q (if q < j then i + 1 else i) = mixRow P o q (if q < j then i + 1 else i) := mixRow_pre hn2 (by split <;> omega) (hc q h2)
    rw [List.getElem_set]
    by_cases e2 : j = q
    · subst e2
      rw [if_pos rfl, gr_mixRows hj]
      simp only [mixRows, List.getElem_map, List.getElem_range, if_pos (Nat.lt_succ_self j), mixRow_succ]
      rw [if_neg (Nat.lt_irrefl j)] at hpre ⊢
      rw [hpre, gi_append_left (by omega) (by omega)]
    · rw [if_neg e2]
      simp only [mixRows, List.getElem_map, List.getElem_range]
      have e3 : (q < j + 1) = (q < j) := by
        apply propext; constructor <;> omega
      simp only [e3]
      exact hpre.symm
/-- the pairs, as far as the moves below j have been looked at -/
theorem mix_closed {i j : Nat} (hi : i < (mixB ms ks f g i).length) {o : List Int} (ho : o = visits (mixB ms ks f g i) ((images (prodM ms ks) (gi (mixB ms ks f g i) i)).take j)) :
    ∀ q : Nat, q < ms.length → ∀ t : Nat, t < (if q < j then i + 1 else i) → gi (gr (prodM ms ks) q) (gi o t) ∈ o := by
  intro q hq t ht
  have ht2 : t ≤ i := by split at ht <;> omega
  have e1 : gi o t = gi (mixB ms ks f g i) t := by rw [ho]; exact gi_visits (by omega) (by omega)
  rw [e1, ho]
  have hP : gr (prodM ms ks) q ∈ prodM ms ks := by
    have : q < (prodM ms ks).length := by rw [length_prodM]; exact hq
    simp [gr, List.getD, this]
  refine mem_visits.2 ?_
  by_cases e : t < i
  · exact .inl (bfs_done i t e (by show t < (mixB ms ks f g i).length; omega) _ hP)
  · obtain rfl : t = i := by omega
    right
    have hqj : q < j := by
      by_cases h : q < j
      · exact h
      · rw [if_neg h] at ht; omega
    have hql : q < (images (prodM ms ks) (gi (mixB ms ks f g t) t)).length := by rw [length_images, length_prodM]; exact hq
    have e4 : gi ((images (prodM ms ks) (gi (mixB ms ks f g t) t)).take j) q = gi (gr (prodM ms ks) q) (gi (mixB ms ks f g t) t) := by
      have : (images (prodM ms ks) (gi (mixB ms ks f g t) t)) = (images (prodM ms ks) (gi (mixB ms ks f g t) t)).take j ++ (images (prodM ms ks) (gi (mixB ms ks f g t) t)).drop j := (List.take_append_drop _ _).symm
      rw [← gi_images (by rw [length_prodM]; exact hq)]
      rw [this, gi_append_left (by omega) (by simp; omega), ← this]
    rw [← e4]
    exact gi_in (by simp; omega)
end
end Go.Mem

/- Plain words on lists: what the general law on Petrie lengths says. No program in sight. -/
namespace Go.Mem
set_option linter.unusedVariables false
theorem dvd_lcms {x : Nat} : ∀ {L : List Nat}, x ∈ L → x ∣ lcms L
  | [], h => by simp at h
  | y :: L, h => by
    rw [lcms_cons]
    rcases List.mem_cons.1 h with rfl | h
    · exact Nat.dvd_lcm_left _ _
    · exact Nat.dvd_trans (dvd_lcms h) (Nat.dvd_lcm_right _ _)
section
variable {n : Nat} {p : List Int} {x : Int}
theorem Pm.itr_iff (h : Pm n p) (hx : 0 ≤ x ∧ x < n) {k : Nat} (h1 : 1 ≤ k) (hk : k ≤ Mem.per n p x) : Mem.itr p x k = x ↔ k = Mem.per n p x := by
  obtain ⟨_, _, h2, h3⟩ := h.per hx
  constructor
  · intro e
    rcases Nat.lt_or_ge k (Mem.per n p x) with hl | hl
    · exact absurd e (h3 k h1 hl)
    · omega
  · rintro rfl; exact h2
theorem Pm.per_dvd (h : Pm n p) (hx : 0 ≤ x ∧ x < n) : Mem.per n p x ∣ ord n p := by
  obtain ⟨c, hc, hm⟩ := h.cyc_all n (Nat.le_refl _) x.toNat (by omega)
  rw [show ((x.toNat : Nat) : Int) = x by omega] at hm
  have hl := ((h.cyc_per hc).1 x hm).2.2
  rw [← hl]
  exact dvd_lcms (List.mem_map.2 ⟨c, hc, rfl⟩)
theorem Pm.per_next (h : Pm n p) (hx : 0 ≤ x ∧ x < n) (k : Nat) : Mem.per n p (Mem.itr p x k) = Mem.per n p x := h.per_same hx (itr_rch p x k)
end
theorem idl_snoc (n : Nat) : idl (n + 1) = idl n ++ [(n : Int)] := by simp [idl, List.range_succ]
theorem emod_dvd {a b : Nat} (h : b ∣ a) : (a : Int) % (b : Int) = 0 := by
  obtain ⟨c, rfl⟩ := h
  rw [Int.natCast_mul]
  exact Int.mul_emod_right _ _
end Go.Mem
