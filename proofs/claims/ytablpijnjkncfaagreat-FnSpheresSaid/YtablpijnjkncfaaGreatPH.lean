/- Texts laid together: P46 P47. -/
import Derived.Test.YtablpijnjkncfaaGreatPD
import Derived.Test.YtablpijnjkncfaaGreatP45
import Derived.Test.YtablpijnjkncfaaGreatPF
/- Plain words: strict total orders, sorted lists without repeats, lists of least forms. -/
namespace Go.Mem
open Go.RowKit Go.Lib
set_option linter.unusedVariables false
set_option linter.unusedSectionVars false
/-- lt is a strict total order -/
structure Sto {α : Type} (lt : α → α → Bool) : Prop where
  irr : ∀ a, lt a a = false
  tr : ∀ a b c, lt a b = true → lt b c = true → lt a c = true
  tri : ∀ a b, a ≠ b → lt a b = true ∨ lt b a = true
section
variable {α : Type} [DecidableEq α] {lt : α → α → Bool}
theorem Sto.asym (h : Sto lt) {a b : α} (hab : lt a b = true) : lt b a = false := by
  cases hb : lt b a with
  | false => rfl
  | true => have := h.tr a b a hab hb; rw [h.irr] at this; cases this
theorem Sto.ne (h : Sto lt) {a b : α} (hab : lt a b = true) : a ≠ b := fun e => by subst e; rw [h.irr] at hab; cases hab
theorem lexL_sto (h : Sto lt) : Sto (lexL lt) := by
  refine ⟨fun a => lexL_self a, ?_, ?_⟩
  · intro a
    induction a with
    | nil =>
      intro b c h1 h2
      cases b with
      | nil => simp [lexL] at h1
      | cons y ys =>
        cases c with
        | nil => simp [lexL] at h2
        | cons z zs => simp [lexL]
    | cons x xs ih =>
      intro b c h1 h2
      cases b with
      | nil => simp [lexL] at h1
      | cons y ys =>
        cases c with
        | nil => simp [lexL] at h2
        | cons z zs =>
          simp only [lexL] at h1 h2 ⊢
          by_cases e1 : x = y
          · subst e1
            rw [if_pos rfl] at h1
            by_cases e2 : x = z
            · subst e2
              rw [if_pos rfl] at h2 ⊢
              exact ih _ _ h1 h2
            · rw [if_neg e2] at h2 ⊢; exact h2
          · rw [if_neg e1] at h1
            by_cases e2 : y = z
            · subst e2
              rw [if_neg e1]; exact h1
            · rw [if_neg e2] at h2
              have h3 := h.tr _ _ _ h1 h2
              rw [if_neg (h.ne h3)]; exact h3
  · intro a
    induction a with
    | nil =>
      intro b hne
      cases b with
      | nil => exact absurd rfl hne
      | cons y ys => simp [lexL]
    | cons x xs ih =>
      intro b hne
      cases b with
      | nil => simp [lexL]
      | cons y ys =>
        simp only [lexL]
        by_cases e1 : x = y
        · subst e1
          rw [if_pos rfl, if_pos rfl]
          exact ih ys fun e => hne (by rw [e])
        · rw [if_neg e1, if_neg fun e => e1 e.symm]
          exact h.tri _ _ e1
/-- x put into a sorted list, if it is not there -/
def insF (lt : α → α → Bool) : List α → α → List α
  | [], x => [x]
  | y :: L, x => if lt y x then y :: insF lt L x else if y = x then y :: L else x :: y :: L
theorem insF_mem (L : List α) (x a : α) : a ∈ insF lt L x ↔ a = x ∨ a ∈ L := by
  induction L with
  | nil => simp [insF]
  | cons y L ih =>
    simp only [insF]
    by_cases h1 : lt y x = true
    · rw [if_pos h1, List.mem_cons, ih, List.mem_cons]
      constructor
      · rintro (h | h | h)
        · exact .inr (.inl h)
        · exact .inl h
        · exact .inr (.inr h)
      · rintro (h | h | h)
        · exact .inr (.inl h)
        · exact .inl h
        · exact .inr (.inr h)
    · rw [if_neg h1]
      by_cases h2 : y = x
      · rw [if_pos h2]
        subst h2
        constructor
        · intro h; exact .inr h
        · rintro (rfl | h)
          · exact List.mem_cons_self
          · exact h
      · rw [if_neg h2]; simp
theorem insF_sorted (h : Sto lt) (L : List α) (x : α) (hs : L.Pairwise (fun a b => lt a b = true)) : (insF lt L x).Pairwise (fun a b => lt a b = true) := by
  induction L with
  | nil => simp [insF]
  | cons y L ih =>
    obtain ⟨h1, h2⟩ := List.pairwise_cons.1 hs
    simp only [insF]
    by_cases hy : lt y x = true
    · rw [if_pos hy]
      refine List.pairwise_cons.2 ⟨fun a ha => ?_, ih h2⟩
      rcases (insF_mem L x a).1 ha with rfl | ha
      · exact hy
      · exact h1 a ha
    · rw [if_neg hy]
      by_cases e : y = x
      · rw [if_pos e]; exact hs
      · rw [if_neg e]
        have hxy : lt x y = true := by
          rcases h.tri y x e with h3 | h3
          · exact absurd h3 hy
          · exact h3
        refine List.pairwise_cons.2 ⟨fun a ha => ?_, hs⟩
        rcases List.mem_cons.1 ha with rfl | ha
        · exact hxy
        · exact h.tr _ _ _ hxy (h1 a ha)
/-- where it comes to stand -/
theorem insF_at (L : List α) (x : α) (at' : Nat) (hl : at' ≤ L.length) (h1 : ∀ i (hi : i < L.length), i < at' → lt L[i] x = true) (h2 : ∀ (hi : at' < L.length), lt L[at'] x = false) :
    insF lt L x = if (∃ hi : at' < L.length, L[at'] = x) then L else L.take at' ++ x :: L.drop at' := by
  induction L generalizing at' with
  | nil => simp [insF]
  | cons y L ih =>
    cases at' with
    | zero =>
      have := h2 (by simp)
      simp only [List.getElem_cons_zero] at this
      simp only [insF, this]
      by_cases e : y = x <;> simp [e]
    | succ k =>
      have hy := h1 0 (by simp) (by omega)
      simp only [List.getElem_cons_zero] at hy
      simp only [insF]
      rw [if_pos hy, ih k (by simpa using hl) (fun i hi hik => h1 (i + 1) (Nat.succ_lt_succ hi) (by omega)) (fun hi => h2 (Nat.succ_lt_succ hi))]
      by_cases e : ∃ hi : k < L.length, L[k] = x
      · rw [if_pos e, if_pos (by obtain ⟨a, b⟩ := e; exact ⟨by simpa using a, by simpa using b⟩)]
      · rw [if_neg e, if_neg (by rintro ⟨a, b⟩; exact e ⟨by simpa using a, by simpa using b⟩)]
        simp
/-- all of a list, sorted, each once -/
def srtF (lt : α → α → Bool) (L : List α) : List α := L.foldl (insF lt) []
theorem srtF_ok (h : Sto lt) (L : List α) : (srtF lt L).Pairwise (fun a b => lt a b = true) ∧ ∀ a, a ∈ srtF lt L ↔ a ∈ L := by
  have key : ∀ (L acc : List α), acc.Pairwise (fun a b => lt a b = true) → (L.foldl (insF lt) acc).Pairwise (fun a b => lt a b = true) ∧ ∀ a, a ∈ L.foldl (insF lt) acc ↔ a ∈ acc ∨ a ∈ L := by
    intro L
    induction L with
    | nil => intro acc ha; exact ⟨ha, fun a => by simp⟩
    | cons x L ih =>
      intro acc ha
      obtain ⟨h1, h2⟩ := ih (insF lt acc x) (insF_sorted h acc x ha)
      refine ⟨h1, fun a => ?_⟩
      show a ∈ L.foldl (insF lt) (insF lt acc x) ↔ _
      rw [h2, insF_mem, List.mem_cons]
      constructor
      · rintro ((h | h) | h)
        · exact .inr (.inl h)
        · exact .inl h
        · exact .inr (.inr h)
      · rintro (h | h | h)
        · exact .inl (.inr h)
        · exact .inl (.inl h)
        · exact .inr h
  obtain ⟨h1, h2⟩ := key L [] List.Pairwise.nil
  exact ⟨h1, fun a => by unfold srtF; rw [h2]; simp⟩
theorem srtF_snoc (L : List α) (x : α) : srtF lt (L ++ [x]) = insF lt (srtF lt L) x := by simp [srtF, List.foldl_append]
theorem sto_same (h : Sto lt) : ∀ {xs ys : List α}, xs.Pairwise (fun a b => lt a b = true) → ys.Pairwise (fun a b => lt a b = true) → (∀ a, a ∈ xs ↔ a ∈ ys) → xs = ys
  | [], [], _, _, _ => rfl
  | [], y :: ys, _, _, hm => absurd ((hm y).2 (by simp)) (by simp)
  | x :: xs, [], _, _, hm => absurd ((hm x).1 (by simp)) (by simp)
  | x :: xs, y :: ys, hx, hy, hm => by
    obtain ⟨hx1, hx2⟩ := List.pairwise_cons.1 hx
    obtain ⟨hy1, hy2⟩ := List.pairwise_cons.1 hy
    have e : x = y := by
      rcases List.mem_cons.1 ((hm x).1 (by simp)) with e | h1
      · exact e
      · rcases List.mem_cons.1 ((hm y).2 (by simp)) with e | h2
        · exact e.symm
        · have := h.tr _ _ _ (hy1 x h1) (hx1 y h2)
          rw [h.irr] at this; cases this
    subst e
    congr 1
    refine sto_same h hx2 hy2 fun a => ?_
    constructor
    · intro ha
      rcases List.mem_cons.1 ((hm a).1 (List.mem_cons_of_mem _ ha)) with e | h1
      · subst e; have := hx1 a ha; rw [h.irr] at this; cases this
      · exact h1
    · intro ha
      rcases List.mem_cons.1 ((hm a).2 (List.mem_cons_of_mem _ ha)) with e | h1
      · subst e; have := hy1 a ha; rw [h.irr] at this; cases this
      · exact h1
/-- of a list that climbs weakly, the different ones -/
theorem compact_sto [Inhabited α] (h : Sto lt) {d : Array α} (hd : ∀ i j : Nat, i < j → j < d.size → lt d[j]! d[i]! = false) : ∀ m : Nat, m ≤ d.size →
    (compactUpTo d m).Pairwise (fun a b => lt a b = true) ∧ (∀ a, a ∈ compactUpTo d m ↔ ∃ j : Nat, j < m ∧ d[j]! = a) := by
  intro m
  induction m with
  | zero => intro _; exact ⟨by simp [compactUpTo], fun a => by simp [compactUpTo]⟩
  | succ m ih =>
    intro hm
    obtain ⟨h1, h2⟩ := ih (by omega)
    rw [compactUpTo_succ]
    by_cases hk : keeps d m = true
    · rw [if_pos hk]
      have hk2 : m = 0 ∨ d[m]! ≠ d[m - 1]! := by simpa [keeps] using hk
      refine ⟨List.pairwise_append.2 ⟨h1, by simp, fun a ha b hb => ?_⟩, fun a => ?_⟩
      · simp at hb; subst hb
        obtain ⟨j, hj, rfl⟩ := (h2 a).1 ha
        rcases hk2 with h0 | hne
        · omega
        · have e1 : lt d[m - 1]! d[m]! = true := by
            rcases h.tri _ _ hne with h3 | h3
            · rw [hd (m - 1) m (by omega) (by omega)] at h3; cases h3
            · exact h3
          by_cases e : j = m - 1
          · rw [e]; exact e1
          · by_cases e3 : d[j]! = d[m - 1]!
            · rw [e3]; exact e1
            · rcases h.tri _ _ e3 with h3 | h3
              · exact h.tr _ _ _ h3 e1
              · rw [hd j (m - 1) (by omega) (by omega)] at h3; cases h3
      · rw [List.mem_append, h2]
        constructor
        · rintro (⟨j, hj, e⟩ | h)
          · exact ⟨j, by omega, e⟩
          · simp at h; exact ⟨m, by omega, h.symm⟩
        · rintro ⟨j, hj, e⟩
          by_cases hjm : j = m
          · subst hjm; exact .inr (by simp [e])
          · exact .inl ⟨j, by omega, e⟩
    · rw [if_neg hk, List.append_nil]
      have hk2 : ¬ (m = 0 ∨ d[m]! ≠ d[m - 1]!) := fun h => hk (by simpa [keeps] using h)
      have hm0 : m ≠ 0 := fun h => hk2 (.inl h)
      have he : d[m]! = d[m - 1]! := Classical.byContradiction fun h => hk2 (.inr h)
      refine ⟨h1, fun a => ?_⟩
      rw [h2]
      constructor
      · rintro ⟨j, hj, e⟩; exact ⟨j, by omega, e⟩
      · rintro ⟨j, hj, e⟩
        by_cases hjm : j = m
        · subst hjm; exact ⟨j - 1, by omega, by rw [← he]; exact e⟩
        · exact ⟨j, by omega, e⟩
end
theorem ltI_sto : Sto ltI := ⟨fun a => by simp [ltI], fun a b c h1 h2 => by simp [ltI] at *; omega, fun a b h => by simp [ltI]; omega⟩
theorem lessL_sto : Sto lessL := lexL_sto ltI_sto
theorem lessR_sto : Sto lessR := lexL_sto lessL_sto
/-- a maniplex stands before another one in lists of forms -/
def befM (m k : List (List Int)) : Bool := if nf m = nf k then lessR m k else decide (nf m < nf k)
theorem befM_sto : Sto befM := by
  have h := lessR_sto
  refine ⟨fun a => by simp [befM, h.irr], fun a b c h1 h2 => ?_, fun a b hne => ?_⟩
  · unfold befM at *
    split at h1
    · split at h2
      · rw [if_pos (by omega)]; exact h.tr _ _ _ h1 h2
      · have : nf b < nf c := of_decide_eq_true h2
        rw [if_neg (by omega)]; exact decide_eq_true (by omega)
    · have h3 : nf a < nf b := of_decide_eq_true h1
      split at h2
      · rw [if_neg (by omega)]; exact decide_eq_true (by omega)
      · have : nf b < nf c := of_decide_eq_true h2
        rw [if_neg (by omega)]; exact decide_eq_true (by omega)
  · unfold befM
    by_cases e : nf a = nf b
    · rw [if_pos e, if_pos e.symm]; exact h.tri _ _ hne
    · rw [if_neg e, if_neg fun e2 => e e2.symm]
      rcases Nat.lt_or_gt_of_ne e with h1 | h1
      · exact .inl (decide_eq_true h1)
      · exact .inr (decide_eq_true h1)
/-- the forms of a list of maniplexes, in order, each once -/
def fmsM (L : List (List (List Int))) : List (List (List Int)) := srtF befM L
theorem fmsM_ok (L : List (List (List Int))) : (fmsM L).Pairwise (fun a b => befM a b = true) ∧ ∀ a, a ∈ fmsM L ↔ a ∈ L := srtF_ok befM_sto L
theorem fmsM_nodup (L : List (List (List Int))) : (fmsM L).Nodup := (fmsM_ok L).1.imp fun h => befM_sto.ne h
theorem fmsM_eq {L K : List (List (List Int))} (hs : K.Pairwise (fun a b => befM a b = true)) (hm : ∀ a, a ∈ K ↔ a ∈ L) : K = fmsM L := sto_same befM_sto hs (fmsM_ok L).1 fun a => (hm a).trans ((fmsM_ok L).2 a).symm
theorem fmsM_snoc (L : List (List (List Int))) (x : List (List Int)) : fmsM (L ++ [x]) = insF befM (fmsM L) x := srtF_snoc L x
/-- what the program compares by -/
def cmpM (m k : List (List Int)) : Int := if cmpI (nf m) (nf k) ≠ 0 then cmpI (nf m) (nf k) else cmpL lessL m k
theorem cmpM_neg (m k : List (List Int)) : decide (cmpM m k < 0) = befM m k := by
  unfold cmpM befM
  by_cases e : nf m = nf k
  · have : cmpI (nf m) (nf k) = 0 := cmpI_zero.2 (by rw [e])
    rw [if_neg (fun h => h this), if_pos e]
    exact cmpL_neg m k
  · have hn : cmpI (nf m) (nf k) ≠ 0 := fun h => e (by have := cmpI_zero.1 h; omega)
    rw [if_pos hn, if_neg e]
    unfold cmpI
    rw [if_neg (by omega)]
    by_cases h : (nf m : Int) < nf k
    · rw [if_pos h, decide_eq_true (by decide : (-1 : Int) < 0), decide_eq_true (by omega : nf m < nf k)]
    · rw [if_neg h, decide_eq_false (by decide : ¬ (1 : Int) < 0), decide_eq_false (by omega : ¬ nf m < nf k)]
/-- the least forms of the orbits of the moves of a section, one for each orbit -/
noncomputable def secO (n : Nat) (A : List (List Int)) : List (List (List Int)) := (List.range (labc n A).toNat).map fun o : Nat => lst (frm n A (idxOf (labs n A) o))
noncomputable def secF (n : Nat) (A : List (List Int)) : List (List (List Int)) := fmsM (secO n A)
/-- which of the forms each flag's is -/
noncomputable def secK (n : Nat) (A : List (List Int)) : List Int := (labs n A).map fun l => (((secF n A).idxOf ((secO n A).getD l.toNat []) : Nat) : Int)
end Go.Mem

/- Plain words on lists: which form of a section each flag's is. No program in sight. -/
namespace Go.Mem
set_option linter.unusedVariables false
section
variable {M A : List (List Int)} {n : Nat} {p f f0 : Int}
/-- a form's least form is the maniplex's -/
theorem lst_form (hm : IsMan M) (hp : 0 ≤ p ∧ p < nf M) : lst (frm (nf M) M p) = lst M := by
  have f2 := hm.m0.f2
  have f4 := hm.m0.f400
  have r1 := hm.m0.r1
  have hol := man_orbit_len hm hp
  have hk := form_man hm hp
  have hnf := nf_frm (n := nf M) (rs := M) (p := p) r1
  obtain ⟨hS, _, _, _⟩ := homS_form hm.syst (by omega) hp
  have hmo : ∀ y : Int, 0 ≤ y → y < nf M → y ∈ orbit M p := fun y h0 h1 => (mem_orbit hm.syst hp (by omega)).2 ((hm.sym.back 0 p (by omega) (by omega) (hm.all hp.1 hp.2)).trans (hm.all h0 h1))
  have horg := orbit_rng hm.syst hp (by omega)
  rw [hol] at hnf hS
  generalize hO : orbit M p = O at *
  have key : ∀ g : Int, 0 ≤ g ∧ g < nf M → frm (nf M) M (gi O g) = frm (nf M) (frm (nf M) M p) g := fun g hg => hS.frm (by omega) (by omega) hg
  have h1 : lessR (lst (frm (nf M) M p)) (lst M) = false := by
    obtain ⟨g, hg, e⟩ := lst_frm (ms := frm (nf M) M p) (by omega)
    rw [e, hnf]
    rw [hnf] at hg
    rw [← key g hg]
    exact lst_least (horg _ (gi_mem hg.1 (by omega)))
  have h2 : lessR (lst M) (lst (frm (nf M) M p)) = false := by
    obtain ⟨y, hy, e⟩ := lst_frm (ms := M) (by omega)
    obtain ⟨g, hg, eg⟩ := in_gi (hmo y hy.1 hy.2)
    rw [e, ← eg, key g (by omega)]
    have := lst_least (ms := frm (nf M) M p) (f := (g : Int)) (by rw [hnf]; omega)
    rw [hnf] at this
    exact this
  refine Classical.byContradiction fun hne => ?_
  rcases lessR_sto.tri _ _ hne with h | h
  · rw [h1] at h; cases h
  · rw [h2] at h; cases h
/-- flags of one orbit have forms with the same least form -/
theorem lst_orb (hk : Like n A) (h0 : 0 ≤ f0 ∧ f0 < n) (hr : Rch A f0 f) : lst (frm n A f) = lst (frm n A f0) := by
  have h4 := hk.n400
  have r1 := hk.r1
  have hM := frm_man hk h0
  have hnf := nf_frm (n := n) (rs := A) (p := f0) r1
  obtain ⟨hS, _, _, hle⟩ := homS_form hk.syst (by omega) h0
  have hmem : f ∈ orbit A f0 := (mem_orbit hk.syst h0 (by omega)).2 hr
  generalize hO : orbit A f0 = O at *
  obtain ⟨g, hg, eg⟩ := in_gi hmem
  have key := hS.frm (f := (g : Int)) (by omega) (by omega) (by omega)
  rw [eg] at key
  rw [key, ← hnf]
  exact lst_form hM (by omega)
section
variable (hk : Like n A) (h1 : 1 ≤ n) (hf : 0 ≤ f ∧ f < n)
include hk h1 hf
theorem secK_at : 0 ≤ gi (secK n A) f ∧ gi (secK n A) f < (secF n A).length ∧ (secF n A).getD (gi (secK n A) f).toNat [] = lst (frm n A f) := by
  have h4 := hk.n400
  have hL := labs_all (hk.sym fun m h => h) (by omega)
  have hll := hL.len
  have hl1 := hL.done f hf.1 hf.2 hf.2
  have hl2 := (hL.rng f hf.1 hf.2).2
  have e : gi (secK n A) f = (((secF n A).idxOf ((secO n A).getD (gi (labs n A) f).toNat []) : Nat) : Int) := by
    unfold secK
    rw [gi_map hf.1 (by rw [hll]; omega)]
  have hol : (secO n A).length = (labc n A).toNat := by simp [secO]
  have hlt : (gi (labs n A) f).toNat < (secO n A).length := by omega
  have hin : (secO n A).getD (gi (labs n A) f).toNat [] ∈ secF n A := ((fmsM_ok (secO n A)).2 _).2 (by simp [List.getD, hlt])
  have hix := List.idxOf_lt_length_of_mem hin
  have ea : (secO n A).getD (gi (labs n A) f).toNat [] = lst (frm n A f) := by
    have e1 : (secO n A).getD (gi (labs n A) f).toNat [] = lst (frm n A (idxOf (labs n A) (((gi (labs n A) f).toNat : Nat) : Int))) := by simp [secO, List.getD, show (gi (labs n A) f).toNat < (labc n A).toNat by omega]
    rw [e1, show (((gi (labs n A) f).toNat : Nat) : Int) = gi (labs n A) f by omega]
    obtain ⟨i0, i1, i2⟩ := idxOf_mem (xs := labs n A) (a := gi (labs n A) f) (gi_mem hf.1 (by omega))
    exact (lst_orb hk ⟨i0, by omega⟩ (hL.only _ f i0 (by omega) hf.1 hf.2 (by rw [i2]; exact hl1) i2.symm)).symm
  generalize (secO n A).getD (gi (labs n A) f).toNat [] = a at *
  refine ⟨by omega, by omega, ?_⟩
  rw [e, Int.toNat_natCast, ← ea]
  simp only [List.getD, List.getElem?_eq_getElem hix, Option.getD_some, List.getElem_idxOf hix]
theorem secK_move {m : List Int} (hm : m ∈ A) : gi (secK n A) (gi m f) = gi (secK n A) f := by
  have h4 := hk.n400
  have hL := labs_all (hk.sym fun m h => h) (by omega)
  have hll := hL.len
  have hmf := hk.syst.mem hm hf
  have e := hL.shut f (gi m f) hf.1 hf.2 (hL.done f hf.1 hf.2 hf.2) (.step (.refl _) hm)
  unfold secK
  rw [gi_map hmf.1 (by rw [hll]; omega), gi_map hf.1 (by rw [hll]; omega), e]
end
end
end Go.Mem
