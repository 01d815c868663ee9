/- Texts laid together: F104 F105 F107 F108 F109. -/
import Derived.Test.YtablpijnjkncfaaGreatLB
import Derived.Test.YtablpijnjkncfaaGreatFB
import Derived.Test.YtablpijnjkncfaaGreatF34
import Derived.Test.YtablpijnjkncfaaGreatF41
import Derived.Test.YtablpijnjkncfaaGreatF43
import Derived.Shelf.SlSortCmp.NoneTotal
import Derived.Test.YtablpijnjkncfaaGreatLC
import Derived.Test.YtablpijnjkncfaaGreatF80
/- Lists of maniplexes that lie apart; contracts: the laws' comparisons and marks of such lists; sorting them. -/
namespace Go.Mem
open Go.RowKit
set_option linter.unusedVariables false
theorem nodup_at {α : Type} {l : List α} (h : l.Nodup) {i j : Nat} (hi : i < l.length) (hj : j < l.length) (e : l[i] = l[j]) : i = j := by
  rcases Nat.lt_trichotomy i j with h1 | h1 | h1
  · exact absurd e (List.pairwise_iff_getElem.1 h i j hi hj h1)
  · exact h1
  · exact absurd e.symm (List.pairwise_iff_getElem.1 h j i hj hi h1)
def totS : List (List (List Int)) → Int
  | [] => 0
  | m :: L => tot m + totS L
theorem totS_nonneg : ∀ L : List (List (List Int)), 0 ≤ totS L
  | [] => Int.le_refl _
  | m :: L => by have := totS_nonneg L; have := tot_nonneg m; simp only [totS]; omega
theorem totS_take_succ : ∀ (L : List (List (List Int))) (i : Nat), i < L.length → totS (L.take (i + 1)) = totS (L.take i) + tot (L.getD i [])
  | [], i, h => by simp at h
  | m :: L, 0, h => by simp [totS]
  | m :: L, i + 1, h => by
    have := totS_take_succ L i (by simpa using h)
    simp only [List.take_succ_cons, totS, List.getD_cons_succ]
    omega
theorem totS_take_le : ∀ (L : List (List (List Int))) (i : Nat), totS (L.take i) ≤ totS L
  | [], i => by simp
  | m :: L, 0 => by have := totS_nonneg (m :: L); simpa [totS] using this
  | m :: L, i + 1 => by have := totS_take_le L i; simp only [List.take_succ_cons, totS]; omega
theorem totS_le {c : Int} : ∀ L : List (List (List Int)), (∀ m ∈ L, tot m ≤ c) → totS L ≤ L.length * c
  | [], _ => by simp [totS]
  | m :: L, h => by
    have h1 := totS_le L fun a ha => h a (List.mem_cons_of_mem _ ha)
    have h2 := h m (List.mem_cons_self)
    simp only [totS, List.length_cons]
    have e : (((L.length + 1 : Nat) : Int)) * c = (L.length : Int) * c + c := by rw [Int.natCast_add, Int.add_mul]; simp
    rw [e]; omega
/-- the marks -/
def mkS (L : List (List (List Int))) (k : Int) : List (List (List Int)) := (List.range L.length).map fun j => mkRows (L.getD j []) (k + totS (L.take j))
theorem mkS_len (L : List (List (List Int))) (k : Int) : (mkS L k).length = L.length := by simp [mkS]
theorem mkS_at {L : List (List (List Int))} {k : Int} {j : Nat} (h : j < L.length) : (mkS L k).getD j [] = mkRows (L.getD j []) (k + totS (L.take j)) := by simp [mkS, List.getD, h]
/-- v is a list of maniplexes, to be read -/
structure RS (w : World) (v : Value) (mss : List (List (List Int))) : Prop where
  out : ∃ vs, Rd w v vs ∧ vs.length = mss.length ∧ ∀ (i : Nat) u xss, vs[i]? = some u → mss[i]? = some xss → RL w u xss
/-- an owned list of maniplexes, each in blocks of its own -/
structure OS (w : World) (B E : Nat) (TM T U : TypeId) (v : Value) (mss : List (List (List Int))) : Prop where
  out : ∃ (vs : List Value) (Bs Es : Nat → Nat), Own w B TM v vs ∧ vs.length = mss.length ∧ (∀ g, v.ownBlock = some g → g < E) ∧
    (∀ (i : Nat) u xss, vs[i]? = some u → mss[i]? = some xss → OM w (Bs i) (Es i) T U u xss ∧ ∀ g, u.ownBlock = some g → g < Es i) ∧
    (∀ i, i < vs.length → B ≤ Bs i ∧ Es i ≤ E ∧ Bs i ≤ w.heap.size) ∧ (∀ i g, i < vs.length → v.ownBlock = some g → g < Bs i ∨ Es i ≤ g) ∧
    ∀ i j, i < vs.length → j < vs.length → i ≠ j → Es i ≤ Bs j ∨ Es j ≤ Bs i
section
variable {w w' : World} {B E B' E' : Nat} {TM T U : TypeId} {v u : Value} {mss : List (List (List Int))} {xss : List (List Int)}
theorem RS.rs (h : RS w v mss) : RS w v mss := h
theorem RS.below (h : RS w v mss) (hb : Below w.heap.size w w') : RS w' v mss := by
  obtain ⟨vs, h1, h2, h3⟩ := h.out
  exact ⟨vs, h1.below hb, h2, fun i u xss hu hx => (h3 i u xss hu hx).below hb⟩
theorem RS.sv (h : RS w v mss) : SV v mss.length := by
  obtain ⟨vs, h1, h2, h3⟩ := h.out
  rw [← h2]; exact h1.sv
theorem RS.el (h : RS w v mss) {j : Nat} (hj : j < mss.length) : ∃ u, RL w u (mss.getD j []) ∧ w.cell? (addrOf v j) = some u := by
  obtain ⟨vs, h1, h2, h3⟩ := h.out
  have hu : vs[j]? = some (vs[j]'(by omega)) := by simp
  exact ⟨_, h3 j _ _ hu (by simp [List.getD, hj]), h1.cell hu⟩
theorem OS.rs (h : OS w B E TM T U v mss) : RS w v mss := by
  obtain ⟨vs, Bs, Es, h1, h2, _, h3, _⟩ := h.out
  exact ⟨vs, h1.rd, h2, fun i u xss hu hx => (h3 i u xss hu hx).1.rl⟩
theorem OS.sv (h : OS w B E TM T U v mss) : SV v mss.length := h.rs.sv
theorem OS.below (h : OS w B E TM T U v mss) (hb : Below w.heap.size w w') : OS w' B E TM T U v mss := by
  obtain ⟨vs, Bs, Es, h1, h2, h3, h4, h5, h6, h7⟩ := h.out
  exact ⟨vs, Bs, Es, h1.below hb, h2, h3, fun i u xss hu hx => ⟨(h4 i u xss hu hx).1.below hb, (h4 i u xss hu hx).2⟩, fun i hi => ⟨(h5 i hi).1, (h5 i hi).2.1, Nat.le_trans (h5 i hi).2.2 hb.size⟩, h6, h7⟩
theorem OS.mono (h : OS w B E TM T U v mss) (hB : B' ≤ B) : OS w B' E TM T U v mss := by
  obtain ⟨vs, Bs, Es, h1, h2, h3, h4, h5, h6, h7⟩ := h.out
  exact ⟨vs, Bs, Es, h1.mono hB, h2, h3, h4, fun i hi => ⟨Nat.le_trans hB (h5 i hi).1, (h5 i hi).2⟩, h6, h7⟩
theorem OS.wide (h : OS w B E TM T U v mss) (hE : E ≤ E') : OS w B E' TM T U v mss := by
  obtain ⟨vs, Bs, Es, h1, h2, h3, h4, h5, h6, h7⟩ := h.out
  exact ⟨vs, Bs, Es, h1, h2, fun g hg => Nat.lt_of_lt_of_le (h3 g hg) hE, h4, fun i hi => ⟨(h5 i hi).1, Nat.le_trans (h5 i hi).2.1 hE, (h5 i hi).2.2⟩, h6, h7⟩
/-- what lies apart from a turned stretch -/
theorem Own.apart_btw {vs : List Value} (h : Own w B' T v vs) (hv : ∀ g, v.ownBlock = some g → g < B ∨ E ≤ g) (hb : Btw B E w w') : Own w' B' T v vs :=
  by
    rcases h with ⟨rfl, rfl⟩ | ⟨g, off, cap, cur, rfl, hB, hg, r⟩
    · exact .inl ⟨rfl, rfl⟩
    · refine .inr ⟨g, off, cap, cur, rfl, hB, ?_, r⟩
      rw [hb.block g (Array.getElem?_eq_some_iff.1 hg).1 (hv g rfl)]; exact hg
theorem OM.apart_btw (h : OM w B' E' T U u xss) (hu : ∀ g, u.ownBlock = some g → g < E') (hb : Btw B E w w') (hd : E ≤ B' ∨ E' ≤ B) : OM w' B' E' T U u xss := by
  obtain ⟨vs, h1, h2, h3, h4, h5, h6⟩ := h.out
  refine ⟨vs, h1.apart_btw (fun g hg => ?_) hb, h2, h3, fun i a xs ha hx => ⟨(h4 i a xs ha hx).own.apart_btw (fun g hg => ?_) hb⟩, h5, h6⟩
  · have := (h1.lt g hg).1
    have := hu g hg
    omega
  · have := ((h4 i a xs ha hx).lt g hg).1
    have := h5 i a ha g hg
    omega
theorem OS.btw (h : OS w B' E' TM T U v mss) (hb : Btw B E w w') (hE : E ≤ B') : OS w' B' E' TM T U v mss := by
  obtain ⟨vs, Bs, Es, h1, h2, h3, h4, h5, h6, h7⟩ := h.out
  exact ⟨vs, Bs, Es, h1.apart_btw (fun g hg => .inr (Nat.le_trans hE (h1.lt g hg).1)) hb, h2, h3, fun i u xss hu hx => ⟨(h4 i u xss hu hx).1.apart_btw (h4 i u xss hu hx).2 hb (.inl (Nat.le_trans hE (h5 i (List.getElem?_eq_some_iff.1 hu).1).1)), (h4 i u xss hu hx).2⟩,
    fun i hi => ⟨(h5 i hi).1, (h5 i hi).2.1, Nat.le_trans (h5 i hi).2.2 hb.size⟩, h6, h7⟩
/-- an element, and what a turn in its blocks makes of the whole -/
theorem OS.elW (h : OS w B E TM T U v mss) {j : Nat} (hj : j < mss.length) : ∃ (u : Value) (Bj Ej : Nat), OM w Bj Ej T U u (mss.getD j []) ∧ B ≤ Bj ∧ Ej ≤ E ∧ w.cell? (addrOf v j) = some u ∧
    ∀ w' yss, OM w' Bj Ej T U u yss → Btw Bj Ej w w' → OS w' B E TM T U v (mss.set j yss) := by
  obtain ⟨vs, Bs, Es, h1, h2, h3, h4, h5, h6, h7⟩ := h.out
  have hlt : j < vs.length := by omega
  have hu : vs[j]? = some vs[j] := by simp [hlt]
  have hx : mss[j]? = some (mss.getD j []) := by simp [List.getD, hj]
  obtain ⟨k1, k2⟩ := h4 j _ _ hu hx
  refine ⟨vs[j], Bs j, Es j, k1, (h5 j hlt).1, (h5 j hlt).2.1, h1.rd.cell hu, fun w' yss hm hb => ⟨vs, Bs, Es, h1.apart_btw (fun g hg => h6 j g hlt hg) hb, by simpa using h2, h3, fun i a zss ha hz => ?_, fun i hi => ⟨(h5 i hi).1, (h5 i hi).2.1, Nat.le_trans (h5 i hi).2.2 hb.size⟩, h6, h7⟩⟩
  have hi := (List.getElem?_eq_some_iff.1 ha).1
  rw [List.getElem?_set] at hz
  by_cases e : j = i
  · subst e
    rw [if_pos rfl, if_pos hj] at hz
    obtain rfl := Option.some.inj hz
    rw [hu] at ha
    obtain rfl := Option.some.inj ha
    exact ⟨hm, k2⟩
  · rw [if_neg e] at hz
    obtain ⟨l1, l2⟩ := h4 i a zss ha hz
    exact ⟨l1.apart_btw l2 hb (h7 j i hlt hi e), l2⟩
theorem OS.nil (w : World) (B E : Nat) (TM T U : TypeId) : OS w B E TM T U (.slice none 0 0) [] :=
  ⟨[], fun _ => 0, fun _ => 0, Own.nil w B TM, rfl, by simp [Value.ownBlock], by simp, by simp, by simp, by simp⟩
end
end Go.Mem
namespace Go.Proofs.YtablpijnjkncfaaGreat
open Go.Mem Go.RowKit
set_option linter.unusedVariables false
set_option linter.unusedSimpArgs false
set_option maxRecDepth 100000 in
/-- sorting a list that lies apart -/
theorem sortFormsS_any (v : Value) (mss : List (List (List Int))) (B E : Nat) (w : World) (ho : OS w B E 26 32 2 v mss) (hm1 : ∀ m ∈ mss, 1 ≤ m.length) (hne : mss ≠ []) (hl : mss.length ≤ 1000000) :
    Ret Tryz.prog 58 #[v] w fun r w' => OS w' B E 26 32 2 r (fmsM mss) ∧ w.grownBy w' v.ownBlock := by
  obtain ⟨vs, Bs, Es, h1, h2, h3, h4, h5, h6, h7⟩ := ho.out
  have hE : Els w 32 2 vs mss := ⟨h2, fun i u xss hu hx => ⟨_, _, (h4 i u xss hu hx).1⟩⟩
  have hnv : vs ≠ [] := fun e => hne (List.eq_nil_of_length_eq_zero (by rw [← h2, e]; rfl))
  refine enter1 7 Tryz.func58 rfl Tryz.ntmps58 rfl (fun fr => ?_)
  refine go ?_
  refine s_call2 (wn rfl) rfl rfl rfl (SortFunc_any v vs mss B w h1 hE hm1 hnv (by omega)) ?_
  rintro _ w1 ⟨σ, hp, ho1, hs, hg1⟩
  have hσ : σ.length = vs.length := by simpa using hp.length_eq
  have hσlt : ∀ i ∈ σ, i < vs.length := fun i hi => by simpa using hp.mem_iff.1 hi
  have hσn : σ.Nodup := hp.nodup_iff.2 List.nodup_range
  have hE1 := (hE.kept h1 (by decide) (by decide) hg1).pick σ hσlt
  refine go ?_
  refine s_call2 (wn rfl) rfl rfl rfl (CompactFunc_any v _ _ B w1 ho1 hE1 (by simp; omega)) ?_
  rintro r w2 ⟨ho2, hg2, hob⟩
  have el : (σ.map fun i => vs.getD i undef).length = mss.length := by simp; omega
  rw [el] at ho2
  have hfm := kp_fms (σ := σ) (mss := mss) (by rw [← h2]; exact hp) (fun i j hij hj => hs i j hij (by omega))
  generalize hK : kp (σ.map fun i => mss.getD i []) mss.length = K at *
  have hKlt : ∀ a ∈ K, a < σ.length := fun a ha => by rw [hσ, h2]; rw [← hK] at ha; exact kp_lt a ha
  have hKn : K.Nodup := by rw [← hK]; exact (List.nodup_range).filter _
  have hg12 := grownBy_trans hg1 hg2
  have hat : ∀ (i : Nat) (k : Nat), K[i]? = some k → k < σ.length := fun i k h => hKlt k (List.mem_of_getElem? h)
  have hr : OS w2 B E 26 32 2 r (fmsM mss) := by
    rw [← hfm]
    refine ⟨_, fun i => Bs (σ.getD (K.getD i 0) 0), fun i => Es (σ.getD (K.getD i 0) 0), ho2, by simp, fun g hg => h3 g (hob g hg), fun i u xss hu hx => ?_, fun i hi => ?_, fun i g hi hg => ?_, fun i j hi hj hij => ?_⟩
    · rw [List.getElem?_map] at hu hx
      cases e : K[i]? with
      | none => rw [e] at hu; cases hu
      | some k =>
        rw [e] at hu hx
        have hk := hat i k e
        have e0 : K.getD i 0 = k := by simp [List.getD, e]
        have hsk : σ.getD k 0 < vs.length := hσlt _ (by simp [List.getD, hk])
        obtain rfl := Option.some.inj hu
        obtain rfl := Option.some.inj hx
        have e1 : (σ.map fun i => vs.getD i undef).getD k undef = vs.getD (σ.getD k 0) undef := by simp [List.getD, hk]
        have e2 : (σ.map fun i => mss.getD i []).getD k [] = mss.getD (σ.getD k 0) [] := by simp [List.getD, hk]
        obtain ⟨k1, k2⟩ := h4 (σ.getD k 0) (vs.getD (σ.getD k 0) undef) (mss.getD (σ.getD k 0) []) (by simp [List.getD, show σ[k]?.getD 0 < vs.length from hsk]) (by simp [List.getD, show σ[k]?.getD 0 < mss.length by have := hsk; simp only [List.getD] at this; omega])
        simp only [e0]
        rw [e1, e2]
        exact ⟨k1.kept_type h1 (by decide) (by decide) hg12, k2⟩
    · have hi2 : i < K.length := by simpa using hi
      have hk := hat i _ (List.getElem?_eq_getElem hi2)
      have hsk : σ.getD (K.getD i 0) 0 < vs.length := hσlt _ (by simp [List.getD, hi2, hk])
      exact ⟨(h5 _ hsk).1, (h5 _ hsk).2.1, Nat.le_trans (h5 _ hsk).2.2 hg12.size⟩
    · have hi2 : i < K.length := by simpa using hi
      have hk := hat i _ (List.getElem?_eq_getElem hi2)
      exact h6 _ g (hσlt _ (by simp [List.getD, hi2, hk])) (hob g hg)
    · have hi2 : i < K.length := by simpa using hi
      have hj2 : j < K.length := by simpa using hj
      have hk := hat i _ (List.getElem?_eq_getElem hi2)
      have hk' := hat j _ (List.getElem?_eq_getElem hj2)
      refine h7 _ _ (hσlt _ (by simp [List.getD, hi2, hk])) (hσlt _ (by simp [List.getD, hj2, hk'])) (fun e => hij ?_)
      simp only [List.getD, List.getElem?_eq_getElem hi2, List.getElem?_eq_getElem hj2, Option.getD_some, List.getElem?_eq_getElem hk, List.getElem?_eq_getElem hk'] at e
      have := nodup_at hσn _ _ e
      exact nodup_at hKn _ _ this
  refine go ?_
  exact end_one Tryz.results58 rfl ⟨hr, hg12⟩
end Go.Proofs.YtablpijnjkncfaaGreat

/- Contracts: QuotientForms (the program's side). -/
namespace Go.Mem
open Go.RowKit
set_option linter.unusedVariables false
section
variable {w w2 : World} {B E : Nat} {TM T U : TypeId} {v v' x : Value} {mss : List (List (List Int))} {xss : List (List Int)}
/-- one more, in blocks of its own -/
theorem OS.snoc {vs : List Value} {Bs Es : Nat → Nat} {bx ex : Nat} (h1 : Own w B TM v vs) (h2 : vs.length = mss.length) (h3 : ∀ g, v.ownBlock = some g → g < E)
    (h4 : ∀ (i : Nat) u xss, vs[i]? = some u → mss[i]? = some xss → OM w (Bs i) (Es i) T U u xss ∧ ∀ g, u.ownBlock = some g → g < Es i)
    (h5 : ∀ i, i < vs.length → B ≤ Bs i ∧ Es i ≤ E ∧ Bs i ≤ w.heap.size) (h6 : ∀ i g, i < vs.length → v.ownBlock = some g → g < Bs i ∨ Es i ≤ g)
    (h7 : ∀ i j, i < vs.length → j < vs.length → i ≠ j → Es i ≤ Bs j ∨ Es j ≤ Bs i)
    (hx : OM w bx ex T U x xss) (hxo : ∀ g, x.ownBlock = some g → g < ex) (hE : E ≤ bx) (hB : B ≤ bx) (hex : ex ≤ w.heap.size) (hbx : bx ≤ w.heap.size)
    (ho' : Own w2 B TM v' (vs ++ [x])) (hg : w.grownBy w2 v.ownBlock) (hob : v'.ownBlock = v.ownBlock ∨ v'.ownBlock = some w.heap.size) (hT : T ≠ TM) (hU : U ≠ TM) : OS w2 B w2.heap.size TM T U v' (mss ++ [xss]) := by
  have hsz := hg.size
  refine ⟨vs ++ [x], fun i => if i < vs.length then Bs i else bx, fun i => if i < vs.length then Es i else ex, ho', by simp [h2], fun g hg' => (ho'.lt g hg').2, fun i u zss hu hz => ?_, fun i hi => ?_, fun i g hi hg' => ?_, fun i j hi hj hij => ?_⟩
  · rw [List.getElem?_append] at hu hz
    by_cases hi : i < vs.length
    · rw [if_pos hi] at hu
      rw [if_pos (by omega)] at hz
      obtain ⟨k1, k2⟩ := h4 i u zss hu hz
      simp only [if_pos hi]
      exact ⟨k1.kept_type h1 hT (fun e => hU e.symm) hg, k2⟩
    · rw [if_neg hi] at hu
      rw [if_neg (by omega)] at hz
      have h8 : i - vs.length = 0 := by
        have := (List.getElem?_eq_some_iff.1 hu).1
        simp at this; omega
      rw [h8] at hu
      rw [show i - mss.length = 0 by omega] at hz
      obtain rfl := Option.some.inj hu
      obtain rfl := Option.some.inj hz
      simp only [if_neg hi]
      exact ⟨hx.kept_type h1 hT (fun e => hU e.symm) hg, hxo⟩
  · by_cases hi2 : i < vs.length
    · simp only [if_pos hi2]
      have := h5 i hi2
      omega
    · simp only [if_neg hi2]
      omega
  · by_cases hi2 : i < vs.length
    · simp only [if_pos hi2]
      have := h5 i hi2
      rcases hob with e | e
      · exact h6 i g hi2 (e ▸ hg')
      · rw [e] at hg'
        have := Option.some.inj hg'
        omega
    · simp only [if_neg hi2]
      rcases hob with e | e
      · have := h3 g (e ▸ hg')
        omega
      · rw [e] at hg'
        have := Option.some.inj hg'
        omega
  · simp only [List.length_append, List.length_cons, List.length_nil] at hi hj
    by_cases hi2 : i < vs.length
    · by_cases hj2 : j < vs.length
      · simp only [if_pos hi2, if_pos hj2]
        exact h7 i j hi2 hj2 hij
      · simp only [if_pos hi2, if_neg hj2]
        have := h5 i hi2
        omega
    · by_cases hj2 : j < vs.length
      · simp only [if_neg hi2, if_pos hj2]
        have := h5 j hj2
        omega
      · omega
end
/-- the forms of the quotients by the first i automorphisms, as they come -/
noncomputable def qfT (ms : List (List Int)) (i : Nat) : List (List (List Int)) := (((auts ms).take i).filter fun p => decide (IsMan (quoL ms [p]))).map fun p => lst (quoL ms [p])
noncomputable def qfL (ms : List (List Int)) : List (List (List Int)) := if IsMan ms then fmsM (qfT ms (auts ms).length) else []
noncomputable def qfC (ms : List (List Int)) : Int := if IsMan ms then 0 else 1
section
variable {ms : List (List Int)}
theorem qf_1 (h : ¬ IsMan ms) : qfL ms = [] ∧ qfC ms = 1 := ⟨if_neg h, if_neg h⟩
theorem qf_2 (h : IsMan ms) : qfL ms = fmsM (qfT ms (auts ms).length) ∧ qfC ms = 0 := ⟨if_pos h, if_pos h⟩
theorem qfT_succ {i : Nat} (h : i < (auts ms).length) : qfT ms (i + 1) = qfT ms i ++ (if IsMan (quoL ms [gr (auts ms) i]) then [lst (quoL ms [gr (auts ms) i])] else []) := by
  unfold qfT
  rw [take_gr h, List.filter_append, List.map_append]
  congr 1
  by_cases hm : IsMan (quoL ms [gr (auts ms) i]) <;> simp [hm]
theorem qfT_ok (i : Nat) : ∀ m ∈ qfT ms i, IsMan m := fun m hm => by
  obtain ⟨p, hp, rfl⟩ := List.mem_map.1 hm
  have h := of_decide_eq_true (List.mem_filter.1 hp).2
  obtain ⟨f, hf, e⟩ := lst_frm (ms := quoL ms [p]) (by have := h.m0.f2; omega)
  rw [e]; exact form_man h hf
theorem qfT_le (hm : IsMan ms) (i : Nat) : (qfT ms i).length ≤ 400 := by
  have h1 := auts_le hm
  have h2 : (qfT ms i).length ≤ ((auts ms).take i).length := by unfold qfT; rw [List.length_map]; exact List.length_filter_le _ _
  rw [List.length_take] at h2
  omega
theorem qfL_len (ms : List (List Int)) : 1 + totS (qfL ms) ≤ 4000000000000000000 := by
  unfold qfL
  split
  · rename_i hm
    have h1 : (fmsM (qfT ms (auts ms).length)).length ≤ 400 := Nat.le_trans (List.Nodup.length_le_of_subset (fmsM_nodup _) fun a ha => ((fmsM_ok _).2 a).1 ha) (qfT_le hm _)
    have h2 := totS_le (c := 1000000000) (fmsM (qfT ms (auts ms).length)) fun m hin => by
      have hk := qfT_ok _ m (((fmsM_ok _).2 m).1 hin)
      have r5 := hk.m0.r5
      have f4 := hk.m0.f400
      have := tot_le (c := 400) (xss := m) (fun xs hx => by obtain ⟨q, hq, rfl⟩ := mem_gr hx; have := (hk.m0.row q hq).1; omega)
      omega
    omega
  · simp [totS]
end
end Go.Mem
namespace Go.Proofs.YtablpijnjkncfaaGreat
open Go.Mem Go.RowKit
set_option linter.unusedVariables false
set_option linter.unusedSimpArgs false

theorem SortFunc_none (v : Value) (B : Nat) (w : World) (ho : Own w B 26 v []) :
    Ret Tryz.prog 95 #[v, .func (.func 96) #[] #[]] w fun r w' => w' = w := by
  have key : ∀ (p : Option Addr) (cap : Nat), Ret Tryz.prog 95 #[.slice p 0 cap, .func (.func 96) #[] #[]] w fun r w' => w' = w := fun p cap => by
    have hcon := AnyF.slices_SortFunc_none Tryz.laysSortF p cap (.func (.func 96) #[] #[]) w
    change Calls Tryz.prog 95 _ _ _ at hcon
    refine Calls.mono hcon ?_
    rintro e w' ⟨he, hw⟩
    subst he
    exact ⟨_, rfl, hw⟩
  rcases ho with ⟨rfl, _⟩ | ⟨g, off, cap, cur, rfl, _⟩
  · exact key _ _
  · exact key _ _

set_option maxRecDepth 100000 in
theorem sortFormsS2_any (v : Value) (mss : List (List (List Int))) (B E : Nat) (w : World) (ho : OS w B E 26 32 2 v mss) (hm1 : ∀ m ∈ mss, 1 ≤ m.length) (hl : mss.length ≤ 1000000) :
    Ret Tryz.prog 58 #[v] w fun r w' => OS w' B E 26 32 2 r (fmsM mss) ∧ w.grownBy w' v.ownBlock := by
  by_cases hne : mss = []
  rotate_left
  · exact sortFormsS_any v mss B E w ho hm1 hne hl
  subst hne
  obtain ⟨vs, Bs, Es, h1, h2, h3, _⟩ := ho.out
  obtain rfl : vs = [] := List.eq_nil_of_length_eq_zero h2
  refine enter1 7 Tryz.func58 rfl Tryz.ntmps58 rfl (fun fr => ?_)
  refine go ?_
  refine s_call2 (wn rfl) rfl rfl rfl (SortFunc_none v B w h1) ?_
  rintro _ _ rfl
  refine go ?_
  refine s_call2 (wn rfl) rfl rfl rfl (CompactFunc_any v [] [] B _ h1 (Els.nil _ _ _) (by simp)) ?_
  rintro r w2 ⟨ho2, hg2, hob⟩
  refine go ?_
  exact end_one Tryz.results58 rfl ⟨⟨[], fun _ => 0, fun _ => 0, by simpa [kp] using ho2, rfl, fun g hg => h3 g (hob g hg), by simp, by simp, by simp, by simp⟩, hg2⟩

set_option maxHeartbeats 16000000 in
set_option maxRecDepth 100000 in
theorem implQuotientForms_any (v : Value) (ms : List (List Int)) (w : World) (hv : RL w v ms) :
    Ret Tryz.prog 18 #[.agg #[v]] w fun r w' => ∃ x, r = .tuple #[x, .int .i64 (qfC ms)] ∧ OS w' w.heap.size w'.heap.size 26 32 2 x (qfL ms) ∧ Below w.heap.size w w' := by
  have sv := hv.sv
  refine enter1 32 Tryz.func18 rfl Tryz.ntmps18 rfl (fun fr => ?_)
  refine go ?_
  refine s_box (wn rfl) rfl rfl (agg_cells sv) (fun w1 hbx _ hp1 hg => ?_)
  have hb := below_of_grownBy hg
  have hv := hv.below hb
  generalize hpe : (⟨w.heap.size, 0, none⟩ : Addr) = p at *
  refine go ?_
  refine s_call1 (wn rfl) rfl rfl (isManiplex_any _ _ _ hv) ?_
  rintro _ w2 ⟨rfl, hb2⟩
  have hb := hb.trans (hb2.mono hb.size)
  have hbx := cell_below hbx hb2
  have hv := hv.below hb2
  refine splitb (decide (IsMan ms)) (fun hm => ?_) (fun hm => ?_)
  rotate_left
  · have e := qf_1 (of_decide_eq_false hm)
    refine go ?_
    exact end_two Tryz.results18 rfl rfl ⟨_, by rw [e.2], by rw [e.1]; exact OS.nil _ _ _ _ _ _, hb⟩
  have hm' := of_decide_eq_true hm
  have hal := auts_le hm'
  refine go ?_
  refine s_call2 (wn rfl) rfl rfl rfl (coveringsOf_any _ _ _ _ _ hv hv hm' hm') ?_
  rintro cv wA ⟨hcv, hbA⟩
  have hv := hv.below hbA
  have hbx := cell_below hbx hbA
  have hbW := hb.trans (hbA.mono hb.size)
  have zW := hbW.size
  have eA : covers ms ms (nf ms) = auts ms := rfl
  rw [eA] at hcv
  have hcr := hcv.rl
  have scv := hcr.sv
  refine go ?_
  refine w_loop (fun kk fr w' => ∃ (i : Nat) (fv : Value), kk = (auts ms).length - i ∧ i ≤ (auts ms).length ∧ fr 1 = .pointer (some p) ∧ fr 4 = fv ∧ fr 13 = cv ∧ fr 14 = .int .i64 (auts ms).length ∧ fr 15 = .int .i64 i ∧
      OS w' wA.heap.size w'.heap.size 26 32 2 fv (qfT ms i) ∧ Below wA.heap.size wA w') (auts ms).length
    ⟨0, _, rfl, Nat.zero_le _, rfl, rfl, rfl, rfl, rfl, OS.nil _ _ _ _ _ _, Below.refl _ _⟩ ?_
  rintro kk fr w3 ⟨i, fv, rfl, hi, f1, f4, f13, f14, f15, hos, hb3⟩
  have z3 := hb3.size
  have hv3 := hv.below hb3
  have hbx3 := cell_below hbx hb3
  have hcr3 := hcr.below hb3
  refine know (t := 1) f1 ?_; refine know (t := 4) f4 ?_; refine know (t := 13) f13 ?_; refine know (t := 14) f14 ?_; refine know (t := 15) f15 ?_
  refine go ?_
  refine cond_dec rfl (fun hlt => ?_) (fun hge => ?_)
  · have hil : i < (auts ms).length := by omega
    obtain ⟨u, hu, hcu⟩ := hcr3.row (j := (i : Int)) (by omega) hlt
    have hHom := (mem_auts hm').1 (gr_in hil)
    have hsu := qfT_succ hil
    have hle := qfT_le hm' i
    generalize hpp : gr (auts ms) i = pp at *
    refine go ?_
    refine s_build1V (B := w3.heap.size) (wn rfl) rfl rfl hu.sv.one (Nat.le_refl _) (fun tb w4 ht st hg4 _ => ?_)
    have hb4 := below_of_grownBy hg4
    have hrt : RL w4 tb [pp] := ⟨[u], ht.rd, rfl, fun q a xs ha hx => by
      match q, ha, hx with
      | 0, ha, hx =>
        obtain rfl := Option.some.inj ha
        obtain rfl := Option.some.inj hx
        exact hu.below hb4⟩
    refine go ?_
    refine s_call2 (wn rfl) rfl rfl rfl (quotient_any _ _ _ _ _ _ (hv3.below hb4) (cell_below hbx3 hb4) hrt hm' (fun q hq => by rw [List.mem_singleton.1 hq]; exact hHom) (by simp)) ?_
    rintro _ w5 ⟨y, rfl, hy, hb5⟩
    have hb45 := hb4.trans (hb5.mono hb4.size)
    refine go ?_
    refine s_alloc (B := w5.heap.size) (wn rfl) rfl (Nat.le_refl _) (fun w6 p7 h7 hg6 _ => ?_)
    have hb6 := below_of_grownBy hg6
    refine go ?_
    refine s_storeBox (wn rfl) rfl rfl hy.sv.one h7 (fun w7 h77 hg7 => ?_)
    have hb57 := hb6.trans (h7.below_of hg7 hb6.size)
    have hy7 := hy.rl.below hb57
    have hc7 := h77.cell
    have hb37 := hb45.trans (hb57.mono hb45.size)
    refine go ?_
    refine s_call1 (wn rfl) rfl rfl (isManiplex_any _ _ _ hy7) ?_
    rintro _ w8 ⟨rfl, hb8⟩
    have hy8 := hy7.below hb8
    have hc8 := cell_below hc7 hb8
    have hb38 := hb37.trans (hb8.mono hb37.size)
    refine splitb (decide (IsMan (quoL ms [pp]))) (fun hq => ?_) (fun hq => ?_)
    · have hq' := of_decide_eq_true hq
      rw [if_pos hq'] at hsu
      refine go ?_
      refine s_call1 (wn rfl) rfl rfl (leastForm_any _ _ _ hy8 hq') ?_
      rintro _ w9 ⟨z, rfl, hz, hb9⟩
      have hb39 := hb38.trans (hb9.mono hb38.size)
      refine go ?_
      refine s_buildE (B := w9.heap.size) [z] (wn rfl) rfl rfl (by decide) rfl (by simpa using hz.sv.one) (Nat.le_refl _) (fun tc w10 htc hg10 _ => ?_)
      have hb10 := below_of_grownBy hg10
      have hz10 := hz.below hb10
      have hb310 := hb39.trans (hb10.mono hb39.size)
      have z10 := hb310.size
      have z9 := hb39.size
      have z8 := hb38.size
      have z910 := hb10.size
      have z89 := hb9.size
      have hos10 := hos.below hb310
      obtain ⟨vs, Bs, Es, h1, h2, h3, h4, h5, h6, h7'⟩ := hos10.out
      refine go ?_
      refine s_appendE (wn rfl) rfl rfl rfl h1 htc.rd (by simpa using hz.sv.one) (by simp; omega) (by omega) (fun fv' w11 ho11 hg11 hown => ?_)
      have hos11 := OS.snoc h1 h2 h3 h4 h5 h6 h7' hz10 (fun g hg => (hz.ownlt g hg).2) (by omega) (by omega) (by omega) (by omega) ho11 hg11 hown (by decide) (by decide)
      have hb11 := (hb3.trans (hb310.mono z3)).trans (grownBy_below hg11 (by omega) (fun g hg => (h1.lt g hg).1))
      refine go ?_
      exact ⟨(auts ms).length - (i + 1), by omega, i + 1, fv', rfl, by omega, rfl, rfl, rfl, rfl, rfl, by rw [hsu]; exact hos11, hb11⟩
    · have hq' := of_decide_eq_false hq
      rw [if_neg hq', List.append_nil] at hsu
      have z8 := hb38.size
      refine go ?_
      exact ⟨(auts ms).length - (i + 1), by omega, i + 1, fv, rfl, by omega, rfl, rfl, rfl, rfl, rfl, by rw [hsu]; exact (hos.below hb38).wide z8, hb3.trans (hb38.mono z3)⟩
  obtain rfl : i = (auts ms).length := by omega
  have e := qf_2 hm'
  have hle := qfT_le hm' (auts ms).length
  refine go ?_
  refine s_call1 (wn rfl) rfl rfl (sortFormsS2_any fv _ _ _ _ hos (fun m h => (qfT_ok _ m h).m0.r1) (by omega)) ?_
  rintro r w4 ⟨hr, hg4⟩
  obtain ⟨vs, Bs, Es, h1, _⟩ := hos.out
  have hb4 := hbW.trans ((hb3.trans (grownBy_below hg4 z3 (fun g hg => (h1.lt g hg).1))).mono zW)
  refine go ?_
  exact end_two Tryz.results18 rfl rfl ⟨_, by rw [e.2], by rw [e.1]; exact (hr.mono zW).wide hg4.size, hb4⟩
end Go.Proofs.YtablpijnjkncfaaGreat

/- Contracts: the forms of sections (the program's side), each in blocks of its own. -/
namespace Go.Proofs.YtablpijnjkncfaaGreat
open Go.Mem Go.RowKit
set_option linter.unusedVariables false
set_option linter.unusedSimpArgs false

set_option maxHeartbeats 16000000 in
set_option maxRecDepth 100000 in
theorem sectionFormsS_any (v : Value) (pv : Addr) (ms : List (List Int)) (i k : Int) (w : World) (hv : RL w v ms) (hxv : w.cell? pv = some v) (hm : IsMan ms) (hi : 0 ≤ i ∧ i ≤ k ∧ k < ms.length) :
    Ret Tryz.prog 62 #[.pointer (some pv), .int .i64 i, .int .i64 k] w fun r w' => ∃ x y, r = .tuple #[x, y] ∧ OS w' w.heap.size w'.heap.size 26 32 2 x (secF (nf ms) ((ms.take (k + 1).toNat).drop i.toNat)) ∧
      OI w' w.heap.size 2 y (secK (nf ms) ((ms.take (k + 1).toNat).drop i.toNat)) ∧ Below w.heap.size w w' := by
  have shv := hv.sv
  have r5 := hm.m0.r5
  have r1 := hm.m0.r1
  have f4 := hm.m0.f400
  have f2 := hm.m0.f2
  have hlk : Like (nf ms) ((ms.take (k + 1).toNat).drop i.toNat) := (hm.like.take (by omega)).drop (by simp; omega)
  refine enter3 85 Tryz.func62 rfl Tryz.ntmps62 rfl (fun fr => ?_)
  refine go ?_
  obtain ⟨vsr, gr1, gr2, _⟩ := hv.out
  refine s_p (wn rfl) rfl (y_cut rfl rfl rfl gr1 (by omega) (by omega) (by omega)) ?_
  have hrl := hv.cut (l := i.toNat) (r := (k + 1).toNat) (by omega) (by omega)
  generalize (ms.take (k + 1).toNat).drop i.toNat = A at *
  generalize cut v i.toNat (k + 1).toNat = cv at *
  have sv2 := hrl.sv
  have hA5 := hlk.r5
  have hA1 := hlk.r1
  have hsym : Sym (nf ms) A := hlk.sym (fun m h => h)
  have hL := labs_all hsym (by omega)
  have hc0 := hL.c0
  have hll := hL.len
  have hm1 := labc_posL hL (by omega)
  have hman := secO_ok hlk (by omega)
  refine go ?_
  refine s_call1 (wn rfl) rfl rfl (flags_any _ _ _ _ hxv hv r1) ?_
  rintro _ _ ⟨rfl, rfl⟩
  refine go ?_
  refine s_call2 (wn rfl) rfl rfl rfl (orbitLabels_any _ _ _ _ hrl hsym (by omega) (by omega)) ?_
  rintro _ wA ⟨lb, rfl, hx, hbA⟩
  have hrlA := hrl.below hbA
  have sx := hx.sv
  have scx := sx.le
  have zA := hbA.size
  obtain ⟨m, hmm⟩ : ∃ m : Nat, labc (nf ms) A = m := ⟨_, (Int.toNat_of_nonneg hc0.1).symm⟩
  have hmn : (labc (nf ms) A).toNat = m := by omega
  have hso := secO_len (n := nf ms) (A := A)
  rw [hmm]
  refine go ?_
  refine s_makeE (B := wA.heap.size) (wn rfl) rfl rfl rfl (by omega) (by omega) (Nat.le_refl _) (fun x wB hX hgB _ => ?_)
  have hbB := below_of_grownBy hgB
  have zB := hbB.size
  rw [show ((m : Int)).toNat = m by omega] at hX
  refine go ?_
  refine s_allocC (B := wA.heap.size) (wn rfl) rfl zB (fun wC p11 h11 hgC hpC => ?_)
  have hbC := hbB.trans ((below_of_grownBy hgC).mono zB)
  have hXC := hX.below (below_of_grownBy hgC)
  have zC := hbC.size
  refine go ?_
  refine s_storeFld (wn rfl) rfl rfl hXC.sv.one h11 (fun wD h11D hgD => ?_)
  have hbD := hbC.trans (h11.below_of hgD zC)
  have hXD := hXC.kept hgD (.inr (hXC.apart_boxE h11 (by decide)))
  clear hX hXC h11
  refine go ?_
  refine w_loop (fun kk fr w' => ∃ (o : Nat) (vs : List Value), kk = m - o ∧ o ≤ m ∧ fr 8 = cv ∧ fr 9 = lb ∧ fr 10 = .int .i64 m ∧ fr 11 = .pointer (some p11) ∧ fr 37 = .int .i64 m ∧ fr 38 = .int .i64 o ∧
      vs.length = m ∧ Own w' wA.heap.size 26 x vs ∧ Els w' 32 2 (vs.take o) ((secO (nf ms) A).take o) ∧ Bx w' wA.heap.size p11 43 x ∧ Below wA.heap.size wA w') m
    ⟨0, _, rfl, Nat.zero_le _, rfl, rfl, rfl, rfl, rfl, rfl, by simp, hXD, Els.nil _ _ _, h11D, hbD⟩ ?_
  clear hXD h11D
  rintro kk fr w1 ⟨o, vs, rfl, ho, f8, f9, f10, f11, f37, f38, hvl, hX, hE, h11, hb⟩
  have hrl1 := hrlA.below hb
  have hx1 := hx.below hb
  have z1 := hb.size
  refine know (t := 8) f8 ?_; refine know (t := 9) f9 ?_; refine know (t := 10) f10 ?_; refine know (t := 11) f11 ?_; refine know (t := 37) f37 ?_; refine know (t := 38) f38 ?_
  refine go ?_
  refine cond_dec rfl (fun hlt => ?_) (fun hge => ?_)
  · have hom : o < (labc (nf ms) A).toNat := by omega
    obtain ⟨i0, i1⟩ := idx_rng hL hom
    have hfm := frm_man hlk ⟨i0, i1⟩
    have hc11 := h11.cell
    have sX := hX.sv
    rw [hvl] at sX
    refine go ?_
    refine region_hS (fun w' => w'.cell? p11 = some x) mixed (fun w2 cr => ?_)
    have cr0 := cr
    replace hrl1 := hrl1.below cr
    replace hx1 := hx1.below cr
    replace hc11 := cell_below hc11 cr
    refine h_p 0 hc11 ?_ (hrun := fun w' h => yl)
    refine h_p 1 hc11 ?_ (hrun := fun w' h => yl)
    refine h_p 2 hc11 ?_ (hrun := fun w' h => yl)
    refine h_p 3 hc11 ?_ (hrun := fun w' h => yl)
    refine h_p 4 hc11 ?_ (hrun := fun w' h => yl)
    refine h_one 5 ?_
    refine s_call2 (wn rfl) rfl rfl rfl (Index_any _ _ _ _ hx1.il) ?_
    rintro _ _ ⟨rfl, rfl⟩
    refine w_nil ?_
    refine h_on ⟨hc11, ?_⟩
    refine h_one 6 ?_
    refine s_call2 (wn rfl) rfl rfl rfl (formFrom_any _ _ _ _ _ hrl1 hlk.syst ⟨i0, i1⟩ hA1 (by omega) (by omega)) ?_
    rintro _ w3 ⟨x3, rfl, ho3, hb3⟩
    have cr3 := cr.trans (hb3.mono cr.size)
    replace hc11 := cell_below hc11 hb3
    refine w_nil ?_
    refine h_on ⟨hc11, ?_⟩
    refine h_one 7 ?_
    refine s_call1 (wn rfl) rfl rfl (leastForm_any _ _ _ ho3.rl hfm) ?_
    rintro _ w4 ⟨x4, rfl, ho4, hb4⟩
    have cr4 := cr3.trans (hb4.mono cr3.size)
    replace hc11 := cell_below hc11 hb4
    refine w_nil ?_
    refine h_on ⟨hc11, ?_⟩
    have hX4 := hX.below cr4
    have hE4 := hE.below cr4
    have h114 := h11.below cr4
    refine h_p 8 hc11 ?_ (hrun := fun w' h => y_idxSE rfl rfl sX (by omega) (by omega))
    rw [show ((o : Int)).toNat = o by omega]
    refine h_one 9 ?_
    refine s_storeE (wn rfl) rfl rfl ho4.sv.one hX4 (by omega) (fun w5 hX5 hg5 => ?_)
    have h115 := h114.kept hg5 (hX4.apart_boxE h114 (by decide))
    have hE5 := (hE4.kept hX4 (by decide) (by decide) hg5).app (Els.single (ho4.kept_type hX4 (by decide) (by decide) hg5))
    have hb5 := (hb.trans (cr4.mono z1)).trans (grownBy_below hg5 (by have := cr4.size; omega) (fun g hg => (hX4.lt g hg).1))
    refine w_nil ?_
    refine h_on ⟨h115.cell, ?_⟩
    refine h_nil ?_
    refine go ?_
    refine ⟨m - (o + 1), by omega, o + 1, vs.set o x4, rfl, by omega, rfl, rfl, rfl, rfl, rfl, rfl, by simp [hvl], hX5, ?_, h115, hb5⟩
    rw [secO_take hom]
    have e : (vs.set o x4).take (o + 1) = vs.take o ++ [x4] := by
      rw [List.take_succ_eq_append_getElem (by simp; omega), List.take_set_of_le (Nat.le_refl _)]
      simp
    rw [e]
    exact hE5
  obtain rfl : o = m := by omega
  rw [List.take_of_length_le (by omega), List.take_of_length_le (by omega)] at hE
  have hc11 := h11.cell
  -- the forms sorted, each once
  refine go ?_
  refine s_call1 (wn rfl) rfl rfl (CloneM_any _ _ _ _ hX hE.one (by omega)) ?_
  rintro cl w2 ⟨hcl, hb2⟩
  have hE2 := hE.below hb2
  have hX2 := hX.below hb2
  have h112 := h11.below hb2
  refine go ?_
  refine s_call1 (wn rfl) rfl rfl (sortForms_any cl vs _ _ _ hcl hE2 (fun a ha => (hman a ha).m0.r1) (by intro e; rw [e] at hvl; simp at hvl; omega) (by omega)) ?_
  rintro so w3 ⟨us, hso3, hEs, hg3⟩
  have hb3 : Below w1.heap.size w1 w3 := hb2.trans (grownBy_below hg3 hb2.size (fun g hg => (hcl.lt g hg).1))
  have hX3 := hX.below hb3
  have hE3 := hE.below hb3
  have h113 := h11.below hb3
  have hlb3 := hx1.below hb3
  have hbA3 := hb.trans (hb3.mono z1)
  have z3 := hbA3.size
  have sso := hso3.sv
  have hul := hEs.len
  have hFl := secF_le (n := nf ms) (A := A)
  have hsF : fmsM (secO (nf ms) A) = secF (nf ms) A := rfl
  rw [hsF] at hEs hul
  clear hX hE h11 hX2 hE2 h112 hcl hg3 hx1 hrl1 hc11
  have hc113 := h113.cell
  -- which form each flag's is
  refine go ?_
  refine s_makeI (B := w3.heap.size) (wn rfl) rfl rfl rfl (by omega) (by omega) (Nat.le_refl _) (fun ky w4 hk4 sk hg4 _ => ?_)
  have hb4 := below_of_grownBy hg4
  have hkl : (secK (nf ms) A).length = nf ms := by simp [secK, hll]
  rw [hll, show ((nf ms : Int)).toNat = nf ms by omega] at hk4
  refine go ?_
  refine w_loop (fun kk fr w' => ∃ (t : Nat), kk = nf ms - t ∧ t ≤ nf ms ∧ fr 9 = lb ∧ fr 11 = .pointer (some p11) ∧ fr 13 = so ∧ fr 14 = ky ∧ fr 57 = lb ∧ fr 58 = .int .i64 (nf ms) ∧ fr 59 = .int .i64 t ∧
      OI w' w3.heap.size 2 ky ((secK (nf ms) A).take t ++ List.replicate (nf ms - t) 0) ∧ Below w3.heap.size w3 w') (nf ms)
    ⟨0, rfl, Nat.zero_le _, rfl, rfl, rfl, rfl, rfl, by show Value.int _ _ = _; rw [hll], rfl, by simpa using hk4, hb4⟩ ?_
  rintro kk fr w5 ⟨t, rfl, ht, f9, f11, f13, f14, f57, f58, f59, hky, hb5⟩
  have hlb5 := hlb3.below hb5
  have sky := hky.sv
  have skl : ((secK (nf ms) A).take t ++ List.replicate (nf ms - t) 0).length = nf ms := by simp [hkl]; omega
  refine know (t := 9) f9 ?_; refine know (t := 11) f11 ?_; refine know (t := 13) f13 ?_; refine know (t := 14) f14 ?_; refine know (t := 57) f57 ?_; refine know (t := 58) f58 ?_; refine know (t := 59) f59 ?_
  refine go ?_
  refine cond_dec rfl (fun hlt => ?_) (fun hge => ?_)
  · have hgl := hL.rng t (by omega) (by omega)
    have hgd := hL.done t (by omega) (by omega) (by omega)
    refine go ?_
    refine s_allocC (B := w3.heap.size) (wn rfl) rfl hb5.size (fun w6 p16 h16 hg6 hp6 => ?_)
    have hb6 := below_of_grownBy hg6
    have hky6 := hky.below hb6
    have hb56 := hb5.trans (hb6.mono hb5.size)
    refine go ?_
    refine s_storeFld (wn rfl) rfl rfl rfl h16 (fun w7 h167 hg7 => ?_)
    have hky7 : OI w7 w3.heap.size 2 ky _ := ⟨hky6.own.kept hg7 (.inr (fun e => by
      have h1 := (hky.own.lt _ e).2
      omega))⟩
    have hb7 := hb56.trans (h16.below_of hg7 hb56.size)
    have hc16 := h167.cell
    have hc11 := cell_below hc113 hb7
    have hso7 := hso3.below hb7
    have hEs7 := hEs.below hb7
    have hX7 := hX3.below hb7
    have hE7 := hE3.below hb7
    refine go ?_
    refine s_p (wn rfl) rfl (y_fn2 rfl rfl) ?_
    refine go ?_
    refine s_call2 (wn rfl) rfl rfl rfl (IndexFuncM_any 106 _ (fun m' => decide (m' = (secO (nf ms) A).getD (gi (labs (nf ms) A) t).toNat [])) so _ _ _ _ hso7 hEs7
      (fun w' u m' hbw hin hu => sectionForms1_any u m' p11 p16 x _ _ _ _ w' hu (cell_below hc11 hbw) (cell_below hc16 hbw) (hX7.below hbw) (hE7.below hbw) ⟨hgd, by rw [hso]; omega⟩)) ?_
    rintro _ w8 ⟨⟨kx, hkx, rfl⟩, hb8⟩
    have hin : (secO (nf ms) A).getD (gi (labs (nf ms) A) t).toNat [] ∈ secF (nf ms) A := by
      refine ((fmsM_ok (secO (nf ms) A)).2 _).2 ?_
      have h2 : (gi (labs (nf ms) A) t).toNat < (secO (nf ms) A).length := by rw [hso]; omega
      simp [List.getD, h2]
    obtain ⟨hk1, hk2⟩ := idxM_of hkx hin
    rw [if_pos hk1]
    have hky8 := hky7.below hb8
    have hb78 := hb7.trans (hb8.mono hb7.size)
    refine go ?_
    refine s_storeI (wn rfl) rfl rfl hky8 (by omega) (by omega) (fun w9 hky9 hg9 => ?_)
    have hb9 := hb78.trans (hky8.below_of hg9 hb78.size)
    have egk : gi (secK (nf ms) A) t = (kx : Int) := by
      rw [hk2]
      unfold secK
      rw [gi_map (by omega) (by rw [hll]; omega)]
    have ez := zfill_set (xs := secK (nf ms) A) (t := t) (by omega)
    rw [hkl, egk] at ez
    unfold seti at hky9
    rw [show ((t : Int)).toNat = t by omega, ez] at hky9
    refine go ?_
    exact ⟨nf ms - (t + 1), by omega, t + 1, rfl, by omega, rfl, rfl, rfl, rfl, rfl, rfl, rfl, hky9, hb9⟩
  obtain rfl : t = nf ms := by omega
  rw [Nat.sub_self, List.replicate_zero, List.append_nil, List.take_of_length_le (by omega)] at hky
  have hso5 := hso3.below hb5
  have hEs5 := hEs.below hb5
  have z5 := hb5.size
  -- their clones
  refine go ?_
  refine w_loop (fun kk fr w' => ∃ (j : Nat) (ou : Value), kk = us.length - j ∧ j ≤ us.length ∧ fr 14 = ky ∧ fr 17 = ou ∧ fr 71 = so ∧ fr 72 = .int .i64 us.length ∧ fr 73 = .int .i64 j ∧
      OS w' w5.heap.size w'.heap.size 26 32 2 ou ((secF (nf ms) A).take j) ∧ Below w5.heap.size w5 w') us.length
    ⟨0, _, rfl, Nat.zero_le _, rfl, rfl, rfl, rfl, rfl, OS.nil _ _ _ _ _ _, Below.refl _ _⟩ ?_
  rintro kk fr w6 ⟨j, ou, rfl, hj, f14, f17, f71, f72, f73, hou, hb6⟩
  have hso6 := hso5.below hb6
  have hEs6 := hEs5.below hb6
  have z6 := hb6.size
  refine know (t := 14) f14 ?_; refine know (t := 17) f17 ?_; refine know (t := 71) f71 ?_; refine know (t := 72) f72 ?_; refine know (t := 73) f73 ?_
  refine go ?_
  refine cond_dec rfl (fun hlt => ?_) (fun hge => ?_)
  · have hjl : j < us.length := by omega
    have hjF : j < (secF (nf ms) A).length := by omega
    obtain ⟨_, _, hu⟩ := hEs6.row j (us.getD j undef) ((secF (nf ms) A).getD j []) (by simp [List.getD, hjl]) (by simp [List.getD, hjF])
    have hcu : w6.cell? (addrOf so ((j : Int)).toNat) = some (us.getD j undef) := by
      rw [show ((j : Int)).toNat = j by omega]
      exact hso6.rd.cell (by simp [List.getD, hjl])
    have hinF : (secF (nf ms) A).getD j [] ∈ secF (nf ms) A := by simp [List.getD, hjF]
    have hmj := hman _ (((fmsM_ok (secO (nf ms) A)).2 _).1 hinF)
    have hrj := hu.rl
    have suj := hrj.sv
    refine go ?_
    refine s_p (wn rfl) rfl (y_idxSE rfl rfl sso (by omega) (by omega)) ?_
    refine go ?_
    refine s_alloc (B := w6.heap.size) (wn rfl) rfl (Nat.le_refl _) (fun w7 p19 h19 hg7 hp7 => ?_)
    have hb7 := below_of_grownBy hg7
    refine go ?_
    refine s_storeBox (wn rfl) rfl rfl hrj.sv.one h19 (fun w8 h198 hg8 => ?_)
    have hb8 := hb7.trans (h19.below_of hg8 hb7.size)
    have hc19 := h198.cell
    have hrj8 := hrj.below hb8
    refine go ?_
    refine s_call1 (wn rfl) rfl rfl (cloneManiplex_any _ _ _ hrj8 (by have := hmj.m0.r5; omega) (fun xs hxs => by obtain ⟨q, hq, rfl⟩ := mem_gr hxs; have := (hmj.m0.row q hq).1; have := hmj.m0.f400; omega)) ?_
    rintro _ w9 ⟨x9, rfl, ho9, hb9⟩
    have hb89 := hb8.trans (hb9.mono hb8.size)
    refine go ?_
    refine s_buildE (B := w9.heap.size) [x9] (wn rfl) rfl rfl (by decide) rfl (by simpa using ho9.sv.one) (Nat.le_refl _) (fun tb w10 ht10 hg10 _ => ?_)
    have hb10 := hb89.trans ((below_of_grownBy hg10).mono hb89.size)
    have ho10 := ho9.below (below_of_grownBy hg10)
    have z10 := hb10.size
    have z89 := hb89.size
    have z8 := hb8.size
    have z9 := hb9.size
    have z910 := hg10.size
    obtain ⟨vs, Bs, Es, h1, h2, h3, h4, h5, h6, h7⟩ := (hou.below hb10).out
    have hvl2 : vs.length ≤ us.length := by rw [h2, List.length_take]; omega
    refine go ?_
    refine s_appendE (wn rfl) rfl rfl rfl h1 ht10.rd (by simpa using ho9.sv.one) (by simp; omega) (by omega) (fun ou' w11 hou11 hg11 hown => ?_)
    have hos11 := OS.snoc h1 h2 h3 h4 h5 h6 h7 ho10 (fun g hg => (ho9.ownlt g hg).2) (by omega) (by omega) (by omega) (by omega) hou11 hg11 hown (by decide) (by decide)
    have hb6n := hb6.trans (hb10.mono hb6.size)
    have hb11 := hb6n.trans (grownBy_below hg11 hb6n.size (fun g hg => (h1.lt g hg).1))
    refine go ?_
    refine ⟨us.length - (j + 1), by omega, j + 1, ou', rfl, by omega, rfl, rfl, rfl, rfl, rfl, ?_, hb11⟩
    rw [List.take_succ_eq_append_getElem hjF]
    have e : (secF (nf ms) A).getD j [] = (secF (nf ms) A)[j] := by simp [List.getD, hjF]
    rw [← e]
    exact hos11
  obtain rfl : j = us.length := by omega
  rw [List.take_of_length_le (by omega)] at hou
  have hky6 := hky.below hb6
  have hbw := (hbA.trans (hbA3.mono zA)).trans ((hb5.trans (hb6.mono z5)).mono (by omega))
  refine go ?_
  exact end_two Tryz.results62 rfl rfl ⟨_, _, rfl, hou.mono (by omega), hky6.mono (by omega), hbw⟩
end Go.Proofs.YtablpijnjkncfaaGreat

/- Contracts: SectionForms, on both sides. -/
namespace Go.Mem
open Go.RowKit
set_option linter.unusedVariables false
noncomputable def sfL (ms : List (List Int)) (i k : Int) : List (List (List Int)) := if IsMan ms ∧ SecOk ms i k then secF (nf ms) (secA ms i k) else []
section
variable {ms : List (List Int)} {i k : Int}
theorem sf_no (h : ¬ (IsMan ms ∧ SecOk ms i k)) : sfL ms i k = [] := if_neg h
theorem sf_yes (hm : IsMan ms) (h : SecOk ms i k) : sfL ms i k = secF (nf ms) (secA ms i k) := if_pos ⟨hm, h⟩
theorem secA_like (hm : IsMan ms) (h : SecOk ms i k) : Like (nf ms) (secA ms i k) := by
  obtain ⟨h1, h2, h3⟩ := h
  exact (hm.like.take (by omega)).drop (by simp; omega)
theorem secF_ok (hm : IsMan ms) (h : SecOk ms i k) : (secF (nf ms) (secA ms i k)).length ≤ 400 ∧ ∀ m ∈ secF (nf ms) (secA ms i k), IsMan m := by
  have hlk := secA_like hm h
  have h4 := hm.m0.f400
  have f2 := hm.m0.f2
  have hL := (labs_all (hlk.sym fun m h => h) (by omega)).c0
  have hl := secF_le (n := nf ms) (A := secA ms i k)
  exact ⟨by omega, fun m hin => secO_ok hlk (by omega) m (((fmsM_ok _).2 m).1 hin)⟩
theorem sfL_len (ms : List (List Int)) (i k : Int) : 1 + totS (sfL ms i k) ≤ 4000000000000000000 := by
  unfold sfL
  split
  · rename_i hh
    obtain ⟨h1, h0⟩ := secF_ok hh.1 hh.2
    have h2 := totS_le (c := 1000000000) (secF (nf ms) (secA ms i k)) fun m hin => by
      have hk := h0 m hin
      have r5 := hk.m0.r5
      have f4 := hk.m0.f400
      have := tot_le (c := 400) (xss := m) (fun xs hx => by obtain ⟨q, hq, rfl⟩ := mem_gr hx; have := (hk.m0.row q hq).1; omega)
      omega
    omega
  · simp [totS]
end
end Go.Mem
namespace Go.Proofs.YtablpijnjkncfaaGreat
open Go.Mem Go.RowKit
set_option linter.unusedVariables false
set_option linter.unusedSimpArgs false
set_option maxHeartbeats 8000000 in
set_option maxRecDepth 100000 in
theorem implSectionForms_any (v : Value) (ms : List (List Int)) (i k : Int) (w : World) (hv : RL w v ms) :
    Ret Tryz.prog 25 #[.agg #[v], .int .i64 i, .int .i64 k] w fun r w' => ∃ y, r = .tuple #[y, .int .i64 (skC ms i k)] ∧ OS w' w.heap.size w'.heap.size 26 32 2 y (sfL ms i k) ∧ Below w.heap.size w w' := by
  have sv := hv.sv
  refine enter3 26 Tryz.func25 rfl Tryz.ntmps25 rfl (fun fr => ?_)
  refine go ?_
  refine s_box (wn rfl) rfl rfl (agg_cells sv) (fun w1 hbx _ hp1 hg => ?_)
  have hb := below_of_grownBy hg
  have hv := hv.below hb
  generalize hpe : (⟨w.heap.size, 0, none⟩ : Addr) = p at *
  refine go ?_
  refine s_call1 (wn rfl) rfl rfl (isManiplex_any _ _ _ hv) ?_
  rintro _ w2 ⟨rfl, hb2⟩
  have hb := hb.trans (hb2.mono hb.size)
  have hbx := cell_below hbx hb2
  have hv := hv.below hb2
  refine splitb (decide (IsMan ms)) (fun hm => ?_) (fun hm => ?_)
  rotate_left
  · have hm' := of_decide_eq_false hm
    have e := sk_1 (i := i) (k := k) hm'
    have e1 := sf_no (ms := ms) (i := i) (k := k) (fun h => hm' h.1)
    refine go ?_
    exact end_two Tryz.results25 rfl rfl ⟨_, by rw [e.2], by rw [e1]; exact OS.nil _ _ _ _ _ _, hb⟩
  have hm' := of_decide_eq_true hm
  refine go ?_
  refine s_call3 (wn rfl) rfl rfl rfl rfl (areRanks_any _ _ _ _ _ _ hv hbx hm'.m0.r5) ?_
  rintro _ _ ⟨rfl, rfl⟩
  refine splitb (decide (SecOk ms i k)) (fun hs => ?_) (fun hs => ?_)
  rotate_left
  · have hs' := of_decide_eq_false hs
    have e := sk_2 hm' hs'
    have e1 := sf_no (ms := ms) (i := i) (k := k) (fun h => hs' h.2)
    refine go ?_
    exact end_two Tryz.results25 rfl rfl ⟨_, by rw [e.2], by rw [e1]; exact OS.nil _ _ _ _ _ _, hb⟩
  have hs' := of_decide_eq_true hs
  have e := sk_3 hm' hs'
  have e1 := sf_yes hm' hs'
  refine go ?_
  refine s_call3 (wn rfl) rfl rfl rfl rfl (sectionFormsS_any _ _ _ _ _ _ hv hbx hm' hs') ?_
  rintro _ w3 ⟨x, y, rfl, hx, hy, hb3⟩
  have hbz := hb.trans (hb3.mono hb.size)
  refine go ?_
  exact end_two Tryz.results25 rfl rfl ⟨_, by rw [e.2], by rw [e1]; exact hx.mono hb.size, hbz⟩

end Go.Proofs.YtablpijnjkncfaaGreat

/- Contracts: SectionAt at good arguments; HasEqualFacets. -/
namespace Go.Mem
open Go.RowKit
set_option linter.unusedVariables false
noncomputable def hfB (ms : List (List Int)) : Bool := decide (IsMan ms ∧ ms.length ≠ 1 ∧ (secF (nf ms) (secA ms 0 ((ms.length : Int) - 2))).length = 1)
noncomputable def hfC (ms : List (List Int)) : Int := if IsMan ms then (if ms.length = 1 then 5 else 0) else 1
section
variable {ms : List (List Int)}
theorem hf_1 (h : ¬ IsMan ms) : hfB ms = false ∧ hfC ms = 1 := ⟨decide_eq_false fun e => h e.1, if_neg h⟩
theorem hf_2 (hm : IsMan ms) (h : ms.length = 1) : hfB ms = false ∧ hfC ms = 5 := ⟨decide_eq_false fun e => e.2.1 h, by unfold hfC; rw [if_pos hm, if_pos h]⟩
theorem hf_3 (hm : IsMan ms) (h : ms.length ≠ 1) : hfB ms = decide ((secF (nf ms) (secA ms 0 ((ms.length : Int) - 2))).length = 1) ∧ hfC ms = 0 := ⟨by unfold hfB; rw [decide_eq_decide]; exact ⟨fun e => e.2.2, fun e => ⟨hm, h, e⟩⟩, by unfold hfC; rw [if_pos hm, if_neg h]⟩
end
end Go.Mem
namespace Go.Proofs.YtablpijnjkncfaaGreat
open Go.Mem Go.RowKit
set_option linter.unusedVariables false
set_option linter.unusedSimpArgs false
end Go.Proofs.YtablpijnjkncfaaGreat
