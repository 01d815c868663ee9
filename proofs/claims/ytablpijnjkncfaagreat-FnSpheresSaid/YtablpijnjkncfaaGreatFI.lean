/- Texts laid together: F60 F61. -/
import Derived.Test.YtablpijnjkncfaaGreatFH
import Derived.Test.YtablpijnjkncfaaGreatTw
import Derived.Test.YtablpijnjkncfaaGreatRA
import Derived.Test.YtablpijnjkncfaaGreatF46
/- Contracts: a maniplex drawn, seldom spoilt. -/
namespace Go.Mem
open Go.RowKit
/-- a row has been written, and may have moved -/
theorem OM.rowA {w : World} {B E : Nat} {T U : TypeId} {v : Value} {xss : List (List Int)} (h : OM w B E T U v xss) (hT : T ≠ U) (hE : E ≤ w.heap.size) {j : Int} (h0 : 0 ≤ j) (hj : j < xss.length) :
    ∃ u us, OI w B U u (gr xss j) ∧ w.cell? (addrOf v j.toNat) = some u ∧ Own w B T v us ∧ j.toNat < us.length ∧
      ∀ w1 u' ys, OI w1 B U u' ys → w.grownBy w1 u.ownBlock → (u'.ownBlock = u.ownBlock ∨ u'.ownBlock = some w.heap.size) →
        Own w1 B T v us ∧ ∀ w2, Own w2 B T v (us.set j.toNat u') → w1.grownBy w2 v.ownBlock → OM w2 B w2.heap.size T U v (xss.set j.toNat ys) := by
  obtain ⟨us, h1, h2⟩ := h.rws
  have hlt : j.toNat < us.length := by rw [h2.len]; omega
  have hu : us[j.toNat]? = some us[j.toNat] := by simp [hlt]
  have hy : xss[j.toNat]? = some (gr xss j) := by
    have : j.toNat < xss.length := by omega
    simp [gr, List.getD, this]
  have hrow := h2.row j.toNat _ _ hu hy
  refine ⟨us[j.toNat], us, hrow, h1.rd.cell hu, h1, hlt, fun w1 u' ys hn hg hb => ?_⟩
  have k1 := h1.kept hg (h1.apart_type hrow.own hT)
  have k3 := h2.set hu hn hg hE hb
  exact ⟨k1, fun w2 ho hg2 => ((k3.turn' k1 hT hg2).mono' (Nat.le_refl _) hg2.size).om ho⟩
/-- the rows from the second one on -/
theorem OM.tail {w : World} {B E : Nat} {T U : TypeId} {v : Value} {xss : List (List Int)} (h : OM w B E T U v xss) (h1 : 1 ≤ xss.length) : OM w B E T U (cut v 1 xss.length) (xss.drop 1) := by
  obtain ⟨vs, k1, k2⟩ := h.rws
  have hl := k2.len
  have k3 : Rws w B E U (vs.drop 1) (xss.drop 1) := by
    refine ⟨fun a ha => k2.one a (List.mem_of_mem_drop ha), by simp [hl], fun i a zs ha hz => ?_, fun i a ha => ?_, fun i j a b hij ha hb => ?_⟩
    · rw [List.getElem?_drop] at ha hz; exact k2.row _ a zs ha hz
    · rw [List.getElem?_drop] at ha; exact k2.lt _ a ha
    · rw [List.getElem?_drop] at ha hb; exact k2.apart _ _ a b (by omega) ha hb
  refine k3.om ?_
  rcases k1 with ⟨rfl, rfl⟩ | ⟨g, off, cap, cur, rfl, hb, hg, hc, hm, ho, hx⟩
  · simp at hl; omega
  · have e1 : xss.length - 1 = (vs.drop 1).length := by simp; omega
    by_cases hc1 : cap = 1
    · -- one row: the cut is empty
      have hx1 : xss.length = 1 := by omega
      have e0 : vs.drop 1 = [] := List.drop_eq_nil_of_le (by omega)
      rw [e0, hx1]
      exact .inr ⟨g, off, 0, cur, by simp [cut, hc1], hb, hg, by simp, by omega, by omega, by simp⟩
    · exact .inr ⟨g, off + 1, cap - 1, cur, by simp [cut, Addr.add, hl]; omega, hb, hg, by simp; omega, by omega, by omega, fun i u hu => by rw [List.getElem?_drop] at hu; have := hx _ u hu; rw [Nat.add_assoc]; exact this⟩
end Go.Mem
namespace Go.Proofs.YtablpijnjkncfaaGreat
open Go.Mem Go.RowKit
set_option linter.unusedVariables false
set_option linter.unusedSimpArgs false

set_option maxHeartbeats 8000000 in
set_option maxRecDepth 100000 in
theorem l02Spoil_any (q B : Nat) (c : Value) (bs : List Int) (most : Int) (M : Nat) (w : World) (em : most = M) (h1 : 8 ≤ M) (hM : M ≤ 400) (hs : Sr w B q 94 c bs) :
    Ret Tryz.prog 59 #[.pointer (some ⟨q, 0, none⟩), .int .i64 most] w fun r w' => ∃ x xss, r = .agg #[x] ∧ OM w' w.heap.size w'.heap.size 32 2 x xss ∧ xss.length ≤ 6 ∧ (∀ xs ∈ xss, xs.length ≤ 1001) ∧ Sr w' B q 94 c bs ∧ w.grownBy w' (some q) := by
  have hql := hs.lt
  refine enter2 61 Tryz.func59 rfl Tryz.ntmps59 rfl (fun fr => ?_)
  refine go2 ?_
  refine s_alloc (B := w.heap.size) (wn rfl) rfl (by first | exact Nat.le_refl _ | omega) (fun v1 p4 hx4 hga hpp4 => ?_)
  have hba := below_of_grownBy hga
  have zv1 := hba.size
  replace hs := hs.below hba
  have hg := gr_step (grownBy_of_below (Below.refl _ _) (some q)) (grownBy_of_below hba none) (fun k hk => by cases hk)
  clear hba hga
  have hltp4 := hx4.lt
  refine go2 ?_
  refine s_call2 (wn rfl) rfl rfl rfl (l02Draw_any q B c bs most M _ em h1 hM hs) ?_
  rintro _ v2 ⟨x, xss, N, rfl, hm, hxl, hN, hy, hs', hgq⟩
  have zv2 := hgq.size
  replace hs := hs'
  replace hx4 := hx4.kept hgq (by intro e; have := Option.some.inj e; omega)
  replace hg := grownBy_trans hg hgq
  clear hgq
  replace hm := hm.mono (B' := w.heap.size) (by omega)
  refine go2 ?_
  refine s_alloc (B := w.heap.size) (wn rfl) rfl (by first | exact Nat.le_refl _ | omega) (fun v3 p5 hx5 hga hpp5 => ?_)
  have hba := below_of_grownBy hga
  have zv3 := hba.size
  replace hs := hs.below hba
  replace hx4 := hx4.below hba
  replace hm := hm.below hba
  replace hg := gr_step hg (grownBy_of_below hba none) (fun k hk => by cases hk)
  clear hba hga
  have hltp5 := hx5.lt
  refine go2 ?_
  refine s_storeBox (wn rfl) rfl rfl hm.sv.one hx5 (fun v4 hxN hgp => ?_)
  have zv4 := hgp.size
  replace hs := hs.kept hgp (fun k hk => by cases hk; exact ⟨by have := hs.low; omega, by omega⟩)
  replace hx4 := hx4.kept hgp (by intro e; have := Option.some.inj e; omega)
  replace hm := hm.box hx5 (by decide) (by decide) hgp
  replace hx5 := hxN
  replace hg := gr_step hg hgp (fun k hk => by cases hk; omega)
  clear hgp
  have hc5 := hx5.cell
  have sm := hm.sv
  have hnf := hy.nf hxl.1
  have hrl0 := hnf
  have hxb : ∀ xs ∈ xss, xs.length ≤ 400 := fun xs hx => by have := (hy xs hx).1; omega
  refine go2 ?_
  refine s_call1 (wn rfl) rfl rfl (l02Flags_any _ _ _ hm.rl hxl.1) ?_
  rintro _ v5 ⟨rfl, hbq⟩
  have zv5 := hbq.size
  replace hs := hs.below hbq
  replace hx4 := hx4.below hbq
  replace hm := hm.below hbq
  replace hx5 := hx5.below hbq
  replace hg := gr_step hg (grownBy_of_below hbq none) (fun k hk => by cases hk)
  clear hbq
  rw [hnf]
  refine go2 ?_
  refine s_call2 (wn rfl) rfl rfl rfl (l01Next_any q 40 B c bs _ hs (by omega)) ?_
  rintro _ v6 ⟨k, rfl, hk0, hk, hs', hgq⟩
  have zv6 := hgq.size
  replace hs := hs'
  replace hx4 := hx4.kept hgq (by intro e; have := Option.some.inj e; omega)
  replace hm := hm.kept hgq (by omega)
  replace hx5 := hx5.kept hgq (by intro e; have := Option.some.inj e; omega)
  replace hg := grownBy_trans hg hgq
  clear hgq
  have hk' := hk (by omega)
  have hc5 := hx5.cell
  refine go2 ?_
  refine cond_dec rfl (fun e0 => ?_) (fun e0 => ?_)
  · have hN1 := hN.1
    have hl0 : (gr xss 0).length = N := hnf
    obtain ⟨u, us, hu, hcu, hown, hlus, -⟩ := hm.top.rowA (by decide) (Nat.le_refl _) (j := 0) (by omega) (by omega)
    have su := hu.sv
    rw [hl0] at su
    have hxb0 : w.heap.size ≤ (addrOf x (0 : Int).toNat).block := (hown.lt _ (addrOf_ownBlock hown hlus)).1
    clear hown hlus us
    refine go2 ?_
    refine region_hS (fun w' => w'.cell? p5 = some x ∧ w'.cell? (addrOf x (0 : Int).toNat) = some u) mixed (fun v7 cr => ?_)
    have zv7 := cr.size
    replace hs := hs.below cr
    replace hx4 := hx4.below cr
    replace hm := hm.below cr
    replace hx5 := hx5.below cr
    replace hcu := cell_below hcu cr
    replace hu := hu.below cr
    replace hc5 := cell_below hc5 cr
    replace hg := gr_step hg (grownBy_of_below cr none) (fun k hk => by cases hk)
    refine h_p 0 ⟨hc5, hcu⟩ ?_ (hrun := fun w' h => by obtain ⟨h1, h2⟩ := h; exact yl)
    refine h_p 1 ⟨hc5, hcu⟩ ?_ (hrun := fun w' h => by obtain ⟨h1, h2⟩ := h; exact yl)
    refine h_p 2 ⟨hc5, hcu⟩ ?_ (hrun := fun w' h => by obtain ⟨h1, h2⟩ := h; exact yl)
    refine h_p 3 ⟨hc5, hcu⟩ ?_ (hrun := fun w' h => by obtain ⟨h1, h2⟩ := h; exact yl)
    refine h_p 4 ⟨hc5, hcu⟩ ?_ (hrun := fun w' h => by obtain ⟨h1, h2⟩ := h; exact yl)
    refine h_p 5 ⟨hc5, hcu⟩ ?_ (hrun := fun w' h => by obtain ⟨h1, h2⟩ := h; exact yl)
    refine h_p 7 ⟨hc5, hcu⟩ ?_ (hrun := fun w' h => by obtain ⟨h1, h2⟩ := h; exact yl)
    refine h_p 8 ⟨hc5, hcu⟩ ?_ (hrun := fun w' h => by obtain ⟨h1, h2⟩ := h; exact yl)
    refine h_two 6 9 ?_ ?_
    · refine s_call2 (wn rfl) rfl rfl rfl (l01Next_any q N B c bs _ hs (by omega)) ?_
      rintro _ v8 ⟨y, rfl, _, hy2, hs', hgq⟩
      have zv8 := hgq.size
      replace hs := hs'
      replace hx4 := hx4.kept hgq (by intro e; have := Option.some.inj e; omega)
      replace hm := hm.kept hgq (by omega)
      replace hx5 := hx5.kept hgq (by intro e; have := Option.some.inj e; omega)
      replace hcu := cell_kept hcu hgq (by intro e; have := Option.some.inj e; omega)
      replace hu := hu.kept hgq (hu.apart_blk (by omega))
      replace hc5 := cell_kept hc5 hgq (by intro e; have := Option.some.inj e; omega)
      replace hg := grownBy_trans hg hgq
      clear hgq
      have hy3 := hy2 (by omega)
      refine w_nil ?_
      refine h_on ⟨⟨hc5, hcu⟩, ?_⟩
      refine h_one 9 ?_
      refine s_buildI (B := w.heap.size) [-1, (N : Int), 0] (wn rfl) rfl rfl rfl rfl (by omega) (fun tb v9 ht st hga _ => ?_)
      have hba := below_of_grownBy hga
      have zv9 := hba.size
      replace hs := hs.below hba
      replace hx4 := hx4.below hba
      replace hm := hm.below hba
      replace hx5 := hx5.below hba
      replace hcu := cell_below hcu hba
      replace hu := hu.below hba
      replace hc5 := cell_below hc5 hba
      replace hg := gr_step hg (grownBy_of_below hba none) (fun k hk => by cases hk)
      clear hba hga
      refine w_nil ?_
      refine h_on ⟨⟨hc5, hcu⟩, ?_⟩
      refine h_one 10 ?_
      refine s_call2 (wn rfl) rfl rfl rfl (l01Pick_any q B c bs _ _ w.heap.size _ ht hql (by simp) (by simp) hs) ?_
      rintro _ v10 ⟨z, hz, rfl, hs', hgq⟩
      have zv10 := hgq.size
      replace hs := hs'
      replace hx4 := hx4.kept hgq (by intro e; have := Option.some.inj e; omega)
      replace hm := hm.kept hgq (by omega)
      replace hx5 := hx5.kept hgq (by intro e; have := Option.some.inj e; omega)
      replace hcu := cell_kept hcu hgq (by intro e; have := Option.some.inj e; omega)
      replace hu := hu.kept hgq (hu.apart_blk (by omega))
      replace hc5 := cell_kept hc5 hgq (by intro e; have := Option.some.inj e; omega)
      replace ht := ht.kept hgq (ht.apart_blk (by omega))
      replace hg := grownBy_trans hg hgq
      clear hgq
      refine w_nil ?_
      refine h_on ⟨⟨hc5, hcu⟩, ?_⟩
      refine h_p 11 ⟨hc5, hcu⟩ ?_ (hrun := fun w' h => by obtain ⟨h1, h2⟩ := h; exact yl)
      refine h_one 12 ?_
      obtain ⟨u2, hu2, hcu2, _, hset⟩ := hm.rowW (by decide) (j := 0) (by omega) (by omega)
      obtain rfl : u = u2 := by rw [hcu] at hcu2; exact Option.some.inj hcu2
      obtain ⟨u2, us, -, hcu3, hown, hlus, -⟩ := hm.top.rowA (by decide) (Nat.le_refl _) (j := 0) (by omega) (by omega)
      clear hcu3 u2
      refine s_storeI (wn rfl) rfl rfl hu2 (by omega) (by omega) (fun v11 huN hgU => ?_)
      have zU := hgU.size
      replace hc5 := cell_kept hc5 hgU (fun e => hu2.own.apart_box hx5 (by decide) e.symm)
      replace hcu := cell_kept hcu hgU (by
        intro e
        have hb1 := addrOf_ownBlock hown hlus
        rcases hown.apart_type hu2.own (by decide) with h | h
        · rw [h] at hb1; cases hb1
        · exact h (hb1.trans e))
      have hx4 := hx4.kept hgU (hu2.own.apart_box hx4 (by decide))
      have hx5 := hx5.kept hgU (hu2.own.apart_box hx5 (by decide))
      have hs := hs.kept hgU (fun k hk => by have := (hu2.lt k hk).1; have := hs.low; omega)
      have hg := gr_step hg hgU (fun k hk => (hu2.lt k hk).1)
      have hm := hset _ _ huN hgU
      refine w_nil ?_
      refine h_on ⟨⟨hc5, hcu⟩, ?_⟩
      refine h_nil ?_
      refine go2 ?_
      refine s_storeBox (wn rfl) rfl rfl hm.sv.one hx4 (fun v12 hxz hgz => ?_)
      have hmz := hm.box hx4 (by decide) (by decide) hgz
      have hsz := hs.kept hgz (fun k hk => by cases hk; exact ⟨by have := hs.low; omega, by omega⟩)
      have hgz2 := gr_step hg hgz (fun k hk => by cases hk; omega)
      refine go2 ?_
      exact end_cell Tryz.results59 rfl hxz.cell ⟨x, _, rfl, hmz.top, by simp; omega, fun xs hx => by rcases List.mem_or_eq_of_mem_set hx with h | h; (have := hxb xs h; omega); (subst h; simp; omega), hsz, hgz2⟩
    · refine s_buildI (B := w.heap.size) [-1, (N : Int), 0] (wn rfl) rfl rfl rfl rfl (by omega) (fun tb v13 ht st hga _ => ?_)
      have hba := below_of_grownBy hga
      have zv13 := hba.size
      replace hs := hs.below hba
      replace hx4 := hx4.below hba
      replace hm := hm.below hba
      replace hx5 := hx5.below hba
      replace hcu := cell_below hcu hba
      replace hu := hu.below hba
      replace hc5 := cell_below hc5 hba
      replace hg := gr_step hg (grownBy_of_below hba none) (fun k hk => by cases hk)
      clear hba hga
      refine w_nil ?_
      refine h_on ⟨⟨hc5, hcu⟩, ?_⟩
      refine h_one 6 ?_
      refine s_call2 (wn rfl) rfl rfl rfl (l01Next_any q N B c bs _ hs (by omega)) ?_
      rintro _ v14 ⟨y, rfl, _, hy2, hs', hgq⟩
      have zv14 := hgq.size
      replace hs := hs'
      replace hx4 := hx4.kept hgq (by intro e; have := Option.some.inj e; omega)
      replace hm := hm.kept hgq (by omega)
      replace hx5 := hx5.kept hgq (by intro e; have := Option.some.inj e; omega)
      replace hcu := cell_kept hcu hgq (by intro e; have := Option.some.inj e; omega)
      replace hu := hu.kept hgq (hu.apart_blk (by omega))
      replace hc5 := cell_kept hc5 hgq (by intro e; have := Option.some.inj e; omega)
      replace ht := ht.kept hgq (ht.apart_blk (by omega))
      replace hg := grownBy_trans hg hgq
      clear hgq
      have hy3 := hy2 (by omega)
      refine w_nil ?_
      refine h_on ⟨⟨hc5, hcu⟩, ?_⟩
      refine h_one 10 ?_
      refine s_call2 (wn rfl) rfl rfl rfl (l01Pick_any q B c bs _ _ w.heap.size _ ht hql (by simp) (by simp) hs) ?_
      rintro _ v15 ⟨z, hz, rfl, hs', hgq⟩
      have zv15 := hgq.size
      replace hs := hs'
      replace hx4 := hx4.kept hgq (by intro e; have := Option.some.inj e; omega)
      replace hm := hm.kept hgq (by omega)
      replace hx5 := hx5.kept hgq (by intro e; have := Option.some.inj e; omega)
      replace hcu := cell_kept hcu hgq (by intro e; have := Option.some.inj e; omega)
      replace hu := hu.kept hgq (hu.apart_blk (by omega))
      replace hc5 := cell_kept hc5 hgq (by intro e; have := Option.some.inj e; omega)
      replace ht := ht.kept hgq (ht.apart_blk (by omega))
      replace hg := grownBy_trans hg hgq
      clear hgq
      refine w_nil ?_
      refine h_on ⟨⟨hc5, hcu⟩, ?_⟩
      refine h_p 11 ⟨hc5, hcu⟩ ?_ (hrun := fun w' h => by obtain ⟨h1, h2⟩ := h; exact yl)
      refine h_one 12 ?_
      obtain ⟨u2, hu2, hcu2, _, hset⟩ := hm.rowW (by decide) (j := 0) (by omega) (by omega)
      obtain rfl : u = u2 := by rw [hcu] at hcu2; exact Option.some.inj hcu2
      obtain ⟨u2, us, -, hcu3, hown, hlus, -⟩ := hm.top.rowA (by decide) (Nat.le_refl _) (j := 0) (by omega) (by omega)
      clear hcu3 u2
      refine s_storeI (wn rfl) rfl rfl hu2 (by omega) (by omega) (fun v16 huN hgU => ?_)
      have zU := hgU.size
      replace hc5 := cell_kept hc5 hgU (fun e => hu2.own.apart_box hx5 (by decide) e.symm)
      replace hcu := cell_kept hcu hgU (by
        intro e
        have hb1 := addrOf_ownBlock hown hlus
        rcases hown.apart_type hu2.own (by decide) with h | h
        · rw [h] at hb1; cases hb1
        · exact h (hb1.trans e))
      have hx4 := hx4.kept hgU (hu2.own.apart_box hx4 (by decide))
      have hx5 := hx5.kept hgU (hu2.own.apart_box hx5 (by decide))
      have hs := hs.kept hgU (fun k hk => by have := (hu2.lt k hk).1; have := hs.low; omega)
      have hg := gr_step hg hgU (fun k hk => (hu2.lt k hk).1)
      have hm := hset _ _ huN hgU
      refine w_nil ?_
      refine h_on ⟨⟨hc5, hcu⟩, ?_⟩
      refine h_nil ?_
      refine go2 ?_
      refine s_storeBox (wn rfl) rfl rfl hm.sv.one hx4 (fun v17 hxz hgz => ?_)
      have hmz := hm.box hx4 (by decide) (by decide) hgz
      have hsz := hs.kept hgz (fun k hk => by cases hk; exact ⟨by have := hs.low; omega, by omega⟩)
      have hgz2 := gr_step hg hgz (fun k hk => by cases hk; omega)
      refine go2 ?_
      exact end_cell Tryz.results59 rfl hxz.cell ⟨x, _, rfl, hmz.top, by simp; omega, fun xs hx => by rcases List.mem_or_eq_of_mem_set hx with h | h; (have := hxb xs h; omega); (subst h; simp; omega), hsz, hgz2⟩
  refine go2 ?_
  refine cond_dec rfl (fun e1 => ?_) (fun e1 => ?_)
  · refine go2 ?_
    refine region_xS (fun w' => w'.cell? p5 = some x) 8 mixed (fun v18 cr => ?_)
    have zv18 := cr.size
    replace hs := hs.below cr
    replace hx4 := hx4.below cr
    replace hm := hm.below cr
    replace hx5 := hx5.below cr
    replace hc5 := cell_below hc5 cr
    replace hg := gr_step hg (grownBy_of_below cr none) (fun k hk => by cases hk)
    refine x_p 0 hc5 ?_ (hrun := fun w' h => yl)
    refine x_p 1 hc5 ?_ (hrun := fun w' h => yl)
    refine x_p 2 hc5 ?_ (hrun := fun w' h => yl)
    refine x_p 3 hc5 ?_ (hrun := fun w' h => yl)
    refine x_one 4 ?_
    replace hm := hm.top
    refine s_call2 (wn rfl) rfl rfl rfl (l01Matching_any q B c bs (N : Int) N _ rfl (by omega) hs) ?_
    rintro pv v19 ⟨ps, hp, hpl, hpr, hs', hgq⟩
    have zv19 := hgq.size
    replace hs := hs'
    replace hx4 := hx4.kept hgq (by intro e; have := Option.some.inj e; omega)
    replace hm := hm.kept hgq (by omega)
    replace hx5 := hx5.kept hgq (by intro e; have := Option.some.inj e; omega)
    replace hc5 := cell_kept hc5 hgq (by intro e; have := Option.some.inj e; omega)
    replace hg := grownBy_trans hg hgq
    clear hgq
    refine w_nil ?_
    refine x_end ⟨fun _ => hc5, ?_⟩
    refine x_one 5 ?_
    refine s_build1V (B := w.heap.size) (wn rfl) rfl rfl hp.sv.one (by omega) (fun tb v20 ht st hga _ => ?_)
    have hba := below_of_grownBy hga
    have zv20 := hba.size
    replace hs := hs.below hba
    replace hx4 := hx4.below hba
    replace hm := hm.below hba
    replace hx5 := hx5.below hba
    replace hc5 := cell_below hc5 hba
    replace hp := hp.below hba
    replace hg := gr_step hg (grownBy_of_below hba none) (fun k hk => by cases hk)
    clear hba hga
    refine w_nil ?_
    refine x_end ⟨fun _ => hc5, ?_⟩
    refine x_one 6 ?_
    refine s_appendM (wn rfl) rfl rfl rfl hm ht.rd hp (by omega) (by decide) (by omega) (by omega) (fun x2 v21 hmN so hgN => ?_)
    have zN := hgN.size
    replace hc5 := cell_kept hc5 hgN (by
      intro e
      obtain ⟨us, ho1, _⟩ := hm.rws
      exact ho1.apart_box hx5 (by decide) e.symm)
    obtain ⟨us, ho1, -⟩ := hm.rws
    have hx4 := hx4.kept hgN (ho1.apart_box hx4 (by decide))
    have hx5 := hx5.kept hgN (ho1.apart_box hx5 (by decide))
    have hs := hs.kept hgN (fun k hk => by have := (ho1.lt k hk).1; have := hs.low; omega)
    have hg := gr_step hg hgN (fun k hk => (ho1.lt k hk).1)
    clear ho1 us
    have hm := hmN
    refine w_nil ?_
    refine x_end ⟨fun _ => hc5, ?_⟩
    refine x_p 7 hc5 ?_ (hrun := fun w' h => yl)
    refine x_one 8 ?_
    refine s_storeFld (wn rfl) rfl rfl so.one hx5 (fun v22 hxN hgF => ?_)
    have zv22 := hgF.size
    replace hs := hs.kept hgF (fun k hk => by cases hk; exact ⟨by have := hs.low; omega, by omega⟩)
    replace hm := hm.box hx5 (by decide) (by decide) hgF
    replace hx4 := hx4.kept hgF (by intro e; have := Option.some.inj e; omega)
    replace hx5 := hxN
    replace hg := gr_step hg hgF (fun k hk => by cases hk; omega)
    refine w_nil ?_
    refine x_end ⟨fun h => absurd rfl h, ?_⟩
    refine x_nil ?_
    have hc5 := hx5.cell
    refine go2 ?_
    refine s_storeBox (wn rfl) rfl rfl hm.sv.one hx4 (fun v23 hxz hgz => ?_)
    have hmz := hm.box hx4 (by decide) (by decide) hgz
    have hsz := hs.kept hgz (fun k hk => by cases hk; exact ⟨by have := hs.low; omega, by omega⟩)
    have hgz2 := gr_step hg hgz (fun k hk => by cases hk; omega)
    refine go2 ?_
    exact end_cell Tryz.results59 rfl hxz.cell ⟨x2, _, rfl, hmz.top, by simp; omega, fun xs hx => by rcases List.mem_append.1 hx with h | h; (have := hxb xs h; omega); (simp at h; subst h; omega), hsz, hgz2⟩
  refine go2 ?_
  refine cond_dec rfl (fun e2 => ?_) (fun e2 => ?_)
  · refine go2 ?_
    refine s_build (B := w.heap.size) [] (wn rfl) rfl (by simp) (by decide) rfl (by simp) (by omega) (fun x2 v24 ho hga _ => ?_)
    have hba := below_of_grownBy hga
    have zv24 := hba.size
    replace hs := hs.below hba
    replace hx4 := hx4.below hba
    replace hm := hm.below hba
    replace hx5 := hx5.below hba
    replace hg := gr_step hg (grownBy_of_below hba none) (fun k hk => by cases hk)
    clear hba hga
    have hm := OM.empty (E := v24.heap.size) (U := 2) ho
    refine go2 ?_
    refine s_storeFld (wn rfl) rfl rfl hm.sv.one hx5 (fun v25 hxN hgF => ?_)
    have zv25 := hgF.size
    replace hs := hs.kept hgF (fun k hk => by cases hk; exact ⟨by have := hs.low; omega, by omega⟩)
    replace hm := hm.box hx5 (by decide) (by decide) hgF
    replace hx4 := hx4.kept hgF (by intro e; have := Option.some.inj e; omega)
    replace hx5 := hxN
    replace hg := gr_step hg hgF (fun k hk => by cases hk; omega)
    have hc5 := hx5.cell
    refine go2 ?_
    refine s_storeBox (wn rfl) rfl rfl hm.sv.one hx4 (fun v26 hxz hgz => ?_)
    have hmz := hm.box hx4 (by decide) (by decide) hgz
    have hsz := hs.kept hgz (fun k hk => by cases hk; exact ⟨by have := hs.low; omega, by omega⟩)
    have hgz2 := gr_step hg hgz (fun k hk => by cases hk; omega)
    refine go2 ?_
    exact end_cell Tryz.results59 rfl hxz.cell ⟨x2, _, rfl, hmz.top, by simp, by simp, hsz, hgz2⟩
  refine go2 ?_
  refine cond_dec rfl (fun e3 => ?_) (fun e3 => ?_)
  · have hN1 := hN.1
    have hl0 : (gr xss 0).length = N := hnf
    obtain ⟨u, us, hu, hcu, hown, hlus, -⟩ := hm.top.rowA (by decide) (Nat.le_refl _) (j := 0) (by omega) (by omega)
    have su := hu.sv
    clear hown hlus us
    refine go2 ?_
    refine region_xS (fun w' => w'.cell? p5 = some x ∧ w'.cell? (addrOf x (0 : Int).toNat) = some u) 10 mixed (fun v27 cr => ?_)
    have zv27 := cr.size
    replace hs := hs.below cr
    replace hx4 := hx4.below cr
    replace hm := hm.below cr
    replace hx5 := hx5.below cr
    replace hcu := cell_below hcu cr
    replace hu := hu.below cr
    replace hc5 := cell_below hc5 cr
    replace hg := gr_step hg (grownBy_of_below cr none) (fun k hk => by cases hk)
    refine x_p 0 ⟨hc5, hcu⟩ ?_ (hrun := fun w' h => by obtain ⟨h1, h2⟩ := h; exact yl)
    refine x_p 1 ⟨hc5, hcu⟩ ?_ (hrun := fun w' h => by obtain ⟨h1, h2⟩ := h; exact yl)
    refine x_p 2 ⟨hc5, hcu⟩ ?_ (hrun := fun w' h => by obtain ⟨h1, h2⟩ := h; exact yl)
    refine x_p 3 ⟨hc5, hcu⟩ ?_ (hrun := fun w' h => by obtain ⟨h1, h2⟩ := h; exact yl)
    refine x_p 4 ⟨hc5, hcu⟩ ?_ (hrun := fun w' h => by obtain ⟨h1, h2⟩ := h; exact yl)
    refine x_p 5 ⟨hc5, hcu⟩ ?_ (hrun := fun w' h => by obtain ⟨h1, h2⟩ := h; exact yl)
    refine x_p 6 ⟨hc5, hcu⟩ ?_ (hrun := fun w' h => by obtain ⟨h1, h2⟩ := h; exact yl)
    refine x_one 7 ?_
    refine s_build1 (B := w.heap.size) (wn rfl) rfl rfl (by omega) (fun tb v28 ht st hga _ => ?_)
    have hba := below_of_grownBy hga
    have zv28 := hba.size
    replace hs := hs.below hba
    replace hx4 := hx4.below hba
    replace hm := hm.below hba
    replace hx5 := hx5.below hba
    replace hcu := cell_below hcu hba
    replace hu := hu.below hba
    replace hc5 := cell_below hc5 hba
    replace hg := gr_step hg (grownBy_of_below hba none) (fun k hk => by cases hk)
    clear hba hga
    refine w_nil ?_
    refine x_end ⟨fun _ => ⟨hc5, hcu⟩, ?_⟩
    refine x_one 8 ?_
    obtain ⟨u2, us, hu2, hcu2, hown, hlus, hrest⟩ := hm.top.rowA (by decide) (Nat.le_refl _) (j := 0) (by omega) (by omega)
    obtain rfl : u = u2 := by rw [hcu] at hcu2; exact Option.some.inj hcu2
    refine s_appendI (wn rfl) rfl rfl rfl hu2 ht.il (by simp; omega) (by omega) (fun rn v29 hrn srn hgR hgrow => ?_)
    have zR := hgR.size
    obtain ⟨hownA, hrestA⟩ := hrest _ _ _ hrn hgR hgrow
    replace hc5 := cell_kept hc5 hgR (fun e => hu2.own.apart_box hx5 (by decide) e.symm)
    replace hcu := cell_kept hcu hgR (by
      intro e
      have hb1 := addrOf_ownBlock hown hlus
      rcases hown.apart_type hu2.own (by decide) with h | h
      · rw [h] at hb1; cases hb1
      · exact h (hb1.trans e))
    have hx4 := hx4.kept hgR (hu2.own.apart_box hx4 (by decide))
    have hx5 := hx5.kept hgR (hu2.own.apart_box hx5 (by decide))
    have hs := hs.kept hgR (fun k hk => by have := (hu2.lt k hk).1; have := hs.low; omega)
    have hg := gr_step hg hgR (fun k hk => (hu2.lt k hk).1)
    refine w_nil ?_
    refine x_end ⟨fun _ => ⟨hc5, hcu⟩, ?_⟩
    refine x_p 9 ⟨hc5, hcu⟩ ?_ (hrun := fun w' h => by obtain ⟨h1, h2⟩ := h; exact yl)
    refine x_one 10 ?_
    refine s_store (wn rfl) rfl rfl hrn.sv.one hownA hlus (fun v30 hownS hgO => ?_)
    have zO := hgO.size
    have hm := hrestA _ hownS hgO
    have hx4 := hx4.kept hgO (hownA.apart_box hx4 (by decide))
    have hx5 := hx5.kept hgO (hownA.apart_box hx5 (by decide))
    have hs := hs.kept hgO (fun k hk => by have := (hownA.lt k hk).1; have := hs.low; omega)
    have hg := gr_step hg hgO (fun k hk => (hownA.lt k hk).1)
    have hc5 := hx5.cell
    refine w_nil ?_
    refine x_end ⟨fun h => absurd rfl h, ?_⟩
    refine x_nil ?_
    refine go2 ?_
    refine s_storeBox (wn rfl) rfl rfl hm.sv.one hx4 (fun v31 hxz hgz => ?_)
    have hmz := hm.box hx4 (by decide) (by decide) hgz
    have hsz := hs.kept hgz (fun k hk => by cases hk; exact ⟨by have := hs.low; omega, by omega⟩)
    have hgz2 := gr_step hg hgz (fun k hk => by cases hk; omega)
    refine go2 ?_
    exact end_cell Tryz.results59 rfl hxz.cell ⟨x, _, rfl, hmz.top, by simp; omega, fun xs hx => by rcases List.mem_or_eq_of_mem_set hx with h | h; (have := hxb xs h; omega); (subst h; simp; omega), hsz, hgz2⟩
  refine go2 ?_
  refine cond_dec rfl (fun e4 => ?_) (fun e4 => ?_)
  · refine go2 ?_
    obtain ⟨us, ho1, hr1⟩ := hm.rws
    have hul := hr1.len
    refine s_p (wn rfl) rfl (y_cut_lo rfl rfl ho1.rd (by omega) (by omega)) ?_
    rw [hul]
    have hm := hm.tail (by omega)
    clear ho1 hr1 us hul
    refine go2 ?_
    refine s_storeFld (wn rfl) rfl rfl hm.sv.one hx5 (fun v32 hxN hgF => ?_)
    have zv32 := hgF.size
    replace hs := hs.kept hgF (fun k hk => by cases hk; exact ⟨by have := hs.low; omega, by omega⟩)
    replace hm := hm.box hx5 (by decide) (by decide) hgF
    replace hx4 := hx4.kept hgF (by intro e; have := Option.some.inj e; omega)
    replace hx5 := hxN
    replace hg := gr_step hg hgF (fun k hk => by cases hk; omega)
    have hc5 := hx5.cell
    refine go2 ?_
    refine s_storeBox (wn rfl) rfl rfl hm.sv.one hx4 (fun v33 hxz hgz => ?_)
    have hmz := hm.box hx4 (by decide) (by decide) hgz
    have hsz := hs.kept hgz (fun k hk => by cases hk; exact ⟨by have := hs.low; omega, by omega⟩)
    have hgz2 := gr_step hg hgz (fun k hk => by cases hk; omega)
    refine go2 ?_
    exact end_cell Tryz.results59 rfl hxz.cell ⟨_, _, rfl, hmz.top, by simp; omega, fun xs hx => by have := hxb xs (List.mem_of_mem_drop hx); omega, hsz, hgz2⟩
  refine go2 ?_
  refine s_storeBox (wn rfl) rfl rfl hm.sv.one hx4 (fun v34 hxz hgz => ?_)
  have hmz := hm.box hx4 (by decide) (by decide) hgz
  have hsz := hs.kept hgz (fun k hk => by cases hk; exact ⟨by have := hs.low; omega, by omega⟩)
  have hgz2 := gr_step hg hgz (fun k hk => by cases hk; omega)
  refine go2 ?_
  exact end_cell Tryz.results59 rfl hxz.cell ⟨x, _, rfl, hmz.top, by omega, fun xs hx => by have := hxb xs hx; omega, hsz, hgz2⟩

end Go.Proofs.YtablpijnjkncfaaGreat

/- What the general laws share: a code as an argument, flags5, RunMoves, DrawPetrieLengths. -/
namespace Go.Mem
open Go.ChangeShapes Go.WideShapes Go.ChangeAt Go.RowKit Go.Deep
theorem open_CL {H : Type} {enc : TypeId × Value → H} {P : Program} {w : World} {base : Nat} {held : Bool} {t e : TypeId} {fuel : Nat} {u : Value} {x : DataW H × List MemPlace} (ht : P.underlying t = some (.slice e)) (he : P.underlying e = some (.int .u8))
    (ce : P.cellsOf e = 1) (h : DataW.trod enc P w base (fun _ => true) held fuel t [u] = some x) : ∃ bs, CL w u bs := by
  rcases open_ints ht he ce h with ⟨hu, _⟩ | ⟨a, len, cap, zs, hu, _, hl, hm, hz, _, hcell, hwf⟩
  · obtain rfl : u = .slice none 0 0 := by simpa using hu
    exact ⟨[], ⟨Rd.nil w, by simp⟩⟩
  · obtain rfl : u = .slice (some a) len cap := by simpa using hu
    have hz : zs.length = cap := by simpa using hz
    refine ⟨zs.take len, ⟨some a, cap, by simp; omega, by simp, by simp; omega, fun c u hu => ?_⟩, fun b hb => ?_⟩
    · rw [List.getElem?_map] at hu
      by_cases hc : c < len
      · have hcz : c < zs.length := by omega
        simp [hc, hcz] at hu
        subst hu
        have := hcell c (by omega)
        simpa [List.getD, hcz, addrOf] using this
      · have : (zs.take len)[c]? = none := by rw [List.getElem?_eq_none]; simp; omega
        simp [this] at hu
    · have h2 := hwf b (List.mem_of_mem_take hb)
      have e1 : IntKind.u8.min = 0 := by decide
      have e2 : IntKind.u8.max = 255 := by decide
      simp [Lit.wf] at h2
      omega
end Go.Mem
namespace Go.Proofs.YtablpijnjkncfaaGreat
open Go.Mem Go.ChangeShapes Go.WideShapes Go.ChangeAt Go.RowKit
set_option linter.unusedVariables false
set_option linter.unusedSimpArgs false
set_option maxRecDepth 100000 in
/-- an argument that is a code -/
theorem open_arg_B {w : World} {b0 b : Nat} {v : Value} {H : Type} {enc : TypeId × Value → H} {d : DataW H} {ps : List MemPlace} (hok : Value.okWide Tryz.prog w .any b0 22 v) (h : DataW.Trod enc Tryz.prog w b (fun _ => true) true 22 v d ps) : ∃ bs, CL w v bs := by
  obtain ⟨a, len, cap, rfl⟩ := okWide_slice Tryz.underlying22 hok
  obtain ⟨fuel, hf⟩ := h
  exact open_CL Tryz.underlying22 Tryz.underlying5 (by kernel_rfl) (u := .slice a len cap) hf

set_option maxHeartbeats 8000000 in
set_option maxRecDepth 100000 in
theorem flags5_any (v : Value) (ms : List (List Int)) (w : World) (hv : RL w v ms) (r1 : 1 ≤ ms.length) :
    Ret Tryz.prog 11 #[.agg #[v]] w fun r w' => r = .int .i64 (nf ms) ∧ Below w.heap.size w w' := by
  have shv := hv.sv
  have hb := Below.refl w.heap.size w
  refine enter1 12 Tryz.func11 rfl Tryz.ntmps11 rfl (fun fr => ?_)
  refine go ?_
  refine s_box (wn rfl) rfl rfl (agg_cells shv) (fun w1 hbx _ hp hg => ?_)
  have hb1 := below_of_grownBy hg
  have sw1 := hb1.size
  replace hv := hv.below hb1
  replace hb := hb.trans (hb1.mono hb.size)
  clear hg hp hb1
  generalize (⟨w.heap.size, 0, none⟩ : Addr) = p at *
  obtain ⟨u, hu, hcu⟩ := hv.row (j := (0 : Int)) (by omega) (by omega)
  have su := hu.sv
  have hn0 : ¬ ((ms.length : Int) = 0) := by omega
  refine go ?_
  exact end_one Tryz.results11 rfl ⟨rfl, hb⟩

end Go.Proofs.YtablpijnjkncfaaGreat
