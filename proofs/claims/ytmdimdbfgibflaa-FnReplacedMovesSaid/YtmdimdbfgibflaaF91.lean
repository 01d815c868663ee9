/- Contracts: the draw of a maniplex and words that replace its moves. -/
import Derived.Test.YtmdimdbfgibflaaF83
import Derived.Test.YtmdimdbfgibflaaF89
import Derived.Test.YtmdimdbfgibflaaF37
import Derived.Test.YtmdimdbfgibflaaAk
namespace Go.Proofs.Ytmdimdbfgibflaa
open Go.Mem Go.RowKit
set_option linter.unusedVariables false
set_option linter.unusedSimpArgs false


set_option maxHeartbeats 8000000 in
set_option maxRecDepth 100000 in
theorem DrawReplaceMoves_any (c : Value) (bs : List Int) (w : World) (hcl : CL w c bs) :
    Ret Try.prog 11 #[c] w fun r w' => ∃ x xss y yss, r = .tuple #[.agg #[x], y] ∧ RL w' x xss ∧ RL w' y yss ∧ Below w.heap.size w w' := by
  have sc := hcl.sv
  refine enter1 109 Try.func11 rfl Try.ntmps11 rfl (fun fr => ?_)
  refine go2 ?_
  refine s_alloc (B := w.heap.size) (wn rfl) rfl (Nat.le_refl _) (fun w0 p2 hx2 hg0 hp2 => ?_)
  have hb0 := below_of_grownBy hg0
  have z0 := hb0.size
  have hlt2 := hx2.lt
  refine go2 ?_
  refine s_call1 (wn rfl) rfl rfl (l01From_any c bs _ (hcl.below hb0)) ?_
  rintro _ v0 ⟨q, rfl, hs, hbf⟩
  have zf := hbf.size
  have hql := hs.lt
  have hq1 := hs.low
  replace hx2 := hx2.below hbf
  obtain ⟨B, hBe⟩ : ∃ B, B = w0.heap.size := ⟨_, rfl⟩
  rw [← hBe] at hs
  have hB1 := hb0.trans (hbf.mono z0)
  refine go2 ?_
  refine s_call1 (wn rfl) rfl rfl (l05Rank3_any q B c bs _ hs) ?_
  rintro _ v1 ⟨x, xss, rfl, hm, hxl, hxr, hs', hgq⟩
  have zv1 := hgq.size
  replace hs := hs'
  replace hx2 := hx2.kept hgq (by intro e; have := Option.some.inj e; omega)
  have hg := hgq
  clear hgq
  replace hm := hm.mono (B' := v0.heap.size) (by omega)
  refine go2 ?_
  refine s_alloc (B := v0.heap.size) (wn rfl) rfl (by first | exact Nat.le_refl _ | omega) (fun v2 p5 hx5 hga hpp5 => ?_)
  have hba := below_of_grownBy hga
  have zv2 := hba.size
  replace hs := hs.below hba
  replace hx2 := hx2.below hba
  replace hm := hm.below hba
  replace hg := gr_step hg (grownBy_of_below hba none) (fun k hk => by cases hk)
  clear hba hga
  have hltp5 := hx5.lt
  refine go2 ?_
  refine s_storeBox (wn rfl) rfl rfl hm.sv.one hx5 (fun v3 hxN hgp => ?_)
  have zv3 := hgp.size
  replace hs := hs.kept hgp (fun k hk => by cases hk; exact ⟨by have := hs.low; omega, by omega⟩)
  replace hx2 := hx2.kept hgp (by intro e; have := Option.some.inj e; omega)
  replace hm := hm.box hx5 (by decide) (by decide) hgp
  replace hx5 := hxN
  replace hg := gr_step hg hgp (fun k hk => by cases hk; omega)
  clear hgp
  have hc5 := hx5.cell
  have sm := hm.sv
  have hlow5 := hx5.low
  have hm := hm.top
  have hmv := fun g h => (hm.ownlt g h).2
  obtain ⟨Em, hEm⟩ : ∃ Em, Em = v3.heap.size := ⟨_, rfl⟩
  rw [← hEm] at hm hmv
  have h5m : p5.block < Em := by have := hx5.lt; omega
  have h2m : p2.block < Em := by have := hx2.lt; omega
  have hqm : q < Em := by omega
  have hvm : v0.heap.size ≤ Em := by omega
  refine go2 ?_
  refine s_call1 (wn rfl) rfl rfl (l05Singles_any (xss.length : Int) _ xss.length rfl (by omega)) ?_
  rintro wv v4 ⟨hw, hbq⟩
  have zv4 := hbq.size
  replace hs := hs.below hbq
  replace hx2 := hx2.below hbq
  replace hm := hm.below hbq
  replace hx5 := hx5.below hbq
  replace hc5 := cell_below hc5 hbq
  replace hg := gr_step hg (grownBy_of_below hbq none) (fun k hk => by cases hk)
  clear hbq
  obtain ⟨wss, hwss⟩ : ∃ wss, wss = sngl xss.length := ⟨_, rfl⟩
  have hwl : wss.length = xss.length := by rw [hwss, sngl_len]
  rw [← hwss] at hw
  clear hwss
  rw [← hEm] at hw
  have sw := hw.sv
  refine go2 ?_
  refine s_call2 (wn rfl) rfl rfl rfl (l01Next_any q 6 B c bs _ hs (by omega)) ?_
  rintro _ v5 ⟨k, rfl, hk0, hk, hs', hgq⟩
  have zv5 := hgq.size
  replace hs := hs'
  replace hx2 := hx2.kept hgq (by intro e; have := Option.some.inj e; omega)
  replace hm := hm.kept hgq (by omega)
  replace hx5 := hx5.kept hgq (by intro e; have := Option.some.inj e; omega)
  replace hw := hw.kept hgq (by omega)
  replace hg := grownBy_trans hg hgq
  clear hgq
  have hk' := hk (by omega)
  have hw := hw.top
  refine w_nil ?_
  refine then_normal ?_
  refine meet (fun r w' => ∃ (wv : Value) (wss : List (List Int)), r 2 = .pointer (some p2) ∧ r 4 = .pointer (some ⟨q, 0, none⟩) ∧ r 5 = .pointer (some p5) ∧ r 7 = wv ∧ Bx w' w.heap.size p2 26 (.slice none 0 0) ∧ Bx w' v0.heap.size p5 26 x ∧ OM w' v0.heap.size Em 34 2 x xss ∧ OM w' Em w'.heap.size 34 2 wv wss ∧ Sr w' B q 115 c bs ∧ v0.grownBy w' (some q) ∧ Em ≤ w'.heap.size) ?_ ?_
  · refine go2 ?_
    refine cond_dec rfl (fun e0 => ?_) (fun e0 => ?_)
    · refine go2 ?_
      refine s_call2 (wn rfl) rfl rfl rfl (l01Next_any q (xss.length : Int) B c bs _ hs (by omega)) ?_
      rintro _ v6 ⟨ka, rfl, hka0, hka, hs', hgq⟩
      have zv6 := hgq.size
      replace hs := hs'
      replace hx2 := hx2.kept hgq (by intro e; have := Option.some.inj e; omega)
      replace hm := hm.kept hgq (by omega)
      replace hx5 := hx5.kept hgq (by intro e; have := Option.some.inj e; omega)
      replace hg := grownBy_trans hg hgq
      clear hgq
      refine go2 ?_
      refine s_build1 (B := Em) (wn rfl) rfl rfl (by omega) (fun ra v7 hra sra hga hora => ?_)
      have hba := below_of_grownBy hga
      have zv7 := hba.size
      replace hs := hs.below hba
      replace hx2 := hx2.below hba
      replace hm := hm.below hba
      replace hx5 := hx5.below hba
      replace hg := gr_step hg (grownBy_of_below hba none) (fun k hk => by cases hk)
      clear hba hga
      have hralt := fun g h => (hra.lt g h).2
      refine go2 ?_
      refine s_call2 (wn rfl) rfl rfl rfl (l01Next_any q (xss.length : Int) B c bs _ hs (by omega)) ?_
      rintro _ v8 ⟨kb, rfl, hkb0, hkb, hs', hgq⟩
      have zv8 := hgq.size
      replace hs := hs'
      replace hx2 := hx2.kept hgq (by intro e; have := Option.some.inj e; omega)
      replace hm := hm.kept hgq (by omega)
      replace hx5 := hx5.kept hgq (by intro e; have := Option.some.inj e; omega)
      replace hra := hra.kept hgq (hra.apart_blk (by omega))
      replace hg := grownBy_trans hg hgq
      clear hgq
      refine go2 ?_
      have hralt2 := fun g h => (hra.lt g h).2
      refine s_build1 (B := Em) (wn rfl) rfl rfl (by omega) (fun rb v9 hrb srb hga horb => ?_)
      have hba := below_of_grownBy hga
      have hap := Ap.new hralt2 horb
      have zv9 := hba.size
      replace hs := hs.below hba
      replace hx2 := hx2.below hba
      replace hm := hm.below hba
      replace hx5 := hx5.below hba
      replace hra := hra.below hba
      replace hg := gr_step hg (grownBy_of_below hba none) (fun k hk => by cases hk)
      clear hba hga
      refine go2 ?_
      have hrw := Rws.two hra hrb hap
      refine s_build2V (B := Em) (wn rfl) rfl rfl rfl sra.one srb.one (by omega) (fun wv2 v10 ht st hga _ => ?_)
      have hba := below_of_grownBy hga
      replace hrw := hrw.below hba
      have zv10 := hba.size
      replace hs := hs.below hba
      replace hx2 := hx2.below hba
      replace hm := hm.below hba
      replace hx5 := hx5.below hba
      replace hra := hra.below hba
      replace hrb := hrb.below hba
      replace hg := gr_step hg (grownBy_of_below hba none) (fun k hk => by cases hk)
      clear hba hga hw
      have hw := hrw.om ht
      refine go2 ?_
      exact ⟨wv2, _, rfl, rfl, rfl, rfl, hx2, hx5, hm, hw.top, hs, hg, by omega⟩
    refine go2 ?_
    refine cond_dec rfl (fun e1 => ?_) (fun e1 => ?_)
    · refine go2 ?_
      refine w_loop (fun kk fr w' => ∃ (i : Nat) (wss : List (List Int)), kk = xss.length - i ∧ i ≤ xss.length ∧ wss.length = xss.length ∧ fr 6 = .int .i64 xss.length ∧ fr 8 = .int .i64 i ∧ fr 2 = .pointer (some p2) ∧ fr 4 = .pointer (some ⟨q, 0, none⟩) ∧ fr 5 = .pointer (some p5) ∧ fr 7 = wv ∧ Bx w' w.heap.size p2 26 (.slice none 0 0) ∧ Bx w' v0.heap.size p5 26 x ∧ OM w' v0.heap.size Em 34 2 x xss ∧ OM w' Em w'.heap.size 34 2 wv wss ∧ Sr w' B q 115 c bs ∧ v0.grownBy w' (some q) ∧ Em ≤ w'.heap.size) xss.length
        ⟨0, wss, rfl, by omega, hwl, rfl, rfl, rfl, rfl, rfl, rfl, hx2, hx5, hm, hw, hs, hg, by omega⟩ ?_
      clear hs hg hx2 hx5 hm hw hwl sw
      rintro kk fr v11 ⟨i, wss, rfl, hi, hwl, r6, r8, r2, r4, r5, r7, hx2, hx5, hm, hw, hs, hg, hEl⟩
      have zv11 := hg.size
      have sw := hw.sv
      refine know (t := 2) r2 ?_; refine know (t := 4) r4 ?_; refine know (t := 5) r5 ?_; refine know (t := 6) r6 ?_; refine know (t := 7) r7 ?_; refine know (t := 8) r8 ?_
      refine go2 ?_
      refine cond_dec rfl (fun hlt => ?_) (fun hge => ?_)
      rotate_left
      · refine go2 ?_
        exact ⟨wv, _, rfl, rfl, rfl, rfl, hx2, hx5, hm, hw.top, hs, hg, by omega⟩
      refine go2 ?_
      have hwv := fun g h => (hw.ownlt g h).2
      refine s_call3 (wn rfl) rfl rfl rfl rfl (l05DrawWord_any q B c bs (xss.length : Int) 2 2 _ (by omega) rfl (by omega) hs) ?_
      rintro dv v12 ⟨wd, hd, hdl, hs', hgq⟩
      have zv12 := hgq.size
      replace hs := hs'
      replace hx2 := hx2.kept hgq (by intro e; have := Option.some.inj e; omega)
      replace hx5 := hx5.kept hgq (by intro e; have := Option.some.inj e; omega)
      replace hm := hm.kept hgq (by omega)
      replace hw := hw.kept hgq (by omega)
      replace hg := grownBy_trans hg hgq
      clear hgq
      have sdv := hd.sv
      refine go2 ?_
      refine s_build1 (B := v12.heap.size) (wn rfl) rfl rfl (Nat.le_refl _) (fun tb v13 htb st hga _ => ?_)
      have hba := below_of_grownBy hga
      have zv13 := hba.size
      replace hs := hs.below hba
      replace hx2 := hx2.below hba
      replace hx5 := hx5.below hba
      replace hm := hm.below hba
      replace hw := hw.below hba
      replace hd := hd.below hba
      replace hg := gr_step hg (grownBy_of_below hba none) (fun k hk => by cases hk)
      clear hba hga
      refine go2 ?_
      refine s_appendK (wn rfl) rfl rfl rfl hd htb.il (by simp; omega) (by omega) (fun u v14 hu su hgN hgrow hc => ?_)
      have hdlt := fun g (e : dv.ownBlock = some g) => (hd.lt g e).1
      have hltN := fun g (e : dv.ownBlock = some g) => Nat.le_trans hEl (hdlt g e)
      have zN := hgN.size
      replace hs := hs.kept hgN (fun k hk => by have := hltN k hk; have := hs.low; omega)
      replace hx2 := hx2.kept hgN (fun e => by have := hltN _ e; omega)
      replace hx5 := hx5.kept hgN (fun e => by have := hltN _ e; omega)
      replace hm := hm.apart2 hmv hgN (fun g e => .inr (by have := hltN g e; omega))
      replace hg := gr_step hg hgN (fun k hk => by have := hltN k hk; omega)
      have hal := Al.start hd hc
      replace hw := hw.apart2 hwv hgN (fun g e => .inr (hdlt g e))
      clear hgN hgrow hc hwv
      refine go2 ?_
      refine s_storePut (wn rfl) rfl rfl hw (by omega) (by omega) hu (by decide) (by omega) (by omega) (fun v15 hwN huN hgN hvlt keep hcu => ?_)
      have hltN := fun g (e : wv.ownBlock = some g) => hvlt g e
      have zN := hgN.size
      replace hs := hs.kept hgN (fun k hk => by have := hltN k hk; have := hs.low; omega)
      replace hx2 := hx2.kept hgN (fun e => by have := hltN _ e; omega)
      replace hx5 := hx5.kept hgN (fun e => by have := hltN _ e; omega)
      replace hm := hm.apart2 hmv hgN (fun g e => .inr (by have := hltN g e; omega))
      replace hg := gr_step hg hgN (fun k hk => by have := hltN k hk; omega)
      replace hw := hwN
      clear hwN
      replace hal := hal.keep keep
      have hal : Al v15 Em 2 u (wd ++ [(i : Int)]) dv wd := by
        rcases hal with h | ⟨h1, h2⟩
        · exact .inl h
        · exact .inr ⟨h1.mono (by omega), h2⟩
      clear keep huN hltN
      have hgr := gr_set_same (xss := wss) (i := i) (ys := wd ++ [(i : Int)]) (by omega)
      rw [show ((i : Int)).toNat = i by omega] at hw
      have hwl2 : (wss.set i (wd ++ [(i : Int)])).length = xss.length := by rw [List.length_set, hwl]
      refine go2 ?_
      refine w_loop (fun kk fr w' => ∃ (j : Nat) (wss : List (List Int)) (u : Value) (ys : List Int), kk = wd.length - j ∧ j ≤ wd.length ∧ wss.length = xss.length ∧ gr wss i = ys ∧ ys.length = wd.length + 1 + j ∧ w'.cell? (addrOf wv ((i : Int)).toNat) = some u ∧ Al w' Em 2 u ys dv wd ∧ fr 6 = .int .i64 xss.length ∧ fr 8 = .int .i64 i ∧ fr 9 = dv ∧ fr 10 = .int .i64 ((wd.length : Int) - 1 - j) ∧ fr 2 = .pointer (some p2) ∧ fr 4 = .pointer (some ⟨q, 0, none⟩) ∧ fr 5 = .pointer (some p5) ∧ fr 7 = wv ∧ Bx w' w.heap.size p2 26 (.slice none 0 0) ∧ Bx w' v0.heap.size p5 26 x ∧ OM w' v0.heap.size Em 34 2 x xss ∧ OM w' Em w'.heap.size 34 2 wv wss ∧ Sr w' B q 115 c bs ∧ v0.grownBy w' (some q) ∧ Em ≤ w'.heap.size) wd.length
        ⟨0, _, u, _, rfl, by omega, hwl2, hgr, by simp, hcu, hal, rfl, rfl, rfl, by show Value.int _ _ = _; congr 1; omega, rfl, rfl, rfl, rfl, hx2, hx5, hm, hw, hs, hg, by omega⟩ ?_
      have hix : i < xss.length := by omega
      clear hs hg hx2 hx5 hm hw hwl sw hal hcu hgr hwl2 hu su hd htb
      rintro kk fr v16 ⟨j, wss, u, ys, rfl, hj, hwl, hgr, hyl, hcu, hal, r6, r8, r9, r10, r2, r4, r5, r7, hx2, hx5, hm, hw, hs, hg, hEl⟩
      have zv16 := hg.size
      have sw := hw.sv
      refine know (t := 2) r2 ?_; refine know (t := 4) r4 ?_; refine know (t := 5) r5 ?_; refine know (t := 6) r6 ?_; refine know (t := 7) r7 ?_; refine know (t := 8) r8 ?_; refine know (t := 9) r9 ?_; refine know (t := 10) r10 ?_
      refine go2 ?_
      refine cond_dec rfl (fun hlt => ?_) (fun hge => ?_)
      rotate_left
      · refine go2 ?_
        exact ⟨xss.length - (i + 1), by omega, i + 1, wss, rfl, by omega, hwl, rfl, by show Value.int _ _ = _; congr 1, rfl, rfl, rfl, rfl, hx2, hx5, hm, hw, hs, hg, hEl⟩
      have hj2 : j < wd.length := by omega
      obtain ⟨u2, us, hu, hcu2, hown, hlus, hrest⟩ := hw.rowA (by decide) (Nat.le_refl _) (j := (i : Int)) (by omega) (by omega)
      obtain rfl : u = u2 := by rw [hcu] at hcu2; exact Option.some.inj hcu2
      clear hcu2
      rw [hgr] at hu
      have hdo := hal.own hu
      have hdi := hdo.il
      have su := hu.sv
      refine go2 ?_
      refine region_xS (fun w' => w'.cell? (addrOf wv ((i : Int)).toNat) = some u ∧ IL w' dv wd) 13 mixed (fun v17 cr => ?_)
      have zcr := cr.size
      replace hcu := cell_below hcu cr
      replace hdi := hdi.below cr
      replace hu := hu.below cr
      replace hal := hal.keep (fun h => h.below cr)
      replace hx2 := hx2.below cr
      replace hx5 := hx5.below cr
      replace hm := hm.below cr
      replace hs := hs.below cr
      replace hg := gr_step hg (grownBy_of_below cr none) (fun k hk => by cases hk)
      replace hw := (hw.below cr).top
      refine x_p 0 ⟨hcu, hdi⟩ ?_ (hrun := fun w' h => by obtain ⟨h1, h2⟩ := h; exact yl)
      refine x_p 1 ⟨hcu, hdi⟩ ?_ (hrun := fun w' h => by obtain ⟨h1, h2⟩ := h; exact yl)
      refine x_p 2 ⟨hcu, hdi⟩ ?_ (hrun := fun w' h => by obtain ⟨h1, h2⟩ := h; exact yl)
      refine x_p 3 ⟨hcu, hdi⟩ ?_ (hrun := fun w' h => by obtain ⟨h1, h2⟩ := h; exact yl)
      refine x_p 4 ⟨hcu, hdi⟩ ?_ (hrun := fun w' h => by obtain ⟨h1, h2⟩ := h; exact yl)
      refine x_p 5 ⟨hcu, hdi⟩ ?_ (hrun := fun w' h => by obtain ⟨h1, h2⟩ := h; exact yl)
      refine x_p 6 ⟨hcu, hdi⟩ ?_ (hrun := fun w' h => by obtain ⟨h1, h2⟩ := h; exact yl)
      refine x_p 7 ⟨hcu, hdi⟩ ?_ (hrun := fun w' h => by obtain ⟨h1, h2⟩ := h; exact yl)
      refine x_p 8 ⟨hcu, hdi⟩ ?_ (hrun := fun w' h => by obtain ⟨h1, h2⟩ := h; exact yl)
      refine x_p 9 ⟨hcu, hdi⟩ ?_ (hrun := fun w' h => by obtain ⟨h1, h2⟩ := h; exact yl)
      refine x_one 10 ?_
      refine s_build1 (B := v0.heap.size) (wn rfl) rfl rfl (by omega) (fun tb v18 htb st hga _ => ?_)
      have hba := below_of_grownBy hga
      have zba := hba.size
      replace hcu := cell_below hcu hba
      replace hdi := hdi.below hba
      replace hal := hal.keep (fun h => h.below hba)
      replace hx2 := hx2.below hba
      replace hx5 := hx5.below hba
      replace hm := hm.below hba
      replace hs := hs.below hba
      replace hg := gr_step hg (grownBy_of_below hba none) (fun k hk => by cases hk)
      replace hw := (hw.below hba).top
      clear hba hga hown hlus hrest hu us
      obtain ⟨u2, us, hu, hcu2, hown, hlus, hrest⟩ := hw.rowA (by decide) (Nat.le_refl _) (j := (i : Int)) (by omega) (by omega)
      obtain rfl : u = u2 := by rw [hcu] at hcu2; exact Option.some.inj hcu2
      clear hcu2
      rw [hgr] at hu
      refine w_nil ?_
      refine x_end ⟨fun _ => ⟨hcu, hdi⟩, ?_⟩
      refine x_one 11 ?_
      refine s_appendK (wn rfl) rfl rfl rfl hu htb.il (by simp; omega) (by omega) (fun u' v19 hrn srn hgN hgrow hc => ?_)
      have hltN := fun g (e : u.ownBlock = some g) => (hu.lt g e).1
      have hbw : ∀ g, wv.ownBlock = some g → Em ≤ g := fun g e => (hown.lt g e).1
      replace hal := hal.app hu hgN hgrow hc
      replace hdi := (hal.own hrn).il
      replace hcu := cell_kept hcu hgN (by
        intro e
        have hb1 := addrOf_ownBlock hown hlus
        rcases hown.apart_type hu.own (by decide) with h | h
        · rw [h] at hb1; cases hb1
        · exact h (hb1.trans e))
      obtain ⟨hownA, hrestA⟩ := hrest _ _ _ hrn hgN hgrow
      have zN := hgN.size
      replace hs := hs.kept hgN (fun k hk => by have := hltN k hk; have := hs.low; omega)
      replace hx2 := hx2.kept hgN (fun e => by have := hltN _ e; omega)
      replace hx5 := hx5.kept hgN (fun e => by have := hltN _ e; omega)
      replace hm := hm.apart2 hmv hgN (fun g e => .inr (by have := hltN g e; omega))
      replace hg := gr_step hg hgN (fun k hk => by have := hltN k hk; omega)
      refine w_nil ?_
      refine x_end ⟨fun _ => ⟨hcu, hdi⟩, ?_⟩
      refine x_p 12 ⟨hcu, hdi⟩ ?_ (hrun := fun w' h => by obtain ⟨h1, h2⟩ := h; exact yl)
      refine x_one 13 ?_
      refine s_store (wn rfl) rfl rfl srn.one hownA hlus (fun v20 hownS hgO => ?_)
      have hw := hrestA _ hownS hgO
      have hcu := hownS.rd.cell (i := ((i : Int)).toNat) (u := u') (by rw [List.getElem?_set, if_pos rfl, if_pos hlus])
      have hal := hal.keep (fun h => h.kept hgO (h.own.apart_type hownA (by decide)))
      have zN := hgO.size
      replace hs := hs.kept hgO (fun k hk => by have := hbw k hk; have := hs.low; omega)
      replace hx2 := hx2.kept hgO (fun e => by have := hbw _ e; omega)
      replace hx5 := hx5.kept hgO (fun e => by have := hbw _ e; omega)
      replace hm := hm.apart2 hmv hgO (fun g e => .inr (by have := hbw g e; omega))
      replace hg := gr_step hg hgO (fun k hk => by have := hbw k hk; omega)
      refine w_nil ?_
      refine x_end ⟨fun h => absurd rfl h, ?_⟩
      refine x_nil ?_
      rw [show ((i : Int)).toNat = i by omega] at hw
      have hgr2 := gr_set_same (xss := wss) (i := i) (ys := ys ++ [gi wd ((wd.length : Int) - 1 - j)]) (by omega)
      refine go2 ?_
      exact ⟨wd.length - (j + 1), by omega, j + 1, _, u', _, rfl, by omega, by rw [List.length_set, hwl], hgr2, by rw [List.length_append, hyl]; simp; omega, hcu, hal, rfl, rfl, rfl, by show Value.int _ _ = _; congr 1; omega, rfl, rfl, rfl, rfl, hx2, hx5, hm, hw, hs, hg, by omega⟩
    refine go2 ?_
    refine cond_dec rfl (fun e2 => ?_) (fun e2 => ?_)
    · refine go2 ?_
      refine cond_dec rfl (fun e3 => ?_) (fun e3 => ?_)
      · refine go2 ?_
        refine s_build2 (B := v5.heap.size) (wn rfl) rfl rfl rfl (Nat.le_refl _) (fun u v21 hu su hga _ => ?_)
        have hba := below_of_grownBy hga
        have zv21 := hba.size
        replace hs := hs.below hba
        replace hx2 := hx2.below hba
        replace hm := hm.below hba
        replace hx5 := hx5.below hba
        replace hw := hw.below hba
        replace hg := gr_step hg (grownBy_of_below hba none) (fun k hk => by cases hk)
        clear hba hga
        refine go2 ?_
        refine s_storePut (wn rfl) rfl rfl hw (by omega) (by omega) hu (by decide) (by omega) (by omega) (fun v22 hwN huN hgN hvlt keep hcu => ?_)
        have hltN := fun g (e : wv.ownBlock = some g) => hvlt g e
        have zN := hgN.size
        replace hs := hs.kept hgN (fun k hk => by have := hltN k hk; have := hs.low; omega)
        replace hx2 := hx2.kept hgN (fun e => by have := hltN _ e; omega)
        replace hx5 := hx5.kept hgN (fun e => by have := hltN _ e; omega)
        replace hm := hm.apart2 hmv hgN (fun g e => .inr (by have := hltN g e; omega))
        replace hg := gr_step hg hgN (fun k hk => by have := hltN k hk; omega)
        replace hw := hwN
        clear hwN
        refine go2 ?_
        exact ⟨wv, _, rfl, rfl, rfl, rfl, hx2, hx5, hm, hw.top, hs, hg, by omega⟩
      refine go2 ?_
      exact ⟨wv, _, rfl, rfl, rfl, rfl, hx2, hx5, hm, hw.top, hs, hg, by omega⟩
    refine go2 ?_
    refine cond_dec rfl (fun e3 => ?_) (fun e3 => ?_)
    · refine go2 ?_
      refine cond_dec rfl (fun e4 => ?_) (fun e4 => ?_)
      · refine go2 ?_
        refine s_call2 (wn rfl) rfl rfl rfl (l01Next_any q (xss.length : Int) B c bs _ hs (by omega)) ?_
        rintro _ v23 ⟨kj, rfl, hkj0, hkj, hs', hgq⟩
        have zv23 := hgq.size
        replace hs := hs'
        replace hx2 := hx2.kept hgq (by intro e; have := Option.some.inj e; omega)
        replace hm := hm.kept hgq (by omega)
        replace hx5 := hx5.kept hgq (by intro e; have := Option.some.inj e; omega)
        replace hw := hw.kept hgq (by omega)
        replace hg := grownBy_trans hg hgq
        clear hgq
        have hkj' := hkj (by omega)
        refine go2 ?_
        refine s_buildI (B := v0.heap.size) [0, 0, 0, 1] (wn rfl) rfl rfl rfl rfl (by omega) (fun tb v24 ht st hga _ => ?_)
        have hba := below_of_grownBy hga
        have zv24 := hba.size
        replace hs := hs.below hba
        replace hx2 := hx2.below hba
        replace hm := hm.below hba
        replace hx5 := hx5.below hba
        replace hw := hw.below hba
        replace hg := gr_step hg (grownBy_of_below hba none) (fun k hk => by cases hk)
        clear hba hga
        refine go2 ?_
        refine s_call2 (wn rfl) rfl rfl rfl (l01Pick_any q B c bs _ _ v0.heap.size _ ht hql (by simp) (by simp) hs) ?_
        rintro _ v25 ⟨za, hza, rfl, hs', hgq⟩
        have zv25 := hgq.size
        replace hs := hs'
        replace hx2 := hx2.kept hgq (by intro e; have := Option.some.inj e; omega)
        replace hm := hm.kept hgq (by omega)
        replace hx5 := hx5.kept hgq (by intro e; have := Option.some.inj e; omega)
        replace hw := hw.kept hgq (by omega)
        replace ht := ht.kept hgq (ht.apart_blk (by omega))
        replace hg := grownBy_trans hg hgq
        clear hgq
        have hza' : 0 ≤ za ∧ za ≤ 1 := by simp at hza; omega
        refine go2 ?_
        refine s_buildI (B := v0.heap.size) [4, 4, 65] (wn rfl) rfl rfl rfl rfl (by omega) (fun tb v26 ht st hga _ => ?_)
        have hba := below_of_grownBy hga
        have zv26 := hba.size
        replace hs := hs.below hba
        replace hx2 := hx2.below hba
        replace hm := hm.below hba
        replace hx5 := hx5.below hba
        replace hw := hw.below hba
        replace hg := gr_step hg (grownBy_of_below hba none) (fun k hk => by cases hk)
        clear hba hga
        refine go2 ?_
        refine s_call2 (wn rfl) rfl rfl rfl (l01Pick_any q B c bs _ _ v0.heap.size _ ht hql (by simp) (by simp) hs) ?_
        rintro _ v27 ⟨zb, hzb, rfl, hs', hgq⟩
        have zv27 := hgq.size
        replace hs := hs'
        replace hx2 := hx2.kept hgq (by intro e; have := Option.some.inj e; omega)
        replace hm := hm.kept hgq (by omega)
        replace hx5 := hx5.kept hgq (by intro e; have := Option.some.inj e; omega)
        replace hw := hw.kept hgq (by omega)
        replace ht := ht.kept hgq (ht.apart_blk (by omega))
        replace hg := grownBy_trans hg hgq
        clear hgq
        have hzb' : 0 ≤ zb ∧ zb ≤ 65 := by simp at hzb; omega
        have hw := hw.top
        refine go2 ?_
        refine s_call3 (wn rfl) rfl rfl rfl rfl (l05DrawWord_any q B c bs ((xss.length : Int) + za) zb zb.toNat _ (by omega) (by omega) (by omega) hs) ?_
        rintro dv v28 ⟨wd, hd, hdl, hs', hgq⟩
        have zv28 := hgq.size
        replace hs := hs'
        replace hx2 := hx2.kept hgq (by intro e; have := Option.some.inj e; omega)
        replace hm := hm.kept hgq (by omega)
        replace hx5 := hx5.kept hgq (by intro e; have := Option.some.inj e; omega)
        replace hw := hw.kept hgq (by omega)
        replace hg := grownBy_trans hg hgq
        clear hgq
        have sdv := hd.sv
        refine go2 ?_
        refine s_storePut (wn rfl) rfl rfl hw (by omega) (by omega) hd (by decide) (by omega) (by omega) (fun v29 hwN huN hgN hvlt keep hcu => ?_)
        have hltN := fun g (e : wv.ownBlock = some g) => hvlt g e
        have zN := hgN.size
        replace hs := hs.kept hgN (fun k hk => by have := hltN k hk; have := hs.low; omega)
        replace hx2 := hx2.kept hgN (fun e => by have := hltN _ e; omega)
        replace hx5 := hx5.kept hgN (fun e => by have := hltN _ e; omega)
        replace hm := hm.apart2 hmv hgN (fun g e => .inr (by have := hltN g e; omega))
        replace hg := gr_step hg hgN (fun k hk => by have := hltN k hk; omega)
        replace hw := hwN
        clear hwN
        refine go2 ?_
        exact ⟨wv, _, rfl, rfl, rfl, rfl, hx2, hx5, hm, hw.top, hs, hg, by omega⟩
      refine go2 ?_
      exact ⟨wv, _, rfl, rfl, rfl, rfl, hx2, hx5, hm, hw.top, hs, hg, by omega⟩
    refine go2 ?_
    refine cond_dec rfl (fun e5 => ?_) (fun e5 => ?_)
    · refine go2 ?_
      refine s_build1 (B := v5.heap.size) (wn rfl) rfl rfl (Nat.le_refl _) (fun u v30 hu su hga _ => ?_)
      have hba := below_of_grownBy hga
      have zv30 := hba.size
      replace hs := hs.below hba
      replace hx2 := hx2.below hba
      replace hm := hm.below hba
      replace hx5 := hx5.below hba
      replace hw := hw.below hba
      replace hg := gr_step hg (grownBy_of_below hba none) (fun k hk => by cases hk)
      clear hba hga
      refine go2 ?_
      refine s_build1V (B := v0.heap.size) (wn rfl) rfl rfl su.one (by omega) (fun tb v31 ht st hga _ => ?_)
      have hba := below_of_grownBy hga
      have zv31 := hba.size
      replace hs := hs.below hba
      replace hx2 := hx2.below hba
      replace hm := hm.below hba
      replace hx5 := hx5.below hba
      replace hw := hw.below hba
      replace hu := hu.below hba
      replace hg := gr_step hg (grownBy_of_below hba none) (fun k hk => by cases hk)
      clear hba hga
      refine go2 ?_
      obtain ⟨us, ho1, -⟩ := hw.rws
      have hltN := fun g (e : wv.ownBlock = some g) => (ho1.lt g e).1
      clear ho1 us
      refine s_appendM (wn rfl) rfl rfl rfl hw ht.rd hu (by omega) (by decide) (by omega) (by omega) (fun wv2 v32 hwN so hgN => ?_)
      have zN := hgN.size
      replace hs := hs.kept hgN (fun k hk => by have := hltN k hk; have := hs.low; omega)
      replace hx2 := hx2.kept hgN (fun e => by have := hltN _ e; omega)
      replace hx5 := hx5.kept hgN (fun e => by have := hltN _ e; omega)
      replace hm := hm.apart2 hmv hgN (fun g e => .inr (by have := hltN g e; omega))
      replace hg := gr_step hg hgN (fun k hk => by have := hltN k hk; omega)
      replace hw := hwN
      clear hwN
      refine go2 ?_
      exact ⟨wv2, _, rfl, rfl, rfl, rfl, hx2, hx5, hm, hw.top, hs, hg, by omega⟩
    refine go2 ?_
    exact ⟨wv, _, rfl, rfl, rfl, rfl, hx2, hx5, hm, hw.top, hs, hg, by omega⟩
  clear hs hg hx2 hx5 hm hw hwl sw hc5
  rintro r v33 ⟨wv, wss, r2, r4, r5, r7, hx2, hx5, hm, hw, hs, hg, hEl⟩
  have zv33 := hg.size
  have hc5 := hx5.cell
  have sw := hw.sv
  refine know (t := 2) r2 ?_; refine know (t := 4) r4 ?_; refine know (t := 5) r5 ?_; refine know (t := 7) r7 ?_
  refine go2 ?_
  refine s_call2 (wn rfl) rfl rfl rfl (l01Next_any q 30 B c bs _ hs (by omega)) ?_
  rintro _ v34 ⟨kz, rfl, hkz0, hkz, hs', hgq⟩
  have zv34 := hgq.size
  replace hs := hs'
  replace hx2 := hx2.kept hgq (by intro e; have := Option.some.inj e; omega)
  replace hx5 := hx5.kept hgq (by intro e; have := Option.some.inj e; omega)
  replace hm := hm.kept hgq (by omega)
  replace hw := hw.kept hgq (by omega)
  replace hg := grownBy_trans hg hgq
  clear hgq
  have hc5 := hx5.cell
  refine go2 ?_
  refine cond_dec rfl (fun e9 => ?_) (fun e9 => ?_)
  · refine go2 ?_
    refine s_build (B := Em) [] (wn rfl) rfl (by simp) (by decide) rfl (by simp) (by omega) (fun ob v35 ho hga _ => ?_)
    have hba := below_of_grownBy hga
    have zv35 := hba.size
    replace hs := hs.below hba
    replace hx2 := hx2.below hba
    replace hx5 := hx5.below hba
    replace hm := hm.below hba
    replace hc5 := cell_below hc5 hba
    replace hg := gr_step hg (grownBy_of_below hba none) (fun k hk => by cases hk)
    clear hba hga hw
    have hw := OM.empty (E := v35.heap.size) (U := 2) ho
    refine go2 ?_
    refine s_storeBox (wn rfl) rfl rfl hm.sv.one hx2 (fun v36 hxz hgz => ?_)
    have hmz := hm.box hx2 (by decide) (by decide) hgz
    have hwz := hw.box hx2 (by decide) (by decide) hgz
    have hB2 := hB1.trans (gr_below hg hB1.size (by omega))
    have hB3 := hB2.trans (hx2.below_of hgz hB2.size)
    refine go2 ?_
    exact end_cellT Try.results11 rfl rfl hxz.cell ⟨x, _, ob, _, rfl, hmz.rl, hwz.rl, hB3⟩
  refine go2 ?_
  refine s_storeBox (wn rfl) rfl rfl hm.sv.one hx2 (fun v37 hxz hgz => ?_)
  have hmz := hm.box hx2 (by decide) (by decide) hgz
  have hwz := hw.box hx2 (by decide) (by decide) hgz
  have hB2 := hB1.trans (gr_below hg hB1.size (by omega))
  have hB3 := hB2.trans (hx2.below_of hgz hB2.size)
  refine go2 ?_
  exact end_cellT Try.results11 rfl rfl hxz.cell ⟨x, _, wv, _, rfl, hmz.rl, hwz.rl, hB3⟩

end Go.Proofs.Ytmdimdbfgibflaa
