/- Plain words on lists: a form of moves is a maniplex if the moves are like those of one; renumbering. No program in sight. -/
import Derived.Test.YtlodnhflfijomaaP20
import Derived.Test.YtlodnhflfijomaaPC
namespace Go.Mem
set_option linter.unusedVariables false
/-- what is known of the points that maps lead p to, in order -/
structure Obt (n : Nat) (rs : List (List Int)) (p : Int) (O : List Int) : Prop where
  nodup : O.Nodup
  rng : ∀ x ∈ O, 0 ≤ x ∧ x < n
  shut : ∀ x ∈ O, ∀ m ∈ rs, gi m x ∈ O
  pos : 0 < O.length
  first : gi O 0 = p
  rch : ∀ x ∈ O, Rch rs p x
def frmO (n : Nat) (rs : List (List Int)) (O : List Int) : List (List Int) := rs.map fun m => O.map fun x => gi (numIn n O) (gi m x)
theorem bfs_first {ms : List (List Int)} {p : Int} : ∀ i : Nat, gi (bfs ms p i) 0 = p ∧ 0 < (bfs ms p i).length
  | 0 => by simp [bfs, gi]
  | i + 1 => by
    obtain ⟨h1, h2⟩ := bfs_first (ms := ms) (p := p) i
    unfold bfs
    split
    · refine ⟨by rw [gi_visits (by omega) (by omega)]; exact h1, ?_⟩
      have := length_visits (bfs ms p i) (images ms (gi (bfs ms p i) i))
      omega
    · exact ⟨h1, h2⟩
section
variable {n : Nat} {rs : List (List Int)} {p : Int} {O : List Int}
theorem obt_orbit (hs : Syst n rs) (hp : 0 ≤ p ∧ p < n) (hn : n ≤ 1000) : Obt n rs p (orbit rs p) := by
  have hm : ∀ y : Int, y ∈ orbit rs p ↔ Rch rs p y := fun y => mem_orbit hs hp hn
  have hf : gi (orbit rs p) 0 = p ∧ 0 < (orbit rs p).length := bfs_first 1000
  exact ⟨orbit_nodup _ _, fun x hx => ((hm x).1 hx).rng hs hp, fun x hx m hmm => (hm _).2 (.step ((hm x).1 hx) hmm), hf.2, hf.1, fun x hx => (hm x).1 hx⟩
theorem num_at (hnd : O.Nodup) (hr : ∀ x ∈ O, 0 ≤ x ∧ x < n) {k : Nat} (hk : k < O.length) : gi (numIn n O) (gi O k) = k := by
  unfold numIn
  refine gi_laidTo (fun j hj => hr _ (gi_in hj)) (fun i j hi hj e => ?_) O.length (Nat.le_refl _) k hk
  have := gi_inj hnd (a := (i : Int)) (b := (j : Int)) (by omega) (by omega) e
  exact this
theorem Obt.num (h : Obt n rs p O) {x : Int} (hx : x ∈ O) : 0 ≤ gi (numIn n O) x ∧ gi (numIn n O) x < O.length ∧ gi O (gi (numIn n O) x) = x := by
  obtain ⟨k, hk, rfl⟩ := in_gi hx
  rw [num_at h.nodup h.rng hk]
  exact ⟨by omega, by omega, rfl⟩
theorem Obt.le (h : Obt n rs p O) : O.length ≤ n := nodup_le h.nodup h.rng
theorem frmO_gr {q : Nat} (hq : q < rs.length) : gr (frmO n rs O) q = O.map fun x => gi (numIn n O) (gi (gr rs q) x) := by
  simp [frmO, gr, List.getD, hq]
theorem gi_map {f : Int → Int} {k : Int} (h0 : 0 ≤ k) (hk : k < O.length) : gi (O.map f) k = f (gi O k) := by
  have : k.toNat < O.length := by omega
  simp [gi, List.getD, this]
theorem frmO_gi {q : Nat} (hq : q < rs.length) {k : Int} (h0 : 0 ≤ k) (hk : k < O.length) : gi (gr (frmO n rs O) q) k = gi (numIn n O) (gi (gr rs q) (gi O k)) := by
  rw [frmO_gr hq, gi_map h0 hk]
/-- in the form, the number of a point goes where the point goes -/
theorem frmO_num (h : Obt n rs p O) {q : Nat} (hq : q < rs.length) {x : Int} (hx : x ∈ O) : gi (gr (frmO n rs O) q) (gi (numIn n O) x) = gi (numIn n O) (gi (gr rs q) x) := by
  have hn := h.num hx
  rw [frmO_gi hq hn.1 hn.2.1, hn.2.2]
theorem Obt.inj (h : Obt n rs p O) {x y : Int} (hx : x ∈ O) (hy : y ∈ O) (e : gi (numIn n O) x = gi (numIn n O) y) : x = y := by
  rw [← (h.num hx).2.2, ← (h.num hy).2.2, e]
/-- moves like those of a maniplex, on n points -/
structure Like (n : Nat) (rs : List (List Int)) : Prop where
  r1 : 1 ≤ rs.length
  r5 : rs.length ≤ 5
  n400 : n ≤ 400
  syst : Syst n rs
  free : ∀ q : Nat, q < rs.length → ∀ x : Int, 0 ≤ x ∧ x < n → gi (gr rs q) x ≠ x ∧ gi (gr rs q) (gi (gr rs q) x) = x
  far : ∀ a k : Nat, a + 2 ≤ k → k < rs.length → ∀ x : Int, 0 ≤ x ∧ x < n → gi (gr rs k) (gi (gr rs a) x) = gi (gr rs a) (gi (gr rs k) x) ∧ gi (gr rs a) x ≠ gi (gr rs k) x
theorem frmO_man (hl : Like n rs) (h : Obt n rs p O) : IsMan (frmO n rs O) := by
  have hr1 := hl.r1
  have hle := h.le
  have h4 := hl.n400
  have hlen : (frmO n rs O).length = rs.length := by simp [frmO]
  have hnf : nf (frmO n rs O) = O.length := by
    have h0 := frmO_gr (n := n) (O := O) (q := 0) (rs := rs) hr1
    rw [show ((0 : Nat) : Int) = 0 from rfl] at h0
    unfold nf; rw [h0]; simp
  have hin : ∀ q : Nat, q < rs.length → ∀ x ∈ O, gi (gr rs q) x ∈ O := fun q hq x hx => h.shut x hx _ (gr_in hq)
  have hO : ∀ k : Int, 0 ≤ k → k < O.length → gi O k ∈ O := fun k h0 hk => gi_mem h0 hk
  have hrg : ∀ q : Nat, q < rs.length → ∀ k : Int, 0 ≤ k → k < O.length → 0 ≤ gi (gr (frmO n rs O) q) k ∧ gi (gr (frmO n rs O) q) k < O.length := fun q hq k h0 hk => by
    rw [frmO_gi hq h0 hk]
    have := h.num (hin q hq _ (hO k h0 hk))
    exact ⟨this.1, this.2.1⟩
  have hinv : ∀ q : Nat, q < rs.length → ∀ k : Int, 0 ≤ k → k < O.length → gi (gr (frmO n rs O) q) (gi (gr (frmO n rs O) q) k) = k := fun q hq k h0 hk => by
    have hx := hO k h0 hk
    have e : k = gi (numIn n O) (gi O k) := by
      have hk' : k.toNat < O.length := by omega
      have := num_at h.nodup h.rng hk'
      rw [show ((k.toNat : Nat) : Int) = k by omega] at this
      exact this.symm
    conv => lhs; rw [e]
    rw [frmO_num h hq hx, frmO_num h hq (hin q hq _ hx), (hl.free q hq _ (h.rng _ hx)).2, ← e]
  have hne : ∀ q : Nat, q < rs.length → ∀ k : Int, 0 ≤ k → k < O.length → gi (gr (frmO n rs O) q) k ≠ k := fun q hq k h0 hk e => by
    have hx := hO k h0 hk
    have e2 : k = gi (numIn n O) (gi O k) := by
      have hk' : k.toNat < O.length := by omega
      have := num_at h.nodup h.rng hk'
      rw [show ((k.toNat : Nat) : Int) = k by omega] at this
      exact this.symm
    rw [frmO_gi hq h0 hk] at e
    exact (hl.free q hq _ (h.rng _ hx)).1 (h.inj (hin q hq _ hx) hx (by rw [e, ← e2]))
  have hrow : ∀ q : Nat, q < rs.length → (gr (frmO n rs O) q).length = O.length := fun q hq => by rw [frmO_gr hq]; simp
  have h2 : 2 ≤ O.length := by
    refine Classical.byContradiction fun hlt => ?_
    have h1 : O.length = 1 := by have := h.pos; omega
    have := hrg 0 hr1 0 (by omega) (by omega)
    exact hne 0 hr1 0 (by omega) (by omega) (by omega)
  refine ⟨⟨by omega, by have := hl.r5; omega, by omega, by omega, fun q hq => ?_, fun a ha k hak hk f hf => ?_⟩, ?_⟩
  · rw [hlen] at hq
    have hlq := hrow q hq
    refine ⟨by rw [hnf]; exact hlq, ⟨by omega, fun x hx => ?_, surj_nodup hlq (fun x h0 hx => ?_)⟩, fun i hi => ?_⟩
    · obtain ⟨k, hk, rfl⟩ := in_gi hx
      have := hrg q hq k (by omega) (by omega)
      omega
    · have h1 := hrg q hq x h0 hx
      rw [← hinv q hq x h0 hx]
      exact gi_mem h1.1 (by omega)
    · exact ⟨hne q hq i (by omega) (by omega), hinv q hq i (by omega) (by omega)⟩
  · rw [hlen] at ha hk
    rw [hnf] at hf
    have hx := hO (f : Int) (by omega) (by omega)
    have ha' : a < rs.length := by omega
    obtain ⟨f1, f2⟩ := hl.far a k hak hk _ (h.rng _ hx)
    have ea := frmO_gi (n := n) (O := O) ha' (k := (f : Int)) (by omega) (by omega)
    have ek := frmO_gi (n := n) (O := O) hk (k := (f : Int)) (by omega) (by omega)
    refine ⟨?_, fun e => f2 ?_⟩
    · rw [ea, ek, frmO_num h hk (hin a ha' _ hx), frmO_num h ha' (hin k hk _ hx), f1]
    · rw [ea, ek] at e
      exact h.inj (hin a ha' _ hx) (hin k hk _ hx) e
  · have hs : Syst O.length (frmO n rs O) := fun m hm => by
      obtain ⟨q, hq, rfl⟩ := mem_gr hm
      rw [hlen] at hq
      refine ⟨hrow q hq, fun x hx => ?_⟩
      obtain ⟨k, hk, rfl⟩ := in_gi hx
      rw [hrow q hq] at hk
      exact hrg q hq k (by omega) (by omega)
    rw [hnf, orbit_full hs (by omega) (by omega)]
    intro x h0 hx
    have key : ∀ y : Int, Rch rs p y → y ∈ O ∧ Rch (frmO n rs O) 0 (gi (numIn n O) y) := fun y hy => by
      have hp : p ∈ O := by rw [← h.first]; exact gi_mem (by omega) (by have := h.pos; omega)
      induction hy with
      | refl =>
        refine ⟨hp, ?_⟩
        have : gi (numIn n O) p = 0 := by
          have := num_at h.nodup h.rng (k := 0) h.pos
          rw [show ((0 : Nat) : Int) = 0 from rfl, h.first] at this
          exact this
        rw [this]; exact .refl _
      | @step y m hr hm ih =>
        obtain ⟨q, hq, rfl⟩ := mem_gr hm
        refine ⟨hin q hq _ ih.1, ?_⟩
        rw [← frmO_num h hq ih.1]
        exact .step ih.2 (gr_in (by rw [hlen]; exact hq))
    have hxO := hO x h0 hx
    have e : x = gi (numIn n O) (gi O x) := by
      have hk' : x.toNat < O.length := by omega
      have := num_at h.nodup h.rng hk'
      rw [show ((x.toNat : Nat) : Int) = x by omega] at this
      exact this.symm
    rw [e]
    exact (key _ (h.rch _ hxO)).2
theorem frm_man (hl : Like n rs) (hp : 0 ≤ p ∧ p < n) : IsMan (frm n rs p) := frmO_man hl (obt_orbit hl.syst hp (by have := hl.n400; omega))
end
section
variable {ms : List (List Int)}
theorem IsMan.like (hm : IsMan ms) : Like (nf ms) ms := by
  refine ⟨hm.m0.r1, hm.m0.r5, hm.m0.f400, hm.syst, fun q hq x hx => ?_, fun a k hak hk x hx => ?_⟩
  · have := (hm.m0.row q hq).2.2 x.toNat (by rw [(hm.m0.row q hq).1]; omega)
    rw [show ((x.toNat : Nat) : Int) = x by omega] at this
    exact this
  · have := hm.m0.far a (by omega) k hak hk x.toNat (by omega)
    unfold FarAt at this
    rw [show ((x.toNat : Nat) : Int) = x by omega] at this
    exact this
theorem gr_rev {q : Nat} (hq : q < ms.length) : gr ms.reverse q = gr ms (ms.length - 1 - q : Nat) := by
  simp [gr, List.getD, List.getElem?_reverse hq]
theorem IsMan.revLike (hm : IsMan ms) : Like (nf ms) ms.reverse := by
  have hl := hm.like
  refine ⟨by simp; exact hl.r1, by simp; exact hl.r5, hl.n400, rev_syst hm, fun q hq x hx => ?_, fun a k hak hk x hx => ?_⟩
  · rw [gr_rev (by simpa using hq)]
    exact hl.free _ (by simp at hq; omega) x hx
  · simp at hk
    rw [gr_rev hk, gr_rev (by omega)]
    have := hl.far (ms.length - 1 - k) (ms.length - 1 - a) (by omega) (by omega) x hx
    exact ⟨this.1.symm, this.2.symm⟩
theorem dual_man (hm : IsMan ms) : IsMan (frm (nf ms) ms.reverse 0) := frm_man hm.revLike (by have := hm.m0.f2; omega)
theorem man_orbit_len (hm : IsMan ms) {f : Int} (hf : 0 ≤ f ∧ f < nf ms) : (orbit ms f).length = nf ms := by
  have h4 := hm.m0.f400
  have hob := obt_orbit hm.syst hf (by omega)
  obtain ⟨O, hO⟩ : ∃ O, O = orbit ms f := ⟨_, rfl⟩
  have hmem : ∀ y : Int, Rch ms f y → y ∈ O := fun y hy => by rw [hO]; exact (mem_orbit hm.syst hf (by omega)).2 hy
  rw [← hO] at hob ⊢
  have hle := hob.le
  have hall : ∀ x : Int, 0 ≤ x → x < nf ms → x ∈ O := fun x h0 hx => hmem x ((hm.sym.back 0 f (by omega) (by omega) (hm.all hf.1 hf.2)).trans (hm.all h0 hx))
  have := List.Nodup.length_le_of_subset (l₁ := idl (nf ms)) (l₂ := O) (by
    unfold idl
    exact List.pairwise_map.2 (List.nodup_range.imp fun h e => h (by omega))) (fun x hx => by
    obtain ⟨i, hi, rfl⟩ := List.mem_map.1 hx
    have := List.mem_range.1 hi
    exact hall i (by omega) (by omega))
  simp at this
  omega
/-- moves renumbered by p -/
def ren (ms : List (List Int)) (p : List Int) : List (List Int) := ms.map fun m => laidTo p.length p (fun f : Nat => gi p (gi m f)) p.length
theorem ren_frm (hm : IsMan ms) {f : Int} (hf : 0 ≤ f ∧ f < nf ms) : ren ms (numIn (nf ms) (orbit ms f)) = frm (nf ms) ms f := by
  have h4 := hm.m0.f400
  have hob := obt_orbit hm.syst hf (by omega)
  have hol := man_orbit_len hm hf
  have hfr : frm (nf ms) ms f = frmO (nf ms) ms (orbit ms f) := rfl
  rw [hfr]
  generalize orbit ms f = O at *
  unfold ren frmO
  refine List.map_congr_left fun m hmm => ?_
  have hnl := length_numIn (nf ms) O
  rw [hnl]
  have hbij : ∀ x : Int, 0 ≤ x → x < nf ms → x ∈ O := fun x h0 hx => full_mem hob.nodup hob.rng hol h0 hx
  refine list_ext_gi (by rw [length_laidTo]; simp [hol]) fun k h0 hk => ?_
  rw [length_laidTo] at hk
  rw [gi_map h0 (by omega)]
  have hx := gi_mem (xs := O) h0 (by omega)
  have hxr := hob.rng _ hx
  have e : gi (numIn (nf ms) O) (gi O k) = k := by
    have := num_at (n := nf ms) hob.nodup hob.rng (k := k.toNat) (by omega)
    rw [show ((k.toNat : Nat) : Int) = k by omega] at this
    exact this
  have := gi_laidTo (c := nf ms) (L := numIn (nf ms) O) (v := fun f : Nat => gi (numIn (nf ms) O) (gi m f)) (fun j hj => by
      have := hob.num (hbij j (by omega) (by omega)); omega) (fun i j hi hj e => by
      have := hob.inj (hbij i (by omega) (by omega)) (hbij j (by omega) (by omega)) e
      rw [this]) (nf ms) (by omega) (gi O k).toNat (by omega)
  rw [show (((gi O k).toNat : Nat) : Int) = gi O k by omega, e] at this
  exact this
end
end Go.Mem
