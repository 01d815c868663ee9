/- Contracts: what the laws' marks hold, for rows; a variable's cell beside what is marked. -/
import Derived.Test.YtmfegkjjfmmoaaaF14
namespace Go.Proofs.Ytmfegkjjfmmoaaa
open Go.Mem Go.RowKit

theorem cell_btw {B E : Nat} {w w' : World} {a : Addr} {u : Value} (h : w.cell? a = some u) (hb : Btw B E w w') (ha : a.block < B ∨ E ≤ a.block) : w'.cell? a = some u := by
  rw [World.cell?_of_block (w := w) (hb.block _ (World.block_lt_of_cell? w a h) ha)]; exact h

theorem heldInt64SS_any (v : Value) (xss : List (List Int)) (k : Int) (w : World) (hv : RL w v (mkRows xss k)) (hk : 0 ≤ k) (hl : k + tot xss ≤ 4000000000000000000) :
    Ret Try.prog 28 #[v, .int .i64 k] w fun r w' => r = .int .i64 (k + tot xss) ∧ w = w' := by
  have sv := hv.sv
  have hlr := length_mkRows xss k
  have hcap := sv.le
  refine enter2 21 Try.func28 rfl Try.ntmps28 rfl (fun fr => ?_)
  refine go ?_
  refine w_loop (fun q fr w' => ∃ (i : Nat), q = xss.length - i ∧ i ≤ xss.length ∧ fr 0 = v ∧ fr 1 = .int .i64 (k + tot (xss.take i)) ∧ fr 5 = .int .i64 i ∧ w = w') xss.length
    ⟨0, rfl, Nat.zero_le _, rfl, by simp [tot]; rfl, rfl, rfl⟩ ?_
  rintro q fr _ ⟨i, rfl, hi, f0, f1, f5, rfl⟩
  have sx := sv
  refine know (t := 0) f0 ?_; refine know (t := 1) f1 ?_; refine know (t := 5) f5 ?_
  refine go ?_
  refine cond_dec rfl (fun hlt => ?_) (fun hge => ?_)
  · have h1 := tot_take_succ xss i (by omega)
    have h2 := tot_take_le xss (i + 1)
    have h3 := tot_nonneg (xss.take i)
    refine go ?_
    refine s_ldR (wn rfl) rfl rfl hv (by omega) (by omega) (fun u hu su => ?_)
    rw [gr_mkRows _ _ _ (by omega)] at hu
    refine go ?_
    refine s_call2 (wn rfl) rfl rfl rfl (heldInt64S_any _ _ _ _ hu (by omega) (by omega)) ?_
    rintro _ _ ⟨rfl, rfl⟩
    have hneg : ¬ (k + tot (xss.take i) + ((gr xss i).length : Int) < 0) := by omega
    refine go ?_
    exact ⟨xss.length - (i + 1), by omega, i + 1, rfl, by omega, rfl, by show Value.int _ _ = _; congr 1; omega, rfl, rfl⟩
  · obtain rfl : i = xss.length := by omega
    rw [List.take_length]
    refine go ?_
    exact end_one Try.results28 rfl ⟨rfl, rfl⟩
end Go.Proofs.Ytmfegkjjfmmoaaa
