/- Contracts: the text of a list of numbers. Condition: the table of powers of ten reads as its initialiser lays it. -/
import Derived.Test.YtkknhcpjiehgiaaDoorP51
import Derived.Test.YtkknhcpjiehgiaaDoorLr
import Derived.Test.YtkknhcpjiehgiaaDoorSi
import Derived.Test.YtkknhcpjiehgiaaDoorFA
namespace Go.Mem
open Go.RowKit
set_option linter.unusedVariables false
theorem ownsRow_below {w w' : World} {B size : Nat} {e : TypeId} {v : Value} {n : Nat} {xs : List Value} (h : w.ownsRow B e size v n xs) (hg : w.grownBy w' none) : w'.ownsRow B e size v n xs :=
  h.kept hg (by cases v.ownBlock with
    | none => exact .inl rfl
    | some k => exact .inr (by simp))
theorem byteCells_app (a b : List UInt8) : Lib.byteCells (a ++ b) = Lib.byteCells a ++ Lib.byteCells b := by simp [Lib.byteCells]
theorem txt_ne {xs : List Int} (h : xs ≠ []) : txt xs ≠ [] := by
  cases xs with
  | nil => exact absurd rfl h
  | cons x xs => rw [txt_cons]; simp
end Go.Mem
namespace Go.Proofs.YtkknhcpjiehgiaaDoor
open Go.Mem Go.RowKit
set_option linter.unusedVariables false
set_option linter.unusedSimpArgs false

theorem AppendInt_any (B n : Nat) (i : Int) (h0 : -9223372036854775808 ≤ i) (h1 : i ≤ 9223372036854775807) (sv : Value) (xs : List Value) (w : World) (hown : w.ownsRow B 5 1 sv n xs) (hBw : B ≤ w.heap.size) (hlim : n + 21 ≤ 140737488355328)
    (htab : Lib.TabBelow Tryd.prog B w "internal/strconv.uint64pow10" .u64 Lib.pow10Tab) :
    Ret Tryd.prog 45 #[sv, .int .i64 i, .int .i64 10] w fun r w' => w'.ownsRow B 5 1 r (n + (Lib.itoa i).length) (xs ++ Lib.byteCells (Lib.itoa i)) ∧ Below B w w' :=
  Calls.mono (Any.strconv_AppendInt_10 Tryd.laysAppI B n i h0 h1 sv xs w hown hBw hlim htab) (by rintro e w' ⟨v', he, h1, h2, _⟩; exact ⟨v', he, h1, h2⟩)

set_option maxHeartbeats 8000000 in
set_option maxRecDepth 100000 in
theorem keyOf_any (v : Value) (xs : List Int) (w : World) (hv : IL w v xs) (hr : ∀ x ∈ xs, 0 ≤ x ∧ x ≤ 1000000) (hne : xs ≠ []) (hl : xs.length ≤ 1000) (hT : Lib.TabIs Tryd.prog w "internal/strconv.uint64pow10" .u64 Lib.pow10Tab) :
    Ret Tryd.prog 34 #[v] w fun r w' => r = txtV xs ∧ Below w.heap.size w w' := by
  have shv := hv.sv
  have hTB := Lib.tabBelow_of_tabIs hT
  refine enter1 21 Tryd.func34 rfl Tryd.ntmps34 rfl (fun fr => ?_)
  refine go ?_
  refine w_loop (fun kk fr w' => ∃ (i : Nat) (bv : Value), kk = xs.length - i ∧ i ≤ xs.length ∧ fr 3 = bv ∧ fr 6 = v ∧ fr 7 = .int .i64 xs.length ∧ fr 8 = .int .i64 i ∧ w'.ownsRow w.heap.size 5 1 bv (txt (xs.take i)).length (Lib.byteCells (txt (xs.take i))) ∧ Below w.heap.size w w') xs.length
    ⟨0, .slice none 0 0, rfl, Nat.zero_le _, rfl, rfl, rfl, rfl, World.ownsRow_nil _ _ _ _, Below.refl _ _⟩ ?_
  rintro kk fr w1 ⟨i, bv, rfl, hi, f3, f6, f7, f8, ho, hb1⟩
  have hv1 := hv.below hb1
  have sz1 := hb1.size
  have htl : (txt (xs.take i)).length ≤ 22 * (xs.take i).length := txt_len fun x hx => hr x (List.mem_of_mem_take hx)
  rw [List.length_take] at htl
  refine know (t := 3) f3 ?_; refine know (t := 6) f6 ?_; refine know (t := 7) f7 ?_; refine know (t := 8) f8 ?_
  refine go ?_
  refine cond_dec rfl (fun hlt => ?_) (fun hge => ?_)
  · have hil : i < xs.length := by omega
    have hx := hr _ (gi_in (xs := xs) (j := i) (by omega))
    refine go ?_
    refine s_call3 (wn rfl) rfl rfl rfl rfl (AppendInt_any w.heap.size _ _ (by omega) (by omega) _ _ _ ho sz1 (by omega) (hTB.on hb1)) ?_
    rintro b2 w2 ⟨ho2, hb2⟩
    have hb12 := hb1.trans hb2
    have sz2 := hb12.size
    refine go ?_
    refine s_build1V (B := w.heap.size) (wn rfl) rfl rfl rfl sz2 (fun tb w3 ht st hg3 _ => ?_)
    have hb3 := below_of_grownBy hg3
    have ho3 := ownsRow_below ho2 hg3
    have hb13 := hb12.trans (hb3.mono sz2)
    have sz3 := hb13.size
    have hil' := Lib.itoa_length_le (gi xs i) (by omega) (by omega)
    refine s_appendB (B := w.heap.size) (wn rfl) rfl rfl rfl ho3 ht.rd rfl (by omega) sz3 (fun b4 w4 ho4 hg4 => ?_)
    have hb4 := hb13.trans (grownBy_below hg4 sz3 (fun k hk => (ho3.lt k hk).1))
    refine go ?_
    exact ⟨xs.length - (i + 1), by omega, i + 1, b4, rfl, by omega, rfl, rfl, rfl, rfl, by
      rw [take_gi (by omega), txt_snoc, byteCells_app, byteCells_app, List.length_append, List.length_append]
      exact ho4, hb4⟩
  obtain rfl : i = xs.length := by omega
  rw [List.take_length] at ho
  refine go ?_
  refine s_p (wn rfl) rfl (y_strB rfl Tryd.underlying62 Tryd.underlying5 Tryd.underlying9 ho (txt_ne hne)) ?_
  refine go ?_
  exact end_one Tryd.results34 rfl ⟨rfl, hb1⟩

end Go.Proofs.YtkknhcpjiehgiaaDoor
