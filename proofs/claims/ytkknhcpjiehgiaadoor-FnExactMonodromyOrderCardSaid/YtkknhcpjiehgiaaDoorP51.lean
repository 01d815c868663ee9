/- Plain words on lists: the text of a list of numbers, each with a blank behind it. No program in sight. -/
import Derived.Lib.ItoaLen
import Derived.Lib.ItoaMem
import Derived.Lib.UnsafeStr
namespace Go.Mem
open Go.Lib
set_option linter.unusedVariables false
def txt (xs : List Int) : List UInt8 := xs.flatMap fun n => itoa n ++ [32]
theorem txt_snoc (xs : List Int) (x : Int) : txt (xs ++ [x]) = txt xs ++ itoa x ++ [32] := by simp [txt]
theorem txt_cons (x : Int) (xs : List Int) : txt (x :: xs) = itoa x ++ 32 :: txt xs := by simp [txt]
def valD (l : List UInt8) : Nat := l.foldl (fun a d => a * 10 + (d.toNat - 48)) 0
theorem valD_snoc (l : List UInt8) (d : UInt8) : valD (l ++ [d]) = valD l * 10 + (d.toNat - 48) := by simp [valD]
theorem u8_at {u : Nat} (h : u < 10) : (UInt8.ofNat (48 + u)).toNat = 48 + u := by
  rw [UInt8.toNat_ofNat']; omega
theorem valD_dec (u : Nat) : valD (decDigits u) = u := by
  induction u using Nat.strongRecOn with
  | _ u ih =>
    rw [decDigits]
    split
    · rename_i h
      have h2 := u8_at h
      show 0 * 10 + ((UInt8.ofNat (48 + u)).toNat - 48) = u
      rw [h2]; omega
    · rename_i h
      rw [valD_snoc, ih (u / 10) (by omega), u8_at (by omega)]
      omega
theorem dec_digit (u : Nat) : ∀ d ∈ decDigits u, d ≠ 32 := by
  induction u using Nat.strongRecOn with
  | _ u ih =>
    intro d hd
    rw [decDigits] at hd
    have key : ∀ v : Nat, v < 10 → UInt8.ofNat (48 + v) ≠ 32 := fun v hv e => by
      have := u8_at hv
      rw [e] at this
      have h2 : (32 : UInt8).toNat = 32 := rfl
      omega
    split at hd
    · rename_i h
      rw [List.mem_singleton.1 hd]
      exact key u h
    · rename_i h
      rcases List.mem_append.1 hd with h1 | h1
      · exact ih (u / 10) (by omega) d h1
      · rw [List.mem_singleton.1 h1]
        exact key _ (by omega)
theorem itoa_of {x : Int} (h : 0 ≤ x) : itoa x = decDigits x.toNat := by
  have := itoa_nonneg x.toNat
  rwa [show ((x.toNat : Nat) : Int) = x by omega] at this
theorem cut_at {s : UInt8} : ∀ {a b c d : List UInt8}, (∀ x ∈ a, x ≠ s) → (∀ x ∈ b, x ≠ s) → a ++ s :: c = b ++ s :: d → a = b ∧ c = d
  | [], [], c, d, _, _, h => by simpa using h
  | [], y :: b, c, d, _, hb, h => by
    simp at h
    exact absurd h.1.symm (hb y (by simp))
  | x :: a, [], c, d, ha, _, h => by
    simp at h
    exact absurd h.1 (ha x (by simp))
  | x :: a, y :: b, c, d, ha, hb, h => by
    simp only [List.cons_append, List.cons.injEq] at h
    obtain ⟨h1, h2⟩ := cut_at (fun z hz => ha z (List.mem_cons_of_mem _ hz)) (fun z hz => hb z (List.mem_cons_of_mem _ hz)) h.2
    exact ⟨by rw [h.1, h1], h2⟩
theorem txt_inj : ∀ {xs ys : List Int}, (∀ x ∈ xs, 0 ≤ x) → (∀ y ∈ ys, 0 ≤ y) → txt xs = txt ys → xs = ys
  | [], [], _, _, _ => rfl
  | [], y :: ys, _, _, h => by rw [txt_cons] at h; simp [txt] at h
  | x :: xs, [], _, _, h => by rw [txt_cons] at h; simp [txt] at h
  | x :: xs, y :: ys, hx, hy, h => by
    rw [txt_cons, txt_cons, itoa_of (hx x (by simp)), itoa_of (hy y (by simp))] at h
    obtain ⟨h1, h2⟩ := cut_at (dec_digit _) (dec_digit _) h
    have e : x.toNat = y.toNat := by rw [← valD_dec x.toNat, h1, valD_dec]
    have h3 := hx x (by simp)
    have h4 := hy y (by simp)
    rw [txt_inj (fun z hz => hx z (List.mem_cons_of_mem _ hz)) (fun z hz => hy z (List.mem_cons_of_mem _ hz)) h2, show x = y by omega]
theorem txt_len : ∀ {xs : List Int}, (∀ x ∈ xs, 0 ≤ x ∧ x ≤ 1000000) → (txt xs).length ≤ 22 * xs.length
  | [], _ => by simp [txt]
  | x :: xs, h => by
    have h1 := itoa_length_le x (by have := h x (by simp); omega) (by have := h x (by simp); omega)
    have h2 := txt_len fun z hz => h z (List.mem_cons_of_mem _ hz)
    rw [txt_cons]
    simp
    omega
/-- the text as a value -/
def txtV (xs : List Int) : Value := .string ⟨(txt xs).toArray⟩
theorem txtV_inj {xs ys : List Int} (hx : ∀ x ∈ xs, 0 ≤ x) (hy : ∀ y ∈ ys, 0 ≤ y) (h : txtV xs = txtV ys) : xs = ys := by
  unfold txtV at h
  injection h with h
  injection h with h
  refine txt_inj hx hy ?_
  have := congrArg Array.toList h
  simpa using this
end Go.Mem
