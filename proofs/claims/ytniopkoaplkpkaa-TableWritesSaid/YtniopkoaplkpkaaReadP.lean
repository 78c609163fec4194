/- Plain law of reading: what a reader takes, as functions of lists of bytes; what is put is taken; what is cut off is short. No condition. -/
import Derived.Test.YtniopkoaplkpkaaPackP
namespace Go.Proofs.Ytniopkoaplkpkaa
open Go.RowKit
set_option linter.unusedVariables false
namespace Pk

/-- taking a number from its i-th byte on: the error's number, or the number and what is left -/
def numGo (most : Nat) : List UInt8 → Nat → Nat → Except Nat (Nat × List UInt8)
  | [], _, _ => .error 2
  | c :: cs, i, n =>
    if (i = 9 ∧ 1 < c.toNat) ∨ (c.toNat = 0 ∧ 0 < i) then .error 3
    else if 128 ≤ c.toNat then numGo most cs (i + 1) (n + c.toNat % 128 * 128 ^ i)
    else if most < n + c.toNat % 128 * 128 ^ i then .error 6
    else .ok (n + c.toNat % 128 * 128 ^ i, cs)

/-- a reader's number: what comes, the bytes left, the error -/
def numS (most : Nat) (l : List UInt8) (e : Nat) : Nat × List UInt8 × Nat :=
  if e ≠ 0 then (0, l, e) else
    match numGo most l 0 0 with
    | .error k => (0, l, k)
    | .ok (n, cs) => (n, cs, 0)

/-- unfolded -/
def zag (n : Nat) : Int := if n % 2 = 1 then -1 - (n / 2 : Nat) else (n / 2 : Nat)

def rowS (most : Int) (l : List UInt8) (e : Nat) : List UInt8 × List UInt8 × Nat :=
  match numS 18446744073709551615 l e with
  | (n, l1, e1) =>
    if e1 ≠ 0 then ([], l1, e1)
    else if max most 0 < n then ([], l1, 4)
    else if l1.length < n then ([], l1, 2)
    else (l1.take n, l1.drop n, 0)

def endS (l : List UInt8) (e : Nat) : Nat := if e = 0 ∧ 0 < l.length then 4 else e

theorem zag_zig (i : Int) : zag (zig i) = i := by
  unfold zag zig; split <;> split <;> omega

theorem numGo_put (most : Nat) (cs : List UInt8) : ∀ (x i n : Nat), i ≤ 9 → x < 2 ^ (64 - 7 * i) → (i = 0 ∨ 0 < x) → n + x * 128 ^ i ≤ most →
    numGo most (numB x ++ cs) i n = .ok (n + x * 128 ^ i, cs) := by
  intro x
  induction x using Nat.strongRecOn with
  | ind x ih =>
    intro i n hi hx h0 hm
    have h9 : i = 9 → x < 2 := by rintro rfl; simpa using hx
    by_cases h : x < 128
    · rw [numB_lo h]
      have e : (UInt8.ofNat x).toNat = x := by rw [UInt8.toNat_ofNat']; omega
      have e2 : x % 128 = x := by omega
      simp only [List.cons_append, List.nil_append, numGo, e, e2]
      rw [if_neg (by omega), if_neg (by omega), if_neg (by omega)]
    · have hi9 : i < 9 := by omega
      rw [numB_hi (by omega)]
      have e : (UInt8.ofNat (128 + x % 128)).toNat = 128 + x % 128 := by rw [UInt8.toNat_ofNat']; omega
      have e2 : (128 + x % 128) % 128 = x % 128 := by omega
      simp only [List.cons_append, numGo, e, e2]
      rw [if_neg (by omega), if_pos (by omega)]
      have hp : 2 ^ (64 - 7 * i) = 128 * 2 ^ (64 - 7 * (i + 1)) := by
        rw [show 64 - 7 * i = 7 + (64 - 7 * (i + 1)) from by omega, Nat.pow_add]
      have hsum : x % 128 * 128 ^ i + x / 128 * 128 ^ (i + 1) = x * 128 ^ i := by
        rw [Nat.pow_succ, Nat.mul_comm (128 ^ i) 128, ← Nat.mul_assoc, ← Nat.add_mul]
        congr 1; omega
      rw [ih (x / 128) (by omega) (i + 1) _ (by omega) (by omega) (.inr (by omega)) (by omega)]
      congr 2; omega

theorem numS_put {most x : Nat} (hx : x < 18446744073709551616) (hm : x ≤ most) (cs : List UInt8) : numS most (numB x ++ cs) 0 = (x, cs, 0) := by
  have := numGo_put most cs x 0 0 (by omega) (by simpa using hx) (.inl rfl) (by simpa using hm)
  simp [numS, this]

/-- a number that is cut off is short -/
theorem numGo_cut (most : Nat) : ∀ (x i n k : Nat), i ≤ 9 → x < 2 ^ (64 - 7 * i) → (i = 0 ∨ 0 < x) → k < (numB x).length →
    numGo most ((numB x).take k) i n = .error 2 := by
  intro x
  induction x using Nat.strongRecOn with
  | ind x ih =>
    intro i n k hi hx h0 hk
    cases k with
    | zero => simp [numGo]
    | succ k =>
      by_cases h : x < 128
      · rw [numB_lo h] at hk; simp at hk
      · have h9 : i = 9 → x < 2 := by rintro rfl; simpa using hx
        have hi9 : i < 9 := by omega
        rw [numB_hi (by omega)] at hk ⊢
        have e : (UInt8.ofNat (128 + x % 128)).toNat = 128 + x % 128 := by rw [UInt8.toNat_ofNat']; omega
        simp only [List.take_succ_cons, numGo, e]
        rw [if_neg (by omega), if_pos (by omega)]
        have hp : 2 ^ (64 - 7 * i) = 128 * 2 ^ (64 - 7 * (i + 1)) := by
          rw [show 64 - 7 * i = 7 + (64 - 7 * (i + 1)) from by omega, Nat.pow_add]
        exact ih (x / 128) (by omega) (i + 1) _ k (by omega) (by omega) (.inr (by omega)) (by simpa using hk)

theorem numS_cut {x : Nat} (most : Nat) (hx : x < 18446744073709551616) {k : Nat} (hk : k < (numB x).length) : numS most ((numB x).take k) 0 = (0, (numB x).take k, 2) := by
  have := numGo_cut most x 0 0 k (by omega) (by simpa using hx) (.inl rfl) hk
  simp [numS, this]

theorem numS_bad {most : Nat} {l : List UInt8} {e : Nat} (h : e ≠ 0) : numS most l e = (0, l, e) := by simp [numS, h]
theorem rowS_bad {most : Int} {l : List UInt8} {e : Nat} (h : e ≠ 0) : rowS most l e = ([], l, e) := by simp [rowS, numS_bad h, h]

theorem rowS_put (row cs : List UInt8) (hr : row.length < 18446744073709551616) : rowS row.length (numB row.length ++ (row ++ cs)) 0 = (row, cs, 0) := by
  simp only [rowS, numS_put hr (most := 18446744073709551615) (by omega)]
  rw [if_neg (by omega), if_neg (by omega), if_neg (by simp)]
  simp

theorem rowS_cut (row : List UInt8) (hr : row.length < 18446744073709551616) (k : Nat) (hk : k < (numB row.length ++ row).length) :
    (rowS row.length ((numB row.length ++ row).take k) 0).1 = [] ∧ (rowS row.length ((numB row.length ++ row).take k) 0).2.2 = 2 := by
  by_cases h : k < (numB row.length).length
  · rw [List.take_append_of_le_length (by omega)]
    simp [rowS, numS_cut _ hr h]
  · rw [List.take_append, List.take_of_length_le (by omega)]
    simp only [rowS, numS_put hr (most := 18446744073709551615) (by omega)]
    rw [if_neg (by omega), if_neg (by omega), if_pos (by simp at hk ⊢; omega)]
    simp

/-- what is taken is no more than 64 bits -/
theorem numGo_lt (most : Nat) (hm : most < 18446744073709551616) : ∀ (l : List UInt8) (i n x : Nat) (cs : List UInt8), numGo most l i n = .ok (x, cs) → x ≤ most ∧ ∃ p, l = p ++ cs ∧ 0 < p.length
  | [], _, _, _, _, h => by simp [numGo] at h
  | c :: l, i, n, x, cs, h => by
    simp only [numGo] at h
    split at h
    · cases h
    · split at h
      · obtain ⟨h1, p, h2, h3⟩ := numGo_lt most hm l _ _ _ _ h
        exact ⟨h1, c :: p, by simp [h2], by simp⟩
      · split at h
        · cases h
        · simp at h
          obtain ⟨rfl, rfl⟩ := h
          exact ⟨by omega, [c], rfl, by simp⟩

theorem numS_le {most : Nat} (hm : most < 18446744073709551616) (l : List UInt8) (e : Nat) : (numS most l e).1 ≤ most ∧ (numS most l e).2.1.length ≤ l.length := by
  unfold numS
  split
  · simp
  · cases h : numGo most l 0 0 with
    | error k => simp
    | ok r =>
      obtain ⟨x, cs⟩ := r
      obtain ⟨h1, p, rfl, _⟩ := numGo_lt most hm _ _ _ _ _ h
      simp [h1]

theorem and_not128 (c : Nat) (h : c < 256) : bits .andNot .u8 (c : Int) 128 = ((c % 128 : Nat) : Int) := by
  have key : ∀ m : Fin 256, bits .andNot .u8 (m.val : Int) 128 = ((m.val % 128 : Nat) : Int) := by decide +kernel
  exact key ⟨c, h⟩

theorem or_part (k m c : Nat) (hk : k ≤ 9) (hm : m < 128 ^ k) (h9 : k = 9 → c < 2) :
    bits .or .u64 (m : Int) (IntKind.u64.wrap ((c : Int) % 128 * 2 ^ (k * 7))) = ((m + c % 128 * 128 ^ k : Nat) : Int) := by
  have e : (128 : Nat) ^ k = 2 ^ (k * 7) := by rw [show (128 : Nat) = 2 ^ 7 from rfl, ← Nat.pow_mul, Nat.mul_comm]
  have ep : (c : Int) % 128 = ((c % 128 : Nat) : Int) := by omega
  have h9' : k = 9 → c % 128 < 2 := by omega
  have hp : c % 128 < 128 := by omega
  rw [ep]
  generalize c % 128 = p at *
  have hlt : p * 2 ^ (k * 7) < 18446744073709551616 := by
    by_cases h : k = 9
    · subst h; have := h9' rfl; omega
    · have : 2 ^ (k * 7) ≤ 2 ^ 56 := Nat.pow_le_pow_right (by omega) (by omega)
      have := Nat.mul_le_mul (show p ≤ 127 by omega) this
      omega
  have hw : IntKind.u64.wrap ((p : Int) * 2 ^ (k * 7)) = ((p * 2 ^ (k * 7) : Nat) : Int) := by
    rw [IntKind.wrap_u64]
    have : (p : Int) * 2 ^ (k * 7) = ((p * 2 ^ (k * 7) : Nat) : Int) := by simp
    rw [this]; omega
  rw [e] at hm ⊢
  have hm64 : m < 18446744073709551616 := Nat.lt_of_lt_of_le hm (by
    have : 2 ^ (k * 7) ≤ 2 ^ 63 := Nat.pow_le_pow_right (by omega) (by omega)
    omega)
  rw [hw, u64_or_nat _ _ hm64 hlt]
  congr 1
  rw [Nat.or_comm, Nat.mul_comm p, ← Nat.two_pow_add_eq_or_of_lt hm, Nat.add_comm]

theorem num_step (k m c : Nat) (hm : m < 128 ^ k) : m + c % 128 * 128 ^ k < 128 ^ (k + 1) := by
  have := Nat.mul_le_mul_right (128 ^ k) (show c % 128 ≤ 127 by omega)
  rw [Nat.pow_succ]; omega
end Pk
end Go.Proofs.Ytniopkoaplkpkaa
