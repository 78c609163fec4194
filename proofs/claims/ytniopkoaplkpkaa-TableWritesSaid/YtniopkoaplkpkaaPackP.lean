/- Plain law of packing: a number's bytes, and a whole number folded to one that isn't below 0. No condition. -/
import Derived.Test.YtniopkoaplkpkaaBase
namespace Go.Proofs.Ytniopkoaplkpkaa
open Go.RowKit
set_option linter.unusedVariables false
namespace Pk

/-- a number's bytes -/
def numB (n : Nat) : List UInt8 := if n < 128 then [UInt8.ofNat n] else UInt8.ofNat (128 + n % 128) :: numB (n / 128)
termination_by n
decreasing_by omega

theorem numB_lo {n : Nat} (h : n < 128) : numB n = [UInt8.ofNat n] := by rw [numB, if_pos h]
theorem numB_hi {n : Nat} (h : 128 ≤ n) : numB n = UInt8.ofNat (128 + n % 128) :: numB (n / 128) := by rw [numB, if_neg (by omega)]

theorem numB_len_aux (k : Nat) : ∀ n, n < 128 ^ (k + 1) → (numB n).length ≤ k + 1 := by
  induction k with
  | zero => intro n h; rw [numB_lo (by simpa using h)]; simp
  | succ k ih =>
    intro n h
    by_cases hlt : n < 128
    · rw [numB_lo hlt]; simp
    · rw [numB_hi (by omega)]
      have : n / 128 < 128 ^ (k + 1) := by
        rw [Nat.pow_succ] at h
        exact Nat.div_lt_of_lt_mul (by rw [Nat.mul_comm]; exact h)
      have := ih _ this
      simp; omega
theorem numB_len {n : Nat} (h : n < 18446744073709551616) : (numB n).length ≤ 10 := numB_len_aux 9 n (Nat.lt_of_lt_of_le h (by decide))
theorem numB_pos (n : Nat) : 0 < (numB n).length := by rw [numB]; split <;> simp

/-- a whole number, folded -/
def zig (i : Int) : Nat := if i < 0 then (2 * (-1 - i) + 1).toNat else (2 * i).toNat
theorem zig_lt {i : Int} (h0 : -9223372036854775808 ≤ i) (h1 : i ≤ 9223372036854775807) : zig i < 18446744073709551616 := by
  unfold zig; split <;> omega

theorem u8_ofNat (n : Nat) (h : n < 256) : ((UInt8.ofNat n).toNat : Int) = n := by
  have e : (UInt8.ofNat n).toNat = n % 256 := UInt8.toNat_ofNat'
  rw [e]; omega
theorem bv_ofNat (n : Nat) (h : n < 256) : Value.int .u8 (n : Int) = bv (UInt8.ofNat n) := by
  unfold bv; rw [u8_ofNat n h]

theorem or128 (n : Nat) : bits .or .u8 ((n : Int) % 256) 128 = ((128 + n % 128 : Nat) : Int) := by
  have h : (n : Int) % 256 = ((n % 256 : Nat) : Int) := by omega
  rw [h, show (128 : Int) = ((128 : Nat) : Int) from rfl, u8_or_nat (n % 256) 128 (by omega) (by omega)]
  congr 1
  have key : ∀ m : Fin 256, m.val ||| 128 = 128 + m.val % 128 := by decide +kernel
  have := key ⟨n % 256, by omega⟩
  simp only at this
  rw [this]; omega

theorem xor_zero64 (x : Int) (h0 : 0 ≤ x) (h1 : x ≤ 18446744073709551615) : bits .xor .u64 x 0 = x := by
  rw [u64_xor x 0 h0 (by omega) (by omega) (by omega)]; simp; omega
theorem xor_ones64 (x : Int) (h0 : 0 ≤ x) (h1 : x ≤ 18446744073709551615) : bits .xor .u64 x 18446744073709551615 = 18446744073709551615 - x := by
  rw [u64_xor x _ h0 (by omega) (by omega) (by omega)]
  obtain ⟨n, rfl⟩ := Int.eq_ofNat_of_zero_le h0
  have e : ∀ m : Nat, m < 2 ^ 64 → m ^^^ (2 ^ 64 - 1) = 2 ^ 64 - 1 - m := by
    intro m hm
    have := congrArg BitVec.toNat (BitVec.xor_allOnes (x := BitVec.ofNat 64 m))
    simp only [BitVec.toNat_xor, BitVec.toNat_not, BitVec.toNat_allOnes, BitVec.toNat_ofNat, Nat.mod_eq_of_lt hm] at this
    exact this
  have := e n (by omega)
  simp only [Nat.reducePow, Nat.reduceSub] at this
  rw [show (Int.toNat (n : Int)) = n from rfl, show Int.toNat (18446744073709551615 : Int) = 18446744073709551615 from rfl, this]
  omega

theorem zig_eq (i : Int) (h0 : -9223372036854775808 ≤ i) (h1 : i ≤ 9223372036854775807) :
    bits .xor .u64 (IntKind.u64.wrap (IntKind.u64.wrap i * 2)) (IntKind.u64.wrap (i / 9223372036854775808)) = (zig i : Int) := by
  simp only [IntKind.wrap_u64]
  unfold zig
  by_cases h : i < 0
  · have e : i / 9223372036854775808 % 18446744073709551616 = 18446744073709551615 := by omega
    rw [e, xor_ones64 _ (by omega) (by omega), if_pos h]; omega
  · have e : i / 9223372036854775808 % 18446744073709551616 = 0 := by omega
    rw [e, xor_zero64 _ (by omega) (by omega), if_neg h]; omega
end Pk
end Go.Proofs.Ytniopkoaplkpkaa
