/- Plain law of the hash: products going round, exclusive or, and that both can be undone. No condition. -/
import Derived.Test.YtcmmnfeodmjpkaaBase
namespace Go.Proofs.Ytcmmnfeodmjpkaa
open Go.RowKit
set_option linter.unusedVariables false
namespace Hs

def times (x y : Int) : Int := (x * y) % 18446744073709551616
def xr (x y : Int) : Int := bits .xor .u64 x y
def fnv (h : Int) (c : UInt8) : Int := times (xr h (c.toNat : Int)) 1099511628211
def fnvs (l : List UInt8) : Int := l.foldl fnv 14695981039346656037
def stir (h : Int) : Int :=
  xr (times (xr h (h / 4294967296)) 14029467366897019727) (times (xr h (h / 4294967296)) 14029467366897019727 / 536870912)

theorem fnvs_nil : fnvs [] = 14695981039346656037 := rfl
theorem fnvs_take (l : List UInt8) (k : Nat) (h : k < l.length) : fnvs (l.take (k + 1)) = fnv (fnvs (l.take k)) l[k] := by
  unfold fnvs
  rw [List.take_succ_eq_append_getElem h, List.foldl_append]; rfl
theorem fnvs_snoc (l : List UInt8) (c : UInt8) : fnvs (l ++ [c]) = fnv (fnvs l) c := by
  unfold fnvs
  rw [List.foldl_append]; rfl

theorem times_bd (x y : Int) : 0 ≤ times x y ∧ times x y ≤ 18446744073709551615 := by unfold times; omega
theorem fnv_bd (h : Int) (c : UInt8) : 0 ≤ fnv h c ∧ fnv h c ≤ 18446744073709551615 := times_bd _ _
theorem fnvs_bd (l : List UInt8) : 0 ≤ fnvs l ∧ fnvs l ≤ 18446744073709551615 := by
  rcases List.eq_nil_or_concat l with rfl | ⟨l', c, rfl⟩
  · decide
  · rw [List.concat_eq_append, fnvs_snoc]; exact fnv_bd _ _

theorem times_eq (x y : Int) : (x % 4294967296 * (y % 4294967296) % 18446744073709551616 +
    (x % 4294967296 * (y / 4294967296) % 18446744073709551616 + x / 4294967296 * (y % 4294967296) % 18446744073709551616) % 18446744073709551616 % 4294967296 * 4294967296 % 18446744073709551616) % 18446744073709551616 = times x y := by
  unfold times
  have hx : x = x % 4294967296 + 4294967296 * (x / 4294967296) := by omega
  have hy : y = y % 4294967296 + 4294967296 * (y / 4294967296) := by omega
  generalize x % 4294967296 = a at *
  generalize x / 4294967296 = b at *
  generalize y % 4294967296 = c at *
  generalize y / 4294967296 = d at *
  subst hx hy
  have : (a + 4294967296 * b) * (c + 4294967296 * d) = a * c + 4294967296 * (a * d + b * c) + 18446744073709551616 * (b * d) := by
    have e1 : a * (4294967296 * d) = 4294967296 * (a * d) := Int.mul_left_comm _ _ _
    have e2 : 4294967296 * b * c = 4294967296 * (b * c) := Int.mul_assoc _ _ _
    have e3 : 4294967296 * b * (4294967296 * d) = 18446744073709551616 * (b * d) := by
      rw [Int.mul_assoc, Int.mul_left_comm b, ← Int.mul_assoc]; rfl
    rw [Int.add_mul, Int.mul_add, Int.mul_add, e1, e2, e3, Int.mul_add]; omega
  rw [this]
  generalize a * c = p
  generalize a * d = q
  generalize b * c = r
  generalize b * d = s
  omega

theorem times_inj {p q : Int} (h1 : (p * q) % 18446744073709551616 = 1) {a b : Int} (ha0 : 0 ≤ a) (ha : a < 18446744073709551616) (hb0 : 0 ≤ b) (hb : b < 18446744073709551616)
    (h : times a p = times b p) : a = b := by
  unfold times at h
  have e : ∀ x : Int, (x * p % 18446744073709551616 * q) % 18446744073709551616 = x % 18446744073709551616 := by
    intro x
    rw [Int.mul_emod, Int.emod_emod, ← Int.mul_emod, Int.mul_assoc, Int.mul_emod, h1, Int.mul_one, Int.emod_emod]
  have ea := e a
  have eb := e b
  rw [h] at ea
  rw [ea] at eb
  omega

theorem xr_nat (a b : Nat) (ha : a < 18446744073709551616) (hb : b < 18446744073709551616) : xr a b = ((a ^^^ b : Nat) : Int) := u64_xor_nat a b ha hb

theorem xr_bd (a b : Int) (ha0 : 0 ≤ a) (ha : a < 18446744073709551616) (hb0 : 0 ≤ b) (hb : b < 18446744073709551616) : 0 ≤ xr a b ∧ xr a b < 18446744073709551616 := by
  obtain ⟨A, rfl⟩ := Int.eq_ofNat_of_zero_le ha0
  obtain ⟨B, rfl⟩ := Int.eq_ofNat_of_zero_le hb0
  rw [show xr (A : Int) (B : Int) = _ from xr_nat A B (by omega) (by omega)]
  have : A ^^^ B < 2 ^ 64 := Nat.xor_lt_two_pow (by omega) (by omega)
  omega

theorem xr_inj {a b c : Int} (ha0 : 0 ≤ a) (ha : a < 18446744073709551616) (hb0 : 0 ≤ b) (hb : b < 18446744073709551616) (hc0 : 0 ≤ c) (hc : c < 18446744073709551616)
    (h : xr a b = xr a c) : b = c := by
  obtain ⟨A, rfl⟩ := Int.eq_ofNat_of_zero_le ha0
  obtain ⟨B, rfl⟩ := Int.eq_ofNat_of_zero_le hb0
  obtain ⟨C, rfl⟩ := Int.eq_ofNat_of_zero_le hc0
  rw [show xr (A : Int) (B : Int) = _ from xr_nat A B (by omega) (by omega), show xr (A : Int) (C : Int) = _ from xr_nat A C (by omega) (by omega)] at h
  have h' : A ^^^ B = A ^^^ C := by omega
  have := congrArg (A ^^^ ·) h'
  simp only [← Nat.xor_assoc, Nat.xor_self, Nat.zero_xor] at this
  omega

theorem shift_inj (k : Nat) (hk : 0 < k) {A B : Nat} (ha : A < 2 ^ 64) (hb : B < 2 ^ 64) (h : A ^^^ (A / 2 ^ k) = B ^^^ (B / 2 ^ k)) : A = B := by
  have step : ∀ d i, 64 ≤ i + d → A.testBit i = B.testBit i := by
    intro d
    induction d using Nat.strongRecOn with
    | ind d ih =>
      intro i hi
      by_cases h64 : 64 ≤ i
      · rw [Nat.testBit_lt_two_pow (Nat.lt_of_lt_of_le ha (Nat.pow_le_pow_right (by omega) h64)), Nat.testBit_lt_two_pow (Nat.lt_of_lt_of_le hb (Nat.pow_le_pow_right (by omega) h64))]
      · have e := congrArg (Nat.testBit · i) h
        simp only [Nat.testBit_xor, ← Nat.shiftRight_eq_div_pow, Nat.testBit_shiftRight] at e
        have e2 : A.testBit (k + i) = B.testBit (k + i) := ih (d - 1) (by omega) (k + i) (by omega)
        rw [e2] at e
        revert e
        cases A.testBit i <;> cases B.testBit i <;> cases B.testBit (k + i) <;> simp
  exact Nat.eq_of_testBit_eq fun i => step 64 i (by omega)

theorem xs_inj (k : Nat) (hk : 0 < k) {a b : Int} (ha0 : 0 ≤ a) (ha : a < 18446744073709551616) (hb0 : 0 ≤ b) (hb : b < 18446744073709551616)
    (h : xr a (a / 2 ^ k) = xr b (b / 2 ^ k)) : a = b := by
  obtain ⟨A, rfl⟩ := Int.eq_ofNat_of_zero_le ha0
  obtain ⟨B, rfl⟩ := Int.eq_ofNat_of_zero_le hb0
  have e : ∀ X : Nat, (X : Int) / 2 ^ k = ((X / 2 ^ k : Nat) : Int) := by intro X; simp
  have l : ∀ X : Nat, X / 2 ^ k ≤ X := fun X => Nat.div_le_self _ _
  have lA := l A
  have lB := l B
  rw [e, e, show xr (A : Int) _ = _ from xr_nat A _ (by omega) (by omega), show xr (B : Int) _ = _ from xr_nat B _ (by omega) (by omega)] at h
  have := shift_inj k hk (A := A) (B := B) (by omega) (by omega) (by omega)
  omega

theorem stir_bd (h : Int) (h0 : 0 ≤ h) (h1 : h ≤ 18446744073709551615) : 0 ≤ stir h ∧ stir h ≤ 18446744073709551615 := by
  unfold stir
  have := times_bd (xr h (h / 4294967296)) 14029467366897019727
  have := xr_bd (times (xr h (h / 4294967296)) 14029467366897019727) (times (xr h (h / 4294967296)) 14029467366897019727 / 536870912) (by omega) (by omega) (by omega) (by omega)
  omega

theorem stir_inj {g h : Int} (g0 : 0 ≤ g) (g1 : g ≤ 18446744073709551615) (h0 : 0 ≤ h) (h1 : h ≤ 18446744073709551615) (e : stir g = stir h) : g = h := by
  unfold stir at e
  have bg := times_bd (xr g (g / 4294967296)) 14029467366897019727
  have bh := times_bd (xr h (h / 4294967296)) 14029467366897019727
  have e1 := xs_inj 29 (by omega) (a := times (xr g (g / 4294967296)) 14029467366897019727) (b := times (xr h (h / 4294967296)) 14029467366897019727) (by omega) (by omega) (by omega) (by omega) e
  have xg := xr_bd g (g / 4294967296) (by omega) (by omega) (by omega) (by omega)
  have xh := xr_bd h (h / 4294967296) (by omega) (by omega) (by omega) (by omega)
  have e2 := times_inj (p := 14029467366897019727) (q := 839798700976720815) (by decide) (by omega) (by omega) (by omega) (by omega) e1
  exact xs_inj 32 (by omega) (by omega) (by omega) (by omega) (by omega) e2

theorem byte_bd (c : UInt8) : c.toNat < 256 := c.toNat_lt
theorem fnv_inj {h : Int} (h0 : 0 ≤ h) (h1 : h ≤ 18446744073709551615) {x y : UInt8} (e : fnv h x = fnv h y) : x = y := by
  unfold fnv at e
  have bx := byte_bd x
  have by' := byte_bd y
  have cx := xr_bd h (x.toNat : Int) (by omega) (by omega) (by omega) (by omega)
  have cy := xr_bd h (y.toNat : Int) (by omega) (by omega) (by omega) (by omega)
  have e2 := times_inj (p := 1099511628211) (q := 14886173955864302971) (by decide) (by omega) (by omega) (by omega) (by omega) e
  have := xr_inj (by omega) (by omega) (by omega) (by omega) (by omega) (by omega) e2
  exact UInt8.toNat_inj.1 (by omega)
end Hs
end Go.Proofs.Ytcmmnfeodmjpkaa
