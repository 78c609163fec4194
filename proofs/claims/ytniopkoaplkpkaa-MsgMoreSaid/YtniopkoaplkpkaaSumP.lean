/- Plain law of the sum: one bit's step is linear and can be undone; half a byte by a table; marked bytes fit; some others in a row of four don't. No condition. -/
import Derived.Test.YtniopkoaplkpkaaBase
namespace Go.Proofs.Ytniopkoaplkpkaa
open Go.RowKit
set_option linter.unusedVariables false
namespace Sm

theorem xor_lc (a b c : Nat) : a ^^^ (b ^^^ c) = b ^^^ (a ^^^ c) := by rw [← Nat.xor_assoc, Nat.xor_comm a b, Nat.xor_assoc]
theorem xor_cancel (a b : Nat) : a ^^^ (a ^^^ b) = b := by rw [← Nat.xor_assoc, Nat.xor_self, Nat.zero_xor]
theorem xor_inj {a b c : Nat} (h : a ^^^ b = a ^^^ c) : b = c := by rw [← xor_cancel a b, h, xor_cancel]

/-- one bit's step -/
def f (y : Nat) : Nat := if y % 2 = 1 then (y / 2) ^^^ 3988292384 else y / 2

theorem f_lin (a b : Nat) : f (a ^^^ b) = f a ^^^ f b := by
  unfold f
  by_cases ha : a % 2 = 1 <;> by_cases hb : b % 2 = 1
  · rw [if_pos ha, if_pos hb, if_neg (by rw [Nat.xor_mod_two_eq_one]; simp [ha, hb]), Nat.xor_div_two]
    rw [Nat.xor_assoc, xor_lc 3988292384, Nat.xor_self, Nat.xor_zero]
  · rw [if_pos ha, if_neg hb, if_pos (by rw [Nat.xor_mod_two_eq_one]; simp [ha, hb]), Nat.xor_div_two]
    rw [Nat.xor_assoc, Nat.xor_assoc, Nat.xor_comm 3988292384]
  · rw [if_neg ha, if_pos hb, if_pos (by rw [Nat.xor_mod_two_eq_one]; simp [ha, hb]), Nat.xor_div_two, Nat.xor_assoc]
  · rw [if_neg ha, if_neg hb, if_neg (by rw [Nat.xor_mod_two_eq_one]; simp [ha, hb]), Nat.xor_div_two]

theorem f_zero : f 0 = 0 := rfl
theorem f_lt {y : Nat} (h : y < 4294967296) : f y < 4294967296 := by
  unfold f
  split
  · have : (y / 2) ^^^ 3988292384 < 2 ^ 32 := Nat.xor_lt_two_pow (by omega) (by omega)
    omega
  · omega
/-- the step can be undone -/
theorem f_inj0 {y : Nat} (h : y < 4294967296) (e : f y = 0) : y = 0 := by
  unfold f at e
  split at e
  · have e1 : y / 2 = 3988292384 := by
      have := congrArg (· ^^^ 3988292384) e
      simp only [Nat.xor_assoc, Nat.xor_self, Nat.xor_zero, Nat.zero_xor] at this
      exact this
    omega
  · omega

/-- so many steps -/
def it : Nat → Nat → Nat
  | 0, y => y
  | k + 1, y => it k (f y)
theorem it_lin (k : Nat) : ∀ a b, it k (a ^^^ b) = it k a ^^^ it k b := by
  induction k with
  | zero => intro a b; rfl
  | succ k ih => intro a b; simp only [it, f_lin, ih]
theorem it_zero (k : Nat) : it k 0 = 0 := by
  induction k with
  | zero => rfl
  | succ k ih => simp only [it, f_zero, ih]
theorem it_lt (k : Nat) : ∀ {y}, y < 4294967296 → it k y < 4294967296 := by
  induction k with
  | zero => intro y h; exact h
  | succ k ih => intro y h; exact ih (f_lt h)
theorem it_inj0 (k : Nat) : ∀ {y}, y < 4294967296 → it k y = 0 → y = 0 := by
  induction k with
  | zero => intro y _ h; exact h
  | succ k ih => intro y h e; exact f_inj0 h (ih (f_lt h) e)
theorem it_add (j k : Nat) : ∀ y, it (j + k) y = it k (it j y) := by
  induction j with
  | zero => intro y; simp [it]
  | succ j ih => intro y; rw [show j + 1 + k = (j + k) + 1 from by omega]; simp only [it, ih]
theorem it_succ (k : Nat) : ∀ y, it (k + 1) y = f (it k y) := by
  induction k with
  | zero => intro y; rfl
  | succ k ih => intro y; rw [it, ih]; rfl
theorem it_low (k : Nat) : ∀ h l, l < 2 ^ k → it k (2 ^ k * h + l) = h ^^^ it k l := by
  induction k with
  | zero => intro h l hl; have : l = 0 := by simpa using hl
            subst this; simp [it]
  | succ k ih =>
    intro h l hl
    have e2 : (2 ^ (k + 1) * h + l) / 2 = 2 ^ k * h + l / 2 := by rw [Nat.pow_succ, Nat.mul_comm (2 ^ k) 2, Nat.mul_assoc]; omega
    have em : (2 ^ (k + 1) * h + l) % 2 = l % 2 := by rw [Nat.pow_succ, Nat.mul_comm (2 ^ k) 2, Nat.mul_assoc]; omega
    have hl2 : l / 2 < 2 ^ k := by rw [Nat.pow_succ] at hl; omega
    simp only [it, f, e2, em]
    split
    · rw [it_lin, it_lin, ih _ _ hl2, Nat.xor_assoc]
    · exact ih _ _ hl2

theorem split_xor (k a b : Nat) (hb : b < 2 ^ k) : 2 ^ k * a + b = (2 ^ k * a) ^^^ b := by
  refine Nat.eq_of_testBit_eq fun j => ?_
  rw [Nat.testBit_two_pow_mul_add a hb, Nat.testBit_xor, Nat.testBit_two_pow_mul]
  by_cases h : j < k
  · rw [if_pos h, decide_eq_false (show ¬ j ≥ k by omega)]; simp
  · rw [if_neg h, Nat.testBit_lt_two_pow (Nat.lt_of_lt_of_le hb (Nat.pow_le_pow_right (by omega) (by omega))), decide_eq_true (show j ≥ k by omega)]
    simp

/-- half a byte's table -/
def tb (m : Nat) : Nat := it 4 m
theorem it4 (z : Nat) : it 4 z = tb (z % 16) ^^^ (z / 16) := by
  have := it_low 4 (z / 16) (z % 16) (by omega)
  rw [show 2 ^ 4 * (z / 16) + z % 16 = z from by omega] at this
  rw [this, Nat.xor_comm]; rfl

/-- a byte's step -/
def byte (x : Nat) (c : UInt8) : Nat := it 8 (x ^^^ c.toNat)
theorem byte_lt {x : Nat} (c : UInt8) (h : x < 4294967296) : byte x c < 4294967296 :=
  it_lt 8 (Nat.xor_lt_two_pow (n := 32) h (Nat.lt_of_lt_of_le c.toNat_lt (by decide)))

/-- by two halves -/
def half (x n : Nat) : Nat := tb ((x ^^^ n) % 16) ^^^ (x / 16)
theorem half_half (x c : Nat) (hc : c < 256) : half (half x c) (c / 16) = it 8 (x ^^^ c) := by
  have d : ∀ a b : Nat, (a ^^^ b) / 16 = a / 16 ^^^ b / 16 := fun a b => Nat.xor_div_two_pow (n := 4)
  have e1 : half x c ^^^ c / 16 = it 4 (x ^^^ c) := by
    unfold half
    rw [it4, d, Nat.xor_assoc]
  rw [show it 8 (x ^^^ c) = it 4 (it 4 (x ^^^ c)) from it_add 4 4 _, it4 (it 4 (x ^^^ c)), ← e1]
  unfold half
  congr 1
  rw [d, d (_ ^^^ _) (c / 16)]
  have : c / 16 / 16 = 0 := by omega
  rw [this, Nat.xor_zero, d]

/-- bit by bit -/
def bitS (x b : Nat) : Nat := f (x ^^^ b)
theorem bitS_eq (x b : Nat) (hb : b < 2) : bitS x b = if x % 2 = b then x / 2 else (x / 2) ^^^ 3988292384 := by
  unfold bitS f
  rw [Nat.xor_div_two, show b / 2 = 0 from by omega, Nat.xor_zero]
  have : (x ^^^ b) % 2 = 1 ↔ ¬ x % 2 = b := by
    rw [Nat.xor_mod_two_eq_one]; omega
  by_cases h : x % 2 = b
  · rw [if_pos h, if_neg (by rw [this]; simp [h])]
  · rw [if_neg h, if_pos (by rw [this]; exact h)]
def bitsTo (x c : Nat) : Nat → Nat
  | 0 => x
  | k + 1 => bitS (bitsTo x c k) (c / 2 ^ k % 2)
theorem bitsTo_lt {x : Nat} (c : Nat) (hx : x < 4294967296) : ∀ k, bitsTo x c k < 4294967296
  | 0 => hx
  | k + 1 => f_lt (Nat.xor_lt_two_pow (n := 32) (bitsTo_lt c hx k) (by omega))
theorem bitsTo_lin (c : Nat) (k : Nat) (x : Nat) : bitsTo x c k = it k x ^^^ bitsTo 0 c k := by
  have it_succ : ∀ k y, it (k + 1) y = f (it k y) := by
    intro k; induction k with
    | zero => intro y; rfl
    | succ k ih => intro y; rw [it, ih]; rfl
  induction k with
  | zero => simp [bitsTo, it]
  | succ k ih =>
    simp only [bitsTo, bitS, it_succ, f_lin]
    rw [ih, f_lin, Nat.xor_assoc]
theorem bitsTo_byte (x : Nat) (c : UInt8) : bitsTo x c.toNat 8 = byte x c := by
  have key : ∀ c : Fin 256, bitsTo 0 c.val 8 = it 8 c.val := by decide +kernel
  rw [bitsTo_lin, key ⟨c.toNat, c.toNat_lt⟩]
  unfold byte
  rw [it_lin]

/-- the register behind bytes; the sum -/
def reg (x : Nat) (l : List UInt8) : Nat := l.foldl byte x
def all : Nat := 4294967295
def more (s : Nat) (l : List UInt8) : Nat := reg (s ^^^ all) l ^^^ all
def ofS (l : List UInt8) : Nat := more 0 l

theorem reg_lt : ∀ (l : List UInt8) {x}, x < 4294967296 → reg x l < 4294967296
  | [], x, h => h
  | c :: l, x, h => reg_lt l (byte_lt c h)
theorem reg_take (x : Nat) (l : List UInt8) (k : Nat) (h : k < l.length) : reg x (l.take (k + 1)) = byte (reg x (l.take k)) l[k] := by
  unfold reg
  rw [List.take_succ_eq_append_getElem h, List.foldl_append]; rfl
theorem reg_app (x : Nat) (l m : List UInt8) : reg x (l ++ m) = reg (reg x l) m := by unfold reg; rw [List.foldl_append]
theorem all_lt : all < 4294967296 := by decide
theorem more_lt {s : Nat} (h : s < 4294967296) (l : List UInt8) : more s l < 4294967296 :=
  Nat.xor_lt_two_pow (n := 32) (reg_lt l (Nat.xor_lt_two_pow (n := 32) h all_lt)) all_lt
theorem ofS_lt (l : List UInt8) : ofS l < 4294967296 := more_lt (by omega) l
theorem more_of (a b : List UInt8) : more (ofS a) b = ofS (a ++ b) := by
  unfold ofS more
  rw [Nat.xor_assoc, Nat.xor_self, Nat.xor_zero, reg_app]

/-- linear in the register and the bytes -/
def xs (a b : List UInt8) : List UInt8 := List.zipWith (fun x y => x ^^^ y) a b
theorem reg_lin : ∀ (a b : List UInt8) (x y : Nat), a.length = b.length → reg (x ^^^ y) (xs a b) = reg x a ^^^ reg y b
  | [], [], x, y, _ => rfl
  | c :: a, d :: b, x, y, h => by
    have e : byte (x ^^^ y) (c ^^^ d) = byte x c ^^^ byte y d := by
      unfold byte
      rw [UInt8.toNat_xor, ← it_lin]
      congr 1
      rw [Nat.xor_assoc, Nat.xor_assoc, xor_lc y]
    show reg (byte (x ^^^ y) (c ^^^ d)) (xs a b) = reg (byte x c) a ^^^ reg (byte y d) b
    rw [e]
    exact reg_lin a b _ _ (by simpa using h)

theorem turns (a b c : List UInt8) (h1 : a.length = b.length) (h2 : b.length = c.length) : ofS (xs (xs a b) c) = ofS a ^^^ ofS b ^^^ ofS c := by
  unfold ofS more
  simp only [Nat.zero_xor]
  have e1 := reg_lin a b all all h1
  have e2 := reg_lin (xs a b) c (all ^^^ all) all (by simp [xs]; omega)
  rw [Nat.xor_self, Nat.zero_xor] at e2
  rw [e2, ← Nat.xor_self all, e1]
  generalize reg all a = p
  generalize reg all b = q
  generalize reg all c = r
  rw [Nat.xor_assoc (p ^^^ all), Nat.xor_assoc q, Nat.xor_comm p all, xor_lc q]
  simp only [Nat.xor_assoc, xor_lc p all, xor_cancel]

/-- four bytes of a number -/
def le4 (v : Nat) : List UInt8 := [UInt8.ofNat v, UInt8.ofNat (v / 256), UInt8.ofNat (v / 65536), UInt8.ofNat (v / 16777216)]
theorem it_hi (k h : Nat) : it k (2 ^ k * h) = h := by
  have := it_low k h 0 (Nat.two_pow_pos k)
  rw [Nat.add_zero, it_zero, Nat.xor_zero] at this; exact this
theorem nat4 (e0 e1 e2 e3 : Nat) (h0 : e0 < 256) (h1 : e1 < 256) (h2 : e2 < 256) : e0 + 256 * (e1 + 256 * (e2 + 256 * e3)) = e0 ^^^ (256 * e1 ^^^ (65536 * e2 ^^^ 16777216 * e3)) := by
  have a1 := split_xor 16 (e2 + 256 * e3) (e0 + 256 * e1) (by omega)
  have a2 := split_xor 8 e1 e0 (by omega)
  have a3 := split_xor 24 e3 (65536 * e2) (by omega)
  simp only [Nat.reducePow] at a1 a2 a3
  have a4 : 65536 * (e2 + 256 * e3) = 16777216 * e3 ^^^ 65536 * e2 := by rw [← a3]; omega
  have a5 : e0 + 256 * e1 = 256 * e1 ^^^ e0 := by rw [← a2]; omega
  rw [show e0 + 256 * (e1 + 256 * (e2 + 256 * e3)) = 65536 * (e2 + 256 * e3) + (e0 + 256 * e1) from by omega, a1, a4, a5]
  simp only [Nat.xor_assoc, Nat.xor_comm]
theorem reg4 (x : Nat) (d0 d1 d2 d3 : UInt8) : reg x [d0, d1, d2, d3] = it 32 (x ^^^ (d0.toNat + 256 * (d1.toNat + 256 * (d2.toNat + 256 * d3.toNat)))) := by
  have b0 := d0.toNat_lt
  have b1 := d1.toNat_lt
  have b2 := d2.toNat_lt
  have h1 := it_hi 8 d1.toNat
  have h2 := it_hi 16 d2.toNat
  have h3 := it_hi 24 d3.toNat
  simp only [Nat.reducePow] at h1 h2 h3
  rw [nat4 _ _ _ _ b0 b1 b2]
  simp only [it_lin]
  have s1 : it 32 (256 * d1.toNat) = it 24 d1.toNat := by rw [show 32 = 8 + 24 from rfl, it_add, h1]
  have s2 : it 32 (65536 * d2.toNat) = it 16 d2.toNat := by rw [show 32 = 16 + 16 from rfl, it_add, h2]
  have s3 : it 32 (16777216 * d3.toNat) = it 8 d3.toNat := by rw [show 32 = 24 + 8 from rfl, it_add, h3]
  rw [s1, s2, s3]
  show byte (byte (byte (byte x d0) d1) d2) d3 = _
  unfold byte
  simp only [it_lin, ← it_add, Nat.reduceAdd, Nat.xor_assoc]
theorem le4_nat (v : Nat) (h : v < 4294967296) : (UInt8.ofNat v).toNat + 256 * ((UInt8.ofNat (v / 256)).toNat + 256 * ((UInt8.ofNat (v / 65536)).toNat + 256 * (UInt8.ofNat (v / 16777216)).toNat)) = v := by
  simp only [UInt8.toNat_ofNat']; omega

def markS (l : List UInt8) : List UInt8 := l ++ le4 (ofS l)
/-- behind marked bytes the register is always the same -/
theorem mark_reg (l : List UInt8) : reg all (markS l) = it 32 all := by
  unfold markS
  rw [reg_app]
  unfold le4
  rw [reg4, le4_nat _ (ofS_lt l)]
  unfold ofS more
  rw [Nat.zero_xor, xor_cancel]
def fitsS (l : List UInt8) : List UInt8 × Nat :=
  if l.length < 4 then ([], 2) else if markS (l.take (l.length - 4)) = l then (l.take (l.length - 4), 0) else ([], 5)

theorem mark_len (l : List UInt8) : (markS l).length = l.length + 4 := by simp [markS, le4]
theorem fits_mark (l : List UInt8) : fitsS (markS l) = (l, 0) := by
  have e : (markS l).take ((markS l).length - 4) = l := by
    rw [mark_len]; simp [markS]
  unfold fitsS
  rw [e, if_neg (by rw [mark_len]; omega), if_pos rfl]

theorem reg_zero : ∀ (k : Nat) (x : Nat), reg x (List.replicate k 0) = it (8 * k) x
  | 0, x => rfl
  | k + 1, x => by
    rw [List.replicate_succ]
    show reg (byte x 0) (List.replicate k 0) = _
    rw [reg_zero k]
    unfold byte
    rw [show (0 : UInt8).toNat = 0 from rfl, Nat.xor_zero, ← it_add]
    congr 1; omega

/-- some others in a row of four -/
def spoil (l : List UInt8) (at_ v : Nat) : List UInt8 := xs l (List.replicate at_ 0 ++ le4 v ++ List.replicate (l.length - at_ - 4) 0)
theorem spoil_len (l : List UInt8) (at_ v : Nat) (h : at_ + 4 ≤ l.length) : (spoil l at_ v).length = l.length := by
  simp [spoil, xs, le4]; omega
theorem spoil_reg (l : List UInt8) (at_ v : Nat) (h : at_ + 4 ≤ l.length) (hv : v < 4294967296) (h0 : v ≠ 0) : reg all (spoil l at_ v) ≠ reg all l := by
  intro e
  have lin := reg_lin l (List.replicate at_ 0 ++ le4 v ++ List.replicate (l.length - at_ - 4) 0) all 0 (by simp [le4]; omega)
  rw [Nat.xor_zero] at lin
  have e2 : reg all l ^^^ reg 0 (List.replicate at_ 0 ++ le4 v ++ List.replicate (l.length - at_ - 4) 0) = reg all l ^^^ 0 := by rw [← lin, Nat.xor_zero]; exact e
  have e3 := xor_inj e2
  rw [reg_app, reg_app, reg_zero, reg_zero, it_zero] at e3
  unfold le4 at e3
  rw [reg4, le4_nat v hv, Nat.zero_xor] at e3
  exact h0 (it_inj0 32 hv (it_inj0 _ (it_lt 32 hv) e3))
theorem spoil_fits (l : List UInt8) (at_ v : Nat) (h : at_ ≤ l.length) (hv : v < 4294967296) (h0 : v ≠ 0) : fitsS (spoil (markS l) at_ v) = ([], 5) := by
  have hl := spoil_len (markS l) at_ v (by rw [mark_len]; omega)
  unfold fitsS
  rw [if_neg (by rw [hl, mark_len]; omega), if_neg]
  intro e
  have r1 := mark_reg ((spoil (markS l) at_ v).take ((spoil (markS l) at_ v).length - 4))
  rw [e] at r1
  exact spoil_reg (markS l) at_ v (by rw [mark_len]; omega) hv h0 (r1.trans (mark_reg l).symm)
/-! the words as the walk writes them -/
theorem and1 (y : Nat) (h : y < 4294967296) : bits .and .u32 (y : Int) 1 = ((y % 2 : Nat) : Int) := by
  rw [show (1 : Int) = ((1 : Nat) : Int) from rfl, u32_and_nat y 1 h (by omega), Nat.and_one_is_mod]
theorem and15 (y : Nat) (h : y < 4294967296) : bits .and .u32 (y : Int) 15 = ((y % 16 : Nat) : Int) := by
  rw [show (15 : Int) = ((15 : Nat) : Int) from rfl, u32_and_nat y 15 h (by omega)]
  have : y &&& 15 = y % 2 ^ 4 := Nat.and_two_pow_sub_one_eq_mod y 4
  rw [this]
theorem xor32 (a b : Nat) (ha : a < 4294967296) (hb : b < 4294967296) : bits .xor .u32 (a : Int) (b : Int) = ((a ^^^ b : Nat) : Int) := u32_xor_nat a b ha hb
theorem tb_lt {m : Nat} (h : m < 16) : tb m < 4294967296 := it_lt 4 (by omega)
theorem ones32 (y : Nat) (h : y < 4294967296) : (4294967295 - (y : Int)) % 4294967296 = ((y ^^^ all : Nat) : Int) := by
  have e : y ^^^ (2 ^ 32 - 1) = 2 ^ 32 - 1 - y := by
    have := congrArg BitVec.toNat (BitVec.xor_allOnes (x := BitVec.ofNat 32 y))
    simp only [BitVec.toNat_xor, BitVec.toNat_not, BitVec.toNat_allOnes, BitVec.toNat_ofNat, Nat.mod_eq_of_lt (show y < 2 ^ 32 from h)] at this
    exact this
  have e2 : y ^^^ all = 4294967295 - y := e
  rw [e2]; omega
theorem half_facts (x c : Nat) (hx : x < 4294967296) (hc : c < 256) : ∃ r1 x1 r2 x2 : Nat,
    bits .and .u32 (bits .xor .u32 (x : Int) (c : Int)) 15 = (r1 : Int) ∧ r1 < 16 ∧ bits .xor .u32 (tb r1 : Int) ((x : Int) / 16) = (x1 : Int) ∧ x1 < 4294967296 ∧
    bits .and .u32 (bits .xor .u32 (x1 : Int) ((c : Int) / 16)) 15 = (r2 : Int) ∧ r2 < 16 ∧ bits .xor .u32 (tb r2 : Int) ((x1 : Int) / 16) = (x2 : Int) ∧ x2 = it 8 (x ^^^ c) := by
  have hxl : ∀ a b : Nat, a < 4294967296 → b < 4294967296 → a ^^^ b < 4294967296 := fun a b ha hb => Nat.xor_lt_two_pow (n := 32) ha hb
  have d16 : ∀ a : Nat, (a : Int) / 16 = ((a / 16 : Nat) : Int) := by intro a; omega
  have t1 := tb_lt (m := (x ^^^ c) % 16) (by omega)
  have hx1 := hxl (tb ((x ^^^ c) % 16)) (x / 16) t1 (by omega)
  have t2 := tb_lt (m := (tb ((x ^^^ c) % 16) ^^^ x / 16 ^^^ c / 16) % 16) (by omega)
  refine ⟨(x ^^^ c) % 16, tb ((x ^^^ c) % 16) ^^^ x / 16, (tb ((x ^^^ c) % 16) ^^^ x / 16 ^^^ c / 16) % 16, _, ?_, by omega, ?_, hx1, ?_, by omega, ?_, half_half x c hc⟩
  · rw [xor32 _ _ hx (by omega), and15 _ (hxl _ _ hx (by omega))]
  · rw [d16, xor32 _ _ t1 (by omega)]
  · rw [d16, xor32 _ _ hx1 (by omega), and15 _ (hxl _ _ hx1 (by omega))]
  · rw [d16, xor32 _ _ t2 (by omega)]; rfl
end Sm
end Go.Proofs.Ytniopkoaplkpkaa
