/- The number of bits that are set: the arithmetic of math/bits.OnesCount64, and its walk; bits of numbers. Condition: the number has 64 bits. -/
import Derived.Test.YtohhjbfkgokopaaDoorRcP
import Derived.Test.YtohhjbfkgokopaaDoorSyV
import Derived.Test.YtohhjbfkgokopaaDoorTab
namespace Go.Proofs.YtohhjbfkgokopaaDoor
open Go.RowKit
set_option linter.unusedVariables false
set_option linter.unusedSimpArgs false
namespace Rc
theorem and_split (a b : Nat) {u c : Nat} (hu : u < 256) (hc : c < 256) : (256 * a + u) &&& (256 * b + c) = 256 * (a &&& b) + (u &&& c) := by
  have hx : u &&& c < 2 ^ 8 := Nat.and_lt_two_pow _ hc
  apply Nat.eq_of_testBit_eq
  intro i
  have e1 := Nat.testBit_two_pow_mul_add a (b := u) (i := 8) hu i
  have e2 := Nat.testBit_two_pow_mul_add b (b := c) (i := 8) hc i
  have e3 := Nat.testBit_two_pow_mul_add (a &&& b) (b := u &&& c) (i := 8) hx i
  simp only [show (2 : Nat) ^ 8 = 256 from rfl] at e1 e2 e3
  rw [Nat.testBit_and, e1, e2, e3]
  split <;> rw [Nat.testBit_and]
def mk (c : Nat) : Nat → Nat
  | 0 => 0
  | n + 1 => 256 * mk c n + c
def a1 (n x : Nat) : Nat := (x / 2 &&& mk 85 n) + (x &&& mk 85 n)
def a2 (n x : Nat) : Nat := (x / 4 &&& mk 51 n) + (x &&& mk 51 n)
def a3 (n x : Nat) : Nat := (x / 16 + x) &&& mk 15 n
def l1 (l : Nat) : Nat := (l / 2 &&& 85) + (l &&& 85)
def l2 (l : Nat) : Nat := (l / 4 &&& 51) + (l &&& 51)
def l3 (l : Nat) : Nat := (l / 16 + l) &&& 15
theorem low1 : ∀ c, c < 2 → ∀ j, j < 128 → (128 * c + j) &&& 85 = j &&& 85 := by decide +kernel
theorem low2 : ∀ c, c < 4 → ∀ j, j < 64 → (64 * c + j) &&& 51 = j &&& 51 := by decide +kernel
theorem low3 : ∀ c, c < 5 → ∀ l, l < 69 → 16 * c + l / 16 + l < 256 ∧ (16 * c + l / 16 + l) &&& 15 = l3 l := by decide +kernel
theorem b1_ : ∀ l, l < 256 → l1 l < 256 := by decide +kernel
theorem b2_ : ∀ l, l < 256 → l2 (l1 l) < 69 ∧ l2 (l1 l) % 16 < 5 := by decide +kernel
def pop8 (l : Nat) : Nat := (List.range 8).countP (fun i => l.testBit i)
theorem b3_ : ∀ l, l < 256 → l3 (l2 (l1 l)) = pop8 l ∧ pop8 l < 9 := by decide +kernel
theorem a1_step (n h : Nat) {l : Nat} (hl : l < 256) : a1 (n + 1) (256 * h + l) = 256 * a1 n h + l1 l := by
  unfold a1 l1
  have e1 : (256 * h + l) / 2 = 256 * (h / 2) + (128 * (h % 2) + l / 2) := by omega
  rw [mk, e1, and_split _ _ (by omega) (by omega), and_split _ _ hl (by omega), low1 _ (by omega) _ (by omega)]
  omega
theorem a2_step (n h : Nat) {l : Nat} (hl : l < 256) : a2 (n + 1) (256 * h + l) = 256 * a2 n h + l2 l := by
  unfold a2 l2
  have e1 : (256 * h + l) / 4 = 256 * (h / 4) + (64 * (h % 4) + l / 4) := by omega
  rw [mk, e1, and_split _ _ (by omega) (by omega), and_split _ _ hl (by omega), low2 _ (by omega) _ (by omega)]
  omega
theorem a3_step (n h : Nat) {l : Nat} (hl : l < 69) (hh : h % 16 < 5) : a3 (n + 1) (256 * h + l) = 256 * a3 n h + l3 l := by
  unfold a3
  obtain ⟨k1, k2⟩ := low3 (h % 16) hh l hl
  have e1 : (256 * h + l) / 16 + (256 * h + l) = 256 * (h / 16 + h) + (16 * (h % 16) + l / 16 + l) := by omega
  rw [mk, e1, and_split _ _ k1 (by omega), k2]
def gp (n x : Nat) : Nat := a3 n (a2 n (a1 n x))
theorem z_low (n x : Nat) : a2 n (a1 n x) % 16 < 5 := by
  cases n with
  | zero => simp [a1, a2, mk]
  | succ n =>
    have e : x = 256 * (x / 256) + x % 256 := by omega
    have hl : x % 256 < 256 := Nat.mod_lt _ (by omega)
    have := b2_ _ hl
    rw [e, a1_step n _ hl, a2_step n _ (b1_ _ hl)]
    omega
theorem gp_step (n x : Nat) : gp (n + 1) x = 256 * gp n (x / 256) + pop8 (x % 256) := by
  have e : x = 256 * (x / 256) + x % 256 := by omega
  have hl : x % 256 < 256 := Nat.mod_lt _ (by omega)
  unfold gp
  conv => lhs; rw [e]
  rw [a1_step n _ hl, a2_step n _ (b1_ _ hl), a3_step n _ (b2_ _ hl).1 (z_low _ _), (b3_ _ hl).1]
def popn (n x : Nat) : Nat := (List.range (8 * n)).countP (fun i => x.testBit i)
theorem popn_step (n x : Nat) : popn (n + 1) x = popn n (x / 256) + pop8 (x % 256) := by
  unfold popn pop8
  rw [show 8 * (n + 1) = 8 + 8 * n by omega, List.range_add, List.countP_append, List.countP_map, Nat.add_comm]
  congr 1
  · refine List.countP_congr fun i _ => ?_
    rw [Function.comp_apply, show (256 : Nat) = 2 ^ 8 from rfl, Nat.testBit_div_two_pow, Nat.add_comm i]
  · refine List.countP_congr fun i hi => ?_
    rw [show (256 : Nat) = 2 ^ 8 from rfl, Nat.testBit_mod_two_pow]
    simp [List.mem_range.1 hi]
theorem pop8_lt (x : Nat) : pop8 (x % 256) < 9 := (b3_ _ (Nat.mod_lt _ (by omega))).2
/-- the sum of the bytes -/
def fold3 (y : Nat) : Nat :=
  let b1 := (y + y / 256) % 18446744073709551616
  let b2 := (b1 + b1 / 65536) % 18446744073709551616
  (b2 + b2 / 4294967296) % 18446744073709551616
theorem fold_gen {y S2 S4 c0 c2 c4 c6 : Nat} {Y1 p0 : Nat} (hy : y = 256 * Y1 + p0) (hp : p0 < 256) (h0 : y + Y1 = 65536 * S2 + c0) (h2 : S2 = 65536 * S4 + c2) (h4 : S4 = 65536 * c6 + c4) (b0 : c0 < 5000) (b2 : c2 < 5000) (b4 : c4 < 5000) (b6 : c6 < 5000) :
    fold3 y % 128 = (c0 + c2 + c4 + c6) % 128 := by
  unfold fold3
  simp only
  have e1 : y / 256 = Y1 := by omega
  have l4 : S4 < 330000000 := by omega
  have e2 : (y + Y1) % 18446744073709551616 = 65536 * S2 + c0 := by rw [h0]; omega
  have e3 : (65536 * S2 + c0) / 65536 = S2 := by omega
  rw [e1, e2, e3]
  have e4 : (65536 * S2 + c0 + S2) % 18446744073709551616 = 4294967296 * (S4 + c6) + (65536 * (c2 + c4) + (c0 + c2)) := by omega
  have e5 : (4294967296 * (S4 + c6) + (65536 * (c2 + c4) + (c0 + c2))) / 4294967296 = S4 + c6 := by omega
  rw [e4, e5]
  omega
theorem fold_bytes (p0 p1 p2 p3 p4 p5 p6 p7 : Nat) (h0 : p0 < 9) (h1 : p1 < 9) (h2 : p2 < 9) (h3 : p3 < 9) (h4 : p4 < 9) (h5 : p5 < 9) (h6 : p6 < 9) (h7 : p7 < 9) :
    fold3 (256 * (256 * (256 * (256 * (256 * (256 * (256 * p7 + p6) + p5) + p4) + p3) + p2) + p1) + p0) % 128 = p0 + p1 + p2 + p3 + p4 + p5 + p6 + p7 := by
  obtain ⟨Y6, e6⟩ : ∃ Y, Y = 256 * p7 + p6 := ⟨_, rfl⟩
  obtain ⟨Y5, e5⟩ : ∃ Y, Y = 256 * Y6 + p5 := ⟨_, rfl⟩
  obtain ⟨Y4, e4⟩ : ∃ Y, Y = 256 * Y5 + p4 := ⟨_, rfl⟩
  obtain ⟨Y3, e3⟩ : ∃ Y, Y = 256 * Y4 + p3 := ⟨_, rfl⟩
  obtain ⟨Y2, e2⟩ : ∃ Y, Y = 256 * Y3 + p2 := ⟨_, rfl⟩
  obtain ⟨Y1, e1⟩ : ∃ Y, Y = 256 * Y2 + p1 := ⟨_, rfl⟩
  rw [← e6, ← e5, ← e4, ← e3, ← e2, ← e1]
  have k0 : 256 * Y1 + p0 + Y1 = 65536 * (Y2 + Y3) + (256 * (p1 + p2) + (p0 + p1)) := by clear e3 e4 e5 e6; omega
  have k2 : Y2 + Y3 = 65536 * (Y4 + Y5) + (256 * (p3 + p4) + (p2 + p3)) := by clear e1 e5 e6 k0; omega
  have k4 : Y4 + Y5 = 65536 * (256 * p7 + (p6 + p7)) + (256 * (p5 + p6) + (p4 + p5)) := by clear e1 e2 e3 k0 k2; omega
  rw [fold_gen (Y1 := Y1) (p0 := p0) rfl (by omega) k0 k2 k4 (by omega) (by omega) (by omega) (by omega)]
  clear e1 e2 e3 e4 e5 e6 k0 k2 k4
  omega
theorem ones_pop (x : Nat) (hx : x < 18446744073709551616) : fold3 (gp 8 x) % 128 = pop x := by
  have h0 : gp 0 (x / 256 / 256 / 256 / 256 / 256 / 256 / 256 / 256) = 0 := by
    unfold gp a3 mk
    exact Nat.and_zero _
  have hp : pop x = popn 8 x := rfl
  rw [hp, gp_step, gp_step, gp_step, gp_step, gp_step, gp_step, gp_step, gp_step, h0]
  rw [popn_step, popn_step, popn_step, popn_step, popn_step, popn_step, popn_step, popn_step]
  have e0 : popn 0 (x / 256 / 256 / 256 / 256 / 256 / 256 / 256 / 256) = 0 := rfl
  rw [e0]
  have := fold_bytes _ _ _ _ _ _ _ _ (pop8_lt x) (pop8_lt (x / 256)) (pop8_lt (x / 256 / 256)) (pop8_lt (x / 256 / 256 / 256)) (pop8_lt (x / 256 / 256 / 256 / 256)) (pop8_lt (x / 256 / 256 / 256 / 256 / 256)) (pop8_lt (x / 256 / 256 / 256 / 256 / 256 / 256)) (pop8_lt (x / 256 / 256 / 256 / 256 / 256 / 256 / 256))
  rw [Nat.mul_zero, Nat.zero_add, this]
  omega
theorem mk85 : mk 85 8 = 6148914691236517205 := by decide +kernel
theorem mk51 : mk 51 8 = 3689348814741910323 := by decide +kernel
theorem mk15 : mk 15 8 = 1085102592571150095 := by decide +kernel
theorem and_u64 {s p : Nat} (hs : s < 18446744073709551616) (hp : p < 18446744073709551616) : IntKind.u64.wrap ((BitVec.ofInt IntKind.u64.bits (s : Int) &&& BitVec.ofInt IntKind.u64.bits (p : Int)).toNat : Int) = ((s &&& p : Nat) : Int) := by
  rw [IntKind.wrap_u64]
  show (((BitVec.ofInt 64 (s : Int) &&& BitVec.ofInt 64 (p : Int)).toNat : Int) % 18446744073709551616) = _
  simp only [BitVec.ofInt_natCast, BitVec.toNat_and, BitVec.toNat_ofNat]
  rw [Nat.mod_eq_of_lt hs, Nat.mod_eq_of_lt hp]
  have : s &&& p < 2 ^ 64 := Nat.and_lt_two_pow _ hp
  omega
theorem xor_u64 {s p : Nat} (hs : s < 18446744073709551616) (hp : p < 18446744073709551616) : IntKind.u64.wrap ((BitVec.ofInt IntKind.u64.bits (s : Int) ^^^ BitVec.ofInt IntKind.u64.bits (p : Int)).toNat : Int) = ((s ^^^ p : Nat) : Int) := by
  rw [IntKind.wrap_u64]
  show (((BitVec.ofInt 64 (s : Int) ^^^ BitVec.ofInt 64 (p : Int)).toNat : Int) % 18446744073709551616) = _
  simp only [BitVec.ofInt_natCast, BitVec.toNat_xor, BitVec.toNat_ofNat]
  rw [Nat.mod_eq_of_lt hs, Nat.mod_eq_of_lt hp]
  have : s ^^^ p < 2 ^ 64 := Nat.xor_lt_two_pow hs hp
  omega
theorem mask127 (b : Nat) (hb : b < 18446744073709551616) : IntKind.i64.wrap ((BitVec.ofInt IntKind.i64.bits (IntKind.i64.wrap (b : Int)) &&& BitVec.ofInt IntKind.i64.bits 127).toNat : Int) = ((b % 128 : Nat) : Int) := by
  show IntKind.i64.wrap ((BitVec.ofInt 64 (IntKind.i64.wrap (b : Int)) &&& BitVec.ofInt 64 127).toNat : Int) = _
  have h1 : (BitVec.ofInt 64 (IntKind.i64.wrap (b : Int))).toNat = b := by
    rw [BitVec.toNat_ofInt, IntKind.wrap_i64]
    omega
  have h2 : (BitVec.ofInt 64 127).toNat = 127 := rfl
  rw [BitVec.toNat_and, h1, h2, show (127 : Nat) = 2 ^ 7 - 1 from rfl, Nat.and_two_pow_sub_one_eq_mod, IntKind.wrap_i64]
  have : b % 2 ^ 7 < 128 := Nat.mod_lt _ (by decide)
  have e : (2 : Nat) ^ 7 = 128 := rfl
  rw [e] at *
  omega
theorem shr_nat (x k : Nat) (q : Int) (hq : q = (k : Int)) (hk : k < 64) : ((x : Int)).fdiv (2 ^ (min q.toNat IntKind.u64.bits)) = ((x / 2 ^ k : Nat) : Int) := by
  subst hq
  rw [show min ((k : Int)).toNat IntKind.u64.bits = k from by simp [IntKind.bits]; omega]
  have : ((2 : Int) ^ k) = ((2 ^ k : Nat) : Int) := by simp
  rw [this]
  exact Int.ofNat_fdiv x (2 ^ k) |>.symm
theorem add_u64 (a b : Nat) : IntKind.u64.wrap ((a : Int) + (b : Int)) = (((a + b) % 18446744073709551616 : Nat) : Int) := by rw [IntKind.wrap_u64]; omega
set_option maxRecDepth 20000 in
set_option maxHeartbeats 1000000 in
theorem ones_any {w m : World} (hs : Sy.Sub m w) (x : Nat) (hx : x < 18446744073709551616) : Calls Tryd.prog 41 #[.int .u64 (x : Int)] w (Sy.RetV w (.int .i64 (pop x : Int))) := by
  have F := Sy.Mem.start hs
  obtain ⟨x1, e1⟩ : ∃ y, y = a1 8 x := ⟨_, rfl⟩
  obtain ⟨x2, e2⟩ : ∃ y, y = a2 8 x1 := ⟨_, rfl⟩
  obtain ⟨x3, e3⟩ : ∃ y, y = a3 8 x2 := ⟨_, rfl⟩
  have hand : ∀ a c : Nat, a &&& c ≤ c := fun a c => Nat.and_le_right
  have u1 := shr_nat x 1 1 rfl (by omega)
  have u2 := and_u64 (s := x / 2 ^ 1) (p := 6148914691236517205) (by omega) (by omega)
  have u3 := and_u64 (s := x) (p := 6148914691236517205) hx (by omega)
  have u4 : IntKind.u64.wrap (((x / 2 ^ 1 &&& 6148914691236517205 : Nat) : Int) + ((x &&& 6148914691236517205 : Nat) : Int)) = (x1 : Int) := by
    have h1 := hand (x / 2 ^ 1) 6148914691236517205
    have h2 := hand x 6148914691236517205
    rw [add_u64, Nat.mod_eq_of_lt (by omega), e1, a1, mk85]
  have hx1 : x1 < 18446744073709551616 := by
    have h1 := hand (x / 2) 6148914691236517205
    have h2 := hand x 6148914691236517205
    rw [e1, a1, mk85]; omega
  have u5 := shr_nat x1 2 2 rfl (by omega)
  have u6 := and_u64 (s := x1 / 2 ^ 2) (p := 3689348814741910323) (by omega) (by omega)
  have u7 := and_u64 (s := x1) (p := 3689348814741910323) hx1 (by omega)
  have u8 : IntKind.u64.wrap (((x1 / 2 ^ 2 &&& 3689348814741910323 : Nat) : Int) + ((x1 &&& 3689348814741910323 : Nat) : Int)) = (x2 : Int) := by
    have h1 := hand (x1 / 2 ^ 2) 3689348814741910323
    have h2 := hand x1 3689348814741910323
    rw [add_u64, Nat.mod_eq_of_lt (by omega), e2, a2, mk51]
  have hx2 : x2 < 7378697629483820647 := by
    have h1 := hand (x1 / 4) 3689348814741910323
    have h2 := hand x1 3689348814741910323
    rw [e2, a2, mk51]; omega
  have u9 := shr_nat x2 4 4 rfl (by omega)
  have u10 : IntKind.u64.wrap (((x2 / 2 ^ 4 : Nat) : Int) + (x2 : Int)) = ((x2 / 16 + x2 : Nat) : Int) := by rw [add_u64, Nat.mod_eq_of_lt (by omega)]
  have u11 : IntKind.u64.wrap ((BitVec.ofInt IntKind.u64.bits ((x2 / 16 + x2 : Nat) : Int) &&& BitVec.ofInt IntKind.u64.bits (1085102592571150095 : Int)).toNat : Int) = (x3 : Int) := by
    have := and_u64 (s := x2 / 16 + x2) (p := 1085102592571150095) (by omega) (by omega)
    rw [e3, a3, mk15]
    exact this
  obtain ⟨b1, f1⟩ : ∃ b, b = (x3 + x3 / 256) % 18446744073709551616 := ⟨_, rfl⟩
  obtain ⟨b2, f2⟩ : ∃ b, b = (b1 + b1 / 65536) % 18446744073709551616 := ⟨_, rfl⟩
  obtain ⟨b3, f3⟩ : ∃ b, b = (b2 + b2 / 4294967296) % 18446744073709551616 := ⟨_, rfl⟩
  have u12 := shr_nat x3 8 8 rfl (by omega)
  have u13 : IntKind.u64.wrap ((x3 : Int) + ((x3 / 2 ^ 8 : Nat) : Int)) = (b1 : Int) := by rw [add_u64, f1]
  have u14 := shr_nat b1 16 16 rfl (by omega)
  have u15 : IntKind.u64.wrap ((b1 : Int) + ((b1 / 2 ^ 16 : Nat) : Int)) = (b2 : Int) := by rw [add_u64, f2]
  have u16 := shr_nat b2 32 32 rfl (by omega)
  have u17 : IntKind.u64.wrap ((b2 : Int) + ((b2 / 2 ^ 32 : Nat) : Int)) = (b3 : Int) := by rw [add_u64, f3]
  have u18 := mask127 b3 (by omega)
  have hfin : b3 % 128 = pop x := by
    rw [← ones_pop x hx]
    unfold gp
    rw [← e1, ← e2, ← e3]
    unfold fold3
    simp only
    rw [← f1, ← f2, ← f3]
  clear hand e1 e2 e3 f1 f2 f3
  refine Sy.enter Tryd.func41 rfl Tryd.ntmps41 rfl ?_; intro ac T; simp only [Sy.enum, Nat.zero_add, Nat.reduceAdd] at T
  repeat (first
    | (((with_reducible refine Sy.is_op ?_); refine Sy.st_pure T (h := ?_); clear T; intro ac T))
    | ((with_reducible refine Sy.atK (hK _ _ ?_)))
    | ((with_reducible refine Sy.is_cond ?_); (first | refine Sy.st_true T (h := ?_) | refine Sy.st_false T (h := ?_)))
    | (with_reducible refine wpList_nil ?_)
    | (with_reducible refine wp_region_lit ?_)
    | (with_reducible refine wp_block ?_)
    | (with_reducible refine wp_skip ?_)
    | (with_reducible refine wp_exit ?_)
    | (with_reducible refine wp_ret ?_)
    | ((with_reducible refine wp_seq_k ?_); intro _ _)
    | (go_at_K; go_step)
    | (simp only [Exit.then, Exit.inBlock, ↓reduceIte, Nat.reduceEqDiff]))
  ((try simp only [Exit.inBlock, Exit.then]); refine Sy.st_ret1 T F rfl (by repeat (first | exact Sy.ResV.nil | apply Sy.ResV.tmp rfl | apply Sy.ResV.row rfl rfl rfl (by repeat (first | exact Sy.Take.here | apply Sy.Take.there)) (by rfl) | apply Sy.ResV.one rfl rfl rfl (by repeat (first | exact Sy.Take.here | apply Sy.Take.there)) (by rfl))) ?_)
  rw [← hfin]
  exact F.retV _
end Rc
end Go.Proofs.YtohhjbfkgokopaaDoor
