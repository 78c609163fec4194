/- The walks of arithmetic with signs: takes, truth, sum, size, Mul64, product, two; the document's truth, times, two. Conditions: each number lies in its kind. -/
import Derived.Test.YtdpmfjbhadapiaaExpP
import Derived.Test.YtdpmfjbhadapiaaSeat
import Derived.Test.YtdpmfjbhadapiaaUp
import Derived.Lib.Mul64
import Derived.Laws.Bits64b
namespace Go.Proofs.Ytdpmfjbhadapiaa
open Go.RowKit
set_option linter.unusedVariables false
namespace Ex

theorem takes_any (op : Nat) (w : World) : Calls Try.prog 60 #[.int .u8 (op : Int)] w fun e w' => e = .returned (.int .i64 (takes op : Int)) ∧ w = w' := by
  unfold takes
  by_cases h1 : op = 1
  · subst h1
    go_enter Try.func60, Try.ntmps60
    go_wp2
    go_ret
    exact ⟨rfl, rfl⟩
  by_cases h2 : op = 2
  · subst h2
    go_enter Try.func60, Try.ntmps60
    go_wp2
    go_ret
    exact ⟨rfl, rfl⟩
  by_cases h3 : op = 3
  · subst h3
    go_enter Try.func60, Try.ntmps60
    go_wp2
    go_ret
    exact ⟨rfl, rfl⟩
  by_cases h4 : op = 11
  · subst h4
    go_enter Try.func60, Try.ntmps60
    go_wp2
    go_ret
    exact ⟨rfl, rfl⟩
  rw [if_neg (by omega), if_neg h4]
  have e1 : ((op : Int) == 1) = false := by simp; omega
  have e2 : ((op : Int) == 2) = false := by simp; omega
  have e3 : ((op : Int) == 3) = false := by simp; omega
  have e4 : ((op : Int) == 11) = false := by simp; omega
  clear h1 h2 h3 h4
  go_enter Try.func60, Try.ntmps60
  go_wp2
  go_ret
  exact ⟨rfl, rfl⟩

theorem truth_any (b : Bool) (w : World) : Calls Try.prog 61 #[.bool b] w fun e w' => e = .returned (.int .i64 (truth b)) ∧ w = w' := by
  cases b
  all_goals
    go_enter Try.func61, Try.ntmps61
    go_wp2
    go_ret
    exact ⟨rfl, rfl⟩
theorem truthR_any (b : Bool) (w : World) : Calls Try.prog 94 #[.bool b] w fun e w' => e = .returned (.int .i64 (truth b)) ∧ w = w' := by
  cases b
  all_goals
    go_enter Try.func94, Try.ntmps94
    go_wp2
    go_ret
    exact ⟨rfl, rfl⟩

/-- does a number fit? -/
def fits (x : Int) : Bool := decide (least ≤ x ∧ x ≤ most)

theorem ret_ib {k : IntKind} {a a' : Int} {b b' : Bool} (h : a = a') (h' : b = b') : Ending.returned (.tuple #[.int k a, .bool b]) = .returned (.tuple #[.int k a', .bool b']) := by rw [h, h']
theorem ret_ib1 {k : IntKind} {a a' : Int} {b : Bool} (h : a = a') : Ending.returned (.tuple #[.int k a, .bool b]) = .returned (.tuple #[.int k a', .bool b]) := by rw [h]

theorem sum_any (a b : Int) (w : World) (ha : least ≤ a ∧ a ≤ most) (hb : least ≤ b ∧ b ≤ most) :
    Calls Try.prog 91 #[.int .i64 a, .int .i64 b] w fun e w' => e = .returned (.tuple #[.int .i64 (wrap64 (a + b)), .bool (fits (a + b))]) ∧ w = w' := by
  unfold least most at ha hb
  have q : ∀ x y : Bool, x = y → x = y := fun _ _ h => h
  by_cases h1 : 0 ≤ a <;> by_cases h2 : 0 ≤ b
  all_goals
    have h1' : decide (0 ≤ a) = decide (0 ≤ a) := rfl
    go_enter Try.func91, Try.ntmps91
    go_wp2
    go_ret2
    refine ⟨ret_ib (by first | rfl | (unfold wrap64; omega)) ?_, rfl⟩
    rw [Bool.eq_iff_iff]
    unfold fits least most
    simp only [decide_eq_true_eq, Bool.not_eq_true', decide_eq_false_iff_not, true_iff]
    try unfold wrap64
    omega

theorem size_any (a : Int) (w : World) (ha : least ≤ a ∧ a ≤ most) :
    Calls Try.prog 115 #[.int .i64 a] w fun e w' => e = .returned (.int .u64 (a.natAbs : Int)) ∧ w = w' := by
  unfold least most at ha
  by_cases h1 : a < 0
  all_goals
    go_enter Try.func115, Try.ntmps115
    go_wp2
    go_ret
    exact ⟨ret_int (by first | omega | (simp only [IntKind.wrap_u64]; omega)), rfl⟩

theorem maskN (a : Nat) (ha : a < 18446744073709551616) : bits .and .u64 (a : Int) 4294967295 = ((a % 4294967296 : Nat) : Int) := by
  have h := u64_and_nat a 4294967295 ha (by omega)
  have e : a &&& 4294967295 = a % 4294967296 := Nat.and_two_pow_sub_one_eq_mod a 32
  rw [e] at h
  exact h
theorem divN (a : Nat) : (a : Int) / 4294967296 = ((a / 4294967296 : Nat) : Int) := by omega
theorem mulN (a b : Nat) : (a : Int) * (b : Int) = ((a * b : Nat) : Int) := (Int.natCast_mul a b).symm
theorem addN (a b : Nat) : (a : Int) + (b : Int) = ((a + b : Nat) : Int) := (Int.natCast_add a b).symm
theorem wrapN (a : Nat) (ha : a < 18446744073709551616) : IntKind.u64.wrap (a : Int) = (a : Int) := by rw [IntKind.wrap_u64]; omega
theorem wrapM (a : Nat) : IntKind.u64.wrap (a : Int) = ((a % 18446744073709551616 : Nat) : Int) := by rw [IntKind.wrap_u64]; omega

set_option maxHeartbeats 1000000 in
theorem mul64_any (x y : Nat) (hx : x < 18446744073709551616) (hy : y < 18446744073709551616) (w : World) :
    Calls Try.prog 114 #[.int .u64 x, .int .u64 y] w fun e w' => e = .returned (.tuple #[.int .u64 ((x * y / 18446744073709551616 : Nat) : Int), .int .u64 ((x * y % 18446744073709551616 : Nat) : Int)]) ∧ w = w' := by
  obtain ⟨bd, bt, bw, hhi⟩ := Lib.mul64_hi x y hx hy
  have ba := Lib.half_mul_le (a := x / 4294967296) (b := y / 4294967296) (by omega) (by omega)
  have bb := Lib.half_mul_le (a := x / 4294967296) (b := y % 4294967296) (by omega) (by omega)
  have bc := Lib.half_mul_le (a := x % 4294967296) (b := y / 4294967296) (by omega) (by omega)
  have ba' : x / 4294967296 * (y / 4294967296) < 18446744073709551616 := by omega
  have bb' : x / 4294967296 * (y % 4294967296) < 18446744073709551616 := by omega
  have bc' : x % 4294967296 * (y / 4294967296) < 18446744073709551616 := by omega
  have bh1 : x / 4294967296 * (y / 4294967296) + (x / 4294967296 * (y % 4294967296) + x % 4294967296 * (y % 4294967296) / 4294967296) / 4294967296 < 18446744073709551616 := by omega
  have bh : x / 4294967296 * (y / 4294967296) + (x / 4294967296 * (y % 4294967296) + x % 4294967296 * (y % 4294967296) / 4294967296) / 4294967296 + ((x / 4294967296 * (y % 4294967296) + x % 4294967296 * (y % 4294967296) / 4294967296) % 4294967296 + x % 4294967296 * (y / 4294967296)) / 4294967296 < 18446744073709551616 := by omega
  go_enter Try.func114, Try.ntmps114
  go_wp2
  simp only [maskN x hx, maskN y hy, divN, mulN, addN, wrapN _ bd, maskN _ bt, wrapN _ bb', wrapN _ bt, wrapN _ bc', wrapN _ bw, wrapN _ ba', wrapN _ bh1, wrapN _ bh, wrapM (x * y)]
  rw [hhi]
  go_ret2
  exact ⟨rfl, rfl⟩

theorem natAbs_mul_cases (a b : Int) : (((a < 0) ↔ (b < 0)) → a * b = (a.natAbs * b.natAbs : Nat)) ∧ (¬ ((a < 0) ↔ (b < 0)) → a * b = -((a.natAbs * b.natAbs : Nat) : Int)) := by
  have e : ((a.natAbs * b.natAbs : Nat) : Int) = ((a * b).natAbs : Int) := by rw [Int.natAbs_mul]
  rw [e]
  constructor
  · intro h
    have : 0 ≤ a * b := by
      by_cases h1 : a < 0
      · exact Int.mul_nonneg_of_nonpos_of_nonpos (by omega) (by have := h.1 h1; omega)
      · exact Int.mul_nonneg (by omega) (by have := mt h.2 h1; omega)
    omega
  · intro h
    have : a * b ≤ 0 := by
      by_cases h1 : a < 0
      · have h2 : ¬ b < 0 := fun h2 => h ⟨fun _ => h2, fun _ => h1⟩
        exact Int.mul_nonpos_of_nonpos_of_nonneg (by omega) (by omega)
      · have h2 : b < 0 := by
          rcases Int.lt_or_le b 0 with h2 | h2
          · exact h2
          · exact (h ⟨fun h => (h1 h).elim, fun h => by omega⟩).elim
        exact Int.mul_nonpos_of_nonneg_of_nonpos (by omega) (by omega)
    omega

theorem prod_fin (q : Int) (p lo hi : Nat) (hp : p = hi * 18446744073709551616 + lo) (hlo : lo < 18446744073709551616) (hb : p ≤ 85070591730234615865843651857942052864) :
    (q = (p : Int) → wrap64 (lo : Int) = wrap64 q ∧ fits q = (decide (hi = 0) && decide (lo ≤ 9223372036854775807))) ∧
    (q = -(p : Int) → wrap64 (-wrap64 (lo : Int)) = wrap64 q ∧ fits q = (decide (hi = 0) && decide (lo ≤ 9223372036854775808))) := by
  constructor
  · rintro rfl
    refine ⟨by unfold wrap64; omega, ?_⟩
    rw [Bool.eq_iff_iff]
    unfold fits least most
    simp only [decide_eq_true_eq, Bool.and_eq_true]
    omega
  · rintro rfl
    refine ⟨by unfold wrap64; omega, ?_⟩
    rw [Bool.eq_iff_iff]
    unfold fits least most
    simp only [decide_eq_true_eq, Bool.and_eq_true]
    omega

set_option maxHeartbeats 400000 in
theorem product_any (a b : Int) (w : World) (ha : least ≤ a ∧ a ≤ most) (hb : least ≤ b ∧ b ≤ most) :
    Calls Try.prog 92 #[.int .i64 a, .int .i64 b] w fun e w' => e = .returned (.tuple #[.int .i64 (wrap64 (a * b)), .bool (fits (a * b))]) ∧ w = w' := by
  have S1 := Lib.hid (fun w => size_any a w ha)
  have S2 := Lib.hid (fun w => size_any b w hb)
  unfold least most at ha hb
  have M := Lib.hid (fun w => mul64_any a.natAbs b.natAbs (by omega) (by omega) w)
  obtain ⟨c1, c2⟩ := natAbs_mul_cases a b
  have hbd : a.natAbs * b.natAbs ≤ 85070591730234615865843651857942052864 := Nat.mul_le_mul (n₁ := a.natAbs) (m₁ := b.natAbs) (n₂ := 9223372036854775808) (m₂ := 9223372036854775808) (by omega) (by omega)
  have hF := prod_fin (a * b) (a.natAbs * b.natAbs) (a.natAbs * b.natAbs % 18446744073709551616) (a.natAbs * b.natAbs / 18446744073709551616) (by omega) (by omega) hbd
  have hlo : a.natAbs * b.natAbs % 18446744073709551616 < 18446744073709551616 := by omega
  have hhi : a.natAbs * b.natAbs / 18446744073709551616 < 18446744073709551616 := by omega
  generalize a.natAbs * b.natAbs % 18446744073709551616 = lo at *
  generalize a.natAbs * b.natAbs / 18446744073709551616 = hi at *
  generalize a.natAbs * b.natAbs = p at *
  generalize a.natAbs = x at *
  generalize b.natAbs = y at *
  generalize hq : a * b = q at *
  clear hq hbd
  by_cases h1 : a < 0 <;> by_cases h2 : b < 0
  all_goals
    have hF' : (wrap64 (lo : Int) = wrap64 q ∧ fits q = (decide (hi = 0) && decide (lo ≤ 9223372036854775807))) ∨ (wrap64 (-wrap64 (lo : Int)) = wrap64 q ∧ fits q = (decide (hi = 0) && decide (lo ≤ 9223372036854775808))) := by
      first
      | exact .inl (hF.1 (c1 (by omega)))
      | exact .inr (hF.2 (c2 (by omega)))
    have hG : ((a < 0 ↔ b < 0) → wrap64 (lo : Int) = wrap64 q ∧ fits q = (decide (hi = 0) && decide (lo ≤ 9223372036854775807))) ∧ (¬ (a < 0 ↔ b < 0) → wrap64 (-wrap64 (lo : Int)) = wrap64 q ∧ fits q = (decide (hi = 0) && decide (lo ≤ 9223372036854775808))) := ⟨fun h => hF.1 (c1 h), fun h => hF.2 (c2 h)⟩
    have HG := Lib.hid hG
    clear hG hF' hF c1 c2
    first | have d1 : decide (a < 0) = true := decide_eq_true h1 | have d1 : decide (a < 0) = false := decide_eq_false h1
    first | have d2 : decide (b < 0) = true := decide_eq_true h2 | have d2 : decide (b < 0) = false := decide_eq_false h2
    by_cases h3 : hi = 0
    all_goals
      have t3 : ((hi : Int) == 0) = decide (hi = 0) := by rw [Bool.eq_iff_iff]; simp
      first | (rw [decide_eq_true h3] at t3) | (rw [decide_eq_false h3] at t3)
      have H3 := Lib.hid h3
      clear h3
      go_enter Try.func92, Try.ntmps92
      go_wp2_with fail
      refine (S1.out _).mono ?_
      rintro e w1 ⟨rfl, rfl⟩
      go_wp2_with fail
      refine (S2.out _).mono ?_
      rintro e w1 ⟨rfl, rfl⟩
      go_wp2_with fail
      refine (M.out _).mono ?_
      rintro e w1 ⟨rfl, rfl⟩
      go_wp2
      go_ret2
      by_cases hs : (a < 0 ↔ b < 0)
      · first
        | (exfalso; omega)
        | (obtain ⟨g1, g2⟩ := HG.out.1 hs
           refine ⟨ret_ib (by rw [← g1]) (by rw [g2]; simp [H3.out] <;> omega), rfl⟩)
      · first
        | (exfalso; omega)
        | (obtain ⟨g1, g2⟩ := HG.out.2 hs
           refine ⟨ret_ib (by rw [← g1]) (by rw [g2]; simp [H3.out] <;> omega), rfl⟩)

end Ex
end Go.Proofs.Ytdpmfjbhadapiaa
