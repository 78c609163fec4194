/- The walks of what a sign makes of two numbers: the code's, and the document's. Conditions: each number lies in its kind. -/
import Derived.Test.YtdpmfjbhadapiaaExpA
namespace Go.Proofs.Ytdpmfjbhadapiaa
open Go.RowKit
set_option linter.unusedVariables false
namespace Ex

def twoC (op : Nat) (a b : Int) : Int × Bool :=
  if op = 4 then (wrap64 (a + b), fits (a + b)) else if op = 5 then (wrap64 (a - b), fits (a - b)) else if op = 6 then (wrap64 (a * b), fits (a * b))
  else if op = 7 then (truth (decide (a < b)), true) else if op = 8 then (truth (decide (a = b)), true)
  else if op = 9 then (truth (decide (a ≠ 0 ∧ b ≠ 0)), true) else (truth (decide (a ≠ 0 ∨ b ≠ 0)), true)

theorem fit_C (x : Int) : fit x = if fits x = true then some (wrap64 x) else none := by
  unfold fit fits least most
  by_cases h : -9223372036854775808 ≤ x ∧ x ≤ 9223372036854775807
  · rw [if_pos h, if_pos (decide_eq_true h)]
    congr 1; unfold wrap64; omega
  · rw [if_neg h, if_neg (by rw [decide_eq_true_eq]; exact h)]
theorem two_C (op : Nat) (a b : Int) : twoS op a b = if (twoC op a b).2 = true then some (twoC op a b).1 else none := by
  unfold twoS twoC
  by_cases h4 : op = 4
  · simp only [h4, if_true]; exact fit_C _
  by_cases h5 : op = 5
  · simp only [h5]; exact fit_C _
  by_cases h6 : op = 6
  · simp only [h6]; exact fit_C _
  simp only [h4, h5, h6, if_false]
  repeat' split
  all_goals first | rfl | simp_all

theorem two_any (op : Nat) (a b : Int) (w : World) (ha : least ≤ a ∧ a ≤ most) (hb : least ≤ b ∧ b ≤ most) :
    Calls Try.prog 62 #[.int .u8 (op : Int), .int .i64 a, .int .i64 b] w fun e w' => e = .returned (.tuple #[.int .i64 (twoC op a b).1, .bool (twoC op a b).2]) ∧ w = w' := by
  have S1 := Lib.hid (fun w => sum_any a b w ha hb)
  have S2 := Lib.hid (fun w => product_any a b w ha hb)
  unfold least most at ha hb
  unfold twoC
  by_cases h4 : op = 4
  · subst h4
    simp only [if_true]
    go_enter Try.func62, Try.ntmps62
    go_wp2_with fail
    refine (S1.out _).mono ?_
    rintro e w1 ⟨rfl, rfl⟩
    go_wp2
    go_ret2
    exact ⟨rfl, rfl⟩
  have e4 : ((op : Int) == 4) = false := by simp; omega
  rw [if_neg h4]
  clear h4
  by_cases h5 : op = 5
  · subst h5
    simp only [if_true]
    clear e4
    by_cases h1 : 0 ≤ a <;> by_cases h2 : 0 ≤ b
    all_goals
      go_enter Try.func62, Try.ntmps62
      go_wp2
      go_ret2
      refine ⟨ret_ib (by first | rfl | (unfold wrap64; omega)) ?_, rfl⟩
      rw [Bool.eq_iff_iff]
      unfold fits least most
      simp only [decide_eq_true_eq, Bool.not_eq_true', decide_eq_false_iff_not, true_iff]
      try unfold wrap64
      omega
  have e5 : ((op : Int) == 5) = false := by simp; omega
  rw [if_neg h5]
  clear h5
  by_cases h6 : op = 6
  · subst h6
    simp only [if_true]
    clear e4 e5
    go_enter Try.func62, Try.ntmps62
    go_wp2_with fail
    refine (S2.out _).mono ?_
    rintro e w1 ⟨rfl, rfl⟩
    go_wp2
    go_ret2
    exact ⟨rfl, rfl⟩
  have e6 : ((op : Int) == 6) = false := by simp; omega
  rw [if_neg h6]
  clear h6
  by_cases h7 : op = 7
  · subst h7
    simp only [if_true]
    clear e4 e5 e6
    go_enter Try.func62, Try.ntmps62
    go_wp2_with fail
    refine (truth_any _ _).mono ?_
    rintro e w1 ⟨rfl, rfl⟩
    go_wp2
    go_ret2
    exact ⟨rfl, rfl⟩
  have e7 : ((op : Int) == 7) = false := by simp; omega
  rw [if_neg h7]
  clear h7
  by_cases h8 : op = 8
  · subst h8
    simp only [if_true]
    clear e4 e5 e6 e7
    go_enter Try.func62, Try.ntmps62
    go_wp2_with fail
    refine (truth_any _ _).mono ?_
    rintro e w1 ⟨rfl, rfl⟩
    go_wp2
    go_ret2
    exact ⟨ret_ib (by congr 1) rfl, rfl⟩
  have e8 : ((op : Int) == 8) = false := by simp; omega
  rw [if_neg h8]
  clear h8
  have cases0 : ∀ x : Int, (x = 0 ∧ (x != 0) = false) ∨ (x ≠ 0 ∧ (x != 0) = true) := by
    intro x; by_cases h : x = 0
    · exact .inl ⟨h, by simp [h]⟩
    · exact .inr ⟨h, by simp [h]⟩
  by_cases h9 : op = 9
  · subst h9
    simp only [if_true]
    clear e4 e5 e6 e7 e8
    have ca := cases0 a
    have cb := cases0 b
    clear cases0
    rcases ca with ⟨ha0, ta⟩ | ⟨ha0, ta⟩ <;> rcases cb with ⟨hb0, tb⟩ | ⟨hb0, tb⟩
    all_goals
      have HA := Lib.hid ha0
      have HB := Lib.hid hb0
      clear ha0 hb0
      go_enter Try.func62, Try.ntmps62
      go_wp2_with fail
      refine (truth_any _ _).mono ?_
      rintro e w1 ⟨rfl, rfl⟩
      go_wp2
      go_ret2
      exact ⟨ret_ib (by simp [HA.out, HB.out]) rfl, rfl⟩
  have e9 : ((op : Int) == 9) = false := by simp; omega
  rw [if_neg h9]
  clear h9
  have ca := cases0 a
  have cb := cases0 b
  clear cases0
  rcases ca with ⟨ha0, ta⟩ | ⟨ha0, ta⟩ <;> rcases cb with ⟨hb0, tb⟩ | ⟨hb0, tb⟩
  all_goals
    have HA := Lib.hid ha0
    have HB := Lib.hid hb0
    clear ha0 hb0
    go_enter Try.func62, Try.ntmps62
    go_wp2_with fail
    refine (truth_any _ _).mono ?_
    rintro e w1 ⟨rfl, rfl⟩
    go_wp2
    go_ret2
    exact ⟨ret_ib (by simp [HA.out, HB.out]) rfl, rfl⟩
end Ex
end Go.Proofs.Ytdpmfjbhadapiaa
