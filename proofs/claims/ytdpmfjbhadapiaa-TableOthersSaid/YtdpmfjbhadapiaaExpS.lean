/- The walk of the document's two. Conditions: each number lies in its kind. -/
import Derived.Test.YtdpmfjbhadapiaaExpR
namespace Go.Proofs.Ytdpmfjbhadapiaa
open Go.RowKit
set_option linter.unusedVariables false
namespace Ex

set_option maxHeartbeats 400000 in
theorem twoR_sub (a b : Int) (w : World) (ha : least ≤ a ∧ a ≤ most) (hb : least ≤ b ∧ b ≤ most) :
    Calls Try.prog 95 #[.int .u8 5, .int .i64 a, .int .i64 b] w (RetP w (wrap64 (a - b)) (fits (a - b))) := by
  unfold least most at ha hb
  have B0 := Lib.hid (Below.refl w.heap.size w)
  by_cases h1 : 0 ≤ a <;> by_cases h2 : 0 < b <;> by_cases h3 : a < 0 <;> by_cases h4 : b < 0 <;> by_cases h5 : a - b ≤ 9223372036854775807 <;> by_cases h6 : -9223372036854775808 ≤ a - b
  all_goals first | (exfalso; omega) | skip
  all_goals
    have hlo : decide (wrap64 (a - b) ≤ 0) = decide (wrap64 (a - b) ≤ 0) := rfl
    have k1 : (0 < wrap64 (a - b) ∧ decide (wrap64 (a - b) ≤ 0) = false) ∨ (wrap64 (a - b) ≤ 0 ∧ decide (wrap64 (a - b) ≤ 0) = true) := by
      rcases Int.lt_or_le 0 (wrap64 (a - b)) with h | h
      · exact .inl ⟨h, decide_eq_false (by omega)⟩
      · exact .inr ⟨h, decide_eq_true h⟩
    have k2 : (wrap64 (a - b) < 0 ∧ decide (0 ≤ wrap64 (a - b)) = false) ∨ (0 ≤ wrap64 (a - b) ∧ decide (0 ≤ wrap64 (a - b)) = true) := by
      rcases Int.lt_or_le (wrap64 (a - b)) 0 with h | h
      · exact .inl ⟨h, decide_eq_false (by omega)⟩
      · exact .inr ⟨h, decide_eq_true h⟩
    clear hlo
    rcases k1 with ⟨u1, u2⟩ | ⟨u1, u2⟩ <;> rcases k2 with ⟨v1, v2⟩ | ⟨v1, v2⟩
  all_goals first | (exfalso; unfold wrap64 at *; omega) | skip
  all_goals
    have F := Lib.hid (show fits (a - b) = decide (-9223372036854775808 ≤ a - b ∧ a - b ≤ 9223372036854775807) from rfl)
    first | have d1 : decide (0 ≤ a) = true := decide_eq_true h1 | have d1 : decide (0 ≤ a) = false := decide_eq_false h1
    first | have d2 : decide (0 < b) = true := decide_eq_true h2 | have d2 : decide (0 < b) = false := decide_eq_false h2
    first | have d3 : decide (a < 0) = true := decide_eq_true h3 | have d3 : decide (a < 0) = false := decide_eq_false h3
    first | have d4 : decide (b < 0) = true := decide_eq_true h4 | have d4 : decide (b < 0) = false := decide_eq_false h4
    have H := Lib.hid (And.intro h5 h6)
    clear h5 h6 u1 v1
    go_enter Try.func95, Try.ntmps95
    go_wp2
    go_ret2
    refine retP (by first | rfl | (have := H.out; unfold wrap64; omega)) ?_ B0.out
    rw [F.out]
    have := H.out
    first | (rw [decide_eq_true (by omega)]; done) | (rw [decide_eq_false (by omega)]; done)

theorem twoR_any (op : Nat) (a b : Int) (w : World) (ha : least ≤ a ∧ a ≤ most) (hb : least ≤ b ∧ b ≤ most) :
    Calls Try.prog 95 #[.int .u8 (op : Int), .int .i64 a, .int .i64 b] w (RetP w (twoR op a b).1 (twoR op a b).2) := by
  by_cases h4 : op = 4
  · subst h4; exact twoR_add a b w ha hb
  by_cases h5 : op = 5
  · subst h5; exact twoR_sub a b w ha hb
  have S2 := Lib.hid (fun w => times_any a b w ha hb)
  have B0 := Lib.hid (Below.refl w.heap.size w)
  unfold least most at ha hb
  have e4 : ((op : Int) == 4) = false := by simp; omega
  have e5 : ((op : Int) == 5) = false := by simp; omega
  by_cases h6 : op = 6
  · subst h6
    rw [show twoR 6 a b = timesR a b from rfl]
    clear e4 e5 h4 h5
    go_enter Try.func95, Try.ntmps95
    go_wp2_with fail
    refine (S2.out _).mono ?_
    rintro e w1 ⟨rfl, b1⟩
    go_wp2
    go_ret2
    exact retP rfl rfl b1
  have e6 : ((op : Int) == 6) = false := by simp; omega
  rw [show twoR op a b = twoC op a b from if_neg h6]
  unfold twoC
  rw [if_neg h4, if_neg h5, if_neg h6]
  clear h4 h5 h6
  by_cases h7 : op = 7
  · subst h7
    simp only [if_true]
    clear e4 e5 e6
    go_enter Try.func95, Try.ntmps95
    go_wp2_with fail
    refine (truthR_any _ _).mono ?_
    rintro e w1 ⟨rfl, rfl⟩
    go_wp2
    go_ret2
    exact retP rfl rfl B0.out
  have e7 : ((op : Int) == 7) = false := by simp; omega
  rw [if_neg h7]
  clear h7
  by_cases h8 : op = 8
  · subst h8
    simp only [if_true]
    clear e4 e5 e6 e7
    go_enter Try.func95, Try.ntmps95
    go_wp2_with fail
    refine (truthR_any _ _).mono ?_
    rintro e w1 ⟨rfl, rfl⟩
    go_wp2
    go_ret2
    exact retP (by congr 1) rfl B0.out
  have e8 : ((op : Int) == 8) = false := by simp; omega
  rw [if_neg h8]
  clear h8
  have cases0 : ∀ x : Int, (x = 0 ∧ (x != 0) = false) ∨ (x ≠ 0 ∧ (x != 0) = true) := by
    intro x; by_cases h : x = 0
    · exact .inl ⟨h, by simp [h]⟩
    · exact .inr ⟨h, by simp [h]⟩
  by_cases h9 : op = 9
  · subst h9
    simp only [if_true]
    clear e4 e5 e6 e7 e8
    have ca := cases0 a
    have cb := cases0 b
    clear cases0
    rcases ca with ⟨ha0, ta⟩ | ⟨ha0, ta⟩ <;> rcases cb with ⟨hb0, tb⟩ | ⟨hb0, tb⟩
    all_goals
      have HA := Lib.hid ha0
      have HB := Lib.hid hb0
      clear ha0 hb0
      go_enter Try.func95, Try.ntmps95
      go_wp2_with fail
      refine (truthR_any _ _).mono ?_
      rintro e w1 ⟨rfl, rfl⟩
      go_wp2
      go_ret2
      exact retP (by simp [HA.out, HB.out]) rfl B0.out
  have e9 : ((op : Int) == 9) = false := by simp; omega
  rw [if_neg h9]
  clear h9
  have ca := cases0 a
  have cb := cases0 b
  clear cases0
  rcases ca with ⟨ha0, ta⟩ | ⟨ha0, ta⟩ <;> rcases cb with ⟨hb0, tb⟩ | ⟨hb0, tb⟩
  all_goals
    have HA := Lib.hid ha0
    have HB := Lib.hid hb0
    clear ha0 hb0
    go_enter Try.func95, Try.ntmps95
    go_wp2_with fail
    refine (truthR_any _ _).mono ?_
    rintro e w1 ⟨rfl, rfl⟩
    go_wp2
    go_ret2
    exact retP (by simp [HA.out, HB.out]) rfl B0.out
end Ex
end Go.Proofs.Ytdpmfjbhadapiaa
