/- The walks of the document's times and two. Conditions: each number lies in its kind. -/
import Derived.Test.YtdpmfjbhadapiaaExpB
import Derived.BigQuiet
import Derived.Deep.QuietTactic
namespace Go.Proofs.Ytdpmfjbhadapiaa
open Go.RowKit
set_option linter.unusedVariables false
namespace Ex

def special (a b : Int) : Bool := decide ((a = -1 ∧ b = least) ∨ (b = -1 ∧ a = least))
def timesR (a b : Int) : Int × Bool := if special a b = true then (0, false) else (wrap64 (a * b), fits (a * b))

theorem tdiv_mul (a b : Int) (hb : b ≠ 0) : (a * b).tdiv b = a := Int.mul_tdiv_cancel a hb
theorem wrap_fits {x : Int} (h : fits x = true) : wrap64 x = x := by
  unfold fits least most at h
  rw [decide_eq_true_eq] at h
  unfold wrap64; omega
theorem wrapI (x : Int) : IntKind.i64.wrap x = wrap64 x := by rw [IntKind.wrap_i64]; unfold wrap64; omega

theorem quo_back (a b : Int) (ha : -9223372036854775808 ≤ a ∧ a ≤ 9223372036854775807) (hb : -9223372036854775808 ≤ b ∧ b ≤ 9223372036854775807) (h0 : b ≠ 0) (hs : ¬ (b = -1 ∧ a = -9223372036854775808))
    (h : wrap64 ((wrap64 (a * b)).tdiv b) = a) : fits (a * b) = true := by
  have hc : -9223372036854775808 ≤ wrap64 (a * b) ∧ wrap64 (a * b) ≤ 9223372036854775807 := by unfold wrap64; omega
  have hk : ∃ k : Int, a * b = wrap64 (a * b) + 18446744073709551616 * k := ⟨(a * b + 9223372036854775808) / 18446744073709551616, by unfold wrap64; omega⟩
  obtain ⟨k, hk⟩ := hk
  generalize hcc : wrap64 (a * b) = c at *
  have hq : c.tdiv b = a := by
    have h1 : (c.tdiv b).natAbs ≤ c.natAbs := by rw [Int.natAbs_tdiv]; exact Nat.div_le_self _ _
    by_cases h2 : c.tdiv b = 9223372036854775808
    · rw [h2] at h
      have : a = -9223372036854775808 := by rw [← h]; unfold wrap64; omega
      have hc2 : c = -9223372036854775808 := by omega
      have hb1 : b.natAbs = 1 := by
        have h3 : (c.tdiv b).natAbs = 9223372036854775808 := by rw [h2]; rfl
        rw [Int.natAbs_tdiv, hc2] at h3
        have h4 : (9223372036854775808 : Nat) / b.natAbs = 9223372036854775808 := h3
        have h5 := Nat.div_mul_le_self 9223372036854775808 b.natAbs
        rw [h4] at h5
        have h6 : b.natAbs ≠ 0 := by omega
        rcases Nat.lt_or_ge b.natAbs 2 with h7 | h7
        · omega
        · have := Nat.mul_le_mul_left 9223372036854775808 h7
          omega
      rcases (show b = 1 ∨ b = -1 by omega) with rfl | rfl
      · rw [hc2] at h2
        exact absurd h2 (by decide)
      · exact absurd ⟨rfl, this⟩ hs
    · have : wrap64 (c.tdiv b) = c.tdiv b := by unfold wrap64; omega
      rw [← this]; exact h
  have hm := Int.mul_tdiv_add_tmod c b
  rw [hq] at hm
  have hr : (c.tmod b).natAbs < b.natAbs := by
    rw [Int.natAbs_tmod]; exact Nat.mod_lt _ (by omega)
  have hcm : b * a = a * b := Int.mul_comm b a
  have hk0 : k = 0 := by omega
  subst hk0
  unfold fits least most
  rw [decide_eq_true_eq]; omega

theorem zero_beq (a : Int) : (a = 0 ∧ (a == 0) = true) ∨ (a ≠ 0 ∧ (a == 0) = false) := by
  by_cases h : a = 0
  · exact .inl ⟨h, by simp [h]⟩
  · exact .inr ⟨h, by simp [h]⟩
theorem beq_cases (a c : Int) : (a = c ∧ (a == c) = true) ∨ (a ≠ c ∧ (a == c) = false) := by
  by_cases h : a = c
  · exact .inl ⟨h, by simp [h]⟩
  · exact .inr ⟨h, by simp [h]⟩

/-- a pair, behind some draws -/
def RetP (w : World) (x : Int) (b : Bool) (e : Ending) (w' : World) : Prop := e = .returned (.tuple #[.int .i64 x, .bool b]) ∧ Below w.heap.size w w'

set_option maxHeartbeats 1600000 in
theorem times_any (a b : Int) (w : World) (ha : least ≤ a ∧ a ≤ most) (hb : least ≤ b ∧ b ≤ most) :
    Calls Try.prog 116 #[.int .i64 a, .int .i64 b] w (RetP w (timesR a b).1 (timesR a b).2) := by
  unfold least most at ha hb
  have B0 := Lib.hid (Below.refl w.heap.size w)
  have BD := Lib.hid (fun n => (⟨rfl, rfl, rfl, Nat.le_refl _, fun _ _ => rfl⟩ : Below w.heap.size w (w.drewN n)))
  rcases zero_beq a with ⟨rfl, t1⟩ | ⟨h1, t1⟩
  · have hz : timesR 0 b = (0, true) := by unfold timesR special; simp [least, fits, most, wrap64]
    rw [hz]
    go_enter Try.func116, Try.ntmps116
    go_wp2
    go_ret2
    exact ⟨rfl, B0.out⟩
  rcases zero_beq b with ⟨rfl, t2⟩ | ⟨h2, t2⟩
  · have hz : timesR a 0 = (0, true) := by unfold timesR special; simp [least, fits, most, wrap64]
    rw [hz]
    clear h1
    go_enter Try.func116, Try.ntmps116
    go_wp2
    go_ret2
    exact ⟨rfl, B0.out⟩
  have SP := Lib.hid (show timesR a b = if special a b = true then (0, false) else (wrap64 (a * b), fits (a * b)) from rfl)
  have QB := Lib.hid (quo_back a b ha hb h2)
  have QF := Lib.hid (fun h : fits (a * b) = true => (show (wrap64 (a * b)).tdiv b = a ∧ (wrap64 (a * b)).tdiv a = b by
    rw [wrap_fits h]
    exact ⟨tdiv_mul a b h2, by rw [Int.mul_comm]; exact tdiv_mul b a h1⟩))
  rcases beq_cases a (-1) with ⟨h3, t3⟩ | ⟨h3, t3⟩ <;> rcases beq_cases b (-9223372036854775808) with ⟨h4, t4⟩ | ⟨h4, t4⟩ <;> rcases beq_cases b (-1) with ⟨h5, t5⟩ | ⟨h5, t5⟩ <;> rcases beq_cases a (-9223372036854775808) with ⟨h6, t6⟩ | ⟨h6, t6⟩
  all_goals first | (exfalso; omega) | skip
  all_goals
    have hsp : special a b = decide ((a = -1 ∧ b = -9223372036854775808) ∨ (b = -1 ∧ a = -9223372036854775808)) := rfl
    by_cases hspec : (a = -1 ∧ b = -9223372036854775808) ∨ (b = -1 ∧ a = -9223372036854775808)
  all_goals first | (exfalso; omega) | skip
  all_goals
    first
    | rw [decide_eq_true hspec] at hsp
    | rw [decide_eq_false hspec] at hsp
  all_goals
    have SPE := Lib.hid hsp
    clear hsp hspec h3 h4 h5 h6
  all_goals
    first
    | (have h := SPE.out
       have hfin : timesR a b = (0, false) := by rw [SP.out, if_pos h]
       have HF := Lib.hid hfin
       clear hfin h
       go_enter Try.func116, Try.ntmps116
       go_wp2
       go_ret2
       exact ⟨by rw [HF.out]; rfl, B0.out⟩)
    | skip
  all_goals
    have hns : ¬ (b = -1 ∧ a = -9223372036854775808) := by
      intro h
      have h2 := SPE.out
      unfold special least at h2
      rw [decide_eq_false_iff_not] at h2
      exact h2 (.inr h)
    have QB2 := Lib.hid (fun h => QB.out hns h)
    have hfin : timesR a b = (wrap64 (a * b), fits (a * b)) := by rw [SP.out, if_neg (by rw [SPE.out]; simp)]
    have HF := Lib.hid hfin
    clear hfin hns QB SP
    have hw : wrap64 a = a ∧ wrap64 b = b := by unfold wrap64; omega
    have HW := Lib.hid hw
    clear hw
    by_cases hf : fits (a * b) = true
    · obtain ⟨q1, q2⟩ := QF.out hf
      have HFT := Lib.hid hf
      clear hf QF QB2 SPE
      rw [HF.out, HFT.out]
      go_enter Try.func116, Try.ntmps116
      go_wp2
      have e1 : (IntKind.i64.wrap ((wrap64 (a * b)).tdiv b) == a) = true := by rw [wrapI, q1, HW.out.1]; simp
      have e2 : (IntKind.i64.wrap ((wrap64 (a * b)).tdiv a) == b) = true := by rw [wrapI, q2, HW.out.2]; simp
      clear q1 q2
      go_quiet (fail)
      go_wp2
      go_ret2
      exact ⟨rfl, BD.out _⟩
    · have e0 : ¬ wrap64 ((wrap64 (a * b)).tdiv b) = a := fun h => hf (QB2.out h)
      have HFT := Lib.hid (show fits (a * b) = false by simpa using hf)
      clear hf QF QB2 SPE
      rw [HF.out, HFT.out]
      go_enter Try.func116, Try.ntmps116
      go_wp2
      have e1 : (IntKind.i64.wrap ((wrap64 (a * b)).tdiv b) == a) = false := by rw [wrapI]; simpa using e0
      clear e0
      go_quiet (fail)
      go_wp2
      go_ret2
      exact ⟨rfl, BD.out _⟩

def twoR (op : Nat) (a b : Int) : Int × Bool := if op = 6 then timesR a b else twoC op a b
theorem two_R (op : Nat) (a b : Int) : twoS op a b = if (twoR op a b).2 = true then some (twoR op a b).1 else none := by
  rw [two_C]
  by_cases h6 : op = 6
  · subst h6
    show (if fits (a * b) = true then some (wrap64 (a * b)) else none) = if (timesR a b).2 = true then some (timesR a b).1 else none
    unfold timesR
    by_cases h : special a b = true
    · rw [if_pos h]
      unfold special at h
      rw [decide_eq_true_eq] at h
      have : fits (a * b) = false := by
        unfold fits least most
        rw [decide_eq_false_iff_not]
        rcases h with ⟨rfl, rfl⟩ | ⟨rfl, rfl⟩ <;> (unfold least; omega)
      rw [this]; rfl
    · rw [if_neg h]
  · rw [show twoR op a b = twoC op a b from if_neg h6]

theorem retP {w w' : World} {x x' : Int} {b b' : Bool} (hx : x = x') (hb : b = b') (h : Below w.heap.size w w') : RetP w x' b' (.returned (.tuple #[.int .i64 x, .bool b])) w' := by
  subst hx hb; exact ⟨rfl, h⟩

set_option maxHeartbeats 400000 in
theorem twoR_add (a b : Int) (w : World) (ha : least ≤ a ∧ a ≤ most) (hb : least ≤ b ∧ b ≤ most) :
    Calls Try.prog 95 #[.int .u8 4, .int .i64 a, .int .i64 b] w (RetP w (wrap64 (a + b)) (fits (a + b))) := by
  unfold least most at ha hb
  have B0 := Lib.hid (Below.refl w.heap.size w)
  by_cases h1 : 0 < a <;> by_cases h2 : 0 < b <;> by_cases h3 : a < 0 <;> by_cases h4 : b < 0 <;> by_cases h5 : a + b ≤ 9223372036854775807 <;> by_cases h6 : -9223372036854775808 ≤ a + b
  all_goals first | (exfalso; omega) | skip
  all_goals
    have hlo : decide (wrap64 (a + b) ≤ 0) = decide (wrap64 (a + b) ≤ 0) := rfl
    have k1 : (0 < wrap64 (a + b) ∧ decide (wrap64 (a + b) ≤ 0) = false) ∨ (wrap64 (a + b) ≤ 0 ∧ decide (wrap64 (a + b) ≤ 0) = true) := by
      rcases Int.lt_or_le 0 (wrap64 (a + b)) with h | h
      · exact .inl ⟨h, decide_eq_false (by omega)⟩
      · exact .inr ⟨h, decide_eq_true h⟩
    have k2 : (wrap64 (a + b) < 0 ∧ decide (0 ≤ wrap64 (a + b)) = false) ∨ (0 ≤ wrap64 (a + b) ∧ decide (0 ≤ wrap64 (a + b)) = true) := by
      rcases Int.lt_or_le (wrap64 (a + b)) 0 with h | h
      · exact .inl ⟨h, decide_eq_false (by omega)⟩
      · exact .inr ⟨h, decide_eq_true h⟩
    clear hlo
    rcases k1 with ⟨u1, u2⟩ | ⟨u1, u2⟩ <;> rcases k2 with ⟨v1, v2⟩ | ⟨v1, v2⟩
  all_goals first | (exfalso; unfold wrap64 at *; omega) | skip
  all_goals
    have F := Lib.hid (show fits (a + b) = decide (-9223372036854775808 ≤ a + b ∧ a + b ≤ 9223372036854775807) from rfl)
    first | have d1 : decide (0 < a) = true := decide_eq_true h1 | have d1 : decide (0 < a) = false := decide_eq_false h1
    first | have d2 : decide (0 < b) = true := decide_eq_true h2 | have d2 : decide (0 < b) = false := decide_eq_false h2
    first | have d3 : decide (a < 0) = true := decide_eq_true h3 | have d3 : decide (a < 0) = false := decide_eq_false h3
    first | have d4 : decide (b < 0) = true := decide_eq_true h4 | have d4 : decide (b < 0) = false := decide_eq_false h4
    have H := Lib.hid (And.intro h5 h6)
    clear h5 h6 u1 v1
    go_enter Try.func95, Try.ntmps95
    go_wp2
    go_ret2
    refine retP (by first | rfl | (have := H.out; unfold wrap64; omega)) ?_ B0.out
    rw [F.out]
    have := H.out
    first | (rw [decide_eq_true (by omega)]; done) | (rw [decide_eq_false (by omega)]; done)
end Ex
end Go.Proofs.Ytdpmfjbhadapiaa
