/- The walks of the laws ExprMay, ExprTwo, ExprEvals: each returns true. -/
import Derived.Test.YtbmejebnicaaiaaExpH
namespace Go.Proofs.Ytbmejebnicaaiaa
open Go.RowKit
set_option linter.unusedVariables false
namespace Ex

theorem beq_refl_b (b : Bool) : (b == b) = true := by cases b <;> rfl
theorem beq_refl_i (b : Int) : (b == b) = true := by simp

theorem exprMay (w : World) (a : Option Addr) (cap : Nat) (l : List Tok) (hl : Toks w a l.length l) (vars : Int) (hv : -9223372036854775808 ≤ vars ∧ vars ≤ 9223372036854775807) :
    Calls Try.prog 4 #[.slice a l.length cap, .int .i64 vars] w (RetBo w true) := by
  have HL := Lib.hid hl
  have HM := Lib.hid (may_eq l vars)
  clear hl
  by_cases h : 100 < l.length
  · go_enter Try.func4, Try.ntmps4
    go_wp2_with fail
    refine (awake_any _).mono ?_
    rintro e w1 ⟨rfl, b1⟩
    go_wp2_with fail
    go_ret
    exact retBo rfl b1
  · have hb := beq_refl_b (refMayS l vars)
    go_enter Try.func4, Try.ntmps4
    go_wp2_with fail
    refine (may_any _ _ _ l vars _ HL.out).mono ?_
    rintro e w1 ⟨rfl, b1⟩
    rw [HM.out]
    go_wp2_with fail
    refine (mayR_any _ _ _ l vars _ (HL.out.mono b1)).mono ?_
    rintro e w2 ⟨rfl, b2⟩
    generalize refMayS l vars = r at *
    go_wp2_with fail
    refine (awake_any _).mono ?_
    rintro e w3 ⟨rfl, b3⟩
    go_wp2_with fail
    go_ret
    exact retBo rfl (bthen (bthen b1 b2) b3)

theorem exprTwo (w : World) (op : UInt8) (x : Int) (hx : -9223372036854775808 ≤ x ∧ x ≤ 9223372036854775807) (y : Int) (hy : -9223372036854775808 ≤ y ∧ y ≤ 9223372036854775807) :
    Calls Try.prog 3 #[.int .u8 (op.toNat : Int), .int .i64 x, .int .i64 y] w (RetBo w true) := by
  have hop := op.toNat_lt
  generalize op.toNat = p at *
  have hok : ∀ t ∈ ([⟨1, x⟩, ⟨3, 0⟩, ⟨p, 0⟩] : List Tok), okT t := by
    intro t ht
    simp at ht
    unfold okT least most
    rcases ht with rfl | rfl | rfl
    · exact ⟨by simp, hx⟩
    · simp
    · exact ⟨hop, by simp⟩
  have HT := Lib.hid (newToks w [⟨1, x⟩, ⟨3, 0⟩, ⟨p, 0⟩] 23 (0, 0) (by simp [maxLen]) hok)
  have BA := Lib.hid (fun w o => balloc w o)
  have HE := Lib.hid (eval_eq [⟨1, x⟩, ⟨3, 0⟩, ⟨p, 0⟩] [] y)
  have HY := Lib.hid (show least ≤ y ∧ y ≤ most from hy)
  clear hok
  go_enter Try.func3, Try.ntmps3
  go_wp2_with fail
  refine (eval_any _ _ _ [⟨1, x⟩, ⟨3, 0⟩, ⟨p, 0⟩] _ _ _ [] y _ HT.out (Ints.nil _ _) HY.out).mono ?_
  rintro e w1 ⟨rfl, b1⟩
  rw [HE.out]
  have c1 := bthen (BA.out w _) b1
  go_wp2_with fail
  refine (evalR_any _ _ _ [⟨1, x⟩, ⟨3, 0⟩, ⟨p, 0⟩] _ _ _ [] y _ ((HT.out.mono b1).mono (BA.out w1 _)) (Ints.nil _ _) HY.out).mono ?_
  rintro e w2 ⟨rfl, b2⟩
  have c2 := bthen c1 (bthen (BA.out w1 _) b2)
  generalize refEvalS [⟨1, x⟩, ⟨3, 0⟩, ⟨p, 0⟩] [] y = r at *
  obtain ⟨v, n⟩ := r
  simp only
  have k1 := beq_refl_i v
  have k2 := beq_refl_i (n : Int)
  go_wp2_with fail
  refine (awake_any _).mono ?_
  rintro e w3 ⟨rfl, b3⟩
  go_wp2_with fail
  go_ret
  exact retBo rfl (bthen c2 b3)

theorem exprEvals (w : World) (a : Option Addr) (cap : Nat) (l : List Tok) (hl : Toks w a l.length l) (av : Option Addr) (cv : Nat) (vars : List Int) (hv : Ints w av vars.length vars) (arg : Int) (ha : -9223372036854775808 ≤ arg ∧ arg ≤ 9223372036854775807) :
    Calls Try.prog 6 #[.slice a l.length cap, .slice av vars.length cv, .int .i64 arg] w (RetBo w true) := by
  have HL := Lib.hid hl
  have HV := Lib.hid hv
  have HA := Lib.hid (show least ≤ arg ∧ arg ≤ most from ha)
  have HM := Lib.hid (may_eq l vars.length)
  have HE := Lib.hid (eval_eq l vars arg)
  clear hl hv
  by_cases h : 100 < l.length
  · go_enter Try.func6, Try.ntmps6
    go_wp2_with fail
    refine (awake_any _).mono ?_
    rintro e w1 ⟨rfl, b1⟩
    go_wp2_with fail
    go_ret
    exact retBo rfl b1
  by_cases h2 : 100 < vars.length
  · go_enter Try.func6, Try.ntmps6
    go_wp2_with fail
    refine (awake_any _).mono ?_
    rintro e w1 ⟨rfl, b1⟩
    go_wp2_with fail
    go_ret
    exact retBo rfl b1
  go_enter Try.func6, Try.ntmps6
  go_wp2_with fail
  refine (eval_any _ _ _ l _ _ _ vars arg _ HL.out HV.out HA.out).mono ?_
  rintro e w1 ⟨rfl, c1⟩
  rw [HE.out]
  go_wp2_with fail
  refine (evalR_any _ _ _ l _ _ _ vars arg _ (HL.out.mono c1) (HV.out.mono c1) HA.out).mono ?_
  rintro e w2 ⟨rfl, b2⟩
  have c2 := bthen c1 b2
  generalize refEvalS l vars arg = r at *
  obtain ⟨v, n⟩ := r
  simp only
  have k1 := beq_refl_i v
  have k2 := beq_refl_i (n : Int)
  go_wp2_with fail
  refine (may_any _ _ _ l _ _ (HL.out.mono c2)).mono ?_
  rintro e w3 ⟨rfl, b3⟩
  have c3 := bthen c2 b3
  rw [HM.out]
  go_wp2_with fail
  refine (mayR_any _ _ _ l _ _ (HL.out.mono c3)).mono ?_
  rintro e w4 ⟨rfl, b4⟩
  have c4 := bthen c3 b4
  have k3 := beq_refl_b (refMayS l vars.length)
  generalize refMayS l vars.length = r at *
  go_wp2_with fail
  refine (holds_any _ _ _ l _ _ _ vars arg _ (HL.out.mono c4) (HV.out.mono c4) HA.out).mono ?_
  rintro e w5 ⟨rfl, b5⟩
  have c5 := bthen c4 b5
  go_wp2_with fail
  refine (holdsR_any _ _ _ l _ _ _ vars arg _ (HL.out.mono c5) (HV.out.mono c5) HA.out).mono ?_
  rintro e w6 ⟨rfl, b6⟩
  have c6 := bthen c5 b6
  have k4 := beq_refl_b (holdsS l vars arg)
  generalize holdsS l vars arg = hs at *
  go_wp2_with fail
  refine (awake_any _).mono ?_
  rintro e w7 ⟨rfl, b7⟩
  go_wp2_with fail
  go_ret
  exact retBo rfl (bthen c6 b7)
end Ex
end Go.Proofs.Ytbmejebnicaaiaa
