/- The walks of Holds, the document's Holds, the example; slices of signs that the call makes, and append on them. Conditions: the signs and the variables can be read. -/
import Derived.Test.YtdpmfjbhadapiaaExpE
namespace Go.Proofs.Ytdpmfjbhadapiaa
open Go.RowKit
set_option linter.unusedVariables false
namespace Ex

theorem holds_any (a : Option Addr) (n cap : Nat) (l : List Tok) (av : Option Addr) (nv cv : Nat) (vars : List Int) (arg : Int) (w : World) (hl : Toks w a n l) (hv : Ints w av nv vars) (harg : least ≤ arg ∧ arg ≤ most) :
    Calls Try.prog 43 #[.slice a n cap, .slice av nv cv, .int .i64 arg] w (RetBo w (holdsS l vars arg)) := by
  obtain rfl := hl.1
  have hfin : holdsS l vars arg = decide (l.length = 0 ∨ ((evalS l vars arg).2 = 0 ∧ (evalS l vars arg).1 ≠ 0)) := rfl
  generalize holdsS l vars arg = res at *
  have HE := Lib.hid (eval_any a l.length cap l av nv cv vars arg w hl hv harg)
  have B0 := Lib.hid (Below.refl w.heap.size w)
  generalize evalS l vars arg = r at *
  obtain ⟨x, e⟩ := r
  simp only at hfin
  by_cases h0 : l.length = 0
  · have t0 : ((l.length : Int) == 0) = true := by rw [beq_iff_eq]; omega
    rw [decide_eq_true (.inl h0)] at hfin
    subst hfin
    clear h0 hl hv
    go_enter Try.func43, Try.ntmps43
    go_wp2_with fail
    go_ret
    exact retBo rfl B0.out
  · have t0 : ((l.length : Int) == 0) = false := by rw [beq_eq_false_iff_ne]; omega
    have H0 := Lib.hid h0
    have HF := Lib.hid hfin
    rcases beq_cases (e : Int) 0 with ⟨h1, t1⟩ | ⟨h1, t1⟩ <;> rcases beq_cases x 0 with ⟨h2, t2⟩ | ⟨h2, t2⟩
    all_goals
      have t3 : (x != 0) = !(x == 0) := rfl
      rw [t2] at t3
      have H12 := Lib.hid (And.intro h1 h2)
      clear h0 hl hv hfin h1 h2
      go_enter Try.func43, Try.ntmps43
      go_wp2_with fail
      refine HE.out.mono ?_
      rintro en w1 ⟨rfl, b1⟩
      go_wp2_with fail
      go_ret
      refine retBo ?_ b1
      rw [HF.out]
      have := H0.out
      have := H12.out
      first
      | (rw [decide_eq_true (by omega)]; done)
      | (rw [decide_eq_false (by omega)]; done)

theorem holdsR_any (a : Option Addr) (n cap : Nat) (l : List Tok) (av : Option Addr) (nv cv : Nat) (vars : List Int) (arg : Int) (w : World) (hl : Toks w a n l) (hv : Ints w av nv vars) (harg : least ≤ arg ∧ arg ≤ most) :
    Calls Try.prog 44 #[.slice a n cap, .slice av nv cv, .int .i64 arg] w (RetBo w (holdsS l vars arg)) := by
  obtain rfl := hl.1
  have hfin : holdsS l vars arg = decide (l.length = 0 ∨ ((evalS l vars arg).2 = 0 ∧ (evalS l vars arg).1 ≠ 0)) := rfl
  generalize holdsS l vars arg = res at *
  have HE := Lib.hid (evalR_any a l.length cap l av nv cv vars arg w hl hv harg)
  rw [← eval_eq] at HE
  generalize evalS l vars arg = r at *
  obtain ⟨x, e⟩ := r
  simp only at hfin
  have t0 : ((l.length : Int) == 0) = decide (l.length = 0) := by
    by_cases h : l.length = 0
    · rw [decide_eq_true h, beq_iff_eq]; omega
    · rw [decide_eq_false h, beq_eq_false_iff_ne]; omega
  by_cases h0 : l.length = 0 <;> rcases beq_cases (e : Int) 0 with ⟨h1, t1⟩ | ⟨h1, t1⟩ <;> rcases beq_cases x 0 with ⟨h2, t2⟩ | ⟨h2, t2⟩
  all_goals
    first | rw [decide_eq_true h0] at t0 | rw [decide_eq_false h0] at t0
    have H0 := Lib.hid h0
    have HF := Lib.hid hfin
    have t3 : (x != 0) = !(x == 0) := rfl
    rw [t2] at t3
    have H12 := Lib.hid (And.intro h1 h2)
    clear h0 hl hv hfin h1 h2
    go_enter Try.func44, Try.ntmps44
    go_wp2_with fail
    refine HE.out.mono ?_
    rintro en w1 ⟨rfl, b1⟩
    go_wp2_with fail
    go_ret
    refine retBo ?_ b1
    rw [HF.out]
    have := H0.out
    have := H12.out
    first
    | (rw [decide_eq_true (by omega)]; done)
    | (rw [decide_eq_false (by omega)]; done)

/-! ### slices of signs that the call makes -/
end Ex
end Go.Proofs.Ytdpmfjbhadapiaa
