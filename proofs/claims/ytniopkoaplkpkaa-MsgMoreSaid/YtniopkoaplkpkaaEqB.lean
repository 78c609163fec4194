/- The walks of reg.SameReply and of what reg.Same hands to EqualFunc. Conditions: the replies can be read. -/
import Derived.Test.YtniopkoaplkpkaaEqA
namespace Go.Proofs.Ytniopkoaplkpkaa
open Go.RowKit
set_option linter.unusedVariables false
namespace Rg

set_option maxRecDepth 10000 in
theorem sameReplyC_any (w : World) (x y : RepD) (p q : RepA) (hx : RepAt w x p) (hy : RepAt w y q):
    Calls Try.prog 99 #[.agg (repCs x p).toArray, .agg (repCs y q).toArray] w (RetBo w (decide (x = y))) := by
  have BA := Lib.hid (fun w o => balloc w o)
  have CA := Lib.hid (fun w' (b : Below w.heap.size w w') => equalInt_any w' p.a q.a p.c q.c x.vars y.vars (hx.2.2.2.1.mono b) (hy.2.2.2.1.mono b))
  have hfin : (x.err = y.err ∧ x.inc = y.inc ∧ x.state = y.state ∧ x.vars = y.vars) ↔ x = y := by
    obtain ⟨a1, a2, a3, a4⟩ := x
    obtain ⟨b1, b2, b3, b4⟩ := y
    simp
  have hres : decide (x = y) = decide (x.err = y.err ∧ x.inc = y.inc ∧ x.state = y.state ∧ x.vars = y.vars) := by congr 1; exact propext hfin.symm
  generalize decide (x = y) = res at *
  have HF := Lib.hid hres
  clear hres hfin hx hy
  unfold repCs
  rcases beq_cases x.err y.err with ⟨e0, t0⟩ | ⟨e0, t0⟩
  case inr =>
    have hr : res = false := by
      rw [HF.out, decide_eq_false_iff_not]
      rintro ⟨h0, h1, h2, h3⟩
      exact e0 (by rw [h0])
    subst hr
    clear e0
    go_enter Try.func99, Try.ntmps99
    go_wp2_with fail
    go_ret
    exact retBo rfl (bthen (BA.out w _) (BA.out _ _))
  rcases beq_cases (x.inc : Int) (y.inc : Int) with ⟨e1, t1⟩ | ⟨e1, t1⟩
  case inr =>
    have hr : res = false := by
      rw [HF.out, decide_eq_false_iff_not]
      rintro ⟨h0, h1, h2, h3⟩
      exact e1 (by rw [h1])
    subst hr
    clear e0 e1
    go_enter Try.func99, Try.ntmps99
    go_wp2_with fail
    go_ret
    exact retBo rfl (bthen (BA.out w _) (BA.out _ _))
  rcases beq_cases x.state y.state with ⟨e2, t2⟩ | ⟨e2, t2⟩
  case inr =>
    have hr : res = false := by
      rw [HF.out, decide_eq_false_iff_not]
      rintro ⟨h0, h1, h2, h3⟩
      exact e2 (by rw [h2])
    subst hr
    clear e0 e1 e2
    go_enter Try.func99, Try.ntmps99
    go_wp2_with fail
    go_ret
    exact retBo rfl (bthen (BA.out w _) (BA.out _ _))
  have hr : res = decide (x.vars = y.vars) := by
    rw [HF.out]
    have h1 : x.inc = y.inc := by omega
    simp [e0, h1, e2]
  have HR := Lib.hid hr
  clear hr e0 e1 e2
  go_enter Try.func99, Try.ntmps99
  go_wp2_with fail
  refine (CA.out _ (bthen (BA.out w _) (BA.out _ _))).mono ?_
  rintro e w1 ⟨rfl, b1⟩
  rw [← HR.out]
  go_wp2_with fail
  go_ret
  exact retBo rfl (bthen (bthen (BA.out w _) (BA.out _ _)) b1)

set_option maxRecDepth 10000 in
theorem sameDone_any (w : World) (x y : DoneD) (p q : RepA) (hx : RepAt w x.rep p) (hy : RepAt w y.rep q):
    Calls Try.prog 98 #[.agg (doneCs x p).toArray, .agg (doneCs y q).toArray] w (RetBo w (decide (x = y))) := by
  have BA := Lib.hid (fun w o => balloc w o)
  have CA := Lib.hid (fun w' (b : Below w.heap.size w w') => sameReplyC_any w' x.rep y.rep p q (hx.mono b) (hy.mono b))
  have hfin : (x.client = y.client ∧ x.seq = y.seq ∧ x.rep = y.rep) ↔ x = y := by
    obtain ⟨a1, a2, a3⟩ := x
    obtain ⟨b1, b2, b3⟩ := y
    simp
  have hres : decide (x = y) = decide (x.client = y.client ∧ x.seq = y.seq ∧ x.rep = y.rep) := by congr 1; exact propext hfin.symm
  generalize decide (x = y) = res at *
  have HF := Lib.hid hres
  clear hres hfin hx hy
  unfold doneCs repCs
  rcases beq_cases (x.client : Int) (y.client : Int) with ⟨e0, t0⟩ | ⟨e0, t0⟩
  case inr =>
    have hr : res = false := by
      rw [HF.out, decide_eq_false_iff_not]
      rintro ⟨h0, h1, h2⟩
      exact e0 (by rw [h0])
    subst hr
    clear e0
    go_enter Try.func98, Try.ntmps98
    go_wp2_with fail
    go_ret
    exact retBo rfl (bthen (BA.out w _) (BA.out _ _))
  rcases beq_cases (x.seq : Int) (y.seq : Int) with ⟨e1, t1⟩ | ⟨e1, t1⟩
  case inr =>
    have hr : res = false := by
      rw [HF.out, decide_eq_false_iff_not]
      rintro ⟨h0, h1, h2⟩
      exact e1 (by rw [h1])
    subst hr
    clear e0 e1
    go_enter Try.func98, Try.ntmps98
    go_wp2_with fail
    go_ret
    exact retBo rfl (bthen (BA.out w _) (BA.out _ _))
  have hr : res = decide (x.rep = y.rep) := by
    rw [HF.out]
    have h0 : x.client = y.client := by omega
    have h1 : x.seq = y.seq := by omega
    simp [h0, h1]
  have HR := Lib.hid hr
  clear hr e0 e1
  go_enter Try.func98, Try.ntmps98
  go_wp2_with fail
  refine (CA.out _ (bthen (BA.out w _) (BA.out _ _))).mono ?_
  rintro e w1 ⟨rfl, b1⟩
  rw [← HR.out]
  go_wp2_with fail
  go_ret
  exact retBo rfl (bthen (bthen (BA.out w _) (BA.out _ _)) b1)

end Rg
end Go.Proofs.Ytniopkoaplkpkaa
