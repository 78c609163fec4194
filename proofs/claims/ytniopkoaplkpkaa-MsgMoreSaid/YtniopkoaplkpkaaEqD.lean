/- The walk of reg.Same. Conditions: both registers can be read. -/
import Derived.Test.YtniopkoaplkpkaaEqC
import Derived.Test.YtniopkoaplkpkaaFrame
namespace Go.Proofs.Ytniopkoaplkpkaa
open Go.RowKit
set_option linter.unusedVariables false
namespace Rg

set_option maxRecDepth 10000 in
set_option maxHeartbeats 3200000 in
theorem sameC_any (w : World) (x y : RegD) (p q : RegA) (hx : RegAt w x p) (hy : RegAt w y q) :
    Calls Try.prog 70 #[.agg (regCs x p).toArray, .agg (regCs y q).toArray] w (RetBo w (decide (x = y))) := by
  have BA := Lib.hid (fun w o => balloc w o)
  have C0 := Lib.hid (fun w' (b : Below w.heap.size w w') => equalInt_any w' p.va q.va p.vc q.vc x.vars y.vars (hx.vars.mono b) (hy.vars.mono b))
  have C1 := Lib.hid (fun w' (b : Below w.heap.size w w') => equalDone_any w' p.da q.da p.dc q.dc x.done y.done (hx.done.mono b) (hy.done.mono b))
  have C2 := Lib.hid (fun w' (b : Below w.heap.size w w') => equalCell_any w' p.oa q.oa p.oc q.oc x.out y.out (hx.out.mono b) (hy.out.mono b))
  have C3 := Lib.hid (fun w' (b : Below w.heap.size w w') => equalMark_any w' p.ma q.ma p.mc q.mc x.marks y.marks (hx.marks.mono b) (hy.marks.mono b))
  have hfin : (x.kind = y.kind ∧ x.inc = y.inc ∧ x.state = y.state ∧ x.last = y.last ∧ x.vars = y.vars ∧ x.done = y.done ∧ x.out = y.out ∧ x.marks = y.marks) ↔ x = y := by
    obtain ⟨a1, a2, a3, a4, a5, a6, a7, a8⟩ := x
    obtain ⟨b1, b2, b3, b4, b5, b6, b7, b8⟩ := y
    simp
    grind
  obtain ⟨res, hres⟩ : ∃ res, res = decide (x = y) := ⟨_, rfl⟩
  rw [← hres]
  rw [show decide (x = y) = decide (x.kind = y.kind ∧ x.inc = y.inc ∧ x.state = y.state ∧ x.last = y.last ∧ x.vars = y.vars ∧ x.done = y.done ∧ x.out = y.out ∧ x.marks = y.marks) by congr 1; exact propext hfin.symm] at hres
  have HF := Lib.hid hres
  clear hres hfin hx hy
  unfold regCs
  rcases beq_cases (x.kind : Int) (y.kind : Int) with ⟨e0, t0⟩ | ⟨e0, t0⟩
  case inr =>
    have hr : res = false := by
      rw [HF.out, decide_eq_false_iff_not]
      rintro ⟨h0, h1, h2, h3, h4⟩
      exact e0 (by rw [h0])
    subst hr
    clear e0
    go_enter Try.func70, Try.ntmps70
    go_wp2_with fail
    go_ret
    exact retBo rfl (bthen (BA.out w _) (BA.out _ _))
  rcases beq_cases (x.inc : Int) (y.inc : Int) with ⟨e1, t1⟩ | ⟨e1, t1⟩
  case inr =>
    have hr : res = false := by
      rw [HF.out, decide_eq_false_iff_not]
      rintro ⟨h0, h1, h2, h3, h4⟩
      exact e1 (by rw [h1])
    subst hr
    clear e0 e1
    go_enter Try.func70, Try.ntmps70
    go_wp2_with fail
    go_ret
    exact retBo rfl (bthen (BA.out w _) (BA.out _ _))
  rcases beq_cases x.state y.state with ⟨e2, t2⟩ | ⟨e2, t2⟩
  case inr =>
    have hr : res = false := by
      rw [HF.out, decide_eq_false_iff_not]
      rintro ⟨h0, h1, h2, h3, h4⟩
      exact e2 (by rw [h2])
    subst hr
    clear e0 e1 e2
    go_enter Try.func70, Try.ntmps70
    go_wp2_with fail
    go_ret
    exact retBo rfl (bthen (BA.out w _) (BA.out _ _))
  rcases beq_cases (x.last : Int) (y.last : Int) with ⟨e3, t3⟩ | ⟨e3, t3⟩
  case inr =>
    have hr : res = false := by
      rw [HF.out, decide_eq_false_iff_not]
      rintro ⟨h0, h1, h2, h3, h4⟩
      exact e3 (by rw [h3])
    subst hr
    clear e0 e1 e2 e3
    go_enter Try.func70, Try.ntmps70
    go_wp2_with fail
    go_ret
    exact retBo rfl (bthen (BA.out w _) (BA.out _ _))
  have hr : res = decide (x.vars = y.vars ∧ x.done = y.done ∧ x.out = y.out ∧ x.marks = y.marks) := by
    rw [HF.out]
    have h0 : x.kind = y.kind := by omega
    have h1 : x.inc = y.inc := by omega
    have h3 : x.last = y.last := by omega
    simp [h0, h1, e2, h3]
  have HR := Lib.hid hr
  clear hr e0 e1 e2 e3
  have BW := Lib.hid (bthen (BA.out w (.cells (regCs x p).toArray 42 (0, 0))) (BA.out _ (.cells (regCs y q).toArray 42 (0, 0))))
  have HB0 : Hid (RegB ((w.alloc (.cells (regCs x p).toArray 42 (0, 0))).alloc (.cells (regCs y q).toArray 42 (0, 0))) w.heap.size x p ∧ RegB ((w.alloc (.cells (regCs x p).toArray 42 (0, 0))).alloc (.cells (regCs y q).toArray 42 (0, 0))) (w.heap.size + 1) y q) := by
    refine Lib.hid ?_
    unfold RegB
    refine ⟨⟨?_, ?_, ?_, ?_, ?_, ?_, ?_, ?_⟩, ?_, ?_, ?_, ?_, ?_, ?_, ?_, ?_⟩ <;> first | exact own_cell (Below.refl _ _) _ rfl | exact own_cell2 (Below.refl _ _) _ rfl
  go_enter Try.func70, Try.ntmps70
  go_wp2_with fail
  skip
  refine (C0.out _ (BW.out)).mono ?_
  rintro e w1 ⟨rfl, b1⟩
  have HB1 := Lib.hid (And.intro (HB0.out.1.mono b1) (HB0.out.2.mono b1))
  obtain ⟨⟨_, _, _, _, x4, x5, _, x7⟩, _, _, _, _, y4, y5, _, y7⟩ := HB1.out
  by_cases g0 : x.vars = y.vars
  case neg =>
    have hr : res = false := by
      rw [HR.out, decide_eq_false_iff_not]
      rintro ⟨h0, h1, h2, h3⟩
      exact g0 h0
    subst hr
    rw [decide_eq_false g0]
    clear g0
    go_wp2_with fail
    go_ret
    exact retBo rfl (bthen (BW.out) b1)
  rw [decide_eq_true g0]
  have G0 := Lib.hid g0
  clear g0
  go_wp2_with fail
  clear x4 x5 x7 y4 y5 y7
  refine (C1.out _ (bthen (BW.out) b1)).mono ?_
  rintro e w2 ⟨rfl, b2⟩
  have HB2 := Lib.hid (And.intro (HB1.out.1.mono b2) (HB1.out.2.mono b2))
  obtain ⟨⟨_, _, _, _, x4, x5, _, x7⟩, _, _, _, _, y4, y5, _, y7⟩ := HB2.out
  by_cases g1 : x.done = y.done
  case neg =>
    have hr : res = false := by
      rw [HR.out, decide_eq_false_iff_not]
      rintro ⟨h0, h1, h2, h3⟩
      exact g1 h1
    subst hr
    rw [decide_eq_false g1]
    clear g1
    go_wp2_with fail
    go_ret
    exact retBo rfl (bthen (bthen (BW.out) b1) b2)
  rw [decide_eq_true g1]
  have G1 := Lib.hid g1
  clear g1
  go_wp2_with fail
  clear x4 x5 x7 y4 y5 y7
  refine (C2.out _ (bthen (bthen (BW.out) b1) b2)).mono ?_
  rintro e w3 ⟨rfl, b3⟩
  have HB3 := Lib.hid (And.intro (HB2.out.1.mono b3) (HB2.out.2.mono b3))
  obtain ⟨⟨_, _, _, _, x4, x5, _, x7⟩, _, _, _, _, y4, y5, _, y7⟩ := HB3.out
  by_cases g2 : x.out = y.out
  case neg =>
    have hr : res = false := by
      rw [HR.out, decide_eq_false_iff_not]
      rintro ⟨h0, h1, h2, h3⟩
      exact g2 h2
    subst hr
    rw [decide_eq_false g2]
    clear g2
    go_wp2_with fail
    go_ret
    exact retBo rfl (bthen (bthen (bthen (BW.out) b1) b2) b3)
  rw [decide_eq_true g2]
  have G2 := Lib.hid g2
  clear g2
  go_wp2_with fail
  clear x4 x5 x7 y4 y5 y7
  refine (C3.out _ (bthen (bthen (bthen (BW.out) b1) b2) b3)).mono ?_
  rintro e w4 ⟨rfl, b4⟩
  have HB4 := Lib.hid (And.intro (HB3.out.1.mono b4) (HB3.out.2.mono b4))
  obtain ⟨⟨_, _, _, _, x4, x5, _, x7⟩, _, _, _, _, y4, y5, _, y7⟩ := HB4.out
  by_cases g3 : x.marks = y.marks
  case neg =>
    have hr : res = false := by
      rw [HR.out, decide_eq_false_iff_not]
      rintro ⟨h0, h1, h2, h3⟩
      exact g3 h3
    subst hr
    rw [decide_eq_false g3]
    clear g3
    go_wp2_with fail
    go_ret
    exact retBo rfl (bthen (bthen (bthen (bthen (BW.out) b1) b2) b3) b4)
  rw [decide_eq_true g3]
  have G3 := Lib.hid g3
  clear g3
  have hr : res = true := by
    rw [HR.out, decide_eq_true ⟨G0.out, G1.out, G2.out, G3.out⟩]
  subst hr
  go_wp2_with fail
  go_ret
  exact retBo rfl (bthen (bthen (bthen (bthen (BW.out) b1) b2) b3) b4)
end Rg
end Go.Proofs.Ytniopkoaplkpkaa
