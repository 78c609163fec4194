/- The walk of the document's SameReply. Conditions: both replies can be read. -/
import Derived.Test.YtiaogfjmhpkcmaaRegD
import Derived.BigQuiet
import Derived.Deep.QuietTactic
namespace Go.Proofs.Ytiaogfjmhpkcmaa
open Go.RowKit
set_option linter.unusedVariables false
namespace Rg

theorem bne_of (a c : Int) : (a != c) = !(a == c) := rfl
theorem ne_cases (a c : Int) : (a = c ∧ (a != c) = false) ∨ (a ≠ c ∧ (a != c) = true) := by
  by_cases h : a = c
  · exact .inl ⟨h, by simp [h]⟩
  · exact .inr ⟨h, by simp [h]⟩
theorem take_eq {α : Type} {l m : List α} {k : Nat} (h1 : k < l.length) (h2 : k < m.length) (h : l.take k = m.take k) (e : l[k] = m[k]) : l.take (k + 1) = m.take (k + 1) := by
  rw [List.take_succ_eq_append_getElem h1, List.take_succ_eq_append_getElem h2, h, e]
theorem take_ne {α : Type} {l m : List α} {k : Nat} (h1 : k < l.length) (h2 : k < m.length) (e : l[k] ≠ m[k]) : l ≠ m := by
  rintro rfl; exact e rfl

/-- a reply's box -/
def RepB (w : World) (b : Nat) (r : RepD) (p : RepA) : Prop :=
  w.cell? ⟨b, 0, none⟩ = some (.int .i64 r.err) ∧ w.cell? ⟨b, 1, none⟩ = some (.int .u64 (r.inc : Int)) ∧ w.cell? ⟨b, 2, none⟩ = some (.int .i64 r.state) ∧ w.cell? ⟨b, 3, none⟩ = some (.slice p.a r.vars.length p.c)
theorem RepB.mono {w w' : World} {b : Nat} {r : RepD} {p : RepA} (h : RepB w b r p) (hb : Below w.heap.size w w') : RepB w' b r p := ⟨cell_up hb h.1, cell_up hb h.2.1, cell_up hb h.2.2.1, cell_up hb h.2.2.2⟩

set_option maxHeartbeats 800000 in
theorem sameRep_any (w : World) (x y : RepD) (p q : RepA) (hx : RepAt w x p) (hy : RepAt w y q) :
    Calls Try.prog 28 #[.agg (repCs x p).toArray, .agg (repCs y q).toArray] w (RetBo w (decide (x = y))) := by
  have BA := Lib.hid (fun w o => balloc w o)
  have BD := Lib.hid below_dr
  have HX := Lib.hid hx.2.2.2.1
  have HY := Lib.hid hy.2.2.2.1
  have hm := hx.2.2.2.1.1
  have hm2 := hy.2.2.2.1.1
  unfold maxLen at hm hm2
  have hfin : (x.err = y.err ∧ x.inc = y.inc ∧ x.state = y.state ∧ x.vars = y.vars) ↔ x = y := by
    obtain ⟨a1, a2, a3, a4⟩ := x
    obtain ⟨b1, b2, b3, b4⟩ := y
    simp
  have hres : decide (x = y) = decide (x.err = y.err ∧ x.inc = y.inc ∧ x.state = y.state ∧ x.vars = y.vars) := by congr 1; exact propext hfin.symm
  generalize decide (x = y) = res at *
  have HF := Lib.hid hres
  clear hres hfin hx hy
  unfold repCs
  rcases ne_cases x.err y.err with ⟨e0, t0⟩ | ⟨e0, t0⟩
  case inr =>
    have hr : res = false := by
      rw [HF.out, decide_eq_false_iff_not]
      rintro ⟨h0, h1, h2, h3⟩
      exact e0 h0
    subst hr
    clear e0
    go_enter Try.func28, Try.ntmps28
    go_wp2_with fail
    go_ret
    exact retBo rfl (bthen (BA.out w _) (BA.out _ _))
  rcases ne_cases (x.inc : Int) (y.inc : Int) with ⟨e1, t1⟩ | ⟨e1, t1⟩
  case inr =>
    have hr : res = false := by
      rw [HF.out, decide_eq_false_iff_not]
      rintro ⟨h0, h1, h2, h3⟩
      exact e1 (by rw [h1])
    subst hr
    clear e0 e1
    go_enter Try.func28, Try.ntmps28
    go_wp2_with fail
    go_ret
    exact retBo rfl (bthen (BA.out w _) (BA.out _ _))
  rcases ne_cases x.state y.state with ⟨e2, t2⟩ | ⟨e2, t2⟩
  case inr =>
    have hr : res = false := by
      rw [HF.out, decide_eq_false_iff_not]
      rintro ⟨h0, h1, h2, h3⟩
      exact e2 h2
    subst hr
    clear e0 e1 e2
    go_enter Try.func28, Try.ntmps28
    go_wp2_with fail
    go_ret
    exact retBo rfl (bthen (BA.out w _) (BA.out _ _))
  rcases ne_cases (x.vars.length : Int) (y.vars.length : Int) with ⟨e3, t3⟩ | ⟨e3, t3⟩
  case inr =>
    have hr : res = false := by
      rw [HF.out, decide_eq_false_iff_not]
      rintro ⟨h0, h1, h2, h3⟩
      exact e3 (by rw [h3])
    subst hr
    clear e0 e1 e2 e3
    go_enter Try.func28, Try.ntmps28
    go_wp2_with fail
    go_ret
    exact retBo rfl (bthen (BA.out w _) (BA.out _ _))
  have hlen : x.vars.length = y.vars.length := by omega
  have HLEN := Lib.hid hlen
  have hr : res = decide (x.vars = y.vars) := by
    rw [HF.out]
    have h1 : x.inc = y.inc := by omega
    simp [e0, h1, e2]
  have HR := Lib.hid hr
  clear hr hlen e0 e1 e2 e3
  go_enter Try.func28, Try.ntmps28
  go_wp2_with fail
  go_loopw [37] (fun i wr => ∃ k : Nat, k ≤ x.vars.length ∧ i = .int .i64 k ∧ Hid (x.vars.take k = y.vars.take k) ∧ Hid (RepB wr w.heap.size x p ∧ RepB wr (w.heap.size + 1) y q) ∧ Below w.heap.size w wr) (fun i _ => x.vars.length - (intOf i).toNat)
  case atStart => exact ⟨0, Nat.zero_le _, rfl, Lib.hid rfl, Lib.hid (by unfold RepB; refine ⟨⟨?_, ?_, ?_, ?_⟩, ?_, ?_, ?_, ?_⟩ <;> go_simp), bthen (BA.out w _) (BA.out _ _)⟩
  case round =>
    obtain ⟨k, hk, rfl, hg, hbx, bl⟩ := hrel
    by_cases hlt : k < x.vars.length
    · have hlt2 : k < y.vars.length := by have := HLEN.out; omega
      obtain ⟨b, o, ha, c0, hbl, _⟩ := (HX.out.mono bl).at k hlt
      obtain ⟨b2, o2, ha2, d0, hbl2, _⟩ := (HY.out.mono bl).at k hlt2
      obtain ⟨⟨_, _, _, x3⟩, _, _, _, y3⟩ := hbx.out
      rw [ha] at x3
      rw [ha2] at y3
      have HEQ := Lib.hid (fun e => take_eq hlt hlt2 hg.out e)
      have HNE := Lib.hid (fun e => take_ne hlt hlt2 e)
      have i1 : (0 : Int) ≤ (k : Int) := by omega
      have i2 : (k : Int) < (x.vars.length : Int) := by omega
      have i3 : (k : Int) < (y.vars.length : Int) := by omega
      have HBD := Lib.hid (fun n => BD.out wr n)
      clear ha ha2
      generalize x.vars[k] = u at *
      generalize y.vars[k] = v at *
      rcases ne_cases u v with ⟨e, t⟩ | ⟨e, t⟩
      · have HE := Lib.hid (HEQ.out e)
        clear e
        go_wp2_with fail
        go_quiet (fail)
        go_wp2_with fail
        refine ⟨⟨k + 1, by omega, by go_num, HE, Lib.hid ⟨hbx.out.1.mono (HBD.out nq), hbx.out.2.mono (HBD.out nq)⟩, bthen bl (HBD.out nq)⟩, by simp [intOf]; omega⟩
      · have hr : res = false := by rw [HR.out, decide_eq_false (HNE.out e)]
        subst hr
        clear e
        go_wp2_with fail
        go_quiet (fail)
        go_wp2_with fail
        go_ret
        exact retBo rfl (bthen bl (HBD.out _))
    · obtain rfl : k = x.vars.length := by omega
      have hr : res = true := by
        have h := hg.out
        rw [List.take_length, HLEN.out, List.take_length] at h
        rw [HR.out, decide_eq_true h]
      subst hr
      go_wp2_with fail
      go_ret
      exact retBo rfl bl
end Rg
end Go.Proofs.Ytiaogfjmhpkcmaa
