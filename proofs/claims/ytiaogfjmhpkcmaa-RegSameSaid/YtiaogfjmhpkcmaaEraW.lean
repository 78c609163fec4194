/- The walks of an erasing's Begin, Wants, marked. Conditions: the erasing can be read. -/
import Derived.Test.YtiaogfjmhpkcmaaEraD
import Derived.Test.YtiaogfjmhpkcmaaUp
import Derived.Laws.Tables
namespace Go.Proofs.Ytiaogfjmhpkcmaa
open Go.RowKit
set_option linter.unusedVariables false
namespace Rg

def markedB (x : EraD) : Bool := decide (0 ≤ x.at_ ∧ x.at_ < x.reg.marks.length)
theorem marked_any (w : World) (x : EraD) (p : RegA) (h : EraAt w x p) :
    Calls Try.prog 38 #[.agg (eraCs x p).toArray] w (RetBo w (markedB x)) := by
  have BA := Lib.hid (fun o => balloc w o)
  unfold markedB eraCs
  clear h
  by_cases h1 : 0 ≤ x.at_ <;> by_cases h2 : x.at_ < (x.reg.marks.length : Int)
  all_goals
    have H := Lib.hid (And.intro h1 h2)
    first | have d1 : decide (0 ≤ x.at_) = true := decide_eq_true h1 | have d1 : decide (0 ≤ x.at_) = false := decide_eq_false h1
    first | have d2 : decide (x.at_ < (x.reg.marks.length : Int)) = true := decide_eq_true h2 | have d2 : decide (x.at_ < (x.reg.marks.length : Int)) = false := decide_eq_false h2
    clear h1 h2
    go_enter Try.func38, Try.ntmps38
    go_wp2_with fail
    go_ret
    exact retBo (by simp [H.out]) (BA.out _)

section
variable {P : Program}
theorem results_cell2 {fn : Func} {p q : Tmp} {ty : TypeId} (h : fn.results = #[.cell p ty, .tmp q]) (tmps : Array Value) (w : World) (g : Nat) (t : TypeId) (cs : Array Value) (fr : Nat × Nat) (d : TypeDesc)
    (hp : tmps.getD p undef = .pointer (some ⟨g, 0, none⟩)) (hg : w.heap[g]? = some (.cells cs t fr))
    (hu : P.underlying ty = some d) (hd : (match d with | .struct _ | .array _ _ => true | _ => false) = true) (hi : (P.info? ty).map (·.size) = some cs.size) :
    (results fn tmps).run P w = .ok (.tuple #[.agg cs, tmps.getD q undef]) w := by
  have hp' : tmps[p]?.getD undef = .pointer (some ⟨g, 0, none⟩) := by simpa using hp
  simp [results, h, hp', asAddr, run_loadVar_row w g t ty cs fr d hg hu hd hi]
theorem results_cell3 {fn : Func} {p q r : Tmp} {ty : TypeId} (h : fn.results = #[.cell p ty, .tmp q, .tmp r]) (tmps : Array Value) (w : World) (g : Nat) (t : TypeId) (cs : Array Value) (fr : Nat × Nat) (d : TypeDesc)
    (hp : tmps.getD p undef = .pointer (some ⟨g, 0, none⟩)) (hg : w.heap[g]? = some (.cells cs t fr))
    (hu : P.underlying ty = some d) (hd : (match d with | .struct _ | .array _ _ => true | _ => false) = true) (hi : (P.info? ty).map (·.size) = some cs.size) :
    (results fn tmps).run P w = .ok (.tuple #[.agg cs, tmps.getD q undef, tmps.getD r undef]) w := by
  have hp' : tmps[p]?.getD undef = .pointer (some ⟨g, 0, none⟩) := by simpa using hp
  simp [results, h, hp', asAddr, run_loadVar_row w g t ty cs fr d hg hu hd hi]
end

/-- a row stored into a block that lies at or above what was there -/
theorem below_row {w wA : World} (hB : Below w.heap.size w wA) {g : Nat} (hg : w.heap.size ≤ g) (cs : Array Value) : Below w.heap.size w (wA.setRow g cs) :=
  hB.trans ⟨rfl, rfl, rfl, by simp, fun k hk => setRow_other wA g k _ (by omega)⟩
theorem block_up {w w' : World} (hb : Below w.heap.size w w') {g : Nat} {o : Obj} (h : w.heap[g]? = some o) : w'.heap[g]? = some o := by
  rw [hb.block g (Array.getElem?_eq_some_iff.1 h).1]; exact h

theorem op_one (o : OpD) : (opCs o).toArray.all (·.oneCell') = true := by simp [opCs, Value.oneCell']
theorem era_one (x : EraD) (p : RegA) : (eraCs x p).toArray.all (·.oneCell') = true := by simp [eraCs, Value.oneCell']
theorem op_info : (Try.prog.info? 40).map (·.size) = some 10 := by kernel_rfl
theorem era_info : (Try.prog.info? 38).map (·.size) = some 17 := by kernel_rfl

def zeroOp : OpD := ⟨0, 0, 0, 0, 0, 0, 0, 0, 0, 0⟩
/-- what an erasing wants -/
def wantsS (x : EraD) : OpD × Bool × Bool :=
  if x.phase = 1 ∨ x.phase = 3 then ({ zeroOp with kind := 7, key := x.key }, decide (x.phase = 3), true)
  else if x.phase = 2 ∧ markedB x = true then ({ zeroOp with kind := 7, key := (x.reg.marks.getD x.at_.toNat ⟨0, 0, 0⟩).source }, false, true)
  else (zeroOp, false, false)

def RetW (w : World) (r : OpD × Bool × Bool) (e : Ending) (w' : World) : Prop := e = .returned (.tuple #[.agg (opCs r.1).toArray, .bool r.2.1, .bool r.2.2]) ∧ Below w.heap.size w w'

theorem wants_no (w : World) (x : EraD) (p : RegA) (h : EraAt w x p) (h1 : x.phase ≠ 1) (h3 : x.phase ≠ 3) (h2 : ¬ (x.phase = 2 ∧ markedB x = true)) :
    Calls Try.prog 14 #[.agg (eraCs x p).toArray] w (RetW w (zeroOp, false, false)) := by
  have BA := Lib.hid (fun w o => balloc w o)
  have MK := Lib.hid (fun w' (b : Below w.heap.size w w') => marked_any w' x p (h.mono b))
  have t1 : ((x.phase : Int) == 1) = false := by rw [beq_eq_false_iff_ne]; omega
  have t3 : ((x.phase : Int) == 3) = false := by rw [beq_eq_false_iff_ne]; omega
  unfold RetW opCs zeroOp
  rcases beq_cases (x.phase : Int) 2 with ⟨g, t2⟩ | ⟨g, t2⟩
  · have hm : markedB x = false := by
      cases hm : markedB x
      · rfl
      · exact (h2 ⟨by omega, hm⟩).elim
    have HM := Lib.hid hm
    clear h h1 h2 h3 g hm
    unfold eraCs at *
    go_enter Try.func14, Try.ntmps14
    go_wp2_with fail
    refine (MK.out _ (bthen (BA.out w _) (BA.out _ _))).mono ?_
    rintro e w1 ⟨rfl, b1⟩
    rw [HM.out]
    have hz : w1.heap[w.heap.size + 1]? = some (.cells (opCs zeroOp).toArray 40 (0, 0)) := block_up b1 (heap_alloc2_new w _ _)
    have HZ := Lib.hid hz
    have B1 := Lib.hid (bthen (bthen (BA.out w _) (BA.out _ _)) b1)
    clear hz b1
    go_wp2_with (refine wpList_store_row rfl 40 (.tmp 2) (.tmp 37) rfl (w.heap.size + 1) (opCs zeroOp).toArray (by rfl) (by rfl) 40 (opCs zeroOp).toArray HZ.out op_info rfl (op_one _) ?_)
    refine bodyPost_ret (results_cell3 rfl _ _ _ _ _ _ _ rfl (setRow_heap _ _ _ _ _ _ HZ.out) Try.underlying40 rfl op_info) rfl ⟨rfl, ?_⟩
    exact below_row B1.out (by omega) _
  · clear h h1 h2 h3 g MK
    unfold eraCs at *
    go_enter Try.func14, Try.ntmps14
    go_wp2_with fail
    refine bodyPost_ret (v := .tuple #[.agg (opCs zeroOp).toArray, .bool false, .bool false]) (by simp [results, Try.results14, go_sem, opCs, zeroOp]) rfl ⟨rfl, ?_⟩
    exact bthen (BA.out w _) (BA.out _ _)
end Rg
end Go.Proofs.Ytiaogfjmhpkcmaa
