/- The walk of the document's SameReply. Conditions: both replies can be read. The walk of the document's Same of registers. Conditions: both registers can be read. -/
import Derived.Test.YtniopkoaplkpkaaRegD
import Derived.BigQuiet
import Derived.Deep.QuietTactic
namespace Go.Proofs.Ytniopkoaplkpkaa
open Go.RowKit
set_option linter.unusedVariables false
namespace Rg

theorem bne_of (a c : Int) : (a != c) = !(a == c) := rfl
theorem ne_cases (a c : Int) : (a = c ∧ (a != c) = false) ∨ (a ≠ c ∧ (a != c) = true) := by
  by_cases h : a = c
  · exact .inl ⟨h, by simp [h]⟩
  · exact .inr ⟨h, by simp [h]⟩
theorem take_eq {α : Type} {l m : List α} {k : Nat} (h1 : k < l.length) (h2 : k < m.length) (h : l.take k = m.take k) (e : l[k] = m[k]) : l.take (k + 1) = m.take (k + 1) := by
  rw [List.take_succ_eq_append_getElem h1, List.take_succ_eq_append_getElem h2, h, e]
theorem take_ne {α : Type} {l m : List α} {k : Nat} (h1 : k < l.length) (h2 : k < m.length) (e : l[k] ≠ m[k]) : l ≠ m := by
  rintro rfl; exact e rfl

/-- a reply's box -/
def RepB (w : World) (b : Nat) (r : RepD) (p : RepA) : Prop :=
  w.cell? ⟨b, 0, none⟩ = some (.int .i64 r.err) ∧ w.cell? ⟨b, 1, none⟩ = some (.int .u64 (r.inc : Int)) ∧ w.cell? ⟨b, 2, none⟩ = some (.int .i64 r.state) ∧ w.cell? ⟨b, 3, none⟩ = some (.slice p.a r.vars.length p.c)
theorem RepB.mono {w w' : World} {b : Nat} {r : RepD} {p : RepA} (h : RepB w b r p) (hb : Below w.heap.size w w') : RepB w' b r p := ⟨cell_up hb h.1, cell_up hb h.2.1, cell_up hb h.2.2.1, cell_up hb h.2.2.2⟩

set_option maxHeartbeats 800000 in
theorem sameRep_any (w : World) (x y : RepD) (p q : RepA) (hx : RepAt w x p) (hy : RepAt w y q) :
    Calls Try.prog 69 #[.agg (repCs x p).toArray, .agg (repCs y q).toArray] w (RetBo w (decide (x = y))) := by
  have BA := Lib.hid (fun w o => balloc w o)
  have BD := Lib.hid below_dr
  have HX := Lib.hid hx.2.2.2.1
  have HY := Lib.hid hy.2.2.2.1
  have hm := hx.2.2.2.1.1
  have hm2 := hy.2.2.2.1.1
  unfold maxLen at hm hm2
  have hfin : (x.err = y.err ∧ x.inc = y.inc ∧ x.state = y.state ∧ x.vars = y.vars) ↔ x = y := by
    obtain ⟨a1, a2, a3, a4⟩ := x
    obtain ⟨b1, b2, b3, b4⟩ := y
    simp
  have hres : decide (x = y) = decide (x.err = y.err ∧ x.inc = y.inc ∧ x.state = y.state ∧ x.vars = y.vars) := by congr 1; exact propext hfin.symm
  generalize decide (x = y) = res at *
  have HF := Lib.hid hres
  clear hres hfin hx hy
  unfold repCs
  rcases ne_cases x.err y.err with ⟨e0, t0⟩ | ⟨e0, t0⟩
  case inr =>
    have hr : res = false := by
      rw [HF.out, decide_eq_false_iff_not]
      rintro ⟨h0, h1, h2, h3⟩
      exact e0 h0
    subst hr
    clear e0
    go_enter Try.func69, Try.ntmps69
    go_wp2_with fail
    go_ret
    exact retBo rfl (bthen (BA.out w _) (BA.out _ _))
  rcases ne_cases (x.inc : Int) (y.inc : Int) with ⟨e1, t1⟩ | ⟨e1, t1⟩
  case inr =>
    have hr : res = false := by
      rw [HF.out, decide_eq_false_iff_not]
      rintro ⟨h0, h1, h2, h3⟩
      exact e1 (by rw [h1])
    subst hr
    clear e0 e1
    go_enter Try.func69, Try.ntmps69
    go_wp2_with fail
    go_ret
    exact retBo rfl (bthen (BA.out w _) (BA.out _ _))
  rcases ne_cases x.state y.state with ⟨e2, t2⟩ | ⟨e2, t2⟩
  case inr =>
    have hr : res = false := by
      rw [HF.out, decide_eq_false_iff_not]
      rintro ⟨h0, h1, h2, h3⟩
      exact e2 h2
    subst hr
    clear e0 e1 e2
    go_enter Try.func69, Try.ntmps69
    go_wp2_with fail
    go_ret
    exact retBo rfl (bthen (BA.out w _) (BA.out _ _))
  rcases ne_cases (x.vars.length : Int) (y.vars.length : Int) with ⟨e3, t3⟩ | ⟨e3, t3⟩
  case inr =>
    have hr : res = false := by
      rw [HF.out, decide_eq_false_iff_not]
      rintro ⟨h0, h1, h2, h3⟩
      exact e3 (by rw [h3])
    subst hr
    clear e0 e1 e2 e3
    go_enter Try.func69, Try.ntmps69
    go_wp2_with fail
    go_ret
    exact retBo rfl (bthen (BA.out w _) (BA.out _ _))
  have hlen : x.vars.length = y.vars.length := by omega
  have HLEN := Lib.hid hlen
  have hr : res = decide (x.vars = y.vars) := by
    rw [HF.out]
    have h1 : x.inc = y.inc := by omega
    simp [e0, h1, e2]
  have HR := Lib.hid hr
  clear hr hlen e0 e1 e2 e3
  go_enter Try.func69, Try.ntmps69
  go_wp2_with fail
  go_loopw [37] (fun i wr => ∃ k : Nat, k ≤ x.vars.length ∧ i = .int .i64 k ∧ Hid (x.vars.take k = y.vars.take k) ∧ Hid (RepB wr w.heap.size x p ∧ RepB wr (w.heap.size + 1) y q) ∧ Below w.heap.size w wr) (fun i _ => x.vars.length - (intOf i).toNat)
  case atStart => exact ⟨0, Nat.zero_le _, rfl, Lib.hid rfl, Lib.hid (by unfold RepB; refine ⟨⟨?_, ?_, ?_, ?_⟩, ?_, ?_, ?_, ?_⟩ <;> go_simp), bthen (BA.out w _) (BA.out _ _)⟩
  case round =>
    obtain ⟨k, hk, rfl, hg, hbx, bl⟩ := hrel
    by_cases hlt : k < x.vars.length
    · have hlt2 : k < y.vars.length := by have := HLEN.out; omega
      obtain ⟨b, o, ha, c0, hbl, _⟩ := (HX.out.mono bl).at k hlt
      obtain ⟨b2, o2, ha2, d0, hbl2, _⟩ := (HY.out.mono bl).at k hlt2
      obtain ⟨⟨_, _, _, x3⟩, _, _, _, y3⟩ := hbx.out
      rw [ha] at x3
      rw [ha2] at y3
      have HEQ := Lib.hid (fun e => take_eq hlt hlt2 hg.out e)
      have HNE := Lib.hid (fun e => take_ne hlt hlt2 e)
      have i1 : (0 : Int) ≤ (k : Int) := by omega
      have i2 : (k : Int) < (x.vars.length : Int) := by omega
      have i3 : (k : Int) < (y.vars.length : Int) := by omega
      have HBD := Lib.hid (fun n => BD.out wr n)
      clear ha ha2
      generalize x.vars[k] = u at *
      generalize y.vars[k] = v at *
      rcases ne_cases u v with ⟨e, t⟩ | ⟨e, t⟩
      · have HE := Lib.hid (HEQ.out e)
        clear e
        go_wp2_with fail
        go_quiet (fail)
        go_wp2_with fail
        refine ⟨⟨k + 1, by omega, by go_num, HE, Lib.hid ⟨hbx.out.1.mono (HBD.out nq), hbx.out.2.mono (HBD.out nq)⟩, bthen bl (HBD.out nq)⟩, by simp [intOf]; omega⟩
      · have hr : res = false := by rw [HR.out, decide_eq_false (HNE.out e)]
        subst hr
        clear e
        go_wp2_with fail
        go_quiet (fail)
        go_wp2_with fail
        go_ret
        exact retBo rfl (bthen bl (HBD.out _))
    · obtain rfl : k = x.vars.length := by omega
      have hr : res = true := by
        have h := hg.out
        rw [List.take_length, HLEN.out, List.take_length] at h
        rw [HR.out, decide_eq_true h]
      subst hr
      go_wp2_with fail
      go_ret
      exact retBo rfl bl
end Rg
end Go.Proofs.Ytniopkoaplkpkaa
namespace Go.Proofs.Ytniopkoaplkpkaa
open Go.RowKit
set_option linter.unusedVariables false
namespace Rg

/-- a register's box -/
def RegB (w : World) (b : Nat) (r : RegD) (p : RegA) : Prop :=
  w.cell? ⟨b, 0, none⟩ = some (.int .u8 (r.kind : Int)) ∧ w.cell? ⟨b, 1, none⟩ = some (.int .u64 (r.inc : Int)) ∧ w.cell? ⟨b, 2, none⟩ = some (.int .i64 r.state) ∧ w.cell? ⟨b, 3, none⟩ = some (.slice p.va r.vars.length p.vc) ∧
  w.cell? ⟨b, 4, none⟩ = some (.slice p.da r.done.length p.dc) ∧ w.cell? ⟨b, 5, none⟩ = some (.slice p.oa r.out.length p.oc) ∧ w.cell? ⟨b, 6, none⟩ = some (.int .u64 (r.last : Int)) ∧ w.cell? ⟨b, 7, none⟩ = some (.slice p.ma r.marks.length p.mc)
theorem RegB.mono {w w' : World} {b : Nat} {r : RegD} {p : RegA} (h : RegB w b r p) (hb : Below w.heap.size w w') : RegB w' b r p :=
  ⟨cell_up hb h.1, cell_up hb h.2.1, cell_up hb h.2.2.1, cell_up hb h.2.2.2.1, cell_up hb h.2.2.2.2.1, cell_up hb h.2.2.2.2.2.1, cell_up hb h.2.2.2.2.2.2.1, cell_up hb h.2.2.2.2.2.2.2⟩

theorem vars_rep {w : World} {r : RegD} {p : RegA} (h : RegAt w r p) : RepAt w ⟨0, 0, 0, r.vars⟩ ⟨p.va, p.vc⟩ :=
  ⟨by unfold I64; simp, by unfold U64; simp, by unfold I64; simp, h.vars, h.cv⟩

/-- two cells are not the same, as the program asks it -/
theorem neq_cell (u v : CellD) (hu : U64 u.n ∧ U8 u.target ∧ I64 u.action ∧ I64 u.arg) (hv : U64 v.n ∧ U8 v.target ∧ I64 v.action ∧ I64 v.arg) (W : World) :
    (binOp .neq 95 (.agg #[.int .u64 (u.n : Int), .int .u8 (u.target : Int), .int .i64 u.action, .int .i64 u.arg]) (.agg #[.int .u64 (v.n : Int), .int .u8 (v.target : Int), .int .i64 v.action, .int .i64 v.arg])).run Try.prog W = .ok (.bool (!decide (u = v))) W := by
  obtain ⟨a1, a2, a3, a4⟩ := u
  obtain ⟨b1, b2, b3, b4⟩ := v
  simp only [CellD.mk.injEq]
  clear hu hv
  by_cases e1 : a1 = b1 <;> by_cases e2 : a2 = b2 <;> by_cases e3 : a3 = b3 <;> by_cases e4 : a4 = b4 <;> go_simp <;> omega
theorem neq_mark (u v : MarkD) (hu : U8 u.source ∧ U64 u.inc ∧ U64 u.cell) (hv : U8 v.source ∧ U64 v.inc ∧ U64 v.cell) (W : World) :
    (binOp .neq 98 (.agg #[.int .u8 (u.source : Int), .int .u64 (u.inc : Int), .int .u64 (u.cell : Int)]) (.agg #[.int .u8 (v.source : Int), .int .u64 (v.inc : Int), .int .u64 (v.cell : Int)])).run Try.prog W = .ok (.bool (!decide (u = v))) W := by
  obtain ⟨a1, a2, a3⟩ := u
  obtain ⟨b1, b2, b3⟩ := v
  simp only [MarkD.mk.injEq]
  clear hu hv
  by_cases e1 : a1 = b1 <;> by_cases e2 : a2 = b2 <;> by_cases e3 : a3 = b3 <;> go_simp <;> omega

set_option maxRecDepth 100000 in
set_option maxHeartbeats 6400000 in
theorem same_any (w : World) (x y : RegD) (p q : RegA) (hx : RegAt w x p) (hy : RegAt w y q) :
    Calls Try.prog 22 #[.agg (regCs x p).toArray, .agg (regCs y q).toArray] w (RetBo w (decide (x = y))) := by
  have BA := Lib.hid (fun w o => balloc w o)
  have BD := Lib.hid below_dr
  have HX := Lib.hid hx
  have HY := Lib.hid hy
  have SV := Lib.hid (fun w' (b : Below w.heap.size w w') => sameRep_any w' ⟨0, 0, 0, x.vars⟩ ⟨0, 0, 0, y.vars⟩ ⟨p.va, p.vc⟩ ⟨q.va, q.vc⟩ (vars_rep (hx.mono b)) (vars_rep (hy.mono b)))
  have hm := hx.done.1
  have hm2 := hx.out.1
  have hm3 := hx.marks.1
  have hm4 := hy.done.1
  have hm5 := hy.out.1
  have hm6 := hy.marks.1
  have hm7 := hx.vars.1
  have hm8 := hy.vars.1
  unfold maxLen at hm hm2 hm3 hm4 hm5 hm6 hm7 hm8
  have hfin : (x.kind = y.kind ∧ x.inc = y.inc ∧ x.state = y.state ∧ x.last = y.last ∧ x.vars = y.vars ∧ x.done = y.done ∧ x.out = y.out ∧ x.marks = y.marks) ↔ x = y := by
    obtain ⟨a1, a2, a3, a4, a5, a6, a7, a8⟩ := x
    obtain ⟨b1, b2, b3, b4, b5, b6, b7, b8⟩ := y
    simp only [RegD.mk.injEq]
    constructor
    · rintro ⟨h1, h2, h3, h4, h5, h6, h7, h8⟩; exact ⟨h1, h2, h3, h5, h6, h7, h4, h8⟩
    · rintro ⟨h1, h2, h3, h5, h6, h7, h4, h8⟩; exact ⟨h1, h2, h3, h4, h5, h6, h7, h8⟩
  have hres : decide (x = y) = decide (x.kind = y.kind ∧ x.inc = y.inc ∧ x.state = y.state ∧ x.last = y.last ∧ x.vars = y.vars ∧ x.done = y.done ∧ x.out = y.out ∧ x.marks = y.marks) := by congr 1; exact propext hfin.symm
  have hvq : decide ((⟨0, 0, 0, x.vars⟩ : RepD) = ⟨0, 0, 0, y.vars⟩) = decide (x.vars = y.vars) := by congr 1; simp
  generalize decide (x = y) = res at *
  have HF := Lib.hid hres
  have HVQ := Lib.hid hvq
  clear hres hfin hx hy hvq
  unfold regCs
  rcases ne_cases (x.kind : Int) (y.kind : Int) with ⟨e0, t0⟩ | ⟨e0, t0⟩
  case inr =>
    have hr : res = false := by
      rw [HF.out, decide_eq_false_iff_not]
      rintro ⟨h0, h1, h2, h3, h4, h5, h6, h7⟩
      exact e0 (by rw [h0])
    subst hr
    clear e0
    go_enter Try.func22, Try.ntmps22
    go_wp2_with fail
    go_ret
    exact retBo rfl (bthen (BA.out w _) (BA.out _ _))
  rcases ne_cases (x.inc : Int) (y.inc : Int) with ⟨e1, t1⟩ | ⟨e1, t1⟩
  case inr =>
    have hr : res = false := by
      rw [HF.out, decide_eq_false_iff_not]
      rintro ⟨h0, h1, h2, h3, h4, h5, h6, h7⟩
      exact e1 (by rw [h1])
    subst hr
    clear e0 e1
    go_enter Try.func22, Try.ntmps22
    go_wp2_with fail
    go_ret
    exact retBo rfl (bthen (BA.out w _) (BA.out _ _))
  rcases ne_cases x.state y.state with ⟨e2, t2⟩ | ⟨e2, t2⟩
  case inr =>
    have hr : res = false := by
      rw [HF.out, decide_eq_false_iff_not]
      rintro ⟨h0, h1, h2, h3, h4, h5, h6, h7⟩
      exact e2 h2
    subst hr
    clear e0 e1 e2
    go_enter Try.func22, Try.ntmps22
    go_wp2_with fail
    go_ret
    exact retBo rfl (bthen (BA.out w _) (BA.out _ _))
  rcases ne_cases (x.last : Int) (y.last : Int) with ⟨e3, t3⟩ | ⟨e3, t3⟩
  case inr =>
    have hr : res = false := by
      rw [HF.out, decide_eq_false_iff_not]
      rintro ⟨h0, h1, h2, h3, h4, h5, h6, h7⟩
      exact e3 (by rw [h3])
    subst hr
    clear e0 e1 e2 e3
    go_enter Try.func22, Try.ntmps22
    go_wp2_with fail
    go_ret
    exact retBo rfl (bthen (BA.out w _) (BA.out _ _))
  rcases ne_cases (x.done.length : Int) (y.done.length : Int) with ⟨e4, t4⟩ | ⟨e4, t4⟩
  case inr =>
    have hr : res = false := by
      rw [HF.out, decide_eq_false_iff_not]
      rintro ⟨h0, h1, h2, h3, h4, h5, h6, h7⟩
      exact e4 (by rw [h5])
    subst hr
    clear e0 e1 e2 e3 e4
    go_enter Try.func22, Try.ntmps22
    go_wp2_with fail
    go_ret
    exact retBo rfl (bthen (BA.out w _) (BA.out _ _))
  rcases ne_cases (x.out.length : Int) (y.out.length : Int) with ⟨e5, t5⟩ | ⟨e5, t5⟩
  case inr =>
    have hr : res = false := by
      rw [HF.out, decide_eq_false_iff_not]
      rintro ⟨h0, h1, h2, h3, h4, h5, h6, h7⟩
      exact e5 (by rw [h6])
    subst hr
    clear e0 e1 e2 e3 e4 e5
    go_enter Try.func22, Try.ntmps22
    go_wp2_with fail
    go_ret
    exact retBo rfl (bthen (BA.out w _) (BA.out _ _))
  rcases ne_cases (x.marks.length : Int) (y.marks.length : Int) with ⟨e6, t6⟩ | ⟨e6, t6⟩
  case inr =>
    have hr : res = false := by
      rw [HF.out, decide_eq_false_iff_not]
      rintro ⟨h0, h1, h2, h3, h4, h5, h6, h7⟩
      exact e6 (by rw [h7])
    subst hr
    clear e0 e1 e2 e3 e4 e5 e6
    go_enter Try.func22, Try.ntmps22
    go_wp2_with fail
    go_ret
    exact retBo rfl (bthen (BA.out w _) (BA.out _ _))
  have hl4 : x.done.length = y.done.length := by omega
  have hl5 : x.out.length = y.out.length := by omega
  have hl6 : x.marks.length = y.marks.length := by omega
  have HLEN := Lib.hid (And.intro hl4 (And.intro hl5 hl6))
  have hr : res = decide (x.vars = y.vars ∧ x.done = y.done ∧ x.out = y.out ∧ x.marks = y.marks) := by
    rw [HF.out]
    have h0 : x.kind = y.kind := by omega
    have h1 : x.inc = y.inc := by omega
    have h3 : x.last = y.last := by omega
    simp [h0, h1, e2, h3]
  have HR := Lib.hid hr
  clear hr hl4 hl5 hl6 e0 e1 e2 e3 e4 e5 e6
  go_enter Try.func22, Try.ntmps22
  go_wp2_with fail
  refine (SV.out _ (bthen (BA.out w _) (BA.out _ _))).mono ?_
  rintro e w1 ⟨rfl, b1⟩
  rw [HVQ.out]
  have hb1 : Below w.heap.size w w1 := bthen (bthen (BA.out w _) (BA.out _ _)) b1
  have hbx : RegB w1 w.heap.size x p ∧ RegB w1 (w.heap.size + 1) y q := by
    have h0 : RegB ((w.alloc (.cells (regCs x p).toArray 42)).alloc (.cells (regCs y q).toArray 42)) w.heap.size x p ∧ RegB ((w.alloc (.cells (regCs x p).toArray 42)).alloc (.cells (regCs y q).toArray 42)) (w.heap.size + 1) y q := by
      unfold RegB regCs
      refine ⟨⟨?_, ?_, ?_, ?_, ?_, ?_, ?_, ?_⟩, ?_, ?_, ?_, ?_, ?_, ?_, ?_, ?_⟩ <;> go_simp
    exact ⟨h0.1.mono b1, h0.2.mono b1⟩
  have HBX := Lib.hid hbx
  have hbx2 := hbx
  clear b1
  by_cases hv : x.vars = y.vars
  case neg =>
    have hr : res = false := by rw [HR.out, decide_eq_false (fun h => hv h.1)]
    subst hr
    rw [decide_eq_false hv]
    clear hbx hbx2 hv
    go_wp2_with fail
    go_ret
    exact retBo rfl hb1
  have hr : res = decide (x.done = y.done ∧ x.out = y.out ∧ x.marks = y.marks) := by rw [HR.out]; simp [hv]
  have HR2 := Lib.hid hr
  rw [decide_eq_true hv]
  clear hr HR hv hbx
  obtain ⟨⟨x0, x1, x2, x3, x4, x5, x6, x7⟩, y0, y1, y2, y3, y4, y5, y6, y7⟩ := hbx2
  go_wp2_with fail
  clear x0 x1 x2 x3 x4 x5 x6 x7 y0 y1 y2 y3 y4 y5 y6 y7
  go_loopw [74] (fun i wr => ∃ k : Nat, k ≤ x.done.length ∧ i = .int .i64 k ∧ Hid (x.done.take k = y.done.take k) ∧ Hid (RegB wr w.heap.size x p ∧ RegB wr (w.heap.size + 1) y q) ∧ Below w.heap.size w wr) (fun i _ => x.done.length - (intOf i).toNat)
  case atStart => exact ⟨0, Nat.zero_le _, rfl, Lib.hid rfl, HBX, hb1⟩
  case round =>
    clear HBX hb1
    obtain ⟨k, hk, rfl, hg, hbx, bl⟩ := hrel
    by_cases hlt : k < x.done.length
    · have hlt2 : k < y.done.length := by have := HLEN.out.1; omega
      obtain ⟨b, o, cs, ha, _, hc, ⟨pa, rfl, _, _, hrep⟩, hbl⟩ := Rows.at (HX.out.mono bl).done k hlt
      obtain ⟨b2, o2, cs2, ha2, _, hc2, ⟨pb, rfl, _, _, hrep2⟩, hbl2⟩ := Rows.at (HY.out.mono bl).done k hlt2
      have c0 := hc 0 (by simp [repCs])
      have c1 := hc 1 (by simp [repCs])
      have c2 := hc 2 (by simp [repCs])
      have c3 := hc 3 (by simp [repCs])
      have c4 := hc 4 (by simp [repCs])
      have c5 := hc 5 (by simp [repCs])
      have d0 := hc2 0 (by simp [repCs])
      have d1 := hc2 1 (by simp [repCs])
      have d2 := hc2 2 (by simp [repCs])
      have d3 := hc2 3 (by simp [repCs])
      have d4 := hc2 4 (by simp [repCs])
      have d5 := hc2 5 (by simp [repCs])
      simp [repCs] at c0 c1 c2 c3 c4 c5 d0 d1 d2 d3 d4 d5
      have hlb := hbl (by omega)
      have hlb2 := hbl2 (by omega)
      obtain ⟨⟨_, _, _, _, x4, _, _, _⟩, _, _, _, _, y4, _, _, _⟩ := hbx.out
      rw [ha] at x4
      rw [ha2] at y4
      have HEQ := Lib.hid (fun e => take_eq hlt hlt2 hg.out e)
      have HNE := Lib.hid (fun e => take_ne hlt hlt2 e)
      have i1 : (0 : Int) ≤ (k : Int) := by omega
      have i2 : (k : Int) < (x.done.length : Int) := by omega
      have i3 : (k : Int) < (y.done.length : Int) := by omega
      have HBD := Lib.hid (fun n => BD.out wr n)
      have HR1 := Lib.hid hrep
      have HRP2 := Lib.hid hrep2
      have SR := Lib.hid (fun w' (bb : Below wr.heap.size wr w') => sameRep_any w' _ _ _ _ (hrep.mono bb) (hrep2.mono bb))
      clear ha ha2 hc hc2 hbl hbl2 hrep hrep2
      have HDD := Lib.hid (show ∀ d d' : DoneD, d = d' ↔ (d.client = d'.client ∧ d.seq = d'.seq ∧ d.rep = d'.rep) by
        rintro ⟨a1, a2, a3⟩ ⟨b1, b2, b3⟩; simp)
      generalize x.done[k] = u at *
      generalize y.done[k] = v at *
      rcases ne_cases (u.client : Int) (v.client : Int) with ⟨e, t⟩ | ⟨e, t⟩
      case inr =>
        have hr : res = false := by rw [HR2.out, decide_eq_false (fun h => HNE.out (fun g => e (by rw [g])) h.1)]
        subst hr
        clear e
        go_wp2_with fail
        go_quiet (fail)
        go_wp2_with fail
        go_ret
        exact retBo rfl (bthen bl (HBD.out _))
      rcases ne_cases (u.seq : Int) (v.seq : Int) with ⟨e', t'⟩ | ⟨e', t'⟩
      case inr =>
        have hr : res = false := by rw [HR2.out, decide_eq_false (fun h => HNE.out (fun g => e' (by rw [g])) h.1)]
        subst hr
        clear e e'
        go_wp2_with fail
        go_quiet (fail)
        go_wp2_with fail
        go_ret
        exact retBo rfl (bthen bl (HBD.out _))
      have hE : u = v ↔ u.rep = v.rep := by
        rw [HDD.out]
        exact ⟨fun h => h.2.2, fun h => ⟨by omega, by omega, h⟩⟩
      have HE := Lib.hid hE
      clear hE e e'
      have Ux4 := fun n : ExtW wr.heap.size wr.drew => cell_up (bthen (below_dr wr 1) n.h) x4
      have Uy4 := fun n : ExtW wr.heap.size wr.drew => cell_up (bthen (below_dr wr 1) n.h) y4
      have Uc0 := fun n : ExtW wr.heap.size wr.drew => cell_up (bthen (below_dr wr 1) n.h) c0
      have Uc1 := fun n : ExtW wr.heap.size wr.drew => cell_up (bthen (below_dr wr 1) n.h) c1
      have Uc2 := fun n : ExtW wr.heap.size wr.drew => cell_up (bthen (below_dr wr 1) n.h) c2
      have Uc3 := fun n : ExtW wr.heap.size wr.drew => cell_up (bthen (below_dr wr 1) n.h) c3
      have Uc4 := fun n : ExtW wr.heap.size wr.drew => cell_up (bthen (below_dr wr 1) n.h) c4
      have Uc5 := fun n : ExtW wr.heap.size wr.drew => cell_up (bthen (below_dr wr 1) n.h) c5
      have Ud0 := fun n : ExtW wr.heap.size wr.drew => cell_up (bthen (below_dr wr 1) n.h) d0
      have Ud1 := fun n : ExtW wr.heap.size wr.drew => cell_up (bthen (below_dr wr 1) n.h) d1
      have Ud2 := fun n : ExtW wr.heap.size wr.drew => cell_up (bthen (below_dr wr 1) n.h) d2
      have Ud3 := fun n : ExtW wr.heap.size wr.drew => cell_up (bthen (below_dr wr 1) n.h) d3
      have Ud4 := fun n : ExtW wr.heap.size wr.drew => cell_up (bthen (below_dr wr 1) n.h) d4
      have Ud5 := fun n : ExtW wr.heap.size wr.drew => cell_up (bthen (below_dr wr 1) n.h) d5
      have hq2 : decide (u.rep = v.rep) = decide (u.rep = v.rep) := rfl
      by_cases hq : u.rep = v.rep
      · have HQ := Lib.hid hq
        clear hq hq2
        go_wp2_with fail
        refine wp_region_up [(0, false), (1, false), (2, false), (3, false), (4, false), (5, false), (6, false), (7, false), (8, false), (9, false), (10, false), (11, false), (12, false), (13, false), (14, false), (15, false), (16, false), (17, false), (18, false), (19, false), (20, false), (21, false), (22, false), (23, false), (24, false), (25, false), (26, false), (27, false), (28, false), (29, false), (30, false), (31, false), (32, false), (33, false), (34, false), (35, false), (36, false), (37, false), (38, false), (39, false), (40, false), (41, true), (42, false), (43, false)] wr.heap.size (by kernel_rfl) (by kernel_rfl) ?_
        repeat
          refine wpUp_pure (by rfl) (by rfl) (by rfl) (fun K hK => ?_)
          conv => arg 2; whnf
          go_big_quiet_op
          refine hK _ ?_
          clear hK K
        refine wpUp_call (by rfl) (by rfl) (Nat.le_refl _) (fun K hK => ?_)
        conv => arg 2; whnf
        go_simp
        refine (SR.out _ (below_dr wr 1)).mono ?_
        rintro e w2 ⟨rfl, b2⟩
        rw [decide_eq_true HQ.out]
        refine hK _ _ b2 ?_
        clear hK K
        have c2 := bthen (below_dr wr 1) b2
        clear Ux4 Uy4 Uc0 Uc1 Uc2 Uc3 Uc4 Uc5 Ud0 Ud1 Ud2 Ud3 Ud4 Ud5
        repeat
          refine wpUp_pure (by rfl) (by rfl) (by rfl) (fun K hK => ?_)
          conv => arg 2; whnf
          go_big_quiet_op
          refine hK _ ?_
          clear hK K
        refine wpUp_nil ?_
        go_wp2_with fail
        refine ⟨⟨k + 1, by omega, by go_num, Lib.hid (HEQ.out (HE.out.2 HQ.out)), Lib.hid ⟨hbx.out.1.mono c2, hbx.out.2.mono c2⟩, bthen bl c2⟩, by simp [intOf]; omega⟩
      · have HQ := Lib.hid hq
        have hr : res = false := by rw [HR2.out, decide_eq_false (fun h => HNE.out (fun g => HQ.out (HE.out.1 g)) h.1)]
        subst hr
        clear hq hq2
        go_wp2_with fail
        refine wp_region_up [(0, false), (1, false), (2, false), (3, false), (4, false), (5, false), (6, false), (7, false), (8, false), (9, false), (10, false), (11, false), (12, false), (13, false), (14, false), (15, false), (16, false), (17, false), (18, false), (19, false), (20, false), (21, false), (22, false), (23, false), (24, false), (25, false), (26, false), (27, false), (28, false), (29, false), (30, false), (31, false), (32, false), (33, false), (34, false), (35, false), (36, false), (37, false), (38, false), (39, false), (40, false), (41, true), (42, false), (43, false)] wr.heap.size (by kernel_rfl) (by kernel_rfl) ?_
        repeat
          refine wpUp_pure (by rfl) (by rfl) (by rfl) (fun K hK => ?_)
          conv => arg 2; whnf
          go_big_quiet_op
          refine hK _ ?_
          clear hK K
        refine wpUp_call (by rfl) (by rfl) (Nat.le_refl _) (fun K hK => ?_)
        conv => arg 2; whnf
        go_simp
        refine (SR.out _ (below_dr wr 1)).mono ?_
        rintro e w2 ⟨rfl, b2⟩
        rw [decide_eq_false HQ.out]
        refine hK _ _ b2 ?_
        clear hK K
        have c2 := bthen (below_dr wr 1) b2
        clear Ux4 Uy4 Uc0 Uc1 Uc2 Uc3 Uc4 Uc5 Ud0 Ud1 Ud2 Ud3 Ud4 Ud5
        repeat
          refine wpUp_pure (by rfl) (by rfl) (by rfl) (fun K hK => ?_)
          conv => arg 2; whnf
          go_big_quiet_op
          refine hK _ ?_
          clear hK K
        refine wpUp_nil ?_
        go_wp2_with fail
        go_ret
        exact retBo rfl (bthen bl c2)
    · obtain rfl : k = x.done.length := by omega
      have hdone : x.done = y.done := by
        have h := hg.out
        rw [List.take_length, HLEN.out.1, List.take_length] at h
        exact h
      have hr : res = decide (x.out = y.out ∧ x.marks = y.marks) := by rw [HR2.out]; simp [hdone]
      have HR3 := Lib.hid hr
      clear hr HR2 hdone hg
      obtain ⟨⟨x0, x1, x2, x3, x4, x5, x6, x7⟩, y0, y1, y2, y3, y4, y5, y6, y7⟩ := hbx.out
      go_wp2_with fail
      clear x0 x1 x2 x3 x4 x5 x6 x7 y0 y1 y2 y3 y4 y5 y6 y7
      go_loopw [125] (fun i wr => ∃ k : Nat, k ≤ x.out.length ∧ i = .int .i64 k ∧ Hid (x.out.take k = y.out.take k) ∧ Hid (RegB wr w.heap.size x p ∧ RegB wr (w.heap.size + 1) y q) ∧ Below w.heap.size w wr) (fun i _ => x.out.length - (intOf i).toNat)
      case atStart => exact ⟨0, Nat.zero_le _, rfl, Lib.hid rfl, hbx, bl⟩
      case round =>
        clear hbx bl
        obtain ⟨k, hk, rfl, hg, hbx, bl⟩ := hrel
        by_cases hlt : k < x.out.length
        · have hlt2 : k < y.out.length := by have := HLEN.out.2.1; omega
          obtain ⟨b, o, cs, ha, _, hc, ⟨rfl, hu⟩, hbl⟩ := Rows.at (HX.out.mono bl).out k hlt
          obtain ⟨b2, o2, cs2, ha2, _, hc2, ⟨rfl, hv⟩, hbl2⟩ := Rows.at (HY.out.mono bl).out k hlt2
          have c0 := hc 0 (by simp)
          have d0 := hc2 0 (by simp)
          have c1 := hc 1 (by simp)
          have d1 := hc2 1 (by simp)
          have c2 := hc 2 (by simp)
          have d2 := hc2 2 (by simp)
          have c3 := hc 3 (by simp)
          have d3 := hc2 3 (by simp)
          simp at c0 c1 c2 c3 d0 d1 d2 d3
          obtain ⟨⟨_, _, _, _, _, x5, _, _⟩, _, _, _, _, _, y5, _, _⟩ := hbx.out
          rw [ha] at x5
          rw [ha2] at y5
          have HEQ := Lib.hid (fun e => take_eq hlt hlt2 hg.out e)
          have HNE := Lib.hid (fun e => take_ne hlt hlt2 e)
          have i1 : (0 : Int) ≤ (k : Int) := by omega
          have i2 : (k : Int) < (x.out.length : Int) := by omega
          have i3 : (k : Int) < (y.out.length : Int) := by omega
          have HBD := Lib.hid (fun n => BD.out wr n)
          have NQ := neq_cell x.out[k] y.out[k] hu hv
          clear ha ha2 hc hc2 hbl hbl2 hu hv
          generalize x.out[k] = u at *
          generalize y.out[k] = v at *
          by_cases e : u = v
          · rw [decide_eq_true e] at NQ
            have HE := Lib.hid (HEQ.out e)
            clear e
            go_wp2_with fail
            go_quiet (fail)
            go_wp2_with fail
            refine ⟨⟨k + 1, by omega, by go_num, HE, Lib.hid ⟨hbx.out.1.mono (HBD.out nq), hbx.out.2.mono (HBD.out nq)⟩, bthen bl (HBD.out nq)⟩, by simp [intOf]; omega⟩
          · rw [decide_eq_false e] at NQ
            have hr : res = false := by rw [HR3.out, decide_eq_false (fun h => HNE.out e h.1)]
            subst hr
            clear e
            go_wp2_with fail
            go_quiet (fail)
            go_wp2_with fail
            go_ret
            exact retBo rfl (bthen bl (HBD.out _))
        · obtain rfl : k = x.out.length := by omega
          have hdone : x.out = y.out := by
            have h := hg.out
            rw [List.take_length, HLEN.out.2.1, List.take_length] at h
            exact h
          have hr : res = decide (x.marks = y.marks) := by rw [HR3.out]; simp [hdone]
          have HR4 := Lib.hid hr
          clear hr HR3 hdone hg
          obtain ⟨⟨x0, x1, x2, x3, x4, x5, x6, x7⟩, y0, y1, y2, y3, y4, y5, y6, y7⟩ := hbx.out
          go_wp2_with fail
          clear x0 x1 x2 x3 x4 x5 x6 x7 y0 y1 y2 y3 y4 y5 y6 y7
          go_loopw [143] (fun i wr => ∃ k : Nat, k ≤ x.marks.length ∧ i = .int .i64 k ∧ Hid (x.marks.take k = y.marks.take k) ∧ Hid (RegB wr w.heap.size x p ∧ RegB wr (w.heap.size + 1) y q) ∧ Below w.heap.size w wr) (fun i _ => x.marks.length - (intOf i).toNat)
          case atStart => exact ⟨0, Nat.zero_le _, rfl, Lib.hid rfl, hbx, bl⟩
          case round =>
            clear hbx bl
            obtain ⟨k, hk, rfl, hg, hbx, bl⟩ := hrel
            by_cases hlt : k < x.marks.length
            · have hlt2 : k < y.marks.length := by have := HLEN.out.2.2; omega
              obtain ⟨b, o, cs, ha, _, hc, ⟨rfl, hu⟩, hbl⟩ := Rows.at (HX.out.mono bl).marks k hlt
              obtain ⟨b2, o2, cs2, ha2, _, hc2, ⟨rfl, hv⟩, hbl2⟩ := Rows.at (HY.out.mono bl).marks k hlt2
              have c0 := hc 0 (by simp)
              have d0 := hc2 0 (by simp)
              have c1 := hc 1 (by simp)
              have d1 := hc2 1 (by simp)
              have c2 := hc 2 (by simp)
              have d2 := hc2 2 (by simp)
              simp at c0 c1 c2 d0 d1 d2
              obtain ⟨⟨_, _, _, _, _, _, _, x7⟩, _, _, _, _, _, _, _, y7⟩ := hbx.out
              rw [ha] at x7
              rw [ha2] at y7
              have HEQ := Lib.hid (fun e => take_eq hlt hlt2 hg.out e)
              have HNE := Lib.hid (fun e => take_ne hlt hlt2 e)
              have i1 : (0 : Int) ≤ (k : Int) := by omega
              have i2 : (k : Int) < (x.marks.length : Int) := by omega
              have i3 : (k : Int) < (y.marks.length : Int) := by omega
              have HBD := Lib.hid (fun n => BD.out wr n)
              have NQ := neq_mark x.marks[k] y.marks[k] hu hv
              clear ha ha2 hc hc2 hbl hbl2 hu hv
              generalize x.marks[k] = u at *
              generalize y.marks[k] = v at *
              by_cases e : u = v
              · rw [decide_eq_true e] at NQ
                have HE := Lib.hid (HEQ.out e)
                clear e
                go_wp2_with fail
                go_quiet (fail)
                go_wp2_with fail
                refine ⟨⟨k + 1, by omega, by go_num, HE, Lib.hid ⟨hbx.out.1.mono (HBD.out nq), hbx.out.2.mono (HBD.out nq)⟩, bthen bl (HBD.out nq)⟩, by simp [intOf]; omega⟩
              · rw [decide_eq_false e] at NQ
                have hr : res = false := by rw [HR4.out, decide_eq_false (fun h => HNE.out e h)]
                subst hr
                clear e
                go_wp2_with fail
                go_quiet (fail)
                go_wp2_with fail
                go_ret
                exact retBo rfl (bthen bl (HBD.out _))
            · obtain rfl : k = x.marks.length := by omega
              have hdone : x.marks = y.marks := by
                have h := hg.out
                rw [List.take_length, HLEN.out.2.2, List.take_length] at h
                exact h
              have hr : res = true := by rw [HR4.out, decide_eq_true hdone]
              subst hr
              clear hdone hg
              go_wp2_with fail
              go_ret
              exact retBo rfl bl
end Rg
end Go.Proofs.Ytniopkoaplkpkaa
