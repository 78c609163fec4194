/- Registers and replies as data, and how they lie in memory. No condition. The walk of the document's Great at registers. Conditions: the register can be read. Operations as data, and registers, replies, operations as arguments. No condition. Operations as arguments, with their numbers' bounds. No condition. Lists of operations as arguments. No condition. The walks of slices.Clone at the four element types. Conditions: the slice can be read, and is short. Lists in memory, laid flat, and back. No condition. slices.Clone at the register's lists, as data. Conditions: the list can be read, and is short. Memory that stands still, with what a call made. Over any program. No condition. An element of a list that a call has made. No condition. -/
import Derived.Test.YtniopkoaplkpkaaFrame
import Derived.Test.YtniopkoaplkpkaaSeat
import Derived.Test.YtniopkoaplkpkaaFacts
import Derived.Lib.LazyBuf
import Derived.Test.YtniopkoaplkpkaaSyC
namespace Go.Proofs.Ytniopkoaplkpkaa
open Go.ChangeShapes Go.WideShapes Go.ChangeAt Go.RowKit Go.Deep
set_option linter.unusedVariables false
namespace Rg

structure RepD where
  err : Int
  inc : Nat
  state : Int
  vars : List Int
deriving DecidableEq
structure DoneD where
  client : Nat
  seq : Nat
  rep : RepD
deriving DecidableEq
structure CellD where
  n : Nat
  target : Nat
  action : Int
  arg : Int
deriving DecidableEq
structure MarkD where
  source : Nat
  inc : Nat
  cell : Nat
deriving DecidableEq
structure RegD where
  kind : Nat
  inc : Nat
  state : Int
  vars : List Int
  done : List DoneD
  out : List CellD
  last : Nat
  marks : List MarkD
deriving DecidableEq

def I64 (x : Int) : Prop := -9223372036854775808 ≤ x ∧ x ≤ 9223372036854775807
def U64 (x : Nat) : Prop := x < 18446744073709551616
def U8 (x : Nat) : Prop := x < 256

/-- where a reply's list lies -/
structure RepA where
  a : Option Addr
  c : Nat
def repCs (r : RepD) (p : RepA) : List Value := [.int .i64 r.err, .int .u64 (r.inc : Int), .int .i64 r.state, .slice p.a r.vars.length p.c]
def RepAt (w : World) (r : RepD) (p : RepA) : Prop := I64 r.err ∧ U64 r.inc ∧ I64 r.state ∧ Nums w p.a r.vars ∧ r.vars.length ≤ p.c ∧ p.c ≤ maxLen
def RepR (w : World) (cs : List Value) (r : RepD) : Prop := ∃ p, cs = repCs r p ∧ RepAt w r p
theorem RepAt.mono {w w' : World} {r : RepD} {p : RepA} (h : RepAt w r p) (hb : Below w.heap.size w w') : RepAt w' r p := ⟨h.1, h.2.1, h.2.2.1, h.2.2.2.1.mono hb, h.2.2.2.2⟩
theorem RepR.mono {w w' : World} {cs : List Value} {r : RepD} (h : RepR w cs r) (hb : Below w.heap.size w w') : RepR w' cs r := let ⟨p, h1, h2⟩ := h; ⟨p, h1, h2.mono hb⟩

def doneCs (d : DoneD) (p : RepA) : List Value := .int .u8 (d.client : Int) :: .int .u64 (d.seq : Int) :: repCs d.rep p
def DoneR (w : World) (cs : List Value) (d : DoneD) : Prop := ∃ p, cs = .int .u8 (d.client : Int) :: .int .u64 (d.seq : Int) :: repCs d.rep p ∧ U8 d.client ∧ U64 d.seq ∧ RepAt w d.rep p
theorem DoneR.mono {w w' : World} {cs : List Value} {d : DoneD} (h : DoneR w cs d) (hb : Below w.heap.size w w') : DoneR w' cs d := let ⟨p, h1, h2, h3, h4⟩ := h; ⟨p, h1, h2, h3, h4.mono hb⟩
def CellR (_ : World) (cs : List Value) (c : CellD) : Prop := cs = [.int .u64 (c.n : Int), .int .u8 (c.target : Int), .int .i64 c.action, .int .i64 c.arg] ∧ U64 c.n ∧ U8 c.target ∧ I64 c.action ∧ I64 c.arg
def MarkR (_ : World) (cs : List Value) (m : MarkD) : Prop := cs = [.int .u8 (m.source : Int), .int .u64 (m.inc : Int), .int .u64 (m.cell : Int)] ∧ U8 m.source ∧ U64 m.inc ∧ U64 m.cell

def Dones (w : World) (a : Option Addr) (l : List DoneD) : Prop := Rows DoneR 6 w a l
def Cels (w : World) (a : Option Addr) (l : List CellD) : Prop := Rows CellR 4 w a l
def Marks (w : World) (a : Option Addr) (l : List MarkD) : Prop := Rows MarkR 3 w a l
theorem Dones.mono {w w' : World} {a : Option Addr} {l : List DoneD} (h : Dones w a l) (hb : Below w.heap.size w w') : Dones w' a l := Rows.mono (fun _ _ h => h.mono hb) hb h
theorem Cels.mono {w w' : World} {a : Option Addr} {l : List CellD} (h : Cels w a l) (hb : Below w.heap.size w w') : Cels w' a l := Rows.mono (w := w) (w' := w') (R := CellR) (fun _ _ h => h) hb h
theorem Marks.mono {w w' : World} {a : Option Addr} {l : List MarkD} (h : Marks w a l) (hb : Below w.heap.size w w') : Marks w' a l := Rows.mono (w := w) (w' := w') (R := MarkR) (fun _ _ h => h) hb h

/-- where a register's lists lie -/
structure RegA where
  va : Option Addr
  vc : Nat
  da : Option Addr
  dc : Nat
  oa : Option Addr
  oc : Nat
  ma : Option Addr
  mc : Nat
def regCs (r : RegD) (p : RegA) : List Value :=
  [.int .u8 (r.kind : Int), .int .u64 (r.inc : Int), .int .i64 r.state, .slice p.va r.vars.length p.vc, .slice p.da r.done.length p.dc, .slice p.oa r.out.length p.oc, .int .u64 (r.last : Int), .slice p.ma r.marks.length p.mc]
structure RegAt (w : World) (r : RegD) (p : RegA) : Prop where
  kind : U8 r.kind
  inc : U64 r.inc
  state : I64 r.state
  last : U64 r.last
  vars : Nums w p.va r.vars
  done : Dones w p.da r.done
  out : Cels w p.oa r.out
  marks : Marks w p.ma r.marks
  cv : r.vars.length ≤ p.vc ∧ p.vc ≤ maxLen
  cd : r.done.length ≤ p.dc ∧ p.dc ≤ maxLen
  co : r.out.length ≤ p.oc ∧ p.oc ≤ maxLen
  cm : r.marks.length ≤ p.mc ∧ p.mc ≤ maxLen
theorem RegAt.mono {w w' : World} {r : RegD} {p : RegA} (h : RegAt w r p) (hb : Below w.heap.size w w') : RegAt w' r p :=
  ⟨h.kind, h.inc, h.state, h.last, h.vars.mono hb, h.done.mono hb, h.out.mono hb, h.marks.mono hb, h.cv, h.cd, h.co, h.cm⟩
def RegR (w : World) (cs : List Value) (r : RegD) : Prop := ∃ p, cs = regCs r p ∧ RegAt w r p

section
variable {H : Type} {enc : TypeId × Value → H} {W : World} {spare : Nat → Bool} {b2 : Nat} {held : Bool}

theorem nums_open (fuel : Nat) (cs : List Value) (x : DataW H × List MemPlace) (h : DataW.trod enc Try.prog W b2 spare held fuel 37 cs = some x) :
    ∃ (a : Option Addr) (cap : Nat) (l : List Int), cs = [.slice a l.length cap] ∧ l.length ≤ cap ∧ cap ≤ maxLen ∧ Nums W a l :=
  rows_open 1 (by omega) (by kernel_rfl) Try.underlying37 (fun fuel cs x h => by
    obtain ⟨n, rfl, hw⟩ := int_cells Try.underlying2 h
    have := bounds_i64 hw
    exact ⟨n, rfl, by omega, by omega⟩) fuel cs x h

theorem rep_open (fuel : Nat) (cs : List Value) (x : DataW H × List MemPlace) (h : DataW.trod enc Try.prog W b2 spare held fuel 89 cs = some x) : ∃ r : RepD, RepR W cs r := by
  obtain ⟨hl, n, hg⟩ := struct_parts Try.underlying89 h
  obtain ⟨y0, h0⟩ := hg 0 28 0 1 rfl (by kernel_rfl)
  obtain ⟨y1, h1⟩ := hg 1 36 1 1 rfl (by kernel_rfl)
  obtain ⟨y2, h2⟩ := hg 2 3 2 1 rfl (by kernel_rfl)
  obtain ⟨y3, h3⟩ := hg 3 37 3 1 rfl (by kernel_rfl)
  rw [show Try.prog.cellsOf 89 = 4 from by kernel_rfl] at hl
  match cs, hl with
  | [c0, c1, c2, c3], _ =>
    obtain ⟨n0, e0, w0⟩ := int_cells Try.underlying28 h0
    obtain ⟨n1, e1, w1⟩ := int_cells Try.underlying36 h1
    obtain ⟨n2, e2, w2⟩ := int_cells Try.underlying3 h2
    obtain ⟨a, cap, l, e3, q1, q2, q3⟩ := nums_open _ _ _ h3
    simp at e0 e1 e2 e3
    subst e0 e1 e2 e3
    have b0 := bounds_i64 w0
    have b1 := bounds_u64 w1
    have b2 := bounds_i64 w2
    refine ⟨⟨n0, n1.toNat, n2, l⟩, ⟨a, cap⟩, ?_, (by unfold I64; simp only; omega), by unfold U64; simp only; omega, (by unfold I64; simp only; omega), q3, q1, q2⟩
    unfold repCs
    simp only
    rw [show ((n1.toNat : Nat) : Int) = n1 from by omega]

theorem done_open (fuel : Nat) (cs : List Value) (x : DataW H × List MemPlace) (h : DataW.trod enc Try.prog W b2 spare held fuel 91 cs = some x) : ∃ d : DoneD, DoneR W cs d := by
  obtain ⟨hl, n, hg⟩ := struct_parts Try.underlying91 h
  obtain ⟨y0, h0⟩ := hg 0 5 0 1 rfl (by kernel_rfl)
  obtain ⟨y1, h1⟩ := hg 1 36 1 1 rfl (by kernel_rfl)
  obtain ⟨y2, h2⟩ := hg 2 89 2 4 rfl (by kernel_rfl)
  rw [show Try.prog.cellsOf 91 = 6 from by kernel_rfl] at hl
  match cs, hl with
  | [c0, c1, c2, c3, c4, c5], _ =>
    obtain ⟨n0, e0, w0⟩ := int_cells Try.underlying5 h0
    obtain ⟨n1, e1, w1⟩ := int_cells Try.underlying36 h1
    obtain ⟨r, p, e2, q⟩ := rep_open _ _ _ h2
    simp at e0 e1
    subst e0 e1
    have b0 := bounds_u8 w0
    have b1 := bounds_u64 w1
    refine ⟨⟨n0.toNat, n1.toNat, r⟩, p, ?_, by unfold U8; simp only; omega, by unfold U64; simp only; omega, q⟩
    simp only
    rw [show ((n0.toNat : Nat) : Int) = n0 from by omega, show ((n1.toNat : Nat) : Int) = n1 from by omega, ← e2]
    rfl

theorem cell_open (fuel : Nat) (cs : List Value) (x : DataW H × List MemPlace) (h : DataW.trod enc Try.prog W b2 spare held fuel 95 cs = some x) : ∃ d : CellD, CellR W cs d := by
  obtain ⟨hl, n, hg⟩ := struct_parts Try.underlying95 h
  obtain ⟨y0, h0⟩ := hg 0 36 0 1 rfl (by kernel_rfl)
  obtain ⟨y1, h1⟩ := hg 1 5 1 1 rfl (by kernel_rfl)
  obtain ⟨y2, h2⟩ := hg 2 3 2 1 rfl (by kernel_rfl)
  obtain ⟨y3, h3⟩ := hg 3 2 3 1 rfl (by kernel_rfl)
  rw [show Try.prog.cellsOf 95 = 4 from by kernel_rfl] at hl
  match cs, hl with
  | [c0, c1, c2, c3], _ =>
    obtain ⟨n0, e0, w0⟩ := int_cells Try.underlying36 h0
    obtain ⟨n1, e1, w1⟩ := int_cells Try.underlying5 h1
    obtain ⟨n2, e2, w2⟩ := int_cells Try.underlying3 h2
    obtain ⟨n3, e3, w3⟩ := int_cells Try.underlying2 h3
    simp at e0 e1 e2 e3
    subst e0 e1 e2 e3
    have b0 := bounds_u64 w0
    have b1 := bounds_u8 w1
    have b2 := bounds_i64 w2
    have b3 := bounds_i64 w3
    refine ⟨⟨n0.toNat, n1.toNat, n2, n3⟩, ?_, by unfold U64; simp only; omega, by unfold U8; simp only; omega, (by unfold I64; simp only; omega), (by unfold I64; simp only; omega)⟩
    simp only
    rw [show ((n0.toNat : Nat) : Int) = n0 from by omega, show ((n1.toNat : Nat) : Int) = n1 from by omega]

theorem mark_open (fuel : Nat) (cs : List Value) (x : DataW H × List MemPlace) (h : DataW.trod enc Try.prog W b2 spare held fuel 98 cs = some x) : ∃ d : MarkD, MarkR W cs d := by
  obtain ⟨hl, n, hg⟩ := struct_parts Try.underlying98 h
  obtain ⟨y0, h0⟩ := hg 0 5 0 1 rfl (by kernel_rfl)
  obtain ⟨y1, h1⟩ := hg 1 36 1 1 rfl (by kernel_rfl)
  obtain ⟨y2, h2⟩ := hg 2 36 2 1 rfl (by kernel_rfl)
  rw [show Try.prog.cellsOf 98 = 3 from by kernel_rfl] at hl
  match cs, hl with
  | [c0, c1, c2], _ =>
    obtain ⟨n0, e0, w0⟩ := int_cells Try.underlying5 h0
    obtain ⟨n1, e1, w1⟩ := int_cells Try.underlying36 h1
    obtain ⟨n2, e2, w2⟩ := int_cells Try.underlying36 h2
    simp at e0 e1 e2
    subst e0 e1 e2
    have b0 := bounds_u8 w0
    have b1 := bounds_u64 w1
    have b2 := bounds_u64 w2
    refine ⟨⟨n0.toNat, n1.toNat, n2.toNat⟩, ?_, by unfold U8; simp only; omega, by unfold U64; simp only; omega, by unfold U64; simp only; omega⟩
    simp only
    rw [show ((n0.toNat : Nat) : Int) = n0 from by omega, show ((n1.toNat : Nat) : Int) = n1 from by omega, show ((n2.toNat : Nat) : Int) = n2 from by omega]

theorem dones_open (fuel : Nat) (cs : List Value) (x : DataW H × List MemPlace) (h : DataW.trod enc Try.prog W b2 spare held fuel 38 cs = some x) :
    ∃ (a : Option Addr) (cap : Nat) (l : List DoneD), cs = [.slice a l.length cap] ∧ l.length ≤ cap ∧ cap ≤ maxLen ∧ Dones W a l :=
  rows_open 6 (by omega) (by kernel_rfl) Try.underlying38 done_open fuel cs x h
theorem cels_open (fuel : Nat) (cs : List Value) (x : DataW H × List MemPlace) (h : DataW.trod enc Try.prog W b2 spare held fuel 39 cs = some x) :
    ∃ (a : Option Addr) (cap : Nat) (l : List CellD), cs = [.slice a l.length cap] ∧ l.length ≤ cap ∧ cap ≤ maxLen ∧ Cels W a l :=
  rows_open 4 (by omega) (by kernel_rfl) Try.underlying39 cell_open fuel cs x h
theorem marks_open (fuel : Nat) (cs : List Value) (x : DataW H × List MemPlace) (h : DataW.trod enc Try.prog W b2 spare held fuel 40 cs = some x) :
    ∃ (a : Option Addr) (cap : Nat) (l : List MarkD), cs = [.slice a l.length cap] ∧ l.length ≤ cap ∧ cap ≤ maxLen ∧ Marks W a l :=
  rows_open 3 (by omega) (by kernel_rfl) Try.underlying40 mark_open fuel cs x h

theorem reg_open (fuel : Nat) (cs : List Value) (x : DataW H × List MemPlace) (h : DataW.trod enc Try.prog W b2 spare held fuel 42 cs = some x) : ∃ r : RegD, RegR W cs r := by
  obtain ⟨hl, n, hg⟩ := struct_parts Try.underlying42 h
  obtain ⟨y0, h0⟩ := hg 0 5 0 1 rfl (by kernel_rfl)
  obtain ⟨y1, h1⟩ := hg 1 36 1 1 rfl (by kernel_rfl)
  obtain ⟨y2, h2⟩ := hg 2 3 2 1 rfl (by kernel_rfl)
  obtain ⟨y3, h3⟩ := hg 3 37 3 1 rfl (by kernel_rfl)
  obtain ⟨y4, h4⟩ := hg 4 38 4 1 rfl (by kernel_rfl)
  obtain ⟨y5, h5⟩ := hg 5 39 5 1 rfl (by kernel_rfl)
  obtain ⟨y6, h6⟩ := hg 6 36 6 1 rfl (by kernel_rfl)
  obtain ⟨y7, h7⟩ := hg 7 40 7 1 rfl (by kernel_rfl)
  rw [show Try.prog.cellsOf 42 = 8 from by kernel_rfl] at hl
  match cs, hl with
  | [c0, c1, c2, c3, c4, c5, c6, c7], _ =>
    obtain ⟨n0, e0, w0⟩ := int_cells Try.underlying5 h0
    obtain ⟨n1, e1, w1⟩ := int_cells Try.underlying36 h1
    obtain ⟨n2, e2, w2⟩ := int_cells Try.underlying3 h2
    obtain ⟨a3, k3, l3, e3, q3, r3, s3⟩ := nums_open _ _ _ h3
    obtain ⟨a4, k4, l4, e4, q4, r4, s4⟩ := dones_open _ _ _ h4
    obtain ⟨a5, k5, l5, e5, q5, r5, s5⟩ := cels_open _ _ _ h5
    obtain ⟨n6, e6, w6⟩ := int_cells Try.underlying36 h6
    obtain ⟨a7, k7, l7, e7, q7, r7, s7⟩ := marks_open _ _ _ h7
    simp at e0 e1 e2 e3 e4 e5 e6 e7
    subst e0 e1 e2 e3 e4 e5 e6 e7
    have b0 := bounds_u8 w0
    have b1 := bounds_u64 w1
    have b2 := bounds_i64 w2
    have b6 := bounds_u64 w6
    refine ⟨⟨n0.toNat, n1.toNat, n2, l3, l4, l5, n6.toNat, l7⟩, ⟨a3, k3, a4, k4, a5, k5, a7, k7⟩, ?_, ⟨by unfold U8; simp only; omega, by unfold U64; simp only; omega, (by unfold I64; simp only; omega), by unfold U64; simp only; omega, s3, s4, s5, s7, ⟨q3, r3⟩, ⟨q4, r4⟩, ⟨q5, r5⟩, ⟨q7, r7⟩⟩⟩
    unfold regCs
    simp only
    rw [show ((n0.toNat : Nat) : Int) = n0 from by omega, show ((n1.toNat : Nat) : Int) = n1 from by omega, show ((n6.toNat : Nat) : Int) = n6 from by omega]
end
end Rg
end Go.Proofs.Ytniopkoaplkpkaa
namespace Go.Proofs.Ytniopkoaplkpkaa
open Go.RowKit
set_option linter.unusedVariables false
namespace Rg
def greatS (r : RegD) : Bool := decide (50 < r.vars.length ∨ 50 < r.done.length ∨ 50 < r.out.length ∨ 50 < r.marks.length) || r.done.any fun d => decide (50 < d.rep.vars.length)
set_option maxHeartbeats 800000 in
theorem great_any (w : World) (r : RegD) (p : RegA) (h : RegAt w r p) :
    Calls Try.prog 16 #[.agg (regCs r p).toArray] w (RetBo w (greatS r)) := by
  have BA := Lib.hid (fun o => balloc w o)
  have HD := Lib.hid h.done
  have hm1 := h.vars.1
  have hm2 := h.done.1
  have hm3 := h.out.1
  have hm4 := h.marks.1
  unfold maxLen at hm1 hm2 hm3 hm4
  have hfin : greatS r = (decide (50 < r.vars.length ∨ 50 < r.done.length ∨ 50 < r.out.length ∨ 50 < r.marks.length) || r.done.any fun d => decide (50 < d.rep.vars.length)) := rfl
  generalize greatS r = res at *
  have HF := Lib.hid hfin
  clear hfin h
  unfold regCs
  by_cases h1 : 50 < r.vars.length
  · have hr : res = true := by rw [HF.out, decide_eq_true (.inl h1)]; rfl
    subst hr
    go_enter Try.func16, Try.ntmps16
    go_wp2_with fail
    go_ret
    exact retBo rfl (BA.out _)
  by_cases h2 : 50 < r.done.length
  · have hr : res = true := by rw [HF.out, decide_eq_true (.inr (.inl h2))]; rfl
    subst hr
    go_enter Try.func16, Try.ntmps16
    go_wp2_with fail
    go_ret
    exact retBo rfl (BA.out _)
  by_cases h3 : 50 < r.out.length
  · have hr : res = true := by rw [HF.out, decide_eq_true (.inr (.inr (.inl h3)))]; rfl
    subst hr
    go_enter Try.func16, Try.ntmps16
    go_wp2_with fail
    go_ret
    exact retBo rfl (BA.out _)
  by_cases h4 : 50 < r.marks.length
  · have hr : res = true := by rw [HF.out, decide_eq_true (.inr (.inr (.inr h4)))]; rfl
    subst hr
    go_enter Try.func16, Try.ntmps16
    go_wp2_with fail
    go_ret
    exact retBo rfl (BA.out _)
  have hr : res = r.done.any fun d => decide (50 < d.rep.vars.length) := by
    rw [HF.out, decide_eq_false (by rintro (h | h | h | h) <;> omega)]; rfl
  have HR := Lib.hid hr
  clear hr
  go_enter Try.func16, Try.ntmps16
  go_wp2_with fail
  go_loop [29] (fun i => ∃ k : Nat, k ≤ r.done.length ∧ i = .int .i64 k ∧ Hid ((r.done.take k).any (fun d => decide (50 < d.rep.vars.length)) = false)) (fun i => r.done.length - (intOf i).toNat)
  case atStart => exact ⟨0, Nat.zero_le _, rfl, Lib.hid rfl⟩
  case round =>
    obtain ⟨k, hk, rfl, hg⟩ := hrel
    by_cases hlt : k < r.done.length
    · obtain ⟨b, o, cs, ha, hl, hc, ⟨q, rfl, _, _, hrep⟩, hbl⟩ := Rows.at HD.out k hlt
      have c5 := hc 5 (by simp [repCs])
      simp [repCs] at c5
      have hlb := hbl (by omega)
      have hst := any_take (fun d : DoneD => decide (50 < d.rep.vars.length)) r.done k hlt hg.out
      have hany := any_hit (fun d : DoneD => decide (50 < d.rep.vars.length)) r.done k hlt
      have hml := hrep.2.2.2.1.1
      unfold maxLen at hml
      have HST := Lib.hid hst
      have HANY := Lib.hid hany
      rw [ha]
      clear hst hany hrep hc hl hbl ha
      generalize r.done[k] = d at *
      by_cases h5 : 50 < d.rep.vars.length
      · have hr : res = true := by rw [HR.out]; exact HANY.out (decide_eq_true h5)
        subst hr
        go_wp2_with fail
        go_ret
        exact retBo rfl (BA.out _)
      · go_wp2_with fail
        go_round
        case rel => exact ⟨k + 1, by omega, by go_num, Lib.hid (by rw [HST.out, decide_eq_false h5])⟩
        case measure => simp [intOf]; omega
    · obtain rfl : k = r.done.length := by omega
      have hg2 := hg.out
      rw [List.take_length] at hg2
      have hr : res = false := by rw [HR.out]; exact hg2
      subst hr
      clear hg2
      go_wp2_with fail
      go_ret
      exact retBo rfl (BA.out _)
theorem great_lens {r : RegD} (h : greatS r = false) : r.vars.length ≤ 50 ∧ r.done.length ≤ 50 ∧ r.out.length ≤ 50 ∧ r.marks.length ≤ 50 ∧ ∀ d ∈ r.done, d.rep.vars.length ≤ 50 := by
  unfold greatS at h
  rw [Bool.or_eq_false_iff] at h
  have h1 := of_decide_eq_false h.1
  have h2 := h.2
  rw [List.any_eq_false] at h2
  refine ⟨by omega, by omega, by omega, by omega, fun d hd => ?_⟩
  have := h2 d hd
  simp at this
  exact this
end Rg
end Go.Proofs.Ytniopkoaplkpkaa
namespace Go.Proofs.Ytniopkoaplkpkaa
open Go.ChangeShapes Go.WideShapes Go.ChangeAt Go.RowKit Go.Deep
set_option linter.unusedVariables false
namespace Rg
def zeroReg : RegD := ⟨0, 0, 0, [], [], [], 0, []⟩
def zeroRegA : RegA := ⟨none, 0, none, 0, none, 0, none, 0⟩
theorem zeroReg_at (w : World) : RegAt w zeroReg zeroRegA := by
  refine ⟨by unfold U8; decide, by unfold U64; decide, by unfold I64; decide, by unfold U64; decide, Rows.nil _ _ _ _, Rows.nil _ _ _ _, Rows.nil _ _ _ _, Rows.nil _ _ _ _, ?_, ?_, ?_, ?_⟩ <;> (simp [zeroReg, zeroRegA])
section
variable {H : Type} {enc : TypeId × Value → H} {W : World} {spare : Nat → Bool} {b2 : Nat} {held : Bool}
set_option maxRecDepth 100000 in
theorem reg_arg {v : Value} {d : DataW H} {ps : List MemPlace} {base : Nat} (hval : Value.okWide Try.prog W .any base 42 v) (h : DataW.Trod enc Try.prog W b2 spare held 42 v d ps) :
    ∃ (r : RegD) (p : RegA), v = .agg (regCs r p).toArray ∧ RegAt W r p := by
  obtain ⟨cs, rfl, hsz⟩ := okWide_struct Try.underlying42 hval
  obtain ⟨fuel, hf⟩ := h
  obtain ⟨r, p, e, h'⟩ := reg_open _ _ _ hf
  simp [Value.cells] at e
  exact ⟨r, p, by rw [← e], h'⟩
end
end Rg
end Go.Proofs.Ytniopkoaplkpkaa
