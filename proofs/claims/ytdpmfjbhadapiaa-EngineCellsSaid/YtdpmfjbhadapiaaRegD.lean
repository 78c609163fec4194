/- Registers and replies as data, and how they lie in memory. No condition. The walk of the document's Great at registers. Conditions: the register can be read. Operations as data, and registers, replies, operations as arguments. No condition. Operations as arguments, with their numbers' bounds. No condition. Lists of operations as arguments. No condition. The walks of slices.Clone at the four element types. Conditions: the slice can be read, and is short. Lists in memory, laid flat, and back. No condition. slices.Clone at the register's lists, as data. Conditions: the list can be read, and is short. Memory that stands still, with what a call made. Over any program. No condition. An element of a list that a call has made. No condition. -/
import Derived.Test.YtdpmfjbhadapiaaFrame
import Derived.Test.YtdpmfjbhadapiaaSeat
import Derived.Test.YtdpmfjbhadapiaaFacts
import Derived.Lib.LazyBuf
import Derived.Test.YtdpmfjbhadapiaaSyC
namespace Go.Proofs.Ytdpmfjbhadapiaa
open Go.ChangeShapes Go.WideShapes Go.ChangeAt Go.RowKit Go.Deep
set_option linter.unusedVariables false
namespace Rg

structure RepD where
  err : Int
  inc : Nat
  state : Int
  vars : List Int
deriving DecidableEq
structure DoneD where
  client : Nat
  seq : Nat
  rep : RepD
deriving DecidableEq
structure CellD where
  n : Nat
  target : Nat
  action : Int
  arg : Int
deriving DecidableEq
structure MarkD where
  source : Nat
  inc : Nat
  cell : Nat
deriving DecidableEq
structure RegD where
  kind : Nat
  inc : Nat
  state : Int
  vars : List Int
  done : List DoneD
  out : List CellD
  last : Nat
  marks : List MarkD
deriving DecidableEq

def I64 (x : Int) : Prop := -9223372036854775808 ≤ x ∧ x ≤ 9223372036854775807
def U64 (x : Nat) : Prop := x < 18446744073709551616
def U8 (x : Nat) : Prop := x < 256

/-- where a reply's list lies -/
structure RepA where
  a : Option Addr
  c : Nat
def repCs (r : RepD) (p : RepA) : List Value := [.int .i64 r.err, .int .u64 (r.inc : Int), .int .i64 r.state, .slice p.a r.vars.length p.c]
def RepAt (w : World) (r : RepD) (p : RepA) : Prop := I64 r.err ∧ U64 r.inc ∧ I64 r.state ∧ Nums w p.a r.vars ∧ r.vars.length ≤ p.c ∧ p.c ≤ maxLen
def RepR (w : World) (cs : List Value) (r : RepD) : Prop := ∃ p, cs = repCs r p ∧ RepAt w r p
theorem RepAt.mono {w w' : World} {r : RepD} {p : RepA} (h : RepAt w r p) (hb : Below w.heap.size w w') : RepAt w' r p := ⟨h.1, h.2.1, h.2.2.1, h.2.2.2.1.mono hb, h.2.2.2.2⟩
theorem RepR.mono {w w' : World} {cs : List Value} {r : RepD} (h : RepR w cs r) (hb : Below w.heap.size w w') : RepR w' cs r := let ⟨p, h1, h2⟩ := h; ⟨p, h1, h2.mono hb⟩

def doneCs (d : DoneD) (p : RepA) : List Value := .int .u8 (d.client : Int) :: .int .u64 (d.seq : Int) :: repCs d.rep p
def DoneR (w : World) (cs : List Value) (d : DoneD) : Prop := ∃ p, cs = .int .u8 (d.client : Int) :: .int .u64 (d.seq : Int) :: repCs d.rep p ∧ U8 d.client ∧ U64 d.seq ∧ RepAt w d.rep p
theorem DoneR.mono {w w' : World} {cs : List Value} {d : DoneD} (h : DoneR w cs d) (hb : Below w.heap.size w w') : DoneR w' cs d := let ⟨p, h1, h2, h3, h4⟩ := h; ⟨p, h1, h2, h3, h4.mono hb⟩
def CellR (_ : World) (cs : List Value) (c : CellD) : Prop := cs = [.int .u64 (c.n : Int), .int .u8 (c.target : Int), .int .i64 c.action, .int .i64 c.arg] ∧ U64 c.n ∧ U8 c.target ∧ I64 c.action ∧ I64 c.arg
def MarkR (_ : World) (cs : List Value) (m : MarkD) : Prop := cs = [.int .u8 (m.source : Int), .int .u64 (m.inc : Int), .int .u64 (m.cell : Int)] ∧ U8 m.source ∧ U64 m.inc ∧ U64 m.cell

def Dones (w : World) (a : Option Addr) (l : List DoneD) : Prop := Rows DoneR 6 w a l
def Cels (w : World) (a : Option Addr) (l : List CellD) : Prop := Rows CellR 4 w a l
def Marks (w : World) (a : Option Addr) (l : List MarkD) : Prop := Rows MarkR 3 w a l
theorem Dones.mono {w w' : World} {a : Option Addr} {l : List DoneD} (h : Dones w a l) (hb : Below w.heap.size w w') : Dones w' a l := Rows.mono (fun _ _ h => h.mono hb) hb h
theorem Cels.mono {w w' : World} {a : Option Addr} {l : List CellD} (h : Cels w a l) (hb : Below w.heap.size w w') : Cels w' a l := Rows.mono (w := w) (w' := w') (R := CellR) (fun _ _ h => h) hb h
theorem Marks.mono {w w' : World} {a : Option Addr} {l : List MarkD} (h : Marks w a l) (hb : Below w.heap.size w w') : Marks w' a l := Rows.mono (w := w) (w' := w') (R := MarkR) (fun _ _ h => h) hb h

/-- where a register's lists lie -/
structure RegA where
  va : Option Addr
  vc : Nat
  da : Option Addr
  dc : Nat
  oa : Option Addr
  oc : Nat
  ma : Option Addr
  mc : Nat
def regCs (r : RegD) (p : RegA) : List Value :=
  [.int .u8 (r.kind : Int), .int .u64 (r.inc : Int), .int .i64 r.state, .slice p.va r.vars.length p.vc, .slice p.da r.done.length p.dc, .slice p.oa r.out.length p.oc, .int .u64 (r.last : Int), .slice p.ma r.marks.length p.mc]
structure RegAt (w : World) (r : RegD) (p : RegA) : Prop where
  kind : U8 r.kind
  inc : U64 r.inc
  state : I64 r.state
  last : U64 r.last
  vars : Nums w p.va r.vars
  done : Dones w p.da r.done
  out : Cels w p.oa r.out
  marks : Marks w p.ma r.marks
  cv : r.vars.length ≤ p.vc ∧ p.vc ≤ maxLen
  cd : r.done.length ≤ p.dc ∧ p.dc ≤ maxLen
  co : r.out.length ≤ p.oc ∧ p.oc ≤ maxLen
  cm : r.marks.length ≤ p.mc ∧ p.mc ≤ maxLen
theorem RegAt.mono {w w' : World} {r : RegD} {p : RegA} (h : RegAt w r p) (hb : Below w.heap.size w w') : RegAt w' r p :=
  ⟨h.kind, h.inc, h.state, h.last, h.vars.mono hb, h.done.mono hb, h.out.mono hb, h.marks.mono hb, h.cv, h.cd, h.co, h.cm⟩
def RegR (w : World) (cs : List Value) (r : RegD) : Prop := ∃ p, cs = regCs r p ∧ RegAt w r p

section
variable {H : Type} {enc : TypeId × Value → H} {W : World} {spare : Nat → Bool} {b2 : Nat} {held : Bool}

theorem nums_open (fuel : Nat) (cs : List Value) (x : DataW H × List MemPlace) (h : DataW.trod enc Try.prog W b2 spare held fuel 25 cs = some x) :
    ∃ (a : Option Addr) (cap : Nat) (l : List Int), cs = [.slice a l.length cap] ∧ l.length ≤ cap ∧ cap ≤ maxLen ∧ Nums W a l :=
  rows_open 1 (by omega) (by kernel_rfl) Try.underlying25 (fun fuel cs x h => by
    obtain ⟨n, rfl, hw⟩ := int_cells Try.underlying2 h
    have := bounds_i64 hw
    exact ⟨n, rfl, by omega, by omega⟩) fuel cs x h

theorem rep_open (fuel : Nat) (cs : List Value) (x : DataW H × List MemPlace) (h : DataW.trod enc Try.prog W b2 spare held fuel 57 cs = some x) : ∃ r : RepD, RepR W cs r := by
  obtain ⟨hl, n, hg⟩ := struct_parts Try.underlying57 h
  obtain ⟨y0, h0⟩ := hg 0 29 0 1 rfl (by kernel_rfl)
  obtain ⟨y1, h1⟩ := hg 1 45 1 1 rfl (by kernel_rfl)
  obtain ⟨y2, h2⟩ := hg 2 3 2 1 rfl (by kernel_rfl)
  obtain ⟨y3, h3⟩ := hg 3 25 3 1 rfl (by kernel_rfl)
  rw [show Try.prog.cellsOf 57 = 4 from by kernel_rfl] at hl
  match cs, hl with
  | [c0, c1, c2, c3], _ =>
    obtain ⟨n0, e0, w0⟩ := int_cells Try.underlying29 h0
    obtain ⟨n1, e1, w1⟩ := int_cells Try.underlying45 h1
    obtain ⟨n2, e2, w2⟩ := int_cells Try.underlying3 h2
    obtain ⟨a, cap, l, e3, q1, q2, q3⟩ := nums_open _ _ _ h3
    simp at e0 e1 e2 e3
    subst e0 e1 e2 e3
    have b0 := bounds_i64 w0
    have b1 := bounds_u64 w1
    have b2 := bounds_i64 w2
    refine ⟨⟨n0, n1.toNat, n2, l⟩, ⟨a, cap⟩, ?_, (by unfold I64; simp only; omega), by unfold U64; simp only; omega, (by unfold I64; simp only; omega), q3, q1, q2⟩
    unfold repCs
    simp only
    rw [show ((n1.toNat : Nat) : Int) = n1 from by omega]

theorem done_open (fuel : Nat) (cs : List Value) (x : DataW H × List MemPlace) (h : DataW.trod enc Try.prog W b2 spare held fuel 96 cs = some x) : ∃ d : DoneD, DoneR W cs d := by
  obtain ⟨hl, n, hg⟩ := struct_parts Try.underlying96 h
  obtain ⟨y0, h0⟩ := hg 0 5 0 1 rfl (by kernel_rfl)
  obtain ⟨y1, h1⟩ := hg 1 45 1 1 rfl (by kernel_rfl)
  obtain ⟨y2, h2⟩ := hg 2 57 2 4 rfl (by kernel_rfl)
  rw [show Try.prog.cellsOf 96 = 6 from by kernel_rfl] at hl
  match cs, hl with
  | [c0, c1, c2, c3, c4, c5], _ =>
    obtain ⟨n0, e0, w0⟩ := int_cells Try.underlying5 h0
    obtain ⟨n1, e1, w1⟩ := int_cells Try.underlying45 h1
    obtain ⟨r, p, e2, q⟩ := rep_open _ _ _ h2
    simp at e0 e1
    subst e0 e1
    have b0 := bounds_u8 w0
    have b1 := bounds_u64 w1
    refine ⟨⟨n0.toNat, n1.toNat, r⟩, p, ?_, by unfold U8; simp only; omega, by unfold U64; simp only; omega, q⟩
    simp only
    rw [show ((n0.toNat : Nat) : Int) = n0 from by omega, show ((n1.toNat : Nat) : Int) = n1 from by omega, ← e2]
    rfl

theorem cell_open (fuel : Nat) (cs : List Value) (x : DataW H × List MemPlace) (h : DataW.trod enc Try.prog W b2 spare held fuel 47 cs = some x) : ∃ d : CellD, CellR W cs d := by
  obtain ⟨hl, n, hg⟩ := struct_parts Try.underlying47 h
  obtain ⟨y0, h0⟩ := hg 0 45 0 1 rfl (by kernel_rfl)
  obtain ⟨y1, h1⟩ := hg 1 5 1 1 rfl (by kernel_rfl)
  obtain ⟨y2, h2⟩ := hg 2 3 2 1 rfl (by kernel_rfl)
  obtain ⟨y3, h3⟩ := hg 3 2 3 1 rfl (by kernel_rfl)
  rw [show Try.prog.cellsOf 47 = 4 from by kernel_rfl] at hl
  match cs, hl with
  | [c0, c1, c2, c3], _ =>
    obtain ⟨n0, e0, w0⟩ := int_cells Try.underlying45 h0
    obtain ⟨n1, e1, w1⟩ := int_cells Try.underlying5 h1
    obtain ⟨n2, e2, w2⟩ := int_cells Try.underlying3 h2
    obtain ⟨n3, e3, w3⟩ := int_cells Try.underlying2 h3
    simp at e0 e1 e2 e3
    subst e0 e1 e2 e3
    have b0 := bounds_u64 w0
    have b1 := bounds_u8 w1
    have b2 := bounds_i64 w2
    have b3 := bounds_i64 w3
    refine ⟨⟨n0.toNat, n1.toNat, n2, n3⟩, ?_, by unfold U64; simp only; omega, by unfold U8; simp only; omega, (by unfold I64; simp only; omega), (by unfold I64; simp only; omega)⟩
    simp only
    rw [show ((n0.toNat : Nat) : Int) = n0 from by omega, show ((n1.toNat : Nat) : Int) = n1 from by omega]

theorem mark_open (fuel : Nat) (cs : List Value) (x : DataW H × List MemPlace) (h : DataW.trod enc Try.prog W b2 spare held fuel 69 cs = some x) : ∃ d : MarkD, MarkR W cs d := by
  obtain ⟨hl, n, hg⟩ := struct_parts Try.underlying69 h
  obtain ⟨y0, h0⟩ := hg 0 5 0 1 rfl (by kernel_rfl)
  obtain ⟨y1, h1⟩ := hg 1 45 1 1 rfl (by kernel_rfl)
  obtain ⟨y2, h2⟩ := hg 2 45 2 1 rfl (by kernel_rfl)
  rw [show Try.prog.cellsOf 69 = 3 from by kernel_rfl] at hl
  match cs, hl with
  | [c0, c1, c2], _ =>
    obtain ⟨n0, e0, w0⟩ := int_cells Try.underlying5 h0
    obtain ⟨n1, e1, w1⟩ := int_cells Try.underlying45 h1
    obtain ⟨n2, e2, w2⟩ := int_cells Try.underlying45 h2
    simp at e0 e1 e2
    subst e0 e1 e2
    have b0 := bounds_u8 w0
    have b1 := bounds_u64 w1
    have b2 := bounds_u64 w2
    refine ⟨⟨n0.toNat, n1.toNat, n2.toNat⟩, ?_, by unfold U8; simp only; omega, by unfold U64; simp only; omega, by unfold U64; simp only; omega⟩
    simp only
    rw [show ((n0.toNat : Nat) : Int) = n0 from by omega, show ((n1.toNat : Nat) : Int) = n1 from by omega, show ((n2.toNat : Nat) : Int) = n2 from by omega]

theorem dones_open (fuel : Nat) (cs : List Value) (x : DataW H × List MemPlace) (h : DataW.trod enc Try.prog W b2 spare held fuel 48 cs = some x) :
    ∃ (a : Option Addr) (cap : Nat) (l : List DoneD), cs = [.slice a l.length cap] ∧ l.length ≤ cap ∧ cap ≤ maxLen ∧ Dones W a l :=
  rows_open 6 (by omega) (by kernel_rfl) Try.underlying48 done_open fuel cs x h
theorem cels_open (fuel : Nat) (cs : List Value) (x : DataW H × List MemPlace) (h : DataW.trod enc Try.prog W b2 spare held fuel 28 cs = some x) :
    ∃ (a : Option Addr) (cap : Nat) (l : List CellD), cs = [.slice a l.length cap] ∧ l.length ≤ cap ∧ cap ≤ maxLen ∧ Cels W a l :=
  rows_open 4 (by omega) (by kernel_rfl) Try.underlying28 cell_open fuel cs x h
theorem marks_open (fuel : Nat) (cs : List Value) (x : DataW H × List MemPlace) (h : DataW.trod enc Try.prog W b2 spare held fuel 49 cs = some x) :
    ∃ (a : Option Addr) (cap : Nat) (l : List MarkD), cs = [.slice a l.length cap] ∧ l.length ≤ cap ∧ cap ≤ maxLen ∧ Marks W a l :=
  rows_open 3 (by omega) (by kernel_rfl) Try.underlying49 mark_open fuel cs x h

theorem reg_open (fuel : Nat) (cs : List Value) (x : DataW H × List MemPlace) (h : DataW.trod enc Try.prog W b2 spare held fuel 51 cs = some x) : ∃ r : RegD, RegR W cs r := by
  obtain ⟨hl, n, hg⟩ := struct_parts Try.underlying51 h
  obtain ⟨y0, h0⟩ := hg 0 5 0 1 rfl (by kernel_rfl)
  obtain ⟨y1, h1⟩ := hg 1 45 1 1 rfl (by kernel_rfl)
  obtain ⟨y2, h2⟩ := hg 2 3 2 1 rfl (by kernel_rfl)
  obtain ⟨y3, h3⟩ := hg 3 25 3 1 rfl (by kernel_rfl)
  obtain ⟨y4, h4⟩ := hg 4 48 4 1 rfl (by kernel_rfl)
  obtain ⟨y5, h5⟩ := hg 5 28 5 1 rfl (by kernel_rfl)
  obtain ⟨y6, h6⟩ := hg 6 45 6 1 rfl (by kernel_rfl)
  obtain ⟨y7, h7⟩ := hg 7 49 7 1 rfl (by kernel_rfl)
  rw [show Try.prog.cellsOf 51 = 8 from by kernel_rfl] at hl
  match cs, hl with
  | [c0, c1, c2, c3, c4, c5, c6, c7], _ =>
    obtain ⟨n0, e0, w0⟩ := int_cells Try.underlying5 h0
    obtain ⟨n1, e1, w1⟩ := int_cells Try.underlying45 h1
    obtain ⟨n2, e2, w2⟩ := int_cells Try.underlying3 h2
    obtain ⟨a3, k3, l3, e3, q3, r3, s3⟩ := nums_open _ _ _ h3
    obtain ⟨a4, k4, l4, e4, q4, r4, s4⟩ := dones_open _ _ _ h4
    obtain ⟨a5, k5, l5, e5, q5, r5, s5⟩ := cels_open _ _ _ h5
    obtain ⟨n6, e6, w6⟩ := int_cells Try.underlying45 h6
    obtain ⟨a7, k7, l7, e7, q7, r7, s7⟩ := marks_open _ _ _ h7
    simp at e0 e1 e2 e3 e4 e5 e6 e7
    subst e0 e1 e2 e3 e4 e5 e6 e7
    have b0 := bounds_u8 w0
    have b1 := bounds_u64 w1
    have b2 := bounds_i64 w2
    have b6 := bounds_u64 w6
    refine ⟨⟨n0.toNat, n1.toNat, n2, l3, l4, l5, n6.toNat, l7⟩, ⟨a3, k3, a4, k4, a5, k5, a7, k7⟩, ?_, ⟨by unfold U8; simp only; omega, by unfold U64; simp only; omega, (by unfold I64; simp only; omega), by unfold U64; simp only; omega, s3, s4, s5, s7, ⟨q3, r3⟩, ⟨q4, r4⟩, ⟨q5, r5⟩, ⟨q7, r7⟩⟩⟩
    unfold regCs
    simp only
    rw [show ((n0.toNat : Nat) : Int) = n0 from by omega, show ((n1.toNat : Nat) : Int) = n1 from by omega, show ((n6.toNat : Nat) : Int) = n6 from by omega]
end
end Rg
end Go.Proofs.Ytdpmfjbhadapiaa
namespace Go.Proofs.Ytdpmfjbhadapiaa
open Go.RowKit
set_option linter.unusedVariables false
namespace Rg
def greatS (r : RegD) : Bool := decide (50 < r.vars.length ∨ 50 < r.done.length ∨ 50 < r.out.length ∨ 50 < r.marks.length) || r.done.any fun d => decide (50 < d.rep.vars.length)
set_option maxHeartbeats 800000 in
theorem great_any (w : World) (r : RegD) (p : RegA) (h : RegAt w r p) :
    Calls Try.prog 30 #[.agg (regCs r p).toArray] w (RetBo w (greatS r)) := by
  have BA := Lib.hid (fun o => balloc w o)
  have HD := Lib.hid h.done
  have hm1 := h.vars.1
  have hm2 := h.done.1
  have hm3 := h.out.1
  have hm4 := h.marks.1
  unfold maxLen at hm1 hm2 hm3 hm4
  have hfin : greatS r = (decide (50 < r.vars.length ∨ 50 < r.done.length ∨ 50 < r.out.length ∨ 50 < r.marks.length) || r.done.any fun d => decide (50 < d.rep.vars.length)) := rfl
  generalize greatS r = res at *
  have HF := Lib.hid hfin
  clear hfin h
  unfold regCs
  by_cases h1 : 50 < r.vars.length
  · have hr : res = true := by rw [HF.out, decide_eq_true (.inl h1)]; rfl
    subst hr
    go_enter Try.func30, Try.ntmps30
    go_wp2_with fail
    go_ret
    exact retBo rfl (BA.out _)
  by_cases h2 : 50 < r.done.length
  · have hr : res = true := by rw [HF.out, decide_eq_true (.inr (.inl h2))]; rfl
    subst hr
    go_enter Try.func30, Try.ntmps30
    go_wp2_with fail
    go_ret
    exact retBo rfl (BA.out _)
  by_cases h3 : 50 < r.out.length
  · have hr : res = true := by rw [HF.out, decide_eq_true (.inr (.inr (.inl h3)))]; rfl
    subst hr
    go_enter Try.func30, Try.ntmps30
    go_wp2_with fail
    go_ret
    exact retBo rfl (BA.out _)
  by_cases h4 : 50 < r.marks.length
  · have hr : res = true := by rw [HF.out, decide_eq_true (.inr (.inr (.inr h4)))]; rfl
    subst hr
    go_enter Try.func30, Try.ntmps30
    go_wp2_with fail
    go_ret
    exact retBo rfl (BA.out _)
  have hr : res = r.done.any fun d => decide (50 < d.rep.vars.length) := by
    rw [HF.out, decide_eq_false (by rintro (h | h | h | h) <;> omega)]; rfl
  have HR := Lib.hid hr
  clear hr
  go_enter Try.func30, Try.ntmps30
  go_wp2_with fail
  go_loop [29] (fun i => ∃ k : Nat, k ≤ r.done.length ∧ i = .int .i64 k ∧ Hid ((r.done.take k).any (fun d => decide (50 < d.rep.vars.length)) = false)) (fun i => r.done.length - (intOf i).toNat)
  case atStart => exact ⟨0, Nat.zero_le _, rfl, Lib.hid rfl⟩
  case round =>
    obtain ⟨k, hk, rfl, hg⟩ := hrel
    by_cases hlt : k < r.done.length
    · obtain ⟨b, o, cs, ha, hl, hc, ⟨q, rfl, _, _, hrep⟩, hbl⟩ := Rows.at HD.out k hlt
      have c5 := hc 5 (by simp [repCs])
      simp [repCs] at c5
      have hlb := hbl (by omega)
      have hst := any_take (fun d : DoneD => decide (50 < d.rep.vars.length)) r.done k hlt hg.out
      have hany := any_hit (fun d : DoneD => decide (50 < d.rep.vars.length)) r.done k hlt
      have hml := hrep.2.2.2.1.1
      unfold maxLen at hml
      have HST := Lib.hid hst
      have HANY := Lib.hid hany
      rw [ha]
      clear hst hany hrep hc hl hbl ha
      generalize r.done[k] = d at *
      by_cases h5 : 50 < d.rep.vars.length
      · have hr : res = true := by rw [HR.out]; exact HANY.out (decide_eq_true h5)
        subst hr
        go_wp2_with fail
        go_ret
        exact retBo rfl (BA.out _)
      · go_wp2_with fail
        go_round
        case rel => exact ⟨k + 1, by omega, by go_num, Lib.hid (by rw [HST.out, decide_eq_false h5])⟩
        case measure => simp [intOf]; omega
    · obtain rfl : k = r.done.length := by omega
      have hg2 := hg.out
      rw [List.take_length] at hg2
      have hr : res = false := by rw [HR.out]; exact hg2
      subst hr
      clear hg2
      go_wp2_with fail
      go_ret
      exact retBo rfl (BA.out _)
theorem great_lens {r : RegD} (h : greatS r = false) : r.vars.length ≤ 50 ∧ r.done.length ≤ 50 ∧ r.out.length ≤ 50 ∧ r.marks.length ≤ 50 ∧ ∀ d ∈ r.done, d.rep.vars.length ≤ 50 := by
  unfold greatS at h
  rw [Bool.or_eq_false_iff] at h
  have h1 := of_decide_eq_false h.1
  have h2 := h.2
  rw [List.any_eq_false] at h2
  refine ⟨by omega, by omega, by omega, by omega, fun d hd => ?_⟩
  have := h2 d hd
  simp at this
  exact this
end Rg
end Go.Proofs.Ytdpmfjbhadapiaa
namespace Go.Proofs.Ytdpmfjbhadapiaa
open Go.ChangeShapes Go.WideShapes Go.ChangeAt Go.RowKit Go.Deep
set_option linter.unusedVariables false
namespace Rg
structure OpD where
  kind : Nat
  key : Nat
  client : Nat
  seq : Nat
  action : Int
  party : Int
  arg : Int
  source : Nat
  inc : Nat
  cell : Nat
deriving DecidableEq
def opCs (o : OpD) : List Value := [.int .u8 (o.kind : Int), .int .u8 (o.key : Int), .int .u8 (o.client : Int), .int .u64 (o.seq : Int), .int .i64 o.action, .int .i64 o.party, .int .i64 o.arg, .int .u8 (o.source : Int), .int .u64 (o.inc : Int), .int .u64 (o.cell : Int)]
def zeroReg : RegD := ⟨0, 0, 0, [], [], [], 0, []⟩
def zeroRegA : RegA := ⟨none, 0, none, 0, none, 0, none, 0⟩
theorem zeroReg_at (w : World) : RegAt w zeroReg zeroRegA := by
  refine ⟨by unfold U8; decide, by unfold U64; decide, by unfold I64; decide, by unfold U64; decide, Rows.nil _ _ _ _, Rows.nil _ _ _ _, Rows.nil _ _ _ _, Rows.nil _ _ _ _, ?_, ?_, ?_, ?_⟩ <;> (simp [zeroReg, zeroRegA])
section
variable {H : Type} {enc : TypeId × Value → H} {W : World} {spare : Nat → Bool} {b2 : Nat} {held : Bool}
theorem op_open (fuel : Nat) (cs : List Value) (x : DataW H × List MemPlace) (h : DataW.trod enc Try.prog W b2 spare held fuel 53 cs = some x) : ∃ o : OpD, cs = opCs o := by
  obtain ⟨hl, n, hg⟩ := struct_parts Try.underlying53 h
  obtain ⟨y0, h0⟩ := hg 0 5 0 1 rfl (by kernel_rfl)
  obtain ⟨y1, h1⟩ := hg 1 5 1 1 rfl (by kernel_rfl)
  obtain ⟨y2, h2⟩ := hg 2 5 2 1 rfl (by kernel_rfl)
  obtain ⟨y3, h3⟩ := hg 3 45 3 1 rfl (by kernel_rfl)
  obtain ⟨y4, h4⟩ := hg 4 3 4 1 rfl (by kernel_rfl)
  obtain ⟨y5, h5⟩ := hg 5 3 5 1 rfl (by kernel_rfl)
  obtain ⟨y6, h6⟩ := hg 6 2 6 1 rfl (by kernel_rfl)
  obtain ⟨y7, h7⟩ := hg 7 5 7 1 rfl (by kernel_rfl)
  obtain ⟨y8, h8⟩ := hg 8 45 8 1 rfl (by kernel_rfl)
  obtain ⟨y9, h9⟩ := hg 9 45 9 1 rfl (by kernel_rfl)
  rw [show Try.prog.cellsOf 53 = 10 from by kernel_rfl] at hl
  match cs, hl with
  | [c0, c1, c2, c3, c4, c5, c6, c7, c8, c9], _ =>
    obtain ⟨n0, e0, w0⟩ := int_cells Try.underlying5 h0
    obtain ⟨n1, e1, w1⟩ := int_cells Try.underlying5 h1
    obtain ⟨n2, e2, w2⟩ := int_cells Try.underlying5 h2
    obtain ⟨n3, e3, w3⟩ := int_cells Try.underlying45 h3
    obtain ⟨n4, e4, w4⟩ := int_cells Try.underlying3 h4
    obtain ⟨n5, e5, w5⟩ := int_cells Try.underlying3 h5
    obtain ⟨n6, e6, w6⟩ := int_cells Try.underlying2 h6
    obtain ⟨n7, e7, w7⟩ := int_cells Try.underlying5 h7
    obtain ⟨n8, e8, w8⟩ := int_cells Try.underlying45 h8
    obtain ⟨n9, e9, w9⟩ := int_cells Try.underlying45 h9
    simp at e0 e1 e2 e3 e4 e5 e6 e7 e8 e9
    subst e0 e1 e2 e3 e4 e5 e6 e7 e8 e9
    have b0 := bounds_u8 w0
    have b1 := bounds_u8 w1
    have b2 := bounds_u8 w2
    have b3 := bounds_u64 w3
    have b4 := bounds_i64 w4
    have b5 := bounds_i64 w5
    have b6 := bounds_i64 w6
    have b7 := bounds_u8 w7
    have b8 := bounds_u64 w8
    have b9 := bounds_u64 w9
    refine ⟨⟨n0.toNat, n1.toNat, n2.toNat, n3.toNat, n4, n5, n6, n7.toNat, n8.toNat, n9.toNat⟩, ?_⟩
    unfold opCs
    simp only
    rw [show ((n0.toNat : Nat) : Int) = n0 from by omega, show ((n1.toNat : Nat) : Int) = n1 from by omega, show ((n2.toNat : Nat) : Int) = n2 from by omega, show ((n3.toNat : Nat) : Int) = n3 from by omega, show ((n7.toNat : Nat) : Int) = n7 from by omega, show ((n8.toNat : Nat) : Int) = n8 from by omega, show ((n9.toNat : Nat) : Int) = n9 from by omega]
set_option maxRecDepth 100000 in
theorem reg_arg {v : Value} {d : DataW H} {ps : List MemPlace} {base : Nat} (hval : Value.okWide Try.prog W .any base 51 v) (h : DataW.Trod enc Try.prog W b2 spare held 51 v d ps) :
    ∃ (r : RegD) (p : RegA), v = .agg (regCs r p).toArray ∧ RegAt W r p := by
  obtain ⟨cs, rfl, hsz⟩ := okWide_struct Try.underlying51 hval
  obtain ⟨fuel, hf⟩ := h
  obtain ⟨r, p, e, h'⟩ := reg_open _ _ _ hf
  simp [Value.cells] at e
  exact ⟨r, p, by rw [← e], h'⟩
set_option maxRecDepth 100000 in
theorem op_arg {v : Value} {d : DataW H} {ps : List MemPlace} {base : Nat} (hval : Value.okWide Try.prog W .any base 53 v) (h : DataW.Trod enc Try.prog W b2 spare held 53 v d ps) :
    ∃ o : OpD, v = .agg (opCs o).toArray := by
  obtain ⟨cs, rfl, hsz⟩ := okWide_struct Try.underlying53 hval
  obtain ⟨fuel, hf⟩ := h
  obtain ⟨o, e⟩ := op_open _ _ _ hf
  simp [Value.cells] at e
  exact ⟨o, by rw [← e]⟩
end
end Rg
end Go.Proofs.Ytdpmfjbhadapiaa
namespace Go.Proofs.Ytdpmfjbhadapiaa
open Go.ChangeShapes Go.WideShapes Go.ChangeAt Go.RowKit Go.Deep
set_option linter.unusedVariables false
namespace Rg
structure OpOk (o : OpD) : Prop where
  kind : U8 o.kind
  key : U8 o.key
  client : U8 o.client
  seq : U64 o.seq
  action : I64 o.action
  party : I64 o.party
  arg : I64 o.arg
  source : U8 o.source
  inc : U64 o.inc
  cell : U64 o.cell
section
variable {H : Type} {enc : TypeId × Value → H} {W : World} {spare : Nat → Bool} {b2 : Nat} {held : Bool}
theorem op_open2 (fuel : Nat) (cs : List Value) (x : DataW H × List MemPlace) (h : DataW.trod enc Try.prog W b2 spare held fuel 53 cs = some x) : ∃ o : OpD, cs = opCs o ∧ OpOk o := by
  obtain ⟨hl, n, hg⟩ := struct_parts Try.underlying53 h
  obtain ⟨y0, h0⟩ := hg 0 5 0 1 rfl (by kernel_rfl)
  obtain ⟨y1, h1⟩ := hg 1 5 1 1 rfl (by kernel_rfl)
  obtain ⟨y2, h2⟩ := hg 2 5 2 1 rfl (by kernel_rfl)
  obtain ⟨y3, h3⟩ := hg 3 45 3 1 rfl (by kernel_rfl)
  obtain ⟨y4, h4⟩ := hg 4 3 4 1 rfl (by kernel_rfl)
  obtain ⟨y5, h5⟩ := hg 5 3 5 1 rfl (by kernel_rfl)
  obtain ⟨y6, h6⟩ := hg 6 2 6 1 rfl (by kernel_rfl)
  obtain ⟨y7, h7⟩ := hg 7 5 7 1 rfl (by kernel_rfl)
  obtain ⟨y8, h8⟩ := hg 8 45 8 1 rfl (by kernel_rfl)
  obtain ⟨y9, h9⟩ := hg 9 45 9 1 rfl (by kernel_rfl)
  rw [show Try.prog.cellsOf 53 = 10 from by kernel_rfl] at hl
  match cs, hl with
  | [c0, c1, c2, c3, c4, c5, c6, c7, c8, c9], _ =>
    obtain ⟨n0, e0, w0⟩ := int_cells Try.underlying5 h0
    obtain ⟨n1, e1, w1⟩ := int_cells Try.underlying5 h1
    obtain ⟨n2, e2, w2⟩ := int_cells Try.underlying5 h2
    obtain ⟨n3, e3, w3⟩ := int_cells Try.underlying45 h3
    obtain ⟨n4, e4, w4⟩ := int_cells Try.underlying3 h4
    obtain ⟨n5, e5, w5⟩ := int_cells Try.underlying3 h5
    obtain ⟨n6, e6, w6⟩ := int_cells Try.underlying2 h6
    obtain ⟨n7, e7, w7⟩ := int_cells Try.underlying5 h7
    obtain ⟨n8, e8, w8⟩ := int_cells Try.underlying45 h8
    obtain ⟨n9, e9, w9⟩ := int_cells Try.underlying45 h9
    simp at e0 e1 e2 e3 e4 e5 e6 e7 e8 e9
    subst e0 e1 e2 e3 e4 e5 e6 e7 e8 e9
    have b0 := bounds_u8 w0
    have b1 := bounds_u8 w1
    have b2 := bounds_u8 w2
    have b3 := bounds_u64 w3
    have b4 := bounds_i64 w4
    have b5 := bounds_i64 w5
    have b6 := bounds_i64 w6
    have b7 := bounds_u8 w7
    have b8 := bounds_u64 w8
    have b9 := bounds_u64 w9
    refine ⟨⟨n0.toNat, n1.toNat, n2.toNat, n3.toNat, n4, n5, n6, n7.toNat, n8.toNat, n9.toNat⟩, ?_, by constructor <;> (simp only [U8, U64, I64]; omega)⟩
    unfold opCs
    simp only
    rw [show ((n0.toNat : Nat) : Int) = n0 from by omega, show ((n1.toNat : Nat) : Int) = n1 from by omega, show ((n2.toNat : Nat) : Int) = n2 from by omega, show ((n3.toNat : Nat) : Int) = n3 from by omega, show ((n7.toNat : Nat) : Int) = n7 from by omega, show ((n8.toNat : Nat) : Int) = n8 from by omega, show ((n9.toNat : Nat) : Int) = n9 from by omega]
set_option maxRecDepth 100000 in
theorem op_arg2 {v : Value} {d : DataW H} {ps : List MemPlace} {base : Nat} (hval : Value.okWide Try.prog W .any base 53 v) (h : DataW.Trod enc Try.prog W b2 spare held 53 v d ps) :
    ∃ o : OpD, v = .agg (opCs o).toArray ∧ OpOk o := by
  obtain ⟨cs, rfl, hsz⟩ := okWide_struct Try.underlying53 hval
  obtain ⟨fuel, hf⟩ := h
  obtain ⟨o, e, hk⟩ := op_open2 _ _ _ hf
  simp [Value.cells] at e
  exact ⟨o, by rw [← e], hk⟩
end
end Rg
end Go.Proofs.Ytdpmfjbhadapiaa
namespace Go.Proofs.Ytdpmfjbhadapiaa
open Go.ChangeShapes Go.WideShapes Go.ChangeAt Go.RowKit Go.Deep
set_option linter.unusedVariables false
namespace Rg
def OpR (_ : World) (cs : List Value) (o : OpD) : Prop := cs = opCs o ∧ OpOk o
section
variable {H : Type} {enc : TypeId × Value → H} {W : World} {spare : Nat → Bool} {b2 : Nat} {held : Bool}
set_option maxRecDepth 100000 in
theorem ops_arg {v : Value} {d : DataW H} {ps : List MemPlace} {base : Nat} (hval : Value.okWide Try.prog W .any base 63 v) (h : DataW.Trod enc Try.prog W b2 spare held 63 v d ps) :
    ∃ (a : Option Addr) (cap : Nat) (l : List OpD), v = .slice a l.length cap ∧ l.length ≤ cap ∧ cap ≤ maxLen ∧ Rows OpR 10 W a l := by
  obtain ⟨a, len, cap, rfl⟩ := okWide_slice Try.underlying63 hval
  obtain ⟨fuel, hf⟩ := h
  obtain ⟨a', cap', l, e, h1, h2, h3⟩ := rows_open (R := OpR) 10 (by omega) (by kernel_rfl) Try.underlying63 op_open2 fuel _ _ hf
  simp [Value.cells] at e
  obtain ⟨rfl, rfl, rfl⟩ := e
  exact ⟨_, _, l, rfl, h1, h2, h3⟩
end
end Rg
end Go.Proofs.Ytdpmfjbhadapiaa
namespace Go.Proofs.Ytdpmfjbhadapiaa
open Go.RowKit
set_option linter.unusedVariables false
namespace Rg

def RetC (w : World) (e : TypeId) (size n : Nat) (news : List Value) (en : Ending) (w' : World) : Prop :=
  (∃ a' cap', en = .returned (.slice a' n cap') ∧ Own w' w.heap.size e size (.slice a' n cap') n news) ∧ Below w.heap.size w w'

theorem infoInt : (Try.prog.info? 2).map (fun i => (i.zero, i.size, i.bytes)) = some (some (.int .i64 0), 1, 8) := by kernel_rfl
set_option maxRecDepth 100000 in
theorem cloneInt_any (w : World) (a : Option Addr) (n cap : Nat) (news : List Value) (hl : news.length = n * 1) (hc : Cells w a news) (h1 : ∀ u ∈ news, u.oneCell' = true) (hn : n ≤ 50) :
    Calls Try.prog 38 #[.slice a n cap] w (RetC w 2 1 n news) := by
  cases a with
  | none =>
    have hnews : news = [] := by
      rcases hc with h | ⟨b, o, h, _⟩
      · exact h
      · cases h
    subst hnews
    obtain rfl : n = 0 := by simp at hl; omega
    have FIN := Lib.hid (Own.empty w w.heap.size 2 1 none)
    have EQ : ∀ w : World, (binOp .eql 25 (.slice none 0 cap) (.slice none 0 0)).run Try.prog w = .ok (.bool true) w := fun w => run_eql_slice_nil w _ _ none 0 cap Try.underlying25
    clear hl hc h1 hn
    unfold RetC
    go_enter Try.func38, Try.ntmps38
    go_wp2_with fail
    go_ret
    exact ⟨⟨none, 0, rfl, FIN.out⟩, Below.refl _ _⟩
  | some ad =>
    obtain ⟨i, hi, hz, hs1, hb1⟩ := info_parts infoInt
    have HL := Lib.hid hl
    have HC := Lib.hid (hc.mono (balloc w (.cells #[] 2 (0, 0))))
    have H1 := Lib.hid h1
    have HI := Lib.hid hi
    have HZ := Lib.hid hz
    have HS := Lib.hid hs1
    have HB := Lib.hid hb1
    have BA := Lib.hid (balloc w (.cells #[] 2 (0, 0)))
    have EQ : ∀ w : World, (binOp .eql 25 (.slice (some ad) n cap) (.slice none 0 0)).run Try.prog w = .ok (.bool false) w := fun w => run_eql_slice_nil w _ _ (some ad) n cap Try.underlying25
    clear hl hc h1 hi hz hs1 hb1
    unfold RetC
    go_enter Try.func38, Try.ntmps38
    go_wp2_with (refine wpList_append_Own _ (by rfl) (.tmp 5) (.tmp 6) 25 rfl w.heap.size 2 i _ 1 8 Try.underlying25 HI.out HZ.out HS.out HB.out rfl (by omega) (.slice (some ⟨w.heap.size, 0, none⟩) 0 0) 0 [] rfl (Own.empty _ _ _ _ _) (some ad) n cap news rfl HL.out HC.out H1.out (by omega) (by omega) (by rw [World.size_alloc]; omega) ?_
                 intro a' cap' w' h2 h3 h4)
    go_ret
    rw [Nat.zero_add, List.nil_append] at h2
    exact ⟨⟨a', cap', rfl, h2⟩, bthen BA.out (below_grown h3 (Nat.le_refl _) (fun k hk => by simp [blk] at hk))⟩

theorem infoCell : (Try.prog.info? 47).map (fun i => (i.zero, i.size, i.bytes)) = some (some (.agg #[.int .u64 0, .int .u8 0, .int .i64 0, .int .i64 0]), 4, 32) := by kernel_rfl
set_option maxRecDepth 100000 in
theorem cloneCell_any (w : World) (a : Option Addr) (n cap : Nat) (news : List Value) (hl : news.length = n * 4) (hc : Cells w a news) (h1 : ∀ u ∈ news, u.oneCell' = true) (hn : n ≤ 50) :
    Calls Try.prog 74 #[.slice a n cap] w (RetC w 47 4 n news) := by
  cases a with
  | none =>
    have hnews : news = [] := by
      rcases hc with h | ⟨b, o, h, _⟩
      · exact h
      · cases h
    subst hnews
    obtain rfl : n = 0 := by simp at hl; omega
    have FIN := Lib.hid (Own.empty w w.heap.size 47 4 none)
    have EQ : ∀ w : World, (binOp .eql 28 (.slice none 0 cap) (.slice none 0 0)).run Try.prog w = .ok (.bool true) w := fun w => run_eql_slice_nil w _ _ none 0 cap Try.underlying28
    clear hl hc h1 hn
    unfold RetC
    go_enter Try.func74, Try.ntmps74
    go_wp2_with fail
    go_ret
    exact ⟨⟨none, 0, rfl, FIN.out⟩, Below.refl _ _⟩
  | some ad =>
    obtain ⟨i, hi, hz, hs1, hb1⟩ := info_parts infoCell
    have HL := Lib.hid hl
    have HC := Lib.hid (hc.mono (balloc w (.cells #[] 47 (0, 0))))
    have H1 := Lib.hid h1
    have HI := Lib.hid hi
    have HZ := Lib.hid hz
    have HS := Lib.hid hs1
    have HB := Lib.hid hb1
    have BA := Lib.hid (balloc w (.cells #[] 47 (0, 0)))
    have EQ : ∀ w : World, (binOp .eql 28 (.slice (some ad) n cap) (.slice none 0 0)).run Try.prog w = .ok (.bool false) w := fun w => run_eql_slice_nil w _ _ (some ad) n cap Try.underlying28
    clear hl hc h1 hi hz hs1 hb1
    unfold RetC
    go_enter Try.func74, Try.ntmps74
    go_wp2_with (refine wpList_append_Own _ (by rfl) (.tmp 5) (.tmp 6) 28 rfl w.heap.size 47 i _ 4 32 Try.underlying28 HI.out HZ.out HS.out HB.out rfl (by omega) (.slice (some ⟨w.heap.size, 0, none⟩) 0 0) 0 [] rfl (Own.empty _ _ _ _ _) (some ad) n cap news rfl HL.out HC.out H1.out (by omega) (by omega) (by rw [World.size_alloc]; omega) ?_
                 intro a' cap' w' h2 h3 h4)
    go_ret
    rw [Nat.zero_add, List.nil_append] at h2
    exact ⟨⟨a', cap', rfl, h2⟩, bthen BA.out (below_grown h3 (Nat.le_refl _) (fun k hk => by simp [blk] at hk))⟩

theorem infoMark : (Try.prog.info? 69).map (fun i => (i.zero, i.size, i.bytes)) = some (some (.agg #[.int .u8 0, .int .u64 0, .int .u64 0]), 3, 24) := by kernel_rfl
set_option maxRecDepth 100000 in
theorem cloneMark_any (w : World) (a : Option Addr) (n cap : Nat) (news : List Value) (hl : news.length = n * 3) (hc : Cells w a news) (h1 : ∀ u ∈ news, u.oneCell' = true) (hn : n ≤ 50) :
    Calls Try.prog 75 #[.slice a n cap] w (RetC w 69 3 n news) := by
  cases a with
  | none =>
    have hnews : news = [] := by
      rcases hc with h | ⟨b, o, h, _⟩
      · exact h
      · cases h
    subst hnews
    obtain rfl : n = 0 := by simp at hl; omega
    have FIN := Lib.hid (Own.empty w w.heap.size 69 3 none)
    have EQ : ∀ w : World, (binOp .eql 49 (.slice none 0 cap) (.slice none 0 0)).run Try.prog w = .ok (.bool true) w := fun w => run_eql_slice_nil w _ _ none 0 cap Try.underlying49
    clear hl hc h1 hn
    unfold RetC
    go_enter Try.func75, Try.ntmps75
    go_wp2_with fail
    go_ret
    exact ⟨⟨none, 0, rfl, FIN.out⟩, Below.refl _ _⟩
  | some ad =>
    obtain ⟨i, hi, hz, hs1, hb1⟩ := info_parts infoMark
    have HL := Lib.hid hl
    have HC := Lib.hid (hc.mono (balloc w (.cells #[] 69 (0, 0))))
    have H1 := Lib.hid h1
    have HI := Lib.hid hi
    have HZ := Lib.hid hz
    have HS := Lib.hid hs1
    have HB := Lib.hid hb1
    have BA := Lib.hid (balloc w (.cells #[] 69 (0, 0)))
    have EQ : ∀ w : World, (binOp .eql 49 (.slice (some ad) n cap) (.slice none 0 0)).run Try.prog w = .ok (.bool false) w := fun w => run_eql_slice_nil w _ _ (some ad) n cap Try.underlying49
    clear hl hc h1 hi hz hs1 hb1
    unfold RetC
    go_enter Try.func75, Try.ntmps75
    go_wp2_with (refine wpList_append_Own _ (by rfl) (.tmp 5) (.tmp 6) 49 rfl w.heap.size 69 i _ 3 24 Try.underlying49 HI.out HZ.out HS.out HB.out rfl (by omega) (.slice (some ⟨w.heap.size, 0, none⟩) 0 0) 0 [] rfl (Own.empty _ _ _ _ _) (some ad) n cap news rfl HL.out HC.out H1.out (by omega) (by omega) (by rw [World.size_alloc]; omega) ?_
                 intro a' cap' w' h2 h3 h4)
    go_ret
    rw [Nat.zero_add, List.nil_append] at h2
    exact ⟨⟨a', cap', rfl, h2⟩, bthen BA.out (below_grown h3 (Nat.le_refl _) (fun k hk => by simp [blk] at hk))⟩

theorem infoDone : (Try.prog.info? 96).map (fun i => (i.zero, i.size, i.bytes)) = some (some (.agg #[.int .u8 0, .int .u64 0, .int .i64 0, .int .u64 0, .int .i64 0, .slice none 0 0]), 6, 64) := by kernel_rfl
set_option maxRecDepth 100000 in
theorem cloneDone_any (w : World) (a : Option Addr) (n cap : Nat) (news : List Value) (hl : news.length = n * 6) (hc : Cells w a news) (h1 : ∀ u ∈ news, u.oneCell' = true) (hn : n ≤ 50) :
    Calls Try.prog 76 #[.slice a n cap] w (RetC w 96 6 n news) := by
  cases a with
  | none =>
    have hnews : news = [] := by
      rcases hc with h | ⟨b, o, h, _⟩
      · exact h
      · cases h
    subst hnews
    obtain rfl : n = 0 := by simp at hl; omega
    have FIN := Lib.hid (Own.empty w w.heap.size 96 6 none)
    have EQ : ∀ w : World, (binOp .eql 48 (.slice none 0 cap) (.slice none 0 0)).run Try.prog w = .ok (.bool true) w := fun w => run_eql_slice_nil w _ _ none 0 cap Try.underlying48
    clear hl hc h1 hn
    unfold RetC
    go_enter Try.func76, Try.ntmps76
    go_wp2_with fail
    go_ret
    exact ⟨⟨none, 0, rfl, FIN.out⟩, Below.refl _ _⟩
  | some ad =>
    obtain ⟨i, hi, hz, hs1, hb1⟩ := info_parts infoDone
    have HL := Lib.hid hl
    have HC := Lib.hid (hc.mono (balloc w (.cells #[] 96 (0, 0))))
    have H1 := Lib.hid h1
    have HI := Lib.hid hi
    have HZ := Lib.hid hz
    have HS := Lib.hid hs1
    have HB := Lib.hid hb1
    have BA := Lib.hid (balloc w (.cells #[] 96 (0, 0)))
    have EQ : ∀ w : World, (binOp .eql 48 (.slice (some ad) n cap) (.slice none 0 0)).run Try.prog w = .ok (.bool false) w := fun w => run_eql_slice_nil w _ _ (some ad) n cap Try.underlying48
    clear hl hc h1 hi hz hs1 hb1
    unfold RetC
    go_enter Try.func76, Try.ntmps76
    go_wp2_with (refine wpList_append_Own _ (by rfl) (.tmp 5) (.tmp 6) 48 rfl w.heap.size 96 i _ 6 64 Try.underlying48 HI.out HZ.out HS.out HB.out rfl (by omega) (.slice (some ⟨w.heap.size, 0, none⟩) 0 0) 0 [] rfl (Own.empty _ _ _ _ _) (some ad) n cap news rfl HL.out HC.out H1.out (by omega) (by omega) (by rw [World.size_alloc]; omega) ?_
                 intro a' cap' w' h2 h3 h4)
    go_ret
    rw [Nat.zero_add, List.nil_append] at h2
    exact ⟨⟨a', cap', rfl, h2⟩, bthen BA.out (below_grown h3 (Nat.le_refl _) (fun k hk => by simp [blk] at hk))⟩

end Rg
end Go.Proofs.Ytdpmfjbhadapiaa
namespace Go.Proofs.Ytdpmfjbhadapiaa
open Go.RowKit
set_option linter.unusedVariables false
namespace Rg

theorem flat_len {α : Type} (c : Nat) : ∀ (css : List (List α)), (∀ x ∈ css, x.length = c) → css.flatten.length = css.length * c
  | [], _ => by simp
  | x :: r, h => by
    rw [List.flatten_cons, List.length_append, flat_len c r (fun y hy => h y (List.mem_cons_of_mem _ hy)), h x (List.mem_cons_self ..), List.length_cons, Nat.add_mul]
    omega
theorem flat_get {α : Type} (c : Nat) : ∀ (css : List (List α)), (∀ x ∈ css, x.length = c) → ∀ (i j : Nat) (hi : i < css.length), j < c → css.flatten[i * c + j]? = css[i][j]?
  | [], _, i, j, hi, _ => by simp at hi
  | x :: r, h, 0, j, _, hj => by
    rw [List.flatten_cons, Nat.zero_mul, Nat.zero_add, List.getElem?_append_left (by rw [h x (List.mem_cons_self ..)]; exact hj)]
    rfl
  | x :: r, h, i + 1, j, hi, hj => by
    have hx := h x (List.mem_cons_self ..)
    rw [List.flatten_cons, List.getElem?_append_right (by rw [hx, Nat.add_mul]; omega), hx, show (i + 1) * c + j - c = i * c + j by rw [Nat.add_mul]; omega]
    rw [flat_get c r (fun y hy => h y (List.mem_cons_of_mem _ hy)) i j (by simpa using hi) hj]
    rfl

/-- rows: a list of lists of cells, element by element as R says -/
def RowsOf {α : Type} (R : World → List Value → α → Prop) (c : Nat) (w : World) (css : List (List Value)) (l : List α) : Prop :=
  css.length = l.length ∧ ∀ i (h : i < css.length) (h' : i < l.length), css[i].length = c ∧ R w css[i] l[i]
theorem RowsOf.len {α : Type} {R : World → List Value → α → Prop} {c : Nat} {w : World} {css : List (List Value)} {l : List α} (h : RowsOf R c w css l) : ∀ x ∈ css, x.length = c := by
  intro x hx
  obtain ⟨i, hi, rfl⟩ := List.getElem_of_mem hx
  exact (h.2 i hi (by rw [← h.1]; exact hi)).1
theorem RowsOf.mono {α : Type} {R : World → List Value → α → Prop} {c : Nat} {w w' : World} {css : List (List Value)} {l : List α} (hR : ∀ cs x, R w cs x → R w' cs x) (h : RowsOf R c w css l) : RowsOf R c w' css l :=
  ⟨h.1, fun i hi hi' => ⟨(h.2 i hi hi').1, hR _ _ (h.2 i hi hi').2⟩⟩

theorem rows_flat {α : Type} {R : World → List Value → α → Prop} {c : Nat} {w : World} {a : Option Addr} {l : List α} (h : Rows R c w a l) : ∃ css, RowsOf R c w css l ∧ Cells w a css.flatten := by
  rcases h.2 with rfl | ⟨b, o, ha, hc⟩
  · exact ⟨[], ⟨rfl, fun i hi => by simp at hi⟩, .inl rfl⟩
  · obtain ⟨css, hl, hp⟩ := choose_list' l.length (fun i (cs : List Value) => cs.length = c ∧ (∀ j (hj : j < cs.length), w.cell? ⟨b, o + i * c + j, none⟩ = some cs[j]) ∧ ∀ h : i < l.length, R w cs l[i]) (fun i hi => by
      obtain ⟨cs, h1, h2, h3⟩ := hc i hi
      exact ⟨cs, h1, h2, fun _ => h3⟩)
    have hR : RowsOf R c w css l := ⟨hl, fun i hi hi' => ⟨(hp i hi).1, (hp i hi).2.2 hi'⟩⟩
    refine ⟨css, hR, .inr ⟨b, o, ha, fun k hk => ?_⟩⟩
    have hlen := hR.len
    rw [flat_len c css hlen] at hk
    have hc0 : 0 < c := Nat.pos_of_ne_zero fun h0 => by subst h0; simp at hk
    have hi : k / c < css.length := Nat.div_lt_of_lt_mul (by rw [Nat.mul_comm]; exact hk)
    have hj : k % c < c := Nat.mod_lt _ hc0
    have hkk : k / c * c + k % c = k := by rw [Nat.mul_comm]; exact Nat.div_add_mod k c
    have hg := flat_get c css hlen (k / c) (k % c) hi hj
    rw [hkk] at hg
    have hq := (hp _ hi).2.1 (k % c) (by rw [(hp _ hi).1]; exact hj)
    rw [Nat.add_assoc, hkk] at hq
    rw [hq]
    have : css.flatten[k]? = some (css[k / c][k % c]'(by rw [(hp _ hi).1]; exact hj)) := by rw [hg]; simp
    rw [List.getElem?_eq_some_iff] at this
    rw [this.2]

theorem flat_rows {α : Type} {R : World → List Value → α → Prop} {c : Nat} {w : World} {a : Option Addr} {l : List α} {css : List (List Value)} (hm : l.length ≤ maxLen) (hc0 : 0 < c) (h : RowsOf R c w css l) (hc : Cells w a css.flatten) : Rows R c w a l := by
  refine ⟨hm, ?_⟩
  by_cases hl : l = []
  · exact .inl hl
  · have hpos : 0 < l.length := List.length_pos_iff.2 hl
    have hlen := h.len
    rcases hc with h0 | ⟨b, o, ha, hcc⟩
    · have := flat_len c css hlen
      rw [h0, h.1, List.length_nil] at this
      have := Nat.mul_pos hpos hc0
      omega
    · refine .inr ⟨b, o, ha, fun i hi => ?_⟩
      have hi' : i < css.length := by rw [h.1]; exact hi
      refine ⟨css[i], (h.2 i hi' hi).1, fun j hj => ?_, (h.2 i hi' hi).2⟩
      have hjc : j < c := by rw [(h.2 i hi' hi).1] at hj; exact hj
      have hg := flat_get c css hlen i j hi' hjc
      have hk : i * c + j < css.flatten.length := by
        rw [flat_len c css hlen]
        calc i * c + j < i * c + c := by omega
          _ = (i + 1) * c := by rw [Nat.add_mul]; omega
          _ ≤ css.length * c := Nat.mul_le_mul_right _ hi'
      have := hcc (i * c + j) hk
      rw [← Nat.add_assoc] at this
      rw [this]
      rw [List.getElem?_eq_getElem hk, List.getElem?_eq_getElem hj] at hg
      exact hg

/-- a list that the call owns -/
def OwnRows {α : Type} (R : World → List Value → α → Prop) (c : Nat) (e : TypeId) (w : World) (base : Nat) (a : Option Addr) (cap : Nat) (l : List α) : Prop :=
  ∃ css, RowsOf R c w css l ∧ Own w base e c (.slice a l.length cap) l.length css.flatten
theorem OwnRows.rows {α : Type} {R : World → List Value → α → Prop} {c : Nat} {e : TypeId} {w : World} {base : Nat} {a : Option Addr} {cap : Nat} {l : List α} (hc0 : 0 < c) (h : OwnRows R c e w base a cap l) : Rows R c w a l ∧ l.length ≤ cap ∧ cap ≤ maxLen := by
  obtain ⟨css, h1, h2⟩ := h
  have hcap : l.length ≤ cap ∧ cap ≤ maxLen := by
    obtain ⟨a', cap', hv, hl, hn, hm, _⟩ := h2
    simp at hv
    omega
  exact ⟨flat_rows (by omega) hc0 h1 h2.cells, hcap⟩
theorem OwnRows.mono {α : Type} {R : World → List Value → α → Prop} {c : Nat} {e : TypeId} {w w' : World} {base : Nat} {a : Option Addr} {cap : Nat} {l : List α} (hR : ∀ cs x, R w cs x → R w' cs x) (hb : Below w.heap.size w w') (h : OwnRows R c e w base a cap l) : OwnRows R c e w' base a cap l := by
  obtain ⟨css, h1, h2⟩ := h
  exact ⟨css, h1.mono hR, h2.below hb⟩
end Rg
end Go.Proofs.Ytdpmfjbhadapiaa
namespace Go.Proofs.Ytdpmfjbhadapiaa
open Go.RowKit
set_option linter.unusedVariables false
namespace Rg

def NumR (_ : World) (cs : List Value) (x : Int) : Prop := cs = [.int .i64 x] ∧ -9223372036854775808 ≤ x ∧ x ≤ 9223372036854775807
theorem flat_one' {α : Type} {R : World → List Value → α → Prop} {c : Nat} {w : World} {css : List (List Value)} {l : List α} (h : RowsOf R c w css l) (h1 : ∀ w cs x, R w cs x → ∀ u ∈ cs, u.oneCell' = true) : ∀ u ∈ css.flatten, u.oneCell' = true := by
  intro u hu
  obtain ⟨cs, hcs, hu⟩ := List.mem_flatten.1 hu
  obtain ⟨i, hi, rfl⟩ := List.getElem_of_mem hcs
  exact h1 _ _ _ (h.2 i hi (by rw [← h.1]; exact hi)).2 u hu
def RetL {α : Type} (R : World → List Value → α → Prop) (c : Nat) (e : TypeId) (w : World) (l : List α) (en : Ending) (w' : World) : Prop :=
  (∃ a' cap', en = .returned (.slice a' l.length cap') ∧ OwnRows R c e w' w.heap.size a' cap' l) ∧ Below w.heap.size w w'

theorem cloneInts (w : World) (a : Option Addr) (cap : Nat) (l : List Int) (hl : Nums w a l) (hn : l.length ≤ 50) :
    Calls Try.prog 38 #[.slice a l.length cap] w (RetL NumR 1 2 w l) := by
  obtain ⟨css, h1, h2⟩ := rows_flat (R := NumR) (c := 1) (l := l) hl
  have hlen := flat_len 1 css h1.len
  rw [h1.1] at hlen
  refine (cloneInt_any w a l.length cap css.flatten hlen h2 (flat_one' h1 (by rintro w cs x ⟨rfl, _⟩ u hu; simp at hu; subst hu; rfl)) hn).mono ?_
  rintro en w1 ⟨⟨a', cap', rfl, ho⟩, b1⟩
  exact ⟨⟨a', cap', rfl, css, h1.mono (fun cs x h => h), ho⟩, b1⟩
theorem cloneCells (w : World) (a : Option Addr) (cap : Nat) (l : List CellD) (hl : Cels w a l) (hn : l.length ≤ 50) :
    Calls Try.prog 74 #[.slice a l.length cap] w (RetL CellR 4 47 w l) := by
  obtain ⟨css, h1, h2⟩ := rows_flat (R := CellR) (c := 4) (l := l) hl
  have hlen := flat_len 4 css h1.len
  rw [h1.1] at hlen
  refine (cloneCell_any w a l.length cap css.flatten hlen h2 (flat_one' h1 (by rintro w cs x ⟨rfl, _⟩ u hu; simp at hu; rcases hu with rfl | rfl | rfl | rfl <;> rfl)) hn).mono ?_
  rintro en w1 ⟨⟨a', cap', rfl, ho⟩, b1⟩
  exact ⟨⟨a', cap', rfl, css, h1.mono (fun cs x h => h), ho⟩, b1⟩
theorem cloneMarks (w : World) (a : Option Addr) (cap : Nat) (l : List MarkD) (hl : Marks w a l) (hn : l.length ≤ 50) :
    Calls Try.prog 75 #[.slice a l.length cap] w (RetL MarkR 3 69 w l) := by
  obtain ⟨css, h1, h2⟩ := rows_flat (R := MarkR) (c := 3) (l := l) hl
  have hlen := flat_len 3 css h1.len
  rw [h1.1] at hlen
  refine (cloneMark_any w a l.length cap css.flatten hlen h2 (flat_one' h1 (by rintro w cs x ⟨rfl, _⟩ u hu; simp at hu; rcases hu with rfl | rfl | rfl <;> rfl)) hn).mono ?_
  rintro en w1 ⟨⟨a', cap', rfl, ho⟩, b1⟩
  exact ⟨⟨a', cap', rfl, css, h1.mono (fun cs x h => h), ho⟩, b1⟩
theorem cloneDones (w : World) (a : Option Addr) (cap : Nat) (l : List DoneD) (hl : Dones w a l) (hn : l.length ≤ 50) :
    Calls Try.prog 76 #[.slice a l.length cap] w (RetL DoneR 6 96 w l) := by
  obtain ⟨css, h1, h2⟩ := rows_flat (R := DoneR) (c := 6) (l := l) hl
  have hlen := flat_len 6 css h1.len
  rw [h1.1] at hlen
  refine (cloneDone_any w a l.length cap css.flatten hlen h2 (flat_one' h1 (by rintro w cs x ⟨p, rfl, _⟩ u hu; simp [repCs] at hu; rcases hu with rfl | rfl | rfl | rfl | rfl | rfl <;> rfl)) hn).mono ?_
  rintro en w1 ⟨⟨a', cap', rfl, ho⟩, b1⟩
  exact ⟨⟨a', cap', rfl, css, h1.mono (fun cs x h => h.mono b1), ho⟩, b1⟩
end Rg
end Go.Proofs.Ytdpmfjbhadapiaa
namespace Go.Proofs.Ytdpmfjbhadapiaa
open Go.RowKit
set_option linter.unusedVariables false
set_option linter.unusedSimpArgs false
namespace Sy
/-- memory that stands still: what did before, and what a call made -/
def join (m w' : World) (B : Nat) : World := { w' with heap := ((List.range w'.heap.size).map fun i => if i < B then (m.heap[i]?).getD (.cells #[] 0 (0, 0)) else (w'.heap[i]?).getD (.cells #[] 0 (0, 0))).toArray }
theorem join_heap (m w' : World) (B i : Nat) (h : i < w'.heap.size) : (join m w' B).heap[i]? = some (if i < B then (m.heap[i]?).getD (.cells #[] 0 (0, 0)) else (w'.heap[i]?).getD (.cells #[] 0 (0, 0))) := by
  simp [join, h]
theorem retM_of_own {m w w' : World} (hs : Sub m w) (hb : Below w.heap.size w w') :
    ∃ m', Sub m m' ∧ Sub m' w' ∧ (∀ p u, p.block < w.heap.size → m'.cell? p = some u → m.cell? p = some u) ∧ ∀ b, w.heap.size ≤ b → b < w'.heap.size → m'.heap[b]? = w'.heap[b]? := by
  have hlow : ∀ p : Addr, p.block < w.heap.size → (join m w' w.heap.size).cell? p = m.cell? p := by
    intro p hp
    have := join_heap m w' w.heap.size p.block (Nat.lt_of_lt_of_le hp hb.size)
    rw [if_pos hp] at this
    unfold World.cell?
    rw [this]
    cases hm : m.heap[p.block]? with
    | none => simp
    | some o => simp
  have hhigh : ∀ b, w.heap.size ≤ b → b < w'.heap.size → (join m w' w.heap.size).heap[b]? = w'.heap[b]? := by
    intro b h1 h2
    rw [join_heap m w' w.heap.size b h2, if_neg (by omega)]
    simp [h2]
  refine ⟨join m w' w.heap.size, fun p v e => ?_, fun p v e => ?_, fun p u hp e => by rw [← hlow p hp]; exact e, hhigh⟩
  · rw [hlow p (World.block_lt_of_cell? w _ (hs p v e))]; exact e
  · by_cases hp : p.block < w.heap.size
    · rw [hlow p hp] at e
      exact sub_below hb p v (hs p v e)
    · have hlt := World.block_lt_of_cell? _ _ e
      have hsz : (join m w' w.heap.size).heap.size = w'.heap.size := by simp [join]
      rw [hsz] at hlt
      rw [World.cell?_of_block (w := w') (hhigh p.block (by omega) hlt)] at e
      exact e
end Sy
end Go.Proofs.Ytdpmfjbhadapiaa
namespace Go.Proofs.Ytdpmfjbhadapiaa
open Go.RowKit
set_option linter.unusedVariables false
set_option linter.unusedSimpArgs false
namespace Rg
theorem OwnRows.at {α : Type} {R : World → List Value → α → Prop} {c : Nat} {e : TypeId} {w : World} {base : Nat} {a : Option Addr} {cap : Nat} {l : List α} (h : OwnRows R c e w base a cap l) {i : Nat} (hi : i < l.length) :
    ∃ g cur row, a = some ⟨g, 0, none⟩ ∧ base ≤ g ∧ g < w.heap.size ∧ w.heap[g]? = some (.cells cur e (0, 0)) ∧ R w row l[i] ∧ ∀ j, j < c → cur[i * c + j]? = row[j]? := by
  obtain ⟨css, h1, a', cap', hv, hl, hn, hm, hx⟩ := h
  simp at hv
  obtain ⟨rfl, rfl⟩ := hv
  rcases hx with hx | ⟨g, cur, e1, e2, e3, e4, e5⟩
  · omega
  · have hic : i < css.length := by rw [h1.1]; exact hi
    refine ⟨g, cur, css[i], e1, e2, (Array.getElem?_eq_some_iff.1 e3).1, e3, (h1.2 i hic hi).2, fun j hj => ?_⟩
    have h3 := flat_get c css h1.len i j hic hj
    have hlt : i * c + j < l.length * c := by
      have := Nat.mul_le_mul_right c (show i + 1 ≤ l.length from hi)
      rw [Nat.add_mul] at this
      omega
    rw [← h3, ← e5, List.getElem?_take_of_lt hlt]
    simp
end Rg
end Go.Proofs.Ytdpmfjbhadapiaa
