/- Registers and replies as data, and how they lie in memory. No condition. -/
import Derived.Test.YtdpmfjbhadapiaaLists
import Derived.Test.YtdpmfjbhadapiaaSeat
namespace Go.Proofs.Ytdpmfjbhadapiaa
open Go.ChangeShapes Go.WideShapes Go.ChangeAt Go.RowKit Go.Deep
set_option linter.unusedVariables false
namespace Rg

structure RepD where
  err : Int
  inc : Nat
  state : Int
  vars : List Int
deriving DecidableEq
structure DoneD where
  client : Nat
  seq : Nat
  rep : RepD
deriving DecidableEq
structure CellD where
  n : Nat
  target : Nat
  action : Int
  arg : Int
deriving DecidableEq
structure MarkD where
  source : Nat
  inc : Nat
  cell : Nat
deriving DecidableEq
structure RegD where
  kind : Nat
  inc : Nat
  state : Int
  vars : List Int
  done : List DoneD
  out : List CellD
  last : Nat
  marks : List MarkD
deriving DecidableEq

def I64 (x : Int) : Prop := -9223372036854775808 ≤ x ∧ x ≤ 9223372036854775807
def U64 (x : Nat) : Prop := x < 18446744073709551616
def U8 (x : Nat) : Prop := x < 256

/-- where a reply's list lies -/
structure RepA where
  a : Option Addr
  c : Nat
def repCs (r : RepD) (p : RepA) : List Value := [.int .i64 r.err, .int .u64 (r.inc : Int), .int .i64 r.state, .slice p.a r.vars.length p.c]
def RepAt (w : World) (r : RepD) (p : RepA) : Prop := I64 r.err ∧ U64 r.inc ∧ I64 r.state ∧ Nums w p.a r.vars ∧ r.vars.length ≤ p.c ∧ p.c ≤ maxLen
def RepR (w : World) (cs : List Value) (r : RepD) : Prop := ∃ p, cs = repCs r p ∧ RepAt w r p
theorem RepAt.mono {w w' : World} {r : RepD} {p : RepA} (h : RepAt w r p) (hb : Below w.heap.size w w') : RepAt w' r p := ⟨h.1, h.2.1, h.2.2.1, h.2.2.2.1.mono hb, h.2.2.2.2⟩
theorem RepR.mono {w w' : World} {cs : List Value} {r : RepD} (h : RepR w cs r) (hb : Below w.heap.size w w') : RepR w' cs r := let ⟨p, h1, h2⟩ := h; ⟨p, h1, h2.mono hb⟩

def DoneR (w : World) (cs : List Value) (d : DoneD) : Prop := ∃ p, cs = .int .u8 (d.client : Int) :: .int .u64 (d.seq : Int) :: repCs d.rep p ∧ U8 d.client ∧ U64 d.seq ∧ RepAt w d.rep p
theorem DoneR.mono {w w' : World} {cs : List Value} {d : DoneD} (h : DoneR w cs d) (hb : Below w.heap.size w w') : DoneR w' cs d := let ⟨p, h1, h2, h3, h4⟩ := h; ⟨p, h1, h2, h3, h4.mono hb⟩
def CellR (_ : World) (cs : List Value) (c : CellD) : Prop := cs = [.int .u64 (c.n : Int), .int .u8 (c.target : Int), .int .i64 c.action, .int .i64 c.arg] ∧ U64 c.n ∧ U8 c.target ∧ I64 c.action ∧ I64 c.arg
def MarkR (_ : World) (cs : List Value) (m : MarkD) : Prop := cs = [.int .u8 (m.source : Int), .int .u64 (m.inc : Int), .int .u64 (m.cell : Int)] ∧ U8 m.source ∧ U64 m.inc ∧ U64 m.cell

def Dones (w : World) (a : Option Addr) (l : List DoneD) : Prop := Rows DoneR 6 w a l
def Cels (w : World) (a : Option Addr) (l : List CellD) : Prop := Rows CellR 4 w a l
def Marks (w : World) (a : Option Addr) (l : List MarkD) : Prop := Rows MarkR 3 w a l
theorem Dones.mono {w w' : World} {a : Option Addr} {l : List DoneD} (h : Dones w a l) (hb : Below w.heap.size w w') : Dones w' a l := Rows.mono (fun _ _ h => h.mono hb) hb h
theorem Cels.mono {w w' : World} {a : Option Addr} {l : List CellD} (h : Cels w a l) (hb : Below w.heap.size w w') : Cels w' a l := Rows.mono (w := w) (w' := w') (R := CellR) (fun _ _ h => h) hb h
theorem Marks.mono {w w' : World} {a : Option Addr} {l : List MarkD} (h : Marks w a l) (hb : Below w.heap.size w w') : Marks w' a l := Rows.mono (w := w) (w' := w') (R := MarkR) (fun _ _ h => h) hb h

/-- where a register's lists lie -/
structure RegA where
  va : Option Addr
  vc : Nat
  da : Option Addr
  dc : Nat
  oa : Option Addr
  oc : Nat
  ma : Option Addr
  mc : Nat
def regCs (r : RegD) (p : RegA) : List Value :=
  [.int .u8 (r.kind : Int), .int .u64 (r.inc : Int), .int .i64 r.state, .slice p.va r.vars.length p.vc, .slice p.da r.done.length p.dc, .slice p.oa r.out.length p.oc, .int .u64 (r.last : Int), .slice p.ma r.marks.length p.mc]
structure RegAt (w : World) (r : RegD) (p : RegA) : Prop where
  kind : U8 r.kind
  inc : U64 r.inc
  state : I64 r.state
  last : U64 r.last
  vars : Nums w p.va r.vars
  done : Dones w p.da r.done
  out : Cels w p.oa r.out
  marks : Marks w p.ma r.marks
  cv : r.vars.length ≤ p.vc ∧ p.vc ≤ maxLen
  cd : r.done.length ≤ p.dc ∧ p.dc ≤ maxLen
  co : r.out.length ≤ p.oc ∧ p.oc ≤ maxLen
  cm : r.marks.length ≤ p.mc ∧ p.mc ≤ maxLen
theorem RegAt.mono {w w' : World} {r : RegD} {p : RegA} (h : RegAt w r p) (hb : Below w.heap.size w w') : RegAt w' r p :=
  ⟨h.kind, h.inc, h.state, h.last, h.vars.mono hb, h.done.mono hb, h.out.mono hb, h.marks.mono hb, h.cv, h.cd, h.co, h.cm⟩
def RegR (w : World) (cs : List Value) (r : RegD) : Prop := ∃ p, cs = regCs r p ∧ RegAt w r p

section
variable {H : Type} {enc : TypeId × Value → H} {W : World} {spare : Nat → Bool} {b2 : Nat} {held : Bool}

theorem nums_open (fuel : Nat) (cs : List Value) (x : DataW H × List MemPlace) (h : DataW.trod enc Try.prog W b2 spare held fuel 25 cs = some x) :
    ∃ (a : Option Addr) (cap : Nat) (l : List Int), cs = [.slice a l.length cap] ∧ l.length ≤ cap ∧ cap ≤ maxLen ∧ Nums W a l :=
  rows_open 1 (by omega) (by kernel_rfl) Try.underlying25 (fun fuel cs x h => by
    obtain ⟨n, rfl, hw⟩ := int_cells Try.underlying2 h
    have := bounds_i64 hw
    exact ⟨n, rfl, by omega, by omega⟩) fuel cs x h

theorem rep_open (fuel : Nat) (cs : List Value) (x : DataW H × List MemPlace) (h : DataW.trod enc Try.prog W b2 spare held fuel 57 cs = some x) : ∃ r : RepD, RepR W cs r := by
  obtain ⟨hl, n, hg⟩ := struct_parts Try.underlying57 h
  obtain ⟨y0, h0⟩ := hg 0 29 0 1 rfl (by kernel_rfl)
  obtain ⟨y1, h1⟩ := hg 1 45 1 1 rfl (by kernel_rfl)
  obtain ⟨y2, h2⟩ := hg 2 3 2 1 rfl (by kernel_rfl)
  obtain ⟨y3, h3⟩ := hg 3 25 3 1 rfl (by kernel_rfl)
  rw [show Try.prog.cellsOf 57 = 4 from by kernel_rfl] at hl
  match cs, hl with
  | [c0, c1, c2, c3], _ =>
    obtain ⟨n0, e0, w0⟩ := int_cells Try.underlying29 h0
    obtain ⟨n1, e1, w1⟩ := int_cells Try.underlying45 h1
    obtain ⟨n2, e2, w2⟩ := int_cells Try.underlying3 h2
    obtain ⟨a, cap, l, e3, q1, q2, q3⟩ := nums_open _ _ _ h3
    simp at e0 e1 e2 e3
    subst e0 e1 e2 e3
    have b0 := bounds_i64 w0
    have b1 := bounds_u64 w1
    have b2 := bounds_i64 w2
    refine ⟨⟨n0, n1.toNat, n2, l⟩, ⟨a, cap⟩, ?_, (by unfold I64; simp only; omega), by unfold U64; simp only; omega, (by unfold I64; simp only; omega), q3, q1, q2⟩
    unfold repCs
    simp only
    rw [show ((n1.toNat : Nat) : Int) = n1 from by omega]

theorem done_open (fuel : Nat) (cs : List Value) (x : DataW H × List MemPlace) (h : DataW.trod enc Try.prog W b2 spare held fuel 96 cs = some x) : ∃ d : DoneD, DoneR W cs d := by
  obtain ⟨hl, n, hg⟩ := struct_parts Try.underlying96 h
  obtain ⟨y0, h0⟩ := hg 0 5 0 1 rfl (by kernel_rfl)
  obtain ⟨y1, h1⟩ := hg 1 45 1 1 rfl (by kernel_rfl)
  obtain ⟨y2, h2⟩ := hg 2 57 2 4 rfl (by kernel_rfl)
  rw [show Try.prog.cellsOf 96 = 6 from by kernel_rfl] at hl
  match cs, hl with
  | [c0, c1, c2, c3, c4, c5], _ =>
    obtain ⟨n0, e0, w0⟩ := int_cells Try.underlying5 h0
    obtain ⟨n1, e1, w1⟩ := int_cells Try.underlying45 h1
    obtain ⟨r, p, e2, q⟩ := rep_open _ _ _ h2
    simp at e0 e1
    subst e0 e1
    have b0 := bounds_u8 w0
    have b1 := bounds_u64 w1
    refine ⟨⟨n0.toNat, n1.toNat, r⟩, p, ?_, by unfold U8; simp only; omega, by unfold U64; simp only; omega, q⟩
    simp only
    rw [show ((n0.toNat : Nat) : Int) = n0 from by omega, show ((n1.toNat : Nat) : Int) = n1 from by omega, ← e2]
    rfl

theorem cell_open (fuel : Nat) (cs : List Value) (x : DataW H × List MemPlace) (h : DataW.trod enc Try.prog W b2 spare held fuel 47 cs = some x) : ∃ d : CellD, CellR W cs d := by
  obtain ⟨hl, n, hg⟩ := struct_parts Try.underlying47 h
  obtain ⟨y0, h0⟩ := hg 0 45 0 1 rfl (by kernel_rfl)
  obtain ⟨y1, h1⟩ := hg 1 5 1 1 rfl (by kernel_rfl)
  obtain ⟨y2, h2⟩ := hg 2 3 2 1 rfl (by kernel_rfl)
  obtain ⟨y3, h3⟩ := hg 3 2 3 1 rfl (by kernel_rfl)
  rw [show Try.prog.cellsOf 47 = 4 from by kernel_rfl] at hl
  match cs, hl with
  | [c0, c1, c2, c3], _ =>
    obtain ⟨n0, e0, w0⟩ := int_cells Try.underlying45 h0
    obtain ⟨n1, e1, w1⟩ := int_cells Try.underlying5 h1
    obtain ⟨n2, e2, w2⟩ := int_cells Try.underlying3 h2
    obtain ⟨n3, e3, w3⟩ := int_cells Try.underlying2 h3
    simp at e0 e1 e2 e3
    subst e0 e1 e2 e3
    have b0 := bounds_u64 w0
    have b1 := bounds_u8 w1
    have b2 := bounds_i64 w2
    have b3 := bounds_i64 w3
    refine ⟨⟨n0.toNat, n1.toNat, n2, n3⟩, ?_, by unfold U64; simp only; omega, by unfold U8; simp only; omega, (by unfold I64; simp only; omega), (by unfold I64; simp only; omega)⟩
    simp only
    rw [show ((n0.toNat : Nat) : Int) = n0 from by omega, show ((n1.toNat : Nat) : Int) = n1 from by omega]

theorem mark_open (fuel : Nat) (cs : List Value) (x : DataW H × List MemPlace) (h : DataW.trod enc Try.prog W b2 spare held fuel 69 cs = some x) : ∃ d : MarkD, MarkR W cs d := by
  obtain ⟨hl, n, hg⟩ := struct_parts Try.underlying69 h
  obtain ⟨y0, h0⟩ := hg 0 5 0 1 rfl (by kernel_rfl)
  obtain ⟨y1, h1⟩ := hg 1 45 1 1 rfl (by kernel_rfl)
  obtain ⟨y2, h2⟩ := hg 2 45 2 1 rfl (by kernel_rfl)
  rw [show Try.prog.cellsOf 69 = 3 from by kernel_rfl] at hl
  match cs, hl with
  | [c0, c1, c2], _ =>
    obtain ⟨n0, e0, w0⟩ := int_cells Try.underlying5 h0
    obtain ⟨n1, e1, w1⟩ := int_cells Try.underlying45 h1
    obtain ⟨n2, e2, w2⟩ := int_cells Try.underlying45 h2
    simp at e0 e1 e2
    subst e0 e1 e2
    have b0 := bounds_u8 w0
    have b1 := bounds_u64 w1
    have b2 := bounds_u64 w2
    refine ⟨⟨n0.toNat, n1.toNat, n2.toNat⟩, ?_, by unfold U8; simp only; omega, by unfold U64; simp only; omega, by unfold U64; simp only; omega⟩
    simp only
    rw [show ((n0.toNat : Nat) : Int) = n0 from by omega, show ((n1.toNat : Nat) : Int) = n1 from by omega, show ((n2.toNat : Nat) : Int) = n2 from by omega]

theorem dones_open (fuel : Nat) (cs : List Value) (x : DataW H × List MemPlace) (h : DataW.trod enc Try.prog W b2 spare held fuel 48 cs = some x) :
    ∃ (a : Option Addr) (cap : Nat) (l : List DoneD), cs = [.slice a l.length cap] ∧ l.length ≤ cap ∧ cap ≤ maxLen ∧ Dones W a l :=
  rows_open 6 (by omega) (by kernel_rfl) Try.underlying48 done_open fuel cs x h
theorem cels_open (fuel : Nat) (cs : List Value) (x : DataW H × List MemPlace) (h : DataW.trod enc Try.prog W b2 spare held fuel 28 cs = some x) :
    ∃ (a : Option Addr) (cap : Nat) (l : List CellD), cs = [.slice a l.length cap] ∧ l.length ≤ cap ∧ cap ≤ maxLen ∧ Cels W a l :=
  rows_open 4 (by omega) (by kernel_rfl) Try.underlying28 cell_open fuel cs x h
theorem marks_open (fuel : Nat) (cs : List Value) (x : DataW H × List MemPlace) (h : DataW.trod enc Try.prog W b2 spare held fuel 49 cs = some x) :
    ∃ (a : Option Addr) (cap : Nat) (l : List MarkD), cs = [.slice a l.length cap] ∧ l.length ≤ cap ∧ cap ≤ maxLen ∧ Marks W a l :=
  rows_open 3 (by omega) (by kernel_rfl) Try.underlying49 mark_open fuel cs x h

theorem reg_open (fuel : Nat) (cs : List Value) (x : DataW H × List MemPlace) (h : DataW.trod enc Try.prog W b2 spare held fuel 51 cs = some x) : ∃ r : RegD, RegR W cs r := by
  obtain ⟨hl, n, hg⟩ := struct_parts Try.underlying51 h
  obtain ⟨y0, h0⟩ := hg 0 5 0 1 rfl (by kernel_rfl)
  obtain ⟨y1, h1⟩ := hg 1 45 1 1 rfl (by kernel_rfl)
  obtain ⟨y2, h2⟩ := hg 2 3 2 1 rfl (by kernel_rfl)
  obtain ⟨y3, h3⟩ := hg 3 25 3 1 rfl (by kernel_rfl)
  obtain ⟨y4, h4⟩ := hg 4 48 4 1 rfl (by kernel_rfl)
  obtain ⟨y5, h5⟩ := hg 5 28 5 1 rfl (by kernel_rfl)
  obtain ⟨y6, h6⟩ := hg 6 45 6 1 rfl (by kernel_rfl)
  obtain ⟨y7, h7⟩ := hg 7 49 7 1 rfl (by kernel_rfl)
  rw [show Try.prog.cellsOf 51 = 8 from by kernel_rfl] at hl
  match cs, hl with
  | [c0, c1, c2, c3, c4, c5, c6, c7], _ =>
    obtain ⟨n0, e0, w0⟩ := int_cells Try.underlying5 h0
    obtain ⟨n1, e1, w1⟩ := int_cells Try.underlying45 h1
    obtain ⟨n2, e2, w2⟩ := int_cells Try.underlying3 h2
    obtain ⟨a3, k3, l3, e3, q3, r3, s3⟩ := nums_open _ _ _ h3
    obtain ⟨a4, k4, l4, e4, q4, r4, s4⟩ := dones_open _ _ _ h4
    obtain ⟨a5, k5, l5, e5, q5, r5, s5⟩ := cels_open _ _ _ h5
    obtain ⟨n6, e6, w6⟩ := int_cells Try.underlying45 h6
    obtain ⟨a7, k7, l7, e7, q7, r7, s7⟩ := marks_open _ _ _ h7
    simp at e0 e1 e2 e3 e4 e5 e6 e7
    subst e0 e1 e2 e3 e4 e5 e6 e7
    have b0 := bounds_u8 w0
    have b1 := bounds_u64 w1
    have b2 := bounds_i64 w2
    have b6 := bounds_u64 w6
    refine ⟨⟨n0.toNat, n1.toNat, n2, l3, l4, l5, n6.toNat, l7⟩, ⟨a3, k3, a4, k4, a5, k5, a7, k7⟩, ?_, ⟨by unfold U8; simp only; omega, by unfold U64; simp only; omega, (by unfold I64; simp only; omega), by unfold U64; simp only; omega, s3, s4, s5, s7, ⟨q3, r3⟩, ⟨q4, r4⟩, ⟨q5, r5⟩, ⟨q7, r7⟩⟩⟩
    unfold regCs
    simp only
    rw [show ((n0.toNat : Nat) : Int) = n0 from by omega, show ((n1.toNat : Nat) : Int) = n1 from by omega, show ((n6.toNat : Nat) : Int) = n6 from by omega]
end
end Rg
end Go.Proofs.Ytdpmfjbhadapiaa
