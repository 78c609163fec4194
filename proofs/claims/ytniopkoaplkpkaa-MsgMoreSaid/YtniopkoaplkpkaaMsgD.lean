/- Ballots and messages as data, how they lie in memory, and as arguments. No condition. -/
import Derived.Test.YtniopkoaplkpkaaRegD
import Derived.Test.YtniopkoaplkpkaaRowS
namespace Go.Proofs.Ytniopkoaplkpkaa
open Go.ChangeShapes Go.WideShapes Go.ChangeAt Go.RowKit Go.Deep
set_option linter.unusedVariables false
namespace Ms
open Rg (I64 U8 U64 RegD RegA RegAt regCs reg_open zeroReg zeroRegA zeroReg_at)
open Sy (Sub)
structure BalD where
  c : Nat
  n : Nat
  l : Nat
deriving DecidableEq
def balCs (b : BalD) : List Value := [.int .u64 (b.c : Int), .int .u8 (b.n : Int), .int .u32 (b.l : Int)]
def BalOk (b : BalD) : Prop := b.c < 18446744073709551616 ∧ b.n < 256 ∧ b.l < 4294967296
def zeroBal : BalD := ⟨0, 0, 0⟩
structure MsgD where
  kind : Nat
  src : Nat
  dst : Nat
  key : Nat
  conf : Nat
  b : BalD
  ok : Bool
  acc : BalD
  reg : RegD
  next : BalD
  max : Nat
deriving DecidableEq
def msgCs (m : MsgD) (p : RegA) : List Value :=
  [.int .u8 (m.kind : Int), .int .u8 (m.src : Int), .int .u8 (m.dst : Int), .int .u8 (m.key : Int), .int .u64 (m.conf : Int), .int .u64 (m.b.c : Int), .int .u8 (m.b.n : Int), .int .u32 (m.b.l : Int), .bool m.ok,
   .int .u64 (m.acc.c : Int), .int .u8 (m.acc.n : Int), .int .u32 (m.acc.l : Int),
   .int .u8 (m.reg.kind : Int), .int .u64 (m.reg.inc : Int), .int .i64 m.reg.state, .slice p.va m.reg.vars.length p.vc, .slice p.da m.reg.done.length p.dc, .slice p.oa m.reg.out.length p.oc, .int .u64 (m.reg.last : Int), .slice p.ma m.reg.marks.length p.mc,
   .int .u64 (m.next.c : Int), .int .u8 (m.next.n : Int), .int .u32 (m.next.l : Int), .int .u64 (m.max : Int)]
structure MsgAt (w : World) (m : MsgD) (p : RegA) : Prop where
  kind : U8 m.kind
  src : U8 m.src
  dst : U8 m.dst
  key : U8 m.key
  conf : U64 m.conf
  b : BalOk m.b
  acc : BalOk m.acc
  reg : RegAt w m.reg p
  next : BalOk m.next
  max : U64 m.max
theorem MsgAt.sub {w w' : World} {m : MsgD} {p : RegA} (h : MsgAt w m p) (hs : Sub w w') : MsgAt w' m p := ⟨h.kind, h.src, h.dst, h.key, h.conf, h.b, h.acc, h.reg.sub hs, h.next, h.max⟩
def zeroMsg : MsgD := ⟨0, 0, 0, 0, 0, zeroBal, false, zeroBal, zeroReg, zeroBal, 0⟩
theorem zeroMsg_at (w : World) : MsgAt w zeroMsg zeroRegA := by
  refine ⟨by unfold U8; decide, by unfold U8; decide, by unfold U8; decide, by unfold U8; decide, by unfold U64; decide, by unfold BalOk; decide, by unfold BalOk; decide, zeroReg_at w, by unfold BalOk; decide, by unfold U64; decide⟩
section
variable {H : Type} {enc : TypeId × Value → H} {W : World} {spare : Nat → Bool} {b2 : Nat} {held : Bool}
theorem bal_open (fuel : Nat) (cs : List Value) (x : DataW H × List MemPlace) (h : DataW.trod enc Try.prog W b2 spare held fuel 53 cs = some x) : ∃ b : BalD, cs = balCs b ∧ BalOk b := by
  obtain ⟨hl, n, hg⟩ := struct_parts Try.underlying53 h
  obtain ⟨y0, h0⟩ := hg 0 36 0 1 rfl (by kernel_rfl)
  obtain ⟨y1, h1⟩ := hg 1 5 1 1 rfl (by kernel_rfl)
  obtain ⟨y2, h2⟩ := hg 2 51 2 1 rfl (by kernel_rfl)
  rw [show Try.prog.cellsOf 53 = 3 from by kernel_rfl] at hl
  match cs, hl with
  | [c0, c1, c2], _ =>
    obtain ⟨n0, e0, w0⟩ := int_cells Try.underlying36 h0
    obtain ⟨n1, e1, w1⟩ := int_cells Try.underlying5 h1
    obtain ⟨n2, e2, w2⟩ := int_cells Try.underlying51 h2
    simp at e0 e1 e2
    subst e0 e1 e2
    have b0 := bounds_u64 w0
    have b1 := bounds_u8 w1
    have b2 := bounds_u32 w2
    refine ⟨⟨n0.toNat, n1.toNat, n2.toNat⟩, ?_, by unfold BalOk; simp only; omega⟩
    unfold balCs
    simp only
    rw [show ((n0.toNat : Nat) : Int) = n0 from by omega, show ((n1.toNat : Nat) : Int) = n1 from by omega, show ((n2.toNat : Nat) : Int) = n2 from by omega]
theorem list24 {l : List Value} (h : l.length = 24) : ∃ c0 c1 c2 c3 c4 c5 c6 c7 c8 c9 c10 c11 c12 c13 c14 c15 c16 c17 c18 c19 c20 c21 c22 c23, l = [c0, c1, c2, c3, c4, c5, c6, c7, c8, c9, c10, c11, c12, c13, c14, c15, c16, c17, c18, c19, c20, c21, c22, c23] := by
  match l, h with
  | [c0, c1, c2, c3, c4, c5, c6, c7, c8, c9, c10, c11, c12, c13, c14, c15, c16, c17, c18, c19, c20, c21, c22, c23], _ => exact ⟨_, _, _, _, _, _, _, _, _, _, _, _, _, _, _, _, _, _, _, _, _, _, _, _, rfl⟩
theorem msg_open (fuel : Nat) (cs : List Value) (x : DataW H × List MemPlace) (h : DataW.trod enc Try.prog W b2 spare held fuel 55 cs = some x) : ∃ (m : MsgD) (p : RegA), cs = msgCs m p ∧ MsgAt W m p := by
  obtain ⟨hl, n, hg⟩ := struct_parts Try.underlying55 h
  obtain ⟨y0, h0⟩ := hg 0 5 0 1 rfl (by kernel_rfl)
  obtain ⟨y1, h1⟩ := hg 1 5 1 1 rfl (by kernel_rfl)
  obtain ⟨y2, h2⟩ := hg 2 5 2 1 rfl (by kernel_rfl)
  obtain ⟨y3, h3⟩ := hg 3 5 3 1 rfl (by kernel_rfl)
  obtain ⟨y4, h4⟩ := hg 4 36 4 1 rfl (by kernel_rfl)
  obtain ⟨y5, h5⟩ := hg 5 53 5 3 rfl (by kernel_rfl)
  obtain ⟨y6, h6⟩ := hg 6 4 8 1 rfl (by kernel_rfl)
  obtain ⟨y7, h7⟩ := hg 7 53 9 3 rfl (by kernel_rfl)
  obtain ⟨y8, h8⟩ := hg 8 42 12 8 rfl (by kernel_rfl)
  obtain ⟨y9, h9⟩ := hg 9 53 20 3 rfl (by kernel_rfl)
  obtain ⟨y10, h10⟩ := hg 10 36 23 1 rfl (by kernel_rfl)
  rw [show Try.prog.cellsOf 55 = 24 from by kernel_rfl] at hl
  obtain ⟨c0, c1, c2, c3, c4, c5, c6, c7, c8, c9, c10, c11, c12, c13, c14, c15, c16, c17, c18, c19, c20, c21, c22, c23, rfl⟩ := list24 hl
  obtain ⟨n0, e0, w0⟩ := int_cells Try.underlying5 h0
  obtain ⟨n1, e1, w1⟩ := int_cells Try.underlying5 h1
  obtain ⟨n2, e2, w2⟩ := int_cells Try.underlying5 h2
  obtain ⟨n3, e3, w3⟩ := int_cells Try.underlying5 h3
  obtain ⟨n4, e4, w4⟩ := int_cells Try.underlying36 h4
  obtain ⟨b, e5, q5⟩ := bal_open _ _ _ h5
  obtain ⟨ok, e6⟩ := bool_cells Try.underlying4 h6
  obtain ⟨acc, e7, q7⟩ := bal_open _ _ _ h7
  obtain ⟨r, p, e8, q8⟩ := reg_open _ _ _ h8
  obtain ⟨next, e9, q9⟩ := bal_open _ _ _ h9
  obtain ⟨n10, e10, w10⟩ := int_cells Try.underlying36 h10
  simp [regCs, balCs] at e0 e1 e2 e3 e4 e5 e6 e7 e8 e9 e10
  obtain ⟨rfl, rfl, rfl⟩ := e5
  obtain ⟨rfl, rfl, rfl⟩ := e7
  obtain ⟨rfl, rfl, rfl, rfl, rfl, rfl, rfl, rfl⟩ := e8
  obtain ⟨rfl, rfl, rfl⟩ := e9
  subst e0 e1 e2 e3 e4 e6 e10
  have b0 := bounds_u8 w0
  have b1 := bounds_u8 w1
  have b2 := bounds_u8 w2
  have b3 := bounds_u8 w3
  have b4 := bounds_u64 w4
  have b10 := bounds_u64 w10
  refine ⟨⟨n0.toNat, n1.toNat, n2.toNat, n3.toNat, n4.toNat, b, ok, acc, r, next, n10.toNat⟩, p, ?_, ⟨by unfold U8; simp only; omega, by unfold U8; simp only; omega, by unfold U8; simp only; omega, by unfold U8; simp only; omega, by unfold U64; simp only; omega, q5, q7, q8, q9, by unfold U64; simp only; omega⟩⟩
  unfold msgCs
  simp only
  rw [show ((n0.toNat : Nat) : Int) = n0 from by omega, show ((n1.toNat : Nat) : Int) = n1 from by omega, show ((n2.toNat : Nat) : Int) = n2 from by omega, show ((n3.toNat : Nat) : Int) = n3 from by omega, show ((n4.toNat : Nat) : Int) = n4 from by omega, show ((n10.toNat : Nat) : Int) = n10 from by omega]
set_option maxRecDepth 100000 in
theorem msg_arg {v : Value} {d : DataW H} {ps : List MemPlace} {base : Nat} (hval : Value.okWide Try.prog W .any base 55 v) (h : DataW.Trod enc Try.prog W b2 spare held 55 v d ps) :
    ∃ (m : MsgD) (p : RegA), v = .agg (msgCs m p).toArray ∧ MsgAt W m p := by
  obtain ⟨cs, rfl, hsz⟩ := okWide_struct Try.underlying55 hval
  obtain ⟨fuel, hf⟩ := h
  obtain ⟨r, p, e, h'⟩ := msg_open _ _ _ hf
  simp [Value.cells] at e
  exact ⟨r, p, by rw [← e], h'⟩
end
/-- two ballots, as the program compares them -/
theorem balCmp (x y : BalD) : Sy.EqAgg Try.prog .eql 53 [.int .u64 (x.c : Int), .int .u8 (x.n : Int), .int .u32 (x.l : Int)] [.int .u64 (y.c : Int), .int .u8 (y.n : Int), .int .u32 (y.l : Int)] (decide (x = y)) := by
  refine (Sy.eqAgg_flat Try.underlying53 (by kernel_rfl) ?_ ?_).1
  · intro f hf
    simp at hf
    rcases hf with rfl | rfl | rfl <;> exact ⟨_, _, _, rfl, rfl⟩
  · obtain ⟨a1, a2, a3⟩ := x
    obtain ⟨b1, b2, b3⟩ := y
    show (((a1 : Int) == (b1 : Int)) && (((a2 : Int) == (b2 : Int)) && (((a3 : Int) == (b3 : Int)) && true))) = _
    rw [Bool.eq_iff_iff]
    simp only [Bool.and_eq_true, beq_iff_eq, decide_eq_true_eq, BalD.mk.injEq, Bool.and_true]
    omega
end Ms
end Go.Proofs.Ytniopkoaplkpkaa
