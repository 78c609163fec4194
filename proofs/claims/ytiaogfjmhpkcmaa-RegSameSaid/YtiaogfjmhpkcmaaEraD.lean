/- Erasings and answers as data, and how they lie in memory. No condition. -/
import Derived.Test.YtiaogfjmhpkcmaaRegD
namespace Go.Proofs.Ytiaogfjmhpkcmaa
open Go.ChangeShapes Go.WideShapes Go.ChangeAt Go.RowKit Go.Deep
set_option linter.unusedVariables false
namespace Rg

structure BalD where
  c : Nat
  n : Nat
  l : Nat
deriving DecidableEq
def BalOk (b : BalD) : Prop := b.c < 18446744073709551616 ∧ b.n < 256 ∧ b.l < 4294967296
def balCs (b : BalD) : List Value := [.int .u64 (b.c : Int), .int .u8 (b.n : Int), .int .u32 (b.l : Int)]
structure EraD where
  key : Nat
  phase : Nat
  conf : Nat
  reg : RegD
  at_ : Int
  b : BalD
  visited : Nat
  erased : Nat
deriving DecidableEq
def eraCs (x : EraD) (p : RegA) : List Value :=
  [.int .u8 (x.key : Int), .int .u8 (x.phase : Int), .int .u64 (x.conf : Int),
   .int .u8 (x.reg.kind : Int), .int .u64 (x.reg.inc : Int), .int .i64 x.reg.state, .slice p.va x.reg.vars.length p.vc, .slice p.da x.reg.done.length p.dc, .slice p.oa x.reg.out.length p.oc, .int .u64 (x.reg.last : Int), .slice p.ma x.reg.marks.length p.mc,
   .int .i64 x.at_, .int .u64 (x.b.c : Int), .int .u8 (x.b.n : Int), .int .u32 (x.b.l : Int), .int .u64 (x.visited : Int), .int .u64 (x.erased : Int)]
structure EraAt (w : World) (x : EraD) (p : RegA) : Prop where
  key : U8 x.key
  phase : U8 x.phase
  conf : U64 x.conf
  reg : RegAt w x.reg p
  at_ : I64 x.at_
  b : BalOk x.b
  visited : U64 x.visited
  erased : U64 x.erased
theorem EraAt.mono {w w' : World} {x : EraD} {p : RegA} (h : EraAt w x p) (hb : Below w.heap.size w w') : EraAt w' x p :=
  ⟨h.key, h.phase, h.conf, h.reg.mono hb, h.at_, h.b, h.visited, h.erased⟩

structure OpD where
  kind : Nat
  key : Nat
  client : Nat
  seq : Nat
  action : Int
  party : Int
  arg : Int
  source : Nat
  inc : Nat
  cell : Nat
deriving DecidableEq
def opCs (o : OpD) : List Value := [.int .u8 (o.kind : Int), .int .u8 (o.key : Int), .int .u8 (o.client : Int), .int .u64 (o.seq : Int), .int .i64 o.action, .int .i64 o.party, .int .i64 o.arg, .int .u8 (o.source : Int), .int .u64 (o.inc : Int), .int .u64 (o.cell : Int)]
structure AnsD where
  id : Nat
  op : OpD
  rep : RepD
  reg : RegD
  b : BalD
deriving DecidableEq
def ansCs (x : AnsD) (pr : RepA) (p : RegA) : List Value :=
  [.int .u64 (x.id : Int), .int .u8 (x.op.kind : Int), .int .u8 (x.op.key : Int), .int .u8 (x.op.client : Int), .int .u64 (x.op.seq : Int), .int .i64 x.op.action, .int .i64 x.op.party, .int .i64 x.op.arg, .int .u8 (x.op.source : Int), .int .u64 (x.op.inc : Int), .int .u64 (x.op.cell : Int),
   .int .i64 x.rep.err, .int .u64 (x.rep.inc : Int), .int .i64 x.rep.state, .slice pr.a x.rep.vars.length pr.c,
   .int .u8 (x.reg.kind : Int), .int .u64 (x.reg.inc : Int), .int .i64 x.reg.state, .slice p.va x.reg.vars.length p.vc, .slice p.da x.reg.done.length p.dc, .slice p.oa x.reg.out.length p.oc, .int .u64 (x.reg.last : Int), .slice p.ma x.reg.marks.length p.mc,
   .int .u64 (x.b.c : Int), .int .u8 (x.b.n : Int), .int .u32 (x.b.l : Int)]
structure AnsAt (w : World) (x : AnsD) (pr : RepA) (p : RegA) : Prop where
  rep : RepAt w x.rep pr
  reg : RegAt w x.reg p
  b : BalOk x.b
theorem AnsAt.mono {w w' : World} {x : AnsD} {pr : RepA} {p : RegA} (h : AnsAt w x pr p) (hb : Below w.heap.size w w') : AnsAt w' x pr p := ⟨h.rep.mono hb, h.reg.mono hb, h.b⟩

def zeroReg : RegD := ⟨0, 0, 0, [], [], [], 0, []⟩
def zeroRegA : RegA := ⟨none, 0, none, 0, none, 0, none, 0⟩
def zeroEra : EraD := ⟨0, 0, 0, zeroReg, 0, ⟨0, 0, 0⟩, 0, 0⟩
theorem zeroReg_at (w : World) : RegAt w zeroReg zeroRegA := by
  refine ⟨by unfold U8; decide, by unfold U64; decide, by unfold I64; decide, by unfold U64; decide, Rows.nil _ _ _ _, Rows.nil _ _ _ _, Rows.nil _ _ _ _, Rows.nil _ _ _ _, ?_, ?_, ?_, ?_⟩ <;> (simp [zeroReg, zeroRegA])
theorem zeroEra_at (w : World) : EraAt w zeroEra zeroRegA := by
  refine ⟨by unfold U8; decide, by unfold U8; decide, by unfold U64; decide, zeroReg_at w, by unfold I64; decide, by unfold BalOk; decide, by unfold U64; decide, by unfold U64; decide⟩

section
variable {H : Type} {enc : TypeId × Value → H} {W : World} {spare : Nat → Bool} {b2 : Nat} {held : Bool}
theorem bal_open (fuel : Nat) (cs : List Value) (x : DataW H × List MemPlace) (h : DataW.trod enc Try.prog W b2 spare held fuel 36 cs = some x) : ∃ b : BalD, cs = balCs b ∧ BalOk b := by
  obtain ⟨hl, n, hg⟩ := struct_parts Try.underlying36 h
  obtain ⟨y0, h0⟩ := hg 0 22 0 1 rfl (by kernel_rfl)
  obtain ⟨y1, h1⟩ := hg 1 5 1 1 rfl (by kernel_rfl)
  obtain ⟨y2, h2⟩ := hg 2 34 2 1 rfl (by kernel_rfl)
  rw [show Try.prog.cellsOf 36 = 3 from by kernel_rfl] at hl
  match cs, hl with
  | [c0, c1, c2], _ =>
    obtain ⟨n0, e0, w0⟩ := int_cells Try.underlying22 h0
    obtain ⟨n1, e1, w1⟩ := int_cells Try.underlying5 h1
    obtain ⟨n2, e2, w2⟩ := int_cells Try.underlying34 h2
    simp at e0 e1 e2
    subst e0 e1 e2
    have b0 := bounds_u64 w0
    have b1 := bounds_u8 w1
    have b2 := bounds_u32 w2
    refine ⟨⟨n0.toNat, n1.toNat, n2.toNat⟩, ?_, by unfold BalOk; simp only; omega⟩
    unfold balCs
    simp only
    rw [show ((n0.toNat : Nat) : Int) = n0 from by omega, show ((n1.toNat : Nat) : Int) = n1 from by omega, show ((n2.toNat : Nat) : Int) = n2 from by omega]

theorem list17 {l : List Value} (h : l.length = 17) : ∃ c0 c1 c2 c3 c4 c5 c6 c7 c8 c9 c10 c11 c12 c13 c14 c15 c16, l = [c0, c1, c2, c3, c4, c5, c6, c7, c8, c9, c10, c11, c12, c13, c14, c15, c16] := by
  match l, h with
  | [c0, c1, c2, c3, c4, c5, c6, c7, c8, c9, c10, c11, c12, c13, c14, c15, c16], _ => exact ⟨_, _, _, _, _, _, _, _, _, _, _, _, _, _, _, _, _, rfl⟩
theorem list26 {l : List Value} (h : l.length = 26) : ∃ a b, a.length = 11 ∧ b.length = 15 ∧ l = a ++ b := ⟨l.take 11, l.drop 11, by simp [h], by simp [h], by simp⟩

theorem era_open (fuel : Nat) (cs : List Value) (x : DataW H × List MemPlace) (h : DataW.trod enc Try.prog W b2 spare held fuel 38 cs = some x) : ∃ (d : EraD) (p : RegA), cs = eraCs d p ∧ EraAt W d p := by
  obtain ⟨hl, n, hg⟩ := struct_parts Try.underlying38 h
  obtain ⟨y0, h0⟩ := hg 0 5 0 1 rfl (by kernel_rfl)
  obtain ⟨y1, h1⟩ := hg 1 5 1 1 rfl (by kernel_rfl)
  obtain ⟨y2, h2⟩ := hg 2 22 2 1 rfl (by kernel_rfl)
  obtain ⟨y3, h3⟩ := hg 3 28 3 8 rfl (by kernel_rfl)
  obtain ⟨y4, h4⟩ := hg 4 3 11 1 rfl (by kernel_rfl)
  obtain ⟨y5, h5⟩ := hg 5 36 12 3 rfl (by kernel_rfl)
  obtain ⟨y6, h6⟩ := hg 6 22 15 1 rfl (by kernel_rfl)
  obtain ⟨y7, h7⟩ := hg 7 22 16 1 rfl (by kernel_rfl)
  rw [show Try.prog.cellsOf 38 = 17 from by kernel_rfl] at hl
  obtain ⟨c0, c1, c2, c3, c4, c5, c6, c7, c8, c9, c10, c11, c12, c13, c14, c15, c16, rfl⟩ := list17 hl
  obtain ⟨n0, e0, w0⟩ := int_cells Try.underlying5 h0
  obtain ⟨n1, e1, w1⟩ := int_cells Try.underlying5 h1
  obtain ⟨n2, e2, w2⟩ := int_cells Try.underlying22 h2
  obtain ⟨r, p, e3, q3⟩ := reg_open _ _ _ h3
  obtain ⟨n4, e4, w4⟩ := int_cells Try.underlying3 h4
  obtain ⟨b, e5, q5⟩ := bal_open _ _ _ h5
  obtain ⟨n6, e6, w6⟩ := int_cells Try.underlying22 h6
  obtain ⟨n7, e7, w7⟩ := int_cells Try.underlying22 h7
  simp [regCs, balCs] at e0 e1 e2 e3 e4 e5 e6 e7
  obtain ⟨rfl, rfl, rfl, rfl, rfl, rfl, rfl, rfl⟩ := e3
  obtain ⟨rfl, rfl, rfl⟩ := e5
  subst e0 e1 e2 e4 e6 e7
  have b0 := bounds_u8 w0
  have b1 := bounds_u8 w1
  have b2 := bounds_u64 w2
  have b4 := bounds_i64 w4
  have b6 := bounds_u64 w6
  have b7 := bounds_u64 w7
  refine ⟨⟨n0.toNat, n1.toNat, n2.toNat, r, n4, b, n6.toNat, n7.toNat⟩, p, ?_, ⟨by unfold U8; simp only; omega, by unfold U8; simp only; omega, by unfold U64; simp only; omega, q3, by unfold I64; simp only; omega, q5, by unfold U64; simp only; omega, by unfold U64; simp only; omega⟩⟩
  unfold eraCs
  simp only
  rw [show ((n0.toNat : Nat) : Int) = n0 from by omega, show ((n1.toNat : Nat) : Int) = n1 from by omega, show ((n2.toNat : Nat) : Int) = n2 from by omega, show ((n6.toNat : Nat) : Int) = n6 from by omega, show ((n7.toNat : Nat) : Int) = n7 from by omega]
end
end Rg
end Go.Proofs.Ytiaogfjmhpkcmaa
