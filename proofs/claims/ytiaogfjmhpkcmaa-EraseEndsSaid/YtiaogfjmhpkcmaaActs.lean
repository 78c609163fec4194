/- Acts as data, how they lie in memory, and a list of them as an argument. No condition. -/
import Derived.Test.YtiaogfjmhpkcmaaEraO
import Derived.Test.YtiaogfjmhpkcmaaVisit
import Derived.Test.YtiaogfjmhpkcmaaSyL
namespace Go.Proofs.Ytiaogfjmhpkcmaa
open Go.ChangeShapes Go.WideShapes Go.ChangeAt Go.RowKit Go.Deep
set_option linter.unusedVariables false
namespace Rg
open Sy (RetV RetM Sub)
structure ActD where
  kind : Int
  a : AnsD
  node : Nat
  set : Nat
def actCs (x : ActD) (pr : RepA) (p : RegA) : List Value :=
  [.int .i64 x.kind, .int .u64 (x.a.id : Int), .int .u8 (x.a.op.kind : Int), .int .u8 (x.a.op.key : Int), .int .u8 (x.a.op.client : Int), .int .u64 (x.a.op.seq : Int), .int .i64 x.a.op.action, .int .i64 x.a.op.party, .int .i64 x.a.op.arg, .int .u8 (x.a.op.source : Int), .int .u64 (x.a.op.inc : Int), .int .u64 (x.a.op.cell : Int),
   .int .i64 x.a.rep.err, .int .u64 (x.a.rep.inc : Int), .int .i64 x.a.rep.state, .slice pr.a x.a.rep.vars.length pr.c,
   .int .u8 (x.a.reg.kind : Int), .int .u64 (x.a.reg.inc : Int), .int .i64 x.a.reg.state, .slice p.va x.a.reg.vars.length p.vc, .slice p.da x.a.reg.done.length p.dc, .slice p.oa x.a.reg.out.length p.oc, .int .u64 (x.a.reg.last : Int), .slice p.ma x.a.reg.marks.length p.mc,
   .int .u64 (x.a.b.c : Int), .int .u8 (x.a.b.n : Int), .int .u32 (x.a.b.l : Int), .int .u8 (x.node : Int), .int .u64 (x.set : Int)]
def ActAt (m : World) (x : ActD) (pr : RepA) (p : RegA) : Prop := AnsAt m x.a pr p ∧ U8 x.node ∧ U64 x.set
def ActR (m : World) (cs : List Value) (x : ActD) : Prop := ∃ pr p, cs = actCs x pr p ∧ ActAt m x pr p
theorem ActR.sub {m m' : World} {cs : List Value} {x : ActD} (h : ActR m cs x) (hs : Sub m m') : ActR m' cs x := let ⟨pr, p, h1, h2, h3⟩ := h; ⟨pr, p, h1, h2.sub hs, h3⟩
def Acts (m : World) (a : Option Addr) (l : List ActD) : Prop := Rows ActR 29 m a l
theorem Acts.sub {m m' : World} {a : Option Addr} {l : List ActD} (h : Acts m a l) (hs : Sub m m') : Acts m' a l := rows_sub (fun _ _ h => h.sub hs) hs h

section
variable {H : Type} {enc : TypeId × Value → H} {W : World} {spare : Nat → Bool} {b2 : Nat} {held : Bool}
set_option maxRecDepth 100000 in
theorem act_open (fuel : Nat) (cs : List Value) (x : DataW H × List MemPlace) (h : DataW.trod enc Try.prog W b2 spare held fuel 58 cs = some x) : ∃ d : ActD, ActR W cs d := by
  obtain ⟨hl, n, hg⟩ := struct_parts Try.underlying58 h
  obtain ⟨y0, h0⟩ := hg 0 3 0 1 rfl (by kernel_rfl)
  obtain ⟨y1, h1⟩ := hg 1 45 1 26 rfl (by kernel_rfl)
  obtain ⟨y2, h2⟩ := hg 2 5 27 1 rfl (by kernel_rfl)
  obtain ⟨y3, h3⟩ := hg 3 22 28 1 rfl (by kernel_rfl)
  rw [show Try.prog.cellsOf 58 = 29 from by kernel_rfl] at hl
  obtain ⟨n0, e0, w0⟩ := int_cells Try.underlying3 h0
  obtain ⟨d, pr, p, e1, q1⟩ := ans_open _ _ _ h1
  obtain ⟨n2, e2, w2⟩ := int_cells Try.underlying5 h2
  obtain ⟨n3, e3, w3⟩ := int_cells Try.underlying22 h3
  have b2 := bounds_u8 w2
  have b3 := bounds_u64 w3
  refine ⟨⟨n0, d, n2.toNat, n3.toNat⟩, pr, p, ?_, q1, by unfold U8; simp only; omega, by unfold U64; simp only; omega⟩
  have hcs : cs = (cs.drop 0).take 1 ++ ((cs.drop 1).take 26 ++ ((cs.drop 27).take 1 ++ (cs.drop 28).take 1)) := by
    have e1 : (cs.drop 28).take 1 = cs.drop 28 := List.take_of_length_le (by simp; omega)
    have e2 : ∀ (l : List Value) (i j : Nat), (l.drop i).take j ++ l.drop (i + j) = l.drop i := fun l i j => by rw [← List.drop_drop, List.take_append_drop]
    rw [e1, e2 cs 27 1, e2 cs 1 26, e2 cs 0 1]; rfl
  rw [hcs, e0, e1, e2, e3]
  unfold actCs ansCs
  simp only [List.cons_append, List.nil_append]
  rw [show ((n2.toNat : Nat) : Int) = n2 from by omega, show ((n3.toNat : Nat) : Int) = n3 from by omega]
set_option maxRecDepth 100000 in
theorem acts_arg {v : Value} {d : DataW H} {ps : List MemPlace} {base : Nat} (hval : Value.okWide Try.prog W .any base 51 v) (h : DataW.Trod enc Try.prog W b2 spare held 51 v d ps) :
    ∃ (a : Option Addr) (cap : Nat) (l : List ActD), v = .slice a l.length cap ∧ l.length ≤ cap ∧ cap ≤ maxLen ∧ Acts W a l := by
  obtain ⟨a, len, cap, rfl⟩ := okWide_slice Try.underlying51 hval
  obtain ⟨fuel, hf⟩ := h
  obtain ⟨a', cap', l, e, h1, h2, h3⟩ := rows_open 29 (by omega) (by kernel_rfl) Try.underlying51 act_open fuel _ _ hf
  simp [Value.cells] at e
  obtain ⟨rfl, rfl, rfl⟩ := e
  exact ⟨_, _, l, rfl, h1, h2, h3⟩
end
end Rg
end Go.Proofs.Ytiaogfjmhpkcmaa
