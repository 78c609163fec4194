/- Configurations, moves and acts as data, how they lie in memory, and as arguments. No condition. -/
import Derived.Test.YtohhjbfkgokopaaDoorRcP
import Derived.Test.YtohhjbfkgokopaaDoorRowS
import Derived.Test.YtohhjbfkgokopaaDoorSyV
namespace Go.Proofs.YtohhjbfkgokopaaDoor
open Go.ChangeShapes Go.WideShapes Go.ChangeAt Go.RowKit Go.Deep
set_option linter.unusedVariables false
set_option linter.unusedSimpArgs false
namespace Rc
open Sy (Sub)
structure ConfD where
  c : Nat
  old : List Nat
  new : List Nat
deriving DecidableEq
structure MoveD where
  phase : Nat
  conf : ConfD
  nodes : Nat
  keys : Nat
  fence : Nat
deriving DecidableEq
structure ActD where
  kind : Int
  node : Nat
  keys : Nat
  f : Nat
  set : Nat
  err : Int
deriving DecidableEq
def nodv (x : Nat) : Value := .int .u8 (x : Int)
def ByR (_ : World) (cs : List Value) (x : Nat) : Prop := cs = [nodv x] ∧ x < 256
abbrev Nod (w : World) (a : Option Addr) (l : List Nat) : Prop := Rows ByR 1 w a l
theorem Nod.sub {w w' : World} {a : Option Addr} {l : List Nat} (h : Nod w a l) (hs : Sub w w') : Nod w' a l := rows_sub (R := ByR) (w := w) (w' := w') (fun _ _ h => h) hs h
theorem Nod.get {m : World} {a : Option Addr} {l : List Nat} (h : Nod m a l) {k : Nat} (hk : k < l.length) : ∃ b o, a = some ⟨b, o, none⟩ ∧ m.cell? ⟨b, o + k * 1, none⟩ = some (.int .u8 (l[k] : Int)) := by
  obtain ⟨b, o, cs, ha, hl, hat, rfl, _⟩ := rows_get h hk
  exact ⟨b, o, ha, by simpa [nodv] using hat 0 (nodv l[k]) rfl⟩
theorem Nod.lt {m : World} {a : Option Addr} {l : List Nat} (h : Nod m a l) {x : Nat} (hx : x ∈ l) : x < 256 := by
  obtain ⟨k, hk, rfl⟩ := List.mem_iff_getElem.1 hx
  obtain ⟨b, o, cs, ha, hl, hat, _, h⟩ := rows_get h hk
  exact h
theorem Nod.cells {m : World} {a : Option Addr} {l : List Nat} (h : Nod m a l) : Cells m a (l.map nodv) := by
  rcases h.2 with h0 | ⟨b, o, ha, hc⟩
  · subst h0; exact .inl rfl
  · refine .inr ⟨b, o, ha, fun i hi => ?_⟩
    have hi' : i < l.length := by simpa using hi
    obtain ⟨cs, h1, h2, rfl, _⟩ := hc i hi'
    have := h2 0 (by simp)
    simpa using this
theorem nod_of {m : World} {a : Option Addr} {l : List Nat} (h : Cells m a (l.map nodv)) (hl : l.length ≤ maxLen) (hb : ∀ x ∈ l, x < 256) : Nod m a l := by
  refine ⟨hl, ?_⟩
  rcases h with h0 | ⟨b, o, ha, hc⟩
  · exact .inl (by simpa using h0)
  · refine .inr ⟨b, o, ha, fun i hi => ⟨[nodv l[i]], rfl, fun j hj => ?_, rfl, hb _ (List.getElem_mem hi)⟩⟩
    obtain rfl : j = 0 := by simpa using hj
    have := hc i (by simpa using hi)
    rw [List.getElem_map] at this
    simpa using this
theorem nod_one (l : List Nat) : ∀ u ∈ l.map nodv, u.oneCell' = true := by
  intro u hu
  obtain ⟨c, _, rfl⟩ := List.mem_map.1 hu
  rfl
def byl (l : List Nat) : List UInt8 := l.map UInt8.ofNat
theorem Nod.bytes {m : World} {a : Option Addr} {l : List Nat} (h : Nod m a l) : Bytes m a l.length (byl l) := by
  refine ⟨by simp [byl], by simp [byl]; exact h.1, ?_⟩
  have e : (byl l).map bv = l.map nodv := by
    unfold byl
    rw [List.map_map]
    refine List.map_congr_left fun x hx => ?_
    have := h.lt hx
    simp only [Function.comp, bv, nodv]
    congr 1
    rw [UInt8.toNat_ofNat']
    omega
  rw [e]
  exact h.cells
theorem byl_eq {l l' : List Nat} (h1 : ∀ x ∈ l, x < 256) (h2 : ∀ x ∈ l', x < 256) (h : byl l = byl l') : l = l' := by
  induction l generalizing l' with
  | nil => cases l' with
    | nil => rfl
    | cons b r => simp [byl] at h
  | cons a r ih =>
    cases l' with
    | nil => simp [byl] at h
    | cons b r' =>
      simp only [byl, List.map_cons, List.cons.injEq] at h
      have e1 := congrArg UInt8.toNat h.1
      simp only [UInt8.toNat_ofNat'] at e1
      have ha := h1 a (by simp)
      have hb := h2 b (by simp)
      rw [Nat.mod_eq_of_lt (by omega), Nat.mod_eq_of_lt (by omega)] at e1
      rw [e1, ih (fun x hx => h1 x (by simp [hx])) (fun x hx => h2 x (by simp [hx])) h.2]
/-- where a configuration's lists lie -/
structure ConfA where
  oa : Option Addr
  oc : Nat
  na : Option Addr
  nc : Nat
def confCs (c : ConfD) (p : ConfA) : List Value := [.int .u64 (c.c : Int), .slice p.oa c.old.length p.oc, .slice p.na c.new.length p.nc]
structure ConfAt (w : World) (c : ConfD) (p : ConfA) : Prop where
  c64 : c.c < 18446744073709551616
  old : Nod w p.oa c.old
  new : Nod w p.na c.new
theorem ConfAt.sub {w w' : World} {c : ConfD} {p : ConfA} (h : ConfAt w c p) (hs : Sub w w') : ConfAt w' c p := ⟨h.c64, h.old.sub hs, h.new.sub hs⟩
def zeroConf : ConfD := ⟨0, [], []⟩
def zeroConfA : ConfA := ⟨none, 0, none, 0⟩
theorem zeroConf_at (w : World) : ConfAt w zeroConf zeroConfA := ⟨by decide, Rows.nil _ _ _ _, Rows.nil _ _ _ _⟩
def moveCs (x : MoveD) (p : ConfA) : List Value := [.int .u8 (x.phase : Int), .int .u64 (x.conf.c : Int), .slice p.oa x.conf.old.length p.oc, .slice p.na x.conf.new.length p.nc, .int .u64 (x.nodes : Int), .int .u16 (x.keys : Int), .int .u64 (x.fence : Int)]
structure MoveAt (w : World) (x : MoveD) (p : ConfA) : Prop where
  phase : x.phase < 256
  conf : ConfAt w x.conf p
  nodes : x.nodes < 18446744073709551616
  keys : x.keys < 65536
  fence : x.fence < 18446744073709551616
theorem MoveAt.sub {w w' : World} {x : MoveD} {p : ConfA} (h : MoveAt w x p) (hs : Sub w w') : MoveAt w' x p := ⟨h.phase, h.conf.sub hs, h.nodes, h.keys, h.fence⟩
def zeroMove : MoveD := ⟨0, zeroConf, 0, 0, 0⟩
theorem zeroMove_at (w : World) : MoveAt w zeroMove zeroConfA := ⟨by decide, zeroConf_at w, by decide, by decide, by decide⟩
/-- what comes back: a move, a configuration; one with a number behind it -/
def MoveV (x : MoveD) (w : World) (v : Value) : Prop := ∃ p, v = .agg (moveCs x p).toArray ∧ MoveAt w x p
def MoveT (k : IntKind) (x : MoveD) (e : Int) (w : World) (v : Value) : Prop := ∃ p, v = .tuple #[.agg (moveCs x p).toArray, .int k e] ∧ MoveAt w x p
def ConfT (x : ConfD) (e : Int) (w : World) (v : Value) : Prop := ∃ p, v = .tuple #[.agg (confCs x p).toArray, .int .i64 e] ∧ ConfAt w x p
def actCs (a : ActD) : List Value := [.int .i64 a.kind, .int .u8 (a.node : Int), .int .u16 (a.keys : Int), .int .u64 (a.f : Int), .int .u64 (a.set : Int), .int .i64 a.err]
def ActR (_ : World) (cs : List Value) (a : ActD) : Prop := cs = actCs a ∧ a.node < 256 ∧ a.keys < 65536 ∧ a.f < 18446744073709551616 ∧ a.set < 18446744073709551616
section
variable {H : Type} {enc : TypeId × Value → H} {W : World} {spare : Nat → Bool} {b2 : Nat} {held : Bool}
theorem by_open (fuel : Nat) (cs : List Value) (x : DataW H × List MemPlace) (h : DataW.trod enc Tryd.prog W b2 spare held fuel 5 cs = some x) : ∃ y : Nat, ByR W cs y := by
  obtain ⟨n0, e0, w0⟩ := int_cells Tryd.underlying5 h
  have b0 := bounds_u8 w0
  refine ⟨n0.toNat, ?_, by omega⟩
  rw [e0]
  unfold nodv
  rw [show ((n0.toNat : Nat) : Int) = n0 from by omega]
theorem conf_open (fuel : Nat) (cs : List Value) (x : DataW H × List MemPlace) (h : DataW.trod enc Tryd.prog W b2 spare held fuel 25 cs = some x) : ∃ (c : ConfD) (p : ConfA), cs = confCs c p ∧ ConfAt W c p := by
  obtain ⟨hl, n, hg⟩ := struct_parts Tryd.underlying25 h
  obtain ⟨y0, h0⟩ := hg 0 22 0 1 rfl (by kernel_rfl)
  obtain ⟨y1, h1⟩ := hg 1 23 1 1 rfl (by kernel_rfl)
  obtain ⟨y2, h2⟩ := hg 2 23 2 1 rfl (by kernel_rfl)
  rw [show Tryd.prog.cellsOf 25 = 3 from by kernel_rfl] at hl
  match cs, hl with
  | [c0, c1, c2], _ =>
    obtain ⟨n0, e0, w0⟩ := int_cells Tryd.underlying22 h0
    obtain ⟨oa, oc, l1, e1, p1, p2, p3⟩ := rows_open (R := ByR) 1 (by omega) (by kernel_rfl) Tryd.underlying23 by_open _ _ _ h1
    obtain ⟨na, nc, l2, e2, q1, q2, q3⟩ := rows_open (R := ByR) 1 (by omega) (by kernel_rfl) Tryd.underlying23 by_open _ _ _ h2
    simp at e0 e1 e2
    subst e0 e1 e2
    have b0 := bounds_u64 w0
    refine ⟨⟨n0.toNat, l1, l2⟩, ⟨oa, oc, na, nc⟩, ?_, ⟨by simp only; omega, p3, q3⟩⟩
    unfold confCs
    simp only
    rw [show ((n0.toNat : Nat) : Int) = n0 from by omega]
theorem act_open (fuel : Nat) (cs : List Value) (x : DataW H × List MemPlace) (h : DataW.trod enc Tryd.prog W b2 spare held fuel 41 cs = some x) : ∃ a : ActD, ActR W cs a := by
  obtain ⟨hl, n, hg⟩ := struct_parts Tryd.underlying41 h
  obtain ⟨y0, h0⟩ := hg 0 3 0 1 rfl (by kernel_rfl)
  obtain ⟨y1, h1⟩ := hg 1 5 1 1 rfl (by kernel_rfl)
  obtain ⟨y2, h2⟩ := hg 2 29 2 1 rfl (by kernel_rfl)
  obtain ⟨y3, h3⟩ := hg 3 22 3 1 rfl (by kernel_rfl)
  obtain ⟨y4, h4⟩ := hg 4 22 4 1 rfl (by kernel_rfl)
  obtain ⟨y5, h5⟩ := hg 5 32 5 1 rfl (by kernel_rfl)
  rw [show Tryd.prog.cellsOf 41 = 6 from by kernel_rfl] at hl
  match cs, hl with
  | [c0, c1, c2, c3, c4, c5], _ =>
    obtain ⟨n0, e0, w0⟩ := int_cells Tryd.underlying3 h0
    obtain ⟨n1, e1, w1⟩ := int_cells Tryd.underlying5 h1
    obtain ⟨n2, e2, w2⟩ := int_cells Tryd.underlying29 h2
    obtain ⟨n3, e3, w3⟩ := int_cells Tryd.underlying22 h3
    obtain ⟨n4, e4, w4⟩ := int_cells Tryd.underlying22 h4
    obtain ⟨n5, e5, w5⟩ := int_cells Tryd.underlying32 h5
    simp at e0 e1 e2 e3 e4 e5
    subst e0 e1 e2 e3 e4 e5
    have b1 := bounds_u8 w1
    have b2 := bounds_u16 w2
    have b3 := bounds_u64 w3
    have b4 := bounds_u64 w4
    refine ⟨⟨n0, n1.toNat, n2.toNat, n3.toNat, n4.toNat, n5⟩, ?_, by simp only; omega, by simp only; omega, by simp only; omega, by simp only; omega⟩
    unfold actCs
    simp only
    rw [show ((n1.toNat : Nat) : Int) = n1 from by omega, show ((n2.toNat : Nat) : Int) = n2 from by omega, show ((n3.toNat : Nat) : Int) = n3 from by omega, show ((n4.toNat : Nat) : Int) = n4 from by omega]
set_option maxRecDepth 100000 in
theorem conf_arg {v : Value} {d : DataW H} {ps : List MemPlace} {base : Nat} (hval : Value.okWide Tryd.prog W .any base 25 v) (h : DataW.Trod enc Tryd.prog W b2 spare held 25 v d ps) :
    ∃ (c : ConfD) (p : ConfA), v = .agg (confCs c p).toArray ∧ ConfAt W c p := by
  obtain ⟨cs, rfl, hsz⟩ := okWide_struct Tryd.underlying25 hval
  obtain ⟨fuel, hf⟩ := h
  obtain ⟨r, p, e, h'⟩ := conf_open _ _ _ hf
  simp [Value.cells] at e
  exact ⟨r, p, by rw [← e], h'⟩
theorem acts_arg {v : Value} {d : DataW H} {ps : List MemPlace} {base : Nat} (hval : Value.okWide Tryd.prog W .any base 26 v) (h : DataW.Trod enc Tryd.prog W b2 spare held 26 v d ps) :
    ∃ (a : Option Addr) (cap : Nat) (l : List ActD), v = .slice a l.length cap ∧ l.length ≤ cap ∧ cap ≤ maxLen ∧ Rows ActR 6 W a l := by
  obtain ⟨a, len, cap, rfl⟩ := okWide_slice Tryd.underlying26 hval
  obtain ⟨fuel, hf⟩ := h
  obtain ⟨a', cap', l, e, h1, h2, h3⟩ := rows_open (R := ActR) 6 (by omega) (by kernel_rfl) Tryd.underlying26 act_open _ _ _ hf
  simp [Value.cells] at e
  obtain ⟨rfl, rfl, rfl⟩ := e
  exact ⟨a, cap, l, rfl, h1, h2, h3⟩
end
end Rc
end Go.Proofs.YtohhjbfkgokopaaDoor
