/- Contracts as data, how they lie in memory, and as arguments. No condition. slices.IndexFunc, ContainsFunc at a contract's rules and at a rule's messages, with the closure's contract as a hypothesis. Conditions: the lists can be read. Printed by a program (gentb.py). -/
import Derived.Test.YtniopkoaplkpkaaRowS
import Derived.Test.YtniopkoaplkpkaaRegD
import Derived.Test.YtniopkoaplkpkaaExpB
namespace Go.Proofs.Ytniopkoaplkpkaa
open Go.ChangeShapes Go.WideShapes Go.ChangeAt Go.RowKit Go.Deep
set_option linter.unusedVariables false
namespace Ex
theorem Toks.sub {w w' : World} {a : Option Addr} {n : Nat} {l : List Tok} (h : Toks w a n l) (hs : Sy.Sub w w') : Toks w' a n l := by
  obtain ⟨h1, h2, h3, h4⟩ := h
  refine ⟨h1, h2, h3, ?_⟩
  rcases h4 with h | ⟨b, o, ha, hc⟩
  · exact .inl h
  · exact .inr ⟨b, o, ha, fun i hi => ⟨hs _ _ (hc i hi).1, hs _ _ (hc i hi).2⟩⟩
theorem Ints.sub {w w' : World} {a : Option Addr} {n : Nat} {l : List Int} (h : Ints w a n l) (hs : Sy.Sub w w') : Ints w' a n l := by
  obtain ⟨h1, h2, h3, h4⟩ := h
  refine ⟨h1, h2, h3, ?_⟩
  rcases h4 with h | ⟨b, o, ha, hc⟩
  · exact .inl h
  · exact .inr ⟨b, o, ha, fun i hi => hs _ _ (hc i hi)⟩
theorem ints_of_nums {w : World} {a : Option Addr} {l : List Int} (h : Nums w a l) : Ints w a l.length l := by
  refine ⟨rfl, h.1, fun x hx => ?_, ?_⟩
  · obtain ⟨k, hk, rfl⟩ := List.getElem_of_mem hx
    obtain ⟨_, _, _, _, _, h1⟩ := Nums.at h k hk
    exact h1
  · rcases h.2 with h | ⟨b, o, ha, hc⟩
    · exact .inl h
    · refine .inr ⟨b, o, ha, fun i hi => ?_⟩
      obtain ⟨cs, h1, h2, rfl, -⟩ := hc i hi
      have := h2 0 (by simp)
      simpa using this
theorem nums_of_ints {w : World} {a : Option Addr} {n : Nat} {l : List Int} (h : Ints w a n l) : Nums w a l := by
  obtain ⟨h1, h2, h3, h4⟩ := h
  refine ⟨by omega, ?_⟩
  rcases h4 with h | ⟨b, o, ha, hc⟩
  · exact .inl h
  · refine .inr ⟨b, o, ha, fun i hi => ⟨[.int .i64 l[i]], rfl, fun j hj => ?_, rfl, h3 _ (List.getElem_mem _)⟩⟩
    obtain rfl : j = 0 := by simpa using hj
    simpa using hc i hi
end Ex
namespace Tb
open Rg (I64 U8 U64)
open Sy (Sub)
structure SetD where
  var : Int
  val : List Ex.Tok
deriving DecidableEq
structure EmitD where
  target : Nat
  action : Int
  arg : List Ex.Tok
deriving DecidableEq
structure RuleD where
  src : Int
  action : Int
  party : Int
  dst : Int
  guard : List Ex.Tok
  sets : List SetD
  emits : List EmitD
deriving DecidableEq
structure TabD where
  states : Int
  vars : Int
  rules : List RuleD
deriving DecidableEq
def SetR (w : World) (cs : List Value) (s : SetD) : Prop := ∃ a c, cs = [.int .i64 s.var, .slice a s.val.length c] ∧ I64 s.var ∧ Ex.Toks w a s.val.length s.val
def EmitR (w : World) (cs : List Value) (e : EmitD) : Prop := ∃ a c, cs = [.int .u8 (e.target : Int), .int .i64 e.action, .slice a e.arg.length c] ∧ U8 e.target ∧ I64 e.action ∧ Ex.Toks w a e.arg.length e.arg
/-- where a rule's lists lie -/
structure RuleA where
  ga : Option Addr
  gc : Nat
  sa : Option Addr
  sc : Nat
  ea : Option Addr
  ec : Nat
def ruleCs (r : RuleD) (p : RuleA) : List Value := [.int .i64 r.src, .int .i64 r.action, .int .i64 r.party, .int .i64 r.dst, .slice p.ga r.guard.length p.gc, .slice p.sa r.sets.length p.sc, .slice p.ea r.emits.length p.ec]
structure RuleAt (w : World) (r : RuleD) (p : RuleA) : Prop where
  src : I64 r.src
  action : I64 r.action
  party : I64 r.party
  dst : I64 r.dst
  guard : Ex.Toks w p.ga r.guard.length r.guard
  sets : Rows SetR 2 w p.sa r.sets
  emits : Rows EmitR 3 w p.ea r.emits
def RuleR (w : World) (cs : List Value) (r : RuleD) : Prop := ∃ p, cs = ruleCs r p ∧ RuleAt w r p
def tabCs (t : TabD) (a : Option Addr) (c : Nat) : List Value := [.int .i64 t.states, .int .i64 t.vars, .slice a t.rules.length c]
structure TabAt (w : World) (t : TabD) (a : Option Addr) (c : Nat) : Prop where
  states : I64 t.states
  vars : I64 t.vars
  rules : Rows RuleR 7 w a t.rules
  cap : t.rules.length ≤ c ∧ c ≤ maxLen
theorem SetR.sub {w w' : World} {cs : List Value} {s : SetD} (h : SetR w cs s) (hs : Sub w w') : SetR w' cs s := let ⟨a, c, h1, h2, h3⟩ := h; ⟨a, c, h1, h2, h3.sub hs⟩
theorem EmitR.sub {w w' : World} {cs : List Value} {s : EmitD} (h : EmitR w cs s) (hs : Sub w w') : EmitR w' cs s := let ⟨a, c, h1, h2, h3, h4⟩ := h; ⟨a, c, h1, h2, h3, h4.sub hs⟩
theorem RuleAt.sub {w w' : World} {r : RuleD} {p : RuleA} (h : RuleAt w r p) (hs : Sub w w') : RuleAt w' r p :=
  ⟨h.src, h.action, h.party, h.dst, h.guard.sub hs, rows_sub (fun _ _ h => h.sub hs) hs h.sets, rows_sub (fun _ _ h => h.sub hs) hs h.emits⟩
theorem RuleR.sub {w w' : World} {cs : List Value} {r : RuleD} (h : RuleR w cs r) (hs : Sub w w') : RuleR w' cs r := let ⟨p, h1, h2⟩ := h; ⟨p, h1, h2.sub hs⟩
theorem TabAt.sub {w w' : World} {t : TabD} {a : Option Addr} {c : Nat} (h : TabAt w t a c) (hs : Sub w w') : TabAt w' t a c :=
  ⟨h.states, h.vars, rows_sub (fun _ _ h => h.sub hs) hs h.rules, h.cap⟩
section
variable {H : Type} {enc : TypeId × Value → H} {W : World} {spare : Nat → Bool} {b2 : Nat} {held : Bool}
theorem set_open (fuel : Nat) (cs : List Value) (x : DataW H × List MemPlace) (h : DataW.trod enc Try.prog W b2 spare held fuel 78 cs = some x) : ∃ d : SetD, SetR W cs d := by
  obtain ⟨hl, n, hg⟩ := struct_parts Try.underlying78 h
  obtain ⟨y0, h0⟩ := hg 0 3 0 1 rfl (by kernel_rfl)
  obtain ⟨y1, h1⟩ := hg 1 72 1 1 rfl (by kernel_rfl)
  rw [show Try.prog.cellsOf 78 = 2 from by kernel_rfl] at hl
  match cs, hl with
  | [c0, c1], _ =>
    obtain ⟨n0, e0, w0⟩ := int_cells Try.underlying3 h0
    obtain ⟨a, cap, l, e1, q1, q2, q3⟩ := toks_cells h1
    simp at e0 e1
    subst e0 e1
    have b0 := bounds_i64 w0
    exact ⟨⟨n0, l⟩, a, cap, rfl, (by unfold I64; simp only; omega), q3⟩
theorem emit_open (fuel : Nat) (cs : List Value) (x : DataW H × List MemPlace) (h : DataW.trod enc Try.prog W b2 spare held fuel 80 cs = some x) : ∃ d : EmitD, EmitR W cs d := by
  obtain ⟨hl, n, hg⟩ := struct_parts Try.underlying80 h
  obtain ⟨y0, h0⟩ := hg 0 5 0 1 rfl (by kernel_rfl)
  obtain ⟨y1, h1⟩ := hg 1 3 1 1 rfl (by kernel_rfl)
  obtain ⟨y2, h2⟩ := hg 2 72 2 1 rfl (by kernel_rfl)
  rw [show Try.prog.cellsOf 80 = 3 from by kernel_rfl] at hl
  match cs, hl with
  | [c0, c1, c2], _ =>
    obtain ⟨n0, e0, w0⟩ := int_cells Try.underlying5 h0
    obtain ⟨n1, e1, w1⟩ := int_cells Try.underlying3 h1
    obtain ⟨a, cap, l, e2, q1, q2, q3⟩ := toks_cells h2
    simp at e0 e1 e2
    subst e0 e1 e2
    have b0 := bounds_u8 w0
    have b1 := bounds_i64 w1
    refine ⟨⟨n0.toNat, n1, l⟩, a, cap, ?_, (by unfold U8; simp only; omega), (by unfold I64; simp only; omega), q3⟩
    simp only
    rw [show ((n0.toNat : Nat) : Int) = n0 from by omega]
theorem rule_open (fuel : Nat) (cs : List Value) (x : DataW H × List MemPlace) (h : DataW.trod enc Try.prog W b2 spare held fuel 76 cs = some x) : ∃ d : RuleD, RuleR W cs d := by
  obtain ⟨hl, n, hg⟩ := struct_parts Try.underlying76 h
  obtain ⟨y0, h0⟩ := hg 0 3 0 1 rfl (by kernel_rfl)
  obtain ⟨y1, h1⟩ := hg 1 3 1 1 rfl (by kernel_rfl)
  obtain ⟨y2, h2⟩ := hg 2 3 2 1 rfl (by kernel_rfl)
  obtain ⟨y3, h3⟩ := hg 3 3 3 1 rfl (by kernel_rfl)
  obtain ⟨y4, h4⟩ := hg 4 72 4 1 rfl (by kernel_rfl)
  obtain ⟨y5, h5⟩ := hg 5 73 5 1 rfl (by kernel_rfl)
  obtain ⟨y6, h6⟩ := hg 6 74 6 1 rfl (by kernel_rfl)
  rw [show Try.prog.cellsOf 76 = 7 from by kernel_rfl] at hl
  match cs, hl with
  | [c0, c1, c2, c3, c4, c5, c6], _ =>
    obtain ⟨n0, e0, w0⟩ := int_cells Try.underlying3 h0
    obtain ⟨n1, e1, w1⟩ := int_cells Try.underlying3 h1
    obtain ⟨n2, e2, w2⟩ := int_cells Try.underlying3 h2
    obtain ⟨n3, e3, w3⟩ := int_cells Try.underlying3 h3
    obtain ⟨ga, gc, g, e4, p1, p2, p3⟩ := toks_cells h4
    obtain ⟨sa, sc, s, e5, q1, q2, q3⟩ := rows_open (R := SetR) 2 (by omega) (by kernel_rfl) Try.underlying73 set_open _ _ _ h5
    obtain ⟨ea, ec, m, e6, r1, r2, r3⟩ := rows_open (R := EmitR) 3 (by omega) (by kernel_rfl) Try.underlying74 emit_open _ _ _ h6
    simp at e0 e1 e2 e3 e4 e5 e6
    subst e0 e1 e2 e3 e4 e5 e6
    have b0 := bounds_i64 w0
    have b1 := bounds_i64 w1
    have b2 := bounds_i64 w2
    have b3 := bounds_i64 w3
    exact ⟨⟨n0, n1, n2, n3, g, s, m⟩, ⟨ga, gc, sa, sc, ea, ec⟩, rfl, (by unfold I64; simp only; omega), (by unfold I64; simp only; omega), (by unfold I64; simp only; omega), (by unfold I64; simp only; omega), p3, q3, r3⟩
theorem tab_open (fuel : Nat) (cs : List Value) (x : DataW H × List MemPlace) (h : DataW.trod enc Try.prog W b2 spare held fuel 24 cs = some x) : ∃ (d : TabD) (a : Option Addr) (c : Nat), cs = tabCs d a c ∧ TabAt W d a c := by
  obtain ⟨hl, n, hg⟩ := struct_parts Try.underlying24 h
  obtain ⟨y0, h0⟩ := hg 0 3 0 1 rfl (by kernel_rfl)
  obtain ⟨y1, h1⟩ := hg 1 3 1 1 rfl (by kernel_rfl)
  obtain ⟨y2, h2⟩ := hg 2 22 2 1 rfl (by kernel_rfl)
  rw [show Try.prog.cellsOf 24 = 3 from by kernel_rfl] at hl
  match cs, hl with
  | [c0, c1, c2], _ =>
    obtain ⟨n0, e0, w0⟩ := int_cells Try.underlying3 h0
    obtain ⟨n1, e1, w1⟩ := int_cells Try.underlying3 h1
    obtain ⟨a, c, l, e2, q1, q2, q3⟩ := rows_open (R := RuleR) 7 (by omega) (by kernel_rfl) Try.underlying22 rule_open _ _ _ h2
    simp at e0 e1 e2
    subst e0 e1 e2
    have b0 := bounds_i64 w0
    have b1 := bounds_i64 w1
    exact ⟨⟨n0, n1, l⟩, a, c, rfl, (by unfold I64; simp only; omega), (by unfold I64; simp only; omega), q3, q1, q2⟩
set_option maxRecDepth 100000 in
theorem tab_arg {v : Value} {d : DataW H} {ps : List MemPlace} {base : Nat} (hval : Value.okWide Try.prog W .any base 24 v) (h : DataW.Trod enc Try.prog W b2 spare held 24 v d ps) :
    ∃ (t : TabD) (a : Option Addr) (c : Nat), v = .agg (tabCs t a c).toArray ∧ TabAt W t a c := by
  obtain ⟨cs, rfl, hsz⟩ := okWide_struct Try.underlying24 hval
  obtain ⟨fuel, hf⟩ := h
  obtain ⟨t, a, c, e, h'⟩ := tab_open _ _ _ hf
  simp [Value.cells] at e
  exact ⟨t, a, c, by rw [← e], h'⟩
set_option maxRecDepth 100000 in
theorem rule_arg {v : Value} {d : DataW H} {ps : List MemPlace} {base : Nat} (hval : Value.okWide Try.prog W .any base 76 v) (h : DataW.Trod enc Try.prog W b2 spare held 76 v d ps) :
    ∃ (r : RuleD) (p : RuleA), v = .agg (ruleCs r p).toArray ∧ RuleAt W r p := by
  obtain ⟨cs, rfl, hsz⟩ := okWide_struct Try.underlying76 hval
  obtain ⟨fuel, hf⟩ := h
  obtain ⟨r, p, e, h'⟩ := rule_open _ _ _ hf
  simp [Value.cells] at e
  exact ⟨r, p, by rw [← e], h'⟩
end
end Tb
end Go.Proofs.Ytniopkoaplkpkaa
namespace Go.Proofs.Ytniopkoaplkpkaa
open Go.RowKit
set_option linter.unusedVariables false
set_option linter.unusedSimpArgs false
namespace Tb
open Sy (RetV RetM Sub)
open Rg
set_option maxRecDepth 20000 in
theorem indexEmit (w : World) {a : Option Addr} {cap : Nat} {l : List EmitD} (h : Rows EmitR 3 w a l) {f : FuncId} {ks : List Value} {p : EmitD → Bool} (hfl : Sy.fl.contains f = true) (hc : ClosB EmitR w f ks l p) :
    Calls Try.prog 135 #[.slice a l.length cap, .func (.func f) #[] ks.toArray] w (RetV w (.int .i64 (idxS p l))) := by
  have F := Sy.Mem.start (Sub.refl w)
  have hml := h.1
  unfold maxLen at hml
  refine Sy.enter Try.func135 rfl Try.ntmps135 rfl ?_; intro ac T; simp only [Sy.enum, Nat.zero_add, Nat.reduceAdd] at T
  repeat (first
    | (((with_reducible refine Sy.is_load ?_); (first | refine Sy.st_loadOne T F (h := ?_) | refine Sy.st_oldOne T F (h := ?_) | refine Sy.st_loadAll T F (h := ?_) | (refine Sy.st_loadCut T F (h := ?_); conv => whnf) | refine Sy.st_oldAgg T F (h := ?_) | (refine Sy.st_oldCut T F (h := ?_); conv => whnf)); clear T; intro ac T))
    | (((with_reducible refine Sy.is_op ?_); refine Sy.st_pure T (h := ?_); clear T; intro ac T))
    | ((with_reducible refine Sy.atK (hK _ _ ?_)))
    | ((with_reducible refine Sy.is_cond ?_); (first | refine Sy.st_true T (h := ?_) | refine Sy.st_false T (h := ?_)))
    | (with_reducible refine wpList_nil ?_)
    | (with_reducible refine wp_region_lit ?_)
    | (with_reducible refine wp_block ?_)
    | (with_reducible refine wp_skip ?_)
    | (with_reducible refine wp_exit ?_)
    | (with_reducible refine wp_ret ?_)
    | ((with_reducible refine wp_seq_k ?_); intro _ _)
    | (go_at_K; go_step)
    | (simp only [Exit.then, Exit.inBlock, ↓reduceIte, Nat.reduceEqDiff]))
  refine wp_loop_ghost_k (fun i ac w' => ∃ (k : Nat), i = l.length - k ∧ k ≤ l.length ∧ (l.take k).any p = false ∧
    Sy.Tm ac 19 [(0, .slice a l.length cap), (1, .func (.func f) #[] ks.toArray), (7, .int .i64 (l.length : Int)), (8, .int .i64 (k : Int))] ∧ Sy.Mem ⟨w, [], w⟩ w [] w') l.length ?_ ?_
  · exact ⟨0, rfl, Nat.zero_le _, rfl, (T.part (by repeat (first | exact Sy.Part.nil | apply Sy.Part.cons rfl))), F⟩
  intro i ac w' hI J K hJ hK
  obtain ⟨k, rfl, hk, hn, T, F⟩ := hI
  by_cases hlt : k < l.length
  · have t1 : decide ((k : Int) < (l.length : Int)) = true := decide_eq_true (by omega)
    have t2 : IntKind.i64.wrap ((k : Int) + 1) = ((k + 1 : Nat) : Int) := by rw [i64_wrap (by omega) (by omega)]; omega
    obtain ⟨b, o, cs, ha, hcl, hat, hr⟩ := rows_get h hlt
    subst ha
    repeat (first
    | (((with_reducible refine Sy.is_load ?_); (first | refine Sy.st_loadOne T F (h := ?_) | refine Sy.st_oldOne T F (h := ?_) | refine Sy.st_loadAll T F (h := ?_) | (refine Sy.st_loadCut T F (h := ?_); conv => whnf) | refine Sy.st_oldAgg T F (h := ?_) | (refine Sy.st_oldCut T F (h := ?_); conv => whnf)); clear T; intro ac T))
    | (((with_reducible refine Sy.is_op ?_); refine Sy.st_pure T (h := ?_); clear T; intro ac T))
    | ((with_reducible refine Sy.atK (hK _ _ ?_)))
    | ((with_reducible refine Sy.is_cond ?_); (first | refine Sy.st_true T (h := ?_) | refine Sy.st_false T (h := ?_)))
    | (with_reducible refine wpList_nil ?_)
    | (with_reducible refine wp_region_lit ?_)
    | (with_reducible refine wp_block ?_)
    | (with_reducible refine wp_skip ?_)
    | (with_reducible refine wp_exit ?_)
    | (with_reducible refine wp_ret ?_)
    | ((with_reducible refine wp_seq_k ?_); intro _ _)
    | (go_at_K; go_step)
    | (simp only [Exit.then, Exit.inBlock, ↓reduceIte, Nat.reduceEqDiff]))
    have hcc := hc _ _ (Sub.refl _) F.sub _ (List.getElem_mem hlt) cs hr
    cases hp : p l[k]
    · rw [hp] at hcc
      refine Sy.st_callV (us := []) (ks := ks) T F (by exact rfl) hfl (by exact rfl) (by exact rfl) hcc ?_; (clear T F; intro ac w T F)
      repeat (first
    | (((with_reducible refine Sy.is_load ?_); (first | refine Sy.st_loadOne T F (h := ?_) | refine Sy.st_oldOne T F (h := ?_) | refine Sy.st_loadAll T F (h := ?_) | (refine Sy.st_loadCut T F (h := ?_); conv => whnf) | refine Sy.st_oldAgg T F (h := ?_) | (refine Sy.st_oldCut T F (h := ?_); conv => whnf)); clear T; intro ac T))
    | (((with_reducible refine Sy.is_op ?_); refine Sy.st_pure T (h := ?_); clear T; intro ac T))
    | ((with_reducible refine Sy.atK (hK _ _ ?_)))
    | ((with_reducible refine Sy.is_cond ?_); (first | refine Sy.st_true T (h := ?_) | refine Sy.st_false T (h := ?_)))
    | (with_reducible refine wpList_nil ?_)
    | (with_reducible refine wp_region_lit ?_)
    | (with_reducible refine wp_block ?_)
    | (with_reducible refine wp_skip ?_)
    | (with_reducible refine wp_exit ?_)
    | (with_reducible refine wp_ret ?_)
    | ((with_reducible refine wp_seq_k ?_); intro _ _)
    | (go_at_K; go_step)
    | (simp only [Exit.then, Exit.inBlock, ↓reduceIte, Nat.reduceEqDiff]))
      exact Sy.handed hJ (k := l.length - (k + 1)) (by omega) ⟨k + 1, rfl, by omega, any_up hlt hn hp, (T.part (by repeat (first | exact Sy.Part.nil | apply Sy.Part.cons rfl))), F⟩
    · rw [hp] at hcc
      refine Sy.st_callV (us := []) (ks := ks) T F (by exact rfl) hfl (by exact rfl) (by exact rfl) hcc ?_; (clear T F; intro ac w T F)
      repeat (first
    | (((with_reducible refine Sy.is_load ?_); (first | refine Sy.st_loadOne T F (h := ?_) | refine Sy.st_oldOne T F (h := ?_) | refine Sy.st_loadAll T F (h := ?_) | (refine Sy.st_loadCut T F (h := ?_); conv => whnf) | refine Sy.st_oldAgg T F (h := ?_) | (refine Sy.st_oldCut T F (h := ?_); conv => whnf)); clear T; intro ac T))
    | (((with_reducible refine Sy.is_op ?_); refine Sy.st_pure T (h := ?_); clear T; intro ac T))
    | ((with_reducible refine Sy.atK (hK _ _ ?_)))
    | ((with_reducible refine Sy.is_cond ?_); (first | refine Sy.st_true T (h := ?_) | refine Sy.st_false T (h := ?_)))
    | (with_reducible refine wpList_nil ?_)
    | (with_reducible refine wp_region_lit ?_)
    | (with_reducible refine wp_block ?_)
    | (with_reducible refine wp_skip ?_)
    | (with_reducible refine wp_exit ?_)
    | (with_reducible refine wp_ret ?_)
    | ((with_reducible refine wp_seq_k ?_); intro _ _)
    | (go_at_K; go_step)
    | (simp only [Exit.then, Exit.inBlock, ↓reduceIte, Nat.reduceEqDiff]))
      ((try simp only [Exit.inBlock, Exit.then]); refine Sy.st_ret1 T F rfl (by repeat (first | exact Sy.ResV.nil | apply Sy.ResV.tmp rfl | apply Sy.ResV.row rfl rfl rfl (by repeat (first | exact Sy.Take.here | apply Sy.Take.there)) (by rfl) | apply Sy.ResV.one rfl rfl rfl (by repeat (first | exact Sy.Take.here | apply Sy.Take.there)) (by rfl))) ?_)
      rw [idx_some hlt hn hp]
      exact F.retV _
  · obtain rfl : k = l.length := by omega
    have t1 : decide ((l.length : Int) < (l.length : Int)) = false := decide_eq_false (by omega)
    rw [List.take_length] at hn
    repeat (first
    | (((with_reducible refine Sy.is_load ?_); (first | refine Sy.st_loadOne T F (h := ?_) | refine Sy.st_oldOne T F (h := ?_) | refine Sy.st_loadAll T F (h := ?_) | (refine Sy.st_loadCut T F (h := ?_); conv => whnf) | refine Sy.st_oldAgg T F (h := ?_) | (refine Sy.st_oldCut T F (h := ?_); conv => whnf)); clear T; intro ac T))
    | (((with_reducible refine Sy.is_op ?_); refine Sy.st_pure T (h := ?_); clear T; intro ac T))
    | ((with_reducible refine Sy.atK (hK _ _ ?_)))
    | ((with_reducible refine Sy.is_cond ?_); (first | refine Sy.st_true T (h := ?_) | refine Sy.st_false T (h := ?_)))
    | (with_reducible refine wpList_nil ?_)
    | (with_reducible refine wp_region_lit ?_)
    | (with_reducible refine wp_block ?_)
    | (with_reducible refine wp_skip ?_)
    | (with_reducible refine wp_exit ?_)
    | (with_reducible refine wp_ret ?_)
    | ((with_reducible refine wp_seq_k ?_); intro _ _)
    | (go_at_K; go_step)
    | (simp only [Exit.then, Exit.inBlock, ↓reduceIte, Nat.reduceEqDiff]))
    ((try simp only [Exit.inBlock, Exit.then]); refine Sy.st_ret1 T F rfl (by repeat (first | exact Sy.ResV.nil | apply Sy.ResV.tmp rfl | apply Sy.ResV.row rfl rfl rfl (by repeat (first | exact Sy.Take.here | apply Sy.Take.there)) (by rfl) | apply Sy.ResV.one rfl rfl rfl (by repeat (first | exact Sy.Take.here | apply Sy.Take.there)) (by rfl))) ?_)
    rw [idx_none hn]
    exact F.retV _
set_option maxRecDepth 20000 in
theorem containsEmit (w : World) {a : Option Addr} {cap : Nat} {l : List EmitD} (h : Rows EmitR 3 w a l) {f : FuncId} {ks : List Value} {p : EmitD → Bool} (hfl : Sy.fl.contains f = true) (hc : ClosB EmitR w f ks l p) :
    Calls Try.prog 113 #[.slice a l.length cap, .func (.func f) #[] ks.toArray] w (RetV w (.bool (l.any p))) := by
  have F := Sy.Mem.start (Sub.refl w)
  have t1 : decide (idxS p l ≥ 0) = l.any p := idx_any p l
  refine Sy.enter Try.func113 rfl Try.ntmps113 rfl ?_; intro ac T; simp only [Sy.enum, Nat.zero_add, Nat.reduceAdd] at T
  repeat (first
    | (((with_reducible refine Sy.is_op ?_); refine Sy.st_pure T (h := ?_); clear T; intro ac T))
    | ((with_reducible refine Sy.atK (hK _ _ ?_)))
    | ((with_reducible refine Sy.is_cond ?_); (first | refine Sy.st_true T (h := ?_) | refine Sy.st_false T (h := ?_)))
    | (with_reducible refine wpList_nil ?_)
    | (with_reducible refine wp_region_lit ?_)
    | (with_reducible refine wp_block ?_)
    | (with_reducible refine wp_skip ?_)
    | (with_reducible refine wp_exit ?_)
    | (with_reducible refine wp_ret ?_)
    | ((with_reducible refine wp_seq_k ?_); intro _ _)
    | (go_at_K; go_step)
    | (simp only [Exit.then, Exit.inBlock, ↓reduceIte, Nat.reduceEqDiff]))
  refine Sy.st_callV0 T F (hc := indexEmit _ h hfl hc) (h := ?_); (clear T F; intro ac w T F)
  repeat (first
    | (((with_reducible refine Sy.is_op ?_); refine Sy.st_pure T (h := ?_); clear T; intro ac T))
    | ((with_reducible refine Sy.atK (hK _ _ ?_)))
    | ((with_reducible refine Sy.is_cond ?_); (first | refine Sy.st_true T (h := ?_) | refine Sy.st_false T (h := ?_)))
    | (with_reducible refine wpList_nil ?_)
    | (with_reducible refine wp_region_lit ?_)
    | (with_reducible refine wp_block ?_)
    | (with_reducible refine wp_skip ?_)
    | (with_reducible refine wp_exit ?_)
    | (with_reducible refine wp_ret ?_)
    | ((with_reducible refine wp_seq_k ?_); intro _ _)
    | (go_at_K; go_step)
    | (simp only [Exit.then, Exit.inBlock, ↓reduceIte, Nat.reduceEqDiff]))
  ((try simp only [Exit.inBlock, Exit.then]); refine Sy.st_ret1 T F rfl (by repeat (first | exact Sy.ResV.nil | apply Sy.ResV.tmp rfl | apply Sy.ResV.row rfl rfl rfl (by repeat (first | exact Sy.Take.here | apply Sy.Take.there)) (by rfl) | apply Sy.ResV.one rfl rfl rfl (by repeat (first | exact Sy.Take.here | apply Sy.Take.there)) (by rfl))) ?_)
  exact F.retV _
set_option maxRecDepth 20000 in
theorem indexRule (w : World) {a : Option Addr} {cap : Nat} {l : List RuleD} (h : Rows RuleR 7 w a l) {f : FuncId} {ks : List Value} {p : RuleD → Bool} (hfl : Sy.fl.contains f = true) (hc : ClosB RuleR w f ks l p) :
    Calls Try.prog 110 #[.slice a l.length cap, .func (.func f) #[] ks.toArray] w (RetV w (.int .i64 (idxS p l))) := by
  have F := Sy.Mem.start (Sub.refl w)
  have hml := h.1
  unfold maxLen at hml
  refine Sy.enter Try.func110 rfl Try.ntmps110 rfl ?_; intro ac T; simp only [Sy.enum, Nat.zero_add, Nat.reduceAdd] at T
  repeat (first
    | (((with_reducible refine Sy.is_load ?_); (first | refine Sy.st_loadOne T F (h := ?_) | refine Sy.st_oldOne T F (h := ?_) | refine Sy.st_loadAll T F (h := ?_) | (refine Sy.st_loadCut T F (h := ?_); conv => whnf) | refine Sy.st_oldAgg T F (h := ?_) | (refine Sy.st_oldCut T F (h := ?_); conv => whnf)); clear T; intro ac T))
    | (((with_reducible refine Sy.is_op ?_); refine Sy.st_pure T (h := ?_); clear T; intro ac T))
    | ((with_reducible refine Sy.atK (hK _ _ ?_)))
    | ((with_reducible refine Sy.is_cond ?_); (first | refine Sy.st_true T (h := ?_) | refine Sy.st_false T (h := ?_)))
    | (with_reducible refine wpList_nil ?_)
    | (with_reducible refine wp_region_lit ?_)
    | (with_reducible refine wp_block ?_)
    | (with_reducible refine wp_skip ?_)
    | (with_reducible refine wp_exit ?_)
    | (with_reducible refine wp_ret ?_)
    | ((with_reducible refine wp_seq_k ?_); intro _ _)
    | (go_at_K; go_step)
    | (simp only [Exit.then, Exit.inBlock, ↓reduceIte, Nat.reduceEqDiff]))
  refine wp_loop_ghost_k (fun i ac w' => ∃ (k : Nat), i = l.length - k ∧ k ≤ l.length ∧ (l.take k).any p = false ∧
    Sy.Tm ac 19 [(0, .slice a l.length cap), (1, .func (.func f) #[] ks.toArray), (7, .int .i64 (l.length : Int)), (8, .int .i64 (k : Int))] ∧ Sy.Mem ⟨w, [], w⟩ w [] w') l.length ?_ ?_
  · exact ⟨0, rfl, Nat.zero_le _, rfl, (T.part (by repeat (first | exact Sy.Part.nil | apply Sy.Part.cons rfl))), F⟩
  intro i ac w' hI J K hJ hK
  obtain ⟨k, rfl, hk, hn, T, F⟩ := hI
  by_cases hlt : k < l.length
  · have t1 : decide ((k : Int) < (l.length : Int)) = true := decide_eq_true (by omega)
    have t2 : IntKind.i64.wrap ((k : Int) + 1) = ((k + 1 : Nat) : Int) := by rw [i64_wrap (by omega) (by omega)]; omega
    obtain ⟨b, o, cs, ha, hcl, hat, hr⟩ := rows_get h hlt
    subst ha
    repeat (first
    | (((with_reducible refine Sy.is_load ?_); (first | refine Sy.st_loadOne T F (h := ?_) | refine Sy.st_oldOne T F (h := ?_) | refine Sy.st_loadAll T F (h := ?_) | (refine Sy.st_loadCut T F (h := ?_); conv => whnf) | refine Sy.st_oldAgg T F (h := ?_) | (refine Sy.st_oldCut T F (h := ?_); conv => whnf)); clear T; intro ac T))
    | (((with_reducible refine Sy.is_op ?_); refine Sy.st_pure T (h := ?_); clear T; intro ac T))
    | ((with_reducible refine Sy.atK (hK _ _ ?_)))
    | ((with_reducible refine Sy.is_cond ?_); (first | refine Sy.st_true T (h := ?_) | refine Sy.st_false T (h := ?_)))
    | (with_reducible refine wpList_nil ?_)
    | (with_reducible refine wp_region_lit ?_)
    | (with_reducible refine wp_block ?_)
    | (with_reducible refine wp_skip ?_)
    | (with_reducible refine wp_exit ?_)
    | (with_reducible refine wp_ret ?_)
    | ((with_reducible refine wp_seq_k ?_); intro _ _)
    | (go_at_K; go_step)
    | (simp only [Exit.then, Exit.inBlock, ↓reduceIte, Nat.reduceEqDiff]))
    have hcc := hc _ _ (Sub.refl _) F.sub _ (List.getElem_mem hlt) cs hr
    cases hp : p l[k]
    · rw [hp] at hcc
      refine Sy.st_callV (us := []) (ks := ks) T F (by exact rfl) hfl (by exact rfl) (by exact rfl) hcc ?_; (clear T F; intro ac w T F)
      repeat (first
    | (((with_reducible refine Sy.is_load ?_); (first | refine Sy.st_loadOne T F (h := ?_) | refine Sy.st_oldOne T F (h := ?_) | refine Sy.st_loadAll T F (h := ?_) | (refine Sy.st_loadCut T F (h := ?_); conv => whnf) | refine Sy.st_oldAgg T F (h := ?_) | (refine Sy.st_oldCut T F (h := ?_); conv => whnf)); clear T; intro ac T))
    | (((with_reducible refine Sy.is_op ?_); refine Sy.st_pure T (h := ?_); clear T; intro ac T))
    | ((with_reducible refine Sy.atK (hK _ _ ?_)))
    | ((with_reducible refine Sy.is_cond ?_); (first | refine Sy.st_true T (h := ?_) | refine Sy.st_false T (h := ?_)))
    | (with_reducible refine wpList_nil ?_)
    | (with_reducible refine wp_region_lit ?_)
    | (with_reducible refine wp_block ?_)
    | (with_reducible refine wp_skip ?_)
    | (with_reducible refine wp_exit ?_)
    | (with_reducible refine wp_ret ?_)
    | ((with_reducible refine wp_seq_k ?_); intro _ _)
    | (go_at_K; go_step)
    | (simp only [Exit.then, Exit.inBlock, ↓reduceIte, Nat.reduceEqDiff]))
      exact Sy.handed hJ (k := l.length - (k + 1)) (by omega) ⟨k + 1, rfl, by omega, any_up hlt hn hp, (T.part (by repeat (first | exact Sy.Part.nil | apply Sy.Part.cons rfl))), F⟩
    · rw [hp] at hcc
      refine Sy.st_callV (us := []) (ks := ks) T F (by exact rfl) hfl (by exact rfl) (by exact rfl) hcc ?_; (clear T F; intro ac w T F)
      repeat (first
    | (((with_reducible refine Sy.is_load ?_); (first | refine Sy.st_loadOne T F (h := ?_) | refine Sy.st_oldOne T F (h := ?_) | refine Sy.st_loadAll T F (h := ?_) | (refine Sy.st_loadCut T F (h := ?_); conv => whnf) | refine Sy.st_oldAgg T F (h := ?_) | (refine Sy.st_oldCut T F (h := ?_); conv => whnf)); clear T; intro ac T))
    | (((with_reducible refine Sy.is_op ?_); refine Sy.st_pure T (h := ?_); clear T; intro ac T))
    | ((with_reducible refine Sy.atK (hK _ _ ?_)))
    | ((with_reducible refine Sy.is_cond ?_); (first | refine Sy.st_true T (h := ?_) | refine Sy.st_false T (h := ?_)))
    | (with_reducible refine wpList_nil ?_)
    | (with_reducible refine wp_region_lit ?_)
    | (with_reducible refine wp_block ?_)
    | (with_reducible refine wp_skip ?_)
    | (with_reducible refine wp_exit ?_)
    | (with_reducible refine wp_ret ?_)
    | ((with_reducible refine wp_seq_k ?_); intro _ _)
    | (go_at_K; go_step)
    | (simp only [Exit.then, Exit.inBlock, ↓reduceIte, Nat.reduceEqDiff]))
      ((try simp only [Exit.inBlock, Exit.then]); refine Sy.st_ret1 T F rfl (by repeat (first | exact Sy.ResV.nil | apply Sy.ResV.tmp rfl | apply Sy.ResV.row rfl rfl rfl (by repeat (first | exact Sy.Take.here | apply Sy.Take.there)) (by rfl) | apply Sy.ResV.one rfl rfl rfl (by repeat (first | exact Sy.Take.here | apply Sy.Take.there)) (by rfl))) ?_)
      rw [idx_some hlt hn hp]
      exact F.retV _
  · obtain rfl : k = l.length := by omega
    have t1 : decide ((l.length : Int) < (l.length : Int)) = false := decide_eq_false (by omega)
    rw [List.take_length] at hn
    repeat (first
    | (((with_reducible refine Sy.is_load ?_); (first | refine Sy.st_loadOne T F (h := ?_) | refine Sy.st_oldOne T F (h := ?_) | refine Sy.st_loadAll T F (h := ?_) | (refine Sy.st_loadCut T F (h := ?_); conv => whnf) | refine Sy.st_oldAgg T F (h := ?_) | (refine Sy.st_oldCut T F (h := ?_); conv => whnf)); clear T; intro ac T))
    | (((with_reducible refine Sy.is_op ?_); refine Sy.st_pure T (h := ?_); clear T; intro ac T))
    | ((with_reducible refine Sy.atK (hK _ _ ?_)))
    | ((with_reducible refine Sy.is_cond ?_); (first | refine Sy.st_true T (h := ?_) | refine Sy.st_false T (h := ?_)))
    | (with_reducible refine wpList_nil ?_)
    | (with_reducible refine wp_region_lit ?_)
    | (with_reducible refine wp_block ?_)
    | (with_reducible refine wp_skip ?_)
    | (with_reducible refine wp_exit ?_)
    | (with_reducible refine wp_ret ?_)
    | ((with_reducible refine wp_seq_k ?_); intro _ _)
    | (go_at_K; go_step)
    | (simp only [Exit.then, Exit.inBlock, ↓reduceIte, Nat.reduceEqDiff]))
    ((try simp only [Exit.inBlock, Exit.then]); refine Sy.st_ret1 T F rfl (by repeat (first | exact Sy.ResV.nil | apply Sy.ResV.tmp rfl | apply Sy.ResV.row rfl rfl rfl (by repeat (first | exact Sy.Take.here | apply Sy.Take.there)) (by rfl) | apply Sy.ResV.one rfl rfl rfl (by repeat (first | exact Sy.Take.here | apply Sy.Take.there)) (by rfl))) ?_)
    rw [idx_none hn]
    exact F.retV _
set_option maxRecDepth 20000 in
theorem containsRule (w : World) {a : Option Addr} {cap : Nat} {l : List RuleD} (h : Rows RuleR 7 w a l) {f : FuncId} {ks : List Value} {p : RuleD → Bool} (hfl : Sy.fl.contains f = true) (hc : ClosB RuleR w f ks l p) :
    Calls Try.prog 83 #[.slice a l.length cap, .func (.func f) #[] ks.toArray] w (RetV w (.bool (l.any p))) := by
  have F := Sy.Mem.start (Sub.refl w)
  have t1 : decide (idxS p l ≥ 0) = l.any p := idx_any p l
  refine Sy.enter Try.func83 rfl Try.ntmps83 rfl ?_; intro ac T; simp only [Sy.enum, Nat.zero_add, Nat.reduceAdd] at T
  repeat (first
    | (((with_reducible refine Sy.is_op ?_); refine Sy.st_pure T (h := ?_); clear T; intro ac T))
    | ((with_reducible refine Sy.atK (hK _ _ ?_)))
    | ((with_reducible refine Sy.is_cond ?_); (first | refine Sy.st_true T (h := ?_) | refine Sy.st_false T (h := ?_)))
    | (with_reducible refine wpList_nil ?_)
    | (with_reducible refine wp_region_lit ?_)
    | (with_reducible refine wp_block ?_)
    | (with_reducible refine wp_skip ?_)
    | (with_reducible refine wp_exit ?_)
    | (with_reducible refine wp_ret ?_)
    | ((with_reducible refine wp_seq_k ?_); intro _ _)
    | (go_at_K; go_step)
    | (simp only [Exit.then, Exit.inBlock, ↓reduceIte, Nat.reduceEqDiff]))
  refine Sy.st_callV0 T F (hc := indexRule _ h hfl hc) (h := ?_); (clear T F; intro ac w T F)
  repeat (first
    | (((with_reducible refine Sy.is_op ?_); refine Sy.st_pure T (h := ?_); clear T; intro ac T))
    | ((with_reducible refine Sy.atK (hK _ _ ?_)))
    | ((with_reducible refine Sy.is_cond ?_); (first | refine Sy.st_true T (h := ?_) | refine Sy.st_false T (h := ?_)))
    | (with_reducible refine wpList_nil ?_)
    | (with_reducible refine wp_region_lit ?_)
    | (with_reducible refine wp_block ?_)
    | (with_reducible refine wp_skip ?_)
    | (with_reducible refine wp_exit ?_)
    | (with_reducible refine wp_ret ?_)
    | ((with_reducible refine wp_seq_k ?_); intro _ _)
    | (go_at_K; go_step)
    | (simp only [Exit.then, Exit.inBlock, ↓reduceIte, Nat.reduceEqDiff]))
  ((try simp only [Exit.inBlock, Exit.then]); refine Sy.st_ret1 T F rfl (by repeat (first | exact Sy.ResV.nil | apply Sy.ResV.tmp rfl | apply Sy.ResV.row rfl rfl rfl (by repeat (first | exact Sy.Take.here | apply Sy.Take.there)) (by rfl) | apply Sy.ResV.one rfl rfl rfl (by repeat (first | exact Sy.Take.here | apply Sy.Take.there)) (by rfl))) ?_)
  exact F.retV _
end Tb
end Go.Proofs.Ytniopkoaplkpkaa
