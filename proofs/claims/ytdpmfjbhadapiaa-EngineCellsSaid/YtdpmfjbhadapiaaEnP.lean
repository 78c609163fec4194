/- The walk of engine.Apply, where what is handed in may be. Conditions: what comes may be; the lists are short and rise. The document's example of the engine: awake answers true. No condition. -/
import Derived.Test.YtdpmfjbhadapiaaEnN
import Derived.Test.YtdpmfjbhadapiaaEnA
import Derived.Test.YtdpmfjbhadapiaaMayC
import Derived.Test.YtdpmfjbhadapiaaSyD
namespace Go.Proofs.Ytdpmfjbhadapiaa
open Go.RowKit
set_option linter.unusedVariables false
set_option linter.unusedSimpArgs false
namespace En
open Sy (RetV RetM Sub RetE RetO)
open Rg (RowsOf eqT eqF i64_up i64_wrap U8 U64 I64 RegD RegA RegAt RetR regCs DoneD DoneR MarkD MarkR CellD CellR OpD opCs RepD RepA RepAt repCs NumR OwnRows greatS zeroReg zeroRegA)
open Tb (TabD TabAt tabCs fireS FireD OkA)
/-- the lists that the call owns stand still from here on -/
theorem MemE.thaw {W m0 m w : World} {bs : List Sy.Blk} {r : RegD} {q : RegA} {cd co cm : List (List Value)} (F : Sy.MemE (Sy.OwL (nowL r q cd co cm)) ⟨W, [], m0⟩ m bs w) (h : NowAt m r q cd co cm) :
    ∃ m', Sub m m' ∧ Sy.MemE Sy.E0 ⟨W, [], m0⟩ m' bs w ∧ RegAt m' r q := by
  obtain ⟨va, vc, da, dc, oa, oc, ma, mc⟩ := q
  have hr := now_reg F h
  obtain ⟨m1, s1, F1, c1⟩ := F.toA.freeze
  obtain ⟨m2, s2, F2, c2⟩ := F1.toA.freeze
  obtain ⟨m3, s3, F3, c3⟩ := F2.toA.freeze
  have h3 := h.sub ((s1.trans s2).trans s3)
  have lim : ∀ {n cap : Nat}, n ≤ cap ∧ cap ≤ maxLen → n ≤ maxLen := fun h => Nat.le_trans h.1 h.2
  refine ⟨m3, (s1.trans s2).trans s3, F3.to0, h3.kind, h3.inc, h3.state, h3.last, h3.vars, ?_, ?_, ?_, h3.cv, hr.cd, hr.co, hr.cm⟩
  · exact Rg.flat_rows (lim hr.cd) (by omega) h3.done (Sy.cells_sub (c1 _ _ rfl) (s2.trans s3))
  · exact Rg.flat_rows (lim hr.co) (by omega) h3.out (Sy.cells_sub (c2 _ _ rfl) s3)
  · exact Rg.flat_rows (lim hr.cm) (by omega) h3.marks (c3 _ _ rfl)
theorem cloneIntsM {w m : World} (hs : Sub m w) {a : Option Addr} (cap : Nat) {l : List Int} (hl : Nums w a l) (hn : l.length ≤ 50) :
    Calls Try.prog 38 #[.slice a l.length cap] w (RetM m w fun m' v => ∃ a' cap', v = .slice a' l.length cap' ∧ Nums m' a' l ∧ l.length ≤ cap' ∧ cap' ≤ maxLen) :=
  (Rg.cloneInts w a cap l hl hn).mono fun e w' ⟨⟨a', cap', he, ho⟩, hb⟩ => by
    obtain ⟨m', q1, q2, q3, q4⟩ := Sy.retM_of_own hs hb
    refine ⟨_, m', he, hb, q1, q2, q3, a', cap', rfl, Tb.nums_move ho q4, ?_⟩
    obtain ⟨css, _, a2, cap2, hv, _, hn, hm, _⟩ := ho
    obtain ⟨_, _, rfl⟩ := Value.slice.inj hv
    exact ⟨hn, hm⟩
theorem st_cloneR {tab : List (Nat × Sy.Ty)} {fl : List Nat} {a : Act} {n : Nat} {ts : List (Nat × Value)} {w : World} {ty : TypeId} {pos : String} {af : Array Edge} {ops : Array Oper} {Q : Exit → Act → World → Prop} {rest : List Oper} {c : Sy.Cx} {m : World} {bs : List Sy.Blk} [S : Sy.Seat Try.prog tab fl] {d : Nat} {f : FuncId} {args : List Operand} {ats : Array TypeId} {vs : List Value} {r : RegD} (T : Sy.Tm a n ts) (F : Sy.MemE Sy.E0 c m bs w) (hc : Calls Try.prog f vs.toArray w (RetR w r))
    (hfl : fl.contains f = true := by exact rfl) (ha : Sy.evs ts args = some vs := by exact rfl) (hd : Nat.blt d n = true := by exact rfl)
    (h : ∀ q m' cd co cm a' w', Sub m m' → NowAt m' r q cd co cm → Sy.Tm a' n ((d, .agg (regCs r q).toArray) :: ts) → Sy.MemE (Sy.OwL (nowL r q cd co cm)) c m' bs w' → wpList Try.prog ops Q rest a' w') :
    wpList Try.prog ops Q (⟨some d, .call { callee := .value (.func f), args := args.toArray, argTypes := ats }, ty, pos, af, none⟩ :: rest) a w :=
  Sy.st_call (R := RetR w r) (us := []) (ks := []) T rfl hfl ha hd (by simpa using hc) fun en w' ⟨⟨q, he, ho⟩, hb⟩ => ⟨_, he, fun a' T' => by
    obtain ⟨m', cd, co, cm, h1, h2, h3⟩ := MemE.cloned F ho hb
    exact h q m' cd co cm a' w' h1 h3 T' h2⟩
/-- an entry that answers -/
def hitS (o : OpD) (d : DoneD) : Bool := !((o.client : Int) == 0 || (!((d.client : Int) == (o.client : Int)) || decide ((d.seq : Int) < (o.seq : Int))))
def repOf (x : RegD × Nat) : RepD := if x.2 = 0 ∧ x.1.kind = 1 then ⟨0, x.1.inc, x.1.state, x.1.vars⟩ else ⟨(x.2 : Int), 0, 0, []⟩
def noteS (x : RegD) (o : OpD) (p : RepD) : RegD := if 0 < o.client ∧ x.kind ≠ 0 then { x with done := insK (·.client) x.done ⟨o.client, o.seq, p⟩ } else x
theorem hit_t {o : OpD} {d : DoneD} (h : hitS o d = true) : (((o.client : Int) == 0) = false) ∧ (((d.client : Int) == (o.client : Int)) = true) ∧ decide ((d.seq : Int) < (o.seq : Int)) = false := by
  revert h
  unfold hitS
  cases ((o.client : Int) == 0) <;> cases ((d.client : Int) == (o.client : Int)) <;> cases decide ((d.seq : Int) < (o.seq : Int)) <;> decide
theorem hit_f {o : OpD} {d : DoneD} (h : hitS o d = false) : ((o.client : Int) == 0) = true ∨ (((o.client : Int) == 0) = false ∧ ((d.client : Int) == (o.client : Int)) = false) ∨ (((o.client : Int) == 0) = false ∧ ((d.client : Int) == (o.client : Int)) = true ∧ decide ((d.seq : Int) < (o.seq : Int)) = true) := by
  revert h
  unfold hitS
  cases ((o.client : Int) == 0) <;> cases ((d.client : Int) == (o.client : Int)) <;> cases decide ((d.seq : Int) < (o.seq : Int)) <;> decide
theorem find_upG {α : Type} {p : α → Bool} {l : List α} {k : Nat} (hk : k < l.length) (h0 : (l.take k).find? p = none) (h : p l[k] = false) : (l.take (k + 1)).find? p = none := by
  rw [List.take_succ_eq_append_getElem hk, List.find?_append, h0]
  simp [h]
theorem find_hit {α : Type} {p : α → Bool} {l : List α} {k : Nat} (hk : k < l.length) (h0 : (l.take k).find? p = none) (h : p l[k] = true) : l.find? p = some l[k] := by
  have e : l.find? p = (l.take k ++ l[k] :: l.drop (k + 1)).find? p := by rw [← List.drop_eq_getElem_cons hk, List.take_append_drop]
  rw [e, List.find?_append, h0, Option.none_or, List.find?_cons, h]
/-- what Apply hands back -/
def applyR (t : TabD) (r : RegD) (o : OpD) (count n : Nat) : RegD × RepD :=
  match r.done.find? (hitS o) with
  | some d => if o.seq < d.seq then (r, ⟨15, 0, 0, []⟩) else (r, d.rep)
  | none => (noteS (doesR t r o count n).1 o (repOf (doesR t r o count n)), repOf (doesR t r o count n))
def ApplyV (x : RegD × RepD) (m : World) (v : Value) : Prop := ∃ q a, v = .tuple #[.agg (regCs x.1 q).toArray, .agg (repCs x.2 a).toArray, .int .i64 0] ∧ RegAt m x.1 q ∧ RepAt m x.2 a
/-- what a call of Apply asks of what is handed in -/
structure Good (t : TabD) (r : RegD) (o : OpD) (count n : Nat) : Prop where
  arg : OkA o.arg
  seq : U64 o.seq
  inc : U64 o.inc
  cell : U64 o.cell
  op : MayO o
  reg : Rg.mayS r = true
  tab : Tb.mayS t = true
  c0 : count ≠ 0
  c64 : U64 count
  tv : t.vars = (n : Int)
  n8 : n ≤ 8
  live : r.kind = 1 → r.vars.length = n
  short : greatS r = false
  marks : (r.marks.map (·.source)).Pairwise (· < ·)
  dones : (r.done.map (·.client)).Pairwise (· < ·)
theorem does_done (t : TabD) (r : RegD) (o : OpD) (count n : Nat) : (doesR t r o count n).1.done = r.done := by
  have hf : ∀ party, (fireR t r o party).1.done = r.done := fun party => by
    simp only [fireR]
    split
    · rfl
    · split <;> rfl
  unfold doesR
  repeat' split
  all_goals first
    | rfl
    | exact hf _
    | (unfold createR; split <;> rfl)
    | (unfold removeR; split <;> rfl)
    | (unfold consumeR; split; · rfl
       split; · rfl
       exact hf _)
theorem does_vars (t : TabD) (r : RegD) (o : OpD) (count n : Nat) (h1 : r.vars.length ≤ 50) (h2 : t.vars = (n : Int)) (h3 : n ≤ 8) : (doesR t r o count n).1.vars.length ≤ 50 := by
  have hf : ∀ party, (fireR t r o party).1.vars.length ≤ 50 := fun party => by
    have hst := Tb.fire_stays (t := t) (state := r.state) (action := o.action) (party := party) (vars := r.vars) (arg := o.arg)
    simp only [fireR]
    split
    · exact h1
    · rename_i he
      split
      · exact h1
      · simp only [firedS]
        rcases hst with hst | hst
        · exact absurd hst.1 he
        · have := hst.2.2.2.1
          omega
  unfold doesR
  repeat' split
  all_goals first
    | exact h1
    | exact hf _
    | (unfold createR; split; · exact h1
       simp [createS]; omega)
    | (unfold removeR; split; · exact h1
       simp [tombS])
    | (unfold consumeR; split; · exact h1
       split; · exact h1
       exact hf _)
theorem first_le {α : Type} {f : α → Nat} {B : Nat} (h : ∀ x, f x ≤ B) : ∀ l : List α, Tb.firstE f l ≤ B
  | [] => Nat.zero_le _
  | x :: l => by
    unfold Tb.firstE
    split
    · exact first_le h l
    · exact h x
theorem ev_le (vars : List Int) (arg : Int) (l : List Ex.Tok) : Tb.evE vars arg l ≤ 18 := by
  unfold Tb.evE Ex.evalS
  split
  · split <;> simp
  · simp
theorem fireS_le (t : TabD) (state action party : Int) (vars : List Int) (arg : Int) : (fireS t state action party vars arg).e ≤ 18 := by
  unfold fireS
  split
  · simp
  · split
    · simp
    · unfold Tb.runS
      split
      · exact first_le (fun s => ev_le _ _ _) _
      · split
        · exact first_le (fun s => ev_le _ _ _) _
        · simp
theorem fireR_le (t : TabD) (r : RegD) (o : OpD) (party : Int) : (fireR t r o party).2 ≤ 20 := by
  have := fireS_le t r.state o.action party r.vars o.arg
  simp only [fireR]
  split
  · simp only; omega
  · split <;> simp
theorem does_le (t : TabD) (r : RegD) (o : OpD) (count n : Nat) : (doesR t r o count n).2 ≤ 20 := by
  unfold doesR
  repeat' split
  all_goals first
    | exact fireR_le _ _ _ _
    | (simp; done)
    | (unfold createR; split <;> simp)
    | (unfold removeR; split <;> simp)
    | (unfold consumeR; split; · simp
       split; · simp
       exact fireR_le _ _ _ _)
theorem does_err (t : TabD) (r : RegD) (o : OpD) (count n : Nat) : I64 ((doesR t r o count n).2 : Int) := by
  have := does_le t r o count n
  unfold I64
  omega
theorem rep0 (m : World) (e : Int) (he : I64 e) : RepAt m ⟨e, 0, 0, []⟩ ⟨none, 0⟩ := ⟨he, by unfold U64; simp, by unfold I64; simp, (Rows.nil _ _ _ _ : Nums m none []), Nat.zero_le _, Nat.zero_le _⟩
set_option maxRecDepth 20000 in
set_option maxHeartbeats 4000000 in
theorem apply_any (W M : World) (hs : Sub M W) (t : TabD) (ta : Option Addr) (tc : Nat) (ht : TabAt M t ta tc) (r : RegD) (p : RegA) (hr : RegAt M r p) (o : OpD) (count n : Nat) (hg : Good t r o count n) :
    Calls Try.prog 26 #[.agg (tabCs t ta tc).toArray, .agg (regCs r p).toArray, .agg (opCs o).toArray, .int .u64 (count : Int)] W (RetM M W (ApplyV (applyR t r o count n))) := by
  have F := Sy.Mem.start hs
  have hsh := Rg.short_of hg.short
  have c0 := eqF (a := (count : Int)) (b := 0) (by have := hg.c0; omega)
  have hgl := hg.live
  have hgv := hg.tv
  refine Sy.enter Try.func26 rfl Try.ntmps26 rfl ?_; intro ac T; simp only [Sy.enum, Nat.zero_add, Nat.reduceAdd] at T
  repeat (first
    | (((with_reducible refine Sy.is_load ?_); (refine Sy.st_loadAll T F (h := ?_)); clear T; intro ac T))
    | (((with_reducible refine Sy.is_box ?_); (refine Sy.st_boxAgg T F (h := ?_)); clear T F; intro ac g w T F))
    | (((with_reducible refine Sy.is_alloc ?_); refine Sy.st_alloc T F (h := ?_); clear T F; intro ac g w T F))
    | (((with_reducible refine Sy.is_op ?_); refine Sy.st_pure T (h := ?_); clear T; intro ac T))
    | (with_reducible refine wpList_nil ?_)
    | (with_reducible refine wp_region_lit ?_)
    | ((with_reducible refine wp_seq_k ?_); intro _ _)
    | (go_at_K; go_step)
    | (simp only [Exit.then, Exit.inBlock, ↓reduceIte, Nat.reduceEqDiff]))
  have G := opMay_any w o
  rw [decide_eq_true hg.op] at G
  refine Sy.st_callV0 T F (hc := G) (h := ?_); (clear T F; intro ac w T F)
  clear G
  repeat (first
    | (((with_reducible refine Sy.is_guard ?_); (refine Sy.st_guard T (h := ?_))))
    | (((with_reducible refine Sy.is_load ?_); (refine Sy.st_loadAll T F (h := ?_)); clear T; intro ac T))
    | (((with_reducible refine Sy.is_op ?_); refine Sy.st_pure T (h := ?_); clear T; intro ac T)))
  have G := Rg.may_any w r p (hr.sub F.sub) hsh
  rw [hg.reg] at G
  refine Sy.st_callV0 T F (hc := G) (h := ?_); (clear T F; intro ac w T F)
  clear G
  repeat (first
    | (((with_reducible refine Sy.is_guard ?_); (refine Sy.st_guard T (h := ?_))))
    | (((with_reducible refine Sy.is_load ?_); (refine Sy.st_loadAll T F (h := ?_)); clear T; intro ac T))
    | (((with_reducible refine Sy.is_op ?_); refine Sy.st_pure T (h := ?_); clear T; intro ac T)))
  have G := Tb.mayM F.sub ht hg.tab; refine Sy.st_callV0 T F (hc := G) (h := ?_); (clear T F G; intro ac w T F)
  obtain ⟨b4, rfl⟩ := nameP T 4 rfl
  obtain ⟨b5, rfl⟩ := nameP T 5 rfl
  obtain ⟨b6, rfl⟩ := nameP T 6 rfl
  obtain ⟨b8, rfl⟩ := nameP T 8 rfl
  obtain ⟨b9, rfl⟩ := nameP T 9 rfl
  rename ∀ (a : Act) (w : World), Code.wp _ (Code.seq (Code.region 3 _ _) _) _ a w → _ => hK3
  have H := Sy.cutP (I := fun ac w => Sy.Tm ac 138 [(3, .int .u64 (count : Int)), (4, .pointer (some ⟨b4, 0, none⟩)), (5, .pointer (some ⟨b5, 0, none⟩)), (6, .pointer (some ⟨b6, 0, none⟩)), (8, .pointer (some ⟨b8, 0, none⟩)), (9, .pointer (some ⟨b9, 0, none⟩))] ∧ Sy.MemE Sy.E0 ⟨W, [], M⟩ M [⟨b9, repCs ⟨0, 0, 0, []⟩ ⟨none, 0⟩, 57⟩, ⟨b8, regCs zeroReg zeroRegA, 51⟩, ⟨b6, opCs o, 53⟩, ⟨b5, regCs r p, 51⟩, ⟨b4, tabCs t ta tc, 24⟩] w) hK3 (by
    clear T F
    intro ac w hI
    obtain ⟨T, F⟩ := hI
    clear hK3
    repeat (first
    | (((with_reducible refine Sy.is_load ?_); (refine Sy.st_loadAll T F (h := ?_)); clear T; intro ac T))
    | (with_reducible refine wp_region_lit ?_)
    | ((with_reducible refine wp_seq_k ?_); intro _ _))
    refine st_cloneR T F (Rg.regClone_any w r p (hr.sub F.sub) hg.short) (h := ?_)
    clear T F; intro q m cd co cm ac w hS h T F
    obtain ⟨va, vc, da, dc, oa, oc, ma, mc⟩ := q
    repeat (first
    | (((with_reducible refine Sy.is_load ?_); (refine Sy.st_loadOne T F (h := ?_)); clear T; intro ac T))
    | (((with_reducible refine Sy.is_store ?_); (refine Sy.st_storeAll T F (h := ?_)); clear T F; intro ac w T F))
    | (((with_reducible refine Sy.is_alloc ?_); refine Sy.st_alloc T F (h := ?_); clear T F; intro ac g w T F))
    | (((with_reducible refine Sy.is_op ?_); refine Sy.st_pure T (h := ?_); clear T; intro ac T))
    | (with_reducible refine wpList_nil ?_)
    | (with_reducible refine wp_region_lit ?_)
    | (with_reducible refine wp_block ?_)
    | ((with_reducible refine wp_seq_k ?_); intro _ _)
    | (go_at_K; go_step)
    | (simp only [Exit.then, Exit.inBlock, ↓reduceIte, Nat.reduceEqDiff]))
    obtain ⟨b11, rfl⟩ := nameP T 11 rfl
    have hdl := hsh.d
    refine wp_loop_ghost_k (fun n0 ac w' => ∃ k, n0 = r.done.length - k ∧ k ≤ r.done.length ∧ (r.done.take k).find? (hitS o) = none ∧ Sy.Tm ac 138 [(3, .int .u64 (count : Int)), (4, .pointer (some ⟨b4, 0, none⟩)), (6, .pointer (some ⟨b6, 0, none⟩)), (8, .pointer (some ⟨b8, 0, none⟩)), (9, .pointer (some ⟨b9, 0, none⟩)), (11, .pointer (some ⟨b11, 0, none⟩)), (51, .slice da r.done.length dc), (52, .int .i64 (r.done.length : Int)), (53, .int .i64 (k : Int))] ∧ Sy.MemE (Sy.OwL (nowL r ⟨va, vc, da, dc, oa, oc, ma, mc⟩ cd co cm)) ⟨W, [], M⟩ m [⟨b11, regCs r ⟨va, vc, da, dc, oa, oc, ma, mc⟩, 51⟩, ⟨b9, repCs ⟨0, 0, 0, []⟩ ⟨none, 0⟩, 57⟩, ⟨b8, regCs zeroReg zeroRegA, 51⟩, ⟨b6, opCs o, 53⟩, ⟨b4, tabCs t ta tc, 24⟩] w') r.done.length ?_ ?_
    · exact ⟨0, rfl, Nat.zero_le _, rfl, (T.part (by repeat (first | exact Sy.Part.nil | apply Sy.Part.cons rfl))), (F.sel (by repeat (first | exact Sy.Sel.nil | apply Sy.Sel.cons (by repeat (first | exact Sy.Take.here | apply Sy.Take.there)))))⟩
    clear T F
    intro n0 ac w hI J K hJ hK
    obtain ⟨k, rfl, hk, hno, T, F⟩ := hI
    by_cases hlt : k < r.done.length
    · have v1 : decide ((k : Int) < (r.done.length : Int)) = true := decide_eq_true (by omega)
      have v2 : IntKind.i64.wrap ((k : Int) + 1) = ((k + 1 : Nat) : Int) := by rw [i64_wrap (by omega) (by omega)]; omega
      have hdr : Rows (fun _ => DoneR m) 6 w da r.done := own_rows (R := fun _ => DoneR m) (m := m) (by omega) h.done (fun _ _ h => h) (F.ownAt (by unfold nowL; exact List.mem_cons_self ..))
      obtain ⟨b, oo, row, hda, hcl, hat, hrow⟩ := rows_get hdr hlt
      clear hdr
      try simp only at hda
      subst hda
      obtain ⟨⟨pa, pc⟩, rfl, hu1, hu2, hrep⟩ := hrow
      repeat (first
    | (((with_reducible refine Sy.is_op ?_); refine Sy.st_pure T (h := ?_); clear T; intro ac T))
    | ((with_reducible refine Sy.is_cond ?_); (refine Sy.st_true T (h := ?_)))
    | (with_reducible refine wpList_nil ?_)
    | (with_reducible refine wp_region_lit ?_)
    | (with_reducible refine wp_block ?_)
    | (with_reducible refine wp_skip ?_)
    | ((with_reducible refine wp_seq_k ?_); intro _ _)
    | (go_at_K; go_step)
    | (simp only [Exit.then, Exit.inBlock, ↓reduceIte, Nat.reduceEqDiff]))
      refine Sy.st_loadW T hat rfl (h := ?_); clear T hat; intro ac T
      cases hh : hitS o r.done[k] with
      | false =>
        rcases hit_f hh with z1 | ⟨z1, z2⟩ | ⟨z1, z2, z3⟩
        all_goals
          repeat (first
    | (((with_reducible refine Sy.is_guard ?_); (first
    | refine Sy.st_guard T (h := ?_)
    | (refine Sy.st_unguard T (h := ?_); clear T; intro ac T))))
    | (((with_reducible refine Sy.is_load ?_); (refine Sy.st_loadOne T F (h := ?_)); clear T; intro ac T))
    | (((with_reducible refine Sy.is_store ?_); (refine Sy.st_storeAll T F (h := ?_)); clear T F; intro ac w T F))
    | (((with_reducible refine Sy.is_alloc ?_); refine Sy.st_alloc T F (h := ?_); clear T F; intro ac g w T F))
    | (((with_reducible refine Sy.is_op ?_); refine Sy.st_pure T (h := ?_); clear T; intro ac T))
    | ((with_reducible refine Sy.is_cond ?_); (refine Sy.st_true T (h := ?_)))
    | (with_reducible refine wpList_nil ?_)
    | (with_reducible refine wp_region_lit ?_)
    | (with_reducible refine wp_block ?_)
    | (with_reducible refine wp_exit ?_)
    | ((with_reducible refine wp_seq_k ?_); intro _ _)
    | (go_at_K; go_step)
    | (simp only [Exit.then, Exit.inBlock, ↓reduceIte, Nat.reduceEqDiff]))
          exact Sy.handed hJ (k := r.done.length - (k + 1)) (by omega) ⟨k + 1, rfl, by omega, find_upG hlt hno hh, (T.part (by repeat (first | exact Sy.Part.nil | apply Sy.Part.cons rfl))), (F.sel (by repeat (first | exact Sy.Sel.nil | apply Sy.Sel.cons (by repeat (first | exact Sy.Take.here | apply Sy.Take.there)))))⟩
      | true =>
        obtain ⟨z1, z2, z3⟩ := hit_t hh
        have hres := find_hit hlt hno hh
        by_cases hq : o.seq < r.done[k].seq
        · have z4 : decide ((r.done[k].seq : Int) > (o.seq : Int)) = true := decide_eq_true (by omega)
          have hres2 : applyR t r o count n = (r, ⟨15, 0, 0, []⟩) := by
            unfold applyR
            rw [hres]
            exact if_pos hq
          repeat (first
    | (((with_reducible refine Sy.is_guard ?_); (refine Sy.st_guard T (h := ?_))))
    | (((with_reducible refine Sy.is_load ?_); (first
    | refine Sy.st_loadOne T F (h := ?_)
    | refine Sy.st_loadAll T F (h := ?_)); clear T; intro ac T))
    | (((with_reducible refine Sy.is_store ?_); (refine Sy.st_storeAll T F (h := ?_)); clear T F; intro ac w T F))
    | (((with_reducible refine Sy.is_alloc ?_); refine Sy.st_alloc T F (h := ?_); clear T F; intro ac g w T F))
    | (((with_reducible refine Sy.is_build ?_); refine Sy.st_build T (h := ?_); (conv => whnf); (repeat (refine ⟨by first | exact rfl | exact ⟨rfl, rfl⟩, ?_⟩; (conv => whnf))); clear T; intro ac T))
    | (((with_reducible refine Sy.is_op ?_); refine Sy.st_pure T (h := ?_); clear T; intro ac T))
    | ((with_reducible refine Sy.is_cond ?_); (first
    | refine Sy.st_true T (h := ?_)
    | refine Sy.st_false T (h := ?_)))
    | (with_reducible refine wpList_nil ?_)
    | (with_reducible refine wp_region_lit ?_)
    | (with_reducible refine wp_block ?_)
    | (with_reducible refine wp_ret ?_)
    | ((with_reducible refine wp_seq_k ?_); intro _ _)
    | (go_at_K; go_step)
    | (simp only [Exit.then, Exit.inBlock, ↓reduceIte, Nat.reduceEqDiff]))
          ((try simp only [Exit.inBlock, Exit.then]); refine Sy.st_ret2 T F rfl (by repeat (first | exact Sy.ResV.nil | apply Sy.ResV.tmp rfl | apply Sy.ResV.row rfl rfl rfl (by repeat (first | exact Sy.Take.here | apply Sy.Take.there)) (by rfl) | apply Sy.ResV.one rfl rfl rfl (by repeat (first | exact Sy.Take.here | apply Sy.Take.there)) (by rfl))) ?_)
          rw [hres2]
          obtain ⟨m5, s5, F5, hreg⟩ := MemE.thaw F h
          exact F5.retM ⟨_, ⟨none, 0⟩, rfl, hreg, rep0 m5 15 (by unfold I64; omega)⟩
        · have z4 : decide ((r.done[k].seq : Int) > (o.seq : Int)) = false := decide_eq_false (by omega)
          have hres2 : applyR t r o count n = (r, r.done[k].rep) := by
            unfold applyR
            rw [hres]
            exact if_neg hq
          have hvl : r.done[k].rep.vars.length ≤ 50 := (Rg.great_lens hg.short).2.2.2.2 _ (List.getElem_mem hlt)
          repeat (first
    | (((with_reducible refine Sy.is_guard ?_); (refine Sy.st_guard T (h := ?_))))
    | (((with_reducible refine Sy.is_load ?_); (refine Sy.st_loadOne T F (h := ?_)); clear T; intro ac T))
    | (((with_reducible refine Sy.is_store ?_); (refine Sy.st_storeAll T F (h := ?_)); clear T F; intro ac w T F))
    | (((with_reducible refine Sy.is_alloc ?_); refine Sy.st_alloc T F (h := ?_); clear T F; intro ac g w T F))
    | (((with_reducible refine Sy.is_op ?_); refine Sy.st_pure T (h := ?_); clear T; intro ac T))
    | ((with_reducible refine Sy.is_cond ?_); (refine Sy.st_false T (h := ?_)))
    | (with_reducible refine wpList_nil ?_)
    | (with_reducible refine wp_region_lit ?_)
    | (with_reducible refine wp_block ?_)
    | (with_reducible refine wp_skip ?_)
    | ((with_reducible refine wp_seq_k ?_); intro _ _)
    | (go_at_K; go_step)
    | (simp only [Exit.then, Exit.inBlock, ↓reduceIte, Nat.reduceEqDiff]))
          have G := cloneIntsM F.sub pc (hrep.2.2.2.1.sub F.sub) hvl; refine Sy.st_callM0 T F (hc := G) (h := ?_); (clear T F G; intro v m ac w hR hS T F)
          obtain ⟨a5, c5, rfl, hn5, hc5, hm5⟩ := hR
          repeat (first
    | (((with_reducible refine Sy.is_store ?_); (first
    | refine Sy.st_storeAll T F (h := ?_)
    | (refine Sy.st_storeOne T F (h := ?_); conv => whnf)); clear T F; intro ac w T F))
    | (((with_reducible refine Sy.is_op ?_); refine Sy.st_pure T (h := ?_); clear T; intro ac T))
    | ((with_reducible refine Sy.atK (hK _ _ ?_)))
    | (with_reducible refine wpList_nil ?_)
    | (with_reducible refine wp_ret ?_)
    | ((with_reducible refine wp_seq_k ?_); intro _ _)
    | (go_at_K; go_step)
    | (simp only [Exit.then, Exit.inBlock, ↓reduceIte, Nat.reduceEqDiff])
    | ((with_reducible refine Sy.is_drawn (id := 11) ?_); refine Sy.sx_regionW T F 8 rfl (.t 0 (.t 1 (.t 2 (.h 3 .e)))) [4, 5] (by kernel_rfl) ?_; (clear F; intro w F); dsimp only)
    | ((refine Sy.sx_plain (h := ?_)); (first
    | ((with_reducible refine Sy.ux_load ?_); (first
    | refine Sy.sx_val (Sy.rx_loadAll T F) T rfl ?_
    | (refine Sy.sx_loadCut T F (h := ?_); conv => whnf)); clear T; intro ac T)
    | (refine Sy.sx_pure T (h := ?_); clear T; intro ac T)); show Sy.wpUx _ _ _ _ _ _ _ _ _)
    | (with_reducible refine Sy.sx_nil ?_)
    | (with_reducible refine Sy.sx_end ?_)
    | (with_reducible refine Sy.sx_tail rfl rfl (fun K hK => ?_))
    | ((refine Sy.sx_storeAll (T := T) (F := F) (h := ?_)); clear T F; intro ac w T F))
          ((try simp only [Exit.inBlock, Exit.then]); refine Sy.st_ret2 T F rfl (by repeat (first | exact Sy.ResV.nil | apply Sy.ResV.tmp rfl | apply Sy.ResV.row rfl rfl rfl (by repeat (first | exact Sy.Take.here | apply Sy.Take.there)) (by rfl) | apply Sy.ResV.one rfl rfl rfl (by repeat (first | exact Sy.Take.here | apply Sy.Take.there)) (by rfl))) ?_)
          rw [hres2]
          obtain ⟨m5, s5, F5, hreg⟩ := MemE.thaw F (h.sub hS)
          exact F5.retM ⟨_, ⟨a5, c5⟩, rfl, hreg, hrep.1, hrep.2.1, hrep.2.2.1, hn5.sub s5, hc5, hm5⟩
    · obtain rfl : k = r.done.length := by omega
      have v1 : decide ((r.done.length : Int) < (r.done.length : Int)) = false := decide_eq_false (by omega)
      rw [List.take_length] at hno
      have hres : applyR t r o count n = (noteS (doesR t r o count n).1 o (repOf (doesR t r o count n)), repOf (doesR t r o count n)) := by
        unfold applyR
        rw [hno]
      have hdd := does_done t r o count n
      have hvv := does_vars t r o count n hsh.v hgv hg.n8
      have hxe : I64 ((doesR t r o count n).2 : Int) := does_err t r o count n
      repeat (first
    | (((with_reducible refine Sy.is_load ?_); (refine Sy.st_loadAll T F (h := ?_)); clear T; intro ac T))
    | (((with_reducible refine Sy.is_op ?_); refine Sy.st_pure T (h := ?_); clear T; intro ac T))
    | ((with_reducible refine Sy.is_cond ?_); (refine Sy.st_false T (h := ?_)))
    | (with_reducible refine wpList_nil ?_)
    | (with_reducible refine wp_region_lit ?_)
    | (with_reducible refine wp_exit ?_)
    | ((with_reducible refine wp_seq_k ?_); intro _ _)
    | (go_at_K; go_step)
    | (simp only [Exit.then, Exit.inBlock, ↓reduceIte, Nat.reduceEqDiff]))
      refine Sy.st_callE T F (L1 := []) (by rw [List.append_nil]) (by repeat (first | exact Sy.Take.here | apply Sy.Take.there)) (fun F' => does_any w m F' h (by have := hsh.o; omega) hg.marks (by have := hsh.m; omega) t ta tc (ht.sub hS) o hg.arg (by have := hg.op.2.1; omega) hg.inc hg.cell count n hg.c64 hgv hg.n8) (h := ?_)
      clear T F; intro v m2 cs' L' ac w hR hS2 T F
      generalize doesR t r o count n = x at *
      obtain ⟨xr, xe⟩ := x
      replace hdd : xr.done = r.done := hdd
      replace hvv : xr.vars.length ≤ 50 := hvv
      replace hxe : I64 (xe : Int) := hxe
      replace hres : applyR t r o count n = (noteS xr o (repOf (xr, xe)), repOf (xr, xe)) := hres
      obtain ⟨hv, ⟨va2, vc2, da2, dc2, oa2, oc2, ma2, mc2⟩, cd2, co2, cm2, hcs, hL, h2⟩ := hR
      replace hv : v = .int .i64 (xe : Int) := hv
      replace hcs : cs' = regCs xr ⟨va2, vc2, da2, dc2, oa2, oc2, ma2, mc2⟩ := hcs
      replace hL : L' = nowL xr ⟨va2, vc2, da2, dc2, oa2, oc2, ma2, mc2⟩ cd2 co2 cm2 := hL
      subst hv hcs hL
      replace h2 : NowAt m2 xr ⟨va2, vc2, da2, dc2, oa2, oc2, ma2, mc2⟩ cd2 co2 cm2 := h2
      rw [List.append_nil] at F
      repeat (first
    | (((with_reducible refine Sy.is_load ?_); (refine Sy.st_loadOne T F (h := ?_)); clear T; intro ac T))
    | (((with_reducible refine Sy.is_store ?_); (refine Sy.st_storeAll T F (h := ?_)); clear T F; intro ac w T F))
    | (((with_reducible refine Sy.is_alloc ?_); refine Sy.st_alloc T F (h := ?_); clear T F; intro ac g w T F))
    | (((with_reducible refine Sy.is_build ?_); refine Sy.st_build T (h := ?_); (conv => whnf); (repeat (refine ⟨by first | exact rfl | exact ⟨rfl, rfl⟩, ?_⟩; (conv => whnf))); clear T; intro ac T))
    | (((with_reducible refine Sy.is_op ?_); refine Sy.st_pure T (h := ?_); clear T; intro ac T))
    | (with_reducible refine wpList_nil ?_)
    | (with_reducible refine wp_region_lit ?_)
    | ((with_reducible refine wp_seq_k ?_); intro _ _)
    | (go_at_K; go_step)
    | (simp only [Exit.then, Exit.inBlock, ↓reduceIte, Nat.reduceEqDiff]))
      obtain ⟨b14, rfl⟩ := nameP T 14 rfl
      have hrl : (repOf (xr, xe)).vars.length ≤ 50 := by
        unfold repOf
        split
        · exact hvv
        · exact Nat.zero_le _
      rename ∀ (a : Act) (w : World), Code.wp _ (Code.seq (Code.seq (Code.region 16 _ _) _) _) _ a w → _ => hK16
      have H16 := Sy.cutP (I := fun ac w => ∃ m3 a3 c3, Sub m2 m3 ∧ RepAt m3 (repOf (xr, xe)) ⟨a3, c3⟩ ∧ Sy.Tm ac 138 [(3, .int .u64 (count : Int)), (4, .pointer (some ⟨b4, 0, none⟩)), (6, .pointer (some ⟨b6, 0, none⟩)), (8, .pointer (some ⟨b8, 0, none⟩)), (9, .pointer (some ⟨b9, 0, none⟩)), (11, .pointer (some ⟨b11, 0, none⟩)), (14, .pointer (some ⟨b14, 0, none⟩))] ∧ Sy.MemE (Sy.OwL (nowL xr ⟨va2, vc2, da2, dc2, oa2, oc2, ma2, mc2⟩ cd2 co2 cm2)) ⟨W, [], M⟩ m3 [⟨b14, repCs (repOf (xr, xe)) ⟨a3, c3⟩, 57⟩, ⟨b11, regCs xr ⟨va2, vc2, da2, dc2, oa2, oc2, ma2, mc2⟩, 51⟩, ⟨b9, repCs ⟨0, 0, 0, []⟩ ⟨none, 0⟩, 57⟩, ⟨b8, regCs zeroReg zeroRegA, 51⟩, ⟨b6, opCs o, 53⟩, ⟨b4, tabCs t ta tc, 24⟩] w) hK16 (by
        clear T F
        intro ac w hI
        obtain ⟨m3, a3, c3, hS3, hrp, T, F⟩ := hI
        clear hK16
        have h3 := h2.sub hS3
        generalize repOf (xr, xe) = rp at *
        by_cases hc : 0 < o.client
        · have y1 : decide ((o.client : Int) > 0) = true := decide_eq_true (by omega)
          by_cases hk0 : xr.kind = 0
          · have y2 := eqT (a := (xr.kind : Int)) (b := 0) (by omega)
            have hnote : noteS xr o rp = xr := by unfold noteS; exact if_neg (fun k => k.2 hk0)
            repeat (first
    | (((with_reducible refine Sy.is_guard ?_); (refine Sy.st_guard T (h := ?_))))
    | (((with_reducible refine Sy.is_load ?_); (refine Sy.st_loadOne T F (h := ?_)); clear T; intro ac T))
    | (((with_reducible refine Sy.is_store ?_); (refine Sy.st_storeAll T F (h := ?_)); clear T F; intro ac w T F))
    | (((with_reducible refine Sy.is_op ?_); refine Sy.st_pure T (h := ?_); clear T; intro ac T))
    | ((with_reducible refine Sy.atK (hK _ _ ?_)))
    | ((with_reducible refine Sy.is_cond ?_); (refine Sy.st_false T (h := ?_)))
    | (with_reducible refine wpList_nil ?_)
    | (with_reducible refine wp_region_lit ?_)
    | (with_reducible refine wp_skip ?_)
    | (with_reducible refine wp_ret ?_)
    | ((with_reducible refine wp_seq_k ?_); intro _ _)
    | (go_at_K; go_step)
    | (simp only [Exit.then, Exit.inBlock, ↓reduceIte, Nat.reduceEqDiff])
    | ((with_reducible refine Sy.is_drawn (id := 20) ?_); refine Sy.sx_regionW T F 8 rfl (.t 0 (.t 1 (.h 2 .e))) [3, 4] (by kernel_rfl) ?_; (clear F; intro w F); dsimp only)
    | ((refine Sy.sx_plain (h := ?_)); (((with_reducible refine Sy.ux_load ?_); (refine Sy.sx_val (Sy.rx_loadAll T F) T rfl ?_); clear T; intro ac T)); show Sy.wpUx _ _ _ _ _ _ _ _ _)
    | (with_reducible refine Sy.sx_nil ?_)
    | (with_reducible refine Sy.sx_end ?_)
    | (with_reducible refine Sy.sx_tail rfl rfl (fun K hK => ?_))
    | ((refine Sy.sx_storeAll (T := T) (F := F) (h := ?_)); clear T F; intro ac w T F))
            ((try simp only [Exit.inBlock, Exit.then]); refine Sy.st_ret2 T F rfl (by repeat (first | exact Sy.ResV.nil | apply Sy.ResV.tmp rfl | apply Sy.ResV.row rfl rfl rfl (by repeat (first | exact Sy.Take.here | apply Sy.Take.there)) (by rfl) | apply Sy.ResV.one rfl rfl rfl (by repeat (first | exact Sy.Take.here | apply Sy.Take.there)) (by rfl))) ?_)
            rw [hres, hnote]
            obtain ⟨m5, s5, F5, hreg⟩ := MemE.thaw F h3
            exact F5.retM ⟨_, ⟨a3, c3⟩, rfl, hreg, hrp.1, hrp.2.1, hrp.2.2.1, hrp.2.2.2.1.sub s5, hrp.2.2.2.2⟩
          · have y2 := eqF (a := (xr.kind : Int)) (b := 0) (by omega)
            have hnote : noteS xr o rp = { xr with done := insK (·.client) xr.done ⟨o.client, o.seq, rp⟩ } := by unfold noteS; exact if_pos ⟨hc, hk0⟩
            repeat (first
    | (((with_reducible refine Sy.is_guard ?_); (refine Sy.st_guard T (h := ?_))))
    | (((with_reducible refine Sy.is_load ?_); (first
    | refine Sy.st_loadOne T F (h := ?_)
    | refine Sy.st_loadAll T F (h := ?_)); clear T; intro ac T))
    | (((with_reducible refine Sy.is_store ?_); (refine Sy.st_storeAll T F (h := ?_)); clear T F; intro ac w T F))
    | (((with_reducible refine Sy.is_alloc ?_); refine Sy.st_alloc T F (h := ?_); clear T F; intro ac g w T F))
    | (((with_reducible refine Sy.is_op ?_); refine Sy.st_pure T (h := ?_); clear T; intro ac T))
    | ((with_reducible refine Sy.is_cond ?_); (refine Sy.st_true T (h := ?_)))
    | (with_reducible refine wpList_nil ?_)
    | (with_reducible refine wp_region_lit ?_)
    | ((with_reducible refine wp_seq_k ?_); intro _ _)
    | (go_at_K; go_step)
    | (simp only [Exit.then, Exit.inBlock, ↓reduceIte, Nat.reduceEqDiff]))
            have G := cloneIntsM F.sub c3 (hrp.2.2.2.1.sub F.sub) hrl; refine Sy.st_callM0 T F (hc := G) (h := ?_); (clear T F G; intro v m ac w hR hS T F)
            obtain ⟨a5, c5, rfl, hn5, hc5, hm5⟩ := hR
            repeat (first
    | (((with_reducible refine Sy.is_load ?_); (first
    | refine Sy.st_loadOne T F (h := ?_)
    | refine Sy.st_loadAll T F (h := ?_)); clear T; intro ac T))
    | (((with_reducible refine Sy.is_store ?_); ((refine Sy.st_storeOne T F (h := ?_); conv => whnf)); clear T F; intro ac w T F))
    | (((with_reducible refine Sy.is_build ?_); refine Sy.st_build T (h := ?_); (conv => whnf); (repeat (refine ⟨by first | exact rfl | exact ⟨rfl, rfl⟩, ?_⟩; (conv => whnf))); clear T; intro ac T))
    | (((with_reducible refine Sy.is_op ?_); refine Sy.st_pure T (h := ?_); clear T; intro ac T))
    | (with_reducible refine wpList_nil ?_)
    | (with_reducible refine wp_region_lit ?_)
    | (go_at_K; go_step)
    | (simp only [Exit.then, Exit.inBlock, ↓reduceIte, Nat.reduceEqDiff]))
            have h4 := h3.sub hS
            have hdr : DoneR m (Rg.doneCs ⟨o.client, o.seq, rp⟩ ⟨a5, c5⟩) ⟨o.client, o.seq, rp⟩ := ⟨⟨a5, c5⟩, rfl, by
              have h8 := hg.op.2.2.1
              show o.client < 256
              omega, hg.seq, hrp.1, hrp.2.1, hrp.2.2.1, hn5, hc5, hm5⟩
            refine Sy.st_callE T F (L1 := []) (by rw [List.append_nil]) (by repeat (first | exact Sy.Take.here | apply Sy.Take.there)) (fun F' => done_any w m F' h4 ⟨o.client, o.seq, rp⟩ ⟨a5, c5⟩ hdr (by rw [hdd]; exact hg.dones) (by rw [hdd]; omega)) (h := ?_)
            clear T F; intro v m4 cs' L' ac w hR hS4 T F
            obtain ⟨rfl, q5, cd5, co5, cm5, rfl, rfl, h5⟩ := hR
            rw [List.append_nil] at F
            repeat (first
    | (((with_reducible refine Sy.is_store ?_); (refine Sy.st_storeAll T F (h := ?_)); clear T F; intro ac w T F))
    | (((with_reducible refine Sy.is_op ?_); refine Sy.st_pure T (h := ?_); clear T; intro ac T))
    | ((with_reducible refine Sy.atK (hK _ _ ?_)))
    | (with_reducible refine wpList_nil ?_)
    | (with_reducible refine wp_ret ?_)
    | ((with_reducible refine wp_seq_k ?_); intro _ _)
    | (go_at_K; go_step)
    | (simp only [Exit.then, Exit.inBlock, ↓reduceIte, Nat.reduceEqDiff])
    | ((with_reducible refine Sy.is_drawn (id := 20) ?_); refine Sy.sx_regionW T F 8 rfl (.t 0 (.t 1 (.h 2 .e))) [3, 4] (by kernel_rfl) ?_; (clear F; intro w F); dsimp only)
    | ((refine Sy.sx_plain (h := ?_)); (((with_reducible refine Sy.ux_load ?_); (refine Sy.sx_val (Sy.rx_loadAll T F) T rfl ?_); clear T; intro ac T)); show Sy.wpUx _ _ _ _ _ _ _ _ _)
    | (with_reducible refine Sy.sx_nil ?_)
    | (with_reducible refine Sy.sx_end ?_)
    | (with_reducible refine Sy.sx_tail rfl rfl (fun K hK => ?_))
    | ((refine Sy.sx_storeAll (T := T) (F := F) (h := ?_)); clear T F; intro ac w T F))
            ((try simp only [Exit.inBlock, Exit.then]); refine Sy.st_ret2 T F rfl (by repeat (first | exact Sy.ResV.nil | apply Sy.ResV.tmp rfl | apply Sy.ResV.row rfl rfl rfl (by repeat (first | exact Sy.Take.here | apply Sy.Take.there)) (by rfl) | apply Sy.ResV.one rfl rfl rfl (by repeat (first | exact Sy.Take.here | apply Sy.Take.there)) (by rfl))) ?_)
            rw [hres, hnote]
            obtain ⟨m5, s5, F5, hreg⟩ := MemE.thaw F h5
            exact F5.retM ⟨_, ⟨a3, c3⟩, rfl, hreg, hrp.1, hrp.2.1, hrp.2.2.1, ((hrp.2.2.2.1.sub hS).sub hS4).sub s5, hrp.2.2.2.2⟩
        · have y1 : decide ((o.client : Int) > 0) = false := decide_eq_false (by omega)
          have hnote : noteS xr o rp = xr := by unfold noteS; exact if_neg (fun k => hc k.1)
          repeat (first
    | (((with_reducible refine Sy.is_guard ?_); ((refine Sy.st_unguard T (h := ?_); clear T; intro ac T))))
    | (((with_reducible refine Sy.is_load ?_); (refine Sy.st_loadOne T F (h := ?_)); clear T; intro ac T))
    | (((with_reducible refine Sy.is_store ?_); (refine Sy.st_storeAll T F (h := ?_)); clear T F; intro ac w T F))
    | (((with_reducible refine Sy.is_op ?_); refine Sy.st_pure T (h := ?_); clear T; intro ac T))
    | ((with_reducible refine Sy.atK (hK _ _ ?_)))
    | ((with_reducible refine Sy.is_cond ?_); (refine Sy.st_false T (h := ?_)))
    | (with_reducible refine wpList_nil ?_)
    | (with_reducible refine wp_region_lit ?_)
    | (with_reducible refine wp_skip ?_)
    | (with_reducible refine wp_ret ?_)
    | ((with_reducible refine wp_seq_k ?_); intro _ _)
    | (go_at_K; go_step)
    | (simp only [Exit.then, Exit.inBlock, ↓reduceIte, Nat.reduceEqDiff])
    | ((with_reducible refine Sy.is_drawn (id := 20) ?_); refine Sy.sx_regionW T F 8 rfl (.t 0 (.t 1 (.h 2 .e))) [3, 4] (by kernel_rfl) ?_; (clear F; intro w F); dsimp only)
    | ((refine Sy.sx_plain (h := ?_)); (((with_reducible refine Sy.ux_load ?_); (refine Sy.sx_val (Sy.rx_loadAll T F) T rfl ?_); clear T; intro ac T)); show Sy.wpUx _ _ _ _ _ _ _ _ _)
    | (with_reducible refine Sy.sx_nil ?_)
    | (with_reducible refine Sy.sx_end ?_)
    | (with_reducible refine Sy.sx_tail rfl rfl (fun K hK => ?_))
    | ((refine Sy.sx_storeAll (T := T) (F := F) (h := ?_)); clear T F; intro ac w T F))
          ((try simp only [Exit.inBlock, Exit.then]); refine Sy.st_ret2 T F rfl (by repeat (first | exact Sy.ResV.nil | apply Sy.ResV.tmp rfl | apply Sy.ResV.row rfl rfl rfl (by repeat (first | exact Sy.Take.here | apply Sy.Take.there)) (by rfl) | apply Sy.ResV.one rfl rfl rfl (by repeat (first | exact Sy.Take.here | apply Sy.Take.there)) (by rfl))) ?_)
          rw [hres, hnote]
          obtain ⟨m5, s5, F5, hreg⟩ := MemE.thaw F h3
          exact F5.retM ⟨_, ⟨a3, c3⟩, rfl, hreg, hrp.1, hrp.2.1, hrp.2.2.1, hrp.2.2.2.1.sub s5, hrp.2.2.2.2⟩)
      clear hK16
      by_cases he : xe = 0
      · have y1 := eqT (a := (xe : Int)) (b := 0) (by omega)
        rw [y1] at T
        by_cases hx1 : xr.kind = 1
        · have y2 := eqT (a := (xr.kind : Int)) (b := 1) (by omega)
          have hrp : repOf (xr, xe) = ⟨0, xr.inc, xr.state, xr.vars⟩ := by unfold repOf; exact if_pos ⟨he, hx1⟩
          repeat (first
    | (((with_reducible refine Sy.is_guard ?_); (refine Sy.st_guard T (h := ?_))))
    | (((with_reducible refine Sy.is_load ?_); (refine Sy.st_loadOne T F (h := ?_)); clear T; intro ac T))
    | (((with_reducible refine Sy.is_op ?_); refine Sy.st_pure T (h := ?_); clear T; intro ac T))
    | ((with_reducible refine Sy.is_cond ?_); (refine Sy.st_true T (h := ?_)))
    | (with_reducible refine wpList_nil ?_)
    | (go_at_K; go_step)
    | (simp only [Exit.then, Exit.inBlock, ↓reduceIte, Nat.reduceEqDiff])
    | ((with_reducible refine Sy.is_drawn (id := 15) ?_); refine Sy.sx_regionW T F 14 rfl (.t 0 (.t 1 (.t 2 (.t 3 (.t 4 (.t 5 (.t 7 (.h 6 (.h 8 (.t 9 (.h 10 .e))))))))))) [11, 12] (by kernel_rfl) ?_; (clear F; intro w F); dsimp only)
    | ((refine Sy.sx_plain (h := ?_)); (first
    | ((with_reducible refine Sy.ux_load ?_); (refine Sy.sx_val (Sy.rx_loadOne T F) T rfl ?_); clear T; intro ac T)
    | (refine Sy.sx_pure T (h := ?_); clear T; intro ac T)); show Sy.wpUx _ _ _ _ _ _ _ _ _))
          have G := cloneIntsM F.sub vc2 (h2.vars.sub F.sub) hvv; refine Sy.sx_callM0 rfl T F (hc := G) (h := ?_); (clear T F G; intro v m ac w hR hS T F)
          obtain ⟨a5, c5, rfl, hn5, hc5, hm5⟩ := hR
          repeat (first
    | (((with_reducible refine Sy.is_store ?_); ((refine Sy.st_storeOne T F (h := ?_); conv => whnf)); clear T F; intro ac w T F))
    | (((with_reducible refine Sy.is_op ?_); refine Sy.st_pure T (h := ?_); clear T; intro ac T))
    | ((with_reducible refine Sy.atK (hK _ _ ?_)))
    | (go_at_K; go_step)
    | (simp only [Exit.then, Exit.inBlock, ↓reduceIte, Nat.reduceEqDiff])
    | ((refine Sy.sx_plain (h := ?_)); ((refine Sy.sx_pure T (h := ?_); clear T; intro ac T)); show Sy.wpUx _ _ _ _ _ _ _ _ _)
    | (with_reducible refine Sy.sx_nil ?_)
    | (with_reducible refine Sy.sx_end ?_)
    | (with_reducible refine Sy.sx_tail rfl rfl (fun K hK => ?_))
    | (((refine Sy.sx_storeOne (T := T) (F := F) (h := ?_); conv => whnf)); clear T F; intro ac w T F))
          rw [hrp]
          subst he
          exact ⟨_, a5, c5, hS, ⟨by unfold I64; simp, h2.inc, h2.state, hn5, hc5, hm5⟩, (T.part (by repeat (first | exact Sy.Part.nil | apply Sy.Part.cons rfl))), (F.sel (by repeat (first | exact Sy.Sel.nil | apply Sy.Sel.cons (by repeat (first | exact Sy.Take.here | apply Sy.Take.there)))))⟩
        · have y2 := eqF (a := (xr.kind : Int)) (b := 1) (by omega)
          have hrp : repOf (xr, xe) = ⟨(xe : Int), 0, 0, []⟩ := by unfold repOf; exact if_neg (fun k => hx1 k.2)
          repeat (first
    | (((with_reducible refine Sy.is_guard ?_); (refine Sy.st_guard T (h := ?_))))
    | (((with_reducible refine Sy.is_load ?_); (refine Sy.st_loadOne T F (h := ?_)); clear T; intro ac T))
    | (((with_reducible refine Sy.is_op ?_); refine Sy.st_pure T (h := ?_); clear T; intro ac T))
    | ((with_reducible refine Sy.is_cond ?_); (refine Sy.st_false T (h := ?_)))
    | (with_reducible refine wpList_nil ?_)
    | (with_reducible refine wp_skip ?_)
    | (go_at_K; go_step)
    | (simp only [Exit.then, Exit.inBlock, ↓reduceIte, Nat.reduceEqDiff]))
          rw [hrp]
          exact ⟨_, none, 0, Sub.refl _, rep0 _ _ hxe, (T.part (by repeat (first | exact Sy.Part.nil | apply Sy.Part.cons rfl))), (F.sel (by repeat (first | exact Sy.Sel.nil | apply Sy.Sel.cons (by repeat (first | exact Sy.Take.here | apply Sy.Take.there)))))⟩
      · have y1 := eqF (a := (xe : Int)) (b := 0) (by omega)
        rw [y1] at T
        have hrp : repOf (xr, xe) = ⟨(xe : Int), 0, 0, []⟩ := by unfold repOf; exact if_neg (fun k => he k.1)
        repeat (first
    | (((with_reducible refine Sy.is_guard ?_); ((refine Sy.st_unguard T (h := ?_); clear T; intro ac T))))
    | (((with_reducible refine Sy.is_op ?_); refine Sy.st_pure T (h := ?_); clear T; intro ac T))
    | ((with_reducible refine Sy.is_cond ?_); (refine Sy.st_false T (h := ?_)))
    | (with_reducible refine wpList_nil ?_)
    | (with_reducible refine wp_skip ?_)
    | (go_at_K; go_step)
    | (simp only [Exit.then, Exit.inBlock, ↓reduceIte, Nat.reduceEqDiff]))
        rw [hrp]
        exact ⟨_, none, 0, Sub.refl _, rep0 _ _ hxe, (T.part (by repeat (first | exact Sy.Part.nil | apply Sy.Part.cons rfl))), (F.sel (by repeat (first | exact Sy.Sel.nil | apply Sy.Sel.cons (by repeat (first | exact Sy.Take.here | apply Sy.Take.there)))))⟩)
  clear hK3
  by_cases hk : r.kind = 1
  · have k1 := eqT (a := (r.kind : Int)) (b := 1) (by omega)
    have k2 := eqT (a := (r.vars.length : Int)) (b := t.vars) (by have := hgl hk; omega)
    repeat (first
    | (((with_reducible refine Sy.is_guard ?_); (refine Sy.st_guard T (h := ?_))))
    | (((with_reducible refine Sy.is_load ?_); (refine Sy.st_loadOne T F (h := ?_)); clear T; intro ac T))
    | (((with_reducible refine Sy.is_op ?_); refine Sy.st_pure T (h := ?_); clear T; intro ac T))
    | ((with_reducible refine Sy.is_cond ?_); (refine Sy.st_false T (h := ?_)))
    | (with_reducible refine wpList_nil ?_)
    | (with_reducible refine wp_skip ?_)
    | (go_at_K; go_step)
    | (simp only [Exit.then, Exit.inBlock, ↓reduceIte, Nat.reduceEqDiff]))
    exact ⟨(T.part (by repeat (first | exact Sy.Part.nil | apply Sy.Part.cons rfl))), (F.sel (by repeat (first | exact Sy.Sel.nil | apply Sy.Sel.cons (by repeat (first | exact Sy.Take.here | apply Sy.Take.there)))))⟩
  · have k1 := eqF (a := (r.kind : Int)) (b := 1) (by omega)
    repeat (first
    | (((with_reducible refine Sy.is_guard ?_); (first
    | refine Sy.st_guard T (h := ?_)
    | (refine Sy.st_unguard T (h := ?_); clear T; intro ac T))))
    | (((with_reducible refine Sy.is_load ?_); (refine Sy.st_loadOne T F (h := ?_)); clear T; intro ac T))
    | (((with_reducible refine Sy.is_op ?_); refine Sy.st_pure T (h := ?_); clear T; intro ac T))
    | ((with_reducible refine Sy.is_cond ?_); (refine Sy.st_false T (h := ?_)))
    | (with_reducible refine wpList_nil ?_)
    | (with_reducible refine wp_skip ?_)
    | (go_at_K; go_step)
    | (simp only [Exit.then, Exit.inBlock, ↓reduceIte, Nat.reduceEqDiff]))
    exact ⟨(T.part (by repeat (first | exact Sy.Part.nil | apply Sy.Part.cons rfl))), (F.sel (by repeat (first | exact Sy.Sel.nil | apply Sy.Sel.cons (by repeat (first | exact Sy.Take.here | apply Sy.Take.there)))))⟩
end En
end Go.Proofs.Ytdpmfjbhadapiaa
namespace Go.Proofs.Ytdpmfjbhadapiaa
open Go.RowKit
set_option linter.unusedVariables false
set_option linter.unusedSimpArgs false
namespace En
open Sy (RetV RetM Sub)
open Rg (U8 U64 I64 RegD RegA RegAt regCs OpD opCs RepD RepA RepAt repCs greatS zeroReg zeroRegA zeroReg_at)
open Tb (TabD TabAt tabCs OkA)
def zT : TabD := ⟨1, 0, []⟩
def zO : OpD := ⟨1, 0, 1, 1, 0, 0, 0, 0, 0, 0⟩
theorem awake_apply : applyR zT zeroReg zO 7 0 = (⟨1, 7, 0, [], [⟨1, 1, ⟨0, 7, 0, []⟩⟩], [], 0, []⟩, ⟨0, 7, 0, []⟩) := by decide
theorem awake_good : Good zT zeroReg zO 7 0 := ⟨by unfold OkA zO Ex.least Ex.most; decide, by unfold U64; decide, by unfold U64; decide, by unfold U64; decide, by decide, by decide, by decide, by decide, by unfold U64; decide, rfl, by decide, by decide, by decide, by decide, by decide⟩
theorem zT_at (m : World) : TabAt m zT none 0 := ⟨by unfold I64 zT; simp, by unfold I64 zT; simp, Rows.nil _ _ _ _, by simp [zT, maxLen]⟩
set_option maxRecDepth 20000 in
set_option maxHeartbeats 1000000 in
theorem awake_any (W : World) : Calls Try.prog 25 #[] W (RetV W (.bool true)) := by
  have F := Sy.Mem.start (Sub.refl W)
  have e11 : ((1 : Int) == 1) = true := rfl
  have e77 : ((7 : Int) == 7) = true := rfl
  have e00 : ((0 : Int) == 0) = true := rfl
  refine Sy.enter Try.func25 rfl Try.ntmps25 rfl ?_; intro ac T; simp only [Sy.enum, Nat.zero_add, Nat.reduceAdd] at T
  repeat (first
    | (((with_reducible refine Sy.is_build ?_); refine Sy.st_build T (h := ?_); (conv => whnf); (repeat (refine ⟨by first | exact rfl | exact ⟨rfl, rfl⟩, ?_⟩; (conv => whnf))); clear T; intro ac T))
    | (((with_reducible refine Sy.is_op ?_); refine Sy.st_pure T (h := ?_); clear T; intro ac T))
    | (with_reducible refine wpList_nil ?_)
    | (with_reducible refine wp_region_lit ?_)
    | ((with_reducible refine wp_seq_k ?_); intro _ _)
    | (go_at_K; go_step)
    | (simp only [Exit.then, Exit.inBlock, ↓reduceIte, Nat.reduceEqDiff]))
  have G := apply_any _ W F.sub zT none 0 (zT_at _) zeroReg zeroRegA (zeroReg_at _) zO 7 0 awake_good; refine Sy.st_callM0 T F (hc := G) (h := ?_); (clear T F G; intro v m ac w hR hS T F)
  obtain ⟨q, a, hv, _, _⟩ := hR
  rw [awake_apply] at hv
  replace hv : v = .tuple #[.agg #[.int .u8 1, .int .u64 7, .int .i64 0, .slice q.va 0 q.vc, .slice q.da 1 q.dc, .slice q.oa 0 q.oc, .int .u64 0, .slice q.ma 0 q.mc], .agg #[.int .i64 0, .int .u64 7, .int .i64 0, .slice a.a 0 a.c], .int .i64 0] := hv
  subst hv
  repeat (first
    | (((with_reducible refine Sy.is_guard ?_); (refine Sy.st_guard T (h := ?_))))
    | (((with_reducible refine Sy.is_load ?_); (refine Sy.st_loadOne T F (h := ?_)); clear T; intro ac T))
    | (((with_reducible refine Sy.is_store ?_); (refine Sy.st_storeAll T F (h := ?_)); clear T F; intro ac w T F))
    | (((with_reducible refine Sy.is_alloc ?_); refine Sy.st_alloc T F (h := ?_); clear T F; intro ac g w T F))
    | (((with_reducible refine Sy.is_op ?_); refine Sy.st_pure T (h := ?_); clear T; intro ac T))
    | (with_reducible refine wpList_nil ?_)
    | (with_reducible refine wp_region_lit ?_)
    | (with_reducible refine wp_ret ?_)
    | ((with_reducible refine wp_seq_k ?_); intro _ _)
    | (go_at_K; go_step)
    | (simp only [Exit.then, Exit.inBlock, ↓reduceIte, Nat.reduceEqDiff]))
  ((try simp only [Exit.inBlock, Exit.then]); refine Sy.st_ret1 T F rfl (by repeat (first | exact Sy.ResV.nil | apply Sy.ResV.tmp rfl | apply Sy.ResV.row rfl rfl rfl (by repeat (first | exact Sy.Take.here | apply Sy.Take.there)) (by rfl) | apply Sy.ResV.one rfl rfl rfl (by repeat (first | exact Sy.Take.here | apply Sy.Take.there)) (by rfl))) ?_)
  exact F.retV _
end En
end Go.Proofs.Ytdpmfjbhadapiaa
