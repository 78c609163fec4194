/- Plain law: what an action does, as data. No condition. The walk of table.Fire. Conditions: the contract and the variables can be read. The walk of table.Fire where a rule is taken. Conditions: the contract and the variables can be read. The walk of the document's Fire. Conditions: the contract and the variables can be read. Fire, the code's and the document's, in one law each. Conditions: the contract and the variables can be read. -/
import Derived.Test.YtdpmfjbhadapiaaTbF
import Derived.Test.YtdpmfjbhadapiaaExpN
import Derived.Test.YtdpmfjbhadapiaaRegD
import Derived.Test.YtdpmfjbhadapiaaSyS
namespace Go.Proofs.Ytdpmfjbhadapiaa
open Go.RowKit
set_option linter.unusedVariables false
set_option linter.unusedSimpArgs false
namespace Tb
open Rg (idxS CellD CellR NumR RowsOf OwnRows flat_get I64 U8 U64)
def evE (vars : List Int) (arg : Int) (l : List Ex.Tok) : Nat := (Ex.evalS l vars arg).2
def evV (vars : List Int) (arg : Int) (l : List Ex.Tok) : Int := (Ex.evalS l vars arg).1
def firstE {α : Type} (f : α → Nat) : List α → Nat
  | [] => 0
  | x :: r => if f x = 0 then firstE f r else f x
theorem first_hit {α : Type} {f : α → Nat} : ∀ {l : List α} {k : Nat} (hk : k < l.length), (∀ j (hj : j < l.length), j < k → f l[j] = 0) → f l[k] ≠ 0 → firstE f l = f l[k]
  | x :: r, 0, _, _, h => by simp only [firstE, List.getElem_cons_zero] at h ⊢; rw [if_neg h]
  | x :: r, k + 1, hk, h0, h => by
    have := h0 0 (by simp) (by omega)
    simp only [List.getElem_cons_zero] at this
    simp only [firstE, List.getElem_cons_succ] at h ⊢
    rw [if_pos this]
    exact first_hit (by simpa using hk) (fun j hj hjk => h0 (j + 1) (by simpa using hj) (by omega)) h
theorem first_zero {α : Type} {f : α → Nat} : ∀ {l : List α}, (∀ j (hj : j < l.length), f l[j] = 0) → firstE f l = 0
  | [], _ => rfl
  | x :: r, h => by
    have := h 0 (by simp)
    simp only [List.getElem_cons_zero] at this
    rw [firstE, if_pos this]
    exact first_zero fun j hj => h (j + 1) (by simpa using hj)
def stepS (vars : List Int) (arg : Int) (n : List Int) (s : SetD) : List Int := n.set s.var.toNat (evV vars arg s.val)
def applyS (vars : List Int) (arg : Int) (l : List SetD) (now : List Int) : List Int := l.foldl (stepS vars arg) now
theorem apply_up {vars : List Int} {arg : Int} {l : List SetD} {now : List Int} {k : Nat} (hk : k < l.length) : applyS vars arg (l.take (k + 1)) now = stepS vars arg (applyS vars arg (l.take k) now) l[k] := by
  unfold applyS
  rw [List.take_succ_eq_append_getElem hk, List.foldl_append]
  rfl
theorem apply_len {vars : List Int} {arg : Int} : ∀ {l : List SetD} {now : List Int}, (applyS vars arg l now).length = now.length
  | [], now => rfl
  | s :: r, now => by
    have : applyS vars arg (s :: r) now = applyS vars arg r (stepS vars arg now s) := rfl
    rw [this, apply_len]
    simp [stepS]
def cellOf (vars : List Int) (arg : Int) (e : EmitD) : CellD := ⟨0, e.target, e.action, evV vars arg e.arg⟩
structure FireD where
  st : Int
  vs : List Int
  cs : List CellD
  e : Nat
deriving DecidableEq
def runS (r : RuleD) (vars : List Int) (arg : Int) : FireD :=
  if firstE (fun s => evE vars arg s.val) r.sets ≠ 0 then ⟨0, [], [], firstE (fun s => evE vars arg s.val) r.sets⟩
  else if firstE (fun e => evE vars arg e.arg) r.emits ≠ 0 then ⟨0, [], [], firstE (fun e => evE vars arg e.arg) r.emits⟩
  else ⟨r.dst, applyS vars arg r.sets vars, r.emits.map (cellOf vars arg), 0⟩
def zeroRule : RuleD := ⟨0, 0, 0, 0, [], [], []⟩
def fireS (t : TabD) (state action party : Int) (vars : List Int) (arg : Int) : FireD :=
  if goodS t vars = false then ⟨0, [], [], 10⟩
  else if findS t state action party vars arg < 0 then ⟨0, [], [], 13⟩
  else runS (t.rules.getD (findS t state action party vars arg).toNat zeroRule) vars arg
theorem idx_cases {α : Type} (p : α → Bool) (l : List α) : idxS p l = -1 ∨ ∃ k, ∃ h : k < l.length, idxS p l = (k : Int) ∧ p l[k] = true ∧ ∀ j (hj : j < k), p (l[j]'(by omega)) = false := by
  unfold idxS
  cases h : l.findIdx? p with
  | none => exact .inl rfl
  | some i =>
    rw [List.findIdx?_eq_some_iff_getElem] at h
    obtain ⟨hi, hp, hj⟩ := h
    exact .inr ⟨i, hi, rfl, hp, fun j hj' => by simpa using hj j hj'⟩
/-! the lists that come back, as cells -/
def intV (x : Int) : Value := .int .i64 x
def cellV (c : CellD) : List Value := [.int .u64 (c.n : Int), .int .u8 (c.target : Int), .int .i64 c.action, .int .i64 c.arg]
theorem sing_flat : ∀ (l : List Int), (l.map fun x => [intV x]).flatten = l.map intV
  | [] => rfl
  | x :: r => by simp [sing_flat r]
theorem num_rows {w : World} {css : List (List Value)} {l : List Int} (h : RowsOf NumR 1 w css l) : css.flatten = l.map intV := by
  have : css = l.map fun x => [intV x] := by
    apply List.ext_getElem
    · simp [h.1]
    · intro i h1 h2
      have := (h.2 i h1 (by simpa using h2)).2.1
      simp [this, intV]
  rw [this, sing_flat]
theorem own_nums {w : World} {base : Nat} {a : Option Addr} {cap : Nat} {l : List Int} (hb : ∀ x ∈ l, Ex.least ≤ x ∧ x ≤ Ex.most) (h : Own w base 2 1 (.slice a l.length cap) l.length (l.map intV)) : OwnRows NumR 1 2 w base a cap l := by
  refine ⟨l.map fun x => [intV x], ⟨by simp, fun i h1 h2 => ?_⟩, ?_⟩
  · simp only [List.getElem_map]
    exact ⟨rfl, rfl, hb _ (List.getElem_mem _)⟩
  · rw [sing_flat]; exact h
theorem own_cells {w : World} {base : Nat} {a : Option Addr} {cap : Nat} {l : List CellD} (hb : ∀ c ∈ l, U64 c.n ∧ U8 c.target ∧ I64 c.action ∧ I64 c.arg) (h : Own w base 47 4 (.slice a l.length cap) l.length (l.map cellV).flatten) : OwnRows CellR 4 47 w base a cap l := by
  refine ⟨l.map cellV, ⟨by simp, fun i h1 h2 => ?_⟩, h⟩
  simp only [List.getElem_map]
  exact ⟨rfl, rfl, hb _ (List.getElem_mem _)⟩
theorem own_up {w : World} {B : Nat} {e : TypeId} {size : Nat} {v : Value} {n : Nat} {xs : List Value} (h : Own w 0 e size v n xs) (hb : ∀ k, blk v = some k → B ≤ k) : Own w B e size v n xs := by
  obtain ⟨a, cap, rfl, h1, h2, h3, h4⟩ := h
  refine ⟨a, cap, rfl, h1, h2, h3, ?_⟩
  rcases h4 with h4 | ⟨g, cur, ha, h5, h6⟩
  · exact .inl h4
  · by_cases h0 : cap = 0
    · exact .inl h0
    · exact .inr ⟨g, cur, ha, hb g (Sy.blk_of h0 ha), h6⟩
/-- what Fire hands back: new lists -/
def RetFi (w : World) (d : FireD) (e : Ending) (w' : World) : Prop :=
  ∃ a1 c1 a2 c2, e = .returned (.tuple #[.int .i64 d.st, .slice a1 d.vs.length c1, .slice a2 d.cs.length c2, .int .i64 (d.e : Int)]) ∧ Below w.heap.size w w' ∧ OwnRows NumR 1 2 w' w.heap.size a1 c1 d.vs ∧ OwnRows CellR 4 47 w' w.heap.size a2 c2 d.cs
def RetFr (w : World) (d : FireD) (e : Ending) (w' : World) : Prop :=
  ∃ a1 c1 a2 c2, e = .returned (.agg #[.int .i64 d.st, .slice a1 d.vs.length c1, .slice a2 d.cs.length c2, .int .i64 (d.e : Int)]) ∧ Below w.heap.size w w' ∧ OwnRows NumR 1 2 w' w.heap.size a1 c1 d.vs ∧ OwnRows CellR 4 47 w' w.heap.size a2 c2 d.cs
theorem nil_nums (w : World) (base : Nat) (a : Option Addr) : OwnRows NumR 1 2 w base a 0 [] := own_nums (by simp) (Own.empty w base _ 1 a)
theorem nil_cells (w : World) (base : Nat) (a : Option Addr) : OwnRows CellR 4 47 w base a 0 [] := own_cells (by simp) (Own.empty w base _ 4 a)
theorem apply_bd {vars : List Int} {arg : Int} (hv : ∀ x ∈ vars, Ex.least ≤ x ∧ x ≤ Ex.most) (ha : OkA arg) : ∀ (l : List SetD) (now : List Int), (∀ s ∈ l, ∀ t ∈ s.val, Ex.okT t) → (∀ x ∈ now, Ex.least ≤ x ∧ x ≤ Ex.most) → ∀ x ∈ applyS vars arg l now, Ex.least ≤ x ∧ x ≤ Ex.most
  | [], now, _, hn => hn
  | s :: r, now, hl, hn => by
    have : applyS vars arg (s :: r) now = applyS vars arg r (stepS vars arg now s) := rfl
    rw [this]
    refine apply_bd hv ha r _ (fun s' hs' => hl s' (List.mem_cons_of_mem _ hs')) fun x hx => ?_
    rcases List.mem_or_eq_of_mem_set hx with h | rfl
    · exact hn x h
    · exact Ex.eval_bd hv ha (hl s List.mem_cons_self)
/-- the sets of a rule that may be rise, and lie among the variables -/
theorem sets_le {vars : Int} : ∀ {l : List SetD} {p : Option Int}, setsS vars p l = true → (∀ s ∈ l, 0 ≤ s.var ∧ s.var < vars) ∧ (∀ q, p = some q → ∀ s ∈ l, q < s.var) ∧ ∀ i j (hi : i < l.length) (hj : j < l.length), i < j → l[i].var < l[j].var
  | [], p, _ => ⟨by simp, by simp, by simp⟩
  | s :: r, p, h => by
    rw [setsS, Bool.and_eq_true] at h
    obtain ⟨h1, h2⟩ := h
    replace h1 := Rg.not_t h1
    unfold badS at h1
    rw [Bool.or_eq_false_iff, Bool.or_eq_false_iff] at h1
    obtain ⟨h3, h4, -⟩ := h1
    replace h3 := Rg.not_f h3
    unfold inS at h3
    rw [Bool.and_eq_true, decide_eq_true_iff, decide_eq_true_iff] at h3
    obtain ⟨i1, i2, i3⟩ := sets_le h2
    have hp : ∀ q, p = some q → q < s.var := fun q hq => by
      subst hq
      have := of_decide_eq_false h4
      omega
    refine ⟨fun x hx => ?_, fun q hq x hx => ?_, fun i j hi hj hij => ?_⟩
    · rcases List.mem_cons.1 hx with rfl | hx
      · exact ⟨h3.1, h3.2⟩
      · exact i1 x hx
    · rcases List.mem_cons.1 hx with rfl | hx
      · exact hp q hq
      · exact Int.lt_trans (hp q hq) (i2 _ rfl x hx)
    · cases i with
      | zero =>
        cases j with
        | zero => omega
        | succ j => simpa using i2 _ rfl _ (List.getElem_mem (by simpa using hj))
      | succ i =>
        cases j with
        | zero => omega
        | succ j => simpa using i3 i j (by simpa using hi) (by simpa using hj) (by omega)
theorem may_rule {t : TabD} (h : mayS t = true) {r : RuleD} (hr : r ∈ t.rules) : ruleS t.states t.vars r = true := by
  unfold mayS at h
  simp only [Bool.and_eq_true] at h
  have := Rg.not_t h.2.2.2.2.2
  rw [List.any_eq_false] at this
  simpa using this r hr
theorem may_vars {t : TabD} (h : mayS t = true) : 0 ≤ t.vars ∧ t.vars ≤ 8 ∧ 1 ≤ t.states ∧ t.states ≤ 32 ∧ t.rules.length ≤ 32 := by
  unfold mayS at h
  simp only [Bool.and_eq_true, Bool.not_eq_true', decide_eq_false_iff_not] at h
  omega
theorem rule_sets {states vars : Int} {r : RuleD} (h : ruleS states vars r = true) : setsS vars none r.sets = true ∧ r.sets.length ≤ 8 ∧ r.emits.length ≤ 4 ∧ r.emits.any (badE vars) = false ∧ inS r.dst states = true := by
  unfold ruleS headS at h
  simp only [Bool.and_eq_true, Bool.not_eq_true', decide_eq_false_iff_not] at h
  obtain ⟨⟨_, h2, _, _, h5, h6⟩, _, h7, h8⟩ := h
  exact ⟨h7, by omega, by omega, h8, h2⟩
end Tb
end Go.Proofs.Ytdpmfjbhadapiaa
namespace Go.Proofs.Ytdpmfjbhadapiaa
open Go.RowKit
set_option linter.unusedVariables false
set_option linter.unusedSimpArgs false
namespace Tb
open Sy (RetV RetM Sub)
open Rg (and2 or2 retBb not_t not_f eqT eqF i64_up i64_wrap ClosB any_up any_hit idxS idx_some idx_none CellD CellR NumR RowsOf OwnRows flat_get I64 U8 U64)
theorem exEval (w : World) {a : Option Addr} {n cap : Nat} {l : List Ex.Tok} {av : Option Addr} {nv cv : Nat} {vars : List Int} {arg : Int} (hl : Ex.Toks w a n l) (hv : Ex.Ints w av nv vars) (ha : OkA arg) : Calls Try.prog 39 #[.slice a n cap, .slice av nv cv, .int .i64 arg] w (RetV w (.tuple #[.int .i64 (evV vars arg l), .int .i64 (evE vars arg l : Int)])) :=
  Ex.eval_any a n cap l av nv cv vars arg w hl hv ha

theorem fire_no (w0 : World) (t : TabD) (ta : Option Addr) (tc : Nat) (h : TabAt w0 t ta tc) (state action party : Int) {va : Option Addr} {vc : Nat} {vars : List Int} (arg : Int) (hv : Ex.Ints w0 va vars.length vars) (ha : OkA arg) (hg : goodS t vars = false) :
    Calls Try.prog 16 #[.agg (tabCs t ta tc).toArray, .int .i64 state, .int .i64 action, .int .i64 party, .slice va vars.length vc, .int .i64 arg] w0 (RetFi w0 ⟨0, [], [], 10⟩) := by
  have F := Sy.Mem.start (Sub.refl w0)
  have hml := hv.2.1
  rcases and2 (mayS t) ((vars.length : Int) == t.vars) with t1 | ⟨t1, t2⟩ | ⟨t1, t2⟩
  case inr.inr => unfold goodS at hg; rw [t1, t2] at hg; cases hg
  all_goals
    refine Sy.enter Try.func16 rfl Try.ntmps16 rfl ?_; intro ac T; simp only [Sy.enum, Nat.zero_add, Nat.reduceAdd] at T
    repeat (first
    | (((with_reducible refine Sy.is_load ?_); (refine Sy.st_loadAll T F (h := ?_)); clear T; intro ac T))
    | (((with_reducible refine Sy.is_box ?_); (refine Sy.st_boxAgg T F (h := ?_)); clear T F; intro ac g w T F))
    | (((with_reducible refine Sy.is_op ?_); refine Sy.st_pure T (h := ?_); clear T; intro ac T))
    | (with_reducible refine wpList_nil ?_)
    | (with_reducible refine wp_region_lit ?_)
    | ((with_reducible refine wp_seq_k ?_); intro _ _)
    | (go_at_K; go_step)
    | (simp only [Exit.then, Exit.inBlock, ↓reduceIte, Nat.reduceEqDiff]))
    refine Sy.st_callV0 T F (hc := mayM F.sub h t1) (h := ?_); (clear T F; intro ac w T F)
    repeat (first
    | (((with_reducible refine Sy.is_guard ?_); (first
    | refine Sy.st_guard T (h := ?_)
    | (refine Sy.st_unguard T (h := ?_); clear T; intro ac T))))
    | (((with_reducible refine Sy.is_load ?_); (refine Sy.st_loadOne T F (h := ?_)); clear T; intro ac T))
    | (((with_reducible refine Sy.is_op ?_); refine Sy.st_pure T (h := ?_); clear T; intro ac T))
    | ((with_reducible refine Sy.is_cond ?_); (refine Sy.st_true T (h := ?_)))
    | (with_reducible refine wpList_nil ?_)
    | (with_reducible refine wp_region_lit ?_)
    | (with_reducible refine wp_ret ?_)
    | ((with_reducible refine wp_seq_k ?_); intro _ _)
    | (go_at_K; go_step)
    | (simp only [Exit.then, Exit.inBlock, ↓reduceIte, Nat.reduceEqDiff]))
    ((try simp only [Exit.inBlock, Exit.then]); refine Sy.st_ret2 T F rfl (by repeat (first | exact Sy.ResV.nil | apply Sy.ResV.tmp rfl | apply Sy.ResV.row rfl rfl rfl (by repeat (first | exact Sy.Take.here | apply Sy.Take.there)) (by rfl) | apply Sy.ResV.one rfl rfl rfl (by repeat (first | exact Sy.Take.here | apply Sy.Take.there)) (by rfl))) ?_)
    exact ⟨none, 0, none, 0, rfl, F.end_, nil_nums _ _ _, nil_cells _ _ _⟩
theorem fire_none (w0 : World) (t : TabD) (ta : Option Addr) (tc : Nat) (h : TabAt w0 t ta tc) (state action party : Int) {va : Option Addr} {vc : Nat} {vars : List Int} (arg : Int) (hv : Ex.Ints w0 va vars.length vars) (ha : OkA arg) (hg : goodS t vars = true) (hf : findS t state action party vars arg < 0) :
    Calls Try.prog 16 #[.agg (tabCs t ta tc).toArray, .int .i64 state, .int .i64 action, .int .i64 party, .slice va vars.length vc, .int .i64 arg] w0 (RetFi w0 ⟨0, [], [], 13⟩) := by
  have F := Sy.Mem.start (Sub.refl w0)
  have hml := hv.2.1
  unfold goodS at hg
  rw [Bool.and_eq_true] at hg
  obtain ⟨t1, t2⟩ := hg
  have t3 : decide (findS t state action party vars arg < 0) = true := decide_eq_true hf
  have G := fun w hs => find_any w t ta tc (h.sub hs) state action party (vc := vc) arg (hv.sub hs) ha
  generalize findS t state action party vars arg = fi at *
  refine Sy.enter Try.func16 rfl Try.ntmps16 rfl ?_; intro ac T; simp only [Sy.enum, Nat.zero_add, Nat.reduceAdd] at T
  repeat (first
    | (((with_reducible refine Sy.is_load ?_); (refine Sy.st_loadAll T F (h := ?_)); clear T; intro ac T))
    | (((with_reducible refine Sy.is_box ?_); (refine Sy.st_boxAgg T F (h := ?_)); clear T F; intro ac g w T F))
    | (((with_reducible refine Sy.is_op ?_); refine Sy.st_pure T (h := ?_); clear T; intro ac T))
    | (with_reducible refine wpList_nil ?_)
    | (with_reducible refine wp_region_lit ?_)
    | ((with_reducible refine wp_seq_k ?_); intro _ _)
    | (go_at_K; go_step)
    | (simp only [Exit.then, Exit.inBlock, ↓reduceIte, Nat.reduceEqDiff]))
  refine Sy.st_callV0 T F (hc := mayM F.sub h t1) (h := ?_); (clear T F; intro ac w T F)
  repeat (first
    | (((with_reducible refine Sy.is_guard ?_); (refine Sy.st_guard T (h := ?_))))
    | (((with_reducible refine Sy.is_load ?_); (first
    | refine Sy.st_loadOne T F (h := ?_)
    | refine Sy.st_loadAll T F (h := ?_)); clear T; intro ac T))
    | (((with_reducible refine Sy.is_op ?_); refine Sy.st_pure T (h := ?_); clear T; intro ac T))
    | ((with_reducible refine Sy.is_cond ?_); (refine Sy.st_false T (h := ?_)))
    | (with_reducible refine wpList_nil ?_)
    | (with_reducible refine wp_region_lit ?_)
    | (with_reducible refine wp_skip ?_)
    | ((with_reducible refine wp_seq_k ?_); intro _ _)
    | (go_at_K; go_step)
    | (simp only [Exit.then, Exit.inBlock, ↓reduceIte, Nat.reduceEqDiff]))
  refine Sy.st_callV0 T F (hc := G w F.sub) (h := ?_); (clear T F; intro ac w T F)
  repeat (first
    | (((with_reducible refine Sy.is_op ?_); refine Sy.st_pure T (h := ?_); clear T; intro ac T))
    | ((with_reducible refine Sy.is_cond ?_); (refine Sy.st_true T (h := ?_)))
    | (with_reducible refine wpList_nil ?_)
    | (with_reducible refine wp_region_lit ?_)
    | (with_reducible refine wp_ret ?_)
    | ((with_reducible refine wp_seq_k ?_); intro _ _)
    | (go_at_K; go_step)
    | (simp only [Exit.then, Exit.inBlock, ↓reduceIte, Nat.reduceEqDiff]))
  ((try simp only [Exit.inBlock, Exit.then]); refine Sy.st_ret2 T F rfl (by repeat (first | exact Sy.ResV.nil | apply Sy.ResV.tmp rfl | apply Sy.ResV.row rfl rfl rfl (by repeat (first | exact Sy.Take.here | apply Sy.Take.there)) (by rfl) | apply Sy.ResV.one rfl rfl rfl (by repeat (first | exact Sy.Take.here | apply Sy.Take.there)) (by rfl))) ?_)
  exact ⟨none, 0, none, 0, rfl, F.end_, nil_nums _ _ _, nil_cells _ _ _⟩
end Tb
end Go.Proofs.Ytdpmfjbhadapiaa
namespace Go.Proofs.Ytdpmfjbhadapiaa
open Go.RowKit
set_option linter.unusedVariables false
set_option linter.unusedSimpArgs false
theorem Sy.cells_own {w : World} {g : Nat} {cs : List Value} {t : TypeId} (h : w.heap[g]? = some (.cells cs.toArray t (0, 0))) : Cells w (some ⟨g, 0, none⟩) cs := .inr ⟨g, 0, rfl, fun i hi => by rw [Nat.zero_add]; exact Sy.cell_ownI h i (List.getElem?_eq_getElem hi)⟩
namespace Tb
open Sy (RetV RetM Sub)
open Rg (and2 or2 retBb not_t not_f eqT eqF i64_up i64_wrap ClosB any_up any_hit idxS idx_some idx_none CellD CellR NumR RowsOf OwnRows flat_get I64 U8 U64)
theorem run_set_err {r : RuleD} {vars : List Int} {arg : Int} {k : Nat} (hk : k < r.sets.length) (h0 : ∀ j (hj : j < r.sets.length), j < k → evE vars arg r.sets[j].val = 0) (h : evE vars arg r.sets[k].val ≠ 0) : runS r vars arg = ⟨0, [], [], evE vars arg r.sets[k].val⟩ := by
  unfold runS
  rw [first_hit (f := fun s : SetD => evE vars arg s.val) hk h0 h, if_pos h]
theorem run_emit_err {r : RuleD} {vars : List Int} {arg : Int} (hz : ∀ j (hj : j < r.sets.length), evE vars arg r.sets[j].val = 0) {k : Nat} (hk : k < r.emits.length) (h0 : ∀ j (hj : j < r.emits.length), j < k → evE vars arg r.emits[j].arg = 0) (h : evE vars arg r.emits[k].arg ≠ 0) : runS r vars arg = ⟨0, [], [], evE vars arg r.emits[k].arg⟩ := by
  unfold runS
  rw [first_zero (f := fun s : SetD => evE vars arg s.val) hz, if_neg (by simp), first_hit (f := fun s : EmitD => evE vars arg s.arg) hk h0 h, if_pos h]
theorem run_ok {r : RuleD} {vars : List Int} {arg : Int} (hz : ∀ j (hj : j < r.sets.length), evE vars arg r.sets[j].val = 0) (hz2 : ∀ j (hj : j < r.emits.length), evE vars arg r.emits[j].arg = 0) : runS r vars arg = ⟨r.dst, applyS vars arg r.sets vars, r.emits.map (cellOf vars arg), 0⟩ := by
  unfold runS
  rw [first_zero (f := fun s : SetD => evE vars arg s.val) hz, if_neg (by simp), first_zero (f := fun s : EmitD => evE vars arg s.arg) hz2, if_neg (by simp)]
theorem all_up {p : Nat → Prop} {n k : Nat} (h : ∀ j, j < n → j < k → p j) (hk : p k) : ∀ j, j < n → j < k + 1 → p j := fun j h1 h2 => by
  rcases Nat.lt_or_eq_of_le (Nat.le_of_lt_succ h2) with h3 | rfl
  · exact h j h1 h3
  · exact hk
set_option maxRecDepth 20000 in
set_option maxHeartbeats 2000000 in
theorem fire_run (w0 : World) (t : TabD) (ta : Option Addr) (tc : Nat) (h : TabAt w0 t ta tc) (state action party : Int) {va : Option Addr} {vc : Nat} {vars : List Int} (arg : Int) (hv : Ex.Ints w0 va vars.length vars) (ha : OkA arg) (t1 : mayS t = true) (t2 : ((vars.length : Int) == t.vars) = true)
    {i : Nat} (hi : i < t.rules.length) (hf : findS t state action party vars arg = (i : Int)) :
    Calls Try.prog 16 #[.agg (tabCs t ta tc).toArray, .int .i64 state, .int .i64 action, .int .i64 party, .slice va vars.length vc, .int .i64 arg] w0 (RetFi w0 (runS t.rules[i] vars arg)) := by
  have F := Sy.Mem.start (Sub.refl w0)
  have hml := hv.2.1
  have t3 : decide ((i : Int) < 0) = false := decide_eq_false (by omega)
  have G := fun w hs => find_any w t ta tc (h.sub hs) state action party (vc := vc) arg (hv.sub hs) ha
  rw [hf] at G
  have hrule := may_rule t1 (List.getElem_mem hi)
  obtain ⟨hsets, hs8, he4, hbad, hdst⟩ := rule_sets hrule
  obtain ⟨hrange, -, hasc⟩ := sets_le hsets
  have hvl : (vars.length : Int) = t.vars := by simpa using t2
  have hv8 := (may_vars t1).2.1
  obtain ⟨b, o, cs, hra, hcl, hat, ⟨ga, gc, sa, sc, ea, ec⟩, rfl, hr⟩ := rows_get h.rules hi
  have hse := hr.sets
  have hem := hr.emits
  simp only at hse hem
  clear hf hsets hrule hasc hbad
  subst hra
  generalize hrr : t.rules[i] = r at *
  refine Sy.enter Try.func16 rfl Try.ntmps16 rfl ?_; intro ac T; simp only [Sy.enum, Nat.zero_add, Nat.reduceAdd] at T
  repeat (first
    | (((with_reducible refine Sy.is_load ?_); (refine Sy.st_loadAll T F (h := ?_)); clear T; intro ac T))
    | (((with_reducible refine Sy.is_box ?_); (refine Sy.st_boxAgg T F (h := ?_)); clear T F; intro ac g w T F))
    | (((with_reducible refine Sy.is_op ?_); refine Sy.st_pure T (h := ?_); clear T; intro ac T))
    | (with_reducible refine wpList_nil ?_)
    | (with_reducible refine wp_region_lit ?_)
    | ((with_reducible refine wp_seq_k ?_); intro _ _)
    | (go_at_K; go_step)
    | (simp only [Exit.then, Exit.inBlock, ↓reduceIte, Nat.reduceEqDiff]))
  refine Sy.st_callV0 T F (hc := mayM F.sub h t1) (h := ?_); (clear T F; intro ac w T F)
  repeat (first
    | (((with_reducible refine Sy.is_guard ?_); (refine Sy.st_guard T (h := ?_))))
    | (((with_reducible refine Sy.is_load ?_); (first
    | refine Sy.st_loadOne T F (h := ?_)
    | refine Sy.st_loadAll T F (h := ?_)); clear T; intro ac T))
    | (((with_reducible refine Sy.is_op ?_); refine Sy.st_pure T (h := ?_); clear T; intro ac T))
    | ((with_reducible refine Sy.is_cond ?_); (refine Sy.st_false T (h := ?_)))
    | (with_reducible refine wpList_nil ?_)
    | (with_reducible refine wp_region_lit ?_)
    | (with_reducible refine wp_skip ?_)
    | ((with_reducible refine wp_seq_k ?_); intro _ _)
    | (go_at_K; go_step)
    | (simp only [Exit.then, Exit.inBlock, ↓reduceIte, Nat.reduceEqDiff]))
  refine Sy.st_callV0 T F (hc := G w F.sub) (h := ?_); (clear T F; intro ac w T F)
  repeat (first
    | (((with_reducible refine Sy.is_load ?_); (first
    | refine Sy.st_loadOne T F (h := ?_)
    | refine Sy.st_oldAgg T F (h := ?_)); clear T; intro ac T))
    | (((with_reducible refine Sy.is_store ?_); (refine Sy.st_storeAll T F (h := ?_)); clear T F; intro ac w T F))
    | (((with_reducible refine Sy.is_alloc ?_); refine Sy.st_alloc T F (h := ?_); clear T F; intro ac g w T F))
    | (((with_reducible refine Sy.is_op ?_); refine Sy.st_pure T (h := ?_); clear T; intro ac T))
    | ((with_reducible refine Sy.is_cond ?_); (refine Sy.st_false T (h := ?_)))
    | (with_reducible refine wpList_nil ?_)
    | (with_reducible refine wp_region_lit ?_)
    | (with_reducible refine wp_skip ?_)
    | ((with_reducible refine wp_seq_k ?_); intro _ _)
    | (go_at_K; go_step)
    | (simp only [Exit.then, Exit.inBlock, ↓reduceIte, Nat.reduceEqDiff]))
  refine Sy.st_call (us := []) (ks := []) T rfl rfl rfl rfl (Rg.cloneInts _ va vc vars (Ex.nums_of_ints (hv.sub F.sub)) (by omega)) ?_
  rintro e w1 ⟨⟨a', cap', rfl, css, hro, how⟩, bel⟩
  refine ⟨_, rfl, fun ac' T' => ?_⟩
  rw [num_rows hro] at how
  have F1 := F.slAcall bel how
  have hgx : 0 < vars.length → ∃ g, a' = some ⟨g, 0, none⟩ := by
    intro h0
    obtain ⟨a2, cap2, hv2, h1, h2, h3, h4⟩ := how
    simp at hv2
    obtain ⟨rfl, rfl⟩ := hv2
    rcases h4 with h4 | ⟨g, cur, h5, _⟩
    · omega
    · exact ⟨g, h5⟩
  clear F T how hro bel
  have F := F1
  have T := T'
  clear F1 T'
  repeat (first
    | (((with_reducible refine Sy.is_load ?_); (refine Sy.st_loadOne T F (h := ?_)); clear T; intro ac T))
    | (((with_reducible refine Sy.is_op ?_); refine Sy.st_pure T (h := ?_); clear T; intro ac T))
    | (with_reducible refine wpList_nil ?_)
    | (with_reducible refine wp_region_lit ?_)
    | (with_reducible refine wp_block ?_)
    | ((with_reducible refine wp_seq_k ?_); intro _ _)
    | (go_at_K; go_step)
    | (simp only [Exit.then, Exit.inBlock, ↓reduceIte, Nat.reduceEqDiff]))
  refine Sy.loop1 (fun g17 n ac w' => ∃ (k : Nat), n = r.sets.length - k ∧ k ≤ r.sets.length ∧ (∀ j (hj : j < r.sets.length), j < k → evE vars arg r.sets[j].val = 0) ∧
    Sy.Tm ac 110 [(4, .slice va vars.length vc), (5, .int .i64 arg), (17, .pointer (some ⟨g17, 0, none⟩)), (18, .slice a' vars.length cap'), (19, .slice none 0 0), (55, .slice sa r.sets.length sc), (56, .int .i64 (r.sets.length : Int)), (57, .int .i64 (k : Int))] ∧
    Sy.MemE (Sy.SlA Sy.E0 2 1 (.slice a' vars.length cap') vars.length ((applyS vars arg (r.sets.take k) vars).map intV)) ⟨w0, [], w0⟩ w0 [⟨g17, ruleCs r ⟨ga, gc, sa, sc, ea, ec⟩, 42⟩] w') r.sets.length (by exact ⟨0, rfl, Nat.zero_le _, fun j _ hj => absurd hj (Nat.not_lt_zero _), (T.part (by repeat (first | exact Sy.Part.nil | apply Sy.Part.cons rfl))), (F.sel (by repeat (first | exact Sy.Sel.nil | apply Sy.Sel.cons (by repeat (first | exact Sy.Take.here | apply Sy.Take.there)))))⟩) ?_
  clear T F
  intro n ac w hI J K hJ hK
  obtain ⟨k, rfl, hk, hok, T, F⟩ := hI
  by_cases hlt : k < r.sets.length
  · have v1 : decide ((k : Int) < (r.sets.length : Int)) = true := decide_eq_true (by omega)
    have v2 := i64_up hlt hse.1
    obtain ⟨b2, o2, cs2, hsa, hcl2, hat2, a1, c1, hcs, hiv, htk⟩ := rows_get hse hlt
    obtain ⟨v, hvv⟩ : ∃ v : Nat, r.sets[k].var = (v : Int) := ⟨r.sets[k].var.toNat, by have := (hrange _ (List.getElem_mem hlt)).1; omega⟩
    have hvlt : v < vars.length := by have := (hrange _ (List.getElem_mem hlt)).2; omega
    rw [hvv] at hcs
    subst hcs hsa
    by_cases he : evE vars arg r.sets[k].val = 0
    · have u1 := eqT (a := (evE vars arg r.sets[k].val : Int)) (b := 0) (by omega)
      obtain ⟨gn, rfl⟩ := hgx (by omega)
      repeat (first
    | (((with_reducible refine Sy.is_load ?_); (first
    | refine Sy.st_loadOne T F (h := ?_)
    | refine Sy.st_oldAgg T F (h := ?_)); clear T; intro ac T))
    | (((with_reducible refine Sy.is_store ?_); (refine Sy.st_storeAll T F (h := ?_)); clear T F; intro ac w T F))
    | (((with_reducible refine Sy.is_alloc ?_); refine Sy.st_alloc T F (h := ?_); clear T F; intro ac g w T F))
    | (((with_reducible refine Sy.is_op ?_); refine Sy.st_pure T (h := ?_); clear T; intro ac T))
    | ((with_reducible refine Sy.is_cond ?_); (refine Sy.st_true T (h := ?_)))
    | (with_reducible refine wpList_nil ?_)
    | (with_reducible refine wp_region_lit ?_)
    | (with_reducible refine wp_block ?_)
    | (with_reducible refine wp_skip ?_)
    | ((with_reducible refine wp_seq_k ?_); intro _ _)
    | (go_at_K; go_step)
    | (simp only [Exit.then, Exit.inBlock, ↓reduceIte, Nat.reduceEqDiff]))
      refine Sy.st_callV0 T F (hc := exEval _ (htk.sub F.sub) (hv.sub F.sub) ha) (h := ?_); (clear T F; intro ac w T F)
      repeat (first
    | (((with_reducible refine Sy.is_load ?_); (refine Sy.st_loadOne T F (h := ?_)); clear T; intro ac T))
    | (((with_reducible refine Sy.is_op ?_); refine Sy.st_pure T (h := ?_); clear T; intro ac T))
    | ((with_reducible refine Sy.is_cond ?_); (refine Sy.st_false T (h := ?_)))
    | (with_reducible refine wpList_nil ?_)
    | (with_reducible refine wp_region_lit ?_)
    | (with_reducible refine wp_skip ?_)
    | ((with_reducible refine wp_seq_k ?_); intro _ _)
    | (go_at_K; go_step)
    | (simp only [Exit.then, Exit.inBlock, ↓reduceIte, Nat.reduceEqDiff]))
      refine Sy.st_storeSl (j := 0 + v * 1) T F (by omega) (h := ?_); clear T F; intro ac w T F
      have e1 : ((applyS vars arg (r.sets.take k) vars).map intV).set (0 + v * 1) (.int .i64 (evV vars arg r.sets[k].val)) = (applyS vars arg (r.sets.take (k + 1)) vars).map intV := by
        rw [apply_up hlt, stepS, hvv, List.map_set, Int.toNat_natCast, Nat.zero_add, Nat.mul_one]
        rfl
      rw [e1] at F
      repeat (first
    | (((with_reducible refine Sy.is_op ?_); refine Sy.st_pure T (h := ?_); clear T; intro ac T))
    | (with_reducible refine wpList_nil ?_)
    | (with_reducible refine wp_region_lit ?_)
    | (go_at_K; go_step)
    | (simp only [Exit.then, Exit.inBlock, ↓reduceIte, Nat.reduceEqDiff]))
      exact Sy.handed hJ (k := r.sets.length - (k + 1)) (by omega) ⟨k + 1, rfl, by omega, fun j hj hjk => by
        rcases Nat.lt_or_eq_of_le (Nat.le_of_lt_succ hjk) with h3 | rfl
        · exact hok j hj h3
        · exact he, (T.part (by repeat (first | exact Sy.Part.nil | apply Sy.Part.cons rfl))), (F.sel (by repeat (first | exact Sy.Sel.nil | apply Sy.Sel.cons (by repeat (first | exact Sy.Take.here | apply Sy.Take.there)))))⟩
    · have u1 := eqF (a := (evE vars arg r.sets[k].val : Int)) (b := 0) (by omega)
      repeat (first
    | (((with_reducible refine Sy.is_load ?_); (first
    | refine Sy.st_loadOne T F (h := ?_)
    | refine Sy.st_oldAgg T F (h := ?_)); clear T; intro ac T))
    | (((with_reducible refine Sy.is_store ?_); (refine Sy.st_storeAll T F (h := ?_)); clear T F; intro ac w T F))
    | (((with_reducible refine Sy.is_alloc ?_); refine Sy.st_alloc T F (h := ?_); clear T F; intro ac g w T F))
    | (((with_reducible refine Sy.is_op ?_); refine Sy.st_pure T (h := ?_); clear T; intro ac T))
    | ((with_reducible refine Sy.is_cond ?_); (refine Sy.st_true T (h := ?_)))
    | (with_reducible refine wpList_nil ?_)
    | (with_reducible refine wp_region_lit ?_)
    | (with_reducible refine wp_block ?_)
    | (with_reducible refine wp_skip ?_)
    | ((with_reducible refine wp_seq_k ?_); intro _ _)
    | (go_at_K; go_step)
    | (simp only [Exit.then, Exit.inBlock, ↓reduceIte, Nat.reduceEqDiff]))
      refine Sy.st_callV0 T F (hc := exEval _ (htk.sub F.sub) (hv.sub F.sub) ha) (h := ?_); (clear T F; intro ac w T F)
      repeat (first
    | (((with_reducible refine Sy.is_op ?_); refine Sy.st_pure T (h := ?_); clear T; intro ac T))
    | ((with_reducible refine Sy.is_cond ?_); (refine Sy.st_true T (h := ?_)))
    | (with_reducible refine wpList_nil ?_)
    | (with_reducible refine wp_region_lit ?_)
    | (with_reducible refine wp_ret ?_)
    | ((with_reducible refine wp_seq_k ?_); intro _ _)
    | (go_at_K; go_step)
    | (simp only [Exit.then, Exit.inBlock, ↓reduceIte, Nat.reduceEqDiff]))
      ((try simp only [Exit.inBlock, Exit.then]); refine Sy.st_ret2 T F rfl (by repeat (first | exact Sy.ResV.nil | apply Sy.ResV.tmp rfl | apply Sy.ResV.row rfl rfl rfl (by repeat (first | exact Sy.Take.here | apply Sy.Take.there)) (by rfl) | apply Sy.ResV.one rfl rfl rfl (by repeat (first | exact Sy.Take.here | apply Sy.Take.there)) (by rfl))) ?_)
      rw [run_set_err hlt hok he]
      exact ⟨none, 0, none, 0, rfl, F.end_, nil_nums _ _ _, nil_cells _ _ _⟩
  obtain rfl : k = r.sets.length := by omega
  have v1 : decide ((r.sets.length : Int) < (r.sets.length : Int)) = false := decide_eq_false (by omega)
  rw [List.take_length] at F
  have hz : ∀ j (hj : j < r.sets.length), evE vars arg r.sets[j].val = 0 := fun j hj => hok j hj hj
  replace F := F.slA0 47 4 none
  repeat (first
    | (((with_reducible refine Sy.is_load ?_); (refine Sy.st_loadOne T F (h := ?_)); clear T; intro ac T))
    | (((with_reducible refine Sy.is_op ?_); refine Sy.st_pure T (h := ?_); clear T; intro ac T))
    | ((with_reducible refine Sy.is_cond ?_); (refine Sy.st_false T (h := ?_)))
    | (with_reducible refine wpList_nil ?_)
    | (with_reducible refine wp_region_lit ?_)
    | (with_reducible refine wp_block ?_)
    | (with_reducible refine wp_exit ?_)
    | ((with_reducible refine wp_seq_k ?_); intro _ _)
    | (go_at_K; go_step)
    | (simp only [Exit.then, Exit.inBlock, ↓reduceIte, Nat.reduceEqDiff]))
  refine Sy.loop1 (fun g17 n ac w' => ∃ (k : Nat) (ad : Option Addr) (c2 : Nat), n = r.emits.length - k ∧ k ≤ r.emits.length ∧ (∀ j (hj : j < r.emits.length), j < k → evE vars arg r.emits[j].arg = 0) ∧
    Sy.Tm ac 110 [(4, .slice va vars.length vc), (5, .int .i64 arg), (17, .pointer (some ⟨g17, 0, none⟩)), (18, .slice a' vars.length cap'), (19, .slice ad k c2), (79, .slice ea r.emits.length ec), (80, .int .i64 (r.emits.length : Int)), (81, .int .i64 (k : Int))] ∧
    Sy.MemE (Sy.SlA (Sy.SlA Sy.E0 2 1 (.slice a' vars.length cap') vars.length ((applyS vars arg r.sets vars).map intV)) 47 4 (.slice ad k c2) k (((r.emits.take k).map (cellOf vars arg)).map cellV).flatten) ⟨w0, [], w0⟩ w0 [⟨g17, ruleCs r ⟨ga, gc, sa, sc, ea, ec⟩, 42⟩] w') r.emits.length (by exact ⟨0, none, 0, rfl, Nat.zero_le _, fun j _ hj => absurd hj (Nat.not_lt_zero _), (T.part (by repeat (first | exact Sy.Part.nil | apply Sy.Part.cons rfl))), (F.sel (by repeat (first | exact Sy.Sel.nil | apply Sy.Sel.cons (by repeat (first | exact Sy.Take.here | apply Sy.Take.there)))))⟩) ?_
  clear T F hok v1 hlt hk hJ hK hgx
  intro n ac w hI J K hJ hK
  obtain ⟨k, ad, c2, rfl, hk, hok, T, F⟩ := hI
  by_cases hlt : k < r.emits.length
  · have v1 : decide ((k : Int) < (r.emits.length : Int)) = true := decide_eq_true (by omega)
    have v2 := i64_up hlt hem.1
    obtain ⟨b2, o2, cs2, hsa, hcl2, hat2, a1, c1, rfl, h8, hia, htk⟩ := rows_get hem hlt
    subst hsa
    by_cases he : evE vars arg r.emits[k].arg = 0
    · have u1 := eqT (a := (evE vars arg r.emits[k].arg : Int)) (b := 0) (by omega)
      repeat (first
    | (((with_reducible refine Sy.is_load ?_); (first
    | refine Sy.st_loadOne T F (h := ?_)
    | refine Sy.st_oldAgg T F (h := ?_)); clear T; intro ac T))
    | (((with_reducible refine Sy.is_store ?_); (refine Sy.st_storeAll T F (h := ?_)); clear T F; intro ac w T F))
    | (((with_reducible refine Sy.is_alloc ?_); refine Sy.st_alloc T F (h := ?_); clear T F; intro ac g w T F))
    | (((with_reducible refine Sy.is_op ?_); refine Sy.st_pure T (h := ?_); clear T; intro ac T))
    | ((with_reducible refine Sy.is_cond ?_); (refine Sy.st_true T (h := ?_)))
    | (with_reducible refine wpList_nil ?_)
    | (with_reducible refine wp_region_lit ?_)
    | (with_reducible refine wp_block ?_)
    | (with_reducible refine wp_skip ?_)
    | ((with_reducible refine wp_seq_k ?_); intro _ _)
    | (go_at_K; go_step)
    | (simp only [Exit.then, Exit.inBlock, ↓reduceIte, Nat.reduceEqDiff]))
      refine Sy.st_callV0 T F (hc := exEval _ (htk.sub F.sub) (hv.sub F.sub) ha) (h := ?_); (clear T F; intro ac w T F)
      repeat (first
    | (((with_reducible refine Sy.is_load ?_); (refine Sy.st_loadOne T F (h := ?_)); clear T; intro ac T))
    | (((with_reducible refine Sy.is_build ?_); refine Sy.st_build T (h := ?_); (conv => whnf); (repeat (refine ⟨by first | exact rfl | exact ⟨rfl, rfl⟩, ?_⟩; (conv => whnf))); clear T; intro ac T))
    | (((with_reducible refine Sy.is_op ?_); refine Sy.st_pure T (h := ?_); clear T; intro ac T))
    | ((with_reducible refine Sy.is_cond ?_); (refine Sy.st_false T (h := ?_)))
    | (with_reducible refine wpList_nil ?_)
    | (with_reducible refine wp_region_lit ?_)
    | (with_reducible refine wp_skip ?_)
    | ((with_reducible refine wp_seq_k ?_); intro _ _)
    | (go_at_K; go_step)
    | (simp only [Exit.then, Exit.inBlock, ↓reduceIte, Nat.reduceEqDiff]))
      refine Sy.st_buildSliceR T F (h := ?_); (conv => whnf); (repeat (refine ⟨by first | exact rfl | exact ⟨rfl, rfl⟩, ?_⟩; (conv => whnf))); clear T F; intro ac g w T F
      refine Sy.st_appendC T F (k2 := 1) (news := cellV (cellOf vars arg r.emits[k])) (Sy.cells_own (F.get Sy.Take.here)) rfl (by intro u hu; simp [cellV] at hu; rcases hu with rfl | rfl | rfl | rfl <;> rfl) (hbytes := ?_) (h := ?_)
      · show (k + 1) * 32 ≤ 140737488355328
        omega
      clear T F; intro ad' c2' ac w T F
      have e1 : (((r.emits.take k).map (cellOf vars arg)).map cellV).flatten ++ cellV (cellOf vars arg r.emits[k]) = (((r.emits.take (k + 1)).map (cellOf vars arg)).map cellV).flatten := by
        rw [List.take_succ_eq_append_getElem hlt, List.map_append, List.map_append, List.flatten_append]
        simp only [List.map_cons, List.map_nil, List.flatten_cons, List.flatten_nil, List.append_nil]
      rw [e1] at F
      repeat (first
    | (((with_reducible refine Sy.is_op ?_); refine Sy.st_pure T (h := ?_); clear T; intro ac T))
    | (with_reducible refine wpList_nil ?_)
    | (with_reducible refine wp_region_lit ?_)
    | (go_at_K; go_step)
    | (simp only [Exit.then, Exit.inBlock, ↓reduceIte, Nat.reduceEqDiff]))
      exact Sy.handed hJ (k := r.emits.length - (k + 1)) (by omega) ⟨k + 1, ad', c2', rfl, by omega, fun j hj hjk => by
        rcases Nat.lt_or_eq_of_le (Nat.le_of_lt_succ hjk) with h3 | rfl
        · exact hok j hj h3
        · exact he, (T.part (by repeat (first | exact Sy.Part.nil | apply Sy.Part.cons rfl))), (F.sel (by repeat (first | exact Sy.Sel.nil | apply Sy.Sel.cons (by repeat (first | exact Sy.Take.here | apply Sy.Take.there)))))⟩
    · have u1 := eqF (a := (evE vars arg r.emits[k].arg : Int)) (b := 0) (by omega)
      repeat (first
    | (((with_reducible refine Sy.is_load ?_); (first
    | refine Sy.st_loadOne T F (h := ?_)
    | refine Sy.st_oldAgg T F (h := ?_)); clear T; intro ac T))
    | (((with_reducible refine Sy.is_store ?_); (refine Sy.st_storeAll T F (h := ?_)); clear T F; intro ac w T F))
    | (((with_reducible refine Sy.is_alloc ?_); refine Sy.st_alloc T F (h := ?_); clear T F; intro ac g w T F))
    | (((with_reducible refine Sy.is_op ?_); refine Sy.st_pure T (h := ?_); clear T; intro ac T))
    | ((with_reducible refine Sy.is_cond ?_); (refine Sy.st_true T (h := ?_)))
    | (with_reducible refine wpList_nil ?_)
    | (with_reducible refine wp_region_lit ?_)
    | (with_reducible refine wp_block ?_)
    | (with_reducible refine wp_skip ?_)
    | ((with_reducible refine wp_seq_k ?_); intro _ _)
    | (go_at_K; go_step)
    | (simp only [Exit.then, Exit.inBlock, ↓reduceIte, Nat.reduceEqDiff]))
      refine Sy.st_callV0 T F (hc := exEval _ (htk.sub F.sub) (hv.sub F.sub) ha) (h := ?_); (clear T F; intro ac w T F)
      repeat (first
    | (((with_reducible refine Sy.is_op ?_); refine Sy.st_pure T (h := ?_); clear T; intro ac T))
    | ((with_reducible refine Sy.is_cond ?_); (refine Sy.st_true T (h := ?_)))
    | (with_reducible refine wpList_nil ?_)
    | (with_reducible refine wp_region_lit ?_)
    | (with_reducible refine wp_ret ?_)
    | ((with_reducible refine wp_seq_k ?_); intro _ _)
    | (go_at_K; go_step)
    | (simp only [Exit.then, Exit.inBlock, ↓reduceIte, Nat.reduceEqDiff]))
      ((try simp only [Exit.inBlock, Exit.then]); refine Sy.st_ret2 T F rfl (by repeat (first | exact Sy.ResV.nil | apply Sy.ResV.tmp rfl | apply Sy.ResV.row rfl rfl rfl (by repeat (first | exact Sy.Take.here | apply Sy.Take.there)) (by rfl) | apply Sy.ResV.one rfl rfl rfl (by repeat (first | exact Sy.Take.here | apply Sy.Take.there)) (by rfl))) ?_)
      rw [run_emit_err hz hlt hok he]
      exact ⟨none, 0, none, 0, rfl, F.end_, nil_nums _ _ _, nil_cells _ _ _⟩
  obtain rfl : k = r.emits.length := by omega
  have v1 : decide ((r.emits.length : Int) < (r.emits.length : Int)) = false := decide_eq_false (by omega)
  rw [List.take_length] at F
  have hz2 : ∀ j (hj : j < r.emits.length), evE vars arg r.emits[j].arg = 0 := fun j hj => hok j hj hj
  repeat (first
    | (((with_reducible refine Sy.is_load ?_); (refine Sy.st_loadOne T F (h := ?_)); clear T; intro ac T))
    | (((with_reducible refine Sy.is_op ?_); refine Sy.st_pure T (h := ?_); clear T; intro ac T))
    | ((with_reducible refine Sy.is_cond ?_); (refine Sy.st_false T (h := ?_)))
    | (with_reducible refine wpList_nil ?_)
    | (with_reducible refine wp_region_lit ?_)
    | (with_reducible refine wp_exit ?_)
    | (with_reducible refine wp_ret ?_)
    | ((with_reducible refine wp_seq_k ?_); intro _ _)
    | (go_at_K; go_step)
    | (simp only [Exit.then, Exit.inBlock, ↓reduceIte, Nat.reduceEqDiff]))
  ((try simp only [Exit.inBlock, Exit.then]); refine Sy.st_ret2 T F rfl (by repeat (first | exact Sy.ResV.nil | apply Sy.ResV.tmp rfl | apply Sy.ResV.row rfl rfl rfl (by repeat (first | exact Sy.Take.here | apply Sy.Take.there)) (by rfl) | apply Sy.ResV.one rfl rfl rfl (by repeat (first | exact Sy.Take.here | apply Sy.Take.there)) (by rfl))) ?_)
  rw [run_ok hz hz2]
  have b1 := apply_bd (vars := vars) (arg := arg) hv.2.2.1 ha r.sets vars (fun s hs => by
    obtain ⟨j, hj, rfl⟩ := List.getElem_of_mem hs
    obtain ⟨_, _, _, _, _, _, _, _, _, _, htk⟩ := rows_get hse hj
    exact htk.2.2.1) hv.2.2.1
  refine ⟨a', cap', ad, c2, by simp [apply_len], F.end_, own_nums b1 ?_, own_cells (fun c hc => ?_) ?_⟩
  · rw [apply_len]
    exact own_up F.ext.1.2.1 fun q hq => (F.loose q (.inl (.inr hq))).1.resolve_right (by simp)
  · obtain ⟨e, hem', rfl⟩ := List.mem_map.1 hc
    obtain ⟨j, hj, rfl⟩ := List.getElem_of_mem hem'
    obtain ⟨_, _, _, _, _, _, _, _, _, h8, hia, htk⟩ := rows_get hem hj
    have hb := Ex.eval_bd hv.2.2.1 ha htk.2.2.1
    exact ⟨by unfold U64 cellOf; simp, h8, hia, hb⟩
  · simp only [List.length_map]
    exact own_up F.ext.2.1 fun q hq => (F.loose q (.inr hq)).1.resolve_right (by simp)
end Tb
end Go.Proofs.Ytdpmfjbhadapiaa
namespace Go.Proofs.Ytdpmfjbhadapiaa
open Go.RowKit
set_option linter.unusedVariables false
set_option linter.unusedSimpArgs false
namespace Tb
open Sy (RetV RetM Sub)
open Rg (and2 or2 retBb not_t not_f eqT eqF i64_up i64_wrap ClosB any_up any_hit idxS idx_some idx_none CellD CellR NumR RowsOf OwnRows flat_get I64 U8 U64)
theorem find_cases (t : TabD) (state action party : Int) (vars : List Int) (arg : Int) : findS t state action party vars arg < 0 ∧ (goodS t vars = true → findS t state action party vars arg = -1) ∨ goodS t vars = true ∧ ∃ k, ∃ h : k < t.rules.length, findS t state action party vars arg = (k : Int) ∧ hitR state action party vars arg t.rules[k] = true := by
  unfold findS
  cases hg : goodS t vars with
  | false => exact .inl ⟨by simp, by simp⟩
  | true =>
    rcases idx_cases (hitR state action party vars arg) t.rules with h | ⟨k, h, h1, h2, _⟩
    · exact .inl ⟨by simp [h], by simp [h]⟩
    · exact .inr ⟨rfl, k, h, by simpa using h1, h2⟩
theorem fire_any (w : World) (t : TabD) (ta : Option Addr) (tc : Nat) (h : TabAt w t ta tc) (state action party : Int) {va : Option Addr} {vc : Nat} {vars : List Int} (arg : Int) (hv : Ex.Ints w va vars.length vars) (ha : OkA arg) :
    Calls Try.prog 16 #[.agg (tabCs t ta tc).toArray, .int .i64 state, .int .i64 action, .int .i64 party, .slice va vars.length vc, .int .i64 arg] w (RetFi w (fireS t state action party vars arg)) := by
  cases hg : goodS t vars with
  | false =>
    have : fireS t state action party vars arg = ⟨0, [], [], 10⟩ := by unfold fireS; rw [if_pos hg]
    rw [this]; exact fire_no w t ta tc h state action party arg hv ha hg
  | true =>
    rcases find_cases t state action party vars arg with ⟨hf, -⟩ | ⟨-, k, hk, hf, -⟩
    · have : fireS t state action party vars arg = ⟨0, [], [], 13⟩ := by unfold fireS; rw [if_neg (by rw [hg]; simp), if_pos hf]
      rw [this]; exact fire_none w t ta tc h state action party arg hv ha hg hf
    · have : fireS t state action party vars arg = runS t.rules[k] vars arg := by
        unfold fireS
        rw [if_neg (by rw [hg]; simp), if_neg (by omega), hf, Int.toNat_natCast]
        simp [List.getD_eq_getElem?_getD, hk]
      unfold goodS at hg
      rw [Bool.and_eq_true] at hg
      rw [this]; exact fire_run w t ta tc h state action party arg hv ha hg.1 hg.2 hk hf

theorem own_move {w' m' : World} {B : Nat} {e : TypeId} {size : Nat} {v : Value} {n : Nat} {xs : List Value} (h : Own w' B e size v n xs) (hm : ∀ b, B ≤ b → b < w'.heap.size → m'.heap[b]? = w'.heap[b]?) : Own m' B e size v n xs := by
  obtain ⟨a, cap, rfl, h1, h2, h3, h4⟩ := h
  refine ⟨a, cap, rfl, h1, h2, h3, ?_⟩
  rcases h4 with h4 | ⟨g, cur, ha, h5, h6, h7⟩
  · exact .inl h4
  · exact .inr ⟨g, cur, ha, h5, by rw [hm g h5 (Array.getElem?_eq_some_iff.1 h6).1]; exact h6, h7⟩
theorem nums_move {w' m' : World} {B : Nat} {a : Option Addr} {cap : Nat} {l : List Int} (h : OwnRows NumR 1 2 w' B a cap l) (hm : ∀ b, B ≤ b → b < w'.heap.size → m'.heap[b]? = w'.heap[b]?) : Nums m' a l := by
  obtain ⟨css, h1, h2⟩ := h
  have hx : OwnRows NumR 1 2 m' B a cap l := ⟨css, ⟨h1.1, fun i p q => h1.2 i p q⟩, own_move h2 hm⟩
  exact (OwnRows.rows (by omega) hx).1
theorem cells_move {w' m' : World} {B : Nat} {a : Option Addr} {cap : Nat} {l : List CellD} (h : OwnRows CellR 4 47 w' B a cap l) (hm : ∀ b, B ≤ b → b < w'.heap.size → m'.heap[b]? = w'.heap[b]?) : Rows CellR 4 m' a l := by
  obtain ⟨css, h1, h2⟩ := h
  have hx : OwnRows CellR 4 47 m' B a cap l := ⟨css, ⟨h1.1, fun i p q => h1.2 i p q⟩, own_move h2 hm⟩
  exact (OwnRows.rows (by omega) hx).1
def FireV (d : FireD) (m : World) (v : Value) : Prop := ∃ a1 c1 a2 c2, v = .tuple #[.int .i64 d.st, .slice a1 d.vs.length c1, .slice a2 d.cs.length c2, .int .i64 (d.e : Int)] ∧ Nums m a1 d.vs ∧ Rows CellR 4 m a2 d.cs

theorem fireM {w m : World} (hs : Sub m w) {t : TabD} {ta : Option Addr} {tc : Nat} (h : TabAt m t ta tc) (state action party : Int) {va : Option Addr} {vc : Nat} {vars : List Int} (arg : Int) (hv : Ex.Ints m va vars.length vars) (ha : OkA arg) :
    Calls Try.prog 16 #[.agg (tabCs t ta tc).toArray, .int .i64 state, .int .i64 action, .int .i64 party, .slice va vars.length vc, .int .i64 arg] w (RetM m w (FireV (fireS t state action party vars arg))) :=
  (fire_any w t ta tc (h.sub hs) state action party arg (hv.sub hs) ha).mono fun e w' ⟨a1, c1, a2, c2, he, hb, h1, h2⟩ => by
    obtain ⟨m', q1, q2, q3, q4⟩ := Sy.retM_of_own hs hb
    exact ⟨_, m', he, hb, q1, q2, q3, a1, c1, a2, c2, rfl, nums_move h1 q4, cells_move h2 q4⟩

/-- what an action does leaves -/
theorem fire_stays {t : TabD} {state action party : Int} {vars : List Int} {arg : Int} :
    (fireS t state action party vars arg).e ≠ 0 ∧ (fireS t state action party vars arg).st = 0 ∧ (fireS t state action party vars arg).vs = [] ∧ (fireS t state action party vars arg).cs = [] ∨
    (fireS t state action party vars arg).e = 0 ∧ 0 ≤ (fireS t state action party vars arg).st ∧ (fireS t state action party vars arg).st < t.states ∧ ((fireS t state action party vars arg).vs.length : Int) = t.vars ∧ (fireS t state action party vars arg).cs.length ≤ 4 ∧ ∀ c ∈ (fireS t state action party vars arg).cs, c.n = 0 ∧ c.target ≤ 15 ∧ 0 ≤ c.action ∧ c.action ≤ 31 := by
  cases hg : goodS t vars with
  | false =>
    have : fireS t state action party vars arg = ⟨0, [], [], 10⟩ := by unfold fireS; rw [if_pos hg]
    rw [this]; exact .inl ⟨by simp, rfl, rfl, rfl⟩
  | true =>
    rcases find_cases t state action party vars arg with ⟨hf, -⟩ | ⟨-, k, hk, hf, -⟩
    · have : fireS t state action party vars arg = ⟨0, [], [], 13⟩ := by unfold fireS; rw [if_neg (by rw [hg]; simp), if_pos hf]
      rw [this]; exact .inl ⟨by simp, rfl, rfl, rfl⟩
    · have : fireS t state action party vars arg = runS t.rules[k] vars arg := by
        unfold fireS
        rw [if_neg (by rw [hg]; simp), if_neg (by omega), hf, Int.toNat_natCast]
        simp [List.getD_eq_getElem?_getD, hk]
      rw [this]
      unfold goodS at hg
      rw [Bool.and_eq_true] at hg
      have hvl : (vars.length : Int) = t.vars := by simpa using hg.2
      obtain ⟨hsets, hs8, he4, hbad, hdst⟩ := rule_sets (may_rule hg.1 (List.getElem_mem hk))
      unfold inS at hdst
      rw [Bool.and_eq_true, decide_eq_true_iff, decide_eq_true_iff] at hdst
      unfold runS
      split
      · rename_i h1; exact .inl ⟨h1, rfl, rfl, rfl⟩
      split
      · rename_i h1 h2; exact .inl ⟨h2, rfl, rfl, rfl⟩
      · refine .inr ⟨rfl, hdst.1, hdst.2, by simp only [apply_len]; exact hvl, by simpa using he4, fun c hc => ?_⟩
        obtain ⟨e, he, rfl⟩ := List.mem_map.1 hc
        rw [List.any_eq_false] at hbad
        have hb := hbad e he
        simp only [Bool.not_eq_true] at hb
        unfold badE at hb
        rw [Bool.or_eq_false_iff, Bool.or_eq_false_iff] at hb
        obtain ⟨x1, x2, -⟩ := hb
        replace x1 := of_decide_eq_false x1
        replace x2 := not_f x2
        unfold inS at x2
        rw [Bool.and_eq_true, decide_eq_true_iff, decide_eq_true_iff] at x2
        refine ⟨rfl, ?_, ?_, ?_⟩
        · show e.target ≤ 15
          omega
        · exact x2.1
        · show e.action ≤ 31
          omega
end Tb
end Go.Proofs.Ytdpmfjbhadapiaa
