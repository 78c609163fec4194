/- Plain law of formulas: what the code's machine comes to is what the document's parts come to. The walks of takes, right and May; lists of signs in memory and as arguments. Conditions: the lists can be read. -/
import Derived.Test.YtniopkoaplkpkaaBase
import Derived.Test.YtniopkoaplkpkaaSeat
import Derived.Lib.Mul64
import Derived.Laws.Bits64b
import Derived.BigQuiet
import Derived.Deep.QuietTactic
import Derived.Test.YtniopkoaplkpkaaFrame
namespace Go.Proofs.Ytniopkoaplkpkaa
open Go.RowKit
set_option linter.unusedVariables false
namespace Ex

/-- a sign -/
structure Tok where
  op : Nat
  n : Int
deriving DecidableEq

def least : Int := -9223372036854775808
def most : Int := 9223372036854775807
def okT (t : Tok) : Prop := t.op < 256 ∧ least ≤ t.n ∧ t.n ≤ most

def takes (op : Nat) : Nat := if op = 1 ∨ op = 2 ∨ op = 3 then 0 else if op = 11 then 1 else 2
def right (t : Tok) (vars : Int) : Bool :=
  if t.op = 1 then true else if t.op = 2 then decide (0 ≤ t.n ∧ t.n < vars) else decide (t.n = 0 ∧ 3 ≤ t.op ∧ t.op ≤ 11)

theorem takes_le (op : Nat) : takes op ≤ 2 := by unfold takes; split <;> (try split) <;> omega

/-! ### the code's height -/
def mayStep (vars : Int) (t : Tok) (h : Nat) : Option Nat := if right t vars = true ∧ takes t.op ≤ h then some (h + 1 - takes t.op) else none
def mayGo (vars : Int) : List Tok → Nat → Option Nat
  | [], h => some h
  | t :: l, h => (mayStep vars t h).bind (mayGo vars l)
def mayS (l : List Tok) (vars : Int) : Bool := decide (l.length ≤ 24 ∧ mayGo vars l 0 = some 1)

theorem mayGo_app (vars : Int) (m : List Tok) : ∀ (l : List Tok) (h : Nat), mayGo vars (l ++ m) h = (mayGo vars l h).bind (mayGo vars m)
  | [], h => rfl
  | t :: l, h => by
    show (mayStep vars t h).bind (mayGo vars (l ++ m)) = ((mayStep vars t h).bind (mayGo vars l)).bind (mayGo vars m)
    cases mayStep vars t h with
    | none => rfl
    | some x => exact mayGo_app vars m l x
theorem mayGo_snoc (vars : Int) (l : List Tok) (t : Tok) (h : Nat) : mayGo vars (l ++ [t]) h = (mayGo vars l h).bind (mayStep vars t) := by
  rw [mayGo_app]
  congr 1
  funext x
  show (mayStep vars t x).bind (mayGo vars []) = mayStep vars t x
  cases mayStep vars t x <;> rfl
theorem mayGo_le (vars : Int) : ∀ (l : List Tok) (h k : Nat), mayGo vars l h = some k → k ≤ h + l.length
  | [], h, k, e => by simp [mayGo] at e; omega
  | t :: l, h, k, e => by
    simp only [mayGo, mayStep] at e
    split at e
    · have := mayGo_le vars l _ _ e
      simp; omega
    · simp at e
theorem mayGo_right (vars : Int) : ∀ (l : List Tok) (h k : Nat), mayGo vars l h = some k → ∀ t ∈ l, right t vars = true
  | [], h, k, e, t, ht => by cases ht
  | u :: l, h, k, e, t, ht => by
    simp only [mayGo, mayStep] at e
    split at e
    · rename_i hc
      rcases List.mem_cons.1 ht with rfl | ht
      · exact hc.1
      · exact mayGo_right vars l _ _ e t ht
    · simp at e

/-! ### the document's parts, from the last sign on -/
def skip : Nat → List Tok → Option (List Tok)
  | 0, r => some r
  | _ + 1, [] => none
  | n + 1, t :: r => skip (n + takes t.op) r

theorem skip_zero (r : List Tok) : skip 0 r = some r := by cases r <;> rfl
theorem skip_add : ∀ (r : List Tok) (m n : Nat), skip (m + n) r = (skip m r).bind (skip n)
  | r, 0, n => by rw [skip_zero]; simp
  | [], m + 1, n => by
    rw [show m + 1 + n = (m + n) + 1 from by omega]; rfl
  | t :: r, m + 1, n => by
    rw [show m + 1 + n = (m + n) + 1 from by omega]
    show skip (m + n + takes t.op) r = (skip (m + takes t.op) r).bind (skip n)
    rw [show m + n + takes t.op = (m + takes t.op) + n from by omega]
    exact skip_add r _ _
theorem skip_len : ∀ (r : List Tok) (n : Nat) (r' : List Tok), skip n r = some r' → r'.length + n ≤ r.length
  | r, 0, r', h => by rw [skip_zero] at h; simp at h; subst h; omega
  | [], n + 1, r', h => by simp [skip] at h
  | t :: r, n + 1, r', h => by
    have := skip_len r (n + takes t.op) r' h
    simp; omega

/-- where the part that ends with the last sign begins: how many signs are ahead of it -/
def begS (r : List Tok) : Int := match skip 1 r with | none => -1 | some r' => r'.length
theorem begS_nil : begS [] = -1 := rfl
theorem begS_leaf {t : Tok} (h : takes t.op = 0) (r : List Tok) : begS (t :: r) = r.length := by
  unfold begS
  show (match skip (0 + takes t.op) r with | none => -1 | some r' => (r'.length : Int)) = _
  rw [h, skip_zero]
theorem begS_not {t : Tok} (h : takes t.op = 1) (r : List Tok) : begS (t :: r) = begS r := by
  unfold begS
  show (match skip (0 + takes t.op) r with | none => -1 | some r' => (r'.length : Int)) = _
  rw [h]
theorem skip_two {t : Tok} (h : takes t.op = 2) (r : List Tok) : skip 1 (t :: r) = (skip 1 r).bind (skip 1) := by
  show skip (0 + takes t.op) r = _
  rw [h]; exact skip_add r 1 1
theorem skip_drop : ∀ (r : List Tok) (n : Nat) (r' : List Tok), skip n r = some r' → r' = r.drop (r.length - r'.length)
  | r, 0, r', h => by rw [skip_zero] at h; simp at h; subst h; simp
  | [], n + 1, r', h => by simp [skip] at h
  | t :: r, n + 1, r', h => by
    have h1 := skip_drop r (n + takes t.op) r' h
    have h2 := skip_len r (n + takes t.op) r' h
    rw [show (t :: r).length - r'.length = (r.length - r'.length) + 1 from by simp; omega]
    exact h1
theorem begS_two_no {t : Tok} (h : takes t.op = 2) {r : List Tok} (hb : begS r < 0) : begS (t :: r) = -1 := by
  unfold begS at hb ⊢
  rw [skip_two h]
  cases hs : skip 1 r with
  | none => rfl
  | some r' => rw [hs] at hb; simp at hb; omega
theorem begS_two {t : Tok} (h : takes t.op = 2) {r : List Tok} {b : Nat} (hb : begS r = b) : begS (t :: r) = begS (r.drop (r.length - b)) ∧ b < r.length := by
  unfold begS at hb ⊢
  rw [skip_two h]
  cases hs : skip 1 r with
  | none => rw [hs] at hb; simp at hb
  | some r' =>
    rw [hs] at hb
    have hb' : r'.length = b := by simp at hb; omega
    have h1 := skip_drop r 1 r' hs
    have h2 := skip_len r 1 r' hs
    rw [hb'] at h1
    refine ⟨?_, by omega⟩
    rw [← h1]; rfl

theorem may_skip (vars : Int) : ∀ (l : List Tok) (h : Nat), mayGo vars l.reverse 0 = some h → skip h l = some []
  | [], h, e => by simp [mayGo] at e; subst e; rfl
  | t :: r, h, e => by
    rw [List.reverse_cons, mayGo_snoc] at e
    cases hr : mayGo vars r.reverse 0 with
    | none => rw [hr] at e; simp at e
    | some k =>
      rw [hr] at e
      simp only [Option.bind_some, mayStep] at e
      split at e
      · rename_i hc
        have ih := may_skip vars r k hr
        simp at e
        rw [show h = (k - takes t.op) + 1 from by omega]
        show skip (k - takes t.op + takes t.op) r = some []
        rw [Nat.sub_add_cancel hc.2]; exact ih
      · simp at e
theorem skip_may (vars : Int) : ∀ (l : List Tok) (h : Nat), (∀ t ∈ l, right t vars = true) → skip h l = some [] → mayGo vars l.reverse 0 = some h
  | [], h, _, e => by
    cases h with
    | zero => rfl
    | succ n => simp [skip] at e
  | t :: r, h, hr, e => by
    cases h with
    | zero => simp [skip] at e
    | succ n =>
      have ih := skip_may vars r (n + takes t.op) (fun t ht => hr t (List.mem_cons_of_mem _ ht)) e
      rw [List.reverse_cons, mayGo_snoc, ih]
      simp only [Option.bind_some, mayStep]
      rw [if_pos ⟨hr t (List.mem_cons_self), by omega⟩]
      congr 1; omega

def refMayS (l : List Tok) (vars : Int) : Bool := decide (0 < l.length ∧ l.length ≤ 24 ∧ (∀ t ∈ l, right t vars = true) ∧ begS l.reverse = 0)
theorem may_eq (l : List Tok) (vars : Int) : mayS l vars = refMayS l vars := by
  unfold mayS refMayS
  congr 1
  apply propext
  constructor
  · rintro ⟨h1, h2⟩
    have h3 := may_skip vars l.reverse 1 (by simpa using h2)
    refine ⟨?_, h1, mayGo_right vars l 0 1 h2, ?_⟩
    · cases l with
      | nil => simp [mayGo] at h2
      | cons t l => simp
    · unfold begS; rw [h3]; rfl
  · rintro ⟨h0, h1, h2, h3⟩
    refine ⟨h1, ?_⟩
    unfold begS at h3
    cases hs : skip 1 l.reverse with
    | none => rw [hs] at h3; simp at h3
    | some r =>
      rw [hs] at h3
      have : r = [] := by
        apply List.eq_nil_of_length_eq_zero
        simpa using h3
      subst this
      have := skip_may vars l.reverse 1 (by intro t ht; exact h2 t (by simpa using ht)) hs
      simpa using this

/-! ### what they come to -/
def fit (x : Int) : Option Int := if least ≤ x ∧ x ≤ most then some x else none
def truth (b : Bool) : Int := if b then 1 else 0
def twoS (op : Nat) (a b : Int) : Option Int :=
  if op = 4 then fit (a + b) else if op = 5 then fit (a - b) else if op = 6 then fit (a * b)
  else if op = 7 then some (truth (decide (a < b))) else if op = 8 then some (truth (decide (a = b)))
  else if op = 9 then some (truth (decide (a ≠ 0 ∧ b ≠ 0))) else some (truth (decide (a ≠ 0 ∨ b ≠ 0)))

def varAt (vars : List Int) (n : Int) : Int := vars.getD n.toNat 0
def leafS (vars : List Int) (arg : Int) (t : Tok) : Int := if t.op = 1 then t.n else if t.op = 2 then varAt vars t.n else arg

/-- a sign on a stack, its top first; none: no room -/
def evStep (vars : List Int) (arg : Int) (t : Tok) (st : List Int) : Option (List Int) :=
  if takes t.op = 0 then some (leafS vars arg t :: st)
  else if takes t.op = 1 then some (truth (decide (st.headD 0 = 0)) :: st.tail)
  else (twoS t.op (st.tail.headD 0) (st.headD 0)).map (· :: st.tail.tail)
def evGo (vars : List Int) (arg : Int) : List Tok → List Int → Option (List Int)
  | [], st => some st
  | t :: l, st => (evStep vars arg t st).bind (evGo vars arg l)
/-- what the code comes to -/
def evalS (l : List Tok) (vars : List Int) (arg : Int) : Int × Nat :=
  if mayS l vars.length = true then
    match evGo vars arg l [] with
    | none => (0, 18)
    | some st => (st.headD 0, 0)
  else (0, 3)
def holdsS (l : List Tok) (vars : List Int) (arg : Int) : Bool := decide (l.length = 0 ∨ ((evalS l vars arg).2 = 0 ∧ (evalS l vars arg).1 ≠ 0))

theorem evGo_app (vars : List Int) (arg : Int) (m : List Tok) : ∀ (l : List Tok) (st : List Int), evGo vars arg (l ++ m) st = (evGo vars arg l st).bind (evGo vars arg m)
  | [], h => rfl
  | t :: l, h => by
    show (evStep vars arg t h).bind (evGo vars arg (l ++ m)) = ((evStep vars arg t h).bind (evGo vars arg l)).bind (evGo vars arg m)
    cases evStep vars arg t h with
    | none => rfl
    | some x => exact evGo_app vars arg m l x
theorem evGo_snoc (vars : List Int) (arg : Int) (l : List Tok) (t : Tok) (st : List Int) : evGo vars arg (l ++ [t]) st = (evGo vars arg l st).bind (evStep vars arg t) := by
  rw [evGo_app]
  congr 1
  funext x
  show (evStep vars arg t x).bind (evGo vars arg []) = evStep vars arg t x
  cases evStep vars arg t x <;> rfl

/-- the document's part -/
def partS (vars : List Int) (arg : Int) : Nat → List Tok → Option Int
  | 0, _ => none
  | _ + 1, [] => none
  | f + 1, t :: r =>
    if takes t.op = 0 then some (leafS vars arg t) else
    match partS vars arg f r with
    | none => none
    | some b => if takes t.op = 1 then some (truth (decide (b = 0))) else
      match skip 1 r with
      | none => none
      | some r' =>
        match partS vars arg f r' with
        | none => none
        | some a => twoS t.op a b

theorem part_ev (vars : List Int) (arg : Int) : ∀ (f : Nat) (r r' : List Tok), r.length ≤ f → skip 1 r = some r' →
    evGo vars arg r.reverse [] = (evGo vars arg r'.reverse []).bind fun st => (partS vars arg f r).map (· :: st)
  | 0, r, r', hf, hs => by
    have : r = [] := List.eq_nil_of_length_eq_zero (by omega)
    subst this; simp [skip] at hs
  | f + 1, [], r', hf, hs => by simp [skip] at hs
  | f + 1, t :: r, r', hf, hs => by
    rw [List.reverse_cons, evGo_snoc]
    have hfr : r.length ≤ f := by simp at hf; omega
    have hs0 : skip (0 + takes t.op) r = some r' := hs
    rcases (show takes t.op = 0 ∨ takes t.op = 1 ∨ takes t.op = 2 by have := takes_le t.op; omega) with h | h | h
    · rw [h, skip_zero] at hs0
      simp at hs0; subst hs0
      congr 1; funext st
      simp [evStep, partS, h]
    · rw [h] at hs0
      rw [part_ev vars arg f r r' hfr hs0]
      cases evGo vars arg r'.reverse [] with
      | none => rfl
      | some st =>
        simp only [Option.bind_some, partS]
        rw [if_neg (by omega)]
        cases partS vars arg f r with
        | none => rfl
        | some b => simp [evStep, h]
    · rw [skip_two h] at hs
      cases hs1 : skip 1 r with
      | none => rw [hs1] at hs; simp at hs
      | some r1 =>
        rw [hs1] at hs
        have hs2 : skip 1 r1 = some r' := hs
        have h1 := skip_len r 1 r1 hs1
        rw [part_ev vars arg f r r1 hfr hs1, part_ev vars arg f r1 r' (by omega) hs2]
        cases evGo vars arg r'.reverse [] with
        | none => rfl
        | some st =>
          simp only [Option.bind_some, partS]
          rw [if_neg (by omega)]
          simp only [hs1]
          cases partS vars arg f r1 with
          | none =>
            cases partS vars arg f r with
            | none => rfl
            | some b => simp [h]
          | some a =>
            cases partS vars arg f r with
            | none => rfl
            | some b => simp [evStep, h]

/-- what the document comes to -/
def refEvalS (l : List Tok) (vars : List Int) (arg : Int) : Int × Nat :=
  if refMayS l vars.length = true then
    match partS vars arg l.length l.reverse with
    | none => (0, 18)
    | some v => (v, 0)
  else (0, 3)
theorem may_skip1 {l : List Tok} {vars : Int} (h : mayS l vars = true) : skip 1 l.reverse = some [] := by
  simp only [mayS, decide_eq_true_eq] at h
  exact may_skip vars l.reverse 1 (by simpa using h.2)
theorem eval_eq (l : List Tok) (vars : List Int) (arg : Int) : evalS l vars arg = refEvalS l vars arg := by
  unfold evalS refEvalS
  rw [← may_eq]
  split
  · rename_i hm
    have h := part_ev vars arg l.length l.reverse [] (by simp) (may_skip1 hm)
    rw [List.reverse_reverse] at h
    rw [h]
    cases partS vars arg l.length l.reverse with
    | none => rfl
    | some v => rfl
  · rfl

/-- a formula comes to one number behind what was -/
theorem ev_frame (vars : List Int) (arg : Int) (vn : Int) (st0 : List Int) : ∀ (l : List Tok) (st : List Int) (k : Nat), mayGo vn l st.length = some k →
    evGo vars arg l (st ++ st0) = (evGo vars arg l st).map (· ++ st0) ∧ ∀ s, evGo vars arg l st = some s → s.length = k
  | [], st, k, h => by simp [mayGo] at h; simp [evGo, h]
  | t :: l, st, k, h => by
    simp only [mayGo, mayStep] at h
    split at h
    · rename_i hc
      simp only [Option.bind_some] at h
      have key : evStep vars arg t (st ++ st0) = (evStep vars arg t st).map (· ++ st0) ∧ ∀ s, evStep vars arg t st = some s → s.length = st.length + 1 - takes t.op := by
        rcases (show takes t.op = 0 ∨ takes t.op = 1 ∨ takes t.op = 2 by have := takes_le t.op; omega) with ht | ht | ht
        · simp [evStep, ht]
        · cases st with
          | nil => simp at hc; omega
          | cons a st => simp [evStep, ht]
        · cases st with
          | nil => simp at hc; omega
          | cons b st =>
            cases st with
            | nil => simp at hc; omega
            | cons a st =>
              simp [evStep, ht]
              cases twoS t.op a b <;> simp
      obtain ⟨k1, k2⟩ := key
      show (evStep vars arg t (st ++ st0)).bind (evGo vars arg l) = ((evStep vars arg t st).bind (evGo vars arg l)).map (· ++ st0) ∧ _
      rw [k1]
      cases hs : evStep vars arg t st with
      | none => simp [evGo, hs]
      | some s =>
        have hl := k2 s hs
        rw [← hl] at h
        obtain ⟨i1, i2⟩ := ev_frame vars arg vn st0 l s k h
        refine ⟨by simpa using i1, fun s' hs' => i2 s' ?_⟩
        simpa [evGo, hs] using hs'
    · simp at h

theorem may_go {l : List Tok} {vars : Int} (h : mayS l vars = true) : mayGo vars l 0 = some 1 := by
  simp only [mayS, decide_eq_true_eq] at h; exact h.2
/-- the height of a formula behind others -/
theorem mayGo_more (vars : Int) (d : Nat) : ∀ (l : List Tok) (h k : Nat), mayGo vars l h = some k → mayGo vars l (h + d) = some (k + d)
  | [], h, k, e => by simp [mayGo] at e ⊢; omega
  | t :: l, h, k, e => by
    simp only [mayGo, mayStep] at e ⊢
    split at e
    · rename_i hc
      rw [if_pos ⟨hc.1, by omega⟩]
      simp only [Option.bind_some] at e ⊢
      rw [show h + d + 1 - takes t.op = (h + 1 - takes t.op) + d from by omega]
      exact mayGo_more vars d l _ _ e
    · simp at e

/-- what one formula comes to -/
def one (vars : List Int) (arg : Int) (l : List Tok) : Option Int := (evGo vars arg l []).map (·.headD 0)
theorem ev_one {l : List Tok} {vars : List Int} (arg : Int) {vn : Int} (h : mayS l vn = true) (st : List Int) : evGo vars arg l st = (one vars arg l).map (· :: st) := by
  have h1 := ev_frame vars arg vn st l [] 1 (may_go h)
  obtain ⟨h2, h3⟩ := h1
  rw [show st = [] ++ st from rfl, h2]
  unfold one
  cases he : evGo vars arg l [] with
  | none => rfl
  | some s =>
    have := h3 s he
    match s, this with
    | [v], _ => rfl
theorem eval_one {l : List Tok} {vars : List Int} (arg : Int) (h : mayS l vars.length = true) : evalS l vars arg = match one vars arg l with | none => (0, 18) | some v => (v, 0) := by
  unfold evalS one
  rw [if_pos h]
  cases evGo vars arg l [] <;> rfl

/-! ### the laws' own formulas -/
theorem right_op {op : Nat} (h : 3 ≤ op ∧ op ≤ 11) (v : Int) : right ⟨op, 0⟩ v = true := by
  unfold right
  rw [if_neg (by simp; omega), if_neg (by simp; omega)]
  simp; exact h
theorem takes_two {op : Nat} (h : 4 ≤ op ∧ op ≤ 10) : takes op = 2 := by
  unfold takes; rw [if_neg (by omega), if_neg (by omega)]

theorem joins_may {op : Nat} (h : 4 ≤ op ∧ op ≤ 10) {l m : List Tok} {vars : Int} (hl : mayS l vars = true) (hm : mayS m vars = true) (hs : l.length + m.length ≤ 23) :
    mayS (l ++ m ++ [⟨op, 0⟩]) vars = true := by
  unfold mayS
  simp only [decide_eq_true_eq]
  refine ⟨by simp; omega, ?_⟩
  rw [mayGo_snoc, mayGo_app, may_go hl]
  simp only [Option.bind_some]
  rw [show (1 : Nat) = 0 + 1 from rfl, mayGo_more vars 1 m 0 1 (may_go hm)]
  simp only [Option.bind_some, mayStep]
  rw [if_pos ⟨right_op (by omega) _, by rw [takes_two h]; omega⟩, takes_two h]
theorem joins_one {op : Nat} (h : 4 ≤ op ∧ op ≤ 10) {l m : List Tok} {vars : List Int} (arg : Int) (hl : mayS l vars.length = true) (hm : mayS m vars.length = true) :
    one vars arg (l ++ m ++ [⟨op, 0⟩]) = match one vars arg l, one vars arg m with | some x, some y => twoS op x y | _, _ => none := by
  rw [show one vars arg (l ++ m ++ [⟨op, 0⟩]) = (evGo vars arg (l ++ m ++ [⟨op, 0⟩]) []).map (·.headD 0) from rfl]
  rw [evGo_snoc, evGo_app, ev_one arg hl]
  cases one vars arg l with
  | none => rfl
  | some x =>
    simp only [Option.map_some, Option.bind_some]
    rw [ev_one arg hm]
    cases one vars arg m with
    | none => rfl
    | some y =>
      simp only [Option.map_some, Option.bind_some, evStep, takes_two h]
      simp
      cases twoS op x y <;> rfl
/-- two numbers and a sign -/
theorem pair_may {op : Nat} (h : 4 ≤ op ∧ op ≤ 10) (x y : Int) : mayS [⟨1, x⟩, ⟨1, y⟩, ⟨op, 0⟩] 0 = true := by
  have := joins_may (l := [⟨1, x⟩]) (m := [⟨1, y⟩]) (vars := 0) h (by simp [mayS, mayGo, mayStep, right, takes]) (by simp [mayS, mayGo, mayStep, right, takes]) (by simp)
  exact this
theorem pair_eval {op : Nat} (h : 4 ≤ op ∧ op ≤ 10) (x y : Int) : evalS [⟨1, x⟩, ⟨1, y⟩, ⟨op, 0⟩] [] 0 = match twoS op x y with | none => (0, 18) | some v => (v, 0) := by
  rw [eval_one (vars := []) 0 (pair_may h x y)]
  have := joins_one (l := [⟨1, x⟩]) (m := [⟨1, y⟩]) (vars := []) h 0 (by simp [mayS, mayGo, mayStep, right, takes]) (by simp [mayS, mayGo, mayStep, right, takes])
  rw [show ([⟨1, x⟩, ⟨1, y⟩, ⟨op, 0⟩] : List Tok) = [⟨1, x⟩] ++ [⟨1, y⟩] ++ [⟨op, 0⟩] from rfl, this]
  simp [one, evGo, evStep, leafS, takes]

theorem nots_may {l : List Tok} {vars : Int} (hl : mayS l vars = true) (hs : l.length ≤ 22) : mayS (l ++ [⟨11, 0⟩, ⟨11, 0⟩]) vars = true := by
  unfold mayS
  simp only [decide_eq_true_eq]
  refine ⟨by simp; omega, ?_⟩
  rw [mayGo_app, may_go hl]
  simp only [Option.bind_some, mayGo, mayStep]
  rw [if_pos ⟨right_op (by omega) _, by simp [takes]⟩]
  simp [takes, right]
theorem nots_one {l : List Tok} {vars : List Int} (arg : Int) (hl : mayS l vars.length = true) :
    one vars arg (l ++ [⟨11, 0⟩, ⟨11, 0⟩]) = (one vars arg l).map fun v => truth (decide (v ≠ 0)) := by
  rw [show one vars arg (l ++ [⟨11, 0⟩, ⟨11, 0⟩]) = (evGo vars arg (l ++ [⟨11, 0⟩, ⟨11, 0⟩]) []).map (·.headD 0) from rfl]
  rw [evGo_app, ev_one arg hl]
  cases one vars arg l with
  | none => rfl
  | some x =>
    by_cases h : x = 0 <;> simp [evGo, evStep, takes, truth, h]
end Ex
end Go.Proofs.Ytniopkoaplkpkaa
namespace Go.Proofs.Ytniopkoaplkpkaa
open Go.RowKit
set_option linter.unusedVariables false
namespace Ex

theorem zero_beq (a : Int) : (a = 0 ∧ (a == 0) = true) ∨ (a ≠ 0 ∧ (a == 0) = false) := by
  by_cases h : a = 0
  · exact .inl ⟨h, by simp [h]⟩
  · exact .inr ⟨h, by simp [h]⟩
theorem takes_any (op : Nat) (w : World) : Calls Try.prog 134 #[.int .u8 (op : Int)] w fun e w' => e = .returned (.int .i64 (takes op : Int)) ∧ w = w' := by
  unfold takes
  by_cases h1 : op = 1
  · subst h1
    go_enter Try.func134, Try.ntmps134
    go_wp2
    go_ret
    exact ⟨rfl, rfl⟩
  by_cases h2 : op = 2
  · subst h2
    go_enter Try.func134, Try.ntmps134
    go_wp2
    go_ret
    exact ⟨rfl, rfl⟩
  by_cases h3 : op = 3
  · subst h3
    go_enter Try.func134, Try.ntmps134
    go_wp2
    go_ret
    exact ⟨rfl, rfl⟩
  by_cases h4 : op = 11
  · subst h4
    go_enter Try.func134, Try.ntmps134
    go_wp2
    go_ret
    exact ⟨rfl, rfl⟩
  rw [if_neg (by omega), if_neg h4]
  have e1 : ((op : Int) == 1) = false := by simp; omega
  have e2 : ((op : Int) == 2) = false := by simp; omega
  have e3 : ((op : Int) == 3) = false := by simp; omega
  have e4 : ((op : Int) == 11) = false := by simp; omega
  clear h1 h2 h3 h4
  go_enter Try.func134, Try.ntmps134
  go_wp2
  go_ret
  exact ⟨rfl, rfl⟩
end Ex
end Go.Proofs.Ytniopkoaplkpkaa
namespace Go.Proofs.Ytniopkoaplkpkaa
open Go.RowKit
set_option linter.unusedVariables false
namespace Ex

/-- a slice of signs reads as a list -/
def Toks (w : World) (a : Option Addr) (n : Nat) (l : List Tok) : Prop :=
  l.length = n ∧ n ≤ maxLen ∧ (∀ t ∈ l, okT t) ∧ (l = [] ∨ ∃ b o, a = some ⟨b, o, none⟩ ∧ ∀ i (h : i < l.length), w.cell? ⟨b, o + i * 2, none⟩ = some (.int .u8 (l[i].op : Int)) ∧ w.cell? ⟨b, o + i * 2 + 1, none⟩ = some (.int .i64 l[i].n))
/-- a slice of numbers reads as a list -/
def Ints (w : World) (a : Option Addr) (n : Nat) (l : List Int) : Prop :=
  l.length = n ∧ n ≤ maxLen ∧ (∀ x ∈ l, least ≤ x ∧ x ≤ most) ∧ (l = [] ∨ ∃ b o, a = some ⟨b, o, none⟩ ∧ ∀ i (h : i < l.length), w.cell? ⟨b, o + i, none⟩ = some (.int .i64 l[i]))

theorem Toks.mono {w w' : World} {a : Option Addr} {n : Nat} {l : List Tok} (h : Toks w a n l) (hb : Below w.heap.size w w') : Toks w' a n l := by
  obtain ⟨h1, h2, h3, h4⟩ := h
  refine ⟨h1, h2, h3, ?_⟩
  rcases h4 with h | ⟨b, o, ha, hc⟩
  · exact .inl h
  · refine .inr ⟨b, o, ha, fun i hi => ?_⟩
    obtain ⟨c0, c1⟩ := hc i hi
    exact ⟨by rw [hb.cell (p := ⟨b, o + i * 2, none⟩) (World.block_lt_of_cell? w _ c0)]; exact c0, by rw [hb.cell (p := ⟨b, o + i * 2 + 1, none⟩) (World.block_lt_of_cell? w _ c1)]; exact c1⟩
theorem Ints.mono {w w' : World} {a : Option Addr} {n : Nat} {l : List Int} (h : Ints w a n l) (hb : Below w.heap.size w w') : Ints w' a n l := by
  obtain ⟨h1, h2, h3, h4⟩ := h
  refine ⟨h1, h2, h3, ?_⟩
  rcases h4 with h | ⟨b, o, ha, hc⟩
  · exact .inl h
  · refine .inr ⟨b, o, ha, fun i hi => ?_⟩
    have c0 := hc i hi
    rw [hb.cell (p := ⟨b, o + i, none⟩) (World.block_lt_of_cell? w _ c0)]; exact c0
theorem Toks.at {w : World} {a : Option Addr} {n : Nat} {l : List Tok} (h : Toks w a n l) (k : Nat) (hk : k < l.length) :
    ∃ b o, a = some ⟨b, o, none⟩ ∧ w.cell? ⟨b, o + k * 2, none⟩ = some (.int .u8 (l[k].op : Int)) ∧ w.cell? ⟨b, o + k * 2 + 1, none⟩ = some (.int .i64 l[k].n) ∧ okT l[k] := by
  obtain ⟨h1, h2, h3, h4⟩ := h
  rcases h4 with h | ⟨b, o, ha, hc⟩
  · subst h; simp at hk
  · exact ⟨b, o, ha, (hc k hk).1, (hc k hk).2, h3 _ (List.getElem_mem _)⟩
theorem Ints.at {w : World} {a : Option Addr} {n : Nat} {l : List Int} (h : Ints w a n l) (k : Nat) (hk : k < l.length) :
    ∃ b o, a = some ⟨b, o, none⟩ ∧ w.cell? ⟨b, o + k, none⟩ = some (.int .i64 l[k]) ∧ least ≤ l[k] ∧ l[k] ≤ most := by
  obtain ⟨h1, h2, h3, h4⟩ := h
  rcases h4 with h | ⟨b, o, ha, hc⟩
  · subst h; simp at hk
  · exact ⟨b, o, ha, hc k hk, h3 _ (List.getElem_mem _)⟩
theorem Toks.nil (w : World) (a : Option Addr) : Toks w a 0 [] := ⟨rfl, Nat.zero_le _, by simp, .inl rfl⟩
theorem Ints.nil (w : World) (a : Option Addr) : Ints w a 0 [] := ⟨rfl, Nat.zero_le _, by simp, .inl rfl⟩

theorem cell_new {wr w1 : World} {cs : Array Value} {T : TypeId} (b1 : Below (wr.alloc (.cells cs T)).heap.size (wr.alloc (.cells cs T)) w1) (i : Nat) : w1.cell? ⟨wr.heap.size, i, none⟩ = cs[i]? := by
  rw [b1.cell (p := ⟨wr.heap.size, i, none⟩) (by simp)]
  simp only [World.cell?, heap_alloc_new]
  rfl

def RetBo (w : World) (b : Bool) (e : Ending) (w' : World) : Prop := e = .returned (.bool b) ∧ Below w.heap.size w w'
theorem retBo {w w' : World} {b b' : Bool} (h : b = b') (hb : Below w.heap.size w w') : RetBo w b' (.returned (.bool b)) w' := by subst h; exact ⟨rfl, hb⟩

theorem right_any (op : Nat) (n : Int) (vars : Int) (w : World) :
    Calls Try.prog 133 #[.agg #[.int .u8 (op : Int), .int .i64 n], .int .i64 vars] w (RetBo w (right ⟨op, n⟩ vars)) := by
  have B1 := Lib.hid (fun o => balloc w o)
  unfold right
  simp only
  by_cases h1 : op = 1
  · subst h1
    rw [if_pos rfl]
    go_enter Try.func133, Try.ntmps133
    go_wp2
    go_ret
    exact retBo rfl (B1.out _)
  have e1 : ((op : Int) == 1) = false := by simp; omega
  rw [if_neg h1]
  clear h1
  by_cases h2 : op = 2
  · subst h2
    rw [if_pos rfl]
    clear e1
    by_cases h3 : 0 ≤ n <;> by_cases h4 : n < vars
    all_goals
      have H := Lib.hid (And.intro h3 h4)
      first | have d1 : decide (0 ≤ n) = true := decide_eq_true h3 | have d1 : decide (0 ≤ n) = false := decide_eq_false h3
      first | have d2 : decide (n < vars) = true := decide_eq_true h4 | have d2 : decide (n < vars) = false := decide_eq_false h4
      clear h3 h4
      go_enter Try.func133, Try.ntmps133
      go_wp2
      go_ret
      exact retBo (by simp [H.out]) (B1.out _)
  have e2 : ((op : Int) == 2) = false := by simp; omega
  rw [if_neg h2]
  clear h2
  rcases zero_beq n with ⟨h3, t3⟩ | ⟨h3, t3⟩ <;> by_cases h4 : 3 ≤ op <;> by_cases h5 : op ≤ 11
  all_goals
    have H := Lib.hid (And.intro h3 (And.intro h4 h5))
    have h4' : decide ((3 : Int) ≤ (op : Int)) = decide (3 ≤ op) := by rw [Bool.eq_iff_iff]; simp; omega
    have h5' : decide ((op : Int) ≤ 11) = decide (op ≤ 11) := by rw [Bool.eq_iff_iff]; simp; omega
    first | rw [decide_eq_true h4] at h4' | rw [decide_eq_false h4] at h4'
    first | rw [decide_eq_true h5] at h5' | rw [decide_eq_false h5] at h5'
    clear h3 h4 h5
    go_enter Try.func133, Try.ntmps133
    go_wp2
    go_ret
    exact retBo (by simp [H.out]) (B1.out _)

theorem mayGo_take (vars : Int) (l : List Tok) (k h : Nat) (hk : k < l.length) (e : mayGo vars (l.take k) 0 = some h) : mayGo vars (l.take (k + 1)) 0 = mayStep vars l[k] h := by
  rw [List.take_succ_eq_append_getElem hk, mayGo_snoc, e]; rfl
theorem mayS_none {vars : Int} {l : List Tok} {k : Nat} (e : mayGo vars (l.take k) 0 = none) : mayS l vars = false := by
  unfold mayS
  rw [decide_eq_false_iff_not]
  rintro ⟨_, h⟩
  rw [← List.take_append_drop k l, mayGo_app, e] at h
  simp at h

set_option maxHeartbeats 800000 in
theorem may_any (a : Option Addr) (n cap : Nat) (l : List Tok) (vars : Int) (w : World) (hl : Toks w a n l) :
    Calls Try.prog 112 #[.slice a n cap, .int .i64 vars] w (RetBo w (mayS l vars)) := by
  have hm := hl.2.1
  unfold maxLen at hm
  obtain rfl := hl.1
  have HL := Lib.hid hl
  have HT := Lib.hid (mayGo_take vars l)
  have HN := Lib.hid (fun k => @mayS_none vars l k)
  have HS := Lib.hid (show mayS l vars = decide (l.length ≤ 24 ∧ mayGo vars l 0 = some 1) from rfl)
  have B0 := Lib.hid (Below.refl w.heap.size w)
  clear hl
  go_enter Try.func112, Try.ntmps112
  go_wp2
  go_loopw [5, 10] (fun high i wr => ∃ k h : Nat, k ≤ l.length ∧ i = .int .i64 k ∧ high = .int .i64 h ∧ Hid (mayGo vars (l.take k) 0 = some h) ∧ h ≤ k ∧ Below w.heap.size w wr) (fun _ i _ => l.length - (intOf i).toNat)
  case atStart => exact ⟨0, 0, Nat.zero_le _, rfl, rfl, Lib.hid (by simp [mayGo]), Nat.le_refl _, B0.out⟩
  case round =>
    obtain ⟨k, h, hk, rfl, rfl, hg, hh, bl⟩ := hrel
    by_cases hlt : k < l.length
    · obtain ⟨b, o, ha, c0, c1, hok⟩ := (HL.out.mono bl).at k hlt
      subst ha
      have hst := HT.out k h hlt hg.out
      generalize l[k] = t at *
      obtain ⟨op, x⟩ := t
      simp only at c0 c1
      have HST := Lib.hid hst
      clear hst
      go_wp2_with fail
      refine (right_any op x vars _).mono ?_
      rintro e w1 ⟨rfl, b1⟩
      have hr := Lib.hid (show mayStep vars ⟨op, x⟩ h = if right ⟨op, x⟩ vars = true ∧ takes op ≤ h then some (h + 1 - takes op) else none from rfl)
      have q0 := cell_new b1 0
      have q1 := cell_new b1 1
      simp only [show (#[Value.int .u8 (op : Int), Value.int .i64 x] : Array Value)[0]? = some (.int .u8 (op : Int)) from rfl] at q0
      simp only [show (#[Value.int .u8 (op : Int), Value.int .i64 x] : Array Value)[1]? = some (.int .i64 x) from rfl] at q1
      have bl1 := bthen bl (bthen (balloc _ _) b1)
      have BL1 := Lib.hid bl1
      clear bl1 b1
      have htk := takes_le op
      cases hri : right ⟨op, x⟩ vars
      · have hf : mayS l vars = false := HN.out (k + 1) (by rw [HST.out, hr.out, if_neg (by rw [hri]; simp)])
        have HF := Lib.hid hf
        clear hf
        go_wp2
        go_ret
        exact retBo HF.out.symm BL1.out
      · have HR := Lib.hid hri
        clear hri
        by_cases htt : takes op ≤ h
        · have hf : mayGo vars (l.take (k + 1)) 0 = some (h + 1 - takes op) := by rw [HST.out, hr.out, if_pos ⟨HR.out, htt⟩]
          have HF := Lib.hid hf
          clear hf
          go_wp2_with fail
          refine (takes_any op _).mono ?_
          rintro e w2 ⟨rfl, rfl⟩
          go_wp2_with fail
          refine (takes_any op _).mono ?_
          rintro e w2 ⟨rfl, rfl⟩
          go_wp2
          go_roundw
          case rel => exact ⟨k + 1, h + 1 - takes op, by omega, by go_num, by go_num, HF, by omega, BL1.out⟩
          case measure => simp [intOf]; omega
        · have hf : mayS l vars = false := HN.out (k + 1) (by rw [HST.out, hr.out, if_neg (fun h => htt h.2)])
          have HF := Lib.hid hf
          clear hf
          go_wp2_with fail
          refine (takes_any op _).mono ?_
          rintro e w2 ⟨rfl, rfl⟩
          go_wp2
          go_ret
          exact retBo HF.out.symm BL1.out
    · obtain rfl : k = l.length := by omega
      have hg2 := hg.out
      rw [List.take_length] at hg2
      have HG := Lib.hid hg2
      clear hg2 hg
      by_cases h1 : l.length ≤ 24 <;> by_cases h2 : h = 1
      all_goals
        have H := Lib.hid (And.intro h1 h2)
        have e2 : ((h : Int) == 1) = decide (h = 1) := by rw [Bool.eq_iff_iff]; simp; omega
        first | rw [decide_eq_true h2] at e2 | rw [decide_eq_false h2] at e2
        have e1 : decide ((l.length : Int) ≤ 24) = decide (l.length ≤ 24) := by rw [Bool.eq_iff_iff]; simp; omega
        first | rw [decide_eq_true h1] at e1 | rw [decide_eq_false h1] at e1
        clear h1 h2
        go_wp2
        go_ret
        refine retBo ?_ bl
        rw [HS.out, HG.out]
        simp [H.out]
end Ex
end Go.Proofs.Ytniopkoaplkpkaa
namespace Go.Proofs.Ytniopkoaplkpkaa
open Go.ChangeShapes Go.WideShapes Go.ChangeAt Go.RowKit Go.Deep
set_option linter.unusedVariables false
section
variable {H : Type} {enc : TypeId × Value → H} {W : World} {spare : Nat → Bool} {b2 : Nat} {held : Bool}

theorem choose_list {α : Type} (n : Nat) (p : Nat → α → Prop) (h : ∀ i, i < n → ∃ x, p i x) : ∃ l : List α, l.length = n ∧ ∀ i (hi : i < l.length), p i l[i] := by
  induction n with
  | zero => exact ⟨[], rfl, by simp⟩
  | succ n ih =>
    obtain ⟨l, h1, h2⟩ := ih (fun i hi => h i (by omega))
    obtain ⟨x, hx⟩ := h n (by omega)
    refine ⟨l ++ [x], by simp [h1], fun i hi => ?_⟩
    by_cases hl : i < l.length
    · rw [List.getElem_append_left hl]; exact h2 i hl
    · have : i = l.length := by simp at hi; omega
      subst this
      simp only [List.getElem_concat_length]
      rw [h1]; exact hx

theorem tok_cells {fuel : Nat} {cs : List Value} {x : DataW H × List MemPlace} (h : DataW.trod enc Try.prog W b2 spare held fuel 135 cs = some x) : ∃ t : Ex.Tok, cs = [.int .u8 (t.op : Int), .int .i64 t.n] ∧ Ex.okT t := by
  obtain ⟨hl, n, hg⟩ := struct_parts Try.underlying135 h
  obtain ⟨y0, h0⟩ := hg 0 5 0 1 rfl (by kernel_rfl)
  obtain ⟨y1, h1⟩ := hg 1 2 1 1 rfl (by kernel_rfl)
  rw [show Try.prog.cellsOf 135 = 2 from by kernel_rfl] at hl
  match cs, hl with
  | [c0, c1], _ =>
    obtain ⟨n0, e0, w0⟩ := int_cells Try.underlying5 h0
    obtain ⟨n1, e1, w1⟩ := int_cells Try.underlying2 h1
    simp at e0 e1
    subst e0 e1
    have b0 := bounds_u8 w0
    have b1 := bounds_i64 w1
    refine ⟨⟨n0.toNat, n1⟩, ?_, ?_⟩
    · simp only
      rw [show ((n0.toNat : Nat) : Int) = n0 from by omega]
    · unfold Ex.okT Ex.least Ex.most
      simp only
      omega

theorem toks_cells {fuel : Nat} {cs : List Value} {x : DataW H × List MemPlace} (h : DataW.trod enc Try.prog W b2 spare held fuel 72 cs = some x) :
    ∃ a cap l, cs = [.slice a l.length cap] ∧ l.length ≤ cap ∧ cap ≤ maxLen ∧ Ex.Toks W a l.length l := by
  obtain ⟨a, len, cap, rfl, h1, h2, h3, h4⟩ := slice_elems 2 (by omega) (by kernel_rfl) Try.underlying72 h
  rcases h3 with rfl | ⟨b, o, rfl⟩
  · exact ⟨a, cap, [], rfl, h1, h2, Ex.Toks.nil _ _⟩
  · obtain ⟨l, hl, hp⟩ := choose_list len (fun i (t : Ex.Tok) => W.cell? ⟨b, o + i * 2, none⟩ = some (.int .u8 (t.op : Int)) ∧ W.cell? ⟨b, o + i * 2 + 1, none⟩ = some (.int .i64 t.n) ∧ Ex.okT t) (fun i hi => by
      obtain ⟨cs', n, y, hcl, hcc, ht⟩ := h4 b o rfl i hi
      obtain ⟨t, rfl, hok⟩ := tok_cells ht
      exact ⟨t, hcc 0 (by simp), hcc 1 (by simp), hok⟩)
    subst hl
    refine ⟨_, cap, l, rfl, h1, h2, rfl, by omega, ?_, .inr ⟨b, o, rfl, fun i hi => ⟨(hp i hi).1, (hp i hi).2.1⟩⟩⟩
    intro t ht
    obtain ⟨i, hi, rfl⟩ := List.getElem_of_mem ht
    exact (hp i hi).2.2

theorem ints_cells {fuel : Nat} {cs : List Value} {x : DataW H × List MemPlace} (h : DataW.trod enc Try.prog W b2 spare held fuel 37 cs = some x) :
    ∃ a cap l, cs = [.slice a l.length cap] ∧ l.length ≤ cap ∧ cap ≤ maxLen ∧ Ex.Ints W a l.length l := by
  obtain ⟨a, len, cap, rfl, h1, h2, h3, h4⟩ := slice_elems 1 (by omega) (by kernel_rfl) Try.underlying37 h
  rcases h3 with rfl | ⟨b, o, rfl⟩
  · exact ⟨a, cap, [], rfl, h1, h2, Ex.Ints.nil _ _⟩
  · obtain ⟨l, hl, hp⟩ := choose_list len (fun i (t : Int) => W.cell? ⟨b, o + i, none⟩ = some (.int .i64 t) ∧ Ex.least ≤ t ∧ t ≤ Ex.most) (fun i hi => by
      obtain ⟨cs', n, y, hcl, hcc, ht⟩ := h4 b o rfl i hi
      obtain ⟨t, rfl, hok⟩ := int_cells Try.underlying2 ht
      have hb := bounds_i64 hok
      have h0 := hcc 0 (by simp)
      simp at h0
      exact ⟨t, h0, by unfold Ex.least; omega, by unfold Ex.most; omega⟩)
    subst hl
    refine ⟨_, cap, l, rfl, h1, h2, rfl, by omega, ?_, .inr ⟨b, o, rfl, fun i hi => (hp i hi).1⟩⟩
    intro t ht
    obtain ⟨i, hi, rfl⟩ := List.getElem_of_mem ht
    exact (hp i hi).2

set_option maxRecDepth 100000 in
theorem toks_arg {v : Value} {d : DataW H} {ps : List MemPlace} {base : Nat} (hval : Value.okWide Try.prog W .any base 72 v) (h : DataW.Trod enc Try.prog W b2 spare held 72 v d ps) :
    ∃ a cap l, v = .slice a l.length cap ∧ l.length ≤ cap ∧ cap ≤ maxLen ∧ Ex.Toks W a l.length l := by
  obtain ⟨a, len, cap, rfl⟩ := okWide_slice Try.underlying72 hval
  obtain ⟨fuel, hf⟩ := h
  obtain ⟨a', cap', l, e, h1, h2, h3⟩ := toks_cells hf
  simp [Value.cells] at e
  obtain ⟨rfl, rfl, rfl⟩ := e
  exact ⟨_, _, l, rfl, h1, h2, h3⟩
set_option maxRecDepth 100000 in
theorem ints_arg {v : Value} {d : DataW H} {ps : List MemPlace} {base : Nat} (hval : Value.okWide Try.prog W .any base 37 v) (h : DataW.Trod enc Try.prog W b2 spare held 37 v d ps) :
    ∃ a cap l, v = .slice a l.length cap ∧ l.length ≤ cap ∧ cap ≤ maxLen ∧ Ex.Ints W a l.length l := by
  obtain ⟨a, len, cap, rfl⟩ := okWide_slice Try.underlying37 hval
  obtain ⟨fuel, hf⟩ := h
  obtain ⟨a', cap', l, e, h1, h2, h3⟩ := ints_cells hf
  simp [Value.cells] at e
  obtain ⟨rfl, rfl, rfl⟩ := e
  exact ⟨_, _, l, rfl, h1, h2, h3⟩
end
end Go.Proofs.Ytniopkoaplkpkaa
