/- Plain law of formulas: what the code's machine comes to is what the document's parts come to. No condition. -/
import Derived.Test.YtdpmfjbhadapiaaBase
namespace Go.Proofs.Ytdpmfjbhadapiaa
open Go.RowKit
set_option linter.unusedVariables false
namespace Ex

/-- a sign -/
structure Tok where
  op : Nat
  n : Int
deriving DecidableEq

def least : Int := -9223372036854775808
def most : Int := 9223372036854775807
def okT (t : Tok) : Prop := t.op < 256 ∧ least ≤ t.n ∧ t.n ≤ most

def takes (op : Nat) : Nat := if op = 1 ∨ op = 2 ∨ op = 3 then 0 else if op = 11 then 1 else 2
def right (t : Tok) (vars : Int) : Bool :=
  if t.op = 1 then true else if t.op = 2 then decide (0 ≤ t.n ∧ t.n < vars) else decide (t.n = 0 ∧ 3 ≤ t.op ∧ t.op ≤ 11)

theorem takes_le (op : Nat) : takes op ≤ 2 := by unfold takes; split <;> (try split) <;> omega

/-! ### the code's height -/
def mayStep (vars : Int) (t : Tok) (h : Nat) : Option Nat := if right t vars = true ∧ takes t.op ≤ h then some (h + 1 - takes t.op) else none
def mayGo (vars : Int) : List Tok → Nat → Option Nat
  | [], h => some h
  | t :: l, h => (mayStep vars t h).bind (mayGo vars l)
def mayS (l : List Tok) (vars : Int) : Bool := decide (l.length ≤ 24 ∧ mayGo vars l 0 = some 1)

theorem mayGo_app (vars : Int) (m : List Tok) : ∀ (l : List Tok) (h : Nat), mayGo vars (l ++ m) h = (mayGo vars l h).bind (mayGo vars m)
  | [], h => rfl
  | t :: l, h => by
    show (mayStep vars t h).bind (mayGo vars (l ++ m)) = ((mayStep vars t h).bind (mayGo vars l)).bind (mayGo vars m)
    cases mayStep vars t h with
    | none => rfl
    | some x => exact mayGo_app vars m l x
theorem mayGo_snoc (vars : Int) (l : List Tok) (t : Tok) (h : Nat) : mayGo vars (l ++ [t]) h = (mayGo vars l h).bind (mayStep vars t) := by
  rw [mayGo_app]
  congr 1
  funext x
  show (mayStep vars t x).bind (mayGo vars []) = mayStep vars t x
  cases mayStep vars t x <;> rfl
theorem mayGo_le (vars : Int) : ∀ (l : List Tok) (h k : Nat), mayGo vars l h = some k → k ≤ h + l.length
  | [], h, k, e => by simp [mayGo] at e; omega
  | t :: l, h, k, e => by
    simp only [mayGo, mayStep] at e
    split at e
    · have := mayGo_le vars l _ _ e
      simp; omega
    · simp at e
theorem mayGo_right (vars : Int) : ∀ (l : List Tok) (h k : Nat), mayGo vars l h = some k → ∀ t ∈ l, right t vars = true
  | [], h, k, e, t, ht => by cases ht
  | u :: l, h, k, e, t, ht => by
    simp only [mayGo, mayStep] at e
    split at e
    · rename_i hc
      rcases List.mem_cons.1 ht with rfl | ht
      · exact hc.1
      · exact mayGo_right vars l _ _ e t ht
    · simp at e

/-! ### the document's parts, from the last sign on -/
def skip : Nat → List Tok → Option (List Tok)
  | 0, r => some r
  | _ + 1, [] => none
  | n + 1, t :: r => skip (n + takes t.op) r

theorem skip_zero (r : List Tok) : skip 0 r = some r := by cases r <;> rfl
theorem skip_add : ∀ (r : List Tok) (m n : Nat), skip (m + n) r = (skip m r).bind (skip n)
  | r, 0, n => by rw [skip_zero]; simp
  | [], m + 1, n => by
    rw [show m + 1 + n = (m + n) + 1 from by omega]; rfl
  | t :: r, m + 1, n => by
    rw [show m + 1 + n = (m + n) + 1 from by omega]
    show skip (m + n + takes t.op) r = (skip (m + takes t.op) r).bind (skip n)
    rw [show m + n + takes t.op = (m + takes t.op) + n from by omega]
    exact skip_add r _ _
theorem skip_len : ∀ (r : List Tok) (n : Nat) (r' : List Tok), skip n r = some r' → r'.length + n ≤ r.length
  | r, 0, r', h => by rw [skip_zero] at h; simp at h; subst h; omega
  | [], n + 1, r', h => by simp [skip] at h
  | t :: r, n + 1, r', h => by
    have := skip_len r (n + takes t.op) r' h
    simp; omega

/-- where the part that ends with the last sign begins: how many signs are ahead of it -/
def begS (r : List Tok) : Int := match skip 1 r with | none => -1 | some r' => r'.length
theorem begS_nil : begS [] = -1 := rfl
theorem begS_leaf {t : Tok} (h : takes t.op = 0) (r : List Tok) : begS (t :: r) = r.length := by
  unfold begS
  show (match skip (0 + takes t.op) r with | none => -1 | some r' => (r'.length : Int)) = _
  rw [h, skip_zero]
theorem begS_not {t : Tok} (h : takes t.op = 1) (r : List Tok) : begS (t :: r) = begS r := by
  unfold begS
  show (match skip (0 + takes t.op) r with | none => -1 | some r' => (r'.length : Int)) = _
  rw [h]
theorem skip_two {t : Tok} (h : takes t.op = 2) (r : List Tok) : skip 1 (t :: r) = (skip 1 r).bind (skip 1) := by
  show skip (0 + takes t.op) r = _
  rw [h]; exact skip_add r 1 1
theorem skip_drop : ∀ (r : List Tok) (n : Nat) (r' : List Tok), skip n r = some r' → r' = r.drop (r.length - r'.length)
  | r, 0, r', h => by rw [skip_zero] at h; simp at h; subst h; simp
  | [], n + 1, r', h => by simp [skip] at h
  | t :: r, n + 1, r', h => by
    have h1 := skip_drop r (n + takes t.op) r' h
    have h2 := skip_len r (n + takes t.op) r' h
    rw [show (t :: r).length - r'.length = (r.length - r'.length) + 1 from by simp; omega]
    exact h1
theorem begS_two_no {t : Tok} (h : takes t.op = 2) {r : List Tok} (hb : begS r < 0) : begS (t :: r) = -1 := by
  unfold begS at hb ⊢
  rw [skip_two h]
  cases hs : skip 1 r with
  | none => rfl
  | some r' => rw [hs] at hb; simp at hb; omega
theorem begS_two {t : Tok} (h : takes t.op = 2) {r : List Tok} {b : Nat} (hb : begS r = b) : begS (t :: r) = begS (r.drop (r.length - b)) ∧ b < r.length := by
  unfold begS at hb ⊢
  rw [skip_two h]
  cases hs : skip 1 r with
  | none => rw [hs] at hb; simp at hb
  | some r' =>
    rw [hs] at hb
    have hb' : r'.length = b := by simp at hb; omega
    have h1 := skip_drop r 1 r' hs
    have h2 := skip_len r 1 r' hs
    rw [hb'] at h1
    refine ⟨?_, by omega⟩
    rw [← h1]; rfl

theorem may_skip (vars : Int) : ∀ (l : List Tok) (h : Nat), mayGo vars l.reverse 0 = some h → skip h l = some []
  | [], h, e => by simp [mayGo] at e; subst e; rfl
  | t :: r, h, e => by
    rw [List.reverse_cons, mayGo_snoc] at e
    cases hr : mayGo vars r.reverse 0 with
    | none => rw [hr] at e; simp at e
    | some k =>
      rw [hr] at e
      simp only [Option.bind_some, mayStep] at e
      split at e
      · rename_i hc
        have ih := may_skip vars r k hr
        simp at e
        rw [show h = (k - takes t.op) + 1 from by omega]
        show skip (k - takes t.op + takes t.op) r = some []
        rw [Nat.sub_add_cancel hc.2]; exact ih
      · simp at e
theorem skip_may (vars : Int) : ∀ (l : List Tok) (h : Nat), (∀ t ∈ l, right t vars = true) → skip h l = some [] → mayGo vars l.reverse 0 = some h
  | [], h, _, e => by
    cases h with
    | zero => rfl
    | succ n => simp [skip] at e
  | t :: r, h, hr, e => by
    cases h with
    | zero => simp [skip] at e
    | succ n =>
      have ih := skip_may vars r (n + takes t.op) (fun t ht => hr t (List.mem_cons_of_mem _ ht)) e
      rw [List.reverse_cons, mayGo_snoc, ih]
      simp only [Option.bind_some, mayStep]
      rw [if_pos ⟨hr t (List.mem_cons_self), by omega⟩]
      congr 1; omega

def refMayS (l : List Tok) (vars : Int) : Bool := decide (0 < l.length ∧ l.length ≤ 24 ∧ (∀ t ∈ l, right t vars = true) ∧ begS l.reverse = 0)
theorem may_eq (l : List Tok) (vars : Int) : mayS l vars = refMayS l vars := by
  unfold mayS refMayS
  congr 1
  apply propext
  constructor
  · rintro ⟨h1, h2⟩
    have h3 := may_skip vars l.reverse 1 (by simpa using h2)
    refine ⟨?_, h1, mayGo_right vars l 0 1 h2, ?_⟩
    · cases l with
      | nil => simp [mayGo] at h2
      | cons t l => simp
    · unfold begS; rw [h3]; rfl
  · rintro ⟨h0, h1, h2, h3⟩
    refine ⟨h1, ?_⟩
    unfold begS at h3
    cases hs : skip 1 l.reverse with
    | none => rw [hs] at h3; simp at h3
    | some r =>
      rw [hs] at h3
      have : r = [] := by
        apply List.eq_nil_of_length_eq_zero
        simpa using h3
      subst this
      have := skip_may vars l.reverse 1 (by intro t ht; exact h2 t (by simpa using ht)) hs
      simpa using this

/-! ### what they come to -/
def fit (x : Int) : Option Int := if least ≤ x ∧ x ≤ most then some x else none
def truth (b : Bool) : Int := if b then 1 else 0
def twoS (op : Nat) (a b : Int) : Option Int :=
  if op = 4 then fit (a + b) else if op = 5 then fit (a - b) else if op = 6 then fit (a * b)
  else if op = 7 then some (truth (decide (a < b))) else if op = 8 then some (truth (decide (a = b)))
  else if op = 9 then some (truth (decide (a ≠ 0 ∧ b ≠ 0))) else some (truth (decide (a ≠ 0 ∨ b ≠ 0)))

def varAt (vars : List Int) (n : Int) : Int := vars.getD n.toNat 0
def leafS (vars : List Int) (arg : Int) (t : Tok) : Int := if t.op = 1 then t.n else if t.op = 2 then varAt vars t.n else arg

/-- a sign on a stack, its top first; none: no room -/
def evStep (vars : List Int) (arg : Int) (t : Tok) (st : List Int) : Option (List Int) :=
  if takes t.op = 0 then some (leafS vars arg t :: st)
  else if takes t.op = 1 then some (truth (decide (st.headD 0 = 0)) :: st.tail)
  else (twoS t.op (st.tail.headD 0) (st.headD 0)).map (· :: st.tail.tail)
def evGo (vars : List Int) (arg : Int) : List Tok → List Int → Option (List Int)
  | [], st => some st
  | t :: l, st => (evStep vars arg t st).bind (evGo vars arg l)
/-- what the code comes to -/
def evalS (l : List Tok) (vars : List Int) (arg : Int) : Int × Nat :=
  if mayS l vars.length = true then
    match evGo vars arg l [] with
    | none => (0, 18)
    | some st => (st.headD 0, 0)
  else (0, 3)
def holdsS (l : List Tok) (vars : List Int) (arg : Int) : Bool := decide (l.length = 0 ∨ ((evalS l vars arg).2 = 0 ∧ (evalS l vars arg).1 ≠ 0))

theorem evGo_app (vars : List Int) (arg : Int) (m : List Tok) : ∀ (l : List Tok) (st : List Int), evGo vars arg (l ++ m) st = (evGo vars arg l st).bind (evGo vars arg m)
  | [], h => rfl
  | t :: l, h => by
    show (evStep vars arg t h).bind (evGo vars arg (l ++ m)) = ((evStep vars arg t h).bind (evGo vars arg l)).bind (evGo vars arg m)
    cases evStep vars arg t h with
    | none => rfl
    | some x => exact evGo_app vars arg m l x
theorem evGo_snoc (vars : List Int) (arg : Int) (l : List Tok) (t : Tok) (st : List Int) : evGo vars arg (l ++ [t]) st = (evGo vars arg l st).bind (evStep vars arg t) := by
  rw [evGo_app]
  congr 1
  funext x
  show (evStep vars arg t x).bind (evGo vars arg []) = evStep vars arg t x
  cases evStep vars arg t x <;> rfl

/-- the document's part -/
def partS (vars : List Int) (arg : Int) : Nat → List Tok → Option Int
  | 0, _ => none
  | _ + 1, [] => none
  | f + 1, t :: r =>
    if takes t.op = 0 then some (leafS vars arg t) else
    match partS vars arg f r with
    | none => none
    | some b => if takes t.op = 1 then some (truth (decide (b = 0))) else
      match skip 1 r with
      | none => none
      | some r' =>
        match partS vars arg f r' with
        | none => none
        | some a => twoS t.op a b

theorem part_ev (vars : List Int) (arg : Int) : ∀ (f : Nat) (r r' : List Tok), r.length ≤ f → skip 1 r = some r' →
    evGo vars arg r.reverse [] = (evGo vars arg r'.reverse []).bind fun st => (partS vars arg f r).map (· :: st)
  | 0, r, r', hf, hs => by
    have : r = [] := List.eq_nil_of_length_eq_zero (by omega)
    subst this; simp [skip] at hs
  | f + 1, [], r', hf, hs => by simp [skip] at hs
  | f + 1, t :: r, r', hf, hs => by
    rw [List.reverse_cons, evGo_snoc]
    have hfr : r.length ≤ f := by simp at hf; omega
    have hs0 : skip (0 + takes t.op) r = some r' := hs
    rcases (show takes t.op = 0 ∨ takes t.op = 1 ∨ takes t.op = 2 by have := takes_le t.op; omega) with h | h | h
    · rw [h, skip_zero] at hs0
      simp at hs0; subst hs0
      congr 1; funext st
      simp [evStep, partS, h]
    · rw [h] at hs0
      rw [part_ev vars arg f r r' hfr hs0]
      cases evGo vars arg r'.reverse [] with
      | none => rfl
      | some st =>
        simp only [Option.bind_some, partS]
        rw [if_neg (by omega)]
        cases partS vars arg f r with
        | none => rfl
        | some b => simp [evStep, h]
    · rw [skip_two h] at hs
      cases hs1 : skip 1 r with
      | none => rw [hs1] at hs; simp at hs
      | some r1 =>
        rw [hs1] at hs
        have hs2 : skip 1 r1 = some r' := hs
        have h1 := skip_len r 1 r1 hs1
        rw [part_ev vars arg f r r1 hfr hs1, part_ev vars arg f r1 r' (by omega) hs2]
        cases evGo vars arg r'.reverse [] with
        | none => rfl
        | some st =>
          simp only [Option.bind_some, partS]
          rw [if_neg (by omega)]
          simp only [hs1]
          cases partS vars arg f r1 with
          | none =>
            cases partS vars arg f r with
            | none => rfl
            | some b => simp [h]
          | some a =>
            cases partS vars arg f r with
            | none => rfl
            | some b => simp [evStep, h]

/-- what the document comes to -/
def refEvalS (l : List Tok) (vars : List Int) (arg : Int) : Int × Nat :=
  if refMayS l vars.length = true then
    match partS vars arg l.length l.reverse with
    | none => (0, 18)
    | some v => (v, 0)
  else (0, 3)
theorem may_skip1 {l : List Tok} {vars : Int} (h : mayS l vars = true) : skip 1 l.reverse = some [] := by
  simp only [mayS, decide_eq_true_eq] at h
  exact may_skip vars l.reverse 1 (by simpa using h.2)
theorem eval_eq (l : List Tok) (vars : List Int) (arg : Int) : evalS l vars arg = refEvalS l vars arg := by
  unfold evalS refEvalS
  rw [← may_eq]
  split
  · rename_i hm
    have h := part_ev vars arg l.length l.reverse [] (by simp) (may_skip1 hm)
    rw [List.reverse_reverse] at h
    rw [h]
    cases partS vars arg l.length l.reverse with
    | none => rfl
    | some v => rfl
  · rfl

/-- a formula comes to one number behind what was -/
theorem ev_frame (vars : List Int) (arg : Int) (vn : Int) (st0 : List Int) : ∀ (l : List Tok) (st : List Int) (k : Nat), mayGo vn l st.length = some k →
    evGo vars arg l (st ++ st0) = (evGo vars arg l st).map (· ++ st0) ∧ ∀ s, evGo vars arg l st = some s → s.length = k
  | [], st, k, h => by simp [mayGo] at h; simp [evGo, h]
  | t :: l, st, k, h => by
    simp only [mayGo, mayStep] at h
    split at h
    · rename_i hc
      simp only [Option.bind_some] at h
      have key : evStep vars arg t (st ++ st0) = (evStep vars arg t st).map (· ++ st0) ∧ ∀ s, evStep vars arg t st = some s → s.length = st.length + 1 - takes t.op := by
        rcases (show takes t.op = 0 ∨ takes t.op = 1 ∨ takes t.op = 2 by have := takes_le t.op; omega) with ht | ht | ht
        · simp [evStep, ht]
        · cases st with
          | nil => simp at hc; omega
          | cons a st => simp [evStep, ht]
        · cases st with
          | nil => simp at hc; omega
          | cons b st =>
            cases st with
            | nil => simp at hc; omega
            | cons a st =>
              simp [evStep, ht]
              cases twoS t.op a b <;> simp
      obtain ⟨k1, k2⟩ := key
      show (evStep vars arg t (st ++ st0)).bind (evGo vars arg l) = ((evStep vars arg t st).bind (evGo vars arg l)).map (· ++ st0) ∧ _
      rw [k1]
      cases hs : evStep vars arg t st with
      | none => simp [evGo, hs]
      | some s =>
        have hl := k2 s hs
        rw [← hl] at h
        obtain ⟨i1, i2⟩ := ev_frame vars arg vn st0 l s k h
        refine ⟨by simpa using i1, fun s' hs' => i2 s' ?_⟩
        simpa [evGo, hs] using hs'
    · simp at h

theorem may_go {l : List Tok} {vars : Int} (h : mayS l vars = true) : mayGo vars l 0 = some 1 := by
  simp only [mayS, decide_eq_true_eq] at h; exact h.2
/-- the height of a formula behind others -/
theorem mayGo_more (vars : Int) (d : Nat) : ∀ (l : List Tok) (h k : Nat), mayGo vars l h = some k → mayGo vars l (h + d) = some (k + d)
  | [], h, k, e => by simp [mayGo] at e ⊢; omega
  | t :: l, h, k, e => by
    simp only [mayGo, mayStep] at e ⊢
    split at e
    · rename_i hc
      rw [if_pos ⟨hc.1, by omega⟩]
      simp only [Option.bind_some] at e ⊢
      rw [show h + d + 1 - takes t.op = (h + 1 - takes t.op) + d from by omega]
      exact mayGo_more vars d l _ _ e
    · simp at e

/-- what one formula comes to -/
def one (vars : List Int) (arg : Int) (l : List Tok) : Option Int := (evGo vars arg l []).map (·.headD 0)
theorem ev_one {l : List Tok} {vars : List Int} (arg : Int) {vn : Int} (h : mayS l vn = true) (st : List Int) : evGo vars arg l st = (one vars arg l).map (· :: st) := by
  have h1 := ev_frame vars arg vn st l [] 1 (may_go h)
  obtain ⟨h2, h3⟩ := h1
  rw [show st = [] ++ st from rfl, h2]
  unfold one
  cases he : evGo vars arg l [] with
  | none => rfl
  | some s =>
    have := h3 s he
    match s, this with
    | [v], _ => rfl
theorem eval_one {l : List Tok} {vars : List Int} (arg : Int) (h : mayS l vars.length = true) : evalS l vars arg = match one vars arg l with | none => (0, 18) | some v => (v, 0) := by
  unfold evalS one
  rw [if_pos h]
  cases evGo vars arg l [] <;> rfl

/-! ### the laws' own formulas -/
theorem right_op {op : Nat} (h : 3 ≤ op ∧ op ≤ 11) (v : Int) : right ⟨op, 0⟩ v = true := by
  unfold right
  rw [if_neg (by simp; omega), if_neg (by simp; omega)]
  simp; exact h
theorem takes_two {op : Nat} (h : 4 ≤ op ∧ op ≤ 10) : takes op = 2 := by
  unfold takes; rw [if_neg (by omega), if_neg (by omega)]

theorem joins_may {op : Nat} (h : 4 ≤ op ∧ op ≤ 10) {l m : List Tok} {vars : Int} (hl : mayS l vars = true) (hm : mayS m vars = true) (hs : l.length + m.length ≤ 23) :
    mayS (l ++ m ++ [⟨op, 0⟩]) vars = true := by
  unfold mayS
  simp only [decide_eq_true_eq]
  refine ⟨by simp; omega, ?_⟩
  rw [mayGo_snoc, mayGo_app, may_go hl]
  simp only [Option.bind_some]
  rw [show (1 : Nat) = 0 + 1 from rfl, mayGo_more vars 1 m 0 1 (may_go hm)]
  simp only [Option.bind_some, mayStep]
  rw [if_pos ⟨right_op (by omega) _, by rw [takes_two h]; omega⟩, takes_two h]
theorem joins_one {op : Nat} (h : 4 ≤ op ∧ op ≤ 10) {l m : List Tok} {vars : List Int} (arg : Int) (hl : mayS l vars.length = true) (hm : mayS m vars.length = true) :
    one vars arg (l ++ m ++ [⟨op, 0⟩]) = match one vars arg l, one vars arg m with | some x, some y => twoS op x y | _, _ => none := by
  rw [show one vars arg (l ++ m ++ [⟨op, 0⟩]) = (evGo vars arg (l ++ m ++ [⟨op, 0⟩]) []).map (·.headD 0) from rfl]
  rw [evGo_snoc, evGo_app, ev_one arg hl]
  cases one vars arg l with
  | none => rfl
  | some x =>
    simp only [Option.map_some, Option.bind_some]
    rw [ev_one arg hm]
    cases one vars arg m with
    | none => rfl
    | some y =>
      simp only [Option.map_some, Option.bind_some, evStep, takes_two h]
      simp
      cases twoS op x y <;> rfl
/-- two numbers and a sign -/
theorem pair_may {op : Nat} (h : 4 ≤ op ∧ op ≤ 10) (x y : Int) : mayS [⟨1, x⟩, ⟨1, y⟩, ⟨op, 0⟩] 0 = true := by
  have := joins_may (l := [⟨1, x⟩]) (m := [⟨1, y⟩]) (vars := 0) h (by simp [mayS, mayGo, mayStep, right, takes]) (by simp [mayS, mayGo, mayStep, right, takes]) (by simp)
  exact this
theorem pair_eval {op : Nat} (h : 4 ≤ op ∧ op ≤ 10) (x y : Int) : evalS [⟨1, x⟩, ⟨1, y⟩, ⟨op, 0⟩] [] 0 = match twoS op x y with | none => (0, 18) | some v => (v, 0) := by
  rw [eval_one (vars := []) 0 (pair_may h x y)]
  have := joins_one (l := [⟨1, x⟩]) (m := [⟨1, y⟩]) (vars := []) h 0 (by simp [mayS, mayGo, mayStep, right, takes]) (by simp [mayS, mayGo, mayStep, right, takes])
  rw [show ([⟨1, x⟩, ⟨1, y⟩, ⟨op, 0⟩] : List Tok) = [⟨1, x⟩] ++ [⟨1, y⟩] ++ [⟨op, 0⟩] from rfl, this]
  simp [one, evGo, evStep, leafS, takes]

theorem nots_may {l : List Tok} {vars : Int} (hl : mayS l vars = true) (hs : l.length ≤ 22) : mayS (l ++ [⟨11, 0⟩, ⟨11, 0⟩]) vars = true := by
  unfold mayS
  simp only [decide_eq_true_eq]
  refine ⟨by simp; omega, ?_⟩
  rw [mayGo_app, may_go hl]
  simp only [Option.bind_some, mayGo, mayStep]
  rw [if_pos ⟨right_op (by omega) _, by simp [takes]⟩]
  simp [takes, right]
theorem nots_one {l : List Tok} {vars : List Int} (arg : Int) (hl : mayS l vars.length = true) :
    one vars arg (l ++ [⟨11, 0⟩, ⟨11, 0⟩]) = (one vars arg l).map fun v => truth (decide (v ≠ 0)) := by
  rw [show one vars arg (l ++ [⟨11, 0⟩, ⟨11, 0⟩]) = (evGo vars arg (l ++ [⟨11, 0⟩, ⟨11, 0⟩]) []).map (·.headD 0) from rfl]
  rw [evGo_app, ev_one arg hl]
  cases one vars arg l with
  | none => rfl
  | some x =>
    by_cases h : x = 0 <;> simp [evGo, evStep, takes, truth, h]
end Ex
end Go.Proofs.Ytdpmfjbhadapiaa
