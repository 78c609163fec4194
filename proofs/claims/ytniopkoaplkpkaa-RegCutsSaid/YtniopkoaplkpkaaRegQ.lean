/- Plain law: what the document asks of a register gives what the code asks. No condition. -/
import Derived.Test.YtniopkoaplkpkaaRfC
import Derived.Test.YtniopkoaplkpkaaMayC
namespace Go.Proofs.Ytniopkoaplkpkaa
open Go.RowKit
set_option linter.unusedVariables false
set_option linter.unusedSimpArgs false
namespace Rq
open Rg (U8 U64 I64 RegD RegA RegAt regCs DoneD MarkD CellD RepD greatS mayS May06 ListsP goodD goodC goodM risesS Short replyS zeroReg)
def DG (d : DoneD) : Prop := 1 ≤ d.client ∧ d.client ≤ 8 ∧ d.seq ≠ 0 ∧ replyS d.rep = true
def CG (last : Nat) (c : CellD) : Prop := 1 ≤ c.n ∧ c.n ≤ last ∧ c.target ≤ 15 ∧ 0 ≤ c.action ∧ c.action ≤ 31
def MG (m : MarkD) : Prop := m.source ≤ 15 ∧ m.inc ≠ 0 ∧ m.cell ≠ 0
def Up {α : Type} (key : α → Nat) (l : List α) : Prop := (l.map key).Pairwise (· < ·)
section
variable {α : Type} {key : α → Nat} {l : List α} {x y z : α}
theorem up_of (h : ∀ i (hi : i < l.length), 0 < i → key (l[i - 1]'(by omega)) < key l[i]) : Up key l := by
  have H : ∀ d i (hi : i + 1 + d < l.length), key (l[i]'(by omega)) < key l[i + 1 + d] := by
    intro d
    induction d with
    | zero => intro i hi; exact h (i + 1) hi (by omega)
    | succ d ih =>
      intro i hi
      have h1 := ih i (by omega)
      have h2 := h (i + 1 + (d + 1)) hi (by omega)
      have e : i + 1 + (d + 1) - 1 = i + 1 + d := by omega
      simp only [e] at h2
      omega
  unfold Up
  rw [List.pairwise_iff_getElem]
  intro i j hi hj hij
  rw [List.length_map] at hi hj
  rw [List.getElem_map, List.getElem_map]
  have := H (j - i - 1) i (by omega)
  have e : i + 1 + (j - i - 1) = j := by omega
  simp only [e] at this
  exact this
theorem up_at (h : Up key l) {i j : Nat} (hi : i < l.length) (hj : j < l.length) (hij : i < j) : key l[i] < key l[j] := by
  unfold Up at h
  rw [List.pairwise_iff_getElem] at h
  have := h i j (by simpa using hi) (by simpa using hj) hij
  simpa using this
theorem up_ge {a : Nat} (h : Up key l) (ha : ∀ x ∈ l, a ≤ key x) : ∀ i (hi : i < l.length), a + i ≤ key l[i] := by
  intro i
  induction i with
  | zero => intro hi; exact ha _ (List.getElem_mem hi)
  | succ i ih =>
    intro hi
    have h1 := ih (by omega)
    have h2 := up_at h (by omega) hi (Nat.lt_succ_self i)
    omega
theorem up_len {a b : Nat} (h : Up key l) (ha : ∀ x ∈ l, a ≤ key x ∧ key x ≤ b) : l.length ≤ b + 1 - a := by
  by_cases h0 : l.length = 0
  · omega
  have h1 := up_ge h (fun x hx => (ha x hx).1) (l.length - 1) (by omega)
  have h2 := (ha _ (List.getElem_mem (show l.length - 1 < l.length by omega))).2
  omega
theorem up_uniq (h : Up key l) (hy : y ∈ l) (hz : z ∈ l) (e : key y = key z) : y = z := by
  obtain ⟨i, hi, rfl⟩ := List.getElem_of_mem hy
  obtain ⟨j, hj, rfl⟩ := List.getElem_of_mem hz
  rcases Nat.lt_trichotomy i j with h1 | h1 | h1
  · have := up_at h hi hj h1; omega
  · subst h1; rfl
  · have := up_at h hj hi h1; omega
theorem up_filter {p : α → Bool} (h : Up key l) : Up key (l.filter p) := by
  unfold Up at *
  exact h.sublist (List.Sublist.map _ List.filter_sublist)
theorem rises_of : ∀ {l : List α} {b : Nat}, Up key l → (∀ x ∈ l, b ≤ key x ∧ key x < 18446744073709551616) → risesS key l b = true
  | [], _, _, _ => rfl
  | x :: r, b, hu, hb => by
    rw [risesS, if_neg (by have := (hb x (List.mem_cons_self ..)).1; omega)]
    unfold Up at hu
    rw [List.map_cons, List.pairwise_cons] at hu
    refine rises_of hu.2 fun z hz => ⟨?_, (hb z (List.mem_cons_of_mem _ hz)).2⟩
    have h1 := hu.1 (key z) (List.mem_map_of_mem hz)
    have h2 := (hb z (List.mem_cons_of_mem _ hz)).2
    rw [Nat.mod_eq_of_lt (by omega)]
    omega
end
theorem goodD_iff (l : List DoneD) : goodD l ↔ (∀ d ∈ l, DG d) ∧ Up (·.client) l := by
  constructor
  · intro h
    refine ⟨fun d hd => ?_, up_of fun i hi h0 => (h i hi).2.2.2.2 h0⟩
    obtain ⟨i, hi, rfl⟩ := List.getElem_of_mem hd
    have := h i hi
    exact ⟨this.1, this.2.1, this.2.2.1, this.2.2.2.1⟩
  · rintro ⟨h1, h2⟩ i hi
    have a := h1 _ (List.getElem_mem hi)
    exact ⟨a.1, a.2.1, a.2.2.1, a.2.2.2, fun h0 => up_at h2 (by omega) hi (by omega)⟩
theorem goodC_iff (last : Nat) (l : List CellD) : goodC last l ↔ (∀ d ∈ l, CG last d) ∧ Up (·.n) l := by
  constructor
  · intro h
    refine ⟨fun d hd => ?_, up_of fun i hi h0 => (h i hi).2.2.2.2.2 h0⟩
    obtain ⟨i, hi, rfl⟩ := List.getElem_of_mem hd
    have := h i hi
    exact ⟨this.1, this.2.1, this.2.2.1, this.2.2.2.1, this.2.2.2.2.1⟩
  · rintro ⟨h1, h2⟩ i hi
    have a := h1 _ (List.getElem_mem hi)
    exact ⟨a.1, a.2.1, a.2.2.1, a.2.2.2.1, a.2.2.2.2, fun h0 => up_at h2 (by omega) hi (by omega)⟩
theorem goodM_iff (l : List MarkD) : goodM l ↔ (∀ d ∈ l, MG d) ∧ Up (·.source) l := by
  constructor
  · intro h
    refine ⟨fun d hd => ?_, up_of fun i hi h0 => (h i hi).2.2.2 h0⟩
    obtain ⟨i, hi, rfl⟩ := List.getElem_of_mem hd
    have := h i hi
    exact ⟨this.1, this.2.1, this.2.2.1⟩
  · rintro ⟨h1, h2⟩ i hi
    have a := h1 _ (List.getElem_mem hi)
    exact ⟨a.1, a.2.1, a.2.2, fun h0 => up_at h2 (by omega) hi (by omega)⟩
/-- the lists of a register that may be -/
structure LG (r : RegD) : Prop where
  v : r.vars.length ≤ 8
  o : r.out.length ≤ 8
  d1 : ∀ d ∈ r.done, DG d
  d2 : Up (·.client) r.done
  c1 : ∀ c ∈ r.out, CG r.last c
  c2 : Up (·.n) r.out
  m1 : ∀ m ∈ r.marks, MG m
  m2 : Up (·.source) r.marks
theorem LG.d {r : RegD} (h : LG r) : r.done.length ≤ 8 := by
  have := up_len h.d2 (a := 1) (b := 8) fun x hx => ⟨(h.d1 x hx).1, (h.d1 x hx).2.1⟩
  omega
theorem LG.m {r : RegD} (h : LG r) : r.marks.length ≤ 16 := by
  have := up_len h.m2 (a := 0) (b := 15) fun x hx => ⟨Nat.zero_le _, (h.m1 x hx).1⟩
  omega
theorem lists_iff (r : RegD) : ListsP r ↔ LG r := by
  constructor
  · rintro ⟨h1, h2, h3, h4, h5, h6, h7⟩
    rw [goodD_iff] at h5
    rw [goodC_iff] at h6
    rw [goodM_iff] at h7
    exact ⟨h1, h3, h5.1, h5.2, h6.1, h6.2, h7.1, h7.2⟩
  · intro h
    exact ⟨h.v, h.d, h.o, h.m, (goodD_iff _).2 ⟨h.d1, h.d2⟩, (goodC_iff _ _).2 ⟨h.c1, h.c2⟩, (goodM_iff _).2 ⟨h.m1, h.m2⟩⟩
/-- a register that may be, and is something -/
structure SG (r : RegD) : Prop where
  k : r.kind = 1 ∨ r.kind = 2 ∧ r.state = 0 ∧ r.vars.length = 0 ∧ r.out.length = 0
  i : r.inc ≠ 0
  s0 : 0 ≤ r.state
  s1 : r.state < 32
  l : LG r
theorem may_iff {r : RegD} : May06 r ↔ (r.kind = 0 ∧ r.inc = 0 ∧ r.state = 0 ∧ r.last = 0 ∧ r.vars = [] ∧ r.done = [] ∧ r.out = [] ∧ r.marks = []) ∨ SG r := by
  unfold May06
  by_cases hk : r.kind = 0
  · rw [if_pos hk]
    simp only [List.length_eq_zero_iff]
    constructor
    · intro h
      exact .inl ⟨hk, h⟩
    · rintro (h | h)
      · exact h.2
      · exfalso
        rcases h.k with h | h <;> omega
  · rw [if_neg hk, lists_iff]
    constructor
    · rintro ⟨h1, h2, h3, h4, h5, h6⟩
      refine .inr ⟨?_, h3, h4, h5, h6⟩
      by_cases hk2 : r.kind = 2
      · exact .inr ⟨hk2, h2 hk2⟩
      · left; omega
    · rintro (h | h)
      · exact absurd h.1 hk
      · refine ⟨?_, ?_, h.i, h.s0, h.s1, h.l⟩
        · rcases h.k with h | h <;> omega
        · intro k2
          rcases h.k with h | h
          · omega
          · exact h.2
theorem may_zero {r : RegD} (h : May06 r) (hk : r.kind = 0) : r = zeroReg := by
  rcases may_iff.1 h with h | h
  · obtain ⟨k, i, s, v, d, o, l, m⟩ := r
    obtain ⟨h0, h1, h2, h3, h4, h5, h6, h7⟩ := h
    simp only at h0 h1 h2 h3 h4 h5 h6 h7
    subst h0 h1 h2 h3 h4 h5 h6 h7
    rfl
  · exfalso
    rcases h.k with h | h <;> omega
theorem may_SG {r : RegD} (h : May06 r) (hk : r.kind ≠ 0) : SG r := by
  rcases may_iff.1 h with h | h
  · exact absurd h.1 hk
  · exact h
theorem zero_LG : LG zeroReg := by
  constructor <;> simp [zeroReg, Up]
theorem may_LG {r : RegD} (h : May06 r) : LG r := by
  by_cases hk : r.kind = 0
  · rw [may_zero h hk]; exact zero_LG
  · exact (may_SG h hk).l
theorem may_S {r : RegD} (h : May06 r) (hl : U64 r.last) : mayS r = true := by
  by_cases hk : r.kind = 0
  · rw [may_zero h hk]; decide
  have hs := may_SG h hk
  have hg := hs.l
  have hd := hg.d
  have hc : Rg.coreS r = true := by
    unfold Rg.coreS
    rw [Bool.and_eq_true, Bool.and_eq_true, Bool.and_eq_true, Bool.and_eq_true, Bool.and_eq_true]
    refine ⟨decide_eq_true (by have := hs.i; omega), ?_, decide_eq_true (by have := hg.v; omega), ?_, ?_, ?_⟩
    · unfold Rg.inS
      rw [Bool.and_eq_true]
      exact ⟨decide_eq_true hs.s0, decide_eq_true hs.s1⟩
    · unfold Rg.donesS
      rw [Bool.and_eq_true, Bool.and_eq_true]
      refine ⟨?_, decide_eq_true (by omega), rises_of hg.d2 fun x hx => ?_⟩
      · rw [Bool.not_eq_true', List.any_eq_false]
        intro x hx
        obtain ⟨h1, h2, h3, h4⟩ := hg.d1 x hx
        unfold Rg.dbadS
        rw [h4, decide_eq_false (by omega), Rg.eqF (by omega)]
        simp
      · have := hg.d1 x hx
        unfold DG at this
        omega
    · unfold Rg.cellsS
      rw [Bool.and_eq_true, Bool.and_eq_true]
      refine ⟨?_, decide_eq_true (by have := hg.o; omega), rises_of hg.c2 fun x hx => ?_⟩
      · rw [Bool.not_eq_true', List.any_eq_false]
        intro x hx
        obtain ⟨h1, h2, h3, h4, h5⟩ := hg.c1 x hx
        unfold Rg.cbadS Rg.inS
        rw [decide_eq_false (by omega), decide_eq_false (by omega), decide_eq_true (by omega), decide_eq_true (by omega)]
        simp
      · have := hg.c1 x hx
        unfold CG at this
        unfold U64 at hl
        omega
    · unfold Rg.marksS
      rw [Bool.and_eq_true]
      refine ⟨?_, rises_of hg.m2 fun x hx => ?_⟩
      · rw [Bool.not_eq_true', List.any_eq_false]
        intro x hx
        obtain ⟨h1, h2, h3⟩ := hg.m1 x hx
        unfold Rg.mbadS
        rw [decide_eq_false (by omega), Rg.eqF (by omega), Rg.eqF (by omega)]
        simp
      · have := hg.m1 x hx
        unfold MG at this
        omega
  unfold mayS
  rw [if_neg hk]
  rcases hs.k with k1 | ⟨k2, k3, k4, k5⟩
  · rw [if_neg (by omega), if_pos k1, hc]
  · rw [if_pos k2, hc]
    unfold Rg.tombS
    rw [decide_eq_false (by omega), decide_eq_false (by omega), Rg.eqT k3]
    rfl
theorem may_great {r : RegD} (h : May06 r) : greatS r = false := by
  have hg := may_LG h
  have hd := hg.d
  have hm := hg.m
  have h1 := hg.v
  have h2 := hg.o
  unfold greatS
  rw [decide_eq_false (by omega), Bool.false_or, List.any_eq_false]
  intro x hx
  have h4 := (hg.d1 x hx).2.2.2
  unfold replyS at h4
  simp only [Bool.and_eq_true, decide_eq_true_eq] at h4
  simp
  omega
end Rq
end Go.Proofs.Ytniopkoaplkpkaa
