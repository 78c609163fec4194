/- Plain law of taking registers: what a taker's methods take, as functions of bytes and an error; what is put is taken; what is cut off is short. No condition. -/
import Derived.Test.YtniopkoaplkpkaaRdA
import Derived.Test.YtniopkoaplkpkaaPutK
namespace Go.Proofs.Ytniopkoaplkpkaa
open Go.RowKit
set_option linter.unusedVariables false
set_option linter.unusedSimpArgs false
namespace Rt
open Rg Pk
/-- a reader's bytes, and its error -/
abbrev St := List UInt8 × Nat
def bindS {α β : Type} (t : St → α × St) (f : α → St → β × St) : St → β × St := fun s => f (t s).1 (t s).2
def pureS {α : Type} (x : α) : St → α × St := fun s => (x, s)
def mapS {α β : Type} (t : St → α × St) (f : α → β) : St → β × St := fun s => (f (t s).1, (t s).2)
def numR (most : Nat) (s : St) : Nat × St := numS most s.1 s.2
def smallS : St → Nat × St := numR 255
def bigS : St → Nat × St := numR 18446744073709551615
def smlS : St → Nat × St := numR 1000
def wellS (s : St) : Bool := (s.2 == 0) || (s.2 == 4)
def loopS {α : Type} (take : St → α × St) : Nat → St → List α → List α × St
  | 0, s, acc => (acc, s)
  | n + 1, s, acc => if wellS s then loopS take n (take s).2 (acc ++ [(take s).1]) else (acc, s)
def listS {α : Type} (take : St → α × St) (s : St) : List α × St := loopS take (smlS s).1 (smlS s).2 []
def repS : St → RepD × St := bindS smlS fun e => bindS bigS fun i => bindS smlS fun t => bindS (listS intS) fun v => pureS ⟨(e : Int), i, (t : Int), v⟩
def doneS : St → DoneD × St := bindS smallS fun c => bindS bigS fun q => bindS repS fun r => pureS ⟨c, q, r⟩
def cellS : St → CellD × St := bindS bigS fun n => bindS smallS fun t => bindS smlS fun a => bindS intS fun x => pureS ⟨n, t, (a : Int), x⟩
def markS : St → MarkD × St := bindS smallS fun s => bindS bigS fun i => bindS bigS fun c => pureS ⟨s, i, c⟩
def bodyS (k : Nat) : St → RegD × St := bindS bigS fun i => bindS smlS fun t => bindS (listS intS) fun v => bindS (listS doneS) fun d => bindS (listS cellS) fun o => bindS bigS fun l => bindS (listS markS) fun q => pureS ⟨k, i, (t : Int), v, d, o, l, q⟩
def rawS : St → RegD × St := bindS smallS fun k => if k = 0 then pureS ⟨k, 0, 0, [], [], [], 0, []⟩ else bodyS k
/-- what reg.Get takes -/
def checkS (x : RegD) (s : St) : RegD × St := (if wellS (if mayS x then s else failS 3 s) then x else zeroReg, if mayS x then s else failS 3 s)
def getS : St → RegD × St := bindS rawS checkS

/-! what is taken -/
def Bad {α : Type} (t : St → α × St) (Q : α → Prop) : Prop := ∀ l, (t (l, 2)).2.2 = 2 ∧ Q (t (l, 2)).1
structure Reads {α : Type} (t : St → α × St) (b : List UInt8) (x : α) (Q : α → Prop) : Prop where
  ok : ∀ cs, t (b ++ cs, 0) = (x, cs, 0)
  cut : ∀ k, k < b.length → (t (b.take k, 0)).2.2 = 2 ∧ Q (t (b.take k, 0)).1
theorem eta2 {α : Type} (p : α × St) (h : p.2.2 = 2) : p = (p.1, p.2.1, 2) := by
  obtain ⟨a, l, e⟩ := p
  simp at h
  subst h
  rfl
theorem Reads.bind {α β : Type} {t : St → α × St} {f : α → St → β × St} {b b' : List UInt8} {x : α} {y : β} {Q : α → Prop} {Q' : β → Prop} (h : Reads t b x Q) (h' : Reads (f x) b' y Q') (hb : ∀ a, Q a → Bad (f a) Q') : Reads (bindS t f) (b ++ b') y Q' := by
  refine ⟨fun cs => ?_, fun k hk => ?_⟩
  · unfold bindS
    rw [List.append_assoc, h.ok]
    exact h'.ok cs
  · by_cases hlt : k < b.length
    · have hc := h.cut k hlt
      unfold bindS
      rw [List.take_append_of_le_length (by omega)]
      have he := eta2 _ hc.1
      rw [show (t (b.take k, 0)).2 = ((t (b.take k, 0)).2.1, 2) from by rw [he]]
      exact hb _ hc.2 _
    · unfold bindS
      rw [List.take_append, List.take_of_length_le (by omega), h.ok]
      exact h'.cut _ (by simp at hk; omega)
theorem Bad.bind {α β : Type} {t : St → α × St} {f : α → St → β × St} {Q : α → Prop} {Q' : β → Prop} (h : Bad t Q) (hb : ∀ a, Q a → Bad (f a) Q') : Bad (bindS t f) Q' := fun l => by
  have hc := h l
  unfold bindS
  have he := eta2 _ hc.1
  rw [show (t (l, 2)).2 = ((t (l, 2)).2.1, 2) from by rw [he]]
  exact hb _ hc.2 _
theorem Bad.pure {α : Type} {x : α} {Q : α → Prop} (h : Q x) : Bad (pureS x) Q := fun l => ⟨rfl, h⟩
theorem Reads.pure {α : Type} {x : α} {Q : α → Prop} : Reads (pureS x) [] x Q := ⟨fun cs => rfl, fun k hk => by simp at hk⟩
theorem Reads.pure_bind {α β : Type} {t : St → α × St} {b : List UInt8} {x : α} {g : α → β} {Q : α → Prop} {Q' : β → Prop} (h : Reads t b x Q) (hq : ∀ a, Q a → Q' (g a)) : Reads (bindS t fun a => pureS (g a)) b (g x) Q' := by
  have := h.bind (f := fun a => pureS (g a)) Reads.pure (Q' := Q') fun a ha => Bad.pure (hq a ha)
  rwa [List.append_nil] at this
def Any {α : Type} (_ : α) : Prop := True
theorem num_bad {most : Nat} : Bad (numR most) Any := fun l => by
  unfold numR
  rw [numS_bad (by omega)]
  exact ⟨rfl, trivial⟩
theorem num_reads {most x : Nat} (hx : x < 18446744073709551616) (hm : x ≤ most) : Reads (numR most) (numB x) x Any := ⟨fun cs => numS_put hx hm cs, fun k hk => by
  unfold numR
  rw [numS_cut most hx hk]
  exact ⟨rfl, trivial⟩⟩
theorem int_bad : Bad intS Any := fun l => by
  unfold intS
  rw [numS_bad (by omega)]
  exact ⟨rfl, trivial⟩
theorem int_reads {x : Int} (h : I64 x) : Reads intS (numB (zig x)) x Any := ⟨fun cs => by
  have hz := zig_lt h.1 h.2
  unfold intS
  rw [numS_put hz (by omega) cs, zag_zig], fun k hk => by
  have hz := zig_lt h.1 h.2
  unfold intS
  rw [numS_cut _ hz hk]
  exact ⟨rfl, trivial⟩⟩
theorem well0 (l : List UInt8) : wellS (l, 0) = true := rfl
theorem loop_bad {α : Type} (take : St → α × St) (n : Nat) (l : List UInt8) (acc : List α) : loopS take n (l, 2) acc = (acc, l, 2) := by
  cases n with
  | zero => rfl
  | succ n => simp [loopS, wellS]
theorem loop_ok {α : Type} {take : St → α × St} {f : α → List UInt8} {Q : α → Prop} : ∀ (l : List α) (acc : List α) (cs : List UInt8), (∀ x ∈ l, Reads take (f x) x Q) → loopS take l.length (l.flatMap f ++ cs, 0) acc = (acc ++ l, cs, 0)
  | [], acc, cs, _ => by simp [loopS]
  | x :: l, acc, cs, h => by
    have hx := (h x (List.mem_cons_self ..)).ok (l.flatMap f ++ cs)
    simp only [List.length_cons, loopS, List.flatMap_cons, List.append_assoc]
    rw [if_pos (well0 _), hx, loop_ok l _ cs (fun y hy => h y (List.mem_cons_of_mem _ hy))]
    simp
theorem loop_cut {α : Type} {take : St → α × St} {f : α → List UInt8} {Q : α → Prop} : ∀ (l : List α) (acc : List α) (k : Nat), (∀ x ∈ l, Reads take (f x) x Q) → k < (l.flatMap f).length →
    (loopS take l.length ((l.flatMap f).take k, 0) acc).2.2 = 2 ∧ (loopS take l.length ((l.flatMap f).take k, 0) acc).1.length ≤ acc.length + l.length
  | [], acc, k, _, hk => by simp at hk
  | x :: l, acc, k, h, hk => by
    have hx := h x (List.mem_cons_self ..)
    simp only [List.length_cons, loopS, List.flatMap_cons]
    rw [if_pos (well0 _)]
    by_cases hlt : k < (f x).length
    · have hc := hx.cut k hlt
      rw [List.take_append_of_le_length (by omega)]
      have he := eta2 _ hc.1
      rw [show (take ((f x).take k, 0)).2 = ((take ((f x).take k, 0)).2.1, 2) from by rw [he], loop_bad]
      simp
    · rw [List.take_append, List.take_of_length_le (by omega), hx.ok]
      have := loop_cut l (acc ++ [x]) (k - (f x).length) (fun y hy => h y (List.mem_cons_of_mem _ hy)) (by simp at hk ⊢; omega)
      refine ⟨this.1, Nat.le_trans this.2 ?_⟩
      simp
      omega
def Few {α : Type} (n : Nat) (l : List α) : Prop := l.length ≤ n
theorem list_bad {α : Type} {take : St → α × St} (n : Nat) : Bad (listS take) (Few n) := fun l => by
  have h := num_bad (most := 1000) l
  have he := eta2 _ h.1
  have hb : numR 1000 (l, 2) = (0, l, 2) := numS_bad (by omega)
  unfold listS smlS
  rw [hb, loop_bad]
  exact ⟨rfl, Nat.zero_le _⟩
theorem list_reads {α : Type} {take : St → α × St} {f : α → List UInt8} {Q : α → Prop} {l : List α} {n : Nat} (h : ∀ x ∈ l, Reads take (f x) x Q) (hl : l.length ≤ n) (hn : n ≤ 1000) : Reads (listS take) (numB l.length ++ l.flatMap f) l (Few n) := by
  have h1 := num_reads (most := 1000) (x := l.length) (by omega) (by omega)
  refine ⟨fun cs => ?_, fun k hk => ?_⟩
  · unfold listS smlS
    rw [List.append_assoc, h1.ok]
    exact loop_ok l [] cs h
  · by_cases hlt : k < (numB l.length).length
    · have hc : numR 1000 ((numB l.length).take k, 0) = (0, (numB l.length).take k, 2) := numS_cut 1000 (by omega) hlt
      unfold listS smlS
      rw [List.take_append_of_le_length (by omega), hc, loop_bad]
      exact ⟨rfl, Nat.zero_le _⟩
    · unfold listS smlS
      rw [List.take_append, List.take_of_length_le (by omega), h1.ok]
      have := loop_cut l [] (k - (numB l.length).length) h (by simp at hk ⊢; omega)
      refine ⟨this.1, Nat.le_trans this.2 ?_⟩
      simp
      exact hl
/-! registers -/
structure RegIn (r : RegD) : Prop where
  kind : U8 r.kind
  inc : U64 r.inc
  last : U64 r.last
  vars : ∀ x ∈ r.vars, I64 x
  done : ∀ d ∈ r.done, U8 d.client ∧ U64 d.seq ∧ U64 d.rep.inc ∧ ∀ x ∈ d.rep.vars, I64 x
  out : ∀ c ∈ r.out, U64 c.n ∧ U8 c.target ∧ I64 c.arg
  marks : ∀ c ∈ r.marks, U8 c.source ∧ U64 c.inc ∧ U64 c.cell
theorem regIn {w : World} {r : RegD} {p : RegA} (h : RegAt w r p) : RegIn r :=
  ⟨h.kind, h.inc, h.last, nums_bd h.vars, rows_all h.done fun cs d _ ⟨_, _, h1, h2, _, h3, _, h4, _⟩ => ⟨h1, h2, h3, nums_bd h4⟩, rows_all h.out fun cs c _ ⟨_, h1, h2, _, h3⟩ => ⟨h1, h2, h3⟩, rows_all h.marks fun cs c _ ⟨_, h1, h2, h3⟩ => ⟨h1, h2, h3⟩⟩
theorem ints_reads {l : List Int} {n : Nat} (h : ∀ x ∈ l, I64 x) (hl : l.length ≤ n) (hn : n ≤ 1000) : Reads (listS intS) (numB l.length ++ intsB l) l (Few n) := list_reads (f := fun x => numB (zig x)) (fun x hx => int_reads (h x hx)) hl hn
theorem rep_reads {r : RepD} (h0 : 0 ≤ r.err) (h1 : r.err ≤ 1000) (h2 : U64 r.inc) (h3 : 0 ≤ r.state) (h4 : r.state ≤ 1000) (h5 : ∀ x ∈ r.vars, I64 x) (h6 : r.vars.length ≤ 8) : Reads repS (repB r) r Any := by
  obtain ⟨e, i, t, v⟩ := r
  obtain ⟨e, rfl⟩ := Int.eq_ofNat_of_zero_le h0
  obtain ⟨t, rfl⟩ := Int.eq_ofNat_of_zero_le h3
  simp only at *
  unfold U64 at h2
  unfold repS repB
  simp only [Int.toNat_natCast]
  refine (num_reads (by omega) (by omega)).bind ((num_reads h2 (by omega)).bind ((num_reads (by omega) (by omega)).bind ((ints_reads h5 h6 (by omega)).pure_bind fun _ _ => trivial) ?_) ?_) ?_
  · exact fun _ _ => (list_bad 8).bind fun _ _ => Bad.pure trivial
  · exact fun _ _ => num_bad.bind fun _ _ => (list_bad 8).bind fun _ _ => Bad.pure trivial
  · exact fun _ _ => num_bad.bind fun _ _ => num_bad.bind fun _ _ => (list_bad 8).bind fun _ _ => Bad.pure trivial
theorem rep_bad : Bad repS Any := num_bad.bind fun _ _ => num_bad.bind fun _ _ => num_bad.bind fun _ _ => (list_bad 8).bind fun _ _ => Bad.pure trivial
theorem done_reads {d : DoneD} (h1 : U8 d.client) (h2 : U64 d.seq) (h : Reads repS (repB d.rep) d.rep Any) : Reads doneS (doneB d) d Any := by
  unfold U8 at h1
  unfold U64 at h2
  exact (num_reads (by omega) (by omega)).bind ((num_reads h2 (by omega)).bind (h.pure_bind fun _ _ => trivial) fun _ _ => rep_bad.bind fun _ _ => Bad.pure trivial) fun _ _ => num_bad.bind fun _ _ => rep_bad.bind fun _ _ => Bad.pure trivial
theorem cell_reads {c : CellD} (h1 : U64 c.n) (h2 : U8 c.target) (h3 : 0 ≤ c.action) (h4 : c.action ≤ 1000) (h5 : I64 c.arg) : Reads cellS (cellB c) c Any := by
  obtain ⟨n, t, a, x⟩ := c
  obtain ⟨a, rfl⟩ := Int.eq_ofNat_of_zero_le h3
  simp only at *
  unfold U64 at h1
  unfold U8 at h2
  unfold cellS cellB
  simp only [Int.toNat_natCast]
  refine (num_reads h1 (by omega)).bind ((num_reads (by omega) (by omega)).bind ((num_reads (by omega) (by omega)).bind ((int_reads h5).pure_bind fun _ _ => trivial) ?_) ?_) ?_
  · exact fun _ _ => int_bad.bind fun _ _ => Bad.pure trivial
  · exact fun _ _ => num_bad.bind fun _ _ => int_bad.bind fun _ _ => Bad.pure trivial
  · exact fun _ _ => num_bad.bind fun _ _ => num_bad.bind fun _ _ => int_bad.bind fun _ _ => Bad.pure trivial
theorem mark_reads {c : MarkD} (h1 : U8 c.source) (h2 : U64 c.inc) (h3 : U64 c.cell) : Reads markS (markB c) c Any := by
  unfold U8 at h1
  unfold U64 at h2 h3
  exact (num_reads (by omega) (by omega)).bind ((num_reads h2 (by omega)).bind ((num_reads h3 (by omega)).pure_bind fun _ _ => trivial) fun _ _ => num_bad.bind fun _ _ => Bad.pure trivial) fun _ _ => num_bad.bind fun _ _ => num_bad.bind fun _ _ => Bad.pure trivial
theorem q_bad (k i t : Nat) (v : List Int) (d : List DoneD) (o : List CellD) (l : Nat) (hv : Few 50 v) (hd : Few 50 d) (ho : Few 50 o) : Bad (bindS (listS markS) fun q => pureS (⟨k, i, (t : Int), v, d, o, l, q⟩ : RegD)) Short := (list_bad 50).bind fun q hq => Bad.pure ⟨hv, hd, ho, hq⟩
theorem l_bad (k i t : Nat) (v : List Int) (d : List DoneD) (o : List CellD) (hv : Few 50 v) (hd : Few 50 d) (ho : Few 50 o) : Bad (bindS bigS fun l => bindS (listS markS) fun q => pureS (⟨k, i, (t : Int), v, d, o, l, q⟩ : RegD)) Short := num_bad.bind fun l _ => q_bad k i t v d o l hv hd ho
theorem o_bad (k i t : Nat) (v : List Int) (d : List DoneD) (hv : Few 50 v) (hd : Few 50 d) : Bad (bindS (listS cellS) fun o => bindS bigS fun l => bindS (listS markS) fun q => pureS (⟨k, i, (t : Int), v, d, o, l, q⟩ : RegD)) Short := (list_bad 50).bind fun o ho => l_bad k i t v d o hv hd ho
theorem d_bad (k i t : Nat) (v : List Int) (hv : Few 50 v) : Bad (bindS (listS doneS) fun d => bindS (listS cellS) fun o => bindS bigS fun l => bindS (listS markS) fun q => pureS (⟨k, i, (t : Int), v, d, o, l, q⟩ : RegD)) Short := (list_bad 50).bind fun d hd => o_bad k i t v d hv hd
theorem v_bad (k i t : Nat) : Bad (bindS (listS intS) fun v => bindS (listS doneS) fun d => bindS (listS cellS) fun o => bindS bigS fun l => bindS (listS markS) fun q => pureS (⟨k, i, (t : Int), v, d, o, l, q⟩ : RegD)) Short := (list_bad 50).bind fun v hv => d_bad k i t v hv
theorem body_bad (k : Nat) : Bad (bodyS k) Short := num_bad.bind fun i _ => num_bad.bind fun t _ => v_bad k i t
theorem raw_bad : Bad rawS Short := num_bad.bind fun k _ => by
  split
  · exact Bad.pure ⟨Nat.zero_le _, Nat.zero_le _, Nat.zero_le _, Nat.zero_le _⟩
  · exact body_bad k
theorem empty_zero {r : RegD} (h : emptyS r = true) (hk : r.kind = 0) : r = ⟨r.kind, 0, 0, [], [], [], 0, []⟩ := by
  obtain ⟨k, i, t, v, d, o, l, q⟩ := r
  unfold emptyS at h
  simp only [Bool.and_eq_true, beq_iff_eq] at h
  obtain ⟨h1, h2, h3, h4⟩ := h
  have e1 : v.length = 0 := by omega
  have e2 : d.length = 0 := by omega
  have e3 : o.length = 0 := by omega
  have e4 : q.length = 0 := by omega
  rw [List.length_eq_zero_iff] at e1 e2 e3 e4
  subst e1 e2 e3 e4 h2
  simp
  omega
theorem raw_reads {r : RegD} (h : RegIn r) (hm : mayS r = true) (hs : Short r) : Reads rawS (regB r) r Short := by
  have hk8 := h.kind
  unfold U8 at hk8
  by_cases hk : r.kind = 0
  · unfold regB
    rw [if_pos hk]
    have he : emptyS r = true := by
      unfold mayS at hm
      rwa [if_pos hk] at hm
    have hz := empty_zero he hk
    have h1 := num_reads (most := 255) (x := r.kind) (by omega) (by omega)
    have := h1.bind (f := fun k => if k = 0 then pureS ⟨k, 0, 0, [], [], [], 0, []⟩ else bodyS k) (b' := []) (y := r) (Q' := Short) (by
      rw [if_pos hk]
      rw [hz]
      exact Reads.pure) fun k _ => by
        split
        · exact Bad.pure ⟨Nat.zero_le _, Nat.zero_le _, Nat.zero_le _, Nat.zero_le _⟩
        · exact body_bad k
    rw [List.append_nil] at this
    exact this
  · have hok := putOk hm hk
    have e0 := hok.s0
    have e1 := hok.s1
    obtain ⟨t, ht⟩ := Int.eq_ofNat_of_zero_le e0
    have hb : Reads (bodyS r.kind) (numB r.inc ++ (numB r.state.toNat ++ ((numB r.vars.length ++ intsB r.vars) ++ ((numB r.done.length ++ r.done.flatMap doneB) ++ ((numB r.out.length ++ r.out.flatMap cellB) ++ (numB r.last ++ (numB r.marks.length ++ r.marks.flatMap markB))))))) r Short := by
      have hinc := h.inc
      have hlast := h.last
      unfold U64 at hinc hlast
      have R7 : Reads (bindS (listS markS) fun q => pureS (⟨r.kind, r.inc, (t : Int), r.vars, r.done, r.out, r.last, q⟩ : RegD)) (numB r.marks.length ++ r.marks.flatMap markB) ⟨r.kind, r.inc, (t : Int), r.vars, r.done, r.out, r.last, r.marks⟩ Short :=
        (list_reads (Q := Any) (n := 50) (fun c hc => mark_reads (h.marks c hc).1 (h.marks c hc).2.1 (h.marks c hc).2.2) hs.m (by omega)).pure_bind fun q hq => ⟨hs.v, hs.d, hs.o, hq⟩
      have R6 := (num_reads (most := 18446744073709551615) hlast (by omega)).bind (f := fun l => bindS (listS markS) fun q => pureS (⟨r.kind, r.inc, (t : Int), r.vars, r.done, r.out, l, q⟩ : RegD)) R7 (fun l _ => q_bad r.kind r.inc t r.vars r.done r.out l hs.v hs.d hs.o)
      have R5 := (list_reads (take := cellS) (Q := Any) (n := 50) (fun c hc => cell_reads (h.out c hc).1 (h.out c hc).2.1 (hok.c c hc).1 (by have := (hok.c c hc).2; omega) (h.out c hc).2.2) hs.o (by omega)).bind (f := fun o => bindS bigS fun l => bindS (listS markS) fun q => pureS (⟨r.kind, r.inc, (t : Int), r.vars, r.done, o, l, q⟩ : RegD)) R6 (fun o ho => l_bad r.kind r.inc t r.vars r.done o hs.v hs.d ho)
      have R4 := (list_reads (take := doneS) (Q := Any) (n := 50) (fun d hd => done_reads (h.done d hd).1 (h.done d hd).2.1 (rep_reads (hok.d d hd).1 (by have := (hok.d d hd).2.1; omega) (h.done d hd).2.2.1 (hok.d d hd).2.2.1 (by have := (hok.d d hd).2.2.2.1; omega) (h.done d hd).2.2.2 (hok.d d hd).2.2.2.2)) hs.d (by omega)).bind (f := fun d => bindS (listS cellS) fun o => bindS bigS fun l => bindS (listS markS) fun q => pureS (⟨r.kind, r.inc, (t : Int), r.vars, d, o, l, q⟩ : RegD)) R5 (fun d hd => o_bad r.kind r.inc t r.vars d hs.v hd)
      have R3 := (ints_reads (n := 50) h.vars hs.v (by omega)).bind (f := fun v => bindS (listS doneS) fun d => bindS (listS cellS) fun o => bindS bigS fun l => bindS (listS markS) fun q => pureS (⟨r.kind, r.inc, (t : Int), v, d, o, l, q⟩ : RegD)) R4 (fun v hv => d_bad r.kind r.inc t v hv)
      have R2 := (num_reads (most := 1000) (x := t) (by omega) (by omega)).bind (f := fun (t : Nat) => bindS (listS intS) fun v => bindS (listS doneS) fun d => bindS (listS cellS) fun o => bindS bigS fun l => bindS (listS markS) fun q => pureS (⟨r.kind, r.inc, (t : Int), v, d, o, l, q⟩ : RegD)) R3 (fun (t : Nat) _ => v_bad r.kind r.inc t)
      have R1 := (num_reads (most := 18446744073709551615) hinc (by omega)).bind (f := fun (i : Nat) => bindS smlS fun (t : Nat) => bindS (listS intS) fun v => bindS (listS doneS) fun d => bindS (listS cellS) fun o => bindS bigS fun l => bindS (listS markS) fun q => pureS (⟨r.kind, i, (t : Int), v, d, o, l, q⟩ : RegD)) R2 (fun (i : Nat) _ => num_bad.bind fun (t : Nat) _ => v_bad r.kind i t)
      have hr : (⟨r.kind, r.inc, (t : Int), r.vars, r.done, r.out, r.last, r.marks⟩ : RegD) = r := by rw [← ht]
      rw [hr] at R1
      rw [ht, Int.toNat_natCast]
      exact R1
    have h1 := num_reads (most := 255) (x := r.kind) (by omega) (by omega)
    have := h1.bind (f := fun k => if k = 0 then pureS ⟨k, 0, 0, [], [], [], 0, []⟩ else bodyS k) (y := r) (Q' := Short) (by
      rw [if_neg hk]
      exact hb) fun k _ => by
        split
        · exact Bad.pure ⟨Nat.zero_le _, Nat.zero_le _, Nat.zero_le _, Nat.zero_le _⟩
        · exact body_bad k
    unfold regB headB
    rw [if_neg hk]
    simp only [List.append_assoc] at this ⊢
    exact this
/-- what is put is got -/
theorem get_put {r : RegD} (h : RegIn r) (hm : mayS r = true) (hs : Short r) (cs : List UInt8) : getS (regB r ++ cs, 0) = (r, cs, 0) := by
  unfold getS bindS
  rw [(raw_reads h hm hs).ok cs]
  simp [checkS, hm, wellS]
/-- what is cut off is short -/
theorem get_cut {r : RegD} (h : RegIn r) (hm : mayS r = true) (hs : Short r) {k : Nat} (hk : k < (regB r).length) : (getS ((regB r).take k, 0)).1 = zeroReg ∧ (getS ((regB r).take k, 0)).2.2 = 2 ∧ Short (rawS ((regB r).take k, 0)).1 := by
  have hc := (raw_reads h hm hs).cut k hk
  have he := eta2 _ hc.1
  refine ⟨?_, ?_, hc.2⟩
  all_goals
    unfold getS bindS
    rw [show (rawS ((regB r).take k, 0)).2 = ((rawS ((regB r).take k, 0)).2.1, 2) from by rw [he]]
    cases mayS (rawS ((regB r).take k, 0)).1 <;> simp [checkS, failS, wellS]
end Rt
end Go.Proofs.Ytniopkoaplkpkaa
