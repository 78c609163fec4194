/- Plain law of contracts' bytes: what is put is taken. No condition. -/
import Derived.Test.YtniopkoaplkpkaaTkC
namespace Go.Proofs.Ytniopkoaplkpkaa
open Go.RowKit
set_option linter.unusedVariables false
set_option linter.unusedSimpArgs false
namespace Tk
open Pk (numB numB_len zig zig_lt numS numS_put)
open Rt (St loopS numR smlS smallS bigS bindS pureS wellS num_reads int_reads Any)
open Tb (SetD EmitD RuleD TabD SetR EmitR RuleR RuleA RuleAt ruleCs tabCs TabAt inS)
def tokB (t : Ex.Tok) : List UInt8 := numB t.op ++ numB (zig t.n)
def formB (l : List Ex.Tok) : List UInt8 := numB l.length ++ l.flatMap tokB
def setB (s : SetD) : List UInt8 := numB s.var.toNat ++ formB s.val
def emitB (e : EmitD) : List UInt8 := numB e.target ++ (numB e.action.toNat ++ formB e.arg)
def ruleB (r : RuleD) : List UInt8 := numB r.src.toNat ++ (numB r.action.toNat ++ (numB r.party.toNat ++ (numB r.dst.toNat ++ (formB r.guard ++ ((numB r.sets.length ++ r.sets.flatMap setB) ++ (numB r.emits.length ++ r.emits.flatMap emitB))))))
def tabB (t : TabD) : List UInt8 := numB t.states.toNat ++ (numB t.vars.toNat ++ (numB t.rules.length ++ t.rules.flatMap ruleB))
def ToksOk (l : List Ex.Tok) : Prop := l.length ≤ 24 ∧ ∀ t ∈ l, Ex.okT t
structure RuleIn (r : RuleD) : Prop where
  src : 0 ≤ r.src ∧ r.src < 32
  action : 0 ≤ r.action ∧ r.action < 32
  party : 0 ≤ r.party ∧ r.party < 8
  dst : 0 ≤ r.dst ∧ r.dst < 32
  guard : ToksOk r.guard
  ns : r.sets.length ≤ 8
  sets : ∀ s ∈ r.sets, (0 ≤ s.var ∧ s.var < 8) ∧ ToksOk s.val
  ne : r.emits.length ≤ 4
  emits : ∀ e ∈ r.emits, e.target < 16 ∧ (0 ≤ e.action ∧ e.action < 32) ∧ ToksOk e.arg
structure TabIn (t : TabD) : Prop where
  states : 0 ≤ t.states ∧ t.states ≤ 32
  vars : 0 ≤ t.vars ∧ t.vars ≤ 8
  nr : t.rules.length ≤ 32
  rules : ∀ r ∈ t.rules, RuleIn r
theorem inS_of {n e : Int} (h : inS n e = true) : 0 ≤ n ∧ n < e := by
  unfold inS at h
  simp only [Bool.and_eq_true, decide_eq_true_eq] at h
  omega
theorem ex_len {l : List Ex.Tok} {v : Int} (h : Ex.mayS l v = true) : l.length ≤ 24 := by
  unfold Ex.mayS at h
  simp only [Bool.and_eq_true, Bool.or_eq_true, decide_eq_true_eq, Bool.not_eq_true', decide_eq_false_iff_not] at h
  omega
theorem toks_ok {w : World} {a : Option Addr} {n : Nat} {l : List Ex.Tok} (h : Ex.Toks w a n l) : ∀ t ∈ l, Ex.okT t := h.2.2.1
theorem rows_mem {α : Type} {R : World → List Value → α → Prop} {c : Nat} {w : World} {a : Option Addr} {l : List α} (h : Rows R c w a l) {x : α} (hx : x ∈ l) : ∃ cs, R w cs x := by
  obtain ⟨k, hk, rfl⟩ := List.getElem_of_mem hx
  obtain ⟨b, o, cs, _, _, _, hr⟩ := rows_get h hk
  exact ⟨cs, hr⟩
theorem sets_all {vars : Int} : ∀ {p : Option Int} {l : List SetD}, Tb.setsS vars p l = true → ∀ s ∈ l, inS s.var vars = true ∧ Ex.mayS s.val vars = true
  | p, [], _, s, hs => by cases hs
  | p, x :: r, h, s, hs => by
    unfold Tb.setsS at h
    simp only [Bool.and_eq_true, Bool.not_eq_true'] at h
    rcases List.mem_cons.1 hs with rfl | hs
    · have h1 := h.1
      unfold Tb.badS at h1
      simp only [Bool.or_eq_false_iff, Bool.not_eq_false'] at h1
      exact ⟨h1.1, h1.2.2⟩
    · exact sets_all h.2 s hs
theorem ruleIn {w : World} {states vars : Int} (hst : states ≤ 32) (hv : vars ≤ 8) {r : RuleD} {p : RuleA} (h : RuleAt w r p) (hm : Tb.ruleS states vars r = true) : RuleIn r := by
  unfold Tb.ruleS Tb.headS at hm
  simp only [Bool.and_eq_true, Bool.or_eq_true, Bool.not_eq_true', decide_eq_false_iff_not, List.any_eq_false] at hm
  obtain ⟨⟨h1, h2, h3, h4, h5, h6⟩, h7, h8, h9⟩ := hm
  have g1 := inS_of h1
  have g2 := inS_of h2
  have g3 := inS_of h3
  have g4 := inS_of h4
  refine ⟨⟨g1.1, by omega⟩, g3, g4, ⟨g2.1, by omega⟩, ⟨?_, toks_ok h.guard⟩, by omega, fun s hs => ?_, by omega, fun e he => ?_⟩
  · rcases h7 with h7 | h7
    · omega
    · exact ex_len h7
  · obtain ⟨q1, q2⟩ := sets_all h8 s hs
    have q3 := inS_of q1
    obtain ⟨cs, a, c, _, _, q4⟩ := rows_mem h.sets hs
    exact ⟨⟨q3.1, by omega⟩, ex_len q2, toks_ok q4⟩
  · have q1 := h9 e he
    unfold Tb.badE at q1
    simp only [Bool.not_eq_true, Bool.or_eq_false_iff, decide_eq_false_iff_not, Bool.not_eq_false'] at q1
    obtain ⟨q1, q2, q3⟩ := q1
    obtain ⟨cs, a, c, _, _, _, q4⟩ := rows_mem h.emits he
    exact ⟨by omega, inS_of q2, ex_len q3, toks_ok q4⟩
theorem tabIn {w : World} {t : TabD} {ta : Option Addr} {tc : Nat} (h : TabAt w t ta tc) (hm : Tb.mayS t = true) : TabIn t := by
  unfold Tb.mayS at hm
  simp only [Bool.and_eq_true, Bool.not_eq_true', decide_eq_false_iff_not, List.any_eq_false] at hm
  obtain ⟨h1, h2, h3, h4, h5, h6⟩ := hm
  refine ⟨by omega, by omega, by omega, fun r hr => ?_⟩
  obtain ⟨cs, p, _, hp⟩ := rows_mem h.rules hr
  exact ruleIn (states := t.states) (vars := t.vars) (by omega) (by omega) hp (by simpa using h6 r hr)
/-! what is put is taken -/
def Takes {α : Type} (t : St → α × St) (b : List UInt8) (x : α) : Prop := ∀ cs, t (b ++ cs, 0) = (x, cs, 0)
theorem Takes.bind {α β : Type} {t : St → α × St} {f : α → St → β × St} {b b' : List UInt8} {x : α} {y : β} (h : Takes t b x) (h' : Takes (f x) b' y) : Takes (bindS t f) (b ++ b') y := fun cs => by
  unfold bindS
  rw [List.append_assoc, h]
  exact h' cs
theorem Takes.map {α β : Type} {t : St → α × St} {b : List UInt8} {x : α} {f : α → β} (h : Takes t b x) : Takes (bindS t fun a => pureS (f a)) b (f x) := fun cs => by
  unfold bindS
  rw [h]
  rfl
theorem sml_takes {n : Int} (h0 : 0 ≤ n) (h1 : n ≤ 1000) : Takes smlS (numB n.toNat) n.toNat := fun cs => numS_put (by omega) (by omega) cs
theorem loop_takes {α : Type} {take : St → α × St} {f : α → List UInt8} : ∀ (l : List α) (acc : List α) (cs : List UInt8), (∀ x ∈ l, Takes take (f x) x) → loopS take l.length (l.flatMap f ++ cs, 0) acc = (acc ++ l, cs, 0)
  | [], acc, cs, _ => by simp [loopS]
  | x :: l, acc, cs, h => by
    have hx := h x (List.mem_cons_self ..) (l.flatMap f ++ cs)
    simp only [List.length_cons, loopS, List.flatMap_cons, List.append_assoc]
    rw [if_pos (Rt.well0 _), hx, loop_takes l _ cs (fun y hy => h y (List.mem_cons_of_mem _ hy))]
    simp
theorem many_takes {α : Type} {take : St → α × St} {f : α → List UInt8} {l : List α} {n : Nat} (h : ∀ x ∈ l, Takes take (f x) x) (hl : l.length ≤ n) (hn : n ≤ 1000) : Takes (manyS n take) (numB l.length ++ l.flatMap f) l := fun cs => by
  have h1 : numR n (numB l.length ++ (l.flatMap f ++ cs), 0) = (l.length, l.flatMap f ++ cs, 0) := numS_put (by omega) hl _
  unfold manyS
  rw [List.append_assoc, h1]
  exact loop_takes l [] cs h
theorem tok_takes {t : Ex.Tok} (h : Ex.okT t) : Takes tokS (tokB t) t := by
  obtain ⟨h1, h2⟩ := h
  have g1 : Takes smallS (numB t.op) t.op := fun cs => numS_put (by omega) (by omega) cs
  have g2 : Takes Pk.intS (numB (zig t.n)) t.n := (int_reads h2).ok
  exact g1.bind (f := fun (o : Nat) => bindS Pk.intS fun n => pureS (⟨o, n⟩ : Ex.Tok)) (g2.map (f := fun n => (⟨t.op, n⟩ : Ex.Tok)))
theorem form_takes {l : List Ex.Tok} (h : ToksOk l) : Takes formS (formB l) l := many_takes (fun t ht => tok_takes (h.2 t ht)) h.1 (by omega)
theorem nat_int {n : Int} (h : 0 ≤ n) : ((n.toNat : Nat) : Int) = n := by omega
theorem set_takes {s : SetD} (h : (0 ≤ s.var ∧ s.var < 8) ∧ ToksOk s.val) : Takes setS (setB s) s := by
  have := (sml_takes h.1.1 (by omega)).bind (f := fun (v : Nat) => bindS formS fun l => pureS (⟨(v : Int), l⟩ : SetD)) ((form_takes h.2).map (f := fun l => (⟨((s.var.toNat : Nat) : Int), l⟩ : SetD)))
  rw [nat_int h.1.1] at this
  exact this
theorem emit_takes {e : EmitD} (h : e.target < 16 ∧ (0 ≤ e.action ∧ e.action < 32) ∧ ToksOk e.arg) : Takes emitS (emitB e) e := by
  have g1 : Takes smallS (numB e.target) e.target := fun cs => numS_put (by omega) (by omega) cs
  have := g1.bind (f := fun (t : Nat) => bindS smlS fun (a : Nat) => bindS formS fun l => pureS (⟨t, (a : Int), l⟩ : EmitD)) ((sml_takes h.2.1.1 (by omega)).bind (f := fun (a : Nat) => bindS formS fun l => pureS (⟨e.target, (a : Int), l⟩ : EmitD)) ((form_takes h.2.2).map (f := fun l => (⟨e.target, ((e.action.toNat : Nat) : Int), l⟩ : EmitD))))
  rw [nat_int h.2.1.1] at this
  exact this
theorem rule_takes {r : RuleD} (h : RuleIn r) : Takes ruleTS (ruleB r) r := by
  have R7 := (many_takes (take := emitS) (fun e he => emit_takes (h.emits e he)) h.ne (by omega)).map (f := fun e => (⟨((r.src.toNat : Nat) : Int), ((r.action.toNat : Nat) : Int), ((r.party.toNat : Nat) : Int), ((r.dst.toNat : Nat) : Int), r.guard, r.sets, e⟩ : RuleD))
  have R6 := (many_takes (take := setS) (fun s hs => set_takes (h.sets s hs)) h.ns (by omega)).bind (f := fun s => bindS (manyS 4 emitS) fun e => pureS (⟨((r.src.toNat : Nat) : Int), ((r.action.toNat : Nat) : Int), ((r.party.toNat : Nat) : Int), ((r.dst.toNat : Nat) : Int), r.guard, s, e⟩ : RuleD)) R7
  have R5 := (form_takes h.guard).bind (f := fun g => bindS (manyS 8 setS) fun s => bindS (manyS 4 emitS) fun e => pureS (⟨((r.src.toNat : Nat) : Int), ((r.action.toNat : Nat) : Int), ((r.party.toNat : Nat) : Int), ((r.dst.toNat : Nat) : Int), g, s, e⟩ : RuleD)) R6
  have R4 := (sml_takes h.dst.1 (by have := h.dst.2; omega)).bind (f := fun (t : Nat) => bindS formS fun g => bindS (manyS 8 setS) fun s => bindS (manyS 4 emitS) fun e => pureS (⟨((r.src.toNat : Nat) : Int), ((r.action.toNat : Nat) : Int), ((r.party.toNat : Nat) : Int), (t : Int), g, s, e⟩ : RuleD)) R5
  have R3 := (sml_takes h.party.1 (by have := h.party.2; omega)).bind (f := fun (p : Nat) => bindS smlS fun (t : Nat) => bindS formS fun g => bindS (manyS 8 setS) fun s => bindS (manyS 4 emitS) fun e => pureS (⟨((r.src.toNat : Nat) : Int), ((r.action.toNat : Nat) : Int), (p : Int), (t : Int), g, s, e⟩ : RuleD)) R4
  have R2 := (sml_takes h.action.1 (by have := h.action.2; omega)).bind (f := fun (a : Nat) => bindS smlS fun (p : Nat) => bindS smlS fun (t : Nat) => bindS formS fun g => bindS (manyS 8 setS) fun s => bindS (manyS 4 emitS) fun e => pureS (⟨((r.src.toNat : Nat) : Int), (a : Int), (p : Int), (t : Int), g, s, e⟩ : RuleD)) R3
  have R1 := (sml_takes h.src.1 (by have := h.src.2; omega)).bind (f := fun (f : Nat) => bindS smlS fun (a : Nat) => bindS smlS fun (p : Nat) => bindS smlS fun (t : Nat) => bindS formS fun g => bindS (manyS 8 setS) fun s => bindS (manyS 4 emitS) fun e => pureS (⟨(f : Int), (a : Int), (p : Int), (t : Int), g, s, e⟩ : RuleD)) R2
  rw [nat_int h.src.1, nat_int h.action.1, nat_int h.party.1, nat_int h.dst.1] at R1
  exact R1
theorem tab_takes {t : TabD} (h : TabIn t) : Takes tabTS (tabB t) t := by
  have R3 := (many_takes (take := ruleTS) (fun r hr => rule_takes (h.rules r hr)) h.nr (by omega)).map (f := fun r => (⟨((t.states.toNat : Nat) : Int), ((t.vars.toNat : Nat) : Int), r⟩ : TabD))
  have R2 := (sml_takes h.vars.1 (by have := h.vars.2; omega)).bind (f := fun (v : Nat) => bindS (manyS 32 ruleTS) fun r => pureS (⟨((t.states.toNat : Nat) : Int), (v : Int), r⟩ : TabD)) R3
  have R1 := (sml_takes h.states.1 (by have := h.states.2; omega)).bind (f := fun (s : Nat) => bindS smlS fun (v : Nat) => bindS (manyS 32 ruleTS) fun r => pureS (⟨(s : Int), (v : Int), r⟩ : TabD)) R2
  rw [nat_int h.states.1, nat_int h.vars.1] at R1
  exact R1
theorem tab_put {t : TabD} (h : TabIn t) : tabTS (tabB t, 0) = (t, [], 0) := by
  have := tab_takes h []
  rwa [List.append_nil] at this
/-! lengths -/
theorem form_len {l : List Ex.Tok} (h : ToksOk l) : (formB l).length ≤ 500 := by
  have h1 := Rg.fm_len (f := tokB) (c := 20) (l := l) (fun t ht => by
    have ho := h.2 t ht
    have q1 := numB_len (n := t.op) (by have := ho.1; omega)
    have q2 := numB_len (zig_lt ho.2.1 ho.2.2)
    unfold tokB
    rw [List.length_append]
    omega)
  have h2 := numB_len (n := l.length) (by have := h.1; omega)
  have h3 := h.1
  unfold formB
  rw [List.length_append]
  omega
theorem set_len {s : SetD} (h : (0 ≤ s.var ∧ s.var < 8) ∧ ToksOk s.val) : (setB s).length ≤ 600 := by
  have h1 := form_len h.2
  have h2 := numB_len (n := s.var.toNat) (by omega)
  unfold setB
  rw [List.length_append]
  omega
theorem emit_len {e : EmitD} (h : e.target < 16 ∧ (0 ≤ e.action ∧ e.action < 32) ∧ ToksOk e.arg) : (emitB e).length ≤ 600 := by
  have h1 := form_len h.2.2
  have h2 := numB_len (n := e.target) (by omega)
  have h3 := numB_len (n := e.action.toNat) (by omega)
  unfold emitB
  simp only [List.length_append]
  omega
theorem rule_len {r : RuleD} (h : RuleIn r) : (ruleB r).length ≤ 9000 := by
  have h1 := form_len h.guard
  have q1 := h.src
  have q2 := h.action
  have q3 := h.party
  have q4 := h.dst
  have h2 := numB_len (n := r.src.toNat) (by omega)
  have h3 := numB_len (n := r.action.toNat) (by omega)
  have h4 := numB_len (n := r.party.toNat) (by omega)
  have h5 := numB_len (n := r.dst.toNat) (by omega)
  have n1 := h.ns
  have n2 := h.ne
  have h6 := numB_len (n := r.sets.length) (by omega)
  have h7 := numB_len (n := r.emits.length) (by omega)
  have h8 := Rg.fm_len (f := setB) (c := 600) (l := r.sets) fun s hs => set_len (h.sets s hs)
  have h9 := Rg.fm_len (f := emitB) (c := 600) (l := r.emits) fun e he => emit_len (h.emits e he)
  unfold ruleB
  simp only [List.length_append]
  omega
theorem tab_len {t : TabD} (h : TabIn t) : (tabB t).length ≤ 400000 := by
  have q1 := h.states
  have q2 := h.vars
  have q3 := h.nr
  have h2 := numB_len (n := t.states.toNat) (by omega)
  have h3 := numB_len (n := t.vars.toNat) (by omega)
  have h4 := numB_len (n := t.rules.length) (by omega)
  have h8 := Rg.fm_len (f := ruleB) (c := 9000) (l := t.rules) fun s hs => rule_len (h.rules s hs)
  unfold tabB
  simp only [List.length_append]
  omega
end Tk
end Go.Proofs.Ytniopkoaplkpkaa
