/- A region that draws its order, with a tail: operations that come last, each alone, once all that was taken early has been done; they may write what was read. Over any program. No condition. -/
import Derived.Test.YtohhjbfkgokopaaDoorUp
namespace Go.Proofs.YtohhjbfkgokopaaDoor
open Go.RowKit
set_option linter.unusedVariables false

section
variable {P : Program} {ops : Array Oper} {Q : Exit → Act → World → Prop} {md : Region.Mode} {T : List Nat} {S : World → Prop}

/-- in whatever order: behind each operation that is not of the tail, S holds -/
def wpAnyT (P : Program) (md : Region.Mode) (ops : Array Oper) (Q : Exit → Act → World → Prop) (T : List Nat) (S : World → Prop) : Nat → Array Bool → Act → World → Prop
  | 0, listed, a, w => Region.ready md ops listed = [] ∧ Q .normal a w
  | n + 1, listed, a, w => (Region.ready md ops listed = [] → Q .normal a w) ∧
    ∀ i ∈ Region.ready md ops listed, wpOp P ops Q i (fun a' w' => (i ∉ T → S w') ∧ wpAnyT P md ops Q T S n (listed.setIfInBounds i true) a' w') a w

theorem wpAny_of_T : ∀ (n : Nat) (listed : Array Bool) (a : Act) (w : World), wpAnyT P md ops Q T S n listed a w → wpAny P md ops Q n listed a w
  | 0, _, _, _, h => h
  | n + 1, _, _, _, h => ⟨h.1, fun i hi => wpOp_mono (fun a' w' h' => wpAny_of_T n _ a' w' h'.2) (h.2 i hi)⟩

theorem wpAnyT_more {S' : World → Prop} (hS : ∀ w, S' w → S w) : ∀ (n : Nat) (listed : Array Bool) (a : Act) (w : World), wpAnyT P md ops Q T S' n listed a w → wpAnyT P md ops Q T S n listed a w
  | 0, _, _, _, h => h
  | n + 1, _, _, _, h => ⟨h.1, fun i hi => wpOp_mono (fun a' w' h' => ⟨fun hT => hS _ (h'.1 hT), wpAnyT_more hS n _ a' w' h'.2⟩) (h.2 i hi)⟩

/-- every operation of the tail waits for number i -/
def waitB (md : Region.Mode) (ops : Array Oper) (T : List Nat) (i : Nat) : Bool :=
  !T.contains i && T.all fun j => match ops[j]? with
    | none => true
    | some o => o.after.any fun e => Region.binds md e && e.on == i

theorem waitB_spec {i : Nat} (h : waitB md ops T i = true) : i ∉ T ∧ ∀ j ∈ T, ∀ oj, ops[j]? = some oj → ∃ e ∈ oj.after, Region.binds md e = true ∧ e.on = i := by
  simp only [waitB, Bool.and_eq_true, Bool.not_eq_true', List.contains_eq_mem, decide_eq_false_iff_not, List.all_eq_true] at h
  refine ⟨h.1, fun j hj oj ho => ?_⟩
  have := h.2 j hj
  rw [ho] at this
  simp only [Array.any_eq_true, Bool.and_eq_true, beq_iff_eq] at this
  obtain ⟨k, hk, h1, h2⟩ := this
  exact ⟨_, Array.getElem_mem hk, h1, h2⟩

theorem wpAnyT_take {i : Nat} {oi : Oper} {v : Value} (hi : ops[i]? = some oi) (hs : Region.noSelect ops = true) (hw : waitB md ops T i = true) (hQ : ∀ c a w, ¬ Q (.panic c) a w) :
    ∀ (n : Nat) (listed : Array Bool) (a : Act) (w : World),
      (∀ j oj, ops[j]? = some oj → j ≠ i → listed.getD j true = false → (∀ e ∈ oj.after, Region.binds md e = true → e.on ≠ i) → oi.apart ops oj = true) →
      i ∈ Region.ready md ops listed → YieldsIf P ops S oi v a → S w → wpAnyT P md ops Q T S n (listed.setIfInBounds i true) (a.put oi.dst v) w → wpAnyT P md ops Q T S (n + 1) listed a w := by
  have hsel := Region.noSelect_spec hs
  obtain ⟨hiT, hwait⟩ := waitB_spec hw
  have hQ' : ∀ c a w, Q (.panic c) (a.put oi.dst v) w → Q (.panic c) a w := fun c a w h => (hQ c _ w h).elim
  intro n
  induction n with
  | zero =>
    intro listed a w hf hr hy hS H
    refine ⟨fun h0 => absurd hr (by rw [h0]; simp), fun j hj => ?_⟩
    by_cases hji : j = i
    · subst hji
      exact hy.wpOp hi hS ⟨fun _ => hS, H⟩
    · exact absurd (ready_mono hj hji) (by rw [H.1]; simp)
  | succ n ih =>
    intro listed a w hf hr hy hS H
    refine ⟨fun h0 => absurd hr (by rw [h0]; simp), fun j hj => ?_⟩
    by_cases hji : j = i
    · subst hji
      exact hy.wpOp hi hS ⟨fun _ => hS, H⟩
    · obtain ⟨hjun, oj, hoj, hall⟩ := mem_ready.1 hj
      have hnot : ∀ e ∈ oj.after, Region.binds md e = true → e.on ≠ i := by
        intro e he hb heq
        have h1 := hall e he hb
        have h0 := (mem_ready.1 hr).1
        rw [heq] at h1
        by_cases hlt : i < listed.size
        · simp [hlt] at h0 h1
          rw [h0] at h1
          cases h1
        · simp [Array.getElem?_eq_none (Nat.le_of_not_lt hlt)] at h1
      have hjT : j ∉ T := fun hT => by
        obtain ⟨e, he, hb, ho⟩ := hwait j hT oj hoj
        exact hnot e he hb ho
      have step := wpOp_putIf hoj (hf j oj hoj hji hjun hnot) (fun cs b => hsel i oi cs b hi) (fun cs b => hsel j oj cs b hoj) hQ' hy (H.2 j (ready_mono hj hji))
      refine wpOp_mono (fun a' w' h3 => ⟨h3.2.1, ih (listed.setIfInBounds j true) a' w' (fun k ok hk hki hun hno => hf k ok hk hki ?_ hno) (ready_mono hr (Ne.symm hji)) h3.1 (h3.2.1 hjT) ?_⟩) step
      · by_cases hjk : j = k
        · subst hjk; exact hjun
        · rwa [getD_set_ne true hjk] at hun
      · rw [Array.setIfInBounds_comm _ _ hji]
        exact h3.2.2

/-- the tail, one by one -/
def tailB (md : Region.Mode) (ops : Array Oper) (T : List Nat) : List Nat → Array Bool → Bool
  | [], listed => (Region.ready md ops listed).isEmpty
  | i :: r, listed => T.contains i && (Region.ready md ops listed == [i]) && tailB md ops T r (listed.setIfInBounds i true)
def wpTail (P : Program) (ops : Array Oper) (Q : Exit → Act → World → Prop) : List Nat → Act → World → Prop
  | [], a, w => Q .normal a w
  | i :: r, a, w =>
    match ops[i]? with
    | none => False
    | some o => if Region.wanted o (yielded ops a.tmps) then o.wp P a w (fun a' w' => wpTail P ops Q r a' w') Q else wpTail P ops Q r (a.put o.dst undef) w

theorem wpAnyT_of_tail : ∀ (t : List Nat) (listed : Array Bool) (a : Act) (w : World), tailB md ops T t listed = true → wpTail P ops Q t a w → wpAnyT P md ops Q T S t.length listed a w
  | [], listed, a, w, hB, h => ⟨by simpa [tailB] using hB, h⟩
  | i :: r, listed, a, w, hB, h => by
    simp only [tailB, Bool.and_eq_true, beq_iff_eq, List.contains_eq_mem, decide_eq_true_eq] at hB
    refine ⟨fun h0 => (by rw [hB.1.2] at h0; cases h0), fun j hj => ?_⟩
    rw [hB.1.2] at hj
    obtain rfl := List.mem_singleton.1 hj
    unfold wpTail at h
    unfold wpOp
    split at h
    · exact h.elim
    · rename_i o ho
      simp only [ho]
      split
      · rename_i hwt
        simp only [hwt, if_true] at h
        exact .inl (Oper.wp_mono (fun a' w' h' => ⟨fun hn => (hn hB.1.1).elim, wpAnyT_of_tail r _ a' w' hB.2 h'⟩) h)
      · rename_i hwt
        simp only [hwt] at h
        exact ⟨fun hn => (hn hB.1.1).elim, wpAnyT_of_tail r _ _ w hB.2 h⟩

/-- the walk's post ahead of the tail -/
def AtTail (P : Program) (ops : Array Oper) (Q : Exit → Act → World → Prop) (t : List Nat) : Exit → Act → World → Prop
  | .normal, a, w => wpTail P ops Q t a w
  | e, a, w => Q e a w

def upFromT (md : Region.Mode) (ops : Array Oper) (t : List Nat) : List (Nat × Bool) → Array Bool → Bool
  | [], listed => tailB md ops t t listed
  | (i, false) :: r, listed => (Region.ready md ops listed).contains i && Region.free md ops listed i && waitB md ops t i && upFromT md ops t r (listed.setIfInBounds i true)
  | (i, true) :: r, listed => (Region.ready md ops listed == [i]) && upFromT md ops t r (listed.setIfInBounds i true)

theorem wp_exits {Q' : Exit → Act → World → Prop} {o : Oper} {a : Act} {w : World} {K : Act → World → Prop} (h : ∀ c a w, Q' (.panic c) a w → Q (.panic c) a w) (h2 : ∀ a w, Q' .outgrown a w → Q .outgrown a w) (hh : o.wp P a w K Q') : o.wp P a w K Q := by
  unfold Oper.wp at *
  generalize (execOp a.eval o).run P w = r at *
  cases r with
  | ok n w' =>
    cases n <;> simp only [Oper.upon] at hh ⊢ <;> first
      | exact hh
      | exact Calls.mono hh (fun e w he => by cases e <;> first | exact he | exact h _ _ _ he | exact (let ⟨a, w, q⟩ := he; ⟨a, w, h2 a w q⟩))
      | exact Rows.mono hh (fun u w he => he)
  | halt x w' => cases x <;> simp only [Oper.upon] at hh ⊢ <;> first | exact hh | exact h _ _ _ hh

theorem wpAnyT_of_up {t : List Nat} (hs : Region.noSelect ops = true) (hQ : ∀ c a w, ¬ Q (.panic c) a w) : ∀ (l : List (Nat × Bool)) (B : Nat) (w0 : World) (listed : Array Bool) (a : Act) (w : World),
    upFromT md ops t l listed = true → Below B w0 w → wpUp P ops (AtTail P ops Q t) l B w0 a w → wpAnyT P md ops Q t (InUp B w0) (l.length + t.length) listed a w
  | [], B, w0, listed, a, w, hB, _, h => by
    rw [List.length_nil, Nat.zero_add]
    exact wpAnyT_of_tail t listed a w hB h
  | (i, true) :: r, B, w0, listed, a, w, hB, hb, h => by
    simp only [upFromT, Bool.and_eq_true, beq_iff_eq] at hB
    rw [List.length_cons, Nat.add_right_comm]
    refine ⟨fun h0 => (by rw [hB.1] at h0; cases h0), fun j hj => ?_⟩
    rw [hB.1] at hj
    obtain rfl := List.mem_singleton.1 hj
    unfold wpUp at h
    unfold wpOp
    split at h
    · exact h.elim
    · rename_i o ho
      simp only [ho]
      split
      · rename_i hwt
        simp only [hwt, if_true] at h
        refine .inl (wp_exits (Q' := AtTail P ops Q t) (fun c a w h => h) (fun a w h => h) (Oper.wp_mono ?_ h))
        intro a' w' ⟨B', h0, h1, h2⟩
        exact ⟨fun _ => inUp h1, wpAnyT_more (fun x ⟨n, hn⟩ => by rw [hn]; exact inUp (h1.trans (n.h.mono h0))) _ _ _ _ (wpAnyT_of_up hs hQ r B' w' _ a' w' hB.2 (Below.refl _ _) h2)⟩
      · rename_i hwt
        simp only [hwt] at h
        exact ⟨fun _ => inUp hb, wpAnyT_of_up hs hQ r B w0 _ _ w hB.2 hb h⟩
  | (i, false) :: r, B, w0, listed, a, w, hB, hb, h => by
    simp only [upFromT, Bool.and_eq_true] at hB
    obtain ⟨⟨⟨hr, hf⟩, hwt'⟩, hB'⟩ := hB
    rw [List.length_cons, Nat.add_right_comm]
    unfold wpUp at h
    split at h
    · exact h.elim
    · rename_i o ho
      split at h
      · rename_i hwt
        obtain ⟨v, h1, h2⟩ := h
        exact wpAnyT_take ho hs hwt' hQ _ _ _ _ (Region.free_spec ho hf) (by simpa using hr) (.inl ⟨hwt, h1⟩) (inUp hb) (wpAnyT_of_up hs hQ r B w0 _ _ w hB' hb h2)
      · rename_i hwt
        exact wpAnyT_take ho hs hwt' hQ _ _ _ _ (Region.free_spec ho hf) (by simpa using hr) (.inr ⟨by simpa using hwt, rfl⟩) (inUp hb) (wpAnyT_of_up hs hQ r B w0 _ _ w hB' hb h)
def uptB (ops : Array Oper) (ord : List (Nat × Bool)) (t : List Nat) : Bool := Region.noSelect ops && (ord.length + t.length == ops.size) && upFromT .any ops t ord (Array.replicate ops.size false)

/-- the beginning -/
theorem wp_region_upt {id : Nat} {a : Act} {w : World} (ord : List (Nat × Bool)) (t : List Nat) (B : Nat) (hm : P.follows .mixedOrders = true) (hB : uptB ops ord t = true)
    (h : wpUp P ops (AtTail P ops (NoPanic Q) t) ord B w.drew a w.drew) : (Code.region id ops true).wp P Q a w := by
  simp only [uptB, Bool.and_eq_true, beq_iff_eq] at hB
  refine wp_region_noPanic (wp_region_any hm (wpAny_of_T (T := t) (S := InUp B w.drew) _ _ _ _ ?_))
  rw [← hB.1.2]
  exact wpAnyT_of_up hB.1.1 (fun c a w h => h) ord B _ _ a _ (by rw [hB.1.2]; exact hB.2) (Below.refl _ _) h

/-- from the walk's end into the tail -/
theorem wpUp_tail {B : Nat} {w0 : World} {a : Act} {w : World} {t : List Nat} (h : wpTail P ops Q t a w) : wpUp P ops (AtTail P ops Q t) [] B w0 a w := h
theorem wpTail_nil {a : Act} {w : World} (h : Q .normal a w) : wpTail P ops (NoPanic Q) [] a w := h
theorem wpTail_step {i : Nat} {r : List Nat} {a : Act} {w : World} {o : Oper} (hi : ops[i]? = some o) (hw : Region.wanted o (yielded ops a.tmps) = true)
    (h : ∀ K : Act → World → Prop, (∀ a' w', wpTail P ops Q r a' w' → K a' w') → o.wp P a w K Q) : wpTail P ops Q (i :: r) a w := by
  unfold wpTail
  simp only [hi, hw, if_true]
  exact h _ fun a' w' h => h
end
end Go.Proofs.YtohhjbfkgokopaaDoor
