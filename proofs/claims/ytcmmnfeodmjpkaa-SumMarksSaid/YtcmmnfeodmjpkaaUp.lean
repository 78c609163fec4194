/- A region that draws its order: plain operations are taken first, each call stands alone, and what is known of memory grows behind each call. One walk serves every order. Over any program. No condition. -/
import Derived.Test.YtcmmnfeodmjpkaaRegion
import Derived.Deep.RegionHeld3
namespace Go.Proofs.Ytcmmnfeodmjpkaa
open Go.RowKit
set_option linter.unusedVariables false

/-- a later world: all that was there is as it was -/
def Up (w w' : World) : Prop := Below w.heap.size w w'
theorem Up.refl (w : World) : Up w w := Below.refl _ _
theorem Up.trans {a b c : World} (h : Up a b) (k : Up b c) : Up a c := bthen h k

section
variable {P : Program} {ops : Array Oper} {Q : Exit → Act → World → Prop} {md : Region.Mode}

/-- an operation that enters no function -/
def plainB (o : Oper) : Bool :=
  match o.op with
  | .move _ | .assign _ | .pick .. | .binOp .. | .unOp .. | .convert .. | .fieldAddr .. | .field .. | .indexAddr .. | .index .. | .extract .. | .slice .. | .build .. | .load .. | .makeInterface .. => true
  | .call c => match c.callee with
    | .builtin .len | .builtin .cap => true
    | _ => false
  | _ => false

theorem noEnter_t {r : Result Value} {w' : World} {f : FuncId} {args : Array Value} : (r.andThen fun a w' => Result.ok (Next.value a) w') ≠ .ok (.enter f args) w' := by cases r <;> simp
theorem noSkip_t {r : Result Value} {w' : World} : (r.andThen fun a w' => Result.ok (Next.value a) w') ≠ .ok .skip w' := by cases r <;> simp
theorem noEnter_v {s : Sem Value} {w w' : World} {f : FuncId} {args : Array Value} : (do pure (Next.value (← s)) : Sem Next).run P w ≠ .ok (.enter f args) w' := by
  rw [Sem.run_bind]
  cases s.run P w <;> simp

theorem plain_noEnter {o : Oper} (h : plainB o = true) (ρ : Operand → Value) (w w' : World) (f : FuncId) (args : Array Value) : (execOp ρ o).run P w ≠ .ok (.enter f args) w' := by
  unfold plainB at h
  unfold execOp
  split at h
  case h_16 c hop =>
    rw [hop]
    simp only at h ⊢
    split at h
    case h_3 => simp at h
    all_goals
      rename_i hb
      simp only [resolve, hb, Sem.run_bind, Sem.run_pure, Result.andThen_ok, invoke, builtin]
      exact noEnter_t
  case h_17 => simp at h
  all_goals (rename_i hop; rw [hop]; first | exact noEnter_v | (simp only [Sem.run_pure]; simp; done) | (simp only [Sem.run_bind, Sem.run_pure]; rename_i c _ _; cases (asBool (ρ c)).run P w <;> simp))

theorem YieldsIf.less {S S' : World → Prop} {o : Oper} {v : Value} {a : Act} (hS : ∀ w, S' w → S w) (h : YieldsIf P ops S o v a) : YieldsIf P ops S' o v a :=
  h.imp (fun ⟨hw, hv⟩ => ⟨hw, fun w hw' => hv w (hS w hw')⟩) id

/-- whatever order is picked from here on, from any later world -/
def wpG (P : Program) (md : Region.Mode) (ops : Array Oper) (Q : Exit → Act → World → Prop) : Nat → Array Bool → Act → World → Prop
  | 0, listed, a, w0 => Region.ready md ops listed = [] ∧ ∀ w, Up w0 w → Q .normal a w
  | fuel + 1, listed, a, w0 => ∀ w, Up w0 w → (Region.ready md ops listed = [] → Q .normal a w) ∧
    ∀ i ∈ Region.ready md ops listed, wpOp P ops Q i (fun a' w' => Up w w' ∧ wpG P md ops Q fuel (listed.setIfInBounds i true) a' w') a w

theorem wpG_mono : ∀ {fuel : Nat} {listed : Array Bool} {a : Act} {w0 w1 : World}, Up w0 w1 → wpG P md ops Q fuel listed a w0 → wpG P md ops Q fuel listed a w1
  | 0, _, _, _, _, hu, h => ⟨h.1, fun w hw => h.2 w (hu.trans hw)⟩
  | _ + 1, _, _, _, _, hu, h => fun w hw => h w (hu.trans hw)

theorem wpAny_of_G : ∀ (fuel : Nat) (listed : Array Bool) (a : Act) (w : World), wpG P md ops Q fuel listed a w → wpAny P md ops Q fuel listed a w
  | 0, _, _, w, h => ⟨h.1, h.2 w (Up.refl w)⟩
  | fuel + 1, _, _, w, h => ⟨(h w (Up.refl w)).1, fun i hi => wpOp_mono (fun a' w' h' => wpAny_of_G fuel _ a' w' h'.2) ((h w (Up.refl w)).2 i hi)⟩

theorem wpG_first {i : Nat} {oi : Oper} {v : Value} (hi : ops[i]? = some oi) (hsel : ∀ (j : Nat) (o : Oper) cs b, ops[j]? = some o → o.op ≠ .select cs b)
    (hQ : ∀ c a w, Q (.panic c) (a.put oi.dst v) w → Q (.panic c) a w) :
    ∀ (fuel : Nat) (listed : Array Bool) (a : Act) (w0 : World),
      (∀ j oj, ops[j]? = some oj → j ≠ i → listed.getD j true = false → (∀ e ∈ oj.after, Region.binds md e = true → e.on ≠ i) → oi.apart ops oj = true) →
      i ∈ Region.ready md ops listed → YieldsIf P ops (Up w0) oi v a →
      wpG P md ops Q fuel (listed.setIfInBounds i true) (a.put oi.dst v) w0 → wpG P md ops Q (fuel + 1) listed a w0 := by
  intro fuel
  induction fuel with
  | zero =>
    intro listed a w0 _ hr hy H w hw
    refine ⟨fun h => (by rw [h] at hr; cases hr), fun j hj => ?_⟩
    by_cases hji : j = i
    · subst hji; exact hy.wpOp hi hw ⟨Up.refl w, wpG_mono hw H⟩
    · have := ready_mono hj hji
      rw [H.1] at this
      cases this
  | succ fuel ih =>
    intro listed a w0 hfree hr hy H w hw
    refine ⟨fun h => (by rw [h] at hr; cases hr), fun j hj => ?_⟩
    by_cases hji : j = i
    · subst hji; exact hy.wpOp hi hw ⟨Up.refl w, wpG_mono hw H⟩
    · have h1 := (H w hw).2 j (ready_mono hj hji)
      obtain ⟨hjun, oj, hoj, hall⟩ := mem_ready.1 hj
      have hnot : ∀ e ∈ oj.after, Region.binds md e = true → e.on ≠ i := fun e he hb heq => by
        have h1 := hall e he hb
        have h0 := (mem_ready.1 hr).1
        rw [heq] at h1
        rcases Nat.lt_or_ge i listed.size with h' | h'
        · simp [h'] at h0 h1; rw [h0] at h1; cases h1
        · simp [Array.getElem?_eq_none h'] at h1
      have h2 := wpOp_putIf hoj (hfree j oj hoj hji hjun hnot) (fun cs b => hsel i oi cs b hi) (fun cs b => hsel j oj cs b hoj) hQ hy h1
      have hfree' : ∀ k ok, ops[k]? = some ok → k ≠ i → (listed.setIfInBounds j true).getD k true = false →
          (∀ e ∈ ok.after, Region.binds md e = true → e.on ≠ i) → oi.apart ops ok = true := fun k ok hk hki hun hno => by
        refine hfree k ok hk hki ?_ hno
        by_cases hjk : j = k
        · subst hjk; exact hjun
        · rw [getD_set_ne true hjk] at hun; exact hun
      refine wpOp_mono (fun a' w' h3 => ⟨h3.2.1, ih (listed.setIfInBounds j true) a' w' hfree' (ready_mono hr (Ne.symm hji)) (YieldsIf.less (h := h3.1) fun x hx => (hw.trans h3.2.1).trans hx) ?_⟩) h2
      rw [Array.setIfInBounds_comm _ _ hji]
      exact h3.2.2

theorem wpG_alone {k : Nat} {fuel : Nat} {listed : Array Bool} {a : Act} {w0 : World} (hr : Region.ready md ops listed = [k])
    (h : ∀ w, Up w0 w → wpOp P ops Q k (fun a' w' => Up w w' ∧ wpG P md ops Q fuel (listed.setIfInBounds k true) a' w') a w) : wpG P md ops Q (fuel + 1) listed a w0 :=
  fun w hw => ⟨fun h0 => (by rw [hr] at h0; cases h0), fun i hi => by
    rw [hr] at hi
    obtain rfl := List.mem_singleton.1 hi
    exact h w hw⟩

/-- the order in which the operations are taken: false: a plain one; true: a call that stands alone -/
def upFrom (md : Region.Mode) (ops : Array Oper) : List (Nat × Bool) → Array Bool → Bool
  | [], listed => (Region.ready md ops listed).isEmpty
  | (i, false) :: r, listed => (Region.ready md ops listed).contains i && Region.free md ops listed i && upFrom md ops r (listed.setIfInBounds i true)
  | (i, true) :: r, listed => (Region.ready md ops listed == [i]) && upFrom md ops r (listed.setIfInBounds i true)

def upB (ops : Array Oper) (ord : List (Nat × Bool)) : Bool := Region.noSelect ops && (ord.length == ops.size) && upFrom .any ops ord (Array.replicate ops.size false)

def wpUp (P : Program) (ops : Array Oper) (Q : Exit → Act → World → Prop) : List (Nat × Bool) → Act → World → Prop
  | [], a, w0 => ∀ w, Up w0 w → Q .normal a w
  | (i, b) :: r, a, w0 =>
    match ops[i]? with
    | none => False
    | some o =>
      if Region.wanted o (yielded ops a.tmps) then
        match b with
        | true => ∀ w, Up w0 w → o.wp P a w (fun a' w' => Up w w' ∧ wpUp P ops Q r a' w') Q
        | false => ∃ v, (∀ w, Up w0 w → (execOp a.eval o).run P w = .ok (.value v) w) ∧ wpUp P ops Q r (a.put o.dst v) w0
      else wpUp P ops Q r (a.put o.dst undef) w0

theorem wpUp_mono : ∀ {l : List (Nat × Bool)} {a : Act} {w0 w1 : World}, Up w0 w1 → wpUp P ops Q l a w0 → wpUp P ops Q l a w1
  | [], _, _, _, hu, h => fun w hw => h w (hu.trans hw)
  | (i, b) :: r, a, w0, w1, hu, h => by
    unfold wpUp at h ⊢
    split
    · rename_i ho; simp only [ho] at h
    · rename_i o ho
      simp only [ho] at h
      split
      · rename_i hw
        simp only [hw, if_true] at h
        cases b with
        | true => exact fun w hw => h w (hu.trans hw)
        | false =>
          obtain ⟨v, h1, h2⟩ := h
          exact ⟨v, fun w hw => h1 w (hu.trans hw), wpUp_mono hu h2⟩
      · rename_i hw
        simp only [hw] at h
        exact wpUp_mono hu h

theorem wpG_of_up (hs : Region.noSelect ops = true) (hQ : ∀ c a w, ¬ Q (.panic c) a w) : ∀ (l : List (Nat × Bool)) (listed : Array Bool) (a : Act) (w0 : World),
    upFrom md ops l listed = true → wpUp P ops Q l a w0 → wpG P md ops Q l.length listed a w0
  | [], listed, a, w0, hB, h => ⟨by simpa [upFrom] using hB, h⟩
  | (i, true) :: r, listed, a, w0, hB, h => by
    simp only [upFrom, Bool.and_eq_true, beq_iff_eq] at hB
    refine wpG_alone hB.1 fun w hw => ?_
    have h := wpUp_mono hw h
    unfold wpUp at h
    unfold wpOp
    split at h
    · exact h.elim
    · rename_i o ho
      simp only [ho]
      split
      · rename_i hwt
        simp only [hwt, if_true] at h
        exact .inl (Oper.wp_mono (fun a' w' ⟨h1, h2⟩ => ⟨h1, wpG_of_up hs hQ r _ a' w' hB.2 h2⟩) (h w (Up.refl w)))
      · rename_i hwt
        simp only [hwt] at h
        exact ⟨Up.refl w, wpG_of_up hs hQ r _ _ w hB.2 h⟩
  | (i, false) :: r, listed, a, w0, hB, h => by
    simp only [upFrom, Bool.and_eq_true] at hB
    obtain ⟨⟨hr, hf⟩, hB'⟩ := hB
    unfold wpUp at h
    split at h
    · exact h.elim
    · rename_i o ho
      split at h
      · rename_i hwt
        obtain ⟨v, h1, h2⟩ := h
        exact wpG_first ho (Region.noSelect_spec hs) (fun c a w h => (hQ c _ w h).elim) r.length listed a w0 (Region.free_spec ho hf) (by simpa using hr) (.inl ⟨hwt, h1⟩) (wpG_of_up hs hQ r _ _ w0 hB' h2)
      · rename_i hwt
        exact wpG_first ho (Region.noSelect_spec hs) (fun c a w h => (hQ c _ w h).elim) r.length listed a w0 (Region.free_spec ho hf) (by simpa using hr) (.inr ⟨by simpa using hwt, rfl⟩) (wpG_of_up hs hQ r _ _ w0 hB' h)

/-- the beginning -/
theorem wp_region_up {id : Nat} {a : Act} {w : World} (ord : List (Nat × Bool)) (hm : P.follows .mixedOrders = true) (hB : upB ops ord = true)
    (h : wpUp P ops (NoPanic Q) ord a w.drew) : (Code.region id ops true).wp P Q a w := by
  simp only [upB, Bool.and_eq_true, beq_iff_eq] at hB
  refine wp_region_noPanic (wp_region_any hm (wpAny_of_G _ _ _ _ ?_))
  rw [← hB.1.2]
  exact wpG_of_up hB.1.1 (fun c a w h => h) ord _ a _ (by rw [hB.1.2]; exact hB.2) h

theorem wpUp_nil {a : Act} {w0 : World} (h : ∀ n : ExtW w0.heap.size w0, Q .normal a n.W) : wpUp P ops Q [] a w0 := fun w hw => h ⟨w, hw⟩

theorem wpUp_skip {i : Nat} {b : Bool} {r : List (Nat × Bool)} {a : Act} {w0 : World} {o : Oper} (hi : ops[i]? = some o) (hw : Region.wanted o (yielded ops a.tmps) = false)
    (h : wpUp P ops Q r (a.put o.dst undef) w0) : wpUp P ops Q ((i, b) :: r) a w0 := by
  unfold wpUp
  simp only [hi, hw]
  exact h

theorem wpUp_pure {i : Nat} {r : List (Nat × Bool)} {a : Act} {w0 : World} {o : Oper} (hi : ops[i]? = some o) (hw : Region.wanted o (yielded ops a.tmps) = true) (hp : plainB o = true)
    (h : ∀ K : Act → Prop, (∀ a', wpUp P ops Q r a' w0 → K a') → o.quiet P a (fun w' => ∃ n : ExtW w0.heap.size w0, w' = n.W) K) : wpUp P ops Q ((i, false) :: r) a w0 := by
  obtain ⟨v, h1, h2⟩ := h (fun a' => wpUp P ops Q r a' w0) (fun _ h => h)
  by_cases hsk : ∃ w, Up w0 w ∧ (execOp a.eval o).run P w = .ok .skip w
  · exfalso
    obtain ⟨w, hw, hs⟩ := hsk
    unfold plainB at hp
    unfold execOp at hs
    have nv : ∀ s : Sem Value, (do pure (Next.value (← s)) : Sem Next).run P w ≠ .ok .skip w := by
      intro s; rw [Sem.run_bind]; cases s.run P w <;> simp
    split at hp
    case h_16 c hop =>
      rw [hop] at hs
      simp only at hp hs
      split at hp
      case h_3 => simp at hp
      all_goals
        rename_i hb
        simp only [resolve, hb, Sem.run_bind, Sem.run_pure, Result.andThen_ok, invoke, builtin] at hs
        exact noSkip_t hs
    case h_17 => simp at hp
    all_goals (rename_i hop; rw [hop] at hs; first | exact nv _ hs | (simp only [Sem.run_pure] at hs; simp at hs; done) | (simp only [Sem.run_bind, Sem.run_pure] at hs; rename_i c _ _; revert hs; cases (asBool (a.eval c)).run P w <;> simp))
  · unfold wpUp
    simp only [hi, hw, if_true]
    refine ⟨v, fun w hw' => ?_, h2⟩
    have h3 := h1 w ⟨⟨w, hw'⟩, rfl⟩
    have h4 := plain_noEnter (P := P) hp a.eval w
    unfold Oper.quietAt at h3
    generalize hr : (execOp a.eval o).run P w = res at *
    cases res with
    | ok n w' =>
      cases n <;> simp only [Oper.quietUpon] at h3
      case value u => obtain ⟨e1, e2⟩ := h3; rw [e1, e2]
      case skip => obtain ⟨e1, e2⟩ := h3; subst e1; exact (hsk ⟨_, hw', hr⟩).elim
      case enter f args => exact (h4 _ _ _ rfl).elim
    | halt x w' => simp only [Oper.quietUpon] at h3

theorem wpUp_hole {i : Nat} {r : List (Nat × Bool)} {a : Act} {w0 : World} {o : Oper} (hi : ops[i]? = some o) (hw : Region.wanted o (yielded ops a.tmps) = true)
    (h : ∀ (n : ExtW w0.heap.size w0) (K : Act → World → Prop), (∀ a' w', Up n.W w' → wpUp P ops Q r a' w' → K a' w') → o.wp P a n.W K Q) : wpUp P ops Q ((i, true) :: r) a w0 := by
  unfold wpUp
  simp only [hi, hw, if_true]
  exact fun w hw' => h ⟨w, hw'⟩ _ fun a' w' h1 h2 => ⟨h1, h2⟩
end
end Go.Proofs.Ytcmmnfeodmjpkaa
