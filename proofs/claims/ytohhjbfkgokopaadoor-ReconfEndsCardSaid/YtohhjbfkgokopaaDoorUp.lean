/- A region that draws its order: plain operations are taken first, each call stands alone, and what is known of memory grows behind each call. One walk serves every order. Over any program. No condition. -/
import Derived.Test.YtohhjbfkgokopaaDoorRegion
import Derived.Deep.RegionHeld3
namespace Go.Proofs.YtohhjbfkgokopaaDoor
open Go.RowKit
set_option linter.unusedVariables false

section
variable {P : Program} {ops : Array Oper} {Q : Exit → Act → World → Prop} {md : Region.Mode}

/-- an operation that enters no function -/
def plainB (o : Oper) : Bool :=
  match o.op with
  | .move _ | .assign _ | .pick .. | .binOp .. | .unOp .. | .convert .. | .fieldAddr .. | .field .. | .indexAddr .. | .index .. | .extract .. | .slice .. | .build .. | .load .. | .makeInterface .. => true
  | .call c => match c.callee with
    | .builtin .len | .builtin .cap => true
    | _ => false
  | _ => false

theorem noEnter_t {r : Result Value} {w' : World} {f : FuncId} {args : Array Value} : (r.andThen fun a w' => Result.ok (Next.value a) w') ≠ .ok (.enter f args) w' := by cases r <;> simp
theorem noSkip_t {r : Result Value} {w' : World} : (r.andThen fun a w' => Result.ok (Next.value a) w') ≠ .ok .skip w' := by cases r <;> simp
theorem noEnter_v {s : Sem Value} {w w' : World} {f : FuncId} {args : Array Value} : (do pure (Next.value (← s)) : Sem Next).run P w ≠ .ok (.enter f args) w' := by
  rw [Sem.run_bind]
  cases s.run P w <;> simp

theorem plain_noEnter {o : Oper} (h : plainB o = true) (ρ : Operand → Value) (w w' : World) (f : FuncId) (args : Array Value) : (execOp ρ o).run P w ≠ .ok (.enter f args) w' := by
  unfold plainB at h
  unfold execOp
  split at h
  case h_16 c hop =>
    rw [hop]
    simp only at h ⊢
    split at h
    case h_3 => simp at h
    all_goals
      rename_i hb
      simp only [resolve, hb, Sem.run_bind, Sem.run_pure, Result.andThen_ok, invoke, builtin]
      exact noEnter_t
  case h_17 => simp at h
  all_goals (rename_i hop; rw [hop]; first | exact noEnter_v | (simp only [Sem.run_pure]; simp; done) | (simp only [Sem.run_bind, Sem.run_pure]; rename_i c _ _; cases (asBool (ρ c)).run P w <;> simp))

theorem wpAnyH_more {S S' : World → Prop} (hS : ∀ w, S' w → S w) : ∀ (fuel : Nat) (listed : Array Bool) (a : Act) (w : World), wpAnyH P md ops Q S' fuel listed a w → wpAnyH P md ops Q S fuel listed a w
  | 0, _, _, _, h => h
  | fuel + 1, _, _, _, h => ⟨h.1, fun i hi => wpOp_mono (fun a' w' h' => ⟨hS _ h'.1, wpAnyH_more hS fuel _ a' w' h'.2⟩) (h.2 i hi)⟩

/-- the order in which the operations are taken: false: a plain one; true: a call that stands alone -/
def upFrom (md : Region.Mode) (ops : Array Oper) : List (Nat × Bool) → Array Bool → Bool
  | [], listed => (Region.ready md ops listed).isEmpty
  | (i, false) :: r, listed => (Region.ready md ops listed).contains i && Region.free md ops listed i && upFrom md ops r (listed.setIfInBounds i true)
  | (i, true) :: r, listed => (Region.ready md ops listed == [i]) && upFrom md ops r (listed.setIfInBounds i true)

def upB (ops : Array Oper) (ord : List (Nat × Bool)) : Bool := Region.noSelect ops && (ord.length == ops.size) && upFrom .any ops ord (Array.replicate ops.size false)

/-- the worlds in which all below block B is as it was in w0 -/
def InUp (B : Nat) (w0 : World) : World → Prop := fun w' => ∃ n : ExtW B w0, w' = n.W
theorem inUp {B : Nat} {w0 w : World} (h : Below B w0 w) : InUp B w0 w := ⟨⟨w, h⟩, rfl⟩

def wpUp (P : Program) (ops : Array Oper) (Q : Exit → Act → World → Prop) : List (Nat × Bool) → Nat → World → Act → World → Prop
  | [], _, _, a, w => Q .normal a w
  | (i, b) :: r, B, w0, a, w =>
    match ops[i]? with
    | none => False
    | some o =>
      if Region.wanted o (yielded ops a.tmps) then
        match b with
        | true => o.wp P a w (fun a' w' => ∃ B', B ≤ B' ∧ Below B w0 w' ∧ wpUp P ops Q r B' w' a' w') Q
        | false => ∃ v, (∀ w, InUp B w0 w → (execOp a.eval o).run P w = .ok (.value v) w) ∧ wpUp P ops Q r B w0 (a.put o.dst v) w
      else wpUp P ops Q r B w0 (a.put o.dst undef) w

theorem wpAnyH_of_up (hs : Region.noSelect ops = true) (hQ : ∀ c a w, ¬ Q (.panic c) a w) : ∀ (l : List (Nat × Bool)) (B : Nat) (w0 : World) (listed : Array Bool) (a : Act) (w : World),
    upFrom md ops l listed = true → Below B w0 w → wpUp P ops Q l B w0 a w → wpAnyH P md ops Q (InUp B w0) l.length listed a w
  | [], B, w0, listed, a, w, hB, _, h => ⟨by simpa [upFrom] using hB, h⟩
  | (i, true) :: r, B, w0, listed, a, w, hB, hb, h => by
    simp only [upFrom, Bool.and_eq_true, beq_iff_eq] at hB
    refine ⟨fun h0 => (by rw [hB.1] at h0; cases h0), fun j hj => ?_⟩
    rw [hB.1] at hj
    obtain rfl := List.mem_singleton.1 hj
    unfold wpUp at h
    unfold wpOp
    split at h
    · exact h.elim
    · rename_i o ho
      simp only [ho]
      split
      · rename_i hwt
        simp only [hwt, if_true] at h
        exact .inl (Oper.wp_mono (fun a' w' ⟨B', h0, h1, h2⟩ => ⟨inUp h1, wpAnyH_more (fun x ⟨n, hn⟩ => by rw [hn]; exact inUp (h1.trans (n.h.mono h0))) _ _ _ _ (wpAnyH_of_up hs hQ r B' w' _ a' w' hB.2 (Below.refl _ _) h2)⟩) h)
      · rename_i hwt
        simp only [hwt] at h
        exact ⟨inUp hb, wpAnyH_of_up hs hQ r B w0 _ _ w hB.2 hb h⟩
  | (i, false) :: r, B, w0, listed, a, w, hB, hb, h => by
    simp only [upFrom, Bool.and_eq_true] at hB
    obtain ⟨⟨hr, hf⟩, hB'⟩ := hB
    unfold wpUp at h
    split at h
    · exact h.elim
    · rename_i o ho
      split at h
      · rename_i hwt
        obtain ⟨v, h1, h2⟩ := h
        exact wpAnyH_take ho hs hf hr (fun c a w h => (hQ c _ w h).elim) (.inl ⟨hwt, h1⟩) (inUp hb) (wpAnyH_of_up hs hQ r B w0 _ _ w hB' hb h2)
      · rename_i hwt
        exact wpAnyH_take ho hs hf hr (fun c a w h => (hQ c _ w h).elim) (.inr ⟨by simpa using hwt, rfl⟩) (inUp hb) (wpAnyH_of_up hs hQ r B w0 _ _ w hB' hb h)

/-- the beginning -/
theorem wp_region_up {id : Nat} {a : Act} {w : World} (ord : List (Nat × Bool)) (B : Nat) (hm : P.follows .mixedOrders = true) (hB : upB ops ord = true)
    (h : wpUp P ops (NoPanic Q) ord B w.drew a w.drew) : (Code.region id ops true).wp P Q a w := by
  simp only [upB, Bool.and_eq_true, beq_iff_eq] at hB
  refine wp_region_noPanic (wp_region_held (S := InUp B w.drew) hm ?_)
  rw [← hB.1.2]
  exact wpAnyH_of_up hB.1.1 (fun c a w h => h) ord B _ _ a _ (by rw [hB.1.2]; exact hB.2) (Below.refl _ _) h

theorem wpUp_nil {B : Nat} {w0 : World} {a : Act} {w : World} (h : Q .normal a w) : wpUp P ops (NoPanic Q) [] B w0 a w := h

theorem wpUp_skip {i : Nat} {b : Bool} {r : List (Nat × Bool)} {B : Nat} {a : Act} {w0 w : World} {o : Oper} (hi : ops[i]? = some o) (hw : Region.wanted o (yielded ops a.tmps) = false)
    (h : wpUp P ops Q r B w0 (a.put o.dst undef) w) : wpUp P ops Q ((i, b) :: r) B w0 a w := by
  unfold wpUp
  simp only [hi, hw]
  exact h

theorem wpUp_pure {i : Nat} {r : List (Nat × Bool)} {B : Nat} {a : Act} {w0 w : World} {o : Oper} (hi : ops[i]? = some o) (hw : Region.wanted o (yielded ops a.tmps) = true) (hp : plainB o = true)
    (h : ∀ K : Act → Prop, (∀ a', wpUp P ops Q r B w0 a' w → K a') → o.quiet P a (fun w' => ∃ n : ExtW B w0, w' = n.W) K) : wpUp P ops Q ((i, false) :: r) B w0 a w := by
  obtain ⟨v, h1, h2⟩ := h (fun a' => wpUp P ops Q r B w0 a' w) (fun _ h => h)
  by_cases hsk : ∃ w, InUp B w0 w ∧ (execOp a.eval o).run P w = .ok .skip w
  · exfalso
    obtain ⟨w, hw, hs⟩ := hsk
    unfold plainB at hp
    unfold execOp at hs
    have nv : ∀ s : Sem Value, (do pure (Next.value (← s)) : Sem Next).run P w ≠ .ok .skip w := by
      intro s; rw [Sem.run_bind]; cases s.run P w <;> simp
    split at hp
    case h_16 c hop =>
      rw [hop] at hs
      simp only at hp hs
      split at hp
      case h_3 => simp at hp
      all_goals
        rename_i hb
        simp only [resolve, hb, Sem.run_bind, Sem.run_pure, Result.andThen_ok, invoke, builtin] at hs
        exact noSkip_t hs
    case h_17 => simp at hp
    all_goals (rename_i hop; rw [hop] at hs; first | exact nv _ hs | (simp only [Sem.run_pure] at hs; simp at hs; done) | (simp only [Sem.run_bind, Sem.run_pure] at hs; rename_i c _ _; revert hs; cases (asBool (a.eval c)).run P w <;> simp))
  · unfold wpUp
    simp only [hi, hw, if_true]
    refine ⟨v, fun w hw' => ?_, h2⟩
    have h3 := h1 w hw'
    have h4 := plain_noEnter (P := P) hp a.eval w
    unfold Oper.quietAt at h3
    generalize hr : (execOp a.eval o).run P w = res at *
    cases res with
    | ok n w' =>
      cases n <;> simp only [Oper.quietUpon] at h3
      case value u => obtain ⟨e1, e2⟩ := h3; rw [e1, e2]
      case skip => obtain ⟨e1, e2⟩ := h3; subst e1; exact (hsk ⟨_, hw', hr⟩).elim
      case enter f args => exact (h4 _ _ _ rfl).elim
    | halt x w' => simp only [Oper.quietUpon] at h3

theorem wpUp_hole {i : Nat} {r : List (Nat × Bool)} {B : Nat} {a : Act} {w0 w : World} {o : Oper} (hi : ops[i]? = some o) (hw : Region.wanted o (yielded ops a.tmps) = true)
    (h : ∀ (K : Act → World → Prop), (∀ B' a' w', B ≤ B' → Below B w0 w' → wpUp P ops Q r B' w' a' w' → K a' w') → o.wp P a w K Q) : wpUp P ops Q ((i, true) :: r) B w0 a w := by
  unfold wpUp
  simp only [hi, hw, if_true]
  exact h _ fun B' a' w' h0 h1 h2 => ⟨B', h0, h1, h2⟩

theorem wpUp_call {i : Nat} {r : List (Nat × Bool)} {B : Nat} {a : Act} {w : World} {o : Oper} (hi : ops[i]? = some o) (hw : Region.wanted o (yielded ops a.tmps) = true) (hB : B ≤ w.heap.size)
    (h : ∀ (K : Act → World → Prop), (∀ a' w', Below w.heap.size w w' → wpUp P ops Q r w'.heap.size w' a' w' → K a' w') → o.wp P a w K Q) : wpUp P ops Q ((i, true) :: r) B w a w :=
  wpUp_hole hi hw fun K hK => h K fun a' w' h1 h2 => hK w'.heap.size a' w' (Nat.le_trans hB h1.size) (h1.mono hB) h2
end
end Go.Proofs.YtohhjbfkgokopaaDoor
