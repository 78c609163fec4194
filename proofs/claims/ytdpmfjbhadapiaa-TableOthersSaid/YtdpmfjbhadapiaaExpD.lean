/- What a formula comes to lies in its kind. Conditions: so do the signs, the variables and the argument. -/
import Derived.Test.YtdpmfjbhadapiaaExpV
namespace Go.Proofs.Ytdpmfjbhadapiaa
open Go.RowKit
set_option linter.unusedVariables false
namespace Ex
theorem leaf_bd {vars : List Int} {arg : Int} {t : Tok} (hv : ∀ x ∈ vars, least ≤ x ∧ x ≤ most) (ha : least ≤ arg ∧ arg ≤ most) (ht : okT t) : least ≤ leafS vars arg t ∧ leafS vars arg t ≤ most := by
  unfold leafS
  split
  · exact ht.2
  · split
    · unfold varAt
      rw [List.getD_eq_getElem?_getD]
      cases h : vars[t.n.toNat]? with
      | none => simp only [Option.getD_none]; unfold least most; omega
      | some x => exact hv x (List.mem_of_getElem? h)
    · exact ha
theorem two_bd {op : Nat} {a b v : Int} (h : twoS op a b = some v) : least ≤ v ∧ v ≤ most := by
  rw [two_C] at h
  split at h
  · simp at h; rw [← h]; exact twoC_bd op a b
  · cases h
theorem ev_bd {vars : List Int} {arg : Int} (hv : ∀ x ∈ vars, least ≤ x ∧ x ≤ most) (ha : least ≤ arg ∧ arg ≤ most) : ∀ (l : List Tok) (st s : List Int), (∀ t ∈ l, okT t) → (∀ x ∈ st, least ≤ x ∧ x ≤ most) → evGo vars arg l st = some s → ∀ x ∈ s, least ≤ x ∧ x ≤ most
  | [], st, s, _, hs, h => by simp [evGo] at h; subst h; exact hs
  | t :: l, st, s, hl, hs, h => by
    simp only [evGo] at h
    cases he : evStep vars arg t st with
    | none => rw [he] at h; simp at h
    | some s1 =>
      rw [he] at h
      refine ev_bd hv ha l s1 s (fun t ht => hl t (List.mem_cons_of_mem _ ht)) ?_ h
      have htl : ∀ x ∈ st.tail, least ≤ x ∧ x ≤ most := fun x hx => hs x (List.mem_of_mem_tail hx)
      have htt : ∀ x ∈ st.tail.tail, least ≤ x ∧ x ≤ most := fun x hx => htl x (List.mem_of_mem_tail hx)
      unfold evStep at he
      split at he
      · simp at he; subst he
        intro x hx
        rcases List.mem_cons.1 hx with rfl | hx
        · exact leaf_bd hv ha (hl t List.mem_cons_self)
        · exact hs x hx
      · split at he
        · simp at he; subst he
          intro x hx
          rcases List.mem_cons.1 hx with rfl | hx
          · exact truth_bd _
          · exact htl x hx
        · cases h2 : twoS t.op (st.tail.headD 0) (st.headD 0) with
          | none => rw [h2] at he; simp at he
          | some v =>
            rw [h2] at he
            simp at he; subst he
            intro x hx
            rcases List.mem_cons.1 hx with rfl | hx
            · exact two_bd h2
            · exact htt x (by simpa using hx)
theorem eval_bd {vars : List Int} {arg : Int} (hv : ∀ x ∈ vars, least ≤ x ∧ x ≤ most) (ha : least ≤ arg ∧ arg ≤ most) {l : List Tok} (hl : ∀ t ∈ l, okT t) : least ≤ (evalS l vars arg).1 ∧ (evalS l vars arg).1 ≤ most := by
  have z : least ≤ 0 ∧ (0 : Int) ≤ most := by unfold least most; omega
  unfold evalS
  split
  · cases h : evGo vars arg l [] with
    | none => exact z
    | some st =>
      have hb := ev_bd hv ha l [] st hl (by simp) h
      cases st with
      | nil => exact z
      | cons v st => exact hb v List.mem_cons_self
  · exact z

end Ex
end Go.Proofs.Ytdpmfjbhadapiaa
