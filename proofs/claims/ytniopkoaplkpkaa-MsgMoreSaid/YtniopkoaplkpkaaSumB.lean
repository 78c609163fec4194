/- Plain law: bytes spoilt step by step. No condition. -/
import Derived.Test.YtniopkoaplkpkaaSumF
namespace Go.Proofs.Ytniopkoaplkpkaa
open Go.RowKit
set_option linter.unusedVariables false
namespace Sm

/-- so many of the four bytes spoilt -/
def sp (l : List UInt8) (at_ v k : Nat) : List UInt8 := xs l (List.replicate at_ 0 ++ (le4 v).take k ++ List.replicate (l.length - at_ - k) 0)
theorem sp_len (l : List UInt8) (at_ v k : Nat) (hk : k ≤ 4) (h : at_ + 4 ≤ l.length) : (sp l at_ v k).length = l.length := by
  simp [sp, xs, le4]; omega
theorem xs_zero : ∀ l : List UInt8, xs l (List.replicate l.length 0) = l
  | [] => rfl
  | c :: l => by
    show (c ^^^ 0) :: xs l (List.replicate l.length 0) = c :: l
    rw [xs_zero l]; simp
theorem sp_zero (l : List UInt8) (at_ v : Nat) (h : at_ + 4 ≤ l.length) : sp l at_ v 0 = l := by
  unfold sp
  have e : List.replicate at_ (0 : UInt8) ++ (le4 v).take 0 ++ List.replicate (l.length - at_ - 0) 0 = List.replicate l.length 0 := by
    simp only [List.take_zero, List.append_nil]
    rw [List.replicate_append_replicate]; congr 1; omega
  rw [e, xs_zero]
theorem sp_four (l : List UInt8) (at_ v : Nat) : sp l at_ v 4 = spoil l at_ v := by
  unfold sp spoil
  rw [List.take_of_length_le (by simp [le4])]
theorem le4_get (v k : Nat) (hk : k < 4) : (le4 v)[k]? = some (UInt8.ofNat (v / 2 ^ (8 * k))) := by
  match k, hk with
  | 0, _ => simp [le4]
  | 1, _ => simp [le4]
  | 2, _ => simp [le4]
  | 3, _ => simp [le4]
theorem sp_get (l : List UInt8) (at_ v k j : Nat) (hk : k ≤ 4) (h : at_ + 4 ≤ l.length) (hj : j < l.length) :
    (sp l at_ v k)[j]? = some (l[j] ^^^ (if at_ ≤ j ∧ j < at_ + k then UInt8.ofNat (v / 2 ^ (8 * (j - at_))) else 0)) := by
  unfold sp xs
  rw [List.getElem?_zipWith, List.getElem?_eq_getElem hj]
  have e : (List.replicate at_ 0 ++ (le4 v).take k ++ List.replicate (l.length - at_ - k) 0)[j]? = some (if at_ ≤ j ∧ j < at_ + k then UInt8.ofNat (v / 2 ^ (8 * (j - at_))) else 0) := by
    have lk : ((le4 v).take k).length = k := by simp [le4]; omega
    by_cases h1 : j < at_
    · rw [List.append_assoc, List.getElem?_append_left (by simpa using h1), if_neg (by omega)]
      simp [h1]
    · by_cases h2 : j < at_ + k
      · rw [List.getElem?_append_left (by rw [List.length_append, lk]; simp; omega), List.getElem?_append_right (by simp; omega), if_pos (by omega)]
        rw [List.getElem?_take_of_lt (by simp; omega), List.length_replicate, le4_get _ _ (by omega)]
      · rw [List.getElem?_append_right (by rw [List.length_append, lk]; simp; omega), if_neg (by omega)]
        rw [List.getElem?_replicate, if_pos (by rw [List.length_append, lk]; simp; omega)]
  rw [e]
theorem sp_step (l : List UInt8) (at_ v k : Nat) (hk : k < 4) (h : at_ + 4 ≤ l.length) :
    sp l at_ v (k + 1) = (sp l at_ v k).set (at_ + k) (l[at_ + k] ^^^ UInt8.ofNat (v / 2 ^ (8 * k))) := by
  apply List.ext_getElem?
  intro j
  rw [List.getElem?_set]
  by_cases hj : j < l.length
  · rw [sp_get _ _ _ _ _ (by omega) h hj, sp_get _ _ _ _ _ (by omega) h hj]
    by_cases e : at_ + k = j
    · subst e
      rw [if_pos rfl, if_pos (show at_ ≤ at_ + k ∧ at_ + k < at_ + (k + 1) by omega), if_pos (by rw [sp_len _ _ _ _ (by omega) h]; exact hj), show at_ + k - at_ = k from by omega]
    · rw [if_neg e]
      congr 3
      exact propext ⟨fun h => by omega, fun h => by omega⟩
  · have h1 : (sp l at_ v (k + 1))[j]? = none := by rw [List.getElem?_eq_none]; rw [sp_len _ _ _ _ (by omega) h]; omega
    have h2 : (sp l at_ v k)[j]? = none := by rw [List.getElem?_eq_none]; rw [sp_len _ _ _ _ (by omega) h]; omega
    rw [h1, h2]
    rw [if_neg (by omega)]
end Sm
end Go.Proofs.Ytniopkoaplkpkaa
