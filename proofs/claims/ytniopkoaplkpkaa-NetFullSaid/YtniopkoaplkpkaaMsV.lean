/- Plain law: what the document asks of a message gives what the code asks. No condition. -/
import Derived.Test.YtniopkoaplkpkaaMsU
import Derived.Test.YtniopkoaplkpkaaRegQ
namespace Go.Proofs.Ytniopkoaplkpkaa
open Go.RowKit
set_option linter.unusedVariables false
namespace Ms
open Rg (U64 May06 mayS zeroReg)
theorem may_of {m : MsgD} (h : MayR m) (hl : U64 m.reg.last) : MayM m := by
  obtain ⟨kind, src, dst, key, conf, b, ok, acc, reg, next, max⟩ := m
  obtain ⟨h1, h2, h3, h4, h5⟩ := h
  simp only at h1 h2 h3 h4 h5 hl
  refine ⟨h1, h2, h3, h4, ?_, ?_⟩
  · intro hok
    simp only at hok ⊢
    subst hok
    split at h5
    · exact absurd h5.1 (by simp)
    split at h5
    · exact h5.1
    split at h5
    · rename_i a b c
      exact absurd ⟨c, rfl⟩ b
    split at h5
    · exact absurd h5.1 (by simp)
    · exact h5.2.2.2.2.resolve_left (by simp)
  · simp only
    split at h5
    · rename_i k1
      rw [if_pos k1]
      exact ⟨h5.1, h5.2.2.2.2, h5.2.1, h5.2.2.1, h5.2.2.2.1⟩
    rename_i k1
    rw [if_neg k1]
    split at h5
    · rename_i k2
      rw [if_pos k2.1, if_neg (by rw [k2.2]; simp)]
      refine ⟨h5.2.1, Rq.may_S h5.2.2.1 hl, ?_⟩
      rcases h5.2.2.2 with k | k
      · exact .inr ((may06_zero k).1 h5.2.2.1)
      · exact .inl k
    rename_i k2
    split at h5
    · rename_i k3
      rw [if_pos k3, if_pos (by cases ok; rfl; exact absurd ⟨k3, rfl⟩ k2)]
      exact h5
    rename_i k3
    rw [if_neg k3]
    split at h5
    · rename_i k4
      rw [if_pos k4]
      exact ⟨h5.1, h5.2.2.1, h5.2.1, Rq.may_S h5.2.2.2.1 hl, h5.2.2.2.2⟩
    · rename_i k4
      rw [if_neg k4]
      exact ⟨h5.1, h5.2.1, h5.2.2.1, h5.2.2.2.1⟩
end Ms
end Go.Proofs.Ytniopkoaplkpkaa
