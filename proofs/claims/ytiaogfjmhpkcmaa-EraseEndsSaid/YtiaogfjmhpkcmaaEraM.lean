/- An erasing's Told, whole. Conditions: the erasing and the answer can be read; the answer's register is short. -/
import Derived.Test.YtiaogfjmhpkcmaaEraJ
import Derived.Test.YtiaogfjmhpkcmaaEraU
namespace Go.Proofs.Ytiaogfjmhpkcmaa
open Go.RowKit
set_option linter.unusedVariables false
namespace Rg

def finS (y : EraD) : EraD := if markedB y then y else { y with phase := 3 }
def toldS (x : EraD) (a : AnsD) : EraD :=
  if (wantsS x).2.2 = false then x
  else if a.rep.err ≠ 0 then zeroEra
  else if x.phase = 1 then (if a.reg.kind = 1 then zeroEra else finS { x with reg := a.reg, at_ := 0, phase := 2 })
  else if x.phase = 2 then (if blocksS a.reg x.key (x.reg.marks.getD x.at_.toNat ⟨0, 0, 0⟩) then zeroEra else finS { x with at_ := x.at_ + 1 })
  else (if a.reg = x.reg then { x with b := a.b, phase := 4 } else zeroEra)

theorem wants_phase {x : EraD} (h : ¬ (wantsS x).2.2 = false) : x.phase = 1 ∨ x.phase = 3 ∨ (x.phase = 2 ∧ markedB x = true) := by
  unfold wantsS at h
  split at h
  · rename_i h1
    rcases h1 with h1 | h1
    · exact .inl h1
    · exact .inr (.inl h1)
  · split at h
    · rename_i h2
      exact .inr (.inr h2)
    · exact (h rfl).elim
theorem retZ {w : World} {e : Ending} {w' : World} (h : RetE w zeroEra zeroRegA e w') : RetN w zeroEra e w' := ⟨⟨zeroRegA, h.1, zeroEra_at w'⟩, h.2⟩

theorem told_any (w : World) (x : EraD) (p : RegA) (a : AnsD) (pr : RepA) (q : RegA) (h : EraAt w x p) (ha : AnsAt w a pr q) (hg : greatS a.reg = false) :
    Calls Try.prog 15 #[.agg (eraCs x p).toArray, .agg (ansCs a pr q).toArray] w (RetN w (toldS x a)) := by
  unfold toldS
  by_cases hw : (wantsS x).2.2 = false
  · rw [if_pos hw]
    exact (told_not w x p a pr q h ha hw).mono fun e w' r => ⟨⟨p, r.1, h.mono r.2⟩, r.2⟩
  rw [if_neg hw]
  have hw' : (wantsS x).2.2 = true := by cases hc : (wantsS x).2.2 <;> simp_all
  by_cases he : a.rep.err ≠ 0
  · rw [if_pos he]
    exact (told_err w x p a pr q h ha hw' he).mono fun e w' r => retZ r
  rw [if_neg he]
  have he' : a.rep.err = 0 := by omega
  rcases wants_phase hw with h1 | h3 | ⟨h2, hm⟩
  · rw [if_pos h1]
    by_cases hk : a.reg.kind = 1
    · rw [if_pos hk]
      exact (told_live w x p a pr q h ha h1 he' hk).mono fun e w' r => retZ r
    · rw [if_neg hk]
      exact told_1go w x p a pr q h ha hg h1 he' hk
  · rw [if_neg (by omega), if_neg (by omega)]
    by_cases hs : a.reg = x.reg
    · rw [if_pos hs]
      exact (told_3yes w x p a pr q h ha h3 he' hs).mono fun e w' r => ⟨⟨p, r.1, ⟨h.key, by unfold U8; simp only; omega, h.conf, h.reg.mono r.2, h.at_, ha.b, h.visited, h.erased⟩⟩, r.2⟩
    · rw [if_neg hs]
      exact (told_3no w x p a pr q h ha h3 he' hs).mono fun e w' r => retZ r
  · rw [if_neg (by omega), if_pos h2]
    cases hb : blocksS a.reg x.key (x.reg.marks.getD x.at_.toNat ⟨0, 0, 0⟩)
    · exact told_2no w x p a pr q h ha h2 hm he' hb
    · exact (told_2yes w x p a pr q h ha h2 hm he' hb).mono fun e w' r => retZ r
end Rg
end Go.Proofs.Ytiaogfjmhpkcmaa
