/- The walks of the laws of layer 2: each returns true. -/
import Derived.Test.YtcmmnfeodmjpkaaSumX
namespace Go.Proofs.Ytcmmnfeodmjpkaa
open Go.RowKit
set_option linter.unusedVariables false
namespace Sm
theorem sumOf_far (w : World) (a : Option Addr) (cap : Nat) (l : List UInt8) (hb : Bytes w a l.length l) (a2 : Option Addr) (cap2 : Nat) (m : List UInt8) (hm : Bytes w a2 m.length m) (h : 2000 < l.length ∨ 2000 < m.length) :
    Calls Try.prog 7 #[.slice a l.length cap, .slice a2 m.length cap2] w fun e w' => e = .returned (.bool true) ∧ Below w.heap.size w w' := by
  by_cases h1 : 2000 < l.length
  · go_enter Try.func7, Try.ntmps7
    go_wp2_with fail
    refine (awake_any _).mono ?_
    rintro e w' ⟨rfl, hbel⟩
    go_wp2
    go_ret
    exact ⟨rfl, hbel⟩
  · have h2 : 2000 < m.length := by omega
    clear h
    go_enter Try.func7, Try.ntmps7
    go_wp2_with fail
    refine (awake_any _).mono ?_
    rintro e w' ⟨rfl, hbel⟩
    go_wp2
    go_ret
    exact ⟨rfl, hbel⟩

theorem sumOf (w : World) (a : Option Addr) (cap : Nat) (l : List UInt8) (hb : Bytes w a l.length l) (a2 : Option Addr) (cap2 : Nat) (m : List UInt8) (hm : Bytes w a2 m.length m) :
    Calls Try.prog 7 #[.slice a l.length cap, .slice a2 m.length cap2] w fun e w' => e = .returned (.bool true) ∧ Below w.heap.size w w' := by
  by_cases h : 2000 < l.length ∨ 2000 < m.length
  · exact sumOf_far w a cap l hb a2 cap2 m hm h
  have h1 : ¬ 2000 < l.length := by omega
  have h2 : ¬ 2000 < m.length := by omega
  clear h
  go_enter Try.func7, Try.ntmps7
  go_wp2_with fail
  refine (of_any _ _ _ _ _ hb).mono ?_
  rintro e w1 ⟨rfl, b1⟩
  go_wp2_with fail
  refine (refOf_any _ _ _ _ _ (hb.mono b1)).mono ?_
  rintro e w' ⟨rfl, rfl⟩
  go_wp2_with fail
  refine (of_any _ _ _ _ _ (hb.mono b1)).mono ?_
  rintro e w2 ⟨rfl, b2⟩
  have c2 := bthen b1 b2
  go_wp2_with fail
  refine (more_any _ _ _ _ _ _ (ofS_lt l) (hm.mono c2)).mono ?_
  rintro e w3 ⟨rfl, b3⟩
  have c3 := bthen c2 b3
  rw [more_of]
  go_wp2_with (at_builtin; refine stopHere ?_)
  refine atStop (appB rfl (.tmp 24) (.tmp 25) rfl (l := []) (m := l) (OwnB.nil _ w3.heap.size _ _) (hb.mono (c3.alloc c3.size _)) rfl rfl (by simp) (by simp; omega) ?_)
  intro a4 m4 c4 w4 o4 g4 _
  have b4 := bapp ((Below.refl _ w3).alloc (Nat.le_refl _) (.cells #[] 5)) (OwnB.nil _ w3.heap.size 5 _) (Nat.le_refl _) g4
  simp only [List.nil_append] at o4
  go_wp2_with (at_builtin; refine stopHere ?_)
  refine atStop (appB rfl (.tmp 26) (.tmp 27) rfl o4 (hm.mono (bthen c3 b4)) rfl rfl b4.size (by omega) ?_)
  intro a5 m5 c5 w5 o5 g5 _
  have b5 := bapp b4 o4 (Nat.le_refl _) g5
  have c5' := bthen c3 b5
  go_wp2_with fail
  refine (refOf_any _ _ _ _ _ o5.bytes).mono ?_
  rintro e w' ⟨rfl, rfl⟩
  go_wp2_with fail
  refine (awake_any _).mono ?_
  rintro e w' ⟨rfl, hbel⟩
  go_wp2
  go_ret
  exact ⟨rfl, bthen c5' hbel⟩
end Sm
end Go.Proofs.Ytcmmnfeodmjpkaa
