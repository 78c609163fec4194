/- The walk of the law SumMarks: it returns true. -/
import Derived.Test.YtcmmnfeodmjpkaaSumX
import Derived.Test.YtcmmnfeodmjpkaaRegion
import Derived.Test.YtcmmnfeodmjpkaaUp
namespace Go.Proofs.Ytcmmnfeodmjpkaa
open Go.RowKit
set_option linter.unusedVariables false
namespace Sm

theorem sumMarks_far (w : World) (a : Option Addr) (cap : Nat) (l : List UInt8) (hb : Bytes w a l.length l) (h : 2000 < l.length) :
    Calls Try.prog 11 #[.slice a l.length cap] w fun e w' => e = .returned (.bool true) ∧ Below w.heap.size w w' := by
  go_enter Try.func11, Try.ntmps11
  go_wp2_with fail
  refine (awake_any _).mono ?_
  rintro e w' ⟨rfl, hbel⟩
  go_wp2
  go_ret
  exact ⟨rfl, hbel⟩

set_option maxHeartbeats 3200000 in
theorem sumMarks_near (w : World) (a : Option Addr) (cap : Nat) (l : List UInt8) (hb : Bytes w a l.length l) (hcap : l.length ≤ cap ∧ cap ≤ maxLen) (h : ¬ 2000 < l.length) :
    Calls Try.prog 11 #[.slice a l.length cap] w fun e w' => e = .returned (.bool true) ∧ Below w.heap.size w w' := by
  have b0 := Below.refl w.heap.size w
  go_enter Try.func11, Try.ntmps11
  go_wp2_with (at_builtin; refine stopHere ?_)
  refine atStop (appB rfl (.tmp 15) (.tmp 16) rfl (l := []) (m := l) (OwnB.nil _ w.heap.size _ _) (hb.mono (b0.alloc b0.size _)) rfl rfl (b0.alloc b0.size _).size (by simp; omega) ?_)
  intro a1 m1 c1 w1 o1 g1 _
  have b1 := bapp (b0.alloc b0.size (.cells #[] 5)) (OwnB.nil _ w.heap.size 5 _) (Nat.le_refl _) g1
  simp only [List.nil_append] at o1
  have q1 := Lib.hid o1.bytes.1
  have z1 : m1 ≤ 2000 := by have := q1.out; omega
  go_wp2_with fail
  refine (mark_any _ _ _ _ _ o1.bytes (by omega)).mono ?_
  rintro e w2 ⟨a2, m2, c2, rfl, o2, b2⟩
  have c02 := bthen b1 b2
  have q2 := Lib.hid o2.bytes.1
  have z2 : m2 ≤ 2004 := by have := q2.out; rw [mark_len] at this; omega
  go_wp2_with fail
  refine (fits_any _ _ _ _ _ o2.bytes (by omega) o2.cap).mono ?_
  rintro e w3 ⟨a3, m3, c3, rfl, o3, b3⟩
  rw [fits_mark] at o3 ⊢
  have c03 := bthen c02 b3
  have o1' := (o1.below b2).below b3
  go_wp2_with fail
  refine (fits_any _ _ _ _ _ o1'.bytes (by omega) o1'.cap).mono ?_
  rintro e w4 ⟨a4, m4, c4, rfl, o4, b4⟩
  have c04 := bthen c03 b4
  go_wp2_with fail
  refine (refFits_any _ _ _ _ _ (hb.mono c04) (by omega) hcap).mono ?_
  rintro e w5 ⟨a5, m5, c5, rfl, o5, b5⟩
  have c05 := bthen c04 b5
  have B1 := ((o1'.below b4).below b5).bytes
  have B2 := (((o2.below b3).below b4).below b5).bytes
  have B3 := ((o3.below b4).below b5).bytes
  have B4 := (o4.below b5).bytes
  have B0 := hb.mono c05
  clear o1 o2 o3 o4 o1' g1 b1 b2 b3 b4 c02 c03 c04 b0
  have bd : Below w5.heap.size w5 w5.drew := below_drewN w5 1
  have K0 := fun n : ExtW w5.heap.size w5.drew => convStr (B0.mono (bthen bd n.h)) cap
  have K1 := fun n : ExtW w5.heap.size w5.drew => convStr (B1.mono (bthen bd n.h)) c1
  have K2 := fun n : ExtW w5.heap.size w5.drew => convStr (B2.mono (bthen bd n.h)) c2
  go_wp2
  refine wp_region_up [(0, false), (1, false), (2, false), (3, true), (4, false), (5, false), (6, false), (7, false), (8, false), (9, false), (10, false), (11, false), (12, false), (13, false), (14, false), (15, false), (16, false), (17, false), (18, false), (19, false), (20, false), (21, false), (22, false), (23, false), (24, false), (25, false), (26, false), (27, false), (28, false), (29, false), (30, false), (31, false), (32, false), (33, false), (34, false), (35, false), (36, false), (37, true), (38, false), (39, false)] (by kernel_rfl) (by kernel_rfl) ?_
  repeat
    refine wpUp_pure (by rfl) (by rfl) (by rfl) (fun K hK => ?_)
    conv => arg 2; whnf
    go_big_quiet_op
    refine hK _ ?_
    clear hK K
  refine wpUp_hole (by rfl) (by rfl) (fun n K hK => ?_)
  conv => arg 2; whnf
  go_simp
  refine (refMark_any _ _ _ _ _ (B0.mono (bthen bd n.h)) (by omega)).mono ?_
  rintro e w6 ⟨a6, m6, c6, rfl, o6, b6⟩
  have c6' : Below w5.heap.size w5 w6 := bthen (bthen bd n.h) b6
  clear K0 K1 K2
  have K0 := fun n : ExtW w6.heap.size w6 => convStr (B0.mono (bthen c6' n.h)) cap
  have K1 := fun n : ExtW w6.heap.size w6 => convStr (B1.mono (bthen c6' n.h)) c1
  have K2 := fun n : ExtW w6.heap.size w6 => convStr (B2.mono (bthen c6' n.h)) c2
  have K3 := fun n : ExtW w6.heap.size w6 => convStr (B3.mono (bthen c6' n.h)) c3
  have K4 := fun n : ExtW w6.heap.size w6 => convStr (B4.mono (bthen c6' n.h)) c4
  have K5 := fun n : ExtW w6.heap.size w6 => convStr (o5.mono (bthen c6' n.h)) c5
  have K6 := fun n : ExtW w6.heap.size w6 => convStr (o6.bytes.mono n.h) c6
  refine hK _ _ b6 ?_
  clear hK K
  repeat
    refine wpUp_pure (by rfl) (by rfl) (by rfl) (fun K hK => ?_)
    conv => arg 2; whnf
    go_big_quiet_op
    refine hK _ ?_
    clear hK K
  refine wpUp_hole (by rfl) (by rfl) (fun n K hK => ?_)
  conv => arg 2; whnf
  go_simp
  refine (awake_any _).mono ?_
  rintro e w7 ⟨rfl, b7⟩
  refine hK _ _ b7 ?_
  clear hK K
  repeat
    refine wpUp_pure (by rfl) (by rfl) (by rfl) (fun K hK => ?_)
    conv => arg 2; whnf
    go_big_quiet_op
    refine hK _ ?_
    clear hK K
  refine wpUp_nil (fun n7 => NoPanic.normal ?_)
  go_wp2
  go_ret
  exact ⟨rfl, bthen (bthen (bthen (bthen c05 c6') n.h) b7) n7.h⟩

theorem sumMarks (w : World) (a : Option Addr) (cap : Nat) (l : List UInt8) (hb : Bytes w a l.length l) (hcap : l.length ≤ cap ∧ cap ≤ maxLen) :
    Calls Try.prog 11 #[.slice a l.length cap] w fun e w' => e = .returned (.bool true) ∧ Below w.heap.size w w' := by
  by_cases h : 2000 < l.length
  · exact sumMarks_far w a cap l hb h
  · exact sumMarks_near w a cap l hb hcap h
end Sm
end Go.Proofs.Ytcmmnfeodmjpkaa
