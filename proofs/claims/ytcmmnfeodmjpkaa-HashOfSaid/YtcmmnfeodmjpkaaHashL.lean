/- The walks of the laws of layer 8: each returns true. -/
import Derived.Test.YtcmmnfeodmjpkaaHashW
import Derived.Test.YtcmmnfeodmjpkaaSeat
import Derived.OwnWalk
namespace Go.Proofs.Ytcmmnfeodmjpkaa
open Go.RowKit
set_option linter.unusedVariables false
namespace Hs
theorem hashOf (w : World) (a : Option Addr) (cap : Nat) (l : List UInt8) (hb : Bytes w a l.length l) :
    Calls Try.prog 3 #[.slice a l.length cap] w fun e w' => e = .returned (.bool true) ∧ Below w.heap.size w w' := by
  by_cases h : 2000 < l.length
  · go_enter Try.func3, Try.ntmps3
    go_wp2_with fail
    refine (awake_any _).mono ?_
    rintro e w' ⟨rfl, hbel⟩
    go_wp2
    go_ret
    exact ⟨rfl, hbel⟩
  · go_enter Try.func3, Try.ntmps3
    go_wp2_with fail
    refine (of_any _ _ _ _ _ hb).mono ?_
    rintro e w' ⟨rfl, rfl⟩
    go_wp2_with fail
    refine (ref_of_any _ _ _ _ _ hb).mono ?_
    rintro e w' ⟨rfl, rfl⟩
    go_wp2_with fail
    refine (awake_any _).mono ?_
    rintro e w' ⟨rfl, hbel⟩
    go_wp2
    go_ret
    exact ⟨rfl, hbel⟩

theorem hashStirs (w : World) (h : Int) (hh : 0 ≤ h ∧ h ≤ 18446744073709551615) (g : Int) (hg : 0 ≤ g ∧ g ≤ 18446744073709551615) (k v : UInt8) :
    Calls Try.prog 5 #[.int .u64 h, .int .u64 g, .int .u8 (k.toNat : Int), .int .u8 (v.toNat : Int)] w fun e w' => e = .returned (.bool true) ∧ Below w.heap.size w w' := by
  obtain ⟨h0, h1⟩ := hh
  obtain ⟨g0, g1⟩ := hg
  have hE : ((h == g) == (stir h == stir g)) = true := by
    by_cases e : h = g
    · subst e; simp
    · have : stir h ≠ stir g := fun e' => e (stir_inj h0 h1 g0 g1 e')
      rw [beq_eq_false_iff_ne.2 e, beq_eq_false_iff_ne.2 this]; rfl
  have HE := Lib.hid hE
  clear hE
  go_enter Try.func5, Try.ntmps5
  go_wp2_with fail
  refine (stir_any _ _ h0 h1).mono ?_
  rintro e w' ⟨rfl, rfl⟩
  go_wp2_with fail
  refine (ref_stir_any _ _ h0 h1).mono ?_
  rintro e w' ⟨rfl, rfl⟩
  go_wp2_with fail
  refine (key_any _ _).mono ?_
  rintro e w1 ⟨rfl, b1⟩
  go_wp2_with fail
  refine (ref_key_any _ _).mono ?_
  rintro e w2 ⟨rfl, b2⟩
  go_wp2_with fail
  refine (place_any _ _ _).mono ?_
  rintro e w3 ⟨rfl, b3⟩
  go_wp2_with fail
  refine (ref_place_any _ _ _).mono ?_
  rintro e w4 ⟨rfl, b4⟩
  go_wp2_with fail
  refine (stir_any _ _ h0 h1).mono ?_
  rintro e w' ⟨rfl, rfl⟩
  go_wp2_with fail
  refine (stir_any _ _ g0 g1).mono ?_
  rintro e w' ⟨rfl, rfl⟩
  have hE := HE.out
  go_wp2_with fail
  refine (awake_any _).mono ?_
  rintro e w5 ⟨rfl, b5⟩
  go_wp2
  go_ret
  exact ⟨rfl, bthen (bthen (bthen (bthen b1 b2) b3) b4) b5⟩

/-- a slice of bytes, and one more, laid behind an empty slice of one's own -/
theorem hashLast (w : World) (a : Option Addr) (cap : Nat) (l : List UInt8) (hb : Bytes w a l.length l) (x y : UInt8) :
    Calls Try.prog 4 #[.slice a l.length cap, .int .u8 (x.toNat : Int), .int .u8 (y.toNat : Int)] w fun e w' => e = .returned (.bool true) ∧ Below w.heap.size w w' := by
  by_cases h : 2000 < l.length
  · go_enter Try.func4, Try.ntmps4
    go_wp2_with fail
    refine (awake_any _).mono ?_
    rintro e w' ⟨rfl, hbel⟩
    go_wp2
    go_ret
    exact ⟨rfl, hbel⟩
  · go_enter Try.func4, Try.ntmps4
    go_wp2_with (at_builtin; refine stopHere ?_)
    have b0 := Below.refl w.heap.size w
    refine atStop (appB rfl (.tmp 13) (.tmp 14) rfl (l := []) (m := l) (OwnB.nil _ w.heap.size _ _) (hb.mono (b0.alloc b0.size _)) rfl rfl (b0.alloc b0.size _).size (by simp; omega) ?_)
    intro ap1 cp1 wp1 op1 gp1 _
    simp only [List.nil_append] at op1
    have bp1 := bapp (b0.alloc b0.size (.cells #[] 5)) (OwnB.nil _ w.heap.size 5 _) (Nat.le_refl _) gp1
    go_wp2_with (at_builtin; refine stopHere ?_)
    refine atStop (appB rfl (.tmp 15) (.tmp 17) rfl (l := l) (m := [x]) (op1.below (balloc _ _)) (newBytes wp1 [x] _ _ (by simp [maxLen])) rfl rfl (bp1.alloc bp1.size _).size (by simp; omega) ?_)
    intro ap2 cp2 wp2 op2 gp2 _
    simp only [List.length_append, List.length_cons, List.length_nil, Nat.zero_add] at op2
    have bp2 := bapp (bp1.alloc bp1.size (.cells #[.int .u8 (x.toNat : Int)] 5)) (op1.below (balloc _ _)) (Nat.le_refl _) gp2
    go_wp2_with fail
    refine (of_any _ _ _ (l ++ [x]) _ op2.bytes).mono ?_
    rintro e w' ⟨rfl, rfl⟩
    go_wp2_with (at_builtin; refine stopHere ?_)
    refine atStop (appB rfl (.tmp 20) (.tmp 21) rfl (l := []) (m := l) (OwnB.nil _ w.heap.size _ _) (hb.mono (bp2.alloc bp2.size _)) rfl rfl (bp2.alloc bp2.size _).size (by simp; omega) ?_)
    intro aq1 cq1 wq1 oq1 gq1 _
    simp only [List.nil_append] at oq1
    have bq1 := bapp (bp2.alloc bp2.size (.cells #[] 5)) (OwnB.nil _ w.heap.size 5 _) (Nat.le_refl _) gq1
    go_wp2_with (at_builtin; refine stopHere ?_)
    refine atStop (appB rfl (.tmp 22) (.tmp 24) rfl (l := l) (m := [y]) (oq1.below (balloc _ _)) (newBytes wq1 [y] _ _ (by simp [maxLen])) rfl rfl (bq1.alloc bq1.size _).size (by simp; omega) ?_)
    intro aq2 cq2 wq2 oq2 gq2 _
    simp only [List.length_append, List.length_cons, List.length_nil, Nat.zero_add] at oq2
    have bq2 := bapp (bq1.alloc bq1.size (.cells #[.int .u8 (y.toNat : Int)] 5)) (oq1.below (balloc _ _)) (Nat.le_refl _) gq2
    go_wp2_with fail
    refine (of_any _ _ _ (l ++ [y]) _ oq2.bytes).mono ?_
    rintro e w' ⟨rfl, rfl⟩
    have hE : ((fnvs (l ++ [x]) == fnvs (l ++ [y])) == ((x.toNat : Int) == (y.toNat : Int))) = true := by
      by_cases e : x = y
      · subst e; simp
      · have h1 : fnvs (l ++ [x]) ≠ fnvs (l ++ [y]) := by
          rw [fnvs_snoc, fnvs_snoc]
          have b := fnvs_bd l
          exact fun e' => e (fnv_inj b.1 b.2 e')
        have h2 : (x.toNat : Int) ≠ (y.toNat : Int) := fun e' => e (UInt8.toNat_inj.1 (by omega))
        rw [beq_eq_false_iff_ne.2 h1, beq_eq_false_iff_ne.2 h2]; rfl
    go_wp2_with fail
    refine (awake_any _).mono ?_
    rintro e w' ⟨rfl, hbel⟩
    go_wp2
    go_ret
    exact ⟨rfl, bq2.trans (hbel.mono bq2.size)⟩
end Hs
end Go.Proofs.Ytcmmnfeodmjpkaa
