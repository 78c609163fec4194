/- The walks of the document's putting. Conditions: the number lies in its kind. -/
import Derived.Test.YtniopkoaplkpkaaPackN
namespace Go.Proofs.Ytniopkoaplkpkaa
open Go.RowKit
set_option linter.unusedVariables false
namespace Pk

set_option maxHeartbeats 400000 in
theorem refNum_any (x : Int) (w : World) (hx0 : 0 ≤ x) (hx1 : x ≤ 18446744073709551615) :
    Calls Try.prog 87 #[.int .u64 x] w (RetB w (numB x.toNat)) := by
  obtain ⟨x, rfl⟩ := Int.eq_ofNat_of_zero_le hx0
  have hx : x < 18446744073709551616 := by omega
  clear hx0
  simp only [Int.toNat_natCast]
  have b0 := Below.refl w.heap.size w
  go_enter Try.func87, Try.ntmps87
  go_wp2
  go_loopw [0, 3] (fun i out wr => ∃ (k : Nat) (a' : Option Addr) (m' c' : Nat) (p : List UInt8), i = .int .u64 k ∧ k ≤ x ∧ out = .slice a' m' c' ∧ OwnB wr w.heap.size 5 (.slice a' m' c') p ∧ p ++ numB k = [] ++ numB x ∧ Below w.heap.size w wr) (fun i _ _ => (intOf i).toNat)
  case atStart => exact ⟨x, _, 0, 0, [], rfl, Nat.le_refl _, rfl, OwnB.nil _ _ _ _, rfl, b0.alloc b0.size _⟩
  case round =>
    obtain ⟨k, a', m', c', p, rfl, hk, rfl, o, he, bl⟩ := hrel
    have HE := Lib.hid he
    clear he
    have hpl := loop_len HE.out hx
    have hlen := Lib.hid o.bytes.1
    have hp : p.length ≤ 10 := by simpa using hpl
    clear hpl
    by_cases h : 128 ≤ k
    · have h' : (128 : Int) ≤ (k : Int) := by omega
      go_wp2_with (at_builtin; refine stopHere ?_)
      refine atStop (appB rfl (.tmp 7) (.tmp 12) rfl (l := p) (m := [UInt8.ofNat (128 + k % 128)]) (o.below (balloc _ _)) (by rw [show (128 : Int) + (k : Int) % 128 = ((128 + k % 128 : Nat) : Int) from by omega, bv_ofNat _ (by omega)]; exact newBytes _ [_] _ _ (by simp [maxLen])) rfl rfl (bl.alloc bl.size _).size (by simp; omega) ?_)
      intro a2 m2 c2 w2 o2 g2 _
      have b2 := bapp (bl.alloc bl.size _) (o.below (balloc _ _)) (Nat.le_refl _) g2
      have o3 : OwnB w2 w.heap.size 5 (.slice a2 m2 c2) (p ++ [UInt8.ofNat (128 + k % 128)]) := by simpa using o2
      go_wp2
      go_roundw
      case rel => exact ⟨k / 128, a2, _, c2, p ++ [UInt8.ofNat (128 + k % 128)], by simp, by omega, rfl, o3, loop_step k h p [] x HE.out, b2⟩
      case measure => simp [intOf]; omega
    · have h' : ¬ (128 : Int) ≤ (k : Int) := by omega
      go_wp2_with (at_builtin; refine stopHere ?_)
      refine atStop (appB rfl (.tmp 16) (.tmp 19) rfl (l := p) (m := [UInt8.ofNat k]) (o.below (balloc _ _)) (by rw [bv_ofNat _ (by omega)]; exact newBytes _ [_] _ _ (by simp [maxLen])) rfl rfl (bl.alloc bl.size _).size (by simp; omega) ?_)
      intro a2 m2 c2 w2 o2 g2 _
      have b2 := bapp (bl.alloc bl.size _) (o.below (balloc _ _)) (Nat.le_refl _) g2
      have o3 : OwnB w2 w.heap.size 5 (.slice a2 m2 c2) (numB x) := by
        have := HE.out
        rw [List.nil_append] at this
        rw [← this, numB_lo (by omega)]; simpa using o2
      go_wp2
      go_ret
      exact ⟨a2, _, c2, rfl, o3, b2⟩

theorem refInt_any (i : Int) (w : World) (h0 : -9223372036854775808 ≤ i) (h1 : i ≤ 9223372036854775807) :
    Calls Try.prog 88 #[.int .i64 i] w (RetB w (numB (zig i))) := by
  by_cases h : i < 0
  · have e : zig i = (2 * (-1 - i) + 1).toNat := by unfold zig; rw [if_pos h]
    rw [e]
    go_enter Try.func88, Try.ntmps88
    go_wp2_with fail
    refine (refNum_any _ _ (by omega) (by omega)).mono ?_
    rintro e w1 ⟨a1, m1, c1, rfl, o1, b1⟩
    go_wp2
    go_ret
    exact ⟨a1, m1, c1, rfl, o1, b1⟩
  · have e : zig i = (2 * i).toNat := by unfold zig; rw [if_neg h]
    rw [e]
    go_enter Try.func88, Try.ntmps88
    go_wp2_with fail
    refine (refNum_any _ _ (by omega) (by omega)).mono ?_
    rintro e w1 ⟨a1, m1, c1, rfl, o1, b1⟩
    go_wp2
    go_ret
    exact ⟨a1, m1, c1, rfl, o1, b1⟩

end Pk
end Go.Proofs.Ytniopkoaplkpkaa
