/- The walks of putting: slices.Clone at bytes, PutNum, PutInt and the document's, without rows. Conditions: the bytes can be read and are fewer than 2^46. -/
import Derived.Test.YtniopkoaplkpkaaPackP
import Derived.Test.YtniopkoaplkpkaaSeat
import Derived.WalkSpells
import Derived.OwnWalk
namespace Go.Proofs.Ytniopkoaplkpkaa
open Go.RowKit
set_option linter.unusedVariables false

/-- a slice of bytes of the call's own comes back, and nothing that was there has turned -/
def RetB (w : World) (l : List UInt8) (e : Ending) (w' : World) : Prop :=
  ∃ a m cap, e = .returned (.slice a m cap) ∧ OwnB w' w.heap.size 5 (.slice a m cap) l ∧ Below w.heap.size w w'

namespace Pk

theorem clone_any (a : Option Addr) (n cap : Nat) (l : List UInt8) (w : World) (hb : Bytes w a n l) (hsmall : n ≤ 70368744177664) :
    Calls Try.prog 55 #[.slice a n cap] w (RetB w l) := by
  have q := fun (wx : World) (a : Option Addr) (n c : Nat) => Lib.run_eql_slice_nil (P := Try.prog) wx 27 5 a n c 0 0 Try.underlying27
  obtain rfl : l.length = n := hb.1
  cases a with
  | none =>
    obtain rfl : l = [] := by
      rcases hb.2.2 with h | ⟨b, o, h, _⟩
      · simpa using h
      · cases h
    go_enter Try.func55, Try.ntmps55
    go_wp2
    go_ret
    exact ⟨none, 0, 0, rfl, OwnB.nil _ _ _ _, Below.refl _ _⟩
  | some ad =>
    have b0 := Below.refl w.heap.size w
    go_enter Try.func55, Try.ntmps55
    go_wp2_with (at_builtin; refine stopHere ?_)
    refine atStop (appB rfl (.tmp 5) (.tmp 6) rfl (l := []) (m := l) (OwnB.nil _ w.heap.size _ _) (hb.mono (b0.alloc b0.size _)) rfl rfl (b0.alloc b0.size _).size (by simp; omega) ?_)
    intro a1 m1 c1 w1 o1 g1 _
    have b1 := bapp (b0.alloc b0.size (.cells #[] 5)) (OwnB.nil _ w.heap.size 5 _) (Nat.le_refl _) g1
    simp only [List.nil_append] at o1
    go_wp2
    go_ret
    exact ⟨a1, m1, c1, rfl, o1, b1⟩

theorem loop_step (k : Nat) (h : 128 ≤ k) (p l : List UInt8) (x : Nat) (e : p ++ numB k = l ++ numB x) : (p ++ [UInt8.ofNat (128 + k % 128)]) ++ numB (k / 128) = l ++ numB x := by
  rw [← e, numB_hi h]; simp
theorem loop_len {k x : Nat} {p l : List UInt8} (e : p ++ numB k = l ++ numB x) (h : x < 18446744073709551616) : p.length ≤ l.length + 10 := by
  have := congrArg List.length e
  have := numB_len h
  simp at *; omega

set_option maxHeartbeats 400000 in
theorem putNum_any (a : Option Addr) (n cap : Nat) (l : List UInt8) (x : Int) (w : World) (hb : Bytes w a n l) (hx0 : 0 ≤ x) (hx1 : x ≤ 18446744073709551615) (hsmall : n ≤ 70368744177664) :
    Calls Try.prog 72 #[.slice a n cap, .int .u64 x] w (RetB w (l ++ numB x.toNat)) := by
  obtain ⟨x, rfl⟩ := Int.eq_ofNat_of_zero_le hx0
  have hx : x < 18446744073709551616 := by omega
  have hn := Lib.hid hb.1
  clear hx0
  simp only [Int.toNat_natCast]
  go_enter Try.func72, Try.ntmps72
  go_wp2_with fail
  refine (clone_any _ _ _ _ _ hb hsmall).mono ?_
  rintro e w1 ⟨a1, m1, c1, rfl, o1, b1⟩
  go_wp2
  go_loopw [1, 5] (fun i out wr => ∃ (k : Nat) (a' : Option Addr) (m' c' : Nat) (p : List UInt8), i = .int .u64 k ∧ k ≤ x ∧ out = .slice a' m' c' ∧ OwnB wr w.heap.size 5 (.slice a' m' c') p ∧ p ++ numB k = l ++ numB x ∧ Below w.heap.size w wr) (fun i _ _ => (intOf i).toNat)
  case atStart => exact ⟨x, a1, m1, c1, l, rfl, Nat.le_refl _, rfl, o1, rfl, b1⟩
  case round =>
    obtain ⟨k, a', m', c', p, rfl, hk, rfl, o, he, bl⟩ := hrel
    have HE := Lib.hid he
    clear he
    have hpl := loop_len HE.out hx
    have hlen := Lib.hid o.bytes.1
    have hp : p.length ≤ 70368744177664 + 10 := by have := hn.out; omega
    by_cases h : 128 ≤ k
    · have h' : (128 : Int) ≤ (k : Int) := by omega
      have hv := Lib.hid (or128 k)
      go_wp2_with (at_builtin; refine stopHere ?_)
      rw [hv.out]
      refine atStop (appB rfl (.tmp 10) (.tmp 14) rfl (l := p) (m := [UInt8.ofNat (128 + k % 128)]) (o.below (balloc _ _)) (by rw [bv_ofNat _ (by omega)]; exact newBytes _ [_] _ _ (by simp [maxLen])) rfl rfl (bl.alloc bl.size _).size (by simp; omega) ?_)
      intro a2 m2 c2 w2 o2 g2 _
      have b2 := bapp (bl.alloc bl.size _) (o.below (balloc _ _)) (Nat.le_refl _) g2
      have o3 : OwnB w2 w.heap.size 5 (.slice a2 m2 c2) (p ++ [UInt8.ofNat (128 + k % 128)]) := by simpa using o2
      go_wp2
      go_roundw
      case rel => exact ⟨k / 128, a2, _, c2, p ++ [UInt8.ofNat (128 + k % 128)], by simp, by omega, rfl, o3, loop_step k h p l x HE.out, b2⟩
      case measure => simp [intOf]; omega
    · have h' : ¬ (128 : Int) ≤ (k : Int) := by omega
      have hw : IntKind.u8.wrap (k : Int) = (k : Int) := by rw [IntKind.wrap_u8']; omega
      go_wp2_with (at_builtin; refine stopHere ?_)
      refine atStop (appB rfl (.tmp 18) (.tmp 21) rfl (l := p) (m := [UInt8.ofNat k]) (o.below (balloc _ _)) (by rw [bv_ofNat _ (by omega)]; exact newBytes _ [_] _ _ (by simp [maxLen])) rfl rfl (bl.alloc bl.size _).size (by simp; omega) ?_)
      intro a2 m2 c2 w2 o2 g2 _
      have b2 := bapp (bl.alloc bl.size _) (o.below (balloc _ _)) (Nat.le_refl _) g2
      have o3 : OwnB w2 w.heap.size 5 (.slice a2 m2 c2) (l ++ numB x) := by
        rw [← HE.out, numB_lo (by omega)]; simpa using o2
      go_wp2
      go_ret
      exact ⟨a2, _, c2, rfl, o3, b2⟩

theorem putInt_any (a : Option Addr) (n cap : Nat) (l : List UInt8) (i : Int) (w : World) (hb : Bytes w a n l) (h0 : -9223372036854775808 ≤ i) (h1 : i ≤ 9223372036854775807) (hsmall : n ≤ 70368744177664) :
    Calls Try.prog 54 #[.slice a n cap, .int .i64 i] w (RetB w (l ++ numB (zig i))) := by
  go_enter Try.func54, Try.ntmps54
  go_wp2_with fail
  rw [zig_eq i h0 h1]
  have hz := zig_lt h0 h1
  refine (putNum_any _ _ _ _ _ _ hb (by omega) (by omega) hsmall).mono ?_
  rintro e w1 ⟨a1, m1, c1, rfl, o1, b1⟩
  go_wp2
  go_ret
  exact ⟨a1, m1, c1, rfl, o1, b1⟩

end Pk
end Go.Proofs.Ytniopkoaplkpkaa
