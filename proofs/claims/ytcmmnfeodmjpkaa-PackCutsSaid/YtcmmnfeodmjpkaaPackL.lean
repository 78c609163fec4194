/- The walk of the law PackPuts: it returns true. -/
import Derived.Test.YtcmmnfeodmjpkaaPackW
namespace Go.Proofs.Ytcmmnfeodmjpkaa
open Go.RowKit
set_option linter.unusedVariables false
namespace Pk
theorem awake_any (w : World) :
    Calls Try.prog 26 #[] w fun e w' => e = .returned (.bool true) ∧ Below w.heap.size w w' := by
  have e300 : ([] : List UInt8) ++ numB (Int.toNat 300) = [172, 2] := by rw [show Int.toNat 300 = 300 from rfl, numB_hi (by decide), numB_lo (by decide)]; rfl
  have e1 : ([] : List UInt8) ++ numB (zig (-1)) = [1] := by rw [show zig (-1) = 1 from rfl, numB_lo (by decide)]; rfl
  have E300 := Lib.hid e300
  have E1 := Lib.hid e1
  clear e300 e1
  go_enter Try.func26, Try.ntmps26
  go_wp2_with fail
  refine (putNum_any _ _ _ [] _ _ (Bytes.nil _ _) (by omega) (by omega) (by omega)).mono ?_
  rintro e w1 ⟨a1, m1, c1, rfl, o1, b1⟩
  rw [E300.out] at o1
  have s1 := convStr o1.bytes c1
  go_wp2_with fail
  refine (putInt_any _ _ _ [] _ _ (Bytes.nil _ _) (by omega) (by omega) (by omega)).mono ?_
  rintro e w2 ⟨a2, m2, c2, rfl, o2, b2⟩
  rw [E1.out] at o2
  have s2 := convStr o2.bytes c2
  go_wp2
  go_ret
  exact ⟨rfl, bthen b1 b2⟩

theorem packPuts_far (w : World) (a : Option Addr) (cap : Nat) (l : List UInt8) (hb : Bytes w a l.length l) (n i : Int) (a2 : Option Addr) (cap2 : Nat) (r : List UInt8) (hr : Bytes w a2 r.length r) (h : 500 < l.length ∨ 500 < r.length) :
    Calls Try.prog 6 #[.slice a l.length cap, .int .u64 n, .int .i64 i, .slice a2 r.length cap2] w fun e w' => e = .returned (.bool true) ∧ Below w.heap.size w w' := by
  by_cases h1 : 500 < l.length
  · go_enter Try.func6, Try.ntmps6
    go_wp2_with fail
    refine (awake_any _).mono ?_
    rintro e w' ⟨rfl, hbel⟩
    go_wp2
    go_ret
    exact ⟨rfl, hbel⟩
  · have h2 : 500 < r.length := by omega
    clear h
    go_enter Try.func6, Try.ntmps6
    go_wp2_with fail
    refine (awake_any _).mono ?_
    rintro e w' ⟨rfl, hbel⟩
    go_wp2
    go_ret
    exact ⟨rfl, hbel⟩

set_option maxHeartbeats 800000 in
theorem packPuts (w : World) (a : Option Addr) (cap : Nat) (l : List UInt8) (hb : Bytes w a l.length l) (n : Int) (hn : 0 ≤ n ∧ n ≤ 18446744073709551615) (i : Int) (hi : -9223372036854775808 ≤ i ∧ i ≤ 9223372036854775807) (a2 : Option Addr) (cap2 : Nat) (r : List UInt8) (hr : Bytes w a2 r.length r) :
    Calls Try.prog 6 #[.slice a l.length cap, .int .u64 n, .int .i64 i, .slice a2 r.length cap2] w fun e w' => e = .returned (.bool true) ∧ Below w.heap.size w w' := by
  by_cases h : 500 < l.length ∨ 500 < r.length
  · exact packPuts_far w a cap l hb n i a2 cap2 r hr h
  have h1 : ¬ 500 < l.length := by omega
  have h2 : ¬ 500 < r.length := by omega
  clear h
  obtain ⟨n0, n1⟩ := hn
  obtain ⟨i0, i1⟩ := hi
  have hz := zig_lt i0 i1
  have ln := numB_len (n := n.toNat) (by omega)
  have li := numB_len (n := zig i) hz
  have lr := numB_len (n := r.length) (by omega)
  have b0 := Below.refl w.heap.size w
  go_enter Try.func6, Try.ntmps6
  go_wp2_with (at_builtin; refine stopHere ?_)
  refine atStop (appB rfl (.tmp 21) (.tmp 22) rfl (l := []) (m := l) (OwnB.nil _ w.heap.size _ _) (hb.mono (b0.alloc b0.size _)) rfl rfl (b0.alloc b0.size _).size (by simp; omega) ?_)
  intro a1 m1 c1 w1 o1 g1 _
  have b1 := bapp (b0.alloc b0.size (.cells #[] 5)) (OwnB.nil _ w.heap.size 5 _) (Nat.le_refl _) g1
  simp only [List.nil_append] at o1
  go_wp2_with fail
  refine (putNum_any _ _ _ _ _ _ o1.bytes n0 n1 (by have := o1.bytes.1; omega)).mono ?_
  rintro e w2 ⟨a2', m2, c2, rfl, o2, b2⟩
  have q2 := Lib.hid o2.bytes.1
  have z2 : m2 ≤ 510 := by have := q2.out; simp at this; omega
  go_wp2_with fail
  refine (putInt_any _ _ _ _ _ _ o2.bytes i0 i1 (by omega)).mono ?_
  rintro e w3 ⟨a3, m3, c3, rfl, o3, b3⟩
  have q3 := Lib.hid o3.bytes.1
  have z3 : m3 ≤ 520 := by have := q3.out; simp at this; omega
  have c03 := bthen (b1.trans (b2.mono b1.size)) b3
  go_wp2_with fail
  refine (putRow_any _ _ _ _ _ _ _ _ _ o3.bytes (hr.mono c03) (by omega) (by omega)).mono ?_
  rintro e w4 ⟨a4, m4, c4, rfl, o4, b4⟩
  have c04 := bthen c03 b4
  go_wp2_with (at_builtin; refine stopHere ?_)
  refine atStop (appB rfl (.tmp 31) (.tmp 32) rfl (l := []) (m := l) (OwnB.nil _ w4.heap.size _ _) (hb.mono (c04.alloc c04.size _)) rfl rfl (by simp) (by simp; omega) ?_)
  intro a5 m5 c5 w5 o5 g5 _
  have b5 := bapp ((Below.refl _ w4).alloc (Nat.le_refl _) (.cells #[] 5)) (OwnB.nil _ w4.heap.size 5 _) (Nat.le_refl _) g5
  simp only [List.nil_append] at o5
  have c05 := bthen c04 b5
  go_wp2_with fail
  refine (refNum_any _ _ n0 n1).mono ?_
  rintro e w6 ⟨a6, m6, c6, rfl, o6, b6⟩
  have o5' := o5.below b6
  have q6 := Lib.hid o6.bytes.1
  go_wp2_with (at_builtin; refine stopHere ?_)
  refine atStop (appB rfl (.tmp 33) (.tmp 35) rfl o5' o6.bytes rfl rfl (Nat.le_trans b5.size b6.size) (by omega) ?_)
  intro a7 m7 c7 w7 o7 g7 _
  have b7 := bapp (bthen b5 b6) o5' (Nat.le_refl _) g7
  have c07 := c04.trans (b7.mono c04.size)
  go_wp2_with fail
  refine (refInt_any _ _ i0 i1).mono ?_
  rintro e w8 ⟨a8, m8, c8, rfl, o8, b8⟩
  have o7' := o7.below b8
  go_wp2_with (at_builtin; refine stopHere ?_)
  refine atStop (appB rfl (.tmp 36) (.tmp 38) rfl o7' o8.bytes rfl rfl (Nat.le_trans b7.size b8.size) (by simp; omega) ?_)
  intro a9 m9 c9 w9 o9 g9 _
  have b9 := bapp (b7.trans (b8.mono b7.size)) o7' (Nat.le_refl _) g9
  have c09 := c04.trans (b9.mono c04.size)
  go_wp2_with fail
  refine (refRow_any _ _ _ _ _ (hr.mono c09) (by omega)).mono ?_
  rintro e w10 ⟨a10, m10, c10, rfl, o10, b10⟩
  have o9' := o9.below b10
  go_wp2_with (at_builtin; refine stopHere ?_)
  refine atStop (appB rfl (.tmp 39) (.tmp 41) rfl o9' o10.bytes rfl rfl (Nat.le_trans b9.size b10.size) (by simp; omega) ?_)
  intro a11 m11 c11 w11 o11 g11 _
  have b11 := bapp (b9.trans (b10.mono b9.size)) o9' (Nat.le_refl _) g11
  have c011 := c04.trans (b11.mono c04.size)
  have s1 := convStr (o4.bytes.mono b11) c4
  have s2 := convStr o11.bytes c11
  have s3 := convStr (o1.bytes.mono ((b2.trans (b3.mono b2.size)).trans ((b4.trans (b11.mono b4.size)).mono (b2.trans (b3.mono b2.size)).size))) c1
  have s4 := convStr (hb.mono c011) cap
  simp only [List.append_assoc] at s1 s2
  go_wp2_with fail
  refine (awake_any _).mono ?_
  rintro e w' ⟨rfl, hbel⟩
  go_wp2
  go_ret
  exact ⟨rfl, bthen c011 hbel⟩
end Pk
end Go.Proofs.Ytcmmnfeodmjpkaa
