/- The walks of the laws PackNil, PackBack, PackCuts: each returns true. -/
import Derived.Test.YtcmmnfeodmjpkaaReadX
import Derived.Test.YtcmmnfeodmjpkaaPackL
namespace Go.Proofs.Ytcmmnfeodmjpkaa
open Go.RowKit
set_option linter.unusedVariables false
namespace Pk

theorem packNil (w : World) (most : Int) (hm : 0 ≤ most ∧ most ≤ 18446744073709551615) (long : Int) (hl : -9223372036854775808 ≤ long ∧ long ≤ 9223372036854775807) :
    Calls Try.prog 14 #[.int .u64 most, .int .i64 long] w fun e w' => e = .returned (.bool true) ∧ Below w.heap.size w w' := by
  go_enter Try.func14, Try.ntmps14
  go_wp2_with fail
  refine (nil_fail _ _).mono ?_
  rintro en w' ⟨rfl, rfl⟩
  go_wp2_with fail
  refine (nil_num _ _).mono ?_
  rintro en w' ⟨rfl, rfl⟩
  go_wp2_with fail
  refine (nil_int _).mono ?_
  rintro en w' ⟨rfl, rfl⟩
  go_wp2_with fail
  refine (nil_row _ _).mono ?_
  rintro en w' ⟨rfl, rfl⟩
  go_wp2_with fail
  refine (nil_end _).mono ?_
  rintro en w' ⟨rfl, rfl⟩
  go_wp2_with fail
  refine (awake_any _).mono ?_
  rintro e w' ⟨rfl, hbel⟩
  go_wp2
  go_ret
  exact ⟨rfl, hbel⟩

/-- a call on a reader of the call's own leaves what was there -/
theorem brd {w wA w' : World} {rb : Nat} (hB : Below w.heap.size w wA) (hg : wA.grownBy w' (some rb)) (hb : w.heap.size ≤ rb) : Below w.heap.size w w' :=
  hB.trans (below_grown hg hB.size fun k hk => by simp at hk; omega)

set_option maxHeartbeats 800000 in
theorem packBack (w : World) (n : Int) (hn : 0 ≤ n ∧ n ≤ 18446744073709551615) (i : Int) (hi : -9223372036854775808 ≤ i ∧ i ≤ 9223372036854775807) (a : Option Addr) (cap : Nat) (r : List UInt8) (hr : Bytes w a r.length r) :
    Calls Try.prog 15 #[.int .u64 n, .int .i64 i, .slice a r.length cap] w fun e w' => e = .returned (.bool true) ∧ Below w.heap.size w w' := by
  by_cases h : 500 < r.length
  · go_enter Try.func15, Try.ntmps15
    go_wp2_with fail
    refine (awake_any _).mono ?_
    rintro e w' ⟨rfl, hbel⟩
    go_wp2
    go_ret
    exact ⟨rfl, hbel⟩
  · obtain ⟨n0, n1⟩ := hn
    obtain ⟨i0, i1⟩ := hi
    have hz := zig_lt i0 i1
    have ln := numB_len (n := n.toNat) (by omega)
    have li := numB_len (n := zig i) hz
    have lr := numB_len (n := r.length) (by omega)
    go_enter Try.func15, Try.ntmps15
    go_wp2_with fail
    refine (putNum_any _ _ _ [] _ _ (Bytes.nil _ _) n0 n1 (by omega)).mono ?_
    rintro e w2 ⟨a2, m2, c2, rfl, o2, b2⟩
    simp only [List.nil_append] at o2
    go_wp2_with fail
    refine (putInt_any _ _ _ _ _ _ o2.bytes i0 i1 (by have := o2.bytes.1; omega)).mono ?_
    rintro e w3 ⟨a3, m3, c3, rfl, o3, b3⟩
    have c03 := bthen b2 b3
    go_wp2_with fail
    refine (putRow_any _ _ _ _ _ _ _ _ _ o3.bytes (hr.mono c03) (by have := o3.bytes.1; simp at this; omega) (by omega)).mono ?_
    rintro e w4 ⟨a4, m4, c4, rfl, o4, b4⟩
    have c04 := bthen c03 b4
    simp only [List.append_assoc] at o4
    go_wp2_with fail
    refine (new_any _ _ _ _ _ o4.bytes (by have := o4.bytes.1; simp at this; omega)).mono ?_
    rintro e w5 ⟨rb, rfl, hrb, r5, b5⟩
    have c05 := bthen c04 b5
    have hrb0 : w.heap.size ≤ rb := Nat.le_trans c04.size hrb
    go_wp2_with fail
    refine (num_any _ _ _ _ _ r5 n0 n1).mono ?_
    rintro e w6 ⟨rfl, r6, g6⟩
    rw [numS_put (by omega) (by omega)] at r6 ⊢
    have c06 := brd c05 g6 hrb0
    go_wp2_with fail
    refine (int_any _ _ _ _ r6).mono ?_
    rintro e w7 ⟨rfl, r7, g7⟩
    rw [numS_put hz (by omega)] at r7 ⊢
    have c07 := brd c06 g7 hrb0
    go_wp2_with fail
    refine (row_any _ _ _ _ _ r7 (by omega) (by omega) (by simp; omega)).mono ?_
    rintro e w8 ⟨a8, m8, c8, rfl, o8, r8, g8⟩
    have hrow := rowS_put r [] (by omega)
    rw [List.append_nil] at hrow
    rw [hrow] at o8 r8
    clear hrow
    have c08 := brd c07 g8 hrb0
    have s1 := convStr o8.bytes c8
    have s2 := convStr (hr.mono c08) cap
    have hzz := Lib.hid (zag_zig i)
    simp only [hzz.out]
    go_wp2_with fail
    refine (end_any _ _ _ _ r8).mono ?_
    rintro e w9 ⟨rfl, rfl⟩
    rw [show ((endS [] 0 : Nat) : Int) = 0 from rfl]
    go_wp2_with fail
    refine (awake_any _).mono ?_
    rintro e w' ⟨rfl, hbel⟩
    go_wp2
    go_ret
    exact ⟨rfl, bthen c08 hbel⟩

/-- what is left of a number and a row, cut off, is short -/
theorem cut_short (n : Nat) (hn : n < 18446744073709551616) (row : List UInt8) (hr : row.length < 18446744073709551616) (k : Nat) (hk : k < (numB n ++ (numB row.length ++ row)).length) :
    (rowS row.length (numS n ((numB n ++ (numB row.length ++ row)).take k) 0).2.1 (numS n ((numB n ++ (numB row.length ++ row)).take k) 0).2.2).1 = [] ∧
    (rowS row.length (numS n ((numB n ++ (numB row.length ++ row)).take k) 0).2.1 (numS n ((numB n ++ (numB row.length ++ row)).take k) 0).2.2).2.2 = 2 := by
  by_cases h : k < (numB n).length
  · rw [List.take_append_of_le_length (by omega), numS_cut _ hn h]
    simp [rowS_bad]
  · rw [List.take_append, List.take_of_length_le (l := numB n) (by omega), numS_put hn (Nat.le_refl _)]
    exact rowS_cut row hr (k - (numB n).length) (by rw [List.length_append] at hk; omega)

set_option maxHeartbeats 800000 in
theorem packCuts (w : World) (n : Int) (hn : 0 ≤ n ∧ n ≤ 18446744073709551615) (a : Option Addr) (cap : Nat) (r : List UInt8) (hr : Bytes w a r.length r) (cut : Int) (hi : -9223372036854775808 ≤ cut ∧ cut ≤ 9223372036854775807) :
    Calls Try.prog 13 #[.int .u64 n, .slice a r.length cap, .int .i64 cut] w fun e w' => e = .returned (.bool true) ∧ Below w.heap.size w w' := by
  by_cases h : 500 < r.length
  · go_enter Try.func13, Try.ntmps13
    go_wp2_with fail
    refine (awake_any _).mono ?_
    rintro e w' ⟨rfl, hbel⟩
    go_wp2
    go_ret
    exact ⟨rfl, hbel⟩
  · obtain ⟨n0, n1⟩ := hn
    obtain ⟨i0, i1⟩ := hi
    have ln := numB_len (n := n.toNat) (by omega)
    have lr := numB_len (n := r.length) (by omega)
    go_enter Try.func13, Try.ntmps13
    go_wp2_with fail
    refine (putNum_any _ _ _ [] _ _ (Bytes.nil _ _) n0 n1 (by omega)).mono ?_
    rintro e w2 ⟨a2, m2, c2, rfl, o2, b2⟩
    simp only [List.nil_append] at o2
    go_wp2_with fail
    refine (putRow_any _ _ _ _ _ _ _ _ _ o2.bytes (hr.mono b2) (by have := o2.bytes.1; omega) (by omega)).mono ?_
    rintro e w4 ⟨a4, m4, c4, rfl, o4, b4⟩
    have c04 := bthen b2 b4
    simp only [List.append_assoc] at o4
    have hlen := Lib.hid o4.bytes.1
    have hm4 : r.length < m4 := by have := hlen.out; have := numB_pos n.toNat; rw [List.length_append, List.length_append] at *; omega
    have hm4' : m4 ≤ 520 := by have := hlen.out; rw [List.length_append, List.length_append] at this; omega
    by_cases hc : cut < 0 ∨ (m4 : Int) ≤ cut
    · by_cases hc0 : cut < 0
      · go_wp2_with fail
        refine (awake_any _).mono ?_
        rintro e w' ⟨rfl, hbel⟩
        go_wp2
        go_ret
        exact ⟨rfl, bthen c04 hbel⟩
      · have hc1 : (m4 : Int) ≤ cut := by omega
        clear hc
        go_wp2_with fail
        refine (awake_any _).mono ?_
        rintro e w' ⟨rfl, hbel⟩
        go_wp2
        go_ret
        exact ⟨rfl, bthen c04 hbel⟩
    · have hc0 : ¬ cut < 0 := by omega
      have hc1 : ¬ (m4 : Int) ≤ cut := by omega
      clear hc
      obtain ⟨k, rfl⟩ := Int.eq_ofNat_of_zero_le (show 0 ≤ cut by omega)
      have hk : k < m4 := by omega
      have hcap := o4.cap.1
      have hsh := cut_short n.toNat (by omega) r (by omega) k (by have := hlen.out; omega)
      have HSH := Lib.hid hsh
      clear hsh
      go_wp2_with fail
      refine (new_any _ _ _ _ _ (o4.bytes.take k (by omega)) (by omega)).mono ?_
      rintro e w5 ⟨rb, rfl, hrb, r5, b5⟩
      have c05 := bthen c04 b5
      have hrb0 : w.heap.size ≤ rb := Nat.le_trans c04.size hrb
      go_wp2_with fail
      refine (num_any _ _ _ _ _ r5 n0 n1).mono ?_
      rintro e w6 ⟨rfl, r6, g6⟩
      have c06 := brd c05 g6 hrb0
      have hsm := (numS_le (most := n.toNat) (by omega) (List.take k (numB n.toNat ++ (numB r.length ++ r))) 0).2
      go_wp2_with fail
      refine (row_any _ _ _ _ _ r6 (by omega) (by omega) (by simp at hsm; omega)).mono ?_
      rintro e w8 ⟨a8, m8, c8, rfl, o8, r8, g8⟩
      have c08 := brd c06 g8 hrb0
      rw [HSH.out.1] at o8
      rw [HSH.out.2] at r8
      have hm8 := o8.bytes.1
      subst hm8
      go_wp2_with fail
      refine (end_any _ _ _ _ r8).mono ?_
      rintro e w9 ⟨rfl, rfl⟩
      have he : ∀ l : List UInt8, ((endS l 2 : Nat) : Int) = 2 := fun l => rfl
      rw [he]
      clear he
      go_wp2_with fail
      refine (awake_any _).mono ?_
      rintro e w' ⟨rfl, hbel⟩
      go_wp2
      go_ret
      exact ⟨rfl, bthen c08 hbel⟩
end Pk
end Go.Proofs.Ytcmmnfeodmjpkaa
