/- The walks of a reader's Int and Row, and of a nil reader. Conditions: the reader lies in a block of its own; its bytes can be read and are fewer than 2^46. -/
import Derived.Test.YtcmmnfeodmjpkaaReadW
namespace Go.Proofs.Ytcmmnfeodmjpkaa
open Go.RowKit
set_option linter.unusedVariables false
namespace Pk

theorem zag_eq (n : Nat) (h : n ≤ 18446744073709551615) : bits .xor .i64 ((n : Int) / 2) (wrap64 (-wrap64 (bits .and .u64 (n : Int) 1))) = zag n := by
  rw [show (1 : Int) = ((1 : Nat) : Int) from rfl, u64_and_nat n 1 (by omega) (by omega), Nat.and_one_is_mod]
  have hx : (n : Int) / 2 = ((n / 2 : Nat) : Int) := by omega
  rw [hx]
  have hlt : n / 2 < 9223372036854775808 := by omega
  unfold zag
  by_cases h1 : n % 2 = 1
  · rw [h1, if_pos rfl]
    have e : wrap64 (-wrap64 ((1 : Nat) : Int)) = -1 := by simp only [wrap64]; omega
    rw [e]
    generalize n / 2 = m at *
    show IntKind.i64.wrap (((BitVec.ofInt 64 (m : Int) ^^^ BitVec.ofInt 64 (-1)).toNat : Nat) : Int) = _
    have ea : BitVec.ofInt 64 (-1) = BitVec.allOnes 64 := by decide
    have em : (BitVec.ofInt 64 (m : Int)).toNat = m := by simp; omega
    rw [ea, BitVec.xor_allOnes, BitVec.toNat_not, em, IntKind.wrap_i64]
    omega
  · rw [show n % 2 = 0 from by omega, if_neg (by omega)]
    have e : wrap64 (-wrap64 ((0 : Nat) : Int)) = 0 := by simp only [wrap64]; omega
    rw [e]
    generalize n / 2 = m at *
    show IntKind.i64.wrap (((BitVec.ofInt 64 (m : Int) ^^^ BitVec.ofInt 64 0).toNat : Nat) : Int) = _
    have em : (BitVec.ofInt 64 (m : Int)).toNat = m := by simp; omega
    rw [show BitVec.ofInt 64 0 = 0#64 from rfl, BitVec.xor_zero, em, IntKind.wrap_i64]
    omega

theorem int_any (w : World) (rb : Nat) (l : List UInt8) (e : Nat) (h : Rd w rb l e) :
    Calls Try.prog 51 #[.pointer (some ⟨rb, 0, none⟩)] w fun en w' =>
      en = .returned (.int .i64 (zag (numS 18446744073709551615 l e).1)) ∧ Rd w' rb (numS 18446744073709551615 l e).2.1 (numS 18446744073709551615 l e).2.2 ∧ w.grownBy w' (some rb) := by
  have hle := (numS_le (most := 18446744073709551615) (by omega) l e).1
  go_enter Try.func51, Try.ntmps51
  go_wp2_with fail
  refine (num_any w rb l e _ h (by omega) (by omega)).mono ?_
  rintro en w' ⟨rfl, hr, hg⟩
  simp only [show Int.toNat 18446744073709551615 = 18446744073709551615 from rfl] at hr ⊢
  generalize hq : (numS 18446744073709551615 l e).1 = n at *
  go_wp2
  go_ret
  exact ⟨ret_int (by rw [zag_eq n hle, ← hq]), hr, hg⟩

theorem max_eq (most : Int) (h0 : -9223372036854775808 ≤ most) (h1 : most ≤ 9223372036854775807) : IntKind.u64.wrap (max most 0) = max most 0 := by
  rw [IntKind.wrap_u64]; omega

/-- what is owned stays where a reader's block is written -/
theorem own_past {w1 w2 : World} {b0 b1 rb : Nat} {T : TypeId} {v : Value} {l : List UInt8} (o : OwnB w1 b1 T v l) (hg : w1.grownBy w2 (some rb)) (hr : rb < b1) (hb : b0 ≤ b1) : OwnB w2 b0 T v l :=
  Own.base (OwnB.kept o hg (fun k hk => by have := (OwnB.lt o k hk).1; simp; omega)) hb

/-- the result of Row: a slice of bytes; the reader behind it -/
def RowPost (w : World) (rb : Nat) (most : Int) (l : List UInt8) (e : Nat) (en : Ending) (w' : World) : Prop :=
  ∃ a m cap, en = .returned (.slice a m cap) ∧ OwnB w' w.heap.size 5 (.slice a m cap) (rowS most l e).1 ∧ Rd w' rb (rowS most l e).2.1 (rowS most l e).2.2 ∧ w.grownBy w' (some rb)

set_option maxHeartbeats 400000 in
theorem row_any (w : World) (rb : Nat) (l : List UInt8) (e : Nat) (most : Int) (h : Rd w rb l e) (h0 : -9223372036854775808 ≤ most) (h1 : most ≤ 9223372036854775807) (hsmall : l.length ≤ 70368744177664) :
    Calls Try.prog 48 #[.pointer (some ⟨rb, 0, none⟩), .int .i64 most] w (RowPost w rb most l e) := by
  have hle := numS_le (most := 18446744073709551615) (by omega) l e
  go_enter Try.func48, Try.ntmps48
  go_wp2_with fail
  refine (num_any w rb l e _ h (by omega) (by omega)).mono ?_
  rintro en w' ⟨rfl, hr, hg⟩
  simp only [show Int.toNat 18446744073709551615 = 18446744073709551615 from rfl] at hr ⊢
  have hspec : rowS most l e = if (numS 18446744073709551615 l e).2.2 ≠ 0 then ([], (numS 18446744073709551615 l e).2.1, (numS 18446744073709551615 l e).2.2)
    else if max most 0 < ((numS 18446744073709551615 l e).1 : Int) then ([], (numS 18446744073709551615 l e).2.1, 4)
    else if (numS 18446744073709551615 l e).2.1.length < (numS 18446744073709551615 l e).1 then ([], (numS 18446744073709551615 l e).2.1, 2)
    else ((numS 18446744073709551615 l e).2.1.take (numS 18446744073709551615 l e).1, (numS 18446744073709551615 l e).2.1.drop (numS 18446744073709551615 l e).1, 0) := rfl
  generalize (numS 18446744073709551615 l e).1 = n at *
  generalize (numS 18446744073709551615 l e).2.1 = l1 at *
  generalize (numS 18446744073709551615 l e).2.2 = e1 at *
  obtain ⟨hle1, hle2⟩ := hle
  have HSP := Lib.hid hspec
  clear hspec
  have hmx := max_eq most h0 h1
  by_cases he : e1 = 0
  · subst he
    by_cases hz : most < 0
    all_goals
      go_wp2_with fail
      refine (dead_any _ _ _ _ hr).mono ?_
      rintro en w1 ⟨rfl, rfl⟩
      by_cases hm : max most 0 < (n : Int)
      · have hE : rowS most l e = ([], l1, 4) := by rw [HSP.out, if_neg (by omega), if_pos hm]
        have HE := Lib.hid hE
        clear hE
        go_wp2_with fail
        refine (fail_any _ _ _ 4 hr).mono ?_
        rintro en w1 ⟨rfl, rfl⟩
        go_wp2
        go_ret
        refine ⟨none, 0, 0, rfl, ?_⟩
        rw [HE.out]
        exact ⟨OwnB.nil _ _ _ _, Rd.set1 hr 4, grown_trans hg (grown_set _ _ _ _)⟩
      · obtain ⟨a, n1, cp, hh, hb, hnc⟩ := id hr
        obtain ⟨c0, c1, f0, f1⟩ := rd_cell0 hh
        obtain rfl := hb.1
        have HH := Lib.hid hh
        clear hh
        by_cases hs : l1.length < n
        · first
          | (exfalso; omega)
          | (have hE : rowS most l e = ([], l1, 2) := by rw [HSP.out, if_neg (by omega), if_neg hm, if_pos hs]
             have HE := Lib.hid hE
             clear hE
             go_wp2_with fail
             refine (fail_any _ _ _ 2 hr).mono ?_
             rintro en w1 ⟨rfl, rfl⟩
             go_wp2
             go_ret
             refine ⟨none, 0, 0, rfl, ?_⟩
             rw [HE.out]
             exact ⟨OwnB.nil _ _ _ _, Rd.set1 hr 2, grown_trans hg (grown_set _ _ _ _)⟩)
        · have hE : rowS most l e = (l1.take n, l1.drop n, 0) := by rw [HSP.out, if_neg (by omega), if_neg hm, if_neg hs]
          have HE := Lib.hid hE
          clear hE
          have hnl : n ≤ l1.length := by omega
          go_wp2_with fail
          refine (clone_any _ _ _ _ _ (hb.take n hnl) (by omega)).mono ?_
          rintro en w2 ⟨a2, m2, c2, rfl, o2, b2⟩
          have HH2 := HH.out
          rw [← b2.block rb (Array.getElem?_eq_some_iff.1 HH2).1] at HH2
          obtain ⟨c0', c1', f0', f1'⟩ := rd_cell0 HH2
          have HH3 := Lib.hid HH2
          clear HH2 c0 c1 f0 f1
          have bl : w'.grownBy w2 (some rb) := grown_below b2
          have hb2 := hb.mono b2
          by_cases hcap : cp = n
          · have hcap' : (cp : Int) = (n : Int) := by omega
            have HC := Lib.hid hcap
            clear hcap
            go_wp2
            go_ret
            obtain ⟨r1, r2⟩ := rd_after HH3.out hb2 hnc n hnl a _ rfl (.inl HC.out)
            refine ⟨a2, m2, c2, rfl, ?_⟩
            rw [HE.out]
            exact ⟨own_past o2 r2 (Rd.lt hr) hg.size, r1, grown_trans (grown_trans hg bl) r2⟩
          · have hcap' : ¬ ((cp : Int) = (n : Int)) := by omega
            go_wp2
            go_ret
            obtain ⟨r1, r2⟩ := rd_after' HH3.out hb2 hnc n hnl
            refine ⟨a2, m2, c2, rfl, ?_⟩
            rw [HE.out]
            exact ⟨own_past o2 r2 (Rd.lt hr) hg.size, r1, grown_trans (grown_trans hg bl) r2⟩
  · have hE : rowS most l e = ([], l1, e1) := by rw [HSP.out, if_pos he]
    have HE := Lib.hid hE
    clear hE
    have he' : ((e1 : Int) != 0) = true := by simp; omega
    go_wp2_with fail
    refine (dead_any _ _ _ _ hr).mono ?_
    rintro en w1 ⟨rfl, rfl⟩
    go_wp2
    go_ret
    refine ⟨none, 0, 0, rfl, ?_⟩
    rw [HE.out]
    exact ⟨OwnB.nil _ _ _ _, hr, hg⟩

theorem nil_dead (w : World) :
    Calls Try.prog 63 #[.pointer none] w fun en w' => en = .returned (.bool true) ∧ w = w' := by
  go_enter Try.func63, Try.ntmps63
  go_wp2
  go_ret
  exact ⟨rfl, rfl⟩

theorem nil_fail (k : Int) (w : World) :
    Calls Try.prog 50 #[.pointer none, .int .i64 k] w fun en w' => en = .returned (.tuple #[]) ∧ w = w' := by
  go_enter Try.func50, Try.ntmps50
  go_wp2
  go_end0
  exact ⟨rfl, rfl⟩

theorem nil_end (w : World) :
    Calls Try.prog 49 #[.pointer none] w fun en w' => en = .returned (.int .i64 1) ∧ w = w' := by
  go_enter Try.func49, Try.ntmps49
  go_wp2
  go_ret
  exact ⟨rfl, rfl⟩

theorem nil_num (most : Int) (w : World) :
    Calls Try.prog 47 #[.pointer none, .int .u64 most] w fun en w' => en = .returned (.int .u64 0) ∧ w = w' := by
  go_enter Try.func47, Try.ntmps47
  go_wp2_with fail
  refine (nil_dead _).mono ?_
  rintro en w' ⟨rfl, rfl⟩
  go_wp2
  go_ret
  exact ⟨rfl, rfl⟩

theorem nil_int (w : World) :
    Calls Try.prog 51 #[.pointer none] w fun en w' => en = .returned (.int .i64 0) ∧ w = w' := by
  have hz := zag_eq 0 (by omega)
  rw [show zag 0 = 0 from rfl] at hz
  simp only [show ((0 : Nat) : Int) = 0 from rfl, show (0 : Int) / 2 = 0 from rfl] at hz
  have HZ := Lib.hid hz
  clear hz
  go_enter Try.func51, Try.ntmps51
  go_wp2_with fail
  refine (nil_num _ _).mono ?_
  rintro en w' ⟨rfl, rfl⟩
  go_wp2
  go_ret
  exact ⟨ret_int HZ.out, rfl⟩

theorem nil_row (long : Int) (w : World) :
    Calls Try.prog 48 #[.pointer none, .int .i64 long] w fun en w' => en = .returned (.slice none 0 0) ∧ w = w' := by
  go_enter Try.func48, Try.ntmps48
  go_wp2_with fail
  refine (nil_num _ _).mono ?_
  rintro en w' ⟨rfl, rfl⟩
  go_wp2_with fail
  refine (nil_dead _).mono ?_
  rintro en w' ⟨rfl, rfl⟩
  go_wp2
  go_ret
  exact ⟨rfl, rfl⟩
end Pk
end Go.Proofs.Ytcmmnfeodmjpkaa
