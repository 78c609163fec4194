/- The walk of the law BallotCuts: it returns true. -/
import Derived.Test.YtcmmnfeodmjpkaaBalG
namespace Go.Proofs.Ytcmmnfeodmjpkaa
open Go.RowKit
set_option linter.unusedVariables false
namespace Bl

theorem numB_pos (x : Nat) : 0 < (Pk.numB x).length := by
  rcases Nat.lt_or_ge x 128 with h | h
  · rw [Pk.numB_lo h]; simp
  · rw [Pk.numB_hi h]; simp

theorem putB_eq (b : B) : putB b = Pk.numB b.c ++ (Pk.numB b.n ++ Pk.numB b.l) := by
  show (([] ++ Pk.numB b.c) ++ Pk.numB b.n) ++ Pk.numB b.l = _
  simp
theorem putB_long (b : B) : 2 < (putB b).length := by
  have h1 := numB_pos b.c
  have h2 := numB_pos b.n
  have h3 := numB_pos b.l
  rw [putB_eq]; simp; omega

/-- a ballot that is cut off is short -/
theorem s3_cut (b : B) (k : Nat) (hk : k < (putB b).length) : (s3 ((putB b).take k) 0).2.2 = 2 := by
  have hn := b.hn
  have hl := b.hl
  rw [putB_eq] at hk ⊢
  simp only [List.length_append] at hk
  unfold s3 s2 s1 m64
  by_cases h1 : k < (Pk.numB b.c).length
  · rw [List.take_append_of_le_length (by omega), Pk.numS_cut _ b.hc h1]
    simp only
    rw [Pk.numS_bad (most := 255) (e := 2) (by omega)]
    simp only
    rw [Pk.numS_bad (e := 2) (by omega)]
  · rw [List.take_append, List.take_of_length_le (by omega), Pk.numS_put (x := b.c) (most := 18446744073709551615) b.hc (by have := b.hc; omega)]
    simp only
    by_cases h2 : k - (Pk.numB b.c).length < (Pk.numB b.n).length
    · rw [List.take_append_of_le_length (by omega), Pk.numS_cut (x := b.n) _ (by omega) h2]
      simp only
      rw [Pk.numS_bad (by omega)]
    · rw [List.take_append, List.take_of_length_le (by omega), Pk.numS_put (x := b.n) (most := 255) (by omega) (by omega)]
      simp only
      rw [Pk.numS_cut (x := b.l) _ (by omega) (by omega)]

theorem cuts_far (w : World) (b : B) (cut : Int) (hc : -9223372036854775808 ≤ cut ∧ cut ≤ 9223372036854775807) (h : cut < 0 ∨ ((putB b).length : Int) ≤ cut) :
    Calls Try.prog 16 #[b.v, .int .i64 cut] w fun e w' => e = .returned (.bool true) ∧ Below w.heap.size w w' := by
  have hlong := putB_long b
  have HB := Lib.hid (balloc w)
  have PT := Lib.hid (fun w => put_any none 0 0 [] b w (Bytes.nil _ _) (by omega))
  generalize hp : putB b = p at *
  clear hp
  unfold B.v at *
  have h1 : (2 : Int) < (p.length : Int) := by omega
  by_cases h0 : cut < 0
  · clear h hlong
    go_enter Try.func16, Try.ntmps16
    go_wp2_with fail
    refine (PT.out _).mono ?_
    rintro e w1 ⟨a1, m1, c1, rfl, o1, b1⟩
    have hm := o1.bytes.1
    simp only [List.nil_append] at hm
    obtain rfl := hm
    have c01 := bthen (HB.out _) b1
    clear o1
    go_wp2_with fail
    refine (awake_any _).mono ?_
    rintro e w2 ⟨rfl, b2⟩
    go_wp2
    go_ret
    exact ⟨rfl, bthen c01 b2⟩
  · have h2 : (p.length : Int) ≤ cut := by omega
    clear h hlong
    go_enter Try.func16, Try.ntmps16
    go_wp2_with fail
    refine (PT.out _).mono ?_
    rintro e w1 ⟨a1, m1, c1, rfl, o1, b1⟩
    have hm := o1.bytes.1
    simp only [List.nil_append] at hm
    obtain rfl := hm
    have c01 := bthen (HB.out _) b1
    clear o1
    go_wp2_with fail
    refine (awake_any _).mono ?_
    rintro e w2 ⟨rfl, b2⟩
    go_wp2
    go_ret
    exact ⟨rfl, bthen c01 b2⟩

theorem cuts_near (w : World) (b : B) (k : Nat) (h : k < (putB b).length) :
    Calls Try.prog 16 #[b.v, .int .i64 (k : Int)] w fun e w' => e = .returned (.bool true) ∧ Below w.heap.size w w' := by
  have HB := Lib.hid (balloc w)
  have PT := Lib.hid (fun w => put_any none 0 0 [] b w (Bytes.nil _ _) (by omega))
  have hs3 := s3_cut b k h
  have HLN : (putB b).length ≤ 30 := pre_len b 3
  have GB := Lib.hid (fun w rb (hr : Rd w rb ((putB b).take k) 0) => get_bad w rb _ 0 hr (by rw [hs3]; omega) (by rw [hs3]; omega))
  rw [hs3] at GB
  generalize hp : putB b = p at *
  clear hp hs3
  unfold B.v at *
  have h1 : (k : Int) < (p.length : Int) := by omega
  obtain ⟨i8, hi8, _, _, _⟩ := info_parts info_u8
  have z1 := fun a cap (hk : k ≤ cap) => run_slice_to (P := Try.prog) Try.underlying22 hi8 a p.length cap k hk
  have Z1 := Lib.hid z1
  clear z1 hi8
  go_enter Try.func16, Try.ntmps16
  go_wp2_with fail
  refine (PT.out _).mono ?_
  rintro e w1 ⟨a1, m1, c1, rfl, o1, b1⟩
  have hm := o1.bytes.1
  simp only [List.nil_append] at hm o1
  obtain rfl := hm
  have hcp := o1.cap
  have c01 := bthen (HB.out _) b1
  have HT := Lib.hid (o1.bytes.take k (by omega))
  clear o1
  have z1 := Z1.out a1 c1 (by omega)
  go_wp2_with fail
  refine (Pk.new_any _ _ _ _ _ HT.out (by omega)).mono ?_
  rintro e w2 ⟨rb, rfl, hrb, r2, b2⟩
  have c02 := bthen c01 b2
  go_wp2_with fail
  refine (GB.out _ _ r2).mono ?_
  rintro e w3 ⟨rfl, e3, g3⟩
  have b3 : Below w.heap.size w2 w3 := below_grown g3 c02.size (fun k hk => by cases hk; exact Nat.le_trans c01.size hrb)
  have c03 := c02.trans b3
  unfold zero
  go_wp2_with fail
  refine (none_any zero _).mono ?_
  rintro e w4 ⟨rfl, b4⟩
  have c04 := bthen c03 b4
  rw [show isNone zero = true from rfl]
  have e4 : RdE w4 rb 2 := by
    obtain ⟨a, n, c, hh⟩ := e3
    exact ⟨a, n, c, by rw [b4.block rb (Array.getElem?_eq_some_iff.1 hh).1]; exact hh⟩
  clear e3 g3
  go_wp2_with fail
  refine (end_bad _ _ _ e4 (by omega)).mono ?_
  rintro e w5 ⟨rfl, rfl⟩
  go_wp2_with fail
  refine (awake_any _).mono ?_
  rintro e w6 ⟨rfl, b6⟩
  go_wp2
  go_ret
  exact ⟨rfl, bthen c04 b6⟩

theorem ballotCuts (w : World) (b : B) (cut : Int) (hc : -9223372036854775808 ≤ cut ∧ cut ≤ 9223372036854775807) :
    Calls Try.prog 16 #[b.v, .int .i64 cut] w fun e w' => e = .returned (.bool true) ∧ Below w.heap.size w w' := by
  by_cases h : cut < 0 ∨ ((putB b).length : Int) ≤ cut
  · exact cuts_far w b cut hc h
  · obtain ⟨k, rfl⟩ : ∃ k : Nat, cut = k := ⟨cut.toNat, by omega⟩
    exact cuts_near w b k (by omega)
end Bl
end Go.Proofs.Ytcmmnfeodmjpkaa
