/- The walk of the law SumTurns: it returns true. -/
import Derived.Test.YtcmmnfeodmjpkaaSumX
import Derived.Test.YtcmmnfeodmjpkaaSeatB
import Derived.Test.YtcmmnfeodmjpkaaRegion
namespace Go.Proofs.Ytcmmnfeodmjpkaa
open Go.RowKit
set_option linter.unusedVariables false
namespace Sm
theorem xor8 (x y : UInt8) : bits .xor .u8 (x.toNat : Int) (y.toNat : Int) = ((x ^^^ y).toNat : Int) := by
  rw [u8_xor_nat _ _ x.toNat_lt y.toNat_lt, UInt8.toNat_xor]

theorem run_min3 (P : Program) (n la lb lc : Nat) (h1 : n ≤ la) (h2 : n ≤ lb) (h3 : n ≤ lc) (h : n = la ∨ n = lb ∨ n = lc) (ts : Array TypeId) (t : TypeId) (wx : World) :
    (Builtin.min_ ts t #[.int .i64 (la : Int), .int .i64 (lb : Int), .int .i64 (lc : Int)]).run P wx = .ok (.int .i64 (n : Int)) wx := by
  simp [Builtin.min_, Builtin.min2]
  split <;> split <;> omega

theorem xs_take (k : Nat) (a b : List UInt8) (h1 : k < a.length) (h2 : k < b.length) : (xs a b).take (k + 1) = (xs a b).take k ++ [a[k] ^^^ b[k]] := by
  rw [List.take_succ_eq_append_getElem (by simp [xs]; omega)]
  simp [xs]

theorem min_of (la lb lc : Nat) : ∃ n, n ≤ la ∧ n ≤ lb ∧ n ≤ lc ∧ (n = la ∨ n = lb ∨ n = lc) := ⟨min la (min lb lc), by omega, by omega, by omega, by omega⟩

set_option maxHeartbeats 1600000 in
theorem turns_walk (n : Nat) (hn : n ≤ 2000) (w : World) (a : Option Addr) (la : Nat) (capa : Nat) (l : List UInt8) (hl : Bytes w a la l) (b : Option Addr) (lb : Nat) (capb : Nat) (m : List UInt8) (hm : Bytes w b lb m) (c : Option Addr) (lc : Nat) (capc : Nat) (r : List UInt8) (hr : Bytes w c lc r)
    (h1 : n ≤ la) (h2 : n ≤ lb) (h3 : n ≤ lc) (e1 : la ≤ capa) (e2 : lb ≤ capb) (e3 : lc ≤ capc) (f1 : capa ≤ 9223372036854775807) (f2 : capb ≤ 9223372036854775807) (f3 : capc ≤ 9223372036854775807)
    (hmin : n = la ∨ n = lb ∨ n = lc) :
    Calls Try.prog 8 #[.slice a la capa, .slice b lb capb, .slice c lc capc] w fun e w' => e = .returned (.bool true) ∧ Below w.heap.size w w' := by
  have hmn := run_min3 Try.prog n la lb lc h1 h2 h3 hmin
  obtain rfl := hl.1
  obtain rfl := hm.1
  obtain rfl := hr.1
  have HL := Lib.hid hl.at
  have HM := Lib.hid hm.at
  have HR := Lib.hid hr.at
  have b0 := Below.refl w.heap.size w
  have HMN := Lib.hid hmin
  clear hmin
  obtain ⟨X, hX⟩ : ∃ X, X = xs (xs (l.take n) (m.take n)) (r.take n) := ⟨_, rfl⟩
  have hXl : X.length = n := by rw [hX]; simp [xs]; omega
  have HX := Lib.hid hX
  have HXL := Lib.hid hXl
  clear hX hXl
  go_enter Try.func8, Try.ntmps8
  go_wp2
  go_loopw [8, 9] (fun out i wr => ∃ (k : Nat) (a' : Option Addr) (m' c' : Nat), k ≤ n ∧ i = .int .i64 k ∧ out = .slice a' m' c' ∧ OwnB wr w.heap.size 5 (.slice a' m' c') (X.take k) ∧ Below w.heap.size w wr) (fun _ i _ => n - (intOf i).toNat)
  case atStart => exact ⟨0, _, 0, 0, by omega, rfl, rfl, OwnB.nil _ _ _ _, b0.alloc b0.size _⟩
  case round =>
    obtain ⟨k, a', m', c', hk, rfl, rfl, o, bl⟩ := hrel
    by_cases hlt : k < n
    · obtain ⟨p1, q1, ha, hc1⟩ := HL.out k (by omega)
      obtain ⟨p2, q2, hb, hc2⟩ := HM.out k (by omega)
      obtain ⟨p3, q3, hc, hc3⟩ := HR.out k (by omega)
      subst ha hb hc
      have hi1 : (k : Int) < (l.length : Int) := by omega
      have hi2 : (k : Int) < (m.length : Int) := by omega
      have hi3 : (k : Int) < (r.length : Int) := by omega
      have hst : X.take (k + 1) = X.take k ++ [l[k] ^^^ m[k] ^^^ r[k]] := by
        rw [HX.out, xs_take k _ _ (by simp [xs]; omega) (by simp; omega)]
        simp [xs]
      have HST := Lib.hid hst
      have x1 := xor8 l[k] m[k]
      have x2 := xor8 (l[k] ^^^ m[k]) r[k]
      have d1 := bl.cell (p := ⟨p1, q1 + k, none⟩) (World.block_lt_of_cell? w _ hc1)
      have d2 := bl.cell (p := ⟨p2, q2 + k, none⟩) (World.block_lt_of_cell? w _ hc2)
      have d3 := bl.cell (p := ⟨p3, q3 + k, none⟩) (World.block_lt_of_cell? w _ hc3)
      rw [hc1] at d1
      rw [hc2] at d2
      rw [hc3] at d3
      generalize l[k] ^^^ m[k] ^^^ r[k] = z at *
      generalize l[k] ^^^ m[k] = y at *
      generalize l[k] = c1 at *
      generalize m[k] = c2 at *
      generalize r[k] = c3 at *
      clear hst
      have HC := Lib.hid hc1
      go_wp2
      go_region_held3 (fun w' => w'.cell? ⟨p1, q1 + k, none⟩ = some (.int .u8 (c1.toNat : Int)) ∧ w'.cell? ⟨p2, q2 + k, none⟩ = some (.int .u8 (c2.toNat : Int)) ∧ w'.cell? ⟨p3, q3 + k, none⟩ = some (.int .u8 (c3.toNat : Int)))
        (first | go_keep | exact ⟨cell_later b2 hc1, cell_later b2 hc2, cell_later b2 hc3⟩)
        ((refine wp_appB (.tmp 26) (.tmp 41) (by rfl) (m := [z]) ((o.below (below_drewN wr 1)).below (balloc _ _)) (newBytes _ [z] _ _ (by simp [maxLen])) (by rfl) (by rfl) (by have := bl.size; simp; omega) (by have := HXL.out; simp; omega) ?_; intro a2 m2 cp2 w2 o2 g2; have b2 := bapp ((bl.trans ((below_drewN wr 1).mono bl.size)).alloc (by have := bl.size; simp; omega) _) ((o.below (below_drewN wr 1)).below (balloc _ _)) (Nat.le_refl _) g2))
      go_wp2
      refine ⟨⟨k + 1, a2, m2, cp2, by omega, by go_num, rfl, by rw [HST.out]; exact o2, b2⟩, by simp [intOf]; omega⟩
    · obtain rfl : k = n := by omega
      have hxx : X.take k = X := List.take_of_length_le (by have := HXL.out; omega)
      rw [hxx] at o
      have s1 := fun N : ExtW wr.heap.size wr => o.bytes.mono N.h
      have s2 := fun N : ExtW wr.heap.size wr => (hl.take k (by omega)).mono (bl.trans (N.h.mono bl.size))
      have s3 := fun N : ExtW wr.heap.size wr => (hm.take k (by omega)).mono (bl.trans (N.h.mono bl.size))
      have s4 := fun N : ExtW wr.heap.size wr => (hr.take k (by omega)).mono (bl.trans (N.h.mono bl.size))
      have S1 := Lib.hid s1
      have S2 := Lib.hid s2
      have S3 := Lib.hid s3
      have S4 := Lib.hid s4
      clear s1 s2 s3 s4
      have t1 := xor32 (ofS (l.take k)) (ofS (m.take k)) (ofS_lt _) (ofS_lt _)
      have t2 := xor32 (ofS (l.take k) ^^^ ofS (m.take k)) (ofS (r.take k)) (Nat.xor_lt_two_pow (n := 32) (ofS_lt _) (ofS_lt _)) (ofS_lt _)
      have t3 : ofS X = ofS (l.take k) ^^^ ofS (m.take k) ^^^ ofS (r.take k) := by
        rw [HX.out]
        exact turns _ _ _ (by simp; omega) (by simp; omega)
      rw [← t3] at t2
      clear t3
      obtain ⟨i8, hi8, _, _, _⟩ := info_parts info_u8
      have z1 := run_slice_to (P := Try.prog) Try.underlying22 hi8 a l.length capa k (by omega)
      have z2 := run_slice_to (P := Try.prog) Try.underlying22 hi8 b m.length capb k (by omega)
      have z3 := run_slice_to (P := Try.prog) Try.underlying22 hi8 c r.length capc k (by omega)
      clear hi8
      go_wp2
      refine wp_region_ext wr.heap.size wr (Below.refl _ _) (by kernel_rfl) (by kernel_rfl) ?_
      repeat (go_big_quiet_step (first | (go_at_call 34; first | exact ext_call _ (Nat.le_refl _) (of_any _ _ _ X _ (S1.out _)) | exact ext_call _ (Nat.le_refl _) (of_any _ _ _ (l.take k) _ (S2.out _)) | exact ext_call _ (Nat.le_refl _) (of_any _ _ _ (m.take k) _ (S3.out _)) | exact ext_call _ (Nat.le_refl _) (of_any _ _ _ (r.take k) _ (S4.out _))) | (go_at_call 33; exact ext_call _ (Nat.le_refl _) (awake_any _))))
      refine wpQuiet_nil ?_
      rintro _ ⟨N, rfl⟩
      go_wp2
      go_ret
      exact ⟨rfl, bl.trans (N.h.mono bl.size)⟩

theorem turns_far (n : Nat) (hn : 2000 < n) (w : World) (a : Option Addr) (la : Nat) (capa : Nat) (b : Option Addr) (lb : Nat) (capb : Nat) (c : Option Addr) (lc : Nat) (capc : Nat)
    (h1 : n ≤ la) (h2 : n ≤ lb) (h3 : n ≤ lc) (f1 : la ≤ 9223372036854775807) (f2 : lb ≤ 9223372036854775807) (f3 : lc ≤ 9223372036854775807) (hmin : n = la ∨ n = lb ∨ n = lc) :
    Calls Try.prog 8 #[.slice a la capa, .slice b lb capb, .slice c lc capc] w fun e w' => e = .returned (.bool true) ∧ Below w.heap.size w w' := by
  have hmn := run_min3 Try.prog n la lb lc h1 h2 h3 hmin
  have HMN := Lib.hid hmin
  clear hmin
  go_enter Try.func8, Try.ntmps8
  go_wp2_with fail
  refine (awake_any _).mono ?_
  rintro e w' ⟨rfl, hbel⟩
  go_wp2
  go_ret
  exact ⟨rfl, hbel⟩

theorem sumTurns (w : World) (a : Option Addr) (capa : Nat) (l : List UInt8) (hl : Bytes w a l.length l) (ca : l.length ≤ capa ∧ capa ≤ maxLen) (b : Option Addr) (capb : Nat) (m : List UInt8) (hm : Bytes w b m.length m) (cb : m.length ≤ capb ∧ capb ≤ maxLen) (c : Option Addr) (capc : Nat) (r : List UInt8) (hr : Bytes w c r.length r) (cc : r.length ≤ capc ∧ capc ≤ maxLen) :
    Calls Try.prog 8 #[.slice a l.length capa, .slice b m.length capb, .slice c r.length capc] w fun e w' => e = .returned (.bool true) ∧ Below w.heap.size w w' := by
  obtain ⟨n, h1, h2, h3, h4⟩ := min_of l.length m.length r.length
  obtain ⟨a1, a2⟩ := ca
  obtain ⟨b1, b2⟩ := cb
  obtain ⟨c1, c2⟩ := cc
  unfold maxLen at a2 b2 c2
  by_cases hn : 2000 < n
  · exact turns_far n hn w a _ capa b _ capb c _ capc h1 h2 h3 (by omega) (by omega) (by omega) h4
  · exact turns_walk n (by omega) w a _ capa l hl b _ capb m hm c _ capc r hr h1 h2 h3 a1 b1 c1 (by omega) (by omega) (by omega) h4
end Sm
end Go.Proofs.Ytcmmnfeodmjpkaa
