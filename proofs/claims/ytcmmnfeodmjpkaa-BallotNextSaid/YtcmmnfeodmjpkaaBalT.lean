/- The walk of the law BallotOrder: it returns true. Conditions: each number lies in its kind. -/
import Derived.Test.YtcmmnfeodmjpkaaBalE
namespace Go.Proofs.Ytcmmnfeodmjpkaa
open Go.RowKit
set_option linter.unusedVariables false
namespace Bl

/-- three boxed ballots -/
def row (b : B) : Obj := .cells #[.int .u64 (b.c : Int), .int .u8 (b.n : Int), .int .u32 (b.l : Int)] 45
theorem row_cell {w W : World} (b : B) (h : Below (w.heap.size + 1) (w.alloc (row b)) W) : W.cell? ⟨w.heap.size, 0, none⟩ = some (.int .u64 (b.c : Int)) ∧ W.cell? ⟨w.heap.size, 1, none⟩ = some (.int .u8 (b.n : Int)) ∧ W.cell? ⟨w.heap.size, 2, none⟩ = some (.int .u32 (b.l : Int)) := by
  have e := h.block w.heap.size (by omega)
  simp only [World.cell?, e, heap_alloc_new]
  exact ⟨rfl, rfl, rfl⟩
theorem below_weak {B B' : Nat} {w w' : World} (h : Below B w w') (k : B' ≤ B) : Below B' w w' := h.mono k
theorem row3 (w : World) (a b c : B) : ∃ w3, w3 = ((w.alloc (row a)).alloc (row b)).alloc (row c) ∧ Below w.heap.size w w3 ∧ ∀ W, Below w3.heap.size w3 W →
    (W.cell? ⟨w.heap.size, 0, none⟩ = some (.int .u64 (a.c : Int)) ∧ W.cell? ⟨w.heap.size, 1, none⟩ = some (.int .u8 (a.n : Int)) ∧ W.cell? ⟨w.heap.size, 2, none⟩ = some (.int .u32 (a.l : Int))) ∧
    (W.cell? ⟨w.heap.size + 1, 0, none⟩ = some (.int .u64 (b.c : Int)) ∧ W.cell? ⟨w.heap.size + 1, 1, none⟩ = some (.int .u8 (b.n : Int)) ∧ W.cell? ⟨w.heap.size + 1, 2, none⟩ = some (.int .u32 (b.l : Int))) ∧
    (W.cell? ⟨w.heap.size + 1 + 1, 0, none⟩ = some (.int .u64 (c.c : Int)) ∧ W.cell? ⟨w.heap.size + 1 + 1, 1, none⟩ = some (.int .u8 (c.n : Int)) ∧ W.cell? ⟨w.heap.size + 1 + 1, 2, none⟩ = some (.int .u32 (c.l : Int))) := by
  refine ⟨_, rfl, ((balloc w _).alloc (balloc w _).size _).alloc ((balloc w _).alloc (balloc w _).size _).size _, fun W h => ?_⟩
  have s1 : (w.alloc (row a)).heap.size = w.heap.size + 1 := by simp
  have s2 : ((w.alloc (row a)).alloc (row b)).heap.size = w.heap.size + 1 + 1 := by simp
  have s3 : (((w.alloc (row a)).alloc (row b)).alloc (row c)).heap.size = w.heap.size + 1 + 1 + 1 := by simp
  have b2 : Below ((w.alloc (row a)).heap.size) (w.alloc (row a)) ((w.alloc (row a)).alloc (row b)) := balloc _ _
  have b3 : Below (((w.alloc (row a)).alloc (row b)).heap.size) ((w.alloc (row a)).alloc (row b)) (((w.alloc (row a)).alloc (row b)).alloc (row c)) := balloc _ _
  refine ⟨row_cell a ?_, ?_, ?_⟩
  · exact (b2.mono (by omega)).trans ((b3.mono (by omega)).trans (h.mono (by omega)))
  · have := row_cell (w := w.alloc (row a)) b (W := W) ((b3.mono (by omega)).trans (h.mono (by omega)))
    rw [s1] at this
    exact this
  · have := row_cell (w := (w.alloc (row a)).alloc (row b)) c (W := W) (h.mono (by omega))
    rw [s2] at this
    exact this


theorem cmpB_trans {a b c : B} (h1 : ¬ 0 < cmpB a b) (h2 : ¬ 0 < cmpB b c) : cmpB a c ≤ 0 := by
  rcases @cmpB_lt a b with ⟨h, k⟩ | ⟨h, k⟩ | ⟨h, k⟩ <;> rcases @cmpB_lt b c with ⟨g, m⟩ | ⟨g, m⟩ | ⟨g, m⟩ <;> rcases @cmpB_lt a c with ⟨e, n⟩ | ⟨e, n⟩ | ⟨e, n⟩ <;> rw [h] at h1 <;> rw [g] at h2 <;> rw [e] <;> omega

theorem isNone_same (a : B) : isNone a = same a zero := rfl

set_option maxHeartbeats 800000 in
theorem order_walk (w : World) (a b c : B) (x y z : Int) (d d2 : Bool) (e1 : cmpB a b = x) (e2 : cmpB b c = y) (e3 : cmpB a c = z) (ed : same a b = d) (ed2 : same a zero = d2) (hx1 : -1 ≤ x) (hx2 : x ≤ 1)
    (hS : (0 < x) ∨ (¬ 0 < x ∧ 0 < y) ∨ (¬ 0 < x ∧ ¬ 0 < y ∧ z ≤ 0)) (hd : (d = true ∧ x = 0) ∨ (d = false ∧ x = 1) ∨ (d = false ∧ x = -1)) :
    Calls Try.prog 9 #[a.v, b.v, c.v] w fun e w' => e = .returned (.bool true) ∧ Below w.heap.size w w' := by
  have L1 := Lib.hid (compare_any a b)
  have L2 := Lib.hid (compare_any b c)
  have L3 := Lib.hid (compare_any a c)
  have L4 := Lib.hid (refCompare_any a b)
  have L5 := Lib.hid (compare_any b a)
  have L7 := Lib.hid (@awake_any)
  rw [cmpB_neg a b, e1] at L5
  rw [e1] at L1 L4
  rw [e2] at L2
  rw [e3] at L3
  have L6 := Lib.hid (none_any a)
  rw [isNone_same, ed2] at L6
  have E1 := run_eql a b
  have E2 := run_eqz a
  rw [ed] at E1
  rw [ed2] at E2
  clear e1 e2 e3 ed ed2
  obtain ⟨w3, hw3, b3, hrow⟩ := row3 w a b c
  have HROW := Lib.hid hrow
  have RR := Lib.hid (fun N : ExtW w3.heap.size w3 => hrow _ N.h)
  clear hrow
  unfold B.v row at *
  obtain ⟨ac, an, al, k1, k2, k3⟩ := a
  obtain ⟨bc, bn, bl, k4, k5, k6⟩ := b
  obtain ⟨cc, cn, cl, k7, k8, k9⟩ := c
  simp only at *
  have HS := Lib.hid hS
  have HD := Lib.hid hd
  clear hS hd
  go_enter Try.func9, Try.ntmps9
  go_wp2
  rw [← hw3]
  have HW3 := Lib.hid hw3
  clear hw3
  have a1 := fun N : ExtW w3.heap.size w3 => (RR.out N).1.1
  have a2 := fun N : ExtW w3.heap.size w3 => (RR.out N).1.2.1
  have a3 := fun N : ExtW w3.heap.size w3 => (RR.out N).1.2.2
  have a4 := fun N : ExtW w3.heap.size w3 => (RR.out N).2.1.1
  have a5 := fun N : ExtW w3.heap.size w3 => (RR.out N).2.1.2.1
  have a6 := fun N : ExtW w3.heap.size w3 => (RR.out N).2.1.2.2
  have a7 := fun N : ExtW w3.heap.size w3 => (RR.out N).2.2.1
  have a8 := fun N : ExtW w3.heap.size w3 => (RR.out N).2.2.2.1
  have a9 := fun N : ExtW w3.heap.size w3 => (RR.out N).2.2.2.2
  refine wp_region_ext w3.heap.size w3 (Below.refl _ _) (by kernel_rfl) (by kernel_rfl) ?_
  repeat (go_big_quiet_step ((go_at_call 37; first | with_reducible exact ext_call _ (Nat.le_refl _) (L1.out _) | with_reducible exact ext_call _ (Nat.le_refl _) (L2.out _) | with_reducible exact ext_call _ (Nat.le_refl _) (L3.out _))))
  refine wpQuiet_nil ?_
  rintro _ ⟨N, rfl⟩
  obtain ⟨w4, b4⟩ := N
  simp only
  clear a1 a2 a3 a4 a5 a6 a7 a8 a9 RR
  obtain ⟨⟨p1, p2, p3⟩, ⟨p4, p5, p6⟩, ⟨p7, p8, p9⟩⟩ := HROW.out _ b4
  go_wp2_with fail
  refine (L4.out _).mono ?_
  rintro e w5 ⟨rfl, b5⟩
  have b35 := bthen b4 b5
  clear p1 p2 p3 p4 p5 p6 p7 p8 p9
  obtain ⟨⟨p1, p2, p3⟩, ⟨p4, p5, p6⟩, ⟨p7, p8, p9⟩⟩ := HROW.out _ b35
  go_wp2_with fail
  refine (L5.out _).mono ?_
  rintro e w6 ⟨rfl, b6⟩
  have b36 := bthen b35 b6
  clear p1 p2 p3 p4 p5 p6 p7 p8 p9
  obtain ⟨⟨p1, p2, p3⟩, ⟨p4, p5, p6⟩, ⟨p7, p8, p9⟩⟩ := HROW.out _ b36
  have q1 := fun N : ExtW w6.heap.size w6 => (HROW.out _ (bthen b36 N.h)).1.1
  have q2 := fun N : ExtW w6.heap.size w6 => (HROW.out _ (bthen b36 N.h)).1.2.1
  have q3 := fun N : ExtW w6.heap.size w6 => (HROW.out _ (bthen b36 N.h)).1.2.2
  have B6 := Lib.hid (b3.trans (b36.mono b3.size))
  clear b4 b5 b35 b6 b36
  rcases HD.out with ⟨rfl, rfl⟩ | ⟨rfl, rfl⟩ | ⟨rfl, rfl⟩
  · have hS : decide (0 < y) = true ∨ (decide (0 < y) = false ∧ decide (z ≤ 0) = true) := by have := HS.out; simp; omega
    have HT := Lib.hid hS
    clear HS hS
    go_wp2
    rcases HT.out with h | ⟨h, h2⟩
    · clear HT
      refine wp_region_ext w6.heap.size w6 (Below.refl _ _) (by kernel_rfl) (by kernel_rfl) ?_
      repeat (go_big_quiet_step (first | (go_at_call 39; with_reducible exact ext_call _ (Nat.le_refl _) (L6.out _)) | (go_at_call 40; with_reducible exact ext_call _ (Nat.le_refl _) (L7.out _))))
      refine wpQuiet_nil ?_
      rintro _ ⟨N, rfl⟩
      go_wp2
      go_ret
      exact ⟨rfl, B6.out.trans (N.h.mono B6.out.size)⟩
    · clear HT
      refine wp_region_ext w6.heap.size w6 (Below.refl _ _) (by kernel_rfl) (by kernel_rfl) ?_
      repeat (go_big_quiet_step (first | (go_at_call 39; with_reducible exact ext_call _ (Nat.le_refl _) (L6.out _)) | (go_at_call 40; with_reducible exact ext_call _ (Nat.le_refl _) (L7.out _))))
      refine wpQuiet_nil ?_
      rintro _ ⟨N, rfl⟩
      go_wp2
      go_ret
      exact ⟨rfl, B6.out.trans (N.h.mono B6.out.size)⟩
  · clear HS
    go_wp2
    refine wp_region_ext w6.heap.size w6 (Below.refl _ _) (by kernel_rfl) (by kernel_rfl) ?_
    repeat (go_big_quiet_step (first | (go_at_call 39; with_reducible exact ext_call _ (Nat.le_refl _) (L6.out _)) | (go_at_call 40; with_reducible exact ext_call _ (Nat.le_refl _) (L7.out _))))
    refine wpQuiet_nil ?_
    rintro _ ⟨N, rfl⟩
    go_wp2
    go_ret
    exact ⟨rfl, B6.out.trans (N.h.mono B6.out.size)⟩
  · have hS : decide (0 < y) = true ∨ (decide (0 < y) = false ∧ decide (z ≤ 0) = true) := by have := HS.out; simp; omega
    have HT := Lib.hid hS
    clear HS hS
    go_wp2
    rcases HT.out with h | ⟨h, h2⟩
    · clear HT
      refine wp_region_ext w6.heap.size w6 (Below.refl _ _) (by kernel_rfl) (by kernel_rfl) ?_
      repeat (go_big_quiet_step (first | (go_at_call 39; with_reducible exact ext_call _ (Nat.le_refl _) (L6.out _)) | (go_at_call 40; with_reducible exact ext_call _ (Nat.le_refl _) (L7.out _))))
      refine wpQuiet_nil ?_
      rintro _ ⟨N, rfl⟩
      go_wp2
      go_ret
      exact ⟨rfl, B6.out.trans (N.h.mono B6.out.size)⟩
    · clear HT
      refine wp_region_ext w6.heap.size w6 (Below.refl _ _) (by kernel_rfl) (by kernel_rfl) ?_
      repeat (go_big_quiet_step (first | (go_at_call 39; with_reducible exact ext_call _ (Nat.le_refl _) (L6.out _)) | (go_at_call 40; with_reducible exact ext_call _ (Nat.le_refl _) (L7.out _))))
      refine wpQuiet_nil ?_
      rintro _ ⟨N, rfl⟩
      go_wp2
      go_ret
      exact ⟨rfl, B6.out.trans (N.h.mono B6.out.size)⟩

theorem orderW (w : World) (a b c : B) : Calls Try.prog 9 #[a.v, b.v, c.v] w fun e w' => e = .returned (.bool true) ∧ Below w.heap.size w w' := by
  have hx : -1 ≤ cmpB a b ∧ cmpB a b ≤ 1 ∧ ((same a b = true ∧ cmpB a b = 0) ∨ (same a b = false ∧ cmpB a b = 1) ∨ (same a b = false ∧ cmpB a b = -1)) := by
    unfold same
    rcases @cmpB_lt a b with ⟨h, k⟩ | ⟨h, k⟩ | ⟨h, k⟩ <;> rw [h] <;> simp <;> omega
  refine order_walk w a b c _ _ _ _ _ rfl rfl rfl rfl rfl hx.1 hx.2.1 ?_ hx.2.2
  by_cases h1 : 0 < cmpB a b
  · exact .inl h1
  · by_cases h2 : 0 < cmpB b c
    · exact .inr (.inl ⟨h1, h2⟩)
    · exact .inr (.inr ⟨h1, h2, cmpB_trans h1 h2⟩)
end Bl
end Go.Proofs.Ytcmmnfeodmjpkaa
