/- The walks of ballots: Compare, Less, the document's Compare, None, Next, and the example. Conditions: each number lies in its kind. -/
import Derived.Test.YtcmmnfeodmjpkaaBalW
namespace Go.Proofs.Ytcmmnfeodmjpkaa
open Go.RowKit
set_option linter.unusedVariables false

theorem wp_region_tail {P : Program} {id : Nat} {Q : Exit → Act → World → Prop} {a : Act} {w : World} {l : List Oper} (n : Nat) (hm : P.follows .mixedOrders = true) (hB : Region.lexTailB .any l.toArray n = true)
    (h : wpStill P l.toArray w.drew (fun a' => wpList P l.toArray Q (l.drop n) a' w.drew) (l.take n) a) : (Code.region id l.toArray true).wp P Q a w :=
  wp_region_still_tail n hm hB h

namespace Bl

set_option maxHeartbeats 400000 in
theorem compare_any (a b : B) (w : World) : Calls Try.prog 37 #[a.v, b.v] w fun e w' => e = .returned (.int .i64 (cmpB a b)) ∧ Below w.heap.size w w' := by
  unfold cmpB B.v
  obtain ⟨ac, an, al, h1, h2, h3⟩ := a
  obtain ⟨bc, bn, bl, h4, h5, h6⟩ := b
  go_enter Try.func37, Try.ntmps37
  go_wp2
  refine wp_region_tail 15 (by kernel_rfl) (by kernel_rfl) ?_
  simp only [List.take_succ_cons, List.take_zero, List.drop_succ_cons, List.drop_zero]
  repeat (first | still_step | still_call (cmp64 _ _ _) | still_call (cmp8 _ _ _) | still_call (cmp32 _ _ _))
  refine wpStill_nil ?_
  have b1 : Below w.heap.size w ((w.alloc (Obj.cells #[Value.int IntKind.u64 (ac : Int), Value.int IntKind.u8 (an : Int), Value.int IntKind.u32 (al : Int)] 45)).alloc (Obj.cells #[Value.int IntKind.u64 (bc : Int), Value.int IntKind.u8 (bn : Int), Value.int IntKind.u32 (bl : Int)] 45)).drew := bthen ((balloc w _).alloc (balloc w _).size _) (Sm.below_drewN _ 1)
  revert b1
  generalize ((w.alloc (Obj.cells #[Value.int IntKind.u64 (ac : Int), Value.int IntKind.u8 (an : Int), Value.int IntKind.u32 (al : Int)] 45)).alloc (Obj.cells #[Value.int IntKind.u64 (bc : Int), Value.int IntKind.u8 (bn : Int), Value.int IntKind.u32 (bl : Int)] 45)).drew = w1
  intro b1
  have HO := Lib.hid (or_any w1.heap.size 0 3 (cmpN ac bc) (cmpN an bn) (cmpN al bl) (w1.alloc (.cells #[.int .i64 (cmpN ac bc), .int .i64 (cmpN an bn), .int .i64 (cmpN al bl)] 3)) (by simp only [World.cell?, heap_alloc_new, Nat.zero_add]; rfl) (by simp only [World.cell?, heap_alloc_new, Nat.zero_add]; rfl) (by simp only [World.cell?, heap_alloc_new, Nat.zero_add]; rfl))
  go_wp2_with fail
  refine (HO.out).mono ?_
  rintro e w2 ⟨rfl, rfl⟩
  go_wp2
  go_ret
  exact ⟨rfl, b1.alloc b1.size _⟩

theorem cmpB_lt {a b : B} : (cmpB a b = -1 ∧ (a.c < b.c ∨ a.c = b.c ∧ (a.n < b.n ∨ a.n = b.n ∧ a.l < b.l))) ∨ (cmpB a b = 1 ∧ (b.c < a.c ∨ b.c = a.c ∧ (b.n < a.n ∨ b.n = a.n ∧ b.l < a.l))) ∨ (cmpB a b = 0 ∧ a.c = b.c ∧ a.n = b.n ∧ a.l = b.l) := by
  unfold cmpB orI
  rcases cmpN_cases a.c b.c with ⟨h, e⟩ | ⟨h, e⟩ | ⟨h, e⟩ <;> rw [e]
  · left; exact ⟨by simp, .inl h⟩
  · right; left; exact ⟨by simp, .inl h⟩
  · rcases cmpN_cases a.n b.n with ⟨h2, e2⟩ | ⟨h2, e2⟩ | ⟨h2, e2⟩ <;> rw [e2]
    · left; exact ⟨by simp, .inr ⟨h, .inl h2⟩⟩
    · right; left; exact ⟨by simp, .inr ⟨h.symm, .inl h2⟩⟩
    · rcases cmpN_cases a.l b.l with ⟨h3, e3⟩ | ⟨h3, e3⟩ | ⟨h3, e3⟩ <;> rw [e3]
      · left; exact ⟨by simp, .inr ⟨h, .inr ⟨h2, h3⟩⟩⟩
      · right; left; exact ⟨by simp, .inr ⟨h.symm, .inr ⟨h2.symm, h3⟩⟩⟩
      · right; right; exact ⟨by simp, h, h2, h3⟩

def lessB (a b : B) : Bool := if a.c ≠ b.c then decide (a.c < b.c) else if a.n ≠ b.n then decide (a.n < b.n) else decide (a.l < b.l)
theorem less_any (a b : B) (w : World) : Calls Try.prog 61 #[a.v, b.v] w fun e w' => e = .returned (.bool (lessB a b)) ∧ Below w.heap.size w w' := by
  unfold lessB B.v
  obtain ⟨ac, an, al, h1, h2, h3⟩ := a
  obtain ⟨bc, bn, bl, h4, h5, h6⟩ := b
  simp only
  have b1 : ∀ w : World, Below w.heap.size w ((w.alloc (Obj.cells #[Value.int IntKind.u64 (ac : Int), Value.int IntKind.u8 (an : Int), Value.int IntKind.u32 (al : Int)] 45)).alloc (Obj.cells #[Value.int IntKind.u64 (bc : Int), Value.int IntKind.u8 (bn : Int), Value.int IntKind.u32 (bl : Int)] 45)) := fun w => ((balloc w _).alloc (balloc w _).size _)
  have HB := Lib.hid b1
  clear b1
  by_cases e1 : ac = bc
  · rw [if_neg (by simp [e1])]
    subst e1
    by_cases e2 : an = bn
    · rw [if_neg (by simp [e2])]
      subst e2
      go_enter Try.func61, Try.ntmps61
      go_wp2
      go_ret
      exact ⟨ret_bool (by simp), HB.out _⟩
    · rw [if_pos e2]
      go_enter Try.func61, Try.ntmps61
      go_wp2
      go_ret
      exact ⟨ret_bool (by simp), HB.out _⟩
  · rw [if_pos e1]
    go_enter Try.func61, Try.ntmps61
    go_wp2
    go_ret
    exact ⟨ret_bool (by simp), HB.out _⟩

theorem lessB_iff (a b : B) : lessB a b = decide (cmpB a b = -1) := by
  unfold lessB
  by_cases e1 : a.c = b.c
  · rw [if_neg (by simp [e1])]
    by_cases e2 : a.n = b.n
    · rw [if_neg (by simp [e2])]
      rcases @cmpB_lt a b with ⟨h, h2⟩ | ⟨h, h2⟩ | ⟨h, h2⟩ <;> rw [h] <;> simp <;> omega
    · rw [if_pos e2]
      rcases @cmpB_lt a b with ⟨h, h2⟩ | ⟨h, h2⟩ | ⟨h, h2⟩ <;> rw [h] <;> simp <;> omega
  · rw [if_pos e1]
    rcases @cmpB_lt a b with ⟨h, h2⟩ | ⟨h, h2⟩ | ⟨h, h2⟩ <;> rw [h] <;> simp <;> omega
theorem cmpB_neg (a b : B) : cmpB b a = -(cmpB a b) := by
  rcases @cmpB_lt a b with ⟨h, h2⟩ | ⟨h, h2⟩ | ⟨h, h2⟩ <;> rcases @cmpB_lt b a with ⟨k, k2⟩ | ⟨k, k2⟩ | ⟨k, k2⟩ <;> rw [h, k] <;> omega

theorem refCompare_any (a b : B) (w : World) : Calls Try.prog 38 #[a.v, b.v] w fun e w' => e = .returned (.int .i64 (cmpB a b)) ∧ Below w.heap.size w w' := by
  have L1 := Lib.hid (less_any a b)
  have L2 := Lib.hid (less_any b a)
  have e1 := lessB_iff a b
  have e2 := lessB_iff b a
  rw [cmpB_neg a b] at e2
  have hx : cmpB a b = -1 ∨ cmpB a b = 1 ∨ cmpB a b = 0 := by
    rcases @cmpB_lt a b with ⟨h, _⟩ | ⟨h, _⟩ | ⟨h, _⟩ <;> simp [h]
  generalize cmpB a b = x at *
  generalize lessB a b = p1 at *
  generalize lessB b a = p2 at *
  unfold B.v at *
  obtain ⟨ac, an, al, h1, h2, h3⟩ := a
  obtain ⟨bc, bn, bl, h4, h5, h6⟩ := b
  simp only at *
  have b1 : ∀ w : World, Below w.heap.size w ((w.alloc (Obj.cells #[Value.int IntKind.u64 (ac : Int), Value.int IntKind.u8 (an : Int), Value.int IntKind.u32 (al : Int)] 45)).alloc (Obj.cells #[Value.int IntKind.u64 (bc : Int), Value.int IntKind.u8 (bn : Int), Value.int IntKind.u32 (bl : Int)] 45)) := fun w => ((balloc w _).alloc (balloc w _).size _)
  have HB := Lib.hid (b1 w)
  clear b1
  rcases hx with rfl | rfl | rfl
  · obtain rfl : p1 = true := by simpa using e1
    clear e1 e2
    go_enter Try.func38, Try.ntmps38
    go_wp2_with fail
    refine (L1.out _).mono ?_
    rintro e w1 ⟨rfl, b1⟩
    go_wp2
    go_ret
    exact ⟨rfl, bthen HB.out b1⟩
  · obtain rfl : p1 = false := by simpa using e1
    obtain rfl : p2 = true := by simpa using e2
    clear e1 e2
    go_enter Try.func38, Try.ntmps38
    go_wp2_with fail
    refine (L1.out _).mono ?_
    rintro e w1 ⟨rfl, b1⟩
    have c1 := b1.cell (p := ⟨w.heap.size, 0, none⟩) (by simp; omega)
    have c2 := b1.cell (p := ⟨w.heap.size, 1, none⟩) (by simp; omega)
    have c3 := b1.cell (p := ⟨w.heap.size, 2, none⟩) (by simp; omega)
    have c4 := b1.cell (p := ⟨w.heap.size + 1, 0, none⟩) (by simp)
    have c5 := b1.cell (p := ⟨w.heap.size + 1, 1, none⟩) (by simp)
    have c6 := b1.cell (p := ⟨w.heap.size + 1, 2, none⟩) (by simp)
    go_wp2_with fail
    refine (L2.out _).mono ?_
    rintro e w2 ⟨rfl, b2⟩
    go_wp2
    go_ret
    exact ⟨rfl, bthen (bthen HB.out b1) b2⟩
  · obtain rfl : p1 = false := by simpa using e1
    obtain rfl : p2 = false := by simpa using e2
    clear e1 e2
    go_enter Try.func38, Try.ntmps38
    go_wp2_with fail
    refine (L1.out _).mono ?_
    rintro e w1 ⟨rfl, b1⟩
    have c1 := b1.cell (p := ⟨w.heap.size, 0, none⟩) (by simp; omega)
    have c2 := b1.cell (p := ⟨w.heap.size, 1, none⟩) (by simp; omega)
    have c3 := b1.cell (p := ⟨w.heap.size, 2, none⟩) (by simp; omega)
    have c4 := b1.cell (p := ⟨w.heap.size + 1, 0, none⟩) (by simp)
    have c5 := b1.cell (p := ⟨w.heap.size + 1, 1, none⟩) (by simp)
    have c6 := b1.cell (p := ⟨w.heap.size + 1, 2, none⟩) (by simp)
    go_wp2_with fail
    refine (L2.out _).mono ?_
    rintro e w2 ⟨rfl, b2⟩
    go_wp2
    go_ret
    exact ⟨rfl, bthen (bthen HB.out b1) b2⟩

def isNone (a : B) : Bool := decide (a.c = 0 ∧ a.n = 0 ∧ a.l = 0)
theorem none_any (a : B) (w : World) : Calls Try.prog 39 #[a.v] w fun e w' => e = .returned (.bool (isNone a)) ∧ Below w.heap.size w w' := by
  unfold isNone B.v
  obtain ⟨ac, an, al, h1, h2, h3⟩ := a
  simp only
  have HB := Lib.hid (balloc w (Obj.cells #[Value.int IntKind.u64 (ac : Int), Value.int IntKind.u8 (an : Int), Value.int IntKind.u32 (al : Int)] 45))
  go_enter Try.func39, Try.ntmps39
  go_wp2
  all_goals
    go_ret
    exact ⟨ret_bool (by simp [*]), balloc _ _⟩

theorem awake_any (w : World) : Calls Try.prog 40 #[] w fun e w' => e = .returned (.bool true) ∧ Below w.heap.size w w' := by
  have L1 := Lib.hid (compare_any ⟨2, 1, 0, by omega, by omega, by omega⟩ ⟨1, 9, 0, by omega, by omega, by omega⟩)
  go_enter Try.func40, Try.ntmps40
  go_wp2_with fail
  refine (L1.out _).mono ?_
  rintro e w1 ⟨rfl, b1⟩
  rw [show cmpB ⟨2, 1, 0, by omega, by omega, by omega⟩ ⟨1, 9, 0, by omega, by omega, by omega⟩ = 1 from by decide]
  go_wp2
  go_ret
  exact ⟨rfl, b1⟩
end Bl
end Go.Proofs.Ytcmmnfeodmjpkaa
