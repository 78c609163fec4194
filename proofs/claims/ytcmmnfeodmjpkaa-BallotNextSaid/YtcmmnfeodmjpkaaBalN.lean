/- The walk of the law BallotNext: it returns true. Conditions: each number lies in its kind. -/
import Derived.Test.YtcmmnfeodmjpkaaBalE
import Derived.Laws.ResultCell
namespace Go.Proofs.Ytcmmnfeodmjpkaa
open Go.RowKit
set_option linter.unusedVariables false
namespace Bl

theorem next_full (c n l : Nat) (hc : c < 18446744073709551616) (w : World) (h : 9223372036854775808 ≤ c) :
    Calls Try.prog 41 #[.int .u64 (c : Int), .int .u8 (n : Int), .int .u32 (l : Int)] w fun e w' => e = .returned (.tuple #[.agg #[.int .u64 0, .int .u8 0, .int .u32 0], .int .i64 7]) ∧ Below w.heap.size w w' := by
  have hi : (9223372036854775808 : Int) ≤ (c : Int) := by omega
  clear h hc
  go_enter Try.func41, Try.ntmps41
  go_wp2
  try simp only [Exit.inBlock, Exit.then]
  refine bodyPost_ret (v := .tuple #[.agg #[.int .u64 0, .int .u8 0, .int .u32 0], .int .i64 7]) ?_ rfl ⟨rfl, ?_⟩
  · rw [results_cell_tmp rfl]
    go_simp
  · exact balloc _ _
theorem next_ok (c n l : Nat) (w : World) (h : c < 9223372036854775808) :
    Calls Try.prog 41 #[.int .u64 (c : Int), .int .u8 (n : Int), .int .u32 (l : Int)] w fun e w' => e = .returned (.tuple #[.agg #[.int .u64 ((c + 1 : Nat) : Int), .int .u8 (n : Int), .int .u32 (l : Int)], .int .i64 0]) ∧ Below w.heap.size w w' := by
  have hd : decide ((9223372036854775808 : Int) ≤ (c : Int)) = false := by simp; omega
  have hd2 : decide (9223372036854775808 ≤ c) = false := by simp; omega
  have hw : ((c : Int) + 1) % 18446744073709551616 = ((c + 1 : Nat) : Int) := by omega
  clear h
  go_enter Try.func41, Try.ntmps41
  go_wp2
  try simp only [Exit.inBlock, Exit.then]
  refine bodyPost_ret (v := .tuple #[.agg #[.int .u64 ((c + 1 : Nat) : Int), .int .u8 (n : Int), .int .u32 (l : Int)], .int .i64 0]) ?_ rfl ⟨rfl, ?_⟩
  · rw [results_cell_tmp rfl]
    go_simp
  · exact balloc _ _

theorem cmpB_lo (a b : B) (h : a.c < b.c) : cmpB a b = -1 := by
  rcases @cmpB_lt a b with ⟨e, k⟩ | ⟨e, k⟩ | ⟨e, k⟩ <;> first | exact e | omega

theorem nextFull (w : World) (c n l : Nat) (hc : c < 18446744073709551616) (b : B) (h : 9223372036854775808 ≤ c) :
    Calls Try.prog 10 #[.int .u64 (c : Int), .int .u8 (n : Int), .int .u32 (l : Int), b.v] w fun e w' => e = .returned (.bool true) ∧ Below w.heap.size w w' := by
  have hd : decide ((9223372036854775808 : Int) ≤ (c : Int)) = true := by simp; omega
  have hd2 : decide (9223372036854775808 ≤ c) = true := by simp; omega
  have L1 := Lib.hid (fun w => next_full c n l hc w h)
  clear h hc
  unfold B.v
  obtain ⟨bc, bn, bl, k1, k2, k3⟩ := b
  simp only
  have HB := Lib.hid (balloc w (Obj.cells #[Value.int IntKind.u64 (bc : Int), Value.int IntKind.u8 (bn : Int), Value.int IntKind.u32 (bl : Int)] 45))
  clear k1 k2 k3
  go_enter Try.func10, Try.ntmps10
  go_wp2_with fail
  refine (L1.out _).mono ?_
  rintro e w1 ⟨rfl, b1⟩
  go_wp2_with fail
  refine (awake_any _).mono ?_
  rintro e w2 ⟨rfl, b2⟩
  go_wp2
  go_ret
  have b01 := bthen HB.out b1
  exact ⟨rfl, (b01.alloc b01.size _).trans (b2.mono (by have := b01.size; simp; omega))⟩

theorem nextOk (w : World) (c n l : Nat) (hn : n < 256) (hl : l < 4294967296) (b : B) (h : c < 9223372036854775808) :
    Calls Try.prog 10 #[.int .u64 (c : Int), .int .u8 (n : Int), .int .u32 (l : Int), b.v] w fun e w' => e = .returned (.bool true) ∧ Below w.heap.size w w' := by
  have hd : decide ((9223372036854775808 : Int) ≤ (c : Int)) = false := by simp; omega
  have hd2 : decide (9223372036854775808 ≤ c) = false := by simp; omega
  have hw : IntKind.u64.wrap ((c : Int) + 1) = ((c + 1 : Nat) : Int) := by
    have : ((c : Int) + 1) % 18446744073709551616 = ((c + 1 : Nat) : Int) := by omega
    simp only [IntKind.wrap, IntKind.signed, IntKind.bits]
    simp
    omega
  have L1 := Lib.hid (fun w => next_ok c n l w h)
  have l2 : ¬ c < b.c → ∀ w : World, Calls Try.prog 37 #[b.v, .agg #[.int .u64 ((c + 1 : Nat) : Int), .int .u8 (n : Int), .int .u32 (l : Int)]] w fun e w' => e = .returned (.int .i64 (-1)) ∧ Below w.heap.size w w' := by
    intro hb w
    have := compare_any b ⟨c + 1, n, l, by omega, hn, hl⟩ w
    rw [cmpB_lo b ⟨c + 1, n, l, by omega, hn, hl⟩ (by show b.c < c + 1; omega)] at this
    exact this
  have L2 := Lib.hid l2
  have E1 : ∀ w : World, (binOp .eql 45 (.agg #[.int .u64 ((c + 1 : Nat) : Int), .int .u8 (n : Int), .int .u32 (l : Int)]) (.agg #[.int .u64 ((c + 1 : Nat) : Int), .int .u8 (n : Int), .int .u32 (l : Int)])).run Try.prog w = .ok (.bool true) w := by
    intro w
    have := run_eql ⟨c + 1, n, l, by omega, hn, hl⟩ ⟨c + 1, n, l, by omega, hn, hl⟩ w
    simp only [same, and_self, decide_true] at this
    exact this
  clear h l2
  unfold B.v at *
  obtain ⟨bc, bn, bl, k1, k2, k3⟩ := b
  simp only at *
  have HB := Lib.hid (balloc w (Obj.cells #[Value.int IntKind.u64 (bc : Int), Value.int IntKind.u8 (bn : Int), Value.int IntKind.u32 (bl : Int)] 45))
  clear hn hl
  generalize c + 1 = c1 at *
  go_enter Try.func10, Try.ntmps10
  go_wp2_with fail
  refine (L1.out _).mono ?_
  rintro e w1 ⟨rfl, b1⟩
  have p1 := b1.cell (p := ⟨w.heap.size, 0, none⟩) (by simp)
  have p2 := b1.cell (p := ⟨w.heap.size, 1, none⟩) (by simp)
  have p3 := b1.cell (p := ⟨w.heap.size, 2, none⟩) (by simp)
  have hlt : w.heap.size < w1.heap.size := by have := b1.size; simp at this; omega
  have b01 := bthen HB.out b1
  have B1 := Lib.hid b01
  by_cases hc : c < bc
  · clear b1 b01
    go_wp2_with fail
    refine (awake_any _).mono ?_
    rintro e w2 ⟨rfl, b2⟩
    go_wp2
    go_ret
    have b01 := B1.out
    exact ⟨rfl, (b01.alloc b01.size _).trans (b2.mono (by have := b01.size; simp; omega))⟩
  · clear b1 b01
    go_wp2_with fail
    refine (L2.out hc _).mono ?_
    rintro e w2 ⟨rfl, b2⟩
    go_wp2_with fail
    refine (awake_any _).mono ?_
    rintro e w3 ⟨rfl, b3⟩
    go_wp2
    go_ret
    have b01 := B1.out
    exact ⟨rfl, (b01.alloc b01.size _).trans ((bthen b2 b3).mono (by have := b01.size; simp; omega))⟩

theorem nextW (w : World) (c : Int) (hc : 0 ≤ c ∧ c ≤ 18446744073709551615) (n : UInt8) (l : Int) (hl : 0 ≤ l ∧ l ≤ 4294967295) (b : B) :
    Calls Try.prog 10 #[.int .u64 c, .int .u8 (n.toNat : Int), .int .u32 l, b.v] w fun e w' => e = .returned (.bool true) ∧ Below w.heap.size w w' := by
  obtain ⟨c, rfl⟩ : ∃ k : Nat, c = k := ⟨c.toNat, by omega⟩
  obtain ⟨l, rfl⟩ : ∃ k : Nat, l = k := ⟨l.toNat, by omega⟩
  by_cases h : c < 9223372036854775808
  · exact nextOk w c n.toNat l n.toNat_lt (by omega) b h
  · exact nextFull w c n.toNat l (by omega) b (by omega)
end Bl
end Go.Proofs.Ytcmmnfeodmjpkaa
