/- The walk of the law EraseBlocks. Conditions: the arguments can be read. -/
import Derived.Test.YtiaogfjmhpkcmaaEraA
import Derived.Test.YtiaogfjmhpkcmaaEraB
import Derived.Test.YtiaogfjmhpkcmaaEraR
import Derived.Test.YtiaogfjmhpkcmaaUp
namespace Go.Proofs.Ytiaogfjmhpkcmaa
open Go.RowKit
set_option linter.unusedVariables false
namespace Rg

theorem own_cell2 {w w1 : World} {o1 : Obj} {cs : Array Value} {t : TypeId} (b1 : Below ((w.alloc o1).alloc (.cells cs t)).heap.size ((w.alloc o1).alloc (.cells cs t)) w1) (i : Nat) {v : Value} (hv : cs[i]? = some v) : w1.cell? ⟨w.heap.size + 1, i, none⟩ = some v :=
  cell_up b1 (by rw [World.cell?_alloc_at _ _ _ _ (by simp)]; exact hv)

theorem blocksLaw_any (w : World) (r : RegD) (p : RegA) (key : Nat) (m : MarkD) (h : RegAt w r p) (hk : key < 256) :
    Calls Try.prog 3 #[.agg (regCs r p).toArray, .int .u8 (key : Int), .agg #[.int .u8 (m.source : Int), .int .u64 (m.inc : Int), .int .u64 (m.cell : Int)]] w (RetBo w true) := by
  have BA := Lib.hid (fun w o => balloc w o)
  have GR := Lib.hid (fun w' (b : Below w.heap.size w w') => great_any w' r p (h.mono b))
  have B1 := Lib.hid (fun w' (b : Below w.heap.size w w') => blocks_any w' r p (h.mono b) key hk m)
  have B2 := Lib.hid (fun w' (b : Below w.heap.size w w') => blocksR_any w' r p (h.mono b) key m)
  have EQ := beq_refl_b (blocksS r key m)
  generalize blocksS r key m = res at *
  have AW := Lib.hid (fun w' => awake_any w')
  clear h hk
  unfold regCs at *
  cases hg : greatS r
  · rw [hg] at GR
    clear hg
    go_enter Try.func3, Try.ntmps3
    go_wp2_with fail
    refine (GR.out _ (bthen (BA.out w _) (BA.out _ _))).mono ?_
    rintro e w1 ⟨rfl, b1⟩
    go_wp2_with fail
    have f0 := fun n : ExtW w1.heap.size w1.drew => cell_up (bthen (below_dr w1 1) n.h) (own_cell b1 0 (v := .int .u8 (r.kind : Int)) rfl)
    have f1 := fun n : ExtW w1.heap.size w1.drew => cell_up (bthen (below_dr w1 1) n.h) (own_cell b1 1 (v := .int .u64 (r.inc : Int)) rfl)
    have f2 := fun n : ExtW w1.heap.size w1.drew => cell_up (bthen (below_dr w1 1) n.h) (own_cell b1 2 (v := .int .i64 r.state) rfl)
    have f3 := fun n : ExtW w1.heap.size w1.drew => cell_up (bthen (below_dr w1 1) n.h) (own_cell b1 3 (v := .slice p.va r.vars.length p.vc) rfl)
    have f4 := fun n : ExtW w1.heap.size w1.drew => cell_up (bthen (below_dr w1 1) n.h) (own_cell b1 4 (v := .slice p.da r.done.length p.dc) rfl)
    have f5 := fun n : ExtW w1.heap.size w1.drew => cell_up (bthen (below_dr w1 1) n.h) (own_cell b1 5 (v := .slice p.oa r.out.length p.oc) rfl)
    have f6 := fun n : ExtW w1.heap.size w1.drew => cell_up (bthen (below_dr w1 1) n.h) (own_cell b1 6 (v := .int .u64 (r.last : Int)) rfl)
    have f7 := fun n : ExtW w1.heap.size w1.drew => cell_up (bthen (below_dr w1 1) n.h) (own_cell b1 7 (v := .slice p.ma r.marks.length p.mc) rfl)
    have g0 := fun n : ExtW w1.heap.size w1.drew => cell_up (bthen (below_dr w1 1) n.h) (own_cell2 b1 0 (v := .int .u8 (m.source : Int)) rfl)
    have g1 := fun n : ExtW w1.heap.size w1.drew => cell_up (bthen (below_dr w1 1) n.h) (own_cell2 b1 1 (v := .int .u64 (m.inc : Int)) rfl)
    have g2 := fun n : ExtW w1.heap.size w1.drew => cell_up (bthen (below_dr w1 1) n.h) (own_cell2 b1 2 (v := .int .u64 (m.cell : Int)) rfl)
    have BB := Lib.hid (bthen (bthen (bthen (BA.out w _) (BA.out _ _)) b1) (below_dr w1 1))
    clear b1
    refine wp_region_up [(0, false), (1, false), (2, false), (4, false), (5, false), (6, false), (3, true), (7, true), (8, false), (9, false), (10, true), (11, false), (12, false)] w1.heap.size (by kernel_rfl) (by kernel_rfl) ?_
    repeat
      refine wpUp_pure (by rfl) (by rfl) (by rfl) (fun K hK => ?_)
      conv => arg 2; whnf
      go_big_quiet_op
      refine hK _ ?_
      clear hK K
    refine wpUp_call (by rfl) (by rfl) (Nat.le_refl _) (fun K hK => ?_)
    conv => arg 2; whnf
    go_simp
    refine (B1.out _ BB.out).mono ?_
    rintro e w2 ⟨rfl, c1⟩
    refine hK _ _ c1 ?_
    clear hK K
    refine wpUp_call (by rfl) (by rfl) (Nat.le_refl _) (fun K hK => ?_)
    conv => arg 2; whnf
    go_simp
    refine (B2.out _ (bthen BB.out c1)).mono ?_
    rintro e w3 ⟨rfl, c2⟩
    refine hK _ _ c2 ?_
    clear hK K
    repeat
      refine wpUp_pure (by rfl) (by rfl) (by rfl) (fun K hK => ?_)
      conv => arg 2; whnf
      go_big_quiet_op
      refine hK _ ?_
      clear hK K
    refine wpUp_call (by rfl) (by rfl) (Nat.le_refl _) (fun K hK => ?_)
    conv => arg 2; whnf
    go_simp
    refine (AW.out _).mono ?_
    rintro e w4 ⟨rfl, c3⟩
    refine hK _ _ c3 ?_
    clear hK K
    repeat
      refine wpUp_pure (by rfl) (by rfl) (by rfl) (fun K hK => ?_)
      conv => arg 2; whnf
      go_big_quiet_op
      refine hK _ ?_
      clear hK K
    refine wpUp_nil ?_
    go_wp2_with fail
    go_ret
    exact retBo rfl (bthen (bthen (bthen BB.out c1) c2) c3)
  · rw [hg] at GR
    clear hg
    go_enter Try.func3, Try.ntmps3
    go_wp2_with fail
    refine (GR.out _ (bthen (BA.out w _) (BA.out _ _))).mono ?_
    rintro e w1 ⟨rfl, b1⟩
    go_wp2_with fail
    refine (AW.out _).mono ?_
    rintro e w2 ⟨rfl, b2⟩
    go_wp2_with fail
    go_ret
    exact retBo rfl (bthen (bthen (bthen (BA.out w _) (BA.out _ _)) b1) b2)
/-- the law's walk, as its frame wants it -/
theorem eraseBlocksW (w : World) (r : RegD) (p : RegA) (h : RegAt w r p) (key : UInt8) (m : MarkD) :
    Calls Try.prog 3 #[.agg (regCs r p).toArray, .int .u8 (key.toNat : Int), .agg #[.int .u8 (m.source : Int), .int .u64 (m.inc : Int), .int .u64 (m.cell : Int)]] w (RetBo w true) :=
  blocksLaw_any w r p key.toNat m h key.toNat_lt
end Rg
end Go.Proofs.Ytiaogfjmhpkcmaa
