/- The walks of the ballots' order: what two stand to each other is told by three numbers. Conditions: each number lies in its kind. -/
import Derived.Test.YtniopkoaplkpkaaMsB
import Derived.Test.YtniopkoaplkpkaaSumF
import Derived.StillTailTactics
namespace Go.Proofs.Ytniopkoaplkpkaa
open Go.RowKit
set_option linter.unusedVariables false
namespace Bl

/-- how two numbers stand -/
def cmpN (a b : Nat) : Int := if a < b then -1 else if b < a then 1 else 0
/-- the first that isn't 0 -/
def orI (x y z : Int) : Int := if x ≠ 0 then x else if y ≠ 0 then y else z
/-- a ballot -/
def cmpB (a b : B) : Int := orI (cmpN a.c b.c) (cmpN a.n b.n) (cmpN a.l b.l)

theorem cmpN_cases (a b : Nat) : (a < b ∧ cmpN a b = -1) ∨ (b < a ∧ cmpN a b = 1) ∨ (a = b ∧ cmpN a b = 0) := by
  unfold cmpN
  rcases Nat.lt_trichotomy a b with h | h | h
  · left; exact ⟨h, if_pos h⟩
  · right; right; exact ⟨h, by rw [if_neg (by omega), if_neg (by omega)]⟩
  · right; left; exact ⟨h, by rw [if_neg (by omega), if_pos h]⟩

theorem nan64 (a : Nat) (w : World) : Calls Try.prog 144 #[.int .u64 (a : Int)] w fun e w' => e = .returned (.bool false) ∧ w' = w := by
  go_enter Try.func144, Try.ntmps144
  go_wp2
  go_ret
  exact ⟨rfl, rfl⟩
theorem nan8 (a : Nat) (w : World) : Calls Try.prog 145 #[.int .u8 (a : Int)] w fun e w' => e = .returned (.bool false) ∧ w' = w := by
  go_enter Try.func145, Try.ntmps145
  go_wp2
  go_ret
  exact ⟨rfl, rfl⟩
theorem nan32 (a : Nat) (w : World) : Calls Try.prog 146 #[.int .u32 (a : Int)] w fun e w' => e = .returned (.bool false) ∧ w' = w := by
  go_enter Try.func146, Try.ntmps146
  go_wp2
  go_ret
  exact ⟨rfl, rfl⟩

theorem cmp64 (a b : Nat) (w : World) : Calls Try.prog 141 #[.int .u64 (a : Int), .int .u64 (b : Int)] w fun e w' => e = .returned (.int .i64 (cmpN a b)) ∧ w' = w := by
  rcases cmpN_cases a b with ⟨h, e⟩ | ⟨h, e⟩ | ⟨h, e⟩ <;> rw [e] <;> clear e
  all_goals
    go_enter Try.func141, Try.ntmps141
    go_wp2_with fail
    refine (nan64 _ _).mono ?_
    rintro e w1 ⟨rfl, rfl⟩
    go_wp2_with fail
    refine (nan64 _ _).mono ?_
    rintro e w1 ⟨rfl, rfl⟩
    go_wp2
    go_ret
    exact ⟨rfl, rfl⟩
theorem cmp8 (a b : Nat) (w : World) : Calls Try.prog 142 #[.int .u8 (a : Int), .int .u8 (b : Int)] w fun e w' => e = .returned (.int .i64 (cmpN a b)) ∧ w' = w := by
  rcases cmpN_cases a b with ⟨h, e⟩ | ⟨h, e⟩ | ⟨h, e⟩ <;> rw [e] <;> clear e
  all_goals
    go_enter Try.func142, Try.ntmps142
    go_wp2_with fail
    refine (nan8 _ _).mono ?_
    rintro e w1 ⟨rfl, rfl⟩
    go_wp2_with fail
    refine (nan8 _ _).mono ?_
    rintro e w1 ⟨rfl, rfl⟩
    go_wp2
    go_ret
    exact ⟨rfl, rfl⟩
theorem cmp32 (a b : Nat) (w : World) : Calls Try.prog 143 #[.int .u32 (a : Int), .int .u32 (b : Int)] w fun e w' => e = .returned (.int .i64 (cmpN a b)) ∧ w' = w := by
  rcases cmpN_cases a b with ⟨h, e⟩ | ⟨h, e⟩ | ⟨h, e⟩ <;> rw [e] <;> clear e
  all_goals
    go_enter Try.func143, Try.ntmps143
    go_wp2_with fail
    refine (nan32 _ _).mono ?_
    rintro e w1 ⟨rfl, rfl⟩
    go_wp2_with fail
    refine (nan32 _ _).mono ?_
    rintro e w1 ⟨rfl, rfl⟩
    go_wp2
    go_ret
    exact ⟨rfl, rfl⟩

theorem or_cells {w : World} {b o : Nat} {x y z : Int} (h0 : w.cell? ⟨b, o + 0, none⟩ = some (.int .i64 x)) (h1 : w.cell? ⟨b, o + 1, none⟩ = some (.int .i64 y)) (h2 : w.cell? ⟨b, o + 2, none⟩ = some (.int .i64 z)) :
    ∃ v : Nat → Int, orI x y z = orI (v 0) (v 1) (v 2) ∧ ∀ j, j < 3 → w.cell? ⟨b, o + j, none⟩ = some (.int .i64 (v j)) := by
  refine ⟨fun j => if j = 0 then x else if j = 1 then y else z, by simp, fun j hj => ?_⟩
  match j, hj with
  | 0, _ => exact h0
  | 1, _ => exact h1
  | 2, _ => exact h2

theorem orI_at (v : Nat → Int) (k : Nat) (hk : k < 3) (hz : ∀ j, j < k → v j = 0) (hn : v k ≠ 0) : orI (v 0) (v 1) (v 2) = v k := by
  match k, hk with
  | 0, _ => unfold orI; rw [if_pos hn]
  | 1, _ => unfold orI; rw [if_neg (by simp [hz 0 (by omega)]), if_pos hn]
  | 2, _ => unfold orI; rw [if_neg (by simp [hz 0 (by omega)]), if_neg (by simp [hz 1 (by omega)])]
theorem orI_none (v : Nat → Int) (hz : ∀ j, j < 3 → v j = 0) : orI (v 0) (v 1) (v 2) = 0 := by
  unfold orI; simp [hz 0 (by omega), hz 1 (by omega), hz 2 (by omega)]

theorem or_any (b o cap : Nat) (x y z : Int) (w : World) (h0 : w.cell? ⟨b, o + 0, none⟩ = some (.int .i64 x)) (h1 : w.cell? ⟨b, o + 1, none⟩ = some (.int .i64 y)) (h2 : w.cell? ⟨b, o + 2, none⟩ = some (.int .i64 z)) :
    Calls Try.prog 140 #[.slice (some ⟨b, o, none⟩) 3 cap] w fun e w' => e = .returned (.int .i64 (orI x y z)) ∧ w' = w := by
  obtain ⟨v, hv, hc⟩ := or_cells h0 h1 h2
  rw [hv]
  clear hv h0 h1 h2
  have HC := Lib.hid hc
  clear hc
  go_enter Try.func140, Try.ntmps140
  go_wp2
  go_loop [8] (fun i => ∃ k : Nat, k ≤ 3 ∧ i = .int .i64 k ∧ Hid (∀ j, j < k → v j = 0)) (fun i => 3 - (intOf i).toNat)
  case atStart => exact ⟨0, by omega, rfl, Lib.hid (by intro j hj; omega)⟩
  case round =>
    obtain ⟨k, hk, rfl, hz⟩ := hrel
    by_cases hlt : k < 3
    · have hcell := HC.out k hlt
      have hi3 : (k : Int) < 3 := by omega
      by_cases hn : v k = 0
      · have hs : Hid (∀ j, j < k + 1 → v j = 0) := Lib.hid (fun j hj => by
          by_cases e : j = k
          · rw [e]; exact hn
          · exact hz.out j (by omega))
        have ht : (v k != 0) = false := by simp [hn]
        clear hn
        go_wp2
        go_round
        case rel => exact ⟨k + 1, by omega, by go_num, hs⟩
        case measure => simp [intOf]; omega
      · have hs := Lib.hid (orI_at v k hlt hz.out hn)
        have ht : (v k != 0) = true := by simp [hn]
        clear hn
        go_wp2
        go_ret
        rw [hs.out]
        exact ⟨rfl, rfl⟩
    · obtain rfl : k = 3 := by omega
      have hs := Lib.hid (orI_none v hz.out)
      go_wp2
      go_ret
      rw [hs.out]
      exact ⟨rfl, rfl⟩
end Bl
theorem wp_region_tail {P : Program} {id : Nat} {Q : Exit → Act → World → Prop} {a : Act} {w : World} {l : List Oper} (n : Nat) (hm : P.follows .mixedOrders = true) (hB : Region.lexTailB .any l.toArray n = true)
    (h : wpStill P l.toArray w.drew (fun a' => wpList P l.toArray Q (l.drop n) a' w.drew) (l.take n) a) : (Code.region id l.toArray true).wp P Q a w :=
  wp_region_still_tail n hm hB h

namespace Bl

set_option maxHeartbeats 400000 in
set_option maxRecDepth 20000 in
theorem compare_any (a b : B) (w : World) : Calls Try.prog 131 #[a.v, b.v] w fun e w' => e = .returned (.int .i64 (cmpB a b)) ∧ Below w.heap.size w w' := by
  unfold cmpB B.v
  obtain ⟨ac, an, al, h1, h2, h3⟩ := a
  obtain ⟨bc, bn, bl, h4, h5, h6⟩ := b
  go_enter Try.func131, Try.ntmps131
  go_wp2
  refine wp_region_tail 15 (by kernel_rfl) (by kernel_rfl) ?_
  simp only [List.take_succ_cons, List.take_zero, List.drop_succ_cons, List.drop_zero]
  repeat (first | still_step | still_call (cmp64 _ _ _) | still_call (cmp8 _ _ _) | still_call (cmp32 _ _ _))
  refine wpStill_nil ?_
  have b1 : Below w.heap.size w ((w.alloc (Obj.cells #[Value.int IntKind.u64 (ac : Int), Value.int IntKind.u8 (an : Int), Value.int IntKind.u32 (al : Int)] 53)).alloc (Obj.cells #[Value.int IntKind.u64 (bc : Int), Value.int IntKind.u8 (bn : Int), Value.int IntKind.u32 (bl : Int)] 53)).drew := bthen ((balloc w _).alloc (balloc w _).size _) (Sm.below_drewN _ 1)
  revert b1
  generalize ((w.alloc (Obj.cells #[Value.int IntKind.u64 (ac : Int), Value.int IntKind.u8 (an : Int), Value.int IntKind.u32 (al : Int)] 53)).alloc (Obj.cells #[Value.int IntKind.u64 (bc : Int), Value.int IntKind.u8 (bn : Int), Value.int IntKind.u32 (bl : Int)] 53)).drew = w1
  intro b1
  have HO := Lib.hid (or_any w1.heap.size 0 3 (cmpN ac bc) (cmpN an bn) (cmpN al bl) (w1.alloc (.cells #[.int .i64 (cmpN ac bc), .int .i64 (cmpN an bn), .int .i64 (cmpN al bl)] 3)) (by simp only [World.cell?, heap_alloc_new, Nat.zero_add]; rfl) (by simp only [World.cell?, heap_alloc_new, Nat.zero_add]; rfl) (by simp only [World.cell?, heap_alloc_new, Nat.zero_add]; rfl))
  go_wp2_with fail
  refine (HO.out).mono ?_
  rintro e w2 ⟨rfl, rfl⟩
  go_wp2
  go_ret
  exact ⟨rfl, b1.alloc b1.size _⟩

theorem cmpB_lt {a b : B} : (cmpB a b = -1 ∧ (a.c < b.c ∨ a.c = b.c ∧ (a.n < b.n ∨ a.n = b.n ∧ a.l < b.l))) ∨ (cmpB a b = 1 ∧ (b.c < a.c ∨ b.c = a.c ∧ (b.n < a.n ∨ b.n = a.n ∧ b.l < a.l))) ∨ (cmpB a b = 0 ∧ a.c = b.c ∧ a.n = b.n ∧ a.l = b.l) := by
  unfold cmpB orI
  rcases cmpN_cases a.c b.c with ⟨h, e⟩ | ⟨h, e⟩ | ⟨h, e⟩ <;> rw [e]
  · left; exact ⟨by simp, .inl h⟩
  · right; left; exact ⟨by simp, .inl h⟩
  · rcases cmpN_cases a.n b.n with ⟨h2, e2⟩ | ⟨h2, e2⟩ | ⟨h2, e2⟩ <;> rw [e2]
    · left; exact ⟨by simp, .inr ⟨h, .inl h2⟩⟩
    · right; left; exact ⟨by simp, .inr ⟨h.symm, .inl h2⟩⟩
    · rcases cmpN_cases a.l b.l with ⟨h3, e3⟩ | ⟨h3, e3⟩ | ⟨h3, e3⟩ <;> rw [e3]
      · left; exact ⟨by simp, .inr ⟨h, .inr ⟨h2, h3⟩⟩⟩
      · right; left; exact ⟨by simp, .inr ⟨h.symm, .inr ⟨h2.symm, h3⟩⟩⟩
      · right; right; exact ⟨by simp, h, h2, h3⟩
end Bl
end Go.Proofs.Ytniopkoaplkpkaa
