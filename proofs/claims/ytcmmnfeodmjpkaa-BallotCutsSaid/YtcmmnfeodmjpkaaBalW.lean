/- The walks of the ballots' order: what two stand to each other is told by three numbers. Conditions: each number lies in its kind. -/
import Derived.Test.YtcmmnfeodmjpkaaSumX
import Derived.Test.YtcmmnfeodmjpkaaRegion
import Derived.StillTailTactics
namespace Go.Proofs.Ytcmmnfeodmjpkaa
open Go.RowKit
set_option linter.unusedVariables false
namespace Bl

/-- how two numbers stand -/
def cmpN (a b : Nat) : Int := if a < b then -1 else if b < a then 1 else 0
/-- the first that isn't 0 -/
def orI (x y z : Int) : Int := if x ≠ 0 then x else if y ≠ 0 then y else z
/-- a ballot -/
structure B where
  c : Nat
  n : Nat
  l : Nat
  hc : c < 18446744073709551616
  hn : n < 256
  hl : l < 4294967296
def B.v (b : B) : Value := .agg #[.int .u64 (b.c : Int), .int .u8 (b.n : Int), .int .u32 (b.l : Int)]
def cmpB (a b : B) : Int := orI (cmpN a.c b.c) (cmpN a.n b.n) (cmpN a.l b.l)

theorem cmpN_cases (a b : Nat) : (a < b ∧ cmpN a b = -1) ∨ (b < a ∧ cmpN a b = 1) ∨ (a = b ∧ cmpN a b = 0) := by
  unfold cmpN
  rcases Nat.lt_trichotomy a b with h | h | h
  · left; exact ⟨h, if_pos h⟩
  · right; right; exact ⟨h, by rw [if_neg (by omega), if_neg (by omega)]⟩
  · right; left; exact ⟨h, by rw [if_neg (by omega), if_pos h]⟩

theorem nan64 (a : Nat) (w : World) : Calls Try.prog 64 #[.int .u64 (a : Int)] w fun e w' => e = .returned (.bool false) ∧ w' = w := by
  go_enter Try.func64, Try.ntmps64
  go_wp2
  go_ret
  exact ⟨rfl, rfl⟩
theorem nan8 (a : Nat) (w : World) : Calls Try.prog 65 #[.int .u8 (a : Int)] w fun e w' => e = .returned (.bool false) ∧ w' = w := by
  go_enter Try.func65, Try.ntmps65
  go_wp2
  go_ret
  exact ⟨rfl, rfl⟩
theorem nan32 (a : Nat) (w : World) : Calls Try.prog 66 #[.int .u32 (a : Int)] w fun e w' => e = .returned (.bool false) ∧ w' = w := by
  go_enter Try.func66, Try.ntmps66
  go_wp2
  go_ret
  exact ⟨rfl, rfl⟩

theorem cmp64 (a b : Nat) (w : World) : Calls Try.prog 58 #[.int .u64 (a : Int), .int .u64 (b : Int)] w fun e w' => e = .returned (.int .i64 (cmpN a b)) ∧ w' = w := by
  rcases cmpN_cases a b with ⟨h, e⟩ | ⟨h, e⟩ | ⟨h, e⟩ <;> rw [e] <;> clear e
  all_goals
    go_enter Try.func58, Try.ntmps58
    go_wp2_with fail
    refine (nan64 _ _).mono ?_
    rintro e w1 ⟨rfl, rfl⟩
    go_wp2_with fail
    refine (nan64 _ _).mono ?_
    rintro e w1 ⟨rfl, rfl⟩
    go_wp2
    go_ret
    exact ⟨rfl, rfl⟩
theorem cmp8 (a b : Nat) (w : World) : Calls Try.prog 59 #[.int .u8 (a : Int), .int .u8 (b : Int)] w fun e w' => e = .returned (.int .i64 (cmpN a b)) ∧ w' = w := by
  rcases cmpN_cases a b with ⟨h, e⟩ | ⟨h, e⟩ | ⟨h, e⟩ <;> rw [e] <;> clear e
  all_goals
    go_enter Try.func59, Try.ntmps59
    go_wp2_with fail
    refine (nan8 _ _).mono ?_
    rintro e w1 ⟨rfl, rfl⟩
    go_wp2_with fail
    refine (nan8 _ _).mono ?_
    rintro e w1 ⟨rfl, rfl⟩
    go_wp2
    go_ret
    exact ⟨rfl, rfl⟩
theorem cmp32 (a b : Nat) (w : World) : Calls Try.prog 60 #[.int .u32 (a : Int), .int .u32 (b : Int)] w fun e w' => e = .returned (.int .i64 (cmpN a b)) ∧ w' = w := by
  rcases cmpN_cases a b with ⟨h, e⟩ | ⟨h, e⟩ | ⟨h, e⟩ <;> rw [e] <;> clear e
  all_goals
    go_enter Try.func60, Try.ntmps60
    go_wp2_with fail
    refine (nan32 _ _).mono ?_
    rintro e w1 ⟨rfl, rfl⟩
    go_wp2_with fail
    refine (nan32 _ _).mono ?_
    rintro e w1 ⟨rfl, rfl⟩
    go_wp2
    go_ret
    exact ⟨rfl, rfl⟩

theorem or_cells {w : World} {b o : Nat} {x y z : Int} (h0 : w.cell? ⟨b, o + 0, none⟩ = some (.int .i64 x)) (h1 : w.cell? ⟨b, o + 1, none⟩ = some (.int .i64 y)) (h2 : w.cell? ⟨b, o + 2, none⟩ = some (.int .i64 z)) :
    ∃ v : Nat → Int, orI x y z = orI (v 0) (v 1) (v 2) ∧ ∀ j, j < 3 → w.cell? ⟨b, o + j, none⟩ = some (.int .i64 (v j)) := by
  refine ⟨fun j => if j = 0 then x else if j = 1 then y else z, by simp, fun j hj => ?_⟩
  match j, hj with
  | 0, _ => exact h0
  | 1, _ => exact h1
  | 2, _ => exact h2

theorem orI_at (v : Nat → Int) (k : Nat) (hk : k < 3) (hz : ∀ j, j < k → v j = 0) (hn : v k ≠ 0) : orI (v 0) (v 1) (v 2) = v k := by
  match k, hk with
  | 0, _ => unfold orI; rw [if_pos hn]
  | 1, _ => unfold orI; rw [if_neg (by simp [hz 0 (by omega)]), if_pos hn]
  | 2, _ => unfold orI; rw [if_neg (by simp [hz 0 (by omega)]), if_neg (by simp [hz 1 (by omega)])]
theorem orI_none (v : Nat → Int) (hz : ∀ j, j < 3 → v j = 0) : orI (v 0) (v 1) (v 2) = 0 := by
  unfold orI; simp [hz 0 (by omega), hz 1 (by omega), hz 2 (by omega)]

theorem or_any (b o cap : Nat) (x y z : Int) (w : World) (h0 : w.cell? ⟨b, o + 0, none⟩ = some (.int .i64 x)) (h1 : w.cell? ⟨b, o + 1, none⟩ = some (.int .i64 y)) (h2 : w.cell? ⟨b, o + 2, none⟩ = some (.int .i64 z)) :
    Calls Try.prog 57 #[.slice (some ⟨b, o, none⟩) 3 cap] w fun e w' => e = .returned (.int .i64 (orI x y z)) ∧ w' = w := by
  obtain ⟨v, hv, hc⟩ := or_cells h0 h1 h2
  rw [hv]
  clear hv h0 h1 h2
  have HC := Lib.hid hc
  clear hc
  go_enter Try.func57, Try.ntmps57
  go_wp2
  go_loop [8] (fun i => ∃ k : Nat, k ≤ 3 ∧ i = .int .i64 k ∧ Hid (∀ j, j < k → v j = 0)) (fun i => 3 - (intOf i).toNat)
  case atStart => exact ⟨0, by omega, rfl, Lib.hid (by intro j hj; omega)⟩
  case round =>
    obtain ⟨k, hk, rfl, hz⟩ := hrel
    by_cases hlt : k < 3
    · have hcell := HC.out k hlt
      have hi3 : (k : Int) < 3 := by omega
      by_cases hn : v k = 0
      · have hs : Hid (∀ j, j < k + 1 → v j = 0) := Lib.hid (fun j hj => by
          by_cases e : j = k
          · rw [e]; exact hn
          · exact hz.out j (by omega))
        have ht : (v k != 0) = false := by simp [hn]
        clear hn
        go_wp2
        go_round
        case rel => exact ⟨k + 1, by omega, by go_num, hs⟩
        case measure => simp [intOf]; omega
      · have hs := Lib.hid (orI_at v k hlt hz.out hn)
        have ht : (v k != 0) = true := by simp [hn]
        clear hn
        go_wp2
        go_ret
        rw [hs.out]
        exact ⟨rfl, rfl⟩
    · obtain rfl : k = 3 := by omega
      have hs := Lib.hid (orI_none v hz.out)
      go_wp2
      go_ret
      rw [hs.out]
      exact ⟨rfl, rfl⟩
end Bl
end Go.Proofs.Ytcmmnfeodmjpkaa
