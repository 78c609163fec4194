/- The walks of slices.Clone at the four element types. Conditions: the slice can be read, and is short. -/
import Derived.Test.YtdpmfjbhadapiaaRegD
import Derived.Lib.LazyBuf
namespace Go.Proofs.Ytdpmfjbhadapiaa
open Go.RowKit
set_option linter.unusedVariables false
namespace Rg

def RetC (w : World) (e : TypeId) (size n : Nat) (news : List Value) (en : Ending) (w' : World) : Prop :=
  (∃ a' cap', en = .returned (.slice a' n cap') ∧ Own w' w.heap.size e size (.slice a' n cap') n news) ∧ Below w.heap.size w w'

theorem infoInt : (Try.prog.info? 2).map (fun i => (i.zero, i.size, i.bytes)) = some (some (.int .i64 0), 1, 8) := by kernel_rfl
set_option maxRecDepth 100000 in
theorem cloneInt_any (w : World) (a : Option Addr) (n cap : Nat) (news : List Value) (hl : news.length = n * 1) (hc : Cells w a news) (h1 : ∀ u ∈ news, u.oneCell' = true) (hn : n ≤ 50) :
    Calls Try.prog 38 #[.slice a n cap] w (RetC w 2 1 n news) := by
  cases a with
  | none =>
    have hnews : news = [] := by
      rcases hc with h | ⟨b, o, h, _⟩
      · exact h
      · cases h
    subst hnews
    obtain rfl : n = 0 := by simp at hl; omega
    have FIN := Lib.hid (Own.empty w w.heap.size 2 1 none)
    have EQ : ∀ w : World, (binOp .eql 25 (.slice none 0 cap) (.slice none 0 0)).run Try.prog w = .ok (.bool true) w := fun w => run_eql_slice_nil w _ _ none 0 cap Try.underlying25
    clear hl hc h1 hn
    unfold RetC
    go_enter Try.func38, Try.ntmps38
    go_wp2_with fail
    go_ret
    exact ⟨⟨none, 0, rfl, FIN.out⟩, Below.refl _ _⟩
  | some ad =>
    obtain ⟨i, hi, hz, hs1, hb1⟩ := info_parts infoInt
    have HL := Lib.hid hl
    have HC := Lib.hid (hc.mono (balloc w (.cells #[] 2 (0, 0))))
    have H1 := Lib.hid h1
    have HI := Lib.hid hi
    have HZ := Lib.hid hz
    have HS := Lib.hid hs1
    have HB := Lib.hid hb1
    have BA := Lib.hid (balloc w (.cells #[] 2 (0, 0)))
    have EQ : ∀ w : World, (binOp .eql 25 (.slice (some ad) n cap) (.slice none 0 0)).run Try.prog w = .ok (.bool false) w := fun w => run_eql_slice_nil w _ _ (some ad) n cap Try.underlying25
    clear hl hc h1 hi hz hs1 hb1
    unfold RetC
    go_enter Try.func38, Try.ntmps38
    go_wp2_with (refine wpList_append_Own _ (by rfl) (.tmp 5) (.tmp 6) 25 rfl w.heap.size 2 i _ 1 8 Try.underlying25 HI.out HZ.out HS.out HB.out rfl (by omega) (.slice (some ⟨w.heap.size, 0, none⟩) 0 0) 0 [] rfl (Own.empty _ _ _ _ _) (some ad) n cap news rfl HL.out HC.out H1.out (by omega) (by omega) (by rw [World.size_alloc]; omega) ?_
                 intro a' cap' w' h2 h3 h4)
    go_ret
    rw [Nat.zero_add, List.nil_append] at h2
    exact ⟨⟨a', cap', rfl, h2⟩, bthen BA.out (below_grown h3 (Nat.le_refl _) (fun k hk => by simp [blk] at hk))⟩

theorem infoCell : (Try.prog.info? 47).map (fun i => (i.zero, i.size, i.bytes)) = some (some (.agg #[.int .u64 0, .int .u8 0, .int .i64 0, .int .i64 0]), 4, 32) := by kernel_rfl
set_option maxRecDepth 100000 in
theorem cloneCell_any (w : World) (a : Option Addr) (n cap : Nat) (news : List Value) (hl : news.length = n * 4) (hc : Cells w a news) (h1 : ∀ u ∈ news, u.oneCell' = true) (hn : n ≤ 50) :
    Calls Try.prog 74 #[.slice a n cap] w (RetC w 47 4 n news) := by
  cases a with
  | none =>
    have hnews : news = [] := by
      rcases hc with h | ⟨b, o, h, _⟩
      · exact h
      · cases h
    subst hnews
    obtain rfl : n = 0 := by simp at hl; omega
    have FIN := Lib.hid (Own.empty w w.heap.size 47 4 none)
    have EQ : ∀ w : World, (binOp .eql 28 (.slice none 0 cap) (.slice none 0 0)).run Try.prog w = .ok (.bool true) w := fun w => run_eql_slice_nil w _ _ none 0 cap Try.underlying28
    clear hl hc h1 hn
    unfold RetC
    go_enter Try.func74, Try.ntmps74
    go_wp2_with fail
    go_ret
    exact ⟨⟨none, 0, rfl, FIN.out⟩, Below.refl _ _⟩
  | some ad =>
    obtain ⟨i, hi, hz, hs1, hb1⟩ := info_parts infoCell
    have HL := Lib.hid hl
    have HC := Lib.hid (hc.mono (balloc w (.cells #[] 47 (0, 0))))
    have H1 := Lib.hid h1
    have HI := Lib.hid hi
    have HZ := Lib.hid hz
    have HS := Lib.hid hs1
    have HB := Lib.hid hb1
    have BA := Lib.hid (balloc w (.cells #[] 47 (0, 0)))
    have EQ : ∀ w : World, (binOp .eql 28 (.slice (some ad) n cap) (.slice none 0 0)).run Try.prog w = .ok (.bool false) w := fun w => run_eql_slice_nil w _ _ (some ad) n cap Try.underlying28
    clear hl hc h1 hi hz hs1 hb1
    unfold RetC
    go_enter Try.func74, Try.ntmps74
    go_wp2_with (refine wpList_append_Own _ (by rfl) (.tmp 5) (.tmp 6) 28 rfl w.heap.size 47 i _ 4 32 Try.underlying28 HI.out HZ.out HS.out HB.out rfl (by omega) (.slice (some ⟨w.heap.size, 0, none⟩) 0 0) 0 [] rfl (Own.empty _ _ _ _ _) (some ad) n cap news rfl HL.out HC.out H1.out (by omega) (by omega) (by rw [World.size_alloc]; omega) ?_
                 intro a' cap' w' h2 h3 h4)
    go_ret
    rw [Nat.zero_add, List.nil_append] at h2
    exact ⟨⟨a', cap', rfl, h2⟩, bthen BA.out (below_grown h3 (Nat.le_refl _) (fun k hk => by simp [blk] at hk))⟩

theorem infoMark : (Try.prog.info? 69).map (fun i => (i.zero, i.size, i.bytes)) = some (some (.agg #[.int .u8 0, .int .u64 0, .int .u64 0]), 3, 24) := by kernel_rfl
set_option maxRecDepth 100000 in
theorem cloneMark_any (w : World) (a : Option Addr) (n cap : Nat) (news : List Value) (hl : news.length = n * 3) (hc : Cells w a news) (h1 : ∀ u ∈ news, u.oneCell' = true) (hn : n ≤ 50) :
    Calls Try.prog 75 #[.slice a n cap] w (RetC w 69 3 n news) := by
  cases a with
  | none =>
    have hnews : news = [] := by
      rcases hc with h | ⟨b, o, h, _⟩
      · exact h
      · cases h
    subst hnews
    obtain rfl : n = 0 := by simp at hl; omega
    have FIN := Lib.hid (Own.empty w w.heap.size 69 3 none)
    have EQ : ∀ w : World, (binOp .eql 49 (.slice none 0 cap) (.slice none 0 0)).run Try.prog w = .ok (.bool true) w := fun w => run_eql_slice_nil w _ _ none 0 cap Try.underlying49
    clear hl hc h1 hn
    unfold RetC
    go_enter Try.func75, Try.ntmps75
    go_wp2_with fail
    go_ret
    exact ⟨⟨none, 0, rfl, FIN.out⟩, Below.refl _ _⟩
  | some ad =>
    obtain ⟨i, hi, hz, hs1, hb1⟩ := info_parts infoMark
    have HL := Lib.hid hl
    have HC := Lib.hid (hc.mono (balloc w (.cells #[] 69 (0, 0))))
    have H1 := Lib.hid h1
    have HI := Lib.hid hi
    have HZ := Lib.hid hz
    have HS := Lib.hid hs1
    have HB := Lib.hid hb1
    have BA := Lib.hid (balloc w (.cells #[] 69 (0, 0)))
    have EQ : ∀ w : World, (binOp .eql 49 (.slice (some ad) n cap) (.slice none 0 0)).run Try.prog w = .ok (.bool false) w := fun w => run_eql_slice_nil w _ _ (some ad) n cap Try.underlying49
    clear hl hc h1 hi hz hs1 hb1
    unfold RetC
    go_enter Try.func75, Try.ntmps75
    go_wp2_with (refine wpList_append_Own _ (by rfl) (.tmp 5) (.tmp 6) 49 rfl w.heap.size 69 i _ 3 24 Try.underlying49 HI.out HZ.out HS.out HB.out rfl (by omega) (.slice (some ⟨w.heap.size, 0, none⟩) 0 0) 0 [] rfl (Own.empty _ _ _ _ _) (some ad) n cap news rfl HL.out HC.out H1.out (by omega) (by omega) (by rw [World.size_alloc]; omega) ?_
                 intro a' cap' w' h2 h3 h4)
    go_ret
    rw [Nat.zero_add, List.nil_append] at h2
    exact ⟨⟨a', cap', rfl, h2⟩, bthen BA.out (below_grown h3 (Nat.le_refl _) (fun k hk => by simp [blk] at hk))⟩

theorem infoDone : (Try.prog.info? 96).map (fun i => (i.zero, i.size, i.bytes)) = some (some (.agg #[.int .u8 0, .int .u64 0, .int .i64 0, .int .u64 0, .int .i64 0, .slice none 0 0]), 6, 64) := by kernel_rfl
set_option maxRecDepth 100000 in
theorem cloneDone_any (w : World) (a : Option Addr) (n cap : Nat) (news : List Value) (hl : news.length = n * 6) (hc : Cells w a news) (h1 : ∀ u ∈ news, u.oneCell' = true) (hn : n ≤ 50) :
    Calls Try.prog 76 #[.slice a n cap] w (RetC w 96 6 n news) := by
  cases a with
  | none =>
    have hnews : news = [] := by
      rcases hc with h | ⟨b, o, h, _⟩
      · exact h
      · cases h
    subst hnews
    obtain rfl : n = 0 := by simp at hl; omega
    have FIN := Lib.hid (Own.empty w w.heap.size 96 6 none)
    have EQ : ∀ w : World, (binOp .eql 48 (.slice none 0 cap) (.slice none 0 0)).run Try.prog w = .ok (.bool true) w := fun w => run_eql_slice_nil w _ _ none 0 cap Try.underlying48
    clear hl hc h1 hn
    unfold RetC
    go_enter Try.func76, Try.ntmps76
    go_wp2_with fail
    go_ret
    exact ⟨⟨none, 0, rfl, FIN.out⟩, Below.refl _ _⟩
  | some ad =>
    obtain ⟨i, hi, hz, hs1, hb1⟩ := info_parts infoDone
    have HL := Lib.hid hl
    have HC := Lib.hid (hc.mono (balloc w (.cells #[] 96 (0, 0))))
    have H1 := Lib.hid h1
    have HI := Lib.hid hi
    have HZ := Lib.hid hz
    have HS := Lib.hid hs1
    have HB := Lib.hid hb1
    have BA := Lib.hid (balloc w (.cells #[] 96 (0, 0)))
    have EQ : ∀ w : World, (binOp .eql 48 (.slice (some ad) n cap) (.slice none 0 0)).run Try.prog w = .ok (.bool false) w := fun w => run_eql_slice_nil w _ _ (some ad) n cap Try.underlying48
    clear hl hc h1 hi hz hs1 hb1
    unfold RetC
    go_enter Try.func76, Try.ntmps76
    go_wp2_with (refine wpList_append_Own _ (by rfl) (.tmp 5) (.tmp 6) 48 rfl w.heap.size 96 i _ 6 64 Try.underlying48 HI.out HZ.out HS.out HB.out rfl (by omega) (.slice (some ⟨w.heap.size, 0, none⟩) 0 0) 0 [] rfl (Own.empty _ _ _ _ _) (some ad) n cap news rfl HL.out HC.out H1.out (by omega) (by omega) (by rw [World.size_alloc]; omega) ?_
                 intro a' cap' w' h2 h3 h4)
    go_ret
    rw [Nat.zero_add, List.nil_append] at h2
    exact ⟨⟨a', cap', rfl, h2⟩, bthen BA.out (below_grown h3 (Nat.le_refl _) (fun k hk => by simp [blk] at hk))⟩

end Rg
end Go.Proofs.Ytdpmfjbhadapiaa
