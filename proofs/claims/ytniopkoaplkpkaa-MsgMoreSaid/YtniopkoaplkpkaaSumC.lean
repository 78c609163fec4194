/- The walks of the sum of the code: its table, More, Of, Mark. Condition: the bytes can be read. -/
import Derived.Test.YtniopkoaplkpkaaSumP
import Derived.Test.YtniopkoaplkpkaaPackN
import Derived.Lib.SlBytesConst
namespace Go.Proofs.Ytniopkoaplkpkaa
open Go.RowKit
set_option linter.unusedVariables false
namespace Sm

/-- the table's cells when k of them are laid -/
def tabA (k : Nat) : Array Value := Array.ofFn (n := 16) fun i => .int .u32 (if i.val < k then (tb i.val : Int) else 0)
theorem tabA_get (k j : Nat) (h : j < 16) : (tabA k)[j]? = some (.int .u32 (if j < k then (tb j : Int) else 0)) := by
  simp [tabA, h]
theorem tabA_size (k : Nat) : (tabA k).size = 16 := by simp [tabA]
theorem tabA_set (k : Nat) (h : k < 16) : (tabA k).setIfInBounds k (.int .u32 (tb k : Int)) = tabA (k + 1) := by
  apply Array.ext_getElem?
  intro j
  rw [Array.getElem?_setIfInBounds]
  by_cases hj : j < 16
  · rw [tabA_get _ _ hj, tabA_get _ _ hj]
    by_cases e : k = j
    · subst e; simp [tabA_size, h]
    · rw [if_neg e]
      by_cases hl : j < k
      · simp [hl, show j < k + 1 from by omega]
      · simp [hl, show ¬ j < k + 1 from by omega]
  · have h1 : (tabA k)[j]? = none := by rw [Array.getElem?_eq_none]; rw [tabA_size]; omega
    have h2 : (tabA (k + 1))[j]? = none := by rw [Array.getElem?_eq_none]; rw [tabA_size]; omega
    rw [if_neg (by omega), h1, h2]
theorem tabA_zero : tabA 0 = #[.int .u32 0, .int .u32 0, .int .u32 0, .int .u32 0, .int .u32 0, .int .u32 0, .int .u32 0, .int .u32 0, .int .u32 0, .int .u32 0, .int .u32 0, .int .u32 0, .int .u32 0, .int .u32 0, .int .u32 0, .int .u32 0] := by
  rfl

theorem tabInfo : (Try.prog.info? 172).map (·.size) = some 16 := by kernel_rfl
theorem tabA_one (k : Nat) : (tabA k).all (·.oneCell') = true := by
  rw [Array.all_eq_true]
  intro i hi
  simp [tabA, Value.oneCell']

set_option maxHeartbeats 400000 in
theorem table_any (w : World) :
    Calls Try.prog 132 #[] w fun e w' => e = .returned (.agg (tabA 16)) ∧ Below w.heap.size w w' := by
  go_enter Try.func132, Try.ntmps132
  go_wp2
  go_loopw [4] (fun i wr => ∃ k : Nat, k ≤ 16 ∧ i = .int .i64 k ∧ wr.heap[w.heap.size + 1]? = some (.cells (tabA k) 172 (0, 0)) ∧ wr.heap[w.heap.size]? = some (.cells (tabA 0) 172 (0, 0)) ∧ Below w.heap.size w wr) (fun i _ => 16 - (intOf i).toNat)
  case atStart => exact ⟨0, by omega, rfl, heap_alloc2_new w _ _, heap_alloc2_old w _ _, ((Below.refl _ w).alloc (Nat.le_refl _) _).alloc (by simp) _⟩
  case round =>
    obtain ⟨k, hk, rfl, ht, hz, hb⟩ := hrel
    have HT := Lib.hid ht
    have HZ := Lib.hid hz
    clear ht hz
    by_cases hlt : k < 16
    · go_wp2
      go_loop [3, 9] (fun x j => ∃ m : Nat, m ≤ 4 ∧ j = .int .i64 m ∧ x = .int .u32 (it m k : Int)) (fun _ j => 4 - (intOf j).toNat)
      case atStart => exact ⟨0, by omega, rfl, rfl⟩
      case round =>
        obtain ⟨m, hm, rfl, rfl⟩ := hrel
        have hy : it m k < 4294967296 := it_lt m (by omega)
        have hs := it_succ m k
        by_cases hm4 : m < 4
        · generalize it m k = y at *
          have ha := and1 y hy
          by_cases h1 : y % 2 = 1
          · have hf : it (m + 1) k = (y / 2) ^^^ 3988292384 := by rw [hs]; unfold f; rw [if_pos h1]
            have HF := Lib.hid hf
            have hx := Lib.hid (xor32 (y / 2) 3988292384 (by omega) (by omega))
            rw [h1] at ha
            clear hs hf
            go_wp2
            go_round
            case rel => exact ⟨m + 1, by omega, by go_num, by rw [HF.out, ← hx.out]; simp⟩
            case measure => simp [intOf]; omega
          · have hf : it (m + 1) k = y / 2 := by rw [hs]; unfold f; rw [if_neg h1]
            have HF := Lib.hid hf
            rw [show y % 2 = 0 from by omega] at ha
            clear hs hf
            go_wp2
            go_round
            case rel => exact ⟨m + 1, by omega, by go_num, by rw [HF.out]; simp⟩
            case measure => simp [intOf]; omega
        · obtain rfl : m = 4 := by omega
          clear hs
          have hc : wr.cell? ⟨w.heap.size + 1, k, none⟩ = some (.int .u32 0) := by
            rw [cell_of_row _ _ _ _ _ _ HT.out, tabA_get _ _ hlt, if_neg (by omega)]
          have hfr : wr.frozen? ⟨w.heap.size + 1, k, none⟩ = false := frozen_of_row _ _ _ _ _ HT.out
          go_wp2
          refine ⟨⟨k + 1, by omega, by go_num, ?_, ?_, hb.setCell (by simp) _⟩, by simp [intOf]; omega⟩
          · rw [← tabA_set k hlt]; exact heap_setCell_same _ _ _ _ _ _ HT.out
          · rw [heap_setCell_other _ _ _ _ (by simp)]; exact HZ.out
    · obtain rfl : k = 16 := by omega
      have HI : (Try.prog.info? 172).map (·.size) = some (tabA 16).size := by rw [tabA_size]; exact tabInfo
      go_wp2_with (first | (refine wpList_load_row rfl 172 (.tmp 1) rfl _ rfl _ (tabA 16) _ _ HT.out Try.underlying172 rfl HI ?_) | (refine wpList_store_row rfl 172 (.tmp 0) (.tmp 24) rfl _ (tabA 16) rfl rfl _ (tabA 0) HZ.out HI (by rw [tabA_size, tabA_size]) (tabA_one 16) ?_))
      have hz2 : (wr.setRow w.heap.size (tabA 16)).heap[w.heap.size]? = some (.cells (tabA 16) 172 (0, 0)) := setRow_heap wr w.heap.size (tabA 0) (tabA 16) _ _ HZ.out
      refine bodyPost_ret (results_cell_row rfl _ _ _ _ _ _ _ rfl hz2 Try.underlying172 rfl HI) rfl ⟨rfl, ?_⟩
      exact hb.trans ⟨rfl, rfl, rfl, by simp, fun k hk => setRow_other wr w.heap.size k _ (by omega)⟩

set_option maxHeartbeats 800000 in
theorem more_any (s : Nat) (a : Option Addr) (n cap : Nat) (l : List UInt8) (w : World) (hs : s < 4294967296) (hb : Bytes w a n l) :
    Calls Try.prog 109 #[.int .u32 (s : Int), .slice a n cap] w fun e w' => e = .returned (.int .u32 (more s l : Int)) ∧ Below w.heap.size w w' := by
  have hm := hb.2.1
  unfold maxLen at hm
  obtain rfl := hb.1
  have HI : (Try.prog.info? 172).map (·.size) = some (tabA 16).size := by rw [tabA_size]; exact tabInfo
  have hx0 := xor32 s 4294967295 hs (by omega)
  have hxl : s ^^^ 4294967295 < 4294967296 := Nat.xor_lt_two_pow (n := 32) hs (by omega)
  simp only [show ((4294967295 : Nat) : Int) = 4294967295 from rfl] at hx0
  go_enter Try.func109, Try.ntmps109
  go_wp2_with fail
  refine (table_any _).mono ?_
  rintro e w1 ⟨rfl, b1⟩
  go_wp2_with (refine wpList_store_row rfl 172 (.tmp 5) (.tmp 9) rfl w1.heap.size (tabA 16) rfl rfl _ (tabA 0) (heap_alloc_new w1 _) HI (by rw [tabA_size, tabA_size]) (tabA_one 16) ?_)
  rw [← tabA_zero]
  generalize hW : (w1.alloc (Obj.cells (tabA 0) 172)).setRow w1.heap.size (tabA 16) = W
  have hT : W.heap[w1.heap.size]? = some (.cells (tabA 16) 172 (0, 0)) := by
    rw [← hW]; exact setRow_heap _ _ (tabA 0) (tabA 16) _ _ (heap_alloc_new w1 _)
  have bW : Below w.heap.size w W := by
    rw [← hW]
    exact (b1.alloc b1.size _).trans ⟨rfl, rfl, rfl, by simp, fun k hk => setRow_other _ _ k _ (by have := b1.size; omega)⟩
  have HAT := Lib.hid (hb.mono bW).at
  have HT := Lib.hid hT
  clear hT hW hx0
  have hr := fun k => reg_lt (l.take k) hxl
  have HR := Lib.hid hr
  clear hr
  go_loop [6, 14] (fun x i => ∃ k : Nat, k ≤ l.length ∧ i = .int .i64 k ∧ x = .int .u32 (reg (s ^^^ 4294967295) (l.take k) : Int)) (fun _ i => l.length - (intOf i).toNat)
  case atStart => exact ⟨0, Nat.zero_le _, rfl, rfl⟩
  case round =>
    obtain ⟨k, hk, rfl, rfl⟩ := hrel
    have hx := HR.out k
    by_cases hlt : k < l.length
    · obtain ⟨b, o, ha, hcell⟩ := HAT.out k hlt
      subst ha
      have hstep := reg_take (s ^^^ 4294967295) l k hlt
      have hcb := l[k].toNat_lt
      unfold byte at hstep
      generalize reg (s ^^^ 4294967295) (l.take k) = x at *
      generalize l[k].toNat = c at *
      obtain ⟨r1, x1, r2, x2, e1, q1, e2, q2, e3, q3, e4, e5⟩ := half_facts x c hx hcb
      rw [← e5] at hstep
      have HS := Lib.hid hstep
      clear hstep e5
      have cl1 : W.cell? ⟨w1.heap.size, r1, none⟩ = some (.int .u32 (tb r1 : Int)) := by rw [cell_of_row _ _ _ _ _ _ HT.out, tabA_get _ _ q1, if_pos q1]
      have cl2 : W.cell? ⟨w1.heap.size, r2, none⟩ = some (.int .u32 (tb r2 : Int)) := by rw [cell_of_row _ _ _ _ _ _ HT.out, tabA_get _ _ q3, if_pos q3]
      have hc16 : IntKind.u32.wrap ((c : Int) / 16) = (c : Int) / 16 := by rw [IntKind.wrap_u32]; omega
      go_wp2
      go_round
      case rel => exact ⟨k + 1, by omega, by go_num, by rw [HS.out]⟩
      case measure => simp [intOf]; omega
    · obtain rfl : k = l.length := by omega
      have hfin := xor32 (reg (s ^^^ 4294967295) (l.take l.length)) 4294967295 hx (by omega)
      simp only [show ((4294967295 : Nat) : Int) = 4294967295 from rfl, List.take_length] at hfin
      have HF := Lib.hid hfin
      clear hfin
      go_wp2
      go_ret
      exact ⟨ret_int (by rw [HF.out]; rfl), bW⟩

theorem of_any (a : Option Addr) (n cap : Nat) (l : List UInt8) (w : World) (hb : Bytes w a n l) :
    Calls Try.prog 77 #[.slice a n cap] w fun e w' => e = .returned (.int .u32 (ofS l : Int)) ∧ Below w.heap.size w w' := by
  go_enter Try.func77, Try.ntmps77
  go_wp2_with fail
  refine (more_any 0 _ _ _ l _ (by omega) hb).mono ?_
  rintro e w1 ⟨rfl, b1⟩
  go_wp2
  go_ret
  exact ⟨rfl, b1⟩

theorem le4_new (w : World) (v : Nat) (h : v < 4294967296) :
    Bytes (w.alloc (.cells #[.int .u8 ((v : Int) % 256), .int .u8 ((v : Int) / 256 % 256), .int .u8 ((v : Int) / 65536 % 256), .int .u8 ((v : Int) / 16777216)] 5)) (some ⟨w.heap.size, 0, none⟩) 4 (le4 v) := by
  have e : ∀ (n : Nat) (x : Int), x = ((n % 256 : Nat) : Int) → Value.int .u8 x = bv (UInt8.ofNat n) := by
    rintro n x rfl
    unfold bv
    rw [UInt8.toNat_ofNat']
  rw [e v _ (by omega), e (v / 256) _ (by omega), e (v / 65536) _ (by omega), e (v / 16777216) _ (by omega)]
  exact newBytes w (le4 v) _ _ (by simp [le4, maxLen])

theorem mark_any (a : Option Addr) (n cap : Nat) (l : List UInt8) (w : World) (hb : Bytes w a n l) (hsmall : n ≤ 70368744177664) :
    Calls Try.prog 29 #[.slice a n cap] w (RetB w (markS l)) := by
  have hlt := ofS_lt l
  have hn := Lib.hid hb.1
  go_enter Try.func29, Try.ntmps29
  go_wp2_with fail
  refine (of_any _ _ _ _ _ hb).mono ?_
  rintro e w1 ⟨rfl, b1⟩
  go_wp2_with fail
  refine (Pk.clone_any _ _ _ _ _ (hb.mono b1) hsmall).mono ?_
  rintro e w2 ⟨a2, m2, c2, rfl, o2, b2⟩
  go_wp2_with (at_builtin; refine stopHere ?_)
  have hb2 := o2.bytes.1
  refine atStop (appB rfl (.tmp 7) (.tmp 19) rfl (m := le4 (ofS l)) (o2.below (balloc _ _)) (le4_new w2 _ hlt) rfl rfl (by have := b2.size; simp; omega) (by have := hn.out; simp [le4]; omega) ?_)
  intro a3 m3 c3 w3 o3 g3 _
  have b3 := bapp ((b1.trans (b2.mono b1.size)).alloc (Nat.le_trans b1.size b2.size) _) (o2.below (balloc _ _)) b1.size g3
  go_wp2
  go_ret
  exact ⟨a3, m3, c3, rfl, Own.base o3 b1.size, b3⟩
end Sm
end Go.Proofs.Ytniopkoaplkpkaa
