/- The walk of slices.EqualFunc at done operations, under reg.Same's closure. Conditions: the slices can be read. -/
import Derived.Test.YtniopkoaplkpkaaEqB
namespace Go.Proofs.Ytniopkoaplkpkaa
open Go.RowKit
set_option linter.unusedVariables false
namespace Rg

set_option maxRecDepth 10000 in
set_option maxHeartbeats 1600000 in
theorem equalDone_any (w : World) (a b : Option Addr) (c d : Nat) (l m : List DoneD) (hl : Dones w a l) (hm : Dones w b m) :
    Calls Try.prog 101 #[.slice a l.length c, .slice b m.length d, .func (.func 98) #[] #[]] w (RetBo w (decide (l = m))) := by
  have BA := Lib.hid (fun w o => balloc w o)
  have HX := Lib.hid hl
  have HY := Lib.hid hm
  have h63 := hl.1
  have h64 := hm.1
  unfold maxLen at h63 h64
  obtain ⟨res, hres⟩ : ∃ res, res = decide (l = m) := ⟨_, rfl⟩
  rw [← hres]
  have HF := Lib.hid hres
  clear hres hl hm
  rcases ne_cases (l.length : Int) (m.length : Int) with ⟨e3, t3⟩ | ⟨e3, t3⟩
  case inr =>
    have hr : res = false := by
      rw [HF.out, decide_eq_false_iff_not]
      rintro rfl
      exact e3 rfl
    subst hr
    clear e3
    go_enter Try.func101, Try.ntmps101
    go_wp2_with fail
    go_ret
    exact retBo rfl (Below.refl _ _)
  have hlen : l.length = m.length := by omega
  have HLEN := Lib.hid hlen
  clear hlen e3
  go_enter Try.func101, Try.ntmps101
  go_wp2_with fail
  go_loopw [17] (fun i wr => ∃ k : Nat, k ≤ l.length ∧ i = .int .i64 k ∧ Hid (l.take k = m.take k) ∧ Below w.heap.size w wr) (fun i _ => l.length - (intOf i).toNat)
  case atStart => exact ⟨0, Nat.zero_le _, rfl, Lib.hid rfl, Below.refl _ _⟩
  case round =>
    obtain ⟨k, hk, rfl, hg, bl⟩ := hrel
    by_cases hlt : k < l.length
    · have hlt2 : k < m.length := by have := HLEN.out; omega
      obtain ⟨b1, o1, cs, ha, _, hc, ⟨p, rfl, _, _, hrep⟩, hbl⟩ := Rows.at (HX.out.mono bl) k hlt
      obtain ⟨b2, o2, cs2, ha2, _, hc2, ⟨q, rfl, _, _, hrep2⟩, hbl2⟩ := Rows.at (HY.out.mono bl) k hlt2
      have c0 := hc 0 (by simp [repCs])
      have c1 := hc 1 (by simp [repCs])
      have c2 := hc 2 (by simp [repCs])
      have c3 := hc 3 (by simp [repCs])
      have c4 := hc 4 (by simp [repCs])
      have c5 := hc 5 (by simp [repCs])
      have d0 := hc2 0 (by simp [repCs])
      have d1 := hc2 1 (by simp [repCs])
      have d2 := hc2 2 (by simp [repCs])
      have d3 := hc2 3 (by simp [repCs])
      have d4 := hc2 4 (by simp [repCs])
      have d5 := hc2 5 (by simp [repCs])
      simp [repCs] at c0 c1 c2 c3 c4 c5 d0 d1 d2 d3 d4 d5
      subst ha ha2
      have g1 := hbl (by omega)
      have g2 := hbl2 (by omega)
      have n1 : ¬ b1 = wr.heap.size := by omega
      have n2 : ¬ b2 = wr.heap.size := by omega
      have n3 : ¬ b2 = wr.heap.size + 1 := by omega
      have HEQ := Lib.hid (fun e => take_eq hlt hlt2 hg.out e)
      have HNE := Lib.hid (fun e => take_ne hlt hlt2 e)
      have CD := Lib.hid (fun w' (b : Below wr.heap.size wr w') => sameDone_any w' l[k] m[k] p q (hrep.mono b) (hrep2.mono b))
      have i1 : (0 : Int) ≤ (k : Int) := by omega
      have i2 : (k : Int) < (l.length : Int) := by omega
      have i3 : (k : Int) < (m.length : Int) := by omega
      clear hc hc2 hbl hbl2 hrep hrep2
      generalize l[k] = u at *
      generalize m[k] = v at *
      unfold doneCs repCs at CD
      by_cases e : u = v
      · rw [decide_eq_true e] at CD
        have HE := Lib.hid (HEQ.out e)
        clear e
        go_wp2_with fail
        refine (CD.out _ (bthen (BA.out wr _) (BA.out _ _))).mono ?_
        rintro e w1 ⟨rfl, x1⟩
        go_wp2_with fail
        go_roundw
        case rel => exact ⟨k + 1, by omega, by go_num, HE, bthen bl (bthen (bthen (BA.out wr _) (BA.out _ _)) x1)⟩
        case measure => simp [intOf]; omega
      · rw [decide_eq_false e] at CD
        have hr : res = false := by rw [HF.out, decide_eq_false (fun h => HNE.out e h)]
        subst hr
        clear e
        go_wp2_with fail
        refine (CD.out _ (bthen (BA.out wr _) (BA.out _ _))).mono ?_
        rintro e w1 ⟨rfl, x1⟩
        go_wp2_with fail
        go_ret
        exact retBo rfl (bthen bl (bthen (bthen (BA.out wr _) (BA.out _ _)) x1))
    · obtain rfl : k = l.length := by omega
      have hr : res = true := by
        have h := hg.out
        rw [List.take_length, HLEN.out, List.take_length] at h
        rw [HF.out, decide_eq_true h]
      subst hr
      clear hg
      go_wp2_with fail
      go_ret
      exact retBo rfl bl
end Rg
end Go.Proofs.Ytniopkoaplkpkaa
