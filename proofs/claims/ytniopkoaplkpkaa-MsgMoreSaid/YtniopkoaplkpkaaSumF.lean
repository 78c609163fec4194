/- The walks of slices.Equal at bytes and of Fits. Conditions: the bytes can be read and are fewer than 2^46. -/
import Derived.Test.YtniopkoaplkpkaaSumC
import Derived.BigQuiet
import Derived.Deep.QuietTactic
import Derived.Deep.RegionWith
namespace Go.Proofs.Ytniopkoaplkpkaa
open Go.RowKit
set_option linter.unusedVariables false
namespace Sm

theorem eq_step {l m : List UInt8} (hlm : l.length = m.length) (k : Nat) (h1 : k < l.length) (h2 : k < m.length) (h : l.take k = m.take k) (e : l[k] = m[k]) : l.take (k + 1) = m.take (k + 1) := by
  rw [List.take_succ_eq_append_getElem h1, List.take_succ_eq_append_getElem h2, h, e]
theorem eq_not {l m : List UInt8} (k : Nat) (h1 : k < l.length) (h2 : k < m.length) (e : l[k] ≠ m[k]) : l ≠ m := by
  rintro rfl; exact e rfl

theorem below_drewN (w : World) (n : Nat) : Below w.heap.size w (w.drewN n) := ⟨rfl, rfl, rfl, Nat.le_refl _, fun _ _ => rfl⟩

set_option maxHeartbeats 400000 in
theorem equal_any (a : Option Addr) (n cap : Nat) (l : List UInt8) (a2 : Option Addr) (n2 cap2 : Nat) (m : List UInt8) (w : World) (hl : Bytes w a n l) (hm : Bytes w a2 n2 m) :
    Calls Try.prog 107 #[.slice a n cap, .slice a2 n2 cap2] w fun e w' => e = .returned (.bool (decide (l = m))) ∧ Below w.heap.size w w' := by
  obtain rfl := hl.1
  obtain rfl := hm.1
  have hl2 := hl.2.1
  have hm2 := hm.2.1
  unfold maxLen at hl2 hm2
  have HL := Lib.hid hl.at
  have HM := Lib.hid hm.at
  by_cases hne : l.length = m.length
  · have hne' : ((l.length : Int) != (m.length : Int)) = false := by simp; omega
    have HN := Lib.hid hne
    clear hne
    go_enter Try.func107, Try.ntmps107
    go_wp2
    go_loopw [13] (fun i wr => ∃ k d : Nat, k ≤ l.length ∧ i = .int .i64 k ∧ l.take k = m.take k ∧ wr = w.drewN d) (fun i _ => l.length - (intOf i).toNat)
    case atStart => exact ⟨0, 0, Nat.zero_le _, rfl, rfl, rfl⟩
    case round =>
      obtain ⟨k, d, hk, rfl, he, rfl⟩ := hrel
      have HE := Lib.hid he
      clear he
      by_cases hlt : k < l.length
      · have hlt2 : k < m.length := by have := HN.out; omega
        obtain ⟨b, o, ha, hcell⟩ := HL.out k hlt
        obtain ⟨b2, o2, ha2, hcell2⟩ := HM.out k hlt2
        subst ha ha2
        have hst := Lib.hid (eq_step HN.out k hlt hlt2 HE.out)
        have hno := Lib.hid (eq_not k hlt hlt2)
        generalize l[k] = c at *
        generalize m[k] = c2 at *
        have hI1 : (k : Int) < (l.length : Int) := by omega
        have hI2 : (k : Int) < (m.length : Int) := by omega
        by_cases hc : c = c2
        · have hc' : ((c.toNat : Int) != (c2.toNat : Int)) = false := by rw [hc]; simp
          have HC := Lib.hid hc
          clear hc
          go_wp2
          go_quiet (fail)
          go_wp2
          go_roundw
          case rel => exact ⟨k + 1, _, by omega, by go_num, hst.out HC.out, rfl⟩
          case measure => simp [intOf]; omega
        · have hc' : ((c.toNat : Int) != (c2.toNat : Int)) = true := by
            simp; intro e; exact hc (UInt8.toNat_inj.1 (by omega))
          have hF : decide (l = m) = false := by simp; exact hno.out hc
          have HF := Lib.hid hF
          clear hc hF
          go_wp2
          go_quiet (fail)
          go_wp2
          go_ret
          rw [HF.out]
          exact ⟨rfl, bthen (below_drewN _ _) (below_drewN _ _)⟩
      · have hT : decide (l = m) = true := by
          have e := HE.out
          rw [List.take_of_length_le (by omega), List.take_of_length_le (by have := HN.out; omega)] at e
          simp [e]
        have HT := Lib.hid hT
        clear hT
        go_wp2
        go_ret
        rw [HT.out]
        exact ⟨rfl, below_drewN _ _⟩
  · have hne' : ((l.length : Int) != (m.length : Int)) = true := by simp; omega
    have hF : decide (l = m) = false := by simp; rintro rfl; exact hne rfl
    rw [hF]
    clear hF hne
    go_enter Try.func107, Try.ntmps107
    go_wp2
    go_ret
    exact ⟨rfl, Below.refl _ _⟩

/-- a slice of bytes of the call's own, and an error's number -/
def RetBE (w : World) (l : List UInt8) (k : Nat) (e : Ending) (w' : World) : Prop :=
  ∃ a m cap, e = .returned (.tuple #[.slice a m cap, .int .i64 (k : Int)]) ∧ OwnB w' w.heap.size 5 (.slice a m cap) l ∧ Below w.heap.size w w'
/-- a slice of bytes, and an error's number -/
def ReadBE (w : World) (l : List UInt8) (k : Nat) (e : Ending) (w' : World) : Prop :=
  ∃ a m cap, e = .returned (.tuple #[.slice a m cap, .int .i64 (k : Int)]) ∧ Bytes w' a m l ∧ Below w.heap.size w w'

theorem take_bytes {w : World} {a : Option Addr} {n : Nat} {l : List UInt8} (h : Bytes w a n l) (k : Nat) (hk : k ≤ n) : Bytes w a k (l.take k) := h.take k hk

set_option maxHeartbeats 400000 in
theorem fits_any (a : Option Addr) (n cap : Nat) (l : List UInt8) (w : World) (hb : Bytes w a n l) (hsmall : n ≤ 70368744177664) (hcap : n ≤ cap ∧ cap ≤ maxLen) :
    Calls Try.prog 74 #[.slice a n cap] w (RetBE w (fitsS l).1 (fitsS l).2) := by
  obtain rfl := hb.1
  have hc1 := hcap.1
  have hc2 := hcap.2
  unfold maxLen at hc2
  by_cases h4 : l.length < 4
  · have hF : fitsS l = ([], 2) := by unfold fitsS; rw [if_pos h4]
    rw [hF]
    clear hF
    go_enter Try.func74, Try.ntmps74
    go_wp2
    go_ret2
    exact ⟨none, 0, 0, rfl, OwnB.nil _ _ _ _, Below.refl _ _⟩
  · have hspec : fitsS l = if markS (l.take (l.length - 4)) = l then (l.take (l.length - 4), 0) else ([], 5) := by unfold fitsS; rw [if_neg h4]
    have HS := Lib.hid hspec
    clear hspec
    obtain ⟨j, hj⟩ : ∃ j, l.length = j + 4 := ⟨l.length - 4, by omega⟩
    have hjj : (l.length : Int) - 4 = (j : Int) := by omega
    have hj4 : l.length - 4 = j := by omega
    have HJ := Lib.hid hj4
    clear hj hj4
    have htk := hb.take j (by omega)
    go_enter Try.func74, Try.ntmps74
    go_wp2_with fail
    refine (mark_any _ _ _ _ _ htk (by omega)).mono ?_
    rintro e w1 ⟨a1, m1, c1, rfl, o1, b1⟩
    go_wp2_with fail
    refine (equal_any _ _ _ _ _ _ _ _ _ o1.bytes (hb.mono b1)).mono ?_
    rintro e w2 ⟨rfl, b2⟩
    have b12 := bthen b1 b2
    by_cases he : markS (l.take j) = l
    · have hd : decide (markS (l.take j) = l) = true := by simp [he]
      have hF : fitsS l = (l.take j, 0) := by rw [HS.out, HJ.out, if_pos he]
      have HF := Lib.hid hF
      clear hF he
      go_wp2_with fail
      refine (Pk.clone_any _ _ _ _ _ (htk.mono b12) (by omega)).mono ?_
      rintro e w3 ⟨a3, m3, c3, rfl, o3, b3⟩
      go_wp2
      go_ret2
      rw [HF.out]
      exact ⟨a3, m3, c3, rfl, Own.base o3 b12.size, bthen b12 b3⟩
    · have hd : decide (markS (l.take j) = l) = false := by simp [he]
      have hF : fitsS l = ([], 5) := by rw [HS.out, HJ.out, if_neg he]
      have HF := Lib.hid hF
      clear hF he
      go_wp2
      go_ret2
      rw [HF.out]
      exact ⟨none, 0, 0, rfl, OwnB.nil _ _ _ _, b12⟩

end Sm
end Go.Proofs.Ytniopkoaplkpkaa
