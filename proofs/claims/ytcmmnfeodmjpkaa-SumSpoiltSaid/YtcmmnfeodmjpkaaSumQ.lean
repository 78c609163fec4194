/- The walk of the law SumSpoilt: it returns true. -/
import Derived.Test.YtcmmnfeodmjpkaaSumS
import Derived.Test.YtcmmnfeodmjpkaaRegion
import Derived.RegionTactic
import Derived.BigRegion
namespace Go.Proofs.Ytcmmnfeodmjpkaa
open Go.RowKit
set_option linter.unusedVariables false
namespace Sm

/-- an owned byte slice's cells: read, not frozen, and written -/
theorem own_at {w : World} {base : Nat} {T : TypeId} {a : Option Addr} {n cap : Nat} {l : List UInt8} (h : OwnB w base T (.slice a n cap) l) (hp : 0 < l.length) :
    ∃ g o, a = some ⟨g, o, none⟩ ∧ base ≤ g ∧ (∀ i (hi : i < l.length), w.cell? ⟨g, o + i, none⟩ = some (.int .u8 (l[i].toNat : Int)) ∧ w.frozen? ⟨g, o + i, none⟩ = false) ∧
      (∀ i (c : UInt8), i < l.length → OwnB (w.setCell ⟨g, o + i, none⟩ (.int .u8 (c.toNat : Int))) base T (.slice a n cap) (l.set i c)) := by
  have hb := h.bytes
  have hc := h.cap
  obtain rfl := hb.1
  obtain ⟨a', cap', hv, hl, hn, hm, h'⟩ := h
  simp at hv; obtain ⟨rfl, rfl⟩ := hv
  rcases h' with h0 | ⟨g, cur, rfl, hbg, hgg, hcs, htk⟩
  · omega
  · refine ⟨g, 0, rfl, hbg, fun i hi => ⟨?_, ?_⟩, fun i c hi => ?_⟩
    · obtain ⟨b, o, ha, hcell⟩ := hb.at i hi
      simp at ha; obtain ⟨rfl, rfl⟩ := ha
      exact hcell
    · simp [World.frozen?, hgg]
    · refine ⟨some ⟨g, 0, none⟩, cap, by simp, by simp, by simpa using hn, hm, .inr ⟨g, cur.setIfInBounds i (bv c), rfl, hbg, ?_, by simpa using hcs, ?_⟩⟩
      · simp [World.setCell, Array.getElem?_modify, hgg, bv]
      · simp only [List.length_set, Array.toList_setIfInBounds, List.map_set, ← htk, List.take_set]

theorem sumSpoilt_far (w : World) (a : Option Addr) (cap : Nat) (l : List UInt8) (hb : Bytes w a l.length l) (x : Int) (hx : -9223372036854775808 ≤ x ∧ x ≤ 9223372036854775807) (v : Nat) (hv : v < 4294967296)
    (h : 2000 < l.length ∨ x < 0 ∨ (l.length : Int) < x ∨ v = 0) :
    Calls Try.prog 12 #[.slice a l.length cap, .int .i64 x, .int .u32 (v : Int)] w fun e w' => e = .returned (.bool true) ∧ Below w.heap.size w w' := by
  by_cases h1 : 2000 < l.length
  · clear h
    go_enter Try.func12, Try.ntmps12
    go_wp2_with fail
    refine (awake_any _).mono ?_
    rintro e w' ⟨rfl, hbel⟩
    go_wp2
    go_ret
    exact ⟨rfl, hbel⟩
  by_cases h2 : x < 0
  · clear h
    go_enter Try.func12, Try.ntmps12
    go_wp2_with fail
    refine (awake_any _).mono ?_
    rintro e w' ⟨rfl, hbel⟩
    go_wp2
    go_ret
    exact ⟨rfl, hbel⟩
  by_cases h3 : (l.length : Int) < x
  · clear h
    go_enter Try.func12, Try.ntmps12
    go_wp2_with fail
    refine (awake_any _).mono ?_
    rintro e w' ⟨rfl, hbel⟩
    go_wp2
    go_ret
    exact ⟨rfl, hbel⟩
  obtain rfl : v = 0 := by omega
  clear h
  go_enter Try.func12, Try.ntmps12
  go_wp2_with fail
  refine (awake_any _).mono ?_
  rintro e w' ⟨rfl, hbel⟩
  go_wp2
  go_ret
  exact ⟨rfl, hbel⟩

theorem below_set {w w' : World} (h : Below w.heap.size w w') {g : Nat} (hg : w.heap.size ≤ g) (o : Nat) (z : Value) : Below w.heap.size w (w'.setCell ⟨g, o, none⟩ z).drew := by
  have hgr : w'.grownBy (w'.setCell ⟨g, o, none⟩ z) (some g) := ⟨rfl, rfl, rfl, by simp, fun k hk hne => Below.heap_setCell w' ⟨g, o, none⟩ z k (fun e => hne (by simp [e]))⟩
  have h1 := h.grown hgr h.size (by intro k e; cases e; exact hg)
  exact h1.trans ((below_drewN _ 1).mono h1.size)

theorem sp_at {w : World} {base : Nat} {T : TypeId} {a : Option Addr} {n cap : Nat} (x : List UInt8) (t v k : Nat) {m : Nat} (h : OwnB w base T (.slice a n cap) (sp x t v k)) (hk : k < 4) (ht : t ≤ m) (hx : x.length = m + 4) :
    ∃ g o, ∃ d : UInt8, a = some ⟨g, o, none⟩ ∧ base ≤ g ∧ w.cell? ⟨g, o + (t + k), none⟩ = some (.int .u8 (d.toNat : Int)) ∧ w.frozen? ⟨g, o + (t + k), none⟩ = false ∧
      OwnB (w.setCell ⟨g, o + (t + k), none⟩ (.int .u8 ((d ^^^ UInt8.ofNat (v / 2 ^ (8 * k))).toNat : Int))) base T (.slice a n cap) (sp x t v (k + 1)) := by
  have hxl := sp_len x t v k (by omega) (by omega)
  obtain ⟨g, o0, ha, hbg, hcells, hset⟩ := own_at h (by omega)
  have hjl : t + k < (sp x t v k).length := by omega
  have e1 : (sp x t v k)[t + k] = x[t + k] := by
    have h := sp_get x t v k (t + k) (by omega) (by omega) (by omega)
    rw [List.getElem?_eq_getElem hjl, if_neg (by omega)] at h
    simp at h
    exact h
  obtain ⟨hcell, hfr⟩ := hcells (t + k) hjl
  refine ⟨g, o0, x[t + k], ha, hbg, by rw [hcell, e1], hfr, ?_⟩
  rw [sp_step x t v k hk (by omega)]
  exact hset _ _ hjl

set_option maxHeartbeats 800000 in
theorem sumSpoilt_near (w : World) (a : Option Addr) (cap : Nat) (l : List UInt8) (hb : Bytes w a l.length l) (t : Nat) (v : Nat) (hv : v < 4294967296)
    (h1 : l.length ≤ 2000) (h2 : t ≤ l.length) (h3 : v ≠ 0) :
    Calls Try.prog 12 #[.slice a l.length cap, .int .i64 (t : Int), .int .u32 (v : Int)] w fun e w' => e = .returned (.bool true) ∧ Below w.heap.size w w' := by
  have hv0 : ((v : Int) == 0) = false := by simp; exact h3
  have hspoil := Lib.hid (spoil_fits l t v h2 hv h3)
  clear h3
  go_enter Try.func12, Try.ntmps12
  go_wp2_with fail
  refine (mark_any _ _ _ _ _ hb (by omega)).mono ?_
  rintro e w1 ⟨a1, m1, c1, rfl, o1, b1⟩
  have hm1 : m1 = l.length + 4 := by have := o1.bytes.1; rw [mark_len] at this; omega
  subst hm1
  have HL := Lib.hid (mark_len l)
  generalize markS l = x at *
  go_wp2
  go_loopw [8] (fun i wr => ∃ k : Nat, k ≤ 4 ∧ i = .int .i64 k ∧ OwnB wr w.heap.size 5 (.slice a1 (l.length + 4) c1) (sp x t v k) ∧ Below w.heap.size w wr) (fun i _ => 4 - (intOf i).toNat)
  case atStart => exact ⟨0, by omega, rfl, by rw [sp_zero _ _ _ (by have := HL.out; omega)]; exact o1, b1⟩
  case round =>
    obtain ⟨k, hk, rfl, o, bl⟩ := hrel
    have hxl : (sp x t v k).length = l.length + 4 := by rw [sp_len _ _ _ _ hk (by have := HL.out; omega)]; exact HL.out
    by_cases hlt : k < 4
    · obtain ⟨g, o0, d, ha, hbg, hcell, hfr, hset⟩ := sp_at x t v k o hlt h2 HL.out
      subst ha
      have HS := Lib.hid hset
      have hcc := o.cap
      obtain ⟨j, hj⟩ : ∃ j, j = t + k := ⟨_, rfl⟩
      have hj' : (t : Int) + (k : Int) = (j : Int) := by omega
      rw [← hj] at hcell hfr
      have hj2 : (j : Int) < (l.length : Int) + 4 := by omega
      have HJ := Lib.hid hj
      clear hj hset hxl
      go_wp2
      go_region
      go_wp2
      go_roundw
      case rel =>
        refine ⟨k + 1, by omega, by go_num, ?_, ?_⟩
        · have e : bits .xor .u8 (d.toNat : Int) ((v : Int) / 2 ^ (8 * k) % 256) = ((d ^^^ UInt8.ofNat (v / 2 ^ (8 * k))).toNat : Int) := by
            have e1 : ((v : Int) / 2 ^ (8 * k) % 256) = (((v / 2 ^ (8 * k)) % 256 : Nat) : Int) := by rw [Int.natCast_emod, Int.natCast_ediv, Int.natCast_pow]; rfl
            rw [e1, u8_xor_nat _ _ d.toNat_lt (by omega), UInt8.toNat_xor]
            simp
          rw [e, HJ.out]
          exact HS.out.below (below_drewN _ 1)
        · exact below_set bl hbg _ _
      case measure => simp [intOf]; omega
    · obtain rfl : k = 4 := by omega
      have hF : fitsS (sp x t v 4) = ([], 5) := by rw [sp_four]; exact hspoil.out
      have HF := Lib.hid hF
      have hsz : l.length + 4 ≤ 2004 := by omega
      clear hF
      go_wp2_with fail
      refine (fits_any _ _ _ _ _ o.bytes (by omega) o.cap).mono ?_
      rintro e w3 ⟨a3, m3, c3, rfl, o3, b3⟩
      rw [HF.out] at o3 ⊢
      have b03 := bthen bl b3
      have hz : m3 = 0 := by have := o3.bytes.1; simp at this; omega
      subst hz
      go_wp2_with fail
      refine (awake_any _).mono ?_
      rintro e w4 ⟨rfl, b4⟩
      go_wp2
      go_ret
      exact ⟨rfl, bthen b03 b4⟩

theorem sumSpoilt (w : World) (a : Option Addr) (cap : Nat) (l : List UInt8) (hb : Bytes w a l.length l) (x : Int) (hx : -9223372036854775808 ≤ x ∧ x ≤ 9223372036854775807) (v : Int) (hv : 0 ≤ v ∧ v ≤ 4294967295) :
    Calls Try.prog 12 #[.slice a l.length cap, .int .i64 x, .int .u32 v] w fun e w' => e = .returned (.bool true) ∧ Below w.heap.size w w' := by
  obtain ⟨n, rfl⟩ : ∃ n : Nat, v = n := ⟨v.toNat, by omega⟩
  by_cases h : 2000 < l.length ∨ x < 0 ∨ (l.length : Int) < x ∨ n = 0
  · exact sumSpoilt_far w a cap l hb x hx n (by omega) h
  · obtain ⟨t, rfl⟩ : ∃ t : Nat, x = t := ⟨x.toNat, by omega⟩
    exact sumSpoilt_near w a cap l hb t n (by omega) (by omega) (by omega) (by omega)
end Sm
end Go.Proofs.Ytcmmnfeodmjpkaa
