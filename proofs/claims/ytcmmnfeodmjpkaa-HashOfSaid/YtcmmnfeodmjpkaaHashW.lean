/- The walks of the hash: what hash.Of, Stir, Key, Place and the document's compute. Condition: the bytes can be read. -/
import Derived.Test.YtcmmnfeodmjpkaaHashP
import Derived.Test.YtcmmnfeodmjpkaaRows
import Derived.Lib.SlBytesConst
namespace Go.Proofs.Ytcmmnfeodmjpkaa
open Go.RowKit
set_option linter.unusedVariables false
namespace Hs

theorem times_any (x y : Int) (w : World) (hx0 : 0 ≤ x) (hx1 : x ≤ 18446744073709551615) (hy0 : 0 ≤ y) (hy1 : y ≤ 18446744073709551615) :
    Calls Try.prog 54 #[.int .u64 x, .int .u64 y] w fun e w' => e = .returned (.int .u64 (times x y)) ∧ w = w' := by
  go_enter Try.func54, Try.ntmps54
  go_wp2
  go_ret
  refine ⟨ret_int ?_, rfl⟩
  rw [← times_eq x y]
  simp only [IntKind.wrap_u64]
  rw [Int.tmod_eq_emod_of_nonneg (Int.emod_nonneg _ (by omega))]

theorem of_any (a : Option Addr) (n cap : Nat) (l : List UInt8) (w : World) (hb : Bytes w a n l) :
    Calls Try.prog 18 #[.slice a n cap] w fun e w' => e = .returned (.int .u64 (fnvs l)) ∧ w = w' := by
  have hc := hb.at
  obtain ⟨rfl, hm, _⟩ := hb
  unfold maxLen at hm
  have HC := Lib.hid hc
  clear hc
  go_enter Try.func18, Try.ntmps18
  go_wp2
  go_loop [3, 8] (fun h i => ∃ k : Nat, k ≤ l.length ∧ i = .int .i64 k ∧ h = .int .u64 (fnvs (l.take k))) (fun _ i => l.length - (intOf i).toNat)
  case atStart => exact ⟨0, Nat.zero_le _, rfl, rfl⟩
  case round =>
    obtain ⟨k, hk, rfl, rfl⟩ := hrel
    by_cases hlt : k < l.length
    · obtain ⟨b, o, ha, hcell⟩ := HC.out k hlt
      have HS := Lib.hid (fnvs_take l k hlt)
      have bd := byte_bd l[k]
      subst ha
      go_wp2
      go_round
      case rel => exact ⟨k + 1, by omega, by go_num, by rw [HS.out, IntKind.wrap_u64]; rfl⟩
      case measure => simp [intOf]; omega
    · go_wp2
      go_ret
      exact ⟨ret_int (by rw [List.take_of_length_le (by omega)]), rfl⟩

theorem ref_of_any (a : Option Addr) (n cap : Nat) (l : List UInt8) (w : World) (hb : Bytes w a n l) :
    Calls Try.prog 19 #[.slice a n cap] w fun e w' => e = .returned (.int .u64 (fnvs l)) ∧ w = w' := by
  have hc := hb.at
  obtain ⟨rfl, hm, _⟩ := hb
  unfold maxLen at hm
  have HC := Lib.hid hc
  clear hc
  go_enter Try.func19, Try.ntmps19
  go_wp2
  go_loop [3, 7] (fun h i => ∃ k : Nat, k ≤ l.length ∧ i = .int .i64 k ∧ h = .int .u64 (fnvs (l.take k))) (fun _ i => l.length - (intOf i).toNat)
  case atStart => exact ⟨0, Nat.zero_le _, rfl, rfl⟩
  case round =>
    obtain ⟨k, hk, rfl, rfl⟩ := hrel
    by_cases hlt : k < l.length
    · obtain ⟨b, o, ha, hcell⟩ := HC.out k hlt
      have HS := Lib.hid (fnvs_take l k hlt)
      have bd := byte_bd l[k]
      have bf := fnvs_bd (l.take k)
      have bx := xr_bd (fnvs (l.take k)) (l[k].toNat : Int) (by omega) (by omega) (by omega) (by omega)
      subst ha
      unfold xr at bx
      go_wp2_with fail
      refine (times_any _ _ _ (by omega) (by omega) (by omega) (by omega)).mono ?_
      rintro e w' ⟨rfl, rfl⟩
      go_wp2
      go_round
      case rel => exact ⟨k + 1, by omega, by go_num, by rw [HS.out]; rfl⟩
      case measure => simp [intOf]; omega
    · go_wp2
      go_ret
      exact ⟨ret_int (by rw [List.take_of_length_le (by omega)]), rfl⟩

theorem stir_any (h : Int) (w : World) (h0 : 0 ≤ h) (h1 : h ≤ 18446744073709551615) :
    Calls Try.prog 20 #[.int .u64 h] w fun e w' => e = .returned (.int .u64 (stir h)) ∧ w = w' := by
  go_enter Try.func20, Try.ntmps20
  go_wp2
  go_ret
  exact ⟨ret_int (by simp only [IntKind.wrap_u64]; rfl), rfl⟩

theorem ref_stir_any (h : Int) (w : World) (h0 : 0 ≤ h) (h1 : h ≤ 18446744073709551615) :
    Calls Try.prog 21 #[.int .u64 h] w fun e w' => e = .returned (.int .u64 (stir h)) ∧ w = w' := by
  have bx := xr_bd h (h / 4294967296) (by omega) (by omega) (by omega) (by omega)
  have bt := times_bd (xr h (h / 4294967296)) 14029467366897019727
  unfold xr at bx bt
  go_enter Try.func21, Try.ntmps21
  go_wp2_with fail
  refine (times_any _ _ _ (by omega) (by omega) (by omega) (by omega)).mono ?_
  rintro e w' ⟨rfl, rfl⟩
  go_wp2
  go_ret
  exact ⟨ret_int rfl, rfl⟩

theorem awake_any (w : World) :
    Calls Try.prog 17 #[] w fun e w' => e = .returned (.bool true) ∧ Below w.heap.size w w' := by
  have kc := fun (w : World) (C : Array Value) (n c : Nat) => Lib.run_convert_bytes_const (P := Try.prog) w 22 5 C n c Try.underlying22 Try.underlying5
  go_enter Try.func17, Try.ntmps17
  go_wp2_with fail
  refine (of_any _ _ _ [97] _ (newBytes w [97] _ _ (by decide))).mono ?_
  rintro e w' ⟨rfl, rfl⟩
  have e : fnvs [97] = 12638187200555641996 := by decide +kernel
  rw [e]
  go_wp2
  go_ret
  exact ⟨rfl, (Below.refl _ _).alloc (Nat.le_refl _) _⟩

theorem key_any (k : UInt8) (w : World) :
    Calls Try.prog 22 #[.int .u8 (k.toNat : Int)] w fun e w' => e = .returned (.int .u64 (stir (fnvs [107, k]))) ∧ Below w.heap.size w w' := by
  have b := fnvs_bd [107, k]
  go_enter Try.func22, Try.ntmps22
  go_wp2_with fail
  refine (of_any _ _ _ [107, k] _ (newBytes w [107, k] _ _ (by simp [maxLen]))).mono ?_
  rintro e w' ⟨rfl, rfl⟩
  go_wp2_with fail
  refine (stir_any _ _ (by omega) (by omega)).mono ?_
  rintro e w' ⟨rfl, rfl⟩
  go_wp2
  go_ret
  exact ⟨rfl, (Below.refl _ _).alloc (Nat.le_refl _) _⟩

theorem ref_key_any (k : UInt8) (w : World) :
    Calls Try.prog 23 #[.int .u8 (k.toNat : Int)] w fun e w' => e = .returned (.int .u64 (stir (fnvs [107, k]))) ∧ Below w.heap.size w w' := by
  have b := fnvs_bd [107, k]
  go_enter Try.func23, Try.ntmps23
  go_wp2_with fail
  refine (ref_of_any _ _ _ [107, k] _ (newBytes w [107, k] _ _ (by simp [maxLen]))).mono ?_
  rintro e w' ⟨rfl, rfl⟩
  go_wp2_with fail
  refine (ref_stir_any _ _ (by omega) (by omega)).mono ?_
  rintro e w' ⟨rfl, rfl⟩
  go_wp2
  go_ret
  exact ⟨rfl, (Below.refl _ _).alloc (Nat.le_refl _) _⟩

theorem place_any (k v : UInt8) (w : World) :
    Calls Try.prog 24 #[.int .u8 (k.toNat : Int), .int .u8 (v.toNat : Int)] w fun e w' => e = .returned (.int .u64 (stir (fnvs [110, k, v]))) ∧ Below w.heap.size w w' := by
  have b := fnvs_bd [110, k, v]
  go_enter Try.func24, Try.ntmps24
  go_wp2_with fail
  refine (of_any _ _ _ [110, k, v] _ (newBytes w [110, k, v] _ _ (by simp [maxLen]))).mono ?_
  rintro e w' ⟨rfl, rfl⟩
  go_wp2_with fail
  refine (stir_any _ _ (by omega) (by omega)).mono ?_
  rintro e w' ⟨rfl, rfl⟩
  go_wp2
  go_ret
  exact ⟨rfl, (Below.refl _ _).alloc (Nat.le_refl _) _⟩

theorem ref_place_any (k v : UInt8) (w : World) :
    Calls Try.prog 25 #[.int .u8 (k.toNat : Int), .int .u8 (v.toNat : Int)] w fun e w' => e = .returned (.int .u64 (stir (fnvs [110, k, v]))) ∧ Below w.heap.size w w' := by
  have b := fnvs_bd [110, k, v]
  go_enter Try.func25, Try.ntmps25
  go_wp2_with fail
  refine (ref_of_any _ _ _ [110, k, v] _ (newBytes w [110, k, v] _ _ (by simp [maxLen]))).mono ?_
  rintro e w' ⟨rfl, rfl⟩
  go_wp2_with fail
  refine (ref_stir_any _ _ (by omega) (by omega)).mono ?_
  rintro e w' ⟨rfl, rfl⟩
  go_wp2
  go_ret
  exact ⟨rfl, (Below.refl _ _).alloc (Nat.le_refl _) _⟩
end Hs
end Go.Proofs.Ytcmmnfeodmjpkaa
