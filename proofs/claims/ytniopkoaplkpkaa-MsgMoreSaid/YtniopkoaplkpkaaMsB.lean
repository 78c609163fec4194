/- The walks of ballot.None and ballot.Put. Conditions: the bytes ahead can be read and are few. -/
import Derived.Test.YtniopkoaplkpkaaMsgD
import Derived.Test.YtniopkoaplkpkaaPkM
import Derived.Laws.ResultCell
namespace Go.Proofs.Ytniopkoaplkpkaa
open Go.RowKit
set_option linter.unusedVariables false
set_option linter.unusedSimpArgs false
namespace Bl
structure B where
  c : Nat
  n : Nat
  l : Nat
  hc : c < 18446744073709551616
  hn : n < 256
  hl : l < 4294967296
def B.v (b : B) : Value := .agg #[.int .u64 (b.c : Int), .int .u8 (b.n : Int), .int .u32 (b.l : Int)]
def nth (b : B) (k : Nat) : Nat := match k with | 0 => b.c | 1 => b.n | _ => b.l
def pre (b : B) : Nat → List UInt8
  | 0 => []
  | k + 1 => pre b k ++ Pk.numB (nth b k)
def putB (b : B) : List UInt8 := pre b 3
theorem nth_lt (b : B) (k : Nat) : nth b k < 18446744073709551616 := by
  have h1 := b.hc
  have h2 := b.hn
  have h3 := b.hl
  unfold nth; split <;> omega
theorem pre_len (b : B) : ∀ k, (pre b k).length ≤ 10 * k
  | 0 => by simp [pre]
  | k + 1 => by
    have := pre_len b k
    have := Pk.numB_len (nth_lt b k)
    simp [pre]; omega

theorem run_at0 (x y z : Int) (W : World) : (Instr.index 152 (.agg #[.int .u64 x, .int .u64 y, .int .u64 z]) (.int .i64 0)).run Try.prog W = .ok (.int .u64 x) W := by
  simp [Instr.index, run_underlying Try.underlying152, asIntOf, go_sem]
theorem run_at1 (x y z : Int) (W : World) : (Instr.index 152 (.agg #[.int .u64 x, .int .u64 y, .int .u64 z]) (.int .i64 1)).run Try.prog W = .ok (.int .u64 y) W := by
  simp [Instr.index, run_underlying Try.underlying152, asIntOf, go_sem]
theorem run_at2 (x y z : Int) (W : World) : (Instr.index 152 (.agg #[.int .u64 x, .int .u64 y, .int .u64 z]) (.int .i64 2)).run Try.prog W = .ok (.int .u64 z) W := by
  simp [Instr.index, run_underlying Try.underlying152, asIntOf, go_sem]

set_option maxHeartbeats 400000 in
theorem put_any (a : Option Addr) (n cap : Nat) (l : List UInt8) (b : B) (w : World) (hb : Bytes w a n l) (hsmall : n ≤ 70368744177600) :
    Calls Try.prog 73 #[.slice a n cap, b.v] w (RetB w (l ++ putB b)) := by
  have n0 : nth b 0 = b.c := rfl
  have n1 : nth b 1 = b.n := rfl
  have n2 : nth b 2 = b.l := rfl
  have HP := Lib.hid (pre_len b)
  have HN := Lib.hid (nth_lt b)
  have HS := Lib.hid (show ∀ k, pre b (k + 1) = pre b k ++ Pk.numB (nth b k) from fun k => rfl)
  have HL := Lib.hid hb.1
  have HB := Lib.hid (fun o => balloc w o)
  have HB0 := Lib.hid hb
  have hn3 := b.hn
  have hl3 := b.hl
  have w1 : IntKind.u64.wrap (b.n : Int) = (b.n : Int) := by simp only [IntKind.wrap, IntKind.signed, IntKind.bits]; simp; omega
  have w2 : IntKind.u64.wrap (b.l : Int) = (b.l : Int) := by simp only [IntKind.wrap, IntKind.signed, IntKind.bits]; simp; omega
  have r0 := run_at0 (b.c : Int) (b.n : Int) (b.l : Int)
  have r1 := run_at1 (b.c : Int) (b.n : Int) (b.l : Int)
  have r2 := run_at2 (b.c : Int) (b.n : Int) (b.l : Int)
  unfold putB B.v
  clear hb hn3 hl3
  go_enter Try.func73, Try.ntmps73
  go_wp2
  go_loopw [0, 16] (fun v i wr => ∃ (k : Nat) (a' : Option Addr) (m' c' : Nat), k ≤ 3 ∧ i = .int .i64 k ∧ v = .slice a' m' c' ∧ Bytes wr a' m' (l ++ pre b k) ∧ Hid (0 < k → OwnB wr w.heap.size 5 (.slice a' m' c') (l ++ pre b k)) ∧ Below w.heap.size w wr) (fun _ i _ => 3 - (intOf i).toNat)
  case atStart => exact ⟨0, a, n, cap, by omega, rfl, rfl, by simpa [pre] using HB0.out.mono (HB.out _), Lib.hid (by intro h; omega), HB.out _⟩
  case round =>
    obtain ⟨k, a', m', c', hk, rfl, rfl, hy, ho, bl⟩ := hrel
    have hm : m' ≤ 70368744177664 := by
      have h1 := hy.1
      have h2 := HP.out k
      have h3 := HL.out
      simp at h1; omega
    have step : ∀ (x : Nat), x = nth b k → k < 3 → Calls Try.prog 72 #[.slice a' m' c', .int .u64 (x : Int)] wr fun e w' => ∃ a2 m2 c2, e = .returned (.slice a2 m2 c2) ∧ OwnB w' w.heap.size 5 (.slice a2 m2 c2) (l ++ pre b (k + 1)) ∧ Below w.heap.size w w' := by
      intro x hx hk3
      refine (Pk.putNum_any a' m' c' _ (x : Int) wr hy (by omega) (by have := HN.out k; omega) hm).mono ?_
      rintro e w' ⟨a2, m2, c2, rfl, o2, b2⟩
      refine ⟨a2, m2, c2, rfl, ?_, bthen bl b2⟩
      rw [HS.out k, ← List.append_assoc, ← hx]
      exact Own.base o2 bl.size
    have ST := Lib.hid step
    clear step
    have hcase : k = 0 ∨ k = 1 ∨ k = 2 ∨ k = 3 := by omega
    clear hy
    rcases hcase with rfl | rfl | rfl | rfl
    · go_wp2_with fail
      refine (ST.out b.c rfl (by omega)).mono ?_
      rintro e w2 ⟨a2, m2, c2, rfl, o2, b2⟩
      go_wp2
      refine ⟨⟨1, a2, m2, c2, by omega, by go_num, rfl, o2.bytes, Lib.hid (fun _ => o2), b2⟩, by simp [intOf]⟩
    · go_wp2_with fail
      refine (ST.out b.n rfl (by omega)).mono ?_
      rintro e w2 ⟨a2, m2, c2, rfl, o2, b2⟩
      go_wp2
      refine ⟨⟨2, a2, m2, c2, by omega, by go_num, rfl, o2.bytes, Lib.hid (fun _ => o2), b2⟩, by simp [intOf]⟩
    · go_wp2_with fail
      refine (ST.out b.l rfl (by omega)).mono ?_
      rintro e w2 ⟨a2, m2, c2, rfl, o2, b2⟩
      go_wp2
      refine ⟨⟨3, a2, m2, c2, by omega, by go_num, rfl, o2.bytes, Lib.hid (fun _ => o2), b2⟩, by simp [intOf]⟩
    · go_wp2
      go_ret
      exact ⟨a', m', c', rfl, ho.out (by omega), bl⟩
end Bl
namespace Ms
open Sy (RetV RetM Sub)
/-- a ballot's bytes -/
def balB (b : BalD) : List UInt8 := Pk.numB b.c ++ (Pk.numB b.n ++ Pk.numB b.l)
theorem putBalF {w : World} {a : Option Addr} {cap : Nat} {l : List UInt8} (b : BalD) (hk : BalOk b) (hb : Bytes w a l.length l) (hsmall : l.length ≤ 70368744177600) :
    Calls Try.prog 73 #[.slice a l.length cap, .agg (balCs b).toArray] w (RetF w (l ++ balB b)) := by
  have h := Bl.put_any a l.length cap l ⟨b.c, b.n, b.l, hk.1, hk.2.1, hk.2.2⟩ w hb hsmall
  have e : Bl.putB ⟨b.c, b.n, b.l, hk.1, hk.2.1, hk.2.2⟩ = balB b := by
    unfold Bl.putB Bl.pre Bl.pre Bl.pre Bl.pre balB Bl.nth
    simp
  rw [e] at h
  exact h.mono fun _ _ r => retF_B r
theorem balB_len {b : BalD} (h : BalOk b) : (balB b).length ≤ 30 := by
  have h1 := Pk.numB_len (n := b.c) (by have := h.1; omega)
  have h2 := Pk.numB_len (n := b.n) (by have := h.2.1; omega)
  have h3 := Pk.numB_len (n := b.l) (by have := h.2.2; omega)
  unfold balB
  simp only [List.length_append]
  omega
set_option maxRecDepth 20000 in
theorem none_any (w : World) (b : BalD) : Calls Try.prog 104 #[.agg (balCs b).toArray] w (RetV w (.bool (decide (b = zeroBal)))) := by
  have F := Sy.Mem.start (Sub.refl w)
  have e := balCmp b zeroBal
  refine Sy.enter Try.func104 rfl Try.ntmps104 rfl ?_; intro ac T; simp only [Sy.enum, Nat.zero_add, Nat.reduceAdd] at T
  repeat (first
    | (((with_reducible refine Sy.is_load ?_); (first | refine Sy.st_loadOne T F (h := ?_) | refine Sy.st_oldOne T F (h := ?_) | refine Sy.st_loadAll T F (h := ?_) | (refine Sy.st_loadCut T F (h := ?_); conv => whnf) | refine Sy.st_oldAgg T F (h := ?_) | (refine Sy.st_oldCut T F (h := ?_); conv => whnf)); clear T; intro ac T))
    | (((with_reducible refine Sy.is_box ?_); (first | refine Sy.st_boxAgg T F (h := ?_) | refine Sy.st_boxOne T F (h := ?_)); clear T F; intro ac g w T F))
    | (((with_reducible refine Sy.is_build ?_); refine Sy.st_build T (h := ?_); (conv => whnf); (repeat (refine ⟨by first | exact rfl | exact ⟨rfl, rfl⟩, ?_⟩; (conv => whnf))); clear T; intro ac T))
    | (((with_reducible refine Sy.is_op ?_); refine Sy.st_pure T (h := ?_); clear T; intro ac T))
    | ((with_reducible refine Sy.atK (hK _ _ ?_)))
    | ((with_reducible refine Sy.is_cond ?_); (first | refine Sy.st_true T (h := ?_) | refine Sy.st_false T (h := ?_)))
    | (with_reducible refine wpList_nil ?_)
    | (with_reducible refine wp_region_lit ?_)
    | (with_reducible refine wp_block ?_)
    | (with_reducible refine wp_skip ?_)
    | (with_reducible refine wp_exit ?_)
    | (with_reducible refine wp_ret ?_)
    | ((with_reducible refine wp_seq_k ?_); intro _ _)
    | (go_at_K; go_step)
    | (simp only [Exit.then, Exit.inBlock, ↓reduceIte, Nat.reduceEqDiff]))
  ((try simp only [Exit.inBlock, Exit.then]); refine Sy.st_ret1 T F rfl (by repeat (first | exact Sy.ResV.nil | apply Sy.ResV.tmp rfl | apply Sy.ResV.row rfl rfl rfl (by repeat (first | exact Sy.Take.here | apply Sy.Take.there)) (by rfl) | apply Sy.ResV.one rfl rfl rfl (by repeat (first | exact Sy.Take.here | apply Sy.Take.there)) (by rfl))) ?_)
  exact F.retV _
end Ms
end Go.Proofs.Ytniopkoaplkpkaa
