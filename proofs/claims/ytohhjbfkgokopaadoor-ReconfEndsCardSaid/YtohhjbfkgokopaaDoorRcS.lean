/- What configurations' and moves' functions compute, and what holds of it. Over no program. No condition. -/
import Derived.Test.YtohhjbfkgokopaaDoorRcD
import Derived.Test.YtohhjbfkgokopaaDoorOnes
namespace Go.Proofs.YtohhjbfkgokopaaDoor
open Go.RowKit
set_option linter.unusedVariables false
set_option linter.unusedSimpArgs false
namespace Rc
def mayC (c : ConfD) : Bool := rise c.new && decide (c.new.length ≠ 0) && (if c.c % 2 = 1 then rise c.old && decide (0 < c.old.length) && decide (pop (setN c.old ^^^ setN c.new) = 1) else decide (c.old.length = 0))
def newS (c : ConfD) (node : Nat) : List Nat := if c.c % 2 = 1 then c.new else togL c.new node
def stepS (c : ConfD) (node : Nat) : ConfD × Nat :=
  if mayC c = false ∨ (c.c % 2 = 0 ∧ 64 ≤ node) then (zeroConf, 1)
  else if newS c node = [] then (zeroConf, 1)
  else if 9223372036854775808 ≤ c.c then (zeroConf, 7)
  else (⟨c.c + 1, if c.c % 2 = 1 then [] else c.new, newS c node⟩, 0)
def beginS (c : ConfD) (node : Nat) : MoveD × Nat :=
  if c.c % 2 = 1 then (zeroMove, 16) else if (stepS c node).2 ≠ 0 then (zeroMove, (stepS c node).2) else (⟨1, (stepS c node).1, 0, 0, 0⟩, 0)
/-- the bits of a that b lacks -/
def dif (a b : Nat) : Nat := a ^^^ (a &&& b)
def low (f d : Nat) : Nat := Lib.ctzFrom f d
def asks (x : MoveD) : Bool := decide (x.phase = 1) || decide (x.phase = 2) || decide (x.phase = 4)
def nextS (x : MoveD) (nodes : Nat) : Nat × Bool := if asks x = true ∧ dif nodes x.nodes ≠ 0 then (low 64 (dif nodes x.nodes), true) else (0, false)
def stableS (x : MoveD) : MoveD := if (stepS x.conf 0).2 ≠ 0 then zeroMove else ⟨4, (stepS x.conf 0).1, 0, 0, x.fence⟩
def adoptS (x : MoveD) (n nodes : Nat) : MoveD :=
  if (x.phase ≠ 1 ∧ x.phase ≠ 4) ∨ 64 ≤ n then x
  else if dif nodes (x.nodes ||| 2 ^ n) ≠ 0 then { x with nodes := x.nodes ||| 2 ^ n }
  else if x.phase = 4 then zeroMove else { x with phase := 2, nodes := 0 }
def heardS (x : MoveD) (n keys f nodes : Nat) : MoveD :=
  if x.phase ≠ 2 ∨ 64 ≤ n then x
  else if dif nodes (x.nodes ||| 2 ^ n) ≠ 0 then { x with nodes := x.nodes ||| 2 ^ n, keys := x.keys ||| keys, fence := max x.fence f }
  else if x.keys ||| keys = 0 then stableS { x with nodes := x.nodes ||| 2 ^ n, keys := x.keys ||| keys, fence := max x.fence f }
  else { x with phase := 3, nodes := 0, keys := x.keys ||| keys, fence := max x.fence f }
def wantsS (x : MoveD) : Nat × Bool := if x.phase = 3 ∧ x.keys ≠ 0 then (low 16 x.keys, true) else (0, false)
def toldS (x : MoveD) (err : Int) : MoveD :=
  if (wantsS x).2 = false ∨ err ≠ 0 then x
  else if dif x.keys (2 ^ low 16 x.keys) = 0 then stableS { x with keys := dif x.keys (2 ^ low 16 x.keys) } else { x with keys := dif x.keys (2 ^ low 16 x.keys) }

/-! bits -/
theorem dif_bit (a b i : Nat) : (dif a b).testBit i = (a.testBit i && !b.testBit i) := by
  unfold dif
  rw [Nat.testBit_xor, Nat.testBit_and]
  cases a.testBit i <;> cases b.testBit i <;> rfl
theorem dif_lt {a b f : Nat} (h : a < 2 ^ f) : dif a b < 2 ^ f := Nat.xor_lt_two_pow h (Nat.lt_of_le_of_lt Nat.and_le_left h)
theorem dif_zero (a b : Nat) : dif a b = 0 ↔ b ||| a = b := by
  constructor
  · intro h
    apply Nat.eq_of_testBit_eq
    intro i
    have := congrArg (fun x => x.testBit i) h
    simp only [dif_bit, Nat.zero_testBit] at this
    rw [Nat.testBit_or]
    cases ha : a.testBit i <;> cases hb : b.testBit i <;> simp_all
  · intro h
    apply Nat.eq_of_testBit_eq
    intro i
    have := congrArg (fun x => x.testBit i) h
    simp only [Nat.testBit_or] at this
    rw [dif_bit, Nat.zero_testBit]
    cases ha : a.testBit i <;> cases hb : b.testBit i <;> simp_all
theorem or_pow (s n : Nat) : (s ||| 2 ^ n = s) ↔ s.testBit n = true := by
  constructor
  · intro h
    have := congrArg (fun x => x.testBit n) h
    simpa [Nat.testBit_or, Nat.testBit_two_pow] using this
  · intro h
    apply Nat.eq_of_testBit_eq
    intro i
    rw [Nat.testBit_or, Nat.testBit_two_pow]
    by_cases hi : n = i
    · subst hi; simp [h]
    · simp [hi]
theorem low_spec : ∀ (f d : Nat), 0 < d → d < 2 ^ f → low f d < f ∧ d.testBit (low f d) = true ∧ ∀ i, i < low f d → d.testBit i = false
  | 0, d, h0, h => by simp at h; omega
  | f + 1, d, h0, h => by
    unfold low Lib.ctzFrom
    split
    · rename_i h1
      refine ⟨by omega, by rw [Nat.testBit_zero]; simp [h1], fun i hi => by omega⟩
    · rename_i h1
      have hd : d / 2 < 2 ^ f := by rw [Nat.pow_succ] at h; omega
      obtain ⟨k1, k2, k3⟩ := low_spec f (d / 2) (by omega) hd
      unfold low at k1 k2 k3
      refine ⟨by omega, by rw [Nat.add_comm, Nat.testBit_succ]; exact k2, fun i hi => ?_⟩
      cases i with
      | zero => rw [Nat.testBit_zero]; simp; omega
      | succ i => rw [Nat.testBit_succ]; exact k3 i (by omega)
theorem low_of {f d n : Nat} (h0 : 0 < d) (h : d < 2 ^ f) (h1 : d.testBit n = true) (h2 : ∀ i, i < n → d.testBit i = false) : low f d = n := by
  obtain ⟨k1, k2, k3⟩ := low_spec f d h0 h
  by_cases ha : low f d < n
  · rw [h2 _ ha] at k2; cases k2
  · by_cases hb : n < low f d
    · rw [k3 _ hb] at h1; cases h1
    · omega
theorem bit_pos {d n : Nat} (h : d.testBit n = true) : 0 < d := by
  rcases Nat.eq_zero_or_pos d with h0 | h0
  · subst h0; simp at h
  · exact h0
theorem andNot_dif {s p : Nat} (hs : s < 18446744073709551616) (hp : p < 18446744073709551616) : IntKind.u64.wrap ((BitVec.ofInt IntKind.u64.bits (s : Int) &&& ~~~BitVec.ofInt IntKind.u64.bits (p : Int)).toNat : Int) = ((dif s p : Nat) : Int) := by
  rw [IntKind.wrap_u64]
  show (((BitVec.ofInt 64 (s : Int) &&& ~~~BitVec.ofInt 64 (p : Int)).toNat : Int) % 18446744073709551616) = _
  have e : (BitVec.ofInt 64 (s : Int) &&& ~~~BitVec.ofInt 64 (p : Int)).toNat = dif s p := by
    apply Nat.eq_of_testBit_eq
    intro i
    rw [BitVec.testBit_toNat, dif_bit]
    by_cases hi : i < 64
    · have h1 : (BitVec.ofInt 64 (s : Int)).getLsbD i = s.testBit i := by
        rw [BitVec.ofInt_natCast, BitVec.getLsbD_ofNat]; simp [hi]
      have h2 : (BitVec.ofInt 64 (p : Int)).getLsbD i = p.testBit i := by
        rw [BitVec.ofInt_natCast, BitVec.getLsbD_ofNat]; simp [hi]
      rw [BitVec.getLsbD_and, BitVec.getLsbD_not, h1, h2]; simp [hi]
    · have : s.testBit i = false := Nat.testBit_lt_two_pow (Nat.lt_of_lt_of_le hs (Nat.pow_le_pow_right (n := 2) (by omega) (show 64 ≤ i by omega)))
      rw [this, BitVec.getLsbD_of_ge _ _ (by omega)]; rfl
  rw [e]
  have : dif s p < 2 ^ 64 := dif_lt hs
  omega
theorem andNot_dif16 {s p : Nat} (hs : s < 65536) (hp : p < 65536) : IntKind.u16.wrap ((BitVec.ofInt IntKind.u16.bits (s : Int) &&& ~~~BitVec.ofInt IntKind.u16.bits (p : Int)).toNat : Int) = ((dif s p : Nat) : Int) := by
  have e : (BitVec.ofInt 16 (s : Int) &&& ~~~BitVec.ofInt 16 (p : Int)).toNat = dif s p := by
    apply Nat.eq_of_testBit_eq
    intro i
    rw [BitVec.testBit_toNat, dif_bit]
    by_cases hi : i < 16
    · have h1 : (BitVec.ofInt 16 (s : Int)).getLsbD i = s.testBit i := by
        rw [BitVec.ofInt_natCast, BitVec.getLsbD_ofNat]; simp [hi]
      have h2 : (BitVec.ofInt 16 (p : Int)).getLsbD i = p.testBit i := by
        rw [BitVec.ofInt_natCast, BitVec.getLsbD_ofNat]; simp [hi]
      rw [BitVec.getLsbD_and, BitVec.getLsbD_not, h1, h2]; simp [hi]
    · have : s.testBit i = false := Nat.testBit_lt_two_pow (Nat.lt_of_lt_of_le hs (Nat.pow_le_pow_right (n := 2) (by omega) (show 16 ≤ i by omega)))
      rw [this, BitVec.getLsbD_of_ge _ _ (by omega)]; rfl
  show IntKind.u16.wrap ((BitVec.ofInt 16 (s : Int) &&& ~~~BitVec.ofInt 16 (p : Int)).toNat : Int) = _
  rw [e]
  have : dif s p < 2 ^ 16 := dif_lt hs
  simp [IntKind.wrap, IntKind.bits, IntKind.signed]
  omega
theorem or_u16 {s p : Nat} (hs : s < 65536) (hp : p < 65536) : IntKind.u16.wrap ((BitVec.ofInt IntKind.u16.bits (s : Int) ||| BitVec.ofInt IntKind.u16.bits (p : Int)).toNat : Int) = ((s ||| p : Nat) : Int) := by
  show IntKind.u16.wrap ((BitVec.ofInt 16 (s : Int) ||| BitVec.ofInt 16 (p : Int)).toNat : Int) = _
  simp only [BitVec.ofInt_natCast, BitVec.toNat_or, BitVec.toNat_ofNat]
  rw [Nat.mod_eq_of_lt hs, Nat.mod_eq_of_lt hp]
  have : s ||| p < 2 ^ 16 := Nat.or_lt_two_pow hs hp
  simp [IntKind.wrap, IntKind.bits, IntKind.signed]
  omega
theorem or_lt16 {s p : Nat} (hs : s < 65536) (hp : p < 65536) : s ||| p < 65536 := Nat.or_lt_two_pow (n := 16) hs hp
theorem wrap_u16 (n : Nat) (h : n < 65536) : IntKind.u16.wrap (n : Int) = (n : Int) := by
  simp [IntKind.wrap, IntKind.bits, IntKind.signed]
  omega
theorem shl_u16 {n : Nat} (hn : n < 16) : IntKind.u16.wrap (1 * 2 ^ (min ((n : Int).toNat) IntKind.u16.bits)) = ((2 ^ n : Nat) : Int) := by
  have h2 : 2 ^ n < 2 ^ 16 := Nat.pow_lt_pow_right (by omega) hn
  rw [show min ((n : Int).toNat) IntKind.u16.bits = n from by simp [IntKind.bits]; omega]
  have : ((2 : Int) ^ n) = ((2 ^ n : Nat) : Int) := by simp
  rw [this, Int.one_mul]
  exact wrap_u16 _ h2
theorem dif_half (a b : Nat) : dif a b / 2 = dif (a / 2) (b / 2) := by
  apply Nat.eq_of_testBit_eq
  intro i
  rw [← Nat.testBit_succ, dif_bit, dif_bit, Nat.testBit_succ, Nat.testBit_succ]
theorem dif_mod (a b : Nat) : dif a b % 2 = if a % 2 = 1 ∧ b % 2 = 0 then 1 else 0 := by
  have h := dif_bit a b 0
  rw [Nat.testBit_zero, Nat.testBit_zero, Nat.testBit_zero] at h
  by_cases ha : a % 2 = 1 <;> by_cases hb : b % 2 = 1 <;> simp_all <;> omega
theorem dif_sub : ∀ {k a : Nat}, a.testBit k = true → dif a (2 ^ k) + 2 ^ k = a
  | 0, a, h => by
    rw [Nat.testBit_zero] at h
    have h1 := dif_half a (2 ^ 0)
    have h2 := dif_mod a (2 ^ 0)
    simp at h
    have e : dif (a / 2) (2 ^ 0 / 2) = a / 2 := by
      have : (2 : Nat) ^ 0 / 2 = 0 := rfl
      rw [this]; simp [dif]
    rw [e] at h1
    simp at h2
    rw [Nat.pow_zero] at *
    omega
  | k + 1, a, h => by
    rw [Nat.testBit_succ] at h
    have ih := dif_sub (k := k) (a := a / 2) h
    have h1 := dif_half a (2 ^ (k + 1))
    have h2 := dif_mod a (2 ^ (k + 1))
    have e1 : (2 : Nat) ^ (k + 1) / 2 = 2 ^ k := by rw [Nat.pow_succ]; omega
    have e2 : (2 : Nat) ^ (k + 1) % 2 = 0 := by rw [Nat.pow_succ]; omega
    rw [e1] at h1
    rw [e2] at h2
    simp at h2
    rw [Nat.pow_succ] at *
    split at h2 <;> omega
end Rc
end Go.Proofs.YtohhjbfkgokopaaDoor
