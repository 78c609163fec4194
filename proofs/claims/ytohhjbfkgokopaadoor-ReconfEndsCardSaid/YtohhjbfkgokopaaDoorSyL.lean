/- Loops in the walk that names what it knows; bits of numbers. Over any program. No condition. -/
import Derived.Test.YtohhjbfkgokopaaDoorSyD
namespace Go.Proofs.YtohhjbfkgokopaaDoor
open Go.RowKit
set_option linter.unusedVariables false
namespace Sy
/-- some of the blocks, in whatever order -/
inductive Sel : List Blk → List Blk → Prop
  | nil {bs : List Blk} : Sel bs []
  | cons {bs r bs' : List Blk} {g : Nat} {cs : List Value} {t : TypeId} (h : Take bs g cs t r) (k : Sel r bs') : Sel bs (⟨g, cs, t⟩ :: bs')
theorem MemE.sel {E : Ext} {c : Cx} {m w : World} {bs bs' : List Blk} (F : MemE E c m bs w) (h : Sel bs bs') : MemE E c m bs' w := by
  have key : ∃ r, bs.Perm (bs' ++ r) := by
    clear F
    induction h with
    | nil => exact ⟨_, .refl _⟩
    | cons h _ ih =>
      obtain ⟨q, hq⟩ := ih
      exact ⟨q, h.perm.trans (hq.cons _)⟩
  obtain ⟨r, hr⟩ := key
  have F' := F.perm hr
  exact ⟨F'.kept, F'.sub0, F'.sub, F'.fresh, fun b hb => F'.own b (List.mem_append_left _ hb), by have := F'.nodup; rw [List.map_append, List.nodup_append] at this; exact this.1, F'.ext, fun k hk => ⟨(F'.loose k hk).1, fun hm => (F'.loose k hk).2.1 (by rw [List.map_append]; exact List.mem_append_left _ hm), (F'.loose k hk).2.2⟩⟩

/-- the end of a round -/
theorem handed {J I : Nat → Act → World → Prop} {n k : Nat} {a : Act} {w : World} (hJ : ∀ k a' w', I k a' w' → J k a' w') (hk : k < n) (h : I k a w) : Handed J n a w := ⟨k, hk, hJ _ _ _ h⟩

/-! loops whose relation names addresses that the frame finds -/
section
variable {P : Program} {Q : Exit → Act → World → Prop} {a : Act} {w : World} {c : Code}
theorem loop1 {g1 : Nat} (I : Nat → Nat → Act → World → Prop) (n₀ : Nat) (h₀ : I g1 n₀ a w) (round : ∀ n a w, I g1 n a w → ∀ (J : Nat → Act → World → Prop) (K : Act → World → Prop), (∀ k a' w', I g1 k a' w' → J k a' w') → (∀ a' w', Handed J n a' w' → K a' w') → c.wp P (Exit.then K Q) a w) : (Code.loop c).wp P Q a w := wp_loop_ghost_k (I g1) n₀ h₀ round
theorem loop2 {g1 g2 : Nat} (I : Nat → Nat → Nat → Act → World → Prop) (n₀ : Nat) (h₀ : I g1 g2 n₀ a w) (round : ∀ n a w, I g1 g2 n a w → ∀ (J : Nat → Act → World → Prop) (K : Act → World → Prop), (∀ k a' w', I g1 g2 k a' w' → J k a' w') → (∀ a' w', Handed J n a' w' → K a' w') → c.wp P (Exit.then K Q) a w) : (Code.loop c).wp P Q a w := wp_loop_ghost_k (I g1 g2) n₀ h₀ round
theorem loop3 {g1 g2 g3 : Nat} (I : Nat → Nat → Nat → Nat → Act → World → Prop) (n₀ : Nat) (h₀ : I g1 g2 g3 n₀ a w) (round : ∀ n a w, I g1 g2 g3 n a w → ∀ (J : Nat → Act → World → Prop) (K : Act → World → Prop), (∀ k a' w', I g1 g2 g3 k a' w' → J k a' w') → (∀ a' w', Handed J n a' w' → K a' w') → c.wp P (Exit.then K Q) a w) : (Code.loop c).wp P Q a w := wp_loop_ghost_k (I g1 g2 g3) n₀ h₀ round
theorem loop4 {g1 g2 g3 g4 : Nat} (I : Nat → Nat → Nat → Nat → Nat → Act → World → Prop) (n₀ : Nat) (h₀ : I g1 g2 g3 g4 n₀ a w) (round : ∀ n a w, I g1 g2 g3 g4 n a w → ∀ (J : Nat → Act → World → Prop) (K : Act → World → Prop), (∀ k a' w', I g1 g2 g3 g4 k a' w' → J k a' w') → (∀ a' w', Handed J n a' w' → K a' w') → c.wp P (Exit.then K Q) a w) : (Code.loop c).wp P Q a w := wp_loop_ghost_k (I g1 g2 g3 g4) n₀ h₀ round
theorem loop5 {g1 g2 g3 g4 g5 : Nat} (I : Nat → Nat → Nat → Nat → Nat → Nat → Act → World → Prop) (n₀ : Nat) (h₀ : I g1 g2 g3 g4 g5 n₀ a w) (round : ∀ n a w, I g1 g2 g3 g4 g5 n a w → ∀ (J : Nat → Act → World → Prop) (K : Act → World → Prop), (∀ k a' w', I g1 g2 g3 g4 g5 k a' w' → J k a' w') → (∀ a' w', Handed J n a' w' → K a' w') → c.wp P (Exit.then K Q) a w) : (Code.loop c).wp P Q a w := wp_loop_ghost_k (I g1 g2 g3 g4 g5) n₀ h₀ round
theorem loop6 {g1 g2 g3 g4 g5 g6 : Nat} (I : Nat → Nat → Nat → Nat → Nat → Nat → Nat → Act → World → Prop) (n₀ : Nat) (h₀ : I g1 g2 g3 g4 g5 g6 n₀ a w) (round : ∀ n a w, I g1 g2 g3 g4 g5 g6 n a w → ∀ (J : Nat → Act → World → Prop) (K : Act → World → Prop), (∀ k a' w', I g1 g2 g3 g4 g5 g6 k a' w' → J k a' w') → (∀ a' w', Handed J n a' w' → K a' w') → c.wp P (Exit.then K Q) a w) : (Code.loop c).wp P Q a w := wp_loop_ghost_k (I g1 g2 g3 g4 g5 g6) n₀ h₀ round
end
theorem or_u64 {s p : Nat} (hs : s < 18446744073709551616) (hp : p < 18446744073709551616) : IntKind.u64.wrap ((BitVec.ofInt IntKind.u64.bits (s : Int) ||| BitVec.ofInt IntKind.u64.bits (p : Int)).toNat : Int) = ((s ||| p : Nat) : Int) := by
  rw [IntKind.wrap_u64]
  show (((BitVec.ofInt 64 (s : Int) ||| BitVec.ofInt 64 (p : Int)).toNat : Int) % 18446744073709551616) = _
  simp only [BitVec.ofInt_natCast, BitVec.toNat_or, BitVec.toNat_ofNat]
  rw [Nat.mod_eq_of_lt hs, Nat.mod_eq_of_lt hp]
  have : s ||| p < 2 ^ 64 := Nat.or_lt_two_pow hs hp
  omega
theorem or_lt {s p : Nat} (hs : s < 18446744073709551616) (hp : p < 18446744073709551616) : s ||| p < 18446744073709551616 := Nat.or_lt_two_pow (n := 64) hs hp
theorem andNot_u64 {s p : Nat} (hs : s < 18446744073709551616) (hp : p < 18446744073709551616) : (IntKind.u64.wrap ((BitVec.ofInt IntKind.u64.bits (s : Int) &&& ~~~BitVec.ofInt IntKind.u64.bits (p : Int)).toNat : Int) == 0) = decide (p ||| s = p) := by
  rw [IntKind.wrap_u64]
  show ((((BitVec.ofInt 64 (s : Int) &&& ~~~BitVec.ofInt 64 (p : Int)).toNat : Int) % 18446744073709551616) == 0) = _
  simp only [BitVec.ofInt_natCast]
  have hlt := (BitVec.ofNat 64 s &&& ~~~BitVec.ofNat 64 p).isLt
  have h1 : ((((BitVec.ofNat 64 s &&& ~~~BitVec.ofNat 64 p).toNat : Int) % 18446744073709551616) == 0) = decide ((BitVec.ofNat 64 s &&& ~~~BitVec.ofNat 64 p) = 0#64) := by
    rw [Bool.eq_iff_iff, beq_iff_eq, decide_eq_true_eq]
    constructor
    · intro h
      apply BitVec.eq_of_toNat_eq
      simp only [BitVec.toNat_ofNat]
      omega
    · intro h; rw [h]; rfl
  rw [h1, Bool.eq_iff_iff, decide_eq_true_eq, decide_eq_true_eq]
  have h2 : (p ||| s = p) ↔ (BitVec.ofNat 64 p ||| BitVec.ofNat 64 s) = BitVec.ofNat 64 p := by
    rw [← BitVec.toNat_inj]
    simp only [BitVec.toNat_or, BitVec.toNat_ofNat]
    rw [Nat.mod_eq_of_lt (show s < 2 ^ 64 from hs), Nat.mod_eq_of_lt (show p < 2 ^ 64 from hp)]
  rw [h2]
  generalize BitVec.ofNat 64 s = A
  generalize BitVec.ofNat 64 p = B
  constructor
  · intro h
    ext i hi
    have := congrArg (fun x => x[i]) h
    simp at this ⊢
    cases hA : A[i] <;> cases hB : B[i] <;> simp_all
  · intro h
    ext i hi
    have := congrArg (fun x => x[i]) h
    simp at this ⊢
    cases hA : A[i] <;> cases hB : B[i] <;> simp_all
theorem shl_u64 {n : Nat} (hn : n < 64) : IntKind.u64.wrap (1 * 2 ^ (min ((n : Int).toNat) IntKind.u64.bits)) = ((2 ^ n : Nat) : Int) := by
  have h2 : 2 ^ n < 2 ^ 64 := Nat.pow_lt_pow_right (by omega) hn
  rw [IntKind.wrap_u64, show min ((n : Int).toNat) IntKind.u64.bits = n from by simp [IntKind.bits]; omega]
  have : ((2 : Int) ^ n) = ((2 ^ n : Nat) : Int) := by simp
  rw [this]
  generalize 2 ^ n = x at *
  omega
theorem pow_lt {n : Nat} (hn : n < 64) : 2 ^ n < 18446744073709551616 := Nat.pow_lt_pow_right (by omega) hn
end Sy
end Go.Proofs.YtohhjbfkgokopaaDoor
