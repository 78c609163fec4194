/- The walks of a contract's taker: num, and many over whatever its closure writes. Conditions: the reader's bytes can be read. -/
import Derived.Test.YtniopkoaplkpkaaRdC
namespace Go.Proofs.Ytniopkoaplkpkaa
open Go.RowKit
set_option linter.unusedVariables false
set_option linter.unusedSimpArgs false
namespace Tk
open Sy (RetV RetM Sub)
open Rg (eqT eqF i64_wrap)
open Pk (RdX RdC RetR numS num_r end_r endS)
open Rt (St loopS numR smlS wellS SmlV numR_le name1)
theorem num_r {m W : World} {g : Nat} {s : St} {cs : List Value} (h : RdX m W g s cs) :
    Calls Try.prog 46 #[.agg #[.pointer (some ⟨g, 0, none⟩)]] W (RetR m W g SmlV (smlS s)) := by
  have hle := numR_le (most := 1000) (by omega) s
  have hw : IntKind.i64.wrap ((numS 1000 s.1 s.2).1 : Int) = ((numS 1000 s.1 s.2).1 : Int) := by
    unfold numR at hle
    rw [IntKind.wrap_i64]
    omega
  have F := h.F
  have hC := h.c
  clear h
  refine Sy.enter Try.func46 rfl Try.ntmps46 rfl ?_; intro ac T; simp only [Sy.enum, Nat.zero_add, Nat.reduceAdd] at T
  repeat (first
    | (((with_reducible refine Sy.is_load ?_); (refine Sy.st_loadOne T F (h := ?_)); clear T; intro ac T))
    | (((with_reducible refine Sy.is_box ?_); (refine Sy.st_boxAgg T F (h := ?_)); clear T F; intro ac g w T F))
    | (((with_reducible refine Sy.is_op ?_); refine Sy.st_pure T (h := ?_); clear T; intro ac T))
    | (with_reducible refine wpList_nil ?_)
    | (with_reducible refine wp_region_lit ?_)
    | ((with_reducible refine wp_seq_k ?_); intro _ _)
    | (go_at_K; go_step)
    | (simp only [Exit.then, Exit.inBlock, ↓reduceIte, Nat.reduceEqDiff]))
  have G := Pk.num_r 1000 (by omega) (Pk.RdX.mk (Sy.MemE.reX F (by repeat (first | exact Sy.Take.here | apply Sy.Take.there))) hC); refine Sy.st_callX T F (hc := G) (h := ?_); (clear T F G hC; intro v m cs ac w hR hS T F; obtain ⟨hV, hC⟩ := hR)
  obtain rfl := hV
  repeat (first
    | (((with_reducible refine Sy.is_op ?_); refine Sy.st_pure T (h := ?_); clear T; intro ac T))
    | (with_reducible refine wpList_nil ?_)
    | (with_reducible refine wp_ret ?_)
    | (go_at_K; go_step)
    | (simp only [Exit.then, Exit.inBlock, ↓reduceIte, Nat.reduceEqDiff]))
  ((try simp only [Exit.inBlock, Exit.then]); refine Sy.st_ret1 T F rfl (by repeat (first | exact Sy.ResV.nil | apply Sy.ResV.tmp rfl | apply Sy.ResV.row rfl rfl rfl (by repeat (first | exact Sy.Take.here | apply Sy.Take.there)) (by rfl) | apply Sy.ResV.one rfl rfl rfl (by repeat (first | exact Sy.Take.here | apply Sy.Take.there)) (by rfl))) ?_)
  exact F.retX (by repeat (first | exact Sy.Take.here | apply Sy.Take.there)) ⟨⟨rfl, by unfold smlS; omega⟩, hC⟩
/-- so many things, one by one, until there is an error -/
def manyS {α : Type} (most : Nat) (take : St → α × St) (s : St) : List α × St := loopS take (numR most s).1 (numR most s).2 []
theorem well_end (l : List UInt8) (e : Nat) : wellS (l, e) = (((endS l e : Nat) : Int) == 0 || ((endS l e : Nat) : Int) == 4) := by
  unfold wellS endS
  rw [Bool.eq_iff_iff]
  simp only [Bool.or_eq_true, beq_iff_eq]
  split <;> omega
/-- what stands while things are taken: the reader's block first, then what is laid on top, then the rest; whatever the reader comes to, it stands again -/
def Opens {α : Type} (gr : Nat) (J : St → List α → List Sy.Blk → World → Prop) : Prop :=
  ∀ st acc ex w, J st acc ex w → ∃ (E : Sy.Ext) (c : Sy.Cx) (m : World) (cs : List Value) (bs0 : List Sy.Blk), Sy.MemE E c m (⟨gr, cs, 100⟩ :: (ex ++ bs0)) w ∧ RdC m st cs ∧
    ∀ m' cs' st' ex' w', Sub m m' → Sy.MemE E c m' (⟨gr, cs', 100⟩ :: (ex' ++ bs0)) w' → RdC m' st' cs' → J st' acc ex' w'
def RetJ (R : World → Prop) (e : Ending) (w' : World) : Prop := e = .returned (.tuple #[]) ∧ R w'
set_option maxRecDepth 20000 in
set_option maxHeartbeats 4000000 in
theorem many_any {α : Type} {gr : Nat} {J : St → List α → List Sy.Blk → World → Prop} (hJ : Opens gr J) (take : St → α × St) (most : Nat) (hm : most ≤ 1000) (f : FuncId) (hfl : Sy.fl.contains f = true) (ks : List Value)
    (hcl : ∀ st acc b w, J st acc [b] w → wellS st = true → acc.length < most → Calls Try.prog f ([] ++ [] ++ ks).toArray w (RetJ (J (take st).2 (acc ++ [(take st).1]) [b])))
    {s : St} {W : World} (h0 : J s [] [] W) :
    Calls Try.prog 47 #[.agg #[.pointer (some ⟨gr, 0, none⟩)], .int .u64 (most : Int), .func (.func f) #[] ks.toArray] W (RetJ (J (manyS most take s).2 (manyS most take s).1 [])) := by
  obtain ⟨E, c, m, cs, bs0, F, hC, hclose⟩ := hJ _ _ _ _ h0
  rw [List.nil_append] at F
  have hle := numR_le (most := most) (by omega) s
  obtain ⟨⟨n0, s1⟩, e1⟩ : ∃ x, x = numS most s.1 s.2 := ⟨_, rfl⟩
  have hres : manyS most take s = loopS take n0 s1 [] := by
    unfold manyS numR
    rw [← e1]
  generalize manyS most take s = res at *
  unfold numR at hle
  rw [← e1] at hle
  dsimp only at hle
  refine Sy.enter Try.func47 rfl Try.ntmps47 rfl ?_; intro ac T; simp only [Sy.enum, Nat.zero_add, Nat.reduceAdd] at T
  repeat (first
    | (((with_reducible refine Sy.is_load ?_); (refine Sy.st_loadOne T F (h := ?_)); clear T; intro ac T))
    | (((with_reducible refine Sy.is_box ?_); (refine Sy.st_boxAgg T F (h := ?_)); clear T F; intro ac g w T F))
    | (((with_reducible refine Sy.is_op ?_); refine Sy.st_pure T (h := ?_); clear T; intro ac T))
    | (with_reducible refine wpList_nil ?_)
    | (with_reducible refine wp_region_lit ?_)
    | ((with_reducible refine wp_seq_k ?_); intro _ _)
    | (go_at_K; go_step)
    | (simp only [Exit.then, Exit.inBlock, ↓reduceIte, Nat.reduceEqDiff]))
  have G := Pk.num_r most (by omega) (Pk.RdX.mk (Sy.MemE.reX F (by repeat (first | exact Sy.Take.here | apply Sy.Take.there))) hC); rw [← e1] at G; refine Sy.st_callX T F (hc := G) (h := ?_); (clear T F G hC; intro v m cs ac w hR hS T F; obtain ⟨hV, hC⟩ := hR; dsimp only at hV hC)
  obtain rfl := hV
  try dsimp only at T
  obtain ⟨b3, rfl⟩ := name1 T 3 rfl
  repeat (first
    | (((with_reducible refine Sy.is_op ?_); refine Sy.st_pure T (h := ?_); clear T; intro ac T))
    | (with_reducible refine wpList_nil ?_)
    | (with_reducible refine wp_block ?_)
    | (go_at_K; go_step)
    | (simp only [Exit.then, Exit.inBlock, ↓reduceIte, Nat.reduceEqDiff]))
  refine wp_loop_ghost_k (fun n ac w' => ∃ (st : St) (acc : List α), n ≤ n0 ∧ acc.length + n = n0 ∧ res = loopS take n st acc ∧ J st acc [⟨b3, [.pointer (some ⟨gr, 0, none⟩)], 85⟩] w' ∧
    Sy.Tm ac 27 [(2, .func (.func f) #[] ks.toArray), (3, .pointer (some ⟨b3, 0, none⟩)), (6, .int .u64 (n : Int))]) n0 ?_ ?_
  · exact ⟨s1, [], Nat.le_refl _, by simp, hres, hclose m cs s1 _ _ hS F hC, (T.part (by repeat (first | exact Sy.Part.nil | apply Sy.Part.cons rfl)))⟩
  clear T F hC hS hclose
  intro n ac w hI I K hI' hK
  obtain ⟨st, acc, hn1, hacc, hspec, hj, T⟩ := hI
  obtain ⟨E, c, m, cs, bs0, F, hC, hclose⟩ := hJ _ _ _ _ hj
  rw [List.cons_append, List.nil_append] at F
  by_cases hz : n = 0
  · subst hz
    have u1 : decide (((0 : Nat) : Int) > 0) = false := decide_eq_false (by omega)
    repeat (first
    | (((with_reducible refine Sy.is_op ?_); refine Sy.st_pure T (h := ?_); clear T; intro ac T))
    | ((with_reducible refine Sy.is_cond ?_); (refine Sy.st_false T (h := ?_)))
    | (with_reducible refine wpList_nil ?_)
    | (with_reducible refine wp_region_lit ?_)
    | (with_reducible refine wp_exit ?_)
    | ((with_reducible refine wp_seq_k ?_); intro _ _)
    | (go_at_K; go_step)
    | (simp only [Exit.then, Exit.inBlock, ↓reduceIte, Nat.reduceEqDiff]))
    (try simp only [Exit.inBlock, Exit.then])
    refine Sy.st_end0 T F rfl ⟨rfl, ?_⟩
    rw [hspec]
    exact hclose m cs st [] _ (Sub.refl m) (F.perm (List.Perm.swap _ _ _)).drop hC
  obtain ⟨n, rfl⟩ : ∃ q, n = q + 1 := ⟨n - 1, by omega⟩
  have u1 : decide (((n + 1 : Nat) : Int) > 0) = true := decide_eq_true (by omega)
  have u2 : IntKind.u64.wrap (((n + 1 : Nat) : Int) - 1) = (n : Int) := by rw [IntKind.wrap_u64]; omega
  repeat (first
    | (((with_reducible refine Sy.is_load ?_); (refine Sy.st_loadOne T F (h := ?_)); clear T; intro ac T))
    | (((with_reducible refine Sy.is_op ?_); refine Sy.st_pure T (h := ?_); clear T; intro ac T))
    | ((with_reducible refine Sy.is_cond ?_); (refine Sy.st_true T (h := ?_)))
    | (with_reducible refine wpList_nil ?_)
    | (with_reducible refine wp_region_lit ?_)
    | (with_reducible refine wp_block ?_)
    | (with_reducible refine wp_skip ?_)
    | ((with_reducible refine wp_seq_k ?_); intro _ _)
    | (go_at_K; go_step)
    | (simp only [Exit.then, Exit.inBlock, ↓reduceIte, Nat.reduceEqDiff]))
  refine Sy.st_callV0 T F (hc := end_r (RdX.mk (Sy.MemE.reX F (by repeat (first | exact Sy.Take.here | apply Sy.Take.there))) hC)) (h := ?_); (clear T F; intro ac w T F)
  obtain ⟨l3, n3⟩ := st
  have hw := well_end l3 n3
  try dsimp only at T
  by_cases hd0 : (((endS l3 n3 : Nat) : Int) == 0) = false ∧ (((endS l3 n3 : Nat) : Int) == 4) = false
  · obtain ⟨v1, v2⟩ := hd0
    rw [v1, v2, Bool.or_false] at hw
    repeat (first
    | (((with_reducible refine Sy.is_guard ?_); (refine Sy.st_guard T (h := ?_))))
    | (((with_reducible refine Sy.is_op ?_); refine Sy.st_pure T (h := ?_); clear T; intro ac T))
    | ((with_reducible refine Sy.is_cond ?_); (refine Sy.st_true T (h := ?_)))
    | (with_reducible refine wpList_nil ?_)
    | (with_reducible refine wp_region_lit ?_)
    | (with_reducible refine wp_ret ?_)
    | ((with_reducible refine wp_seq_k ?_); intro _ _)
    | (go_at_K; go_step)
    | (simp only [Exit.then, Exit.inBlock, ↓reduceIte, Nat.reduceEqDiff]))
    (try simp only [Exit.inBlock, Exit.then])
    refine Sy.st_ret0 T F rfl ⟨rfl, ?_⟩
    rw [hspec]
    simp only [loopS, hw, Bool.false_eq_true, if_false]
    exact hclose m cs (l3, n3) [] _ (Sub.refl m) (F.perm (List.Perm.swap _ _ _)).drop hC
  · have hwell : wellS (l3, n3) = true := by
      rw [hw]
      cases h1 : (((endS l3 n3 : Nat) : Int) == 0) with
      | true => rfl
      | false =>
        cases h2 : (((endS l3 n3 : Nat) : Int) == 4) with
        | true => rfl
        | false => exact absurd ⟨h1, h2⟩ hd0
    simp only [loopS, hwell, if_true] at hspec
    have hj2 := hclose m cs (l3, n3) [⟨b3, [.pointer (some ⟨gr, 0, none⟩)], 85⟩] _ (Sub.refl m) F hC
    have hc := hcl _ _ _ _ hj2 hwell (by omega)
    clear hclose
    by_cases h1 : (((endS l3 n3 : Nat) : Int) == 0) = true
    all_goals
      first
      | (have v1 := h1; skip)
      | skip
    · repeat (first
    | (((with_reducible refine Sy.is_guard ?_); ((refine Sy.st_unguard T (h := ?_); clear T; intro ac T))))
    | (((with_reducible refine Sy.is_op ?_); refine Sy.st_pure T (h := ?_); clear T; intro ac T))
    | ((with_reducible refine Sy.is_cond ?_); (refine Sy.st_false T (h := ?_)))
    | (with_reducible refine wpList_nil ?_)
    | (with_reducible refine wp_region_lit ?_)
    | (with_reducible refine wp_skip ?_)
    | ((with_reducible refine wp_seq_k ?_); intro _ _)
    | (go_at_K; go_step)
    | (simp only [Exit.then, Exit.inBlock, ↓reduceIte, Nat.reduceEqDiff]))
      refine Sy.st_call (us := []) (vs := []) (ks := ks) T rfl hfl rfl rfl hc ?_
      rintro e w1 ⟨rfl, hj3⟩
      refine ⟨_, rfl, fun ac T => ?_⟩
      repeat (first
    | (((with_reducible refine Sy.is_op ?_); refine Sy.st_pure T (h := ?_); clear T; intro ac T))
    | (with_reducible refine wpList_nil ?_)
    | (with_reducible refine wp_region_lit ?_)
    | (go_at_K; go_step)
    | (simp only [Exit.then, Exit.inBlock, ↓reduceIte, Nat.reduceEqDiff]))
      exact Sy.handed hI' (k := n) (by omega) ⟨_, acc ++ [_], by omega, by simp; omega, hspec, hj3, (T.part (by repeat (first | exact Sy.Part.nil | apply Sy.Part.cons rfl)))⟩
    · have v1 : (((endS l3 n3 : Nat) : Int) == 0) = false := by simpa using h1
      have v2 : (((endS l3 n3 : Nat) : Int) == 4) = true := by
        cases h2 : (((endS l3 n3 : Nat) : Int) == 4) with
        | true => rfl
        | false => exact absurd ⟨v1, h2⟩ hd0
      repeat (first
    | (((with_reducible refine Sy.is_guard ?_); (refine Sy.st_guard T (h := ?_))))
    | (((with_reducible refine Sy.is_op ?_); refine Sy.st_pure T (h := ?_); clear T; intro ac T))
    | ((with_reducible refine Sy.is_cond ?_); (refine Sy.st_false T (h := ?_)))
    | (with_reducible refine wpList_nil ?_)
    | (with_reducible refine wp_region_lit ?_)
    | (with_reducible refine wp_skip ?_)
    | ((with_reducible refine wp_seq_k ?_); intro _ _)
    | (go_at_K; go_step)
    | (simp only [Exit.then, Exit.inBlock, ↓reduceIte, Nat.reduceEqDiff]))
      refine Sy.st_call (us := []) (vs := []) (ks := ks) T rfl hfl rfl rfl hc ?_
      rintro e w1 ⟨rfl, hj3⟩
      refine ⟨_, rfl, fun ac T => ?_⟩
      repeat (first
    | (((with_reducible refine Sy.is_op ?_); refine Sy.st_pure T (h := ?_); clear T; intro ac T))
    | (with_reducible refine wpList_nil ?_)
    | (with_reducible refine wp_region_lit ?_)
    | (go_at_K; go_step)
    | (simp only [Exit.then, Exit.inBlock, ↓reduceIte, Nat.reduceEqDiff]))
      exact Sy.handed hI' (k := n) (by omega) ⟨_, acc ++ [_], by omega, by simp; omega, hspec, hj3, (T.part (by repeat (first | exact Sy.Part.nil | apply Sy.Part.cons rfl)))⟩
end Tk
end Go.Proofs.Ytniopkoaplkpkaa
