/- The walks of a taker's methods and of taking lists. Conditions: the reader's bytes can be read. -/
import Derived.Test.YtniopkoaplkpkaaRdP
import Derived.Test.YtniopkoaplkpkaaSyV
namespace Go.Proofs.Ytniopkoaplkpkaa
open Go.RowKit
set_option linter.unusedVariables false
set_option linter.unusedSimpArgs false
namespace Rt
open Sy (RetV RetM Sub)
open Rg Pk
/-! rows of cells -/
section
variable {α : Type} {R : World → List Value → α → Prop} {c : Nat} {m : World} {css : List (List Value)} {l : List α}
theorem rows_up {m' : World} (hR : ∀ cs x, R m cs x → R m' cs x) (h : RowsOf R c m css l) : RowsOf R c m' css l := ⟨h.1, fun i h1 h2 => ⟨(h.2 i h1 h2).1, hR _ _ (h.2 i h1 h2).2⟩⟩
theorem rows_snoc {x : α} {cs : List Value} (h : RowsOf R c m css l) (hc : cs.length = c) (hx : R m cs x) : RowsOf R c m (css ++ [cs]) (l ++ [x]) := by
  have h0 := h.1
  refine ⟨by simp [h0], fun i h1 h2 => ?_⟩
  by_cases hi : i < css.length
  · rw [List.getElem_append_left hi, List.getElem_append_left (by omega)]
    exact h.2 i hi (by omega)
  · have e1 : i = css.length := by simp at h1; omega
    subst e1
    simp [h0, hc, hx]
theorem rows_nil : RowsOf R c m [] ([] : List α) := ⟨rfl, fun i h => by simp at h⟩
end
/-- an element that a call handed back -/
def RowV {α : Type} (R : World → List Value → α → Prop) (m : World) (v : Value) (x : α) : Prop := ∃ cs, v = .agg cs.toArray ∧ R m cs x
/-- a list that a call handed back -/
def ListV {α : Type} (R : World → List Value → α → Prop) (c : Nat) (m : World) (v : Value) (l : List α) : Prop := ∃ a cap, v = .slice a l.length cap ∧ Rows R c m a l ∧ l.length ≤ cap ∧ cap ≤ maxLen
def IntR (_ : World) (cs : List Value) (x : Int) : Prop := cs = [.int .i64 x] ∧ -9223372036854775808 ≤ x ∧ x ≤ 9223372036854775807
def U8V (_ : World) (v : Value) (n : Nat) : Prop := v = .int .u8 (n : Int) ∧ n < 256
def BigV (_ : World) (v : Value) (n : Nat) : Prop := v = .int .u64 (n : Int) ∧ n < 18446744073709551616
def SmlV (_ : World) (v : Value) (n : Nat) : Prop := v = .int .i64 (n : Int) ∧ n ≤ 1000
def IntV (_ : World) (v : Value) (x : Int) : Prop := v = .int .i64 x ∧ I64 x
theorem numR_le {most : Nat} (hm : most < 18446744073709551616) (s : St) : (numR most s).1 ≤ most := (numS_le hm s.1 s.2).1
theorem int64 (s : St) : I64 (intS s).1 := by
  have h := (numS_le (most := 18446744073709551615) (by omega) s.1 s.2).1
  unfold intS zag I64
  simp only
  split <;> omega

theorem small_r {m W : World} {g : Nat} {s : St} {cs : List Value} (h : RdX m W g s cs) :
    Calls Try.prog 56 #[.agg #[.pointer (some ⟨g, 0, none⟩)]] W (RetR m W g U8V (smallS s)) := by
  have hle := numR_le (most := 255) (by omega) s
  have hw : IntKind.u8.wrap ((numS 255 s.1 s.2).1 : Int) = ((numS 255 s.1 s.2).1 : Int) := by
    unfold numR at hle
    rw [IntKind.wrap_u8]
    omega
  have F := h.F
  have hC := h.c
  clear h
  refine Sy.enter Try.func56 rfl Try.ntmps56 rfl ?_; intro ac T; simp only [Sy.enum, Nat.zero_add, Nat.reduceAdd] at T
  repeat (first
    | (((with_reducible refine Sy.is_load ?_); (refine Sy.st_loadOne T F (h := ?_)); clear T; intro ac T))
    | (((with_reducible refine Sy.is_box ?_); (refine Sy.st_boxAgg T F (h := ?_)); clear T F; intro ac g w T F))
    | (((with_reducible refine Sy.is_op ?_); refine Sy.st_pure T (h := ?_); clear T; intro ac T))
    | (with_reducible refine wpList_nil ?_)
    | (with_reducible refine wp_region_lit ?_)
    | ((with_reducible refine wp_seq_k ?_); intro _ _)
    | (go_at_K; go_step)
    | (simp only [Exit.then, Exit.inBlock, ↓reduceIte, Nat.reduceEqDiff]))
  have G := num_r 255 (by omega) (Pk.RdX.mk (Sy.MemE.reX F (by repeat (first | exact Sy.Take.here | apply Sy.Take.there))) hC); refine Sy.st_callX T F (hc := G) (h := ?_); (clear T F G hC; intro v m cs ac w hR hS T F; obtain ⟨hV, hC⟩ := hR)
  obtain rfl := hV
  repeat (first
    | (((with_reducible refine Sy.is_op ?_); refine Sy.st_pure T (h := ?_); clear T; intro ac T))
    | (with_reducible refine wpList_nil ?_)
    | (with_reducible refine wp_ret ?_)
    | (go_at_K; go_step)
    | (simp only [Exit.then, Exit.inBlock, ↓reduceIte, Nat.reduceEqDiff]))
  ((try simp only [Exit.inBlock, Exit.then]); refine Sy.st_ret1 T F rfl (by repeat (first | exact Sy.ResV.nil | apply Sy.ResV.tmp rfl | apply Sy.ResV.row rfl rfl rfl (by repeat (first | exact Sy.Take.here | apply Sy.Take.there)) (by rfl) | apply Sy.ResV.one rfl rfl rfl (by repeat (first | exact Sy.Take.here | apply Sy.Take.there)) (by rfl))) ?_)
  exact F.retX (by repeat (first | exact Sy.Take.here | apply Sy.Take.there)) ⟨⟨rfl, by unfold smallS; omega⟩, hC⟩
theorem big_r {m W : World} {g : Nat} {s : St} {cs : List Value} (h : RdX m W g s cs) :
    Calls Try.prog 57 #[.agg #[.pointer (some ⟨g, 0, none⟩)]] W (RetR m W g BigV (bigS s)) := by
  have hle := numR_le (most := 18446744073709551615) (by omega) s
  have F := h.F
  have hC := h.c
  clear h
  refine Sy.enter Try.func57 rfl Try.ntmps57 rfl ?_; intro ac T; simp only [Sy.enum, Nat.zero_add, Nat.reduceAdd] at T
  repeat (first
    | (((with_reducible refine Sy.is_load ?_); (refine Sy.st_loadOne T F (h := ?_)); clear T; intro ac T))
    | (((with_reducible refine Sy.is_box ?_); (refine Sy.st_boxAgg T F (h := ?_)); clear T F; intro ac g w T F))
    | (((with_reducible refine Sy.is_op ?_); refine Sy.st_pure T (h := ?_); clear T; intro ac T))
    | (with_reducible refine wpList_nil ?_)
    | (with_reducible refine wp_region_lit ?_)
    | ((with_reducible refine wp_seq_k ?_); intro _ _)
    | (go_at_K; go_step)
    | (simp only [Exit.then, Exit.inBlock, ↓reduceIte, Nat.reduceEqDiff]))
  have G := num_r 18446744073709551615 (by omega) (Pk.RdX.mk (Sy.MemE.reX F (by repeat (first | exact Sy.Take.here | apply Sy.Take.there))) hC); refine Sy.st_callX T F (hc := G) (h := ?_); (clear T F G hC; intro v m cs ac w hR hS T F; obtain ⟨hV, hC⟩ := hR)
  obtain rfl := hV
  repeat (first
    | (((with_reducible refine Sy.is_op ?_); refine Sy.st_pure T (h := ?_); clear T; intro ac T))
    | (with_reducible refine wpList_nil ?_)
    | (with_reducible refine wp_ret ?_)
    | (go_at_K; go_step)
    | (simp only [Exit.then, Exit.inBlock, ↓reduceIte, Nat.reduceEqDiff]))
  ((try simp only [Exit.inBlock, Exit.then]); refine Sy.st_ret1 T F rfl (by repeat (first | exact Sy.ResV.nil | apply Sy.ResV.tmp rfl | apply Sy.ResV.row rfl rfl rfl (by repeat (first | exact Sy.Take.here | apply Sy.Take.there)) (by rfl) | apply Sy.ResV.one rfl rfl rfl (by repeat (first | exact Sy.Take.here | apply Sy.Take.there)) (by rfl))) ?_)
  exact F.retX (by repeat (first | exact Sy.Take.here | apply Sy.Take.there)) ⟨⟨rfl, by unfold bigS; omega⟩, hC⟩
theorem sml_r {m W : World} {g : Nat} {s : St} {cs : List Value} (h : RdX m W g s cs) :
    Calls Try.prog 58 #[.agg #[.pointer (some ⟨g, 0, none⟩)]] W (RetR m W g SmlV (smlS s)) := by
  have hle := numR_le (most := 1000) (by omega) s
  have hw : IntKind.i64.wrap ((numS 1000 s.1 s.2).1 : Int) = ((numS 1000 s.1 s.2).1 : Int) := by
    unfold numR at hle
    rw [IntKind.wrap_i64]
    omega
  have F := h.F
  have hC := h.c
  clear h
  refine Sy.enter Try.func58 rfl Try.ntmps58 rfl ?_; intro ac T; simp only [Sy.enum, Nat.zero_add, Nat.reduceAdd] at T
  repeat (first
    | (((with_reducible refine Sy.is_load ?_); (refine Sy.st_loadOne T F (h := ?_)); clear T; intro ac T))
    | (((with_reducible refine Sy.is_box ?_); (refine Sy.st_boxAgg T F (h := ?_)); clear T F; intro ac g w T F))
    | (((with_reducible refine Sy.is_op ?_); refine Sy.st_pure T (h := ?_); clear T; intro ac T))
    | (with_reducible refine wpList_nil ?_)
    | (with_reducible refine wp_region_lit ?_)
    | ((with_reducible refine wp_seq_k ?_); intro _ _)
    | (go_at_K; go_step)
    | (simp only [Exit.then, Exit.inBlock, ↓reduceIte, Nat.reduceEqDiff]))
  have G := num_r 1000 (by omega) (Pk.RdX.mk (Sy.MemE.reX F (by repeat (first | exact Sy.Take.here | apply Sy.Take.there))) hC); refine Sy.st_callX T F (hc := G) (h := ?_); (clear T F G hC; intro v m cs ac w hR hS T F; obtain ⟨hV, hC⟩ := hR)
  obtain rfl := hV
  repeat (first
    | (((with_reducible refine Sy.is_op ?_); refine Sy.st_pure T (h := ?_); clear T; intro ac T))
    | (with_reducible refine wpList_nil ?_)
    | (with_reducible refine wp_ret ?_)
    | (go_at_K; go_step)
    | (simp only [Exit.then, Exit.inBlock, ↓reduceIte, Nat.reduceEqDiff]))
  ((try simp only [Exit.inBlock, Exit.then]); refine Sy.st_ret1 T F rfl (by repeat (first | exact Sy.ResV.nil | apply Sy.ResV.tmp rfl | apply Sy.ResV.row rfl rfl rfl (by repeat (first | exact Sy.Take.here | apply Sy.Take.there)) (by rfl) | apply Sy.ResV.one rfl rfl rfl (by repeat (first | exact Sy.Take.here | apply Sy.Take.there)) (by rfl))) ?_)
  exact F.retX (by repeat (first | exact Sy.Take.here | apply Sy.Take.there)) ⟨⟨rfl, by unfold smlS; omega⟩, hC⟩
theorem int_v {m W : World} {g : Nat} {s : St} {cs : List Value} (h : RdX m W g s cs) :
    Calls Try.prog 60 #[.pointer (some ⟨g, 0, none⟩)] W (RetR m W g IntV (intS s)) := by
  refine (int_r h).mono ?_
  rintro e w' ⟨v, m', cs', h1, h2, h3, h4, h5, h6, h7, h8⟩
  exact ⟨v, m', cs', h1, h2, h3, h4, h5, h6, ⟨h7, int64 s⟩, h8⟩
theorem well_r {m W : World} {g : Nat} {s : St} {cs : List Value} (h : RdX m W g s cs) :
    Calls Try.prog 68 #[.agg #[.pointer (some ⟨g, 0, none⟩)]] W (RetV W (.bool (wellS s))) := by
  have G := fun w' (hs : Below W.heap.size W w') => end_any w' g s.1 s.2 (Pk.Rd.below h.rdM.rd hs)
  have F := Sy.Mem.start (Sub.refl W)
  obtain ⟨l, e⟩ := s
  by_cases e0 : endS l e = 0
  · have t1 : ((endS l e : Nat) : Int) = 0 := by omega
    simp only [t1] at G
    have u1 : ((0 : Int) == 0) = true := rfl
    have hw : wellS (l, e) = true := by
      unfold endS at e0
      unfold wellS
      simp only [Bool.or_eq_true, beq_iff_eq]
      split at e0 <;> omega
    rw [hw]
    refine Sy.enter Try.func68 rfl Try.ntmps68 rfl ?_; intro ac T; simp only [Sy.enum, Nat.zero_add, Nat.reduceAdd] at T
    repeat (first
    | (((with_reducible refine Sy.is_load ?_); (refine Sy.st_loadOne T F (h := ?_)); clear T; intro ac T))
    | (((with_reducible refine Sy.is_box ?_); (refine Sy.st_boxAgg T F (h := ?_)); clear T F; intro ac g w T F))
    | (((with_reducible refine Sy.is_op ?_); refine Sy.st_pure T (h := ?_); clear T; intro ac T))
    | (with_reducible refine wpList_nil ?_)
    | (with_reducible refine wp_region_lit ?_)
    | ((with_reducible refine wp_seq_k ?_); intro _ _)
    | (go_at_K; go_step)
    | (simp only [Exit.then, Exit.inBlock, ↓reduceIte, Nat.reduceEqDiff]))
    refine Sy.st_callV0 T F (hc := (G _ F.end_).mono fun _ _ h => ⟨h.1, h.2 ▸ Below.refl _ _⟩) (h := ?_); (clear T F; intro ac w T F)
    repeat (first
    | (((with_reducible refine Sy.is_guard ?_); ((refine Sy.st_unguard T (h := ?_); clear T; intro ac T))))
    | (((with_reducible refine Sy.is_op ?_); refine Sy.st_pure T (h := ?_); clear T; intro ac T))
    | (with_reducible refine wpList_nil ?_)
    | (with_reducible refine wp_region_lit ?_)
    | (with_reducible refine wp_ret ?_)
    | ((with_reducible refine wp_seq_k ?_); intro _ _)
    | (go_at_K; go_step)
    | (simp only [Exit.then, Exit.inBlock, ↓reduceIte, Nat.reduceEqDiff]))
    ((try simp only [Exit.inBlock, Exit.then]); refine Sy.st_ret1 T F rfl (by repeat (first | exact Sy.ResV.nil | apply Sy.ResV.tmp rfl | apply Sy.ResV.row rfl rfl rfl (by repeat (first | exact Sy.Take.here | apply Sy.Take.there)) (by rfl) | apply Sy.ResV.one rfl rfl rfl (by repeat (first | exact Sy.Take.here | apply Sy.Take.there)) (by rfl))) ?_)
    exact F.retV _
  have u1 : (((endS l e : Nat) : Int) == 0) = false := eqF (by omega)
  by_cases e4 : endS l e = 4
  · have u2 : (((endS l e : Nat) : Int) == 4) = true := eqT (by omega)
    have hw : wellS (l, e) = true := by
      unfold endS at e4
      unfold wellS
      simp only [Bool.or_eq_true, beq_iff_eq]
      split at e4 <;> omega
    rw [hw]
    refine Sy.enter Try.func68 rfl Try.ntmps68 rfl ?_; intro ac T; simp only [Sy.enum, Nat.zero_add, Nat.reduceAdd] at T
    repeat (first
    | (((with_reducible refine Sy.is_load ?_); (refine Sy.st_loadOne T F (h := ?_)); clear T; intro ac T))
    | (((with_reducible refine Sy.is_box ?_); (refine Sy.st_boxAgg T F (h := ?_)); clear T F; intro ac g w T F))
    | (((with_reducible refine Sy.is_op ?_); refine Sy.st_pure T (h := ?_); clear T; intro ac T))
    | (with_reducible refine wpList_nil ?_)
    | (with_reducible refine wp_region_lit ?_)
    | ((with_reducible refine wp_seq_k ?_); intro _ _)
    | (go_at_K; go_step)
    | (simp only [Exit.then, Exit.inBlock, ↓reduceIte, Nat.reduceEqDiff]))
    refine Sy.st_callV0 T F (hc := (G _ F.end_).mono fun _ _ h => ⟨h.1, h.2 ▸ Below.refl _ _⟩) (h := ?_); (clear T F; intro ac w T F)
    repeat (first
    | (((with_reducible refine Sy.is_guard ?_); (refine Sy.st_guard T (h := ?_))))
    | (((with_reducible refine Sy.is_op ?_); refine Sy.st_pure T (h := ?_); clear T; intro ac T))
    | (with_reducible refine wpList_nil ?_)
    | (with_reducible refine wp_region_lit ?_)
    | (with_reducible refine wp_ret ?_)
    | ((with_reducible refine wp_seq_k ?_); intro _ _)
    | (go_at_K; go_step)
    | (simp only [Exit.then, Exit.inBlock, ↓reduceIte, Nat.reduceEqDiff]))
    ((try simp only [Exit.inBlock, Exit.then]); refine Sy.st_ret1 T F rfl (by repeat (first | exact Sy.ResV.nil | apply Sy.ResV.tmp rfl | apply Sy.ResV.row rfl rfl rfl (by repeat (first | exact Sy.Take.here | apply Sy.Take.there)) (by rfl) | apply Sy.ResV.one rfl rfl rfl (by repeat (first | exact Sy.Take.here | apply Sy.Take.there)) (by rfl))) ?_)
    exact F.retV _
  · have u2 : (((endS l e : Nat) : Int) == 4) = false := eqF (by omega)
    have hw : wellS (l, e) = false := by
      unfold endS at e0 e4
      unfold wellS
      simp only [Bool.or_eq_false_iff, beq_eq_false_iff_ne]
      split at e0 <;> split at e4 <;> omega
    rw [hw]
    refine Sy.enter Try.func68 rfl Try.ntmps68 rfl ?_; intro ac T; simp only [Sy.enum, Nat.zero_add, Nat.reduceAdd] at T
    repeat (first
    | (((with_reducible refine Sy.is_load ?_); (refine Sy.st_loadOne T F (h := ?_)); clear T; intro ac T))
    | (((with_reducible refine Sy.is_box ?_); (refine Sy.st_boxAgg T F (h := ?_)); clear T F; intro ac g w T F))
    | (((with_reducible refine Sy.is_op ?_); refine Sy.st_pure T (h := ?_); clear T; intro ac T))
    | (with_reducible refine wpList_nil ?_)
    | (with_reducible refine wp_region_lit ?_)
    | ((with_reducible refine wp_seq_k ?_); intro _ _)
    | (go_at_K; go_step)
    | (simp only [Exit.then, Exit.inBlock, ↓reduceIte, Nat.reduceEqDiff]))
    refine Sy.st_callV0 T F (hc := (G _ F.end_).mono fun _ _ h => ⟨h.1, h.2 ▸ Below.refl _ _⟩) (h := ?_); (clear T F; intro ac w T F)
    repeat (first
    | (((with_reducible refine Sy.is_guard ?_); (refine Sy.st_guard T (h := ?_))))
    | (((with_reducible refine Sy.is_op ?_); refine Sy.st_pure T (h := ?_); clear T; intro ac T))
    | (with_reducible refine wpList_nil ?_)
    | (with_reducible refine wp_region_lit ?_)
    | (with_reducible refine wp_ret ?_)
    | ((with_reducible refine wp_seq_k ?_); intro _ _)
    | (go_at_K; go_step)
    | (simp only [Exit.then, Exit.inBlock, ↓reduceIte, Nat.reduceEqDiff]))
    ((try simp only [Exit.inBlock, Exit.then]); refine Sy.st_ret1 T F rfl (by repeat (first | exact Sy.ResV.nil | apply Sy.ResV.tmp rfl | apply Sy.ResV.row rfl rfl rfl (by repeat (first | exact Sy.Take.here | apply Sy.Take.there)) (by rfl) | apply Sy.ResV.one rfl rfl rfl (by repeat (first | exact Sy.Take.here | apply Sy.Take.there)) (by rfl))) ?_)
    exact F.retV _
end Rt
end Go.Proofs.Ytniopkoaplkpkaa
