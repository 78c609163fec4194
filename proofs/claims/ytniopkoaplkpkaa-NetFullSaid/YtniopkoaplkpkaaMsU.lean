/- The walk of the document's May of messages. Conditions: the message can be read; its register's lists are short. Printed by a program (genmsmayr.py). -/
import Derived.Test.YtniopkoaplkpkaaMsN
import Derived.Test.YtniopkoaplkpkaaRfC
namespace Go.Proofs.Ytniopkoaplkpkaa
open Go.RowKit
set_option linter.unusedVariables false
set_option linter.unusedSimpArgs false
namespace Ms
open Sy (RetV RetM Sub)
open Rg (eqT eqF retBb RegD RegA RegAt regCs May06 zeroReg zeroRegA Short)
theorem retIff {W m0 m w : World} {bs : List Sy.Blk} (F : Sy.MemE Sy.E0 ⟨W, [], m0⟩ m bs w) {bb b' : Bool} {p : Prop} (hbb : bb = true ↔ p) (h : b' = true ↔ p) : RetV W (.bool bb) (.returned (.bool b')) w := by
  have e : bb = b' := by cases bb <;> cases b' <;> simp_all
  subst e
  exact F.retV _
set_option maxRecDepth 20000 in
theorem noneR_any (w0 : World) (b : BalD) : Calls Try.prog 78 #[.agg (balCs b).toArray] w0 (RetV w0 (.bool (decide (b = zeroBal)))) := by
  have F := Sy.Mem.start (Sub.refl w0)
  obtain ⟨c, n, l⟩ := b
  by_cases h1 : c = 0
  case neg =>
    have t1 := eqF (a := (c : Int)) (b := 0) (by omega)
    refine Sy.enter Try.func78 rfl Try.ntmps78 rfl ?_; intro ac T; simp only [Sy.enum, Nat.zero_add, Nat.reduceAdd] at T
    repeat (first
    | (((with_reducible refine Sy.is_guard ?_); ((refine Sy.st_unguard T (h := ?_); clear T; intro ac T))))
    | (((with_reducible refine Sy.is_load ?_); (refine Sy.st_loadOne T F (h := ?_)); clear T; intro ac T))
    | (((with_reducible refine Sy.is_box ?_); (refine Sy.st_boxAgg T F (h := ?_)); clear T F; intro ac g w T F))
    | (((with_reducible refine Sy.is_op ?_); refine Sy.st_pure T (h := ?_); clear T; intro ac T))
    | (with_reducible refine wpList_nil ?_)
    | (with_reducible refine wp_region_lit ?_)
    | (with_reducible refine wp_ret ?_)
    | ((with_reducible refine wp_seq_k ?_); intro _ _)
    | (go_at_K; go_step)
    | (simp only [Exit.then, Exit.inBlock, ↓reduceIte, Nat.reduceEqDiff]))
    ((try simp only [Exit.inBlock, Exit.then]); refine Sy.st_ret1 T F rfl (by repeat (first | exact Sy.ResV.nil | apply Sy.ResV.tmp rfl | apply Sy.ResV.row rfl rfl rfl (by repeat (first | exact Sy.Take.here | apply Sy.Take.there)) (by rfl) | apply Sy.ResV.one rfl rfl rfl (by repeat (first | exact Sy.Take.here | apply Sy.Take.there)) (by rfl))) ?_)
    exact retBb F (decide_eq_false fun k => h1 (by injection k))
  have t1 := eqT (a := (c : Int)) (b := 0) (by omega)
  by_cases h2 : n = 0
  case neg =>
    have t2 := eqF (a := (n : Int)) (b := 0) (by omega)
    refine Sy.enter Try.func78 rfl Try.ntmps78 rfl ?_; intro ac T; simp only [Sy.enum, Nat.zero_add, Nat.reduceAdd] at T
    repeat (first
    | (((with_reducible refine Sy.is_guard ?_); (first
    | refine Sy.st_guard T (h := ?_)
    | (refine Sy.st_unguard T (h := ?_); clear T; intro ac T))))
    | (((with_reducible refine Sy.is_load ?_); (refine Sy.st_loadOne T F (h := ?_)); clear T; intro ac T))
    | (((with_reducible refine Sy.is_box ?_); (refine Sy.st_boxAgg T F (h := ?_)); clear T F; intro ac g w T F))
    | (((with_reducible refine Sy.is_op ?_); refine Sy.st_pure T (h := ?_); clear T; intro ac T))
    | (with_reducible refine wpList_nil ?_)
    | (with_reducible refine wp_region_lit ?_)
    | (with_reducible refine wp_ret ?_)
    | ((with_reducible refine wp_seq_k ?_); intro _ _)
    | (go_at_K; go_step)
    | (simp only [Exit.then, Exit.inBlock, ↓reduceIte, Nat.reduceEqDiff]))
    ((try simp only [Exit.inBlock, Exit.then]); refine Sy.st_ret1 T F rfl (by repeat (first | exact Sy.ResV.nil | apply Sy.ResV.tmp rfl | apply Sy.ResV.row rfl rfl rfl (by repeat (first | exact Sy.Take.here | apply Sy.Take.there)) (by rfl) | apply Sy.ResV.one rfl rfl rfl (by repeat (first | exact Sy.Take.here | apply Sy.Take.there)) (by rfl))) ?_)
    exact retBb F (decide_eq_false fun k => h2 (by injection k))
  have t2 := eqT (a := (n : Int)) (b := 0) (by omega)
  by_cases h3 : l = 0
  case neg =>
    have t3 := eqF (a := (l : Int)) (b := 0) (by omega)
    refine Sy.enter Try.func78 rfl Try.ntmps78 rfl ?_; intro ac T; simp only [Sy.enum, Nat.zero_add, Nat.reduceAdd] at T
    repeat (first
    | (((with_reducible refine Sy.is_guard ?_); (refine Sy.st_guard T (h := ?_))))
    | (((with_reducible refine Sy.is_load ?_); (refine Sy.st_loadOne T F (h := ?_)); clear T; intro ac T))
    | (((with_reducible refine Sy.is_box ?_); (refine Sy.st_boxAgg T F (h := ?_)); clear T F; intro ac g w T F))
    | (((with_reducible refine Sy.is_op ?_); refine Sy.st_pure T (h := ?_); clear T; intro ac T))
    | (with_reducible refine wpList_nil ?_)
    | (with_reducible refine wp_region_lit ?_)
    | (with_reducible refine wp_ret ?_)
    | ((with_reducible refine wp_seq_k ?_); intro _ _)
    | (go_at_K; go_step)
    | (simp only [Exit.then, Exit.inBlock, ↓reduceIte, Nat.reduceEqDiff]))
    ((try simp only [Exit.inBlock, Exit.then]); refine Sy.st_ret1 T F rfl (by repeat (first | exact Sy.ResV.nil | apply Sy.ResV.tmp rfl | apply Sy.ResV.row rfl rfl rfl (by repeat (first | exact Sy.Take.here | apply Sy.Take.there)) (by rfl) | apply Sy.ResV.one rfl rfl rfl (by repeat (first | exact Sy.Take.here | apply Sy.Take.there)) (by rfl))) ?_)
    exact retBb F (decide_eq_false fun k => h3 (by injection k))
  have t3 := eqT (a := (l : Int)) (b := 0) (by omega)
  subst h1 h2 h3
  refine Sy.enter Try.func78 rfl Try.ntmps78 rfl ?_; intro ac T; simp only [Sy.enum, Nat.zero_add, Nat.reduceAdd] at T
  repeat (first
    | (((with_reducible refine Sy.is_guard ?_); (refine Sy.st_guard T (h := ?_))))
    | (((with_reducible refine Sy.is_load ?_); (refine Sy.st_loadOne T F (h := ?_)); clear T; intro ac T))
    | (((with_reducible refine Sy.is_box ?_); (refine Sy.st_boxAgg T F (h := ?_)); clear T F; intro ac g w T F))
    | (((with_reducible refine Sy.is_op ?_); refine Sy.st_pure T (h := ?_); clear T; intro ac T))
    | (with_reducible refine wpList_nil ?_)
    | (with_reducible refine wp_region_lit ?_)
    | (with_reducible refine wp_ret ?_)
    | ((with_reducible refine wp_seq_k ?_); intro _ _)
    | (go_at_K; go_step)
    | (simp only [Exit.then, Exit.inBlock, ↓reduceIte, Nat.reduceEqDiff]))
  ((try simp only [Exit.inBlock, Exit.then]); refine Sy.st_ret1 T F rfl (by repeat (first | exact Sy.ResV.nil | apply Sy.ResV.tmp rfl | apply Sy.ResV.row rfl rfl rfl (by repeat (first | exact Sy.Take.here | apply Sy.Take.there)) (by rfl) | apply Sy.ResV.one rfl rfl rfl (by repeat (first | exact Sy.Take.here | apply Sy.Take.there)) (by rfl))) ?_)
  exact retBb F (decide_eq_true rfl)
theorem may06_zero {r : RegD} (hk : r.kind = 0) : May06 r ↔ r = zeroReg := by
  obtain ⟨k, i, s, v, d, o, l, m⟩ := r
  simp only at hk
  subst hk
  unfold May06 zeroReg
  simp [List.length_eq_zero_iff]
  intro _ _
  constructor
  · rintro ⟨h1, h2, h3, h4, h5⟩; exact ⟨h2, h3, h4, h1, h5⟩
  · rintro ⟨h2, h3, h4, h1, h5⟩; exact ⟨h1, h2, h3, h4, h5⟩
set_option maxRecDepth 20000 in
theorem zeroR_any (w0 : World) (r : RegD) (p : RegA) (h : RegAt w0 r p) (hs : Short r) : Calls Try.prog 79 #[.agg (regCs r p).toArray] w0 (RetV w0 (.bool (decide (r = zeroReg)))) := by
  have F := Sy.Mem.start (Sub.refl w0)
  by_cases hk : r.kind = 0
  · have t1 := eqT (a := (r.kind : Int)) (b := 0) (by omega)
    refine Sy.enter Try.func79 rfl Try.ntmps79 rfl ?_; intro ac T; simp only [Sy.enum, Nat.zero_add, Nat.reduceAdd] at T
    repeat (first
    | (((with_reducible refine Sy.is_guard ?_); (refine Sy.st_guard T (h := ?_))))
    | (((with_reducible refine Sy.is_load ?_); (first
    | refine Sy.st_loadOne T F (h := ?_)
    | refine Sy.st_loadAll T F (h := ?_)); clear T; intro ac T))
    | (((with_reducible refine Sy.is_box ?_); (refine Sy.st_boxAgg T F (h := ?_)); clear T F; intro ac g w T F))
    | (((with_reducible refine Sy.is_op ?_); refine Sy.st_pure T (h := ?_); clear T; intro ac T))
    | (with_reducible refine wpList_nil ?_)
    | (with_reducible refine wp_region_lit ?_)
    | ((with_reducible refine wp_seq_k ?_); intro _ _)
    | (go_at_K; go_step)
    | (simp only [Exit.then, Exit.inBlock, ↓reduceIte, Nat.reduceEqDiff]))
    have G := Rg.may06_any w r p (h.sub F.sub) hs (decide (r = zeroReg)) ((decide_eq_true_iff).trans (may06_zero hk).symm); refine Sy.st_callV0 T F (hc := G) (h := ?_); (clear T F G; intro ac w T F)
    repeat (first
    | (((with_reducible refine Sy.is_op ?_); refine Sy.st_pure T (h := ?_); clear T; intro ac T))
    | (with_reducible refine wpList_nil ?_)
    | (with_reducible refine wp_ret ?_)
    | (go_at_K; go_step)
    | (simp only [Exit.then, Exit.inBlock, ↓reduceIte, Nat.reduceEqDiff]))
    ((try simp only [Exit.inBlock, Exit.then]); refine Sy.st_ret1 T F rfl (by repeat (first | exact Sy.ResV.nil | apply Sy.ResV.tmp rfl | apply Sy.ResV.row rfl rfl rfl (by repeat (first | exact Sy.Take.here | apply Sy.Take.there)) (by rfl) | apply Sy.ResV.one rfl rfl rfl (by repeat (first | exact Sy.Take.here | apply Sy.Take.there)) (by rfl))) ?_)
    exact F.retV _
  · have t1 := eqF (a := (r.kind : Int)) (b := 0) (by omega)
    refine Sy.enter Try.func79 rfl Try.ntmps79 rfl ?_; intro ac T; simp only [Sy.enum, Nat.zero_add, Nat.reduceAdd] at T
    repeat (first
    | (((with_reducible refine Sy.is_guard ?_); ((refine Sy.st_unguard T (h := ?_); clear T; intro ac T))))
    | (((with_reducible refine Sy.is_load ?_); (refine Sy.st_loadOne T F (h := ?_)); clear T; intro ac T))
    | (((with_reducible refine Sy.is_box ?_); (refine Sy.st_boxAgg T F (h := ?_)); clear T F; intro ac g w T F))
    | (((with_reducible refine Sy.is_op ?_); refine Sy.st_pure T (h := ?_); clear T; intro ac T))
    | (with_reducible refine wpList_nil ?_)
    | (with_reducible refine wp_region_lit ?_)
    | (with_reducible refine wp_ret ?_)
    | ((with_reducible refine wp_seq_k ?_); intro _ _)
    | (go_at_K; go_step)
    | (simp only [Exit.then, Exit.inBlock, ↓reduceIte, Nat.reduceEqDiff]))
    ((try simp only [Exit.inBlock, Exit.then]); refine Sy.st_ret1 T F rfl (by repeat (first | exact Sy.ResV.nil | apply Sy.ResV.tmp rfl | apply Sy.ResV.row rfl rfl rfl (by repeat (first | exact Sy.Take.here | apply Sy.Take.there)) (by rfl) | apply Sy.ResV.one rfl rfl rfl (by repeat (first | exact Sy.Take.here | apply Sy.Take.there)) (by rfl))) ?_)
    exact retBb F (decide_eq_false fun k => hk (by rw [k]; rfl))
/-- what the document asks of a message -/
def MayR (m : MsgD) : Prop := m.src < 64 ∧ m.dst < 64 ∧ m.key < 16 ∧ m.b ≠ zeroBal ∧
  (if m.kind = 1 then m.ok = false ∧ m.acc = zeroBal ∧ m.next = zeroBal ∧ m.reg = zeroReg ∧ m.max = 0
   else if m.kind = 2 ∧ m.ok = true then m.max = 0 ∧ m.next = zeroBal ∧ May06 m.reg ∧ (m.reg.kind = 0 ∨ m.acc ≠ zeroBal)
   else if m.kind = 2 then m.acc = zeroBal ∧ m.next = zeroBal ∧ m.reg = zeroReg
   else if m.kind = 3 then m.ok = false ∧ m.acc = zeroBal ∧ m.max = 0 ∧ May06 m.reg ∧ NextP m.b m.next
   else m.kind = 4 ∧ m.acc = zeroBal ∧ m.next = zeroBal ∧ m.reg = zeroReg ∧ (m.ok = false ∨ m.max = 0))
set_option maxRecDepth 20000 in
set_option maxHeartbeats 8000000 in
theorem mayR_any (w0 : World) (m : MsgD) (p : RegA) (h : MsgAt w0 m p) (hs : Short m.reg) (bb : Bool) (hbb : bb = true ↔ MayR m) : Calls Try.prog 30 #[.agg (msgCs m p).toArray] w0 (RetV w0 (.bool bb)) := by
  have F := Sy.Mem.start (Sub.refl w0)
  have hr := h.reg
  have hb := h.b
  have hn := h.next
  obtain ⟨va, vc, da, dc, oa, oc, ma, mc⟩ := p
  obtain ⟨kind, src, dst, key, conf, b, ok, acc, reg, next, max⟩ := m
  simp only at hr hb hn hs
  clear h
  refine Sy.enter Try.func30 rfl Try.ntmps30 rfl ?_; intro ac T; simp only [Sy.enum, Nat.zero_add, Nat.reduceAdd] at T
  rcases (show (src < 64 ∧ dst < 64 ∧ key < 16) ∨ 64 ≤ src ∨ (src < 64 ∧ 64 ≤ dst) ∨ (src < 64 ∧ dst < 64 ∧ 16 ≤ key) by omega) with z | z | z | z
  case inl =>
    obtain ⟨z1, z2, z3⟩ := z
    have t1 : decide ((src : Int) > 63) = false := decide_eq_false (by omega)
    have t2 : decide ((dst : Int) > 63) = false := decide_eq_false (by omega)
    have t3 : decide ((key : Int) > 15) = false := decide_eq_false (by omega)
    repeat (first
    | (((with_reducible refine Sy.is_guard ?_); (refine Sy.st_guard T (h := ?_))))
    | (((with_reducible refine Sy.is_load ?_); (first
    | refine Sy.st_loadOne T F (h := ?_)
    | (refine Sy.st_loadCut T F (h := ?_); conv => whnf)); clear T; intro ac T))
    | (((with_reducible refine Sy.is_box ?_); (refine Sy.st_boxAgg T F (h := ?_)); clear T F; intro ac g w T F))
    | (((with_reducible refine Sy.is_op ?_); refine Sy.st_pure T (h := ?_); clear T; intro ac T))
    | (with_reducible refine wpList_nil ?_)
    | (with_reducible refine wp_region_lit ?_)
    | ((with_reducible refine wp_seq_k ?_); intro _ _)
    | (go_at_K; go_step)
    | (simp only [Exit.then, Exit.inBlock, ↓reduceIte, Nat.reduceEqDiff]))
    have G := noneR_any w b
    by_cases hb0 : b = zeroBal
    · rw [decide_eq_true hb0] at G
      refine Sy.st_callV0 T F (hc := G) (h := ?_); (clear T F; intro ac w T F)
      clear G
      repeat (first
    | (((with_reducible refine Sy.is_op ?_); refine Sy.st_pure T (h := ?_); clear T; intro ac T))
    | ((with_reducible refine Sy.is_cond ?_); (refine Sy.st_true T (h := ?_)))
    | (with_reducible refine wpList_nil ?_)
    | (with_reducible refine wp_region_lit ?_)
    | (with_reducible refine wp_ret ?_)
    | ((with_reducible refine wp_seq_k ?_); intro _ _)
    | (go_at_K; go_step)
    | (simp only [Exit.then, Exit.inBlock, ↓reduceIte, Nat.reduceEqDiff]))
      ((try simp only [Exit.inBlock, Exit.then]); refine Sy.st_ret1 T F rfl (by repeat (first | exact Sy.ResV.nil | apply Sy.ResV.tmp rfl | apply Sy.ResV.row rfl rfl rfl (by repeat (first | exact Sy.Take.here | apply Sy.Take.there)) (by rfl) | apply Sy.ResV.one rfl rfl rfl (by repeat (first | exact Sy.Take.here | apply Sy.Take.there)) (by rfl))) ?_)
      exact retIff F hbb (by constructor; · intro k; cases k
                             · intro k; unfold MayR at k; simp [hb0] at k)
    rw [decide_eq_false hb0] at G
    refine Sy.st_callV0 T F (hc := G) (h := ?_); (clear T F; intro ac w T F)
    clear G
    cases ok
    case true =>
      by_cases q1 : kind = 1
      · subst q1
        have f1 : ((((1 : Nat)) : Int) == 1) = true := rfl
        have f2 : ((((1 : Nat)) : Int) == 2) = false := rfl
        have f3 : ((((1 : Nat)) : Int) == 3) = false := rfl
        have f4 : ((((1 : Nat)) : Int) == 4) = false := rfl
        repeat (first
    | (((with_reducible refine Sy.is_guard ?_); ((refine Sy.st_unguard T (h := ?_); clear T; intro ac T))))
    | (((with_reducible refine Sy.is_load ?_); (refine Sy.st_loadOne T F (h := ?_)); clear T; intro ac T))
    | (((with_reducible refine Sy.is_op ?_); refine Sy.st_pure T (h := ?_); clear T; intro ac T))
    | ((with_reducible refine Sy.is_cond ?_); (first
    | refine Sy.st_true T (h := ?_)
    | refine Sy.st_false T (h := ?_)))
    | (with_reducible refine wpList_nil ?_)
    | (with_reducible refine wp_region_lit ?_)
    | (with_reducible refine wp_skip ?_)
    | (with_reducible refine wp_ret ?_)
    | ((with_reducible refine wp_seq_k ?_); intro _ _)
    | (go_at_K; go_step)
    | (simp only [Exit.then, Exit.inBlock, ↓reduceIte, Nat.reduceEqDiff]))
        ((try simp only [Exit.inBlock, Exit.then]); refine Sy.st_ret1 T F rfl (by repeat (first | exact Sy.ResV.nil | apply Sy.ResV.tmp rfl | apply Sy.ResV.row rfl rfl rfl (by repeat (first | exact Sy.Take.here | apply Sy.Take.there)) (by rfl) | apply Sy.ResV.one rfl rfl rfl (by repeat (first | exact Sy.Take.here | apply Sy.Take.there)) (by rfl))) ?_)
        exact retIff F hbb (by constructor; · intro k; cases k
                               · intro k; unfold MayR at k; simp [z1] at k)
      by_cases q2 : kind = 2
      · subst q2
        have f1 : ((((2 : Nat)) : Int) == 1) = false := rfl
        have f2 : ((((2 : Nat)) : Int) == 2) = true := rfl
        have f3 : ((((2 : Nat)) : Int) == 3) = false := rfl
        have f4 : ((((2 : Nat)) : Int) == 4) = false := rfl
        by_cases hmx : max = 0
        case neg =>
          have t4 := eqF (a := (max : Int)) (b := 0) (by omega)
          repeat (first
    | (((with_reducible refine Sy.is_guard ?_); (first
    | refine Sy.st_guard T (h := ?_)
    | (refine Sy.st_unguard T (h := ?_); clear T; intro ac T))))
    | (((with_reducible refine Sy.is_load ?_); (refine Sy.st_loadOne T F (h := ?_)); clear T; intro ac T))
    | (((with_reducible refine Sy.is_op ?_); refine Sy.st_pure T (h := ?_); clear T; intro ac T))
    | ((with_reducible refine Sy.is_cond ?_); (first
    | refine Sy.st_true T (h := ?_)
    | refine Sy.st_false T (h := ?_)))
    | (with_reducible refine wpList_nil ?_)
    | (with_reducible refine wp_region_lit ?_)
    | (with_reducible refine wp_skip ?_)
    | (with_reducible refine wp_ret ?_)
    | ((with_reducible refine wp_seq_k ?_); intro _ _)
    | (go_at_K; go_step)
    | (simp only [Exit.then, Exit.inBlock, ↓reduceIte, Nat.reduceEqDiff]))
          ((try simp only [Exit.inBlock, Exit.then]); refine Sy.st_ret1 T F rfl (by repeat (first | exact Sy.ResV.nil | apply Sy.ResV.tmp rfl | apply Sy.ResV.row rfl rfl rfl (by repeat (first | exact Sy.Take.here | apply Sy.Take.there)) (by rfl) | apply Sy.ResV.one rfl rfl rfl (by repeat (first | exact Sy.Take.here | apply Sy.Take.there)) (by rfl))) ?_)
          exact retIff F hbb (by constructor; · intro k; cases k
                                 · intro k; unfold MayR at k; simp [hmx] at k)
        have t4 := eqT (a := (max : Int)) (b := 0) (by omega)
        repeat (first
    | (((with_reducible refine Sy.is_guard ?_); (refine Sy.st_guard T (h := ?_))))
    | (((with_reducible refine Sy.is_load ?_); (first
    | refine Sy.st_loadOne T F (h := ?_)
    | (refine Sy.st_loadCut T F (h := ?_); conv => whnf)); clear T; intro ac T))
    | (((with_reducible refine Sy.is_op ?_); refine Sy.st_pure T (h := ?_); clear T; intro ac T))
    | ((with_reducible refine Sy.is_cond ?_); (first
    | refine Sy.st_true T (h := ?_)
    | refine Sy.st_false T (h := ?_)))
    | (with_reducible refine wpList_nil ?_)
    | (with_reducible refine wp_region_lit ?_)
    | (with_reducible refine wp_skip ?_)
    | ((with_reducible refine wp_seq_k ?_); intro _ _)
    | (go_at_K; go_step)
    | (simp only [Exit.then, Exit.inBlock, ↓reduceIte, Nat.reduceEqDiff]))
        have G := noneR_any w next
        by_cases hnx : next = zeroBal
        case neg =>
          rw [decide_eq_false hnx] at G
          refine Sy.st_callV0 T F (hc := G) (h := ?_); (clear T F; intro ac w T F)
          clear G
          repeat (first
    | (((with_reducible refine Sy.is_guard ?_); ((refine Sy.st_unguard T (h := ?_); clear T; intro ac T))))
    | (((with_reducible refine Sy.is_op ?_); refine Sy.st_pure T (h := ?_); clear T; intro ac T))
    | (with_reducible refine wpList_nil ?_)
    | (with_reducible refine wp_ret ?_)
    | (go_at_K; go_step)
    | (simp only [Exit.then, Exit.inBlock, ↓reduceIte, Nat.reduceEqDiff]))
          ((try simp only [Exit.inBlock, Exit.then]); refine Sy.st_ret1 T F rfl (by repeat (first | exact Sy.ResV.nil | apply Sy.ResV.tmp rfl | apply Sy.ResV.row rfl rfl rfl (by repeat (first | exact Sy.Take.here | apply Sy.Take.there)) (by rfl) | apply Sy.ResV.one rfl rfl rfl (by repeat (first | exact Sy.Take.here | apply Sy.Take.there)) (by rfl))) ?_)
          exact retIff F hbb (by constructor; · intro k; cases k
                                 · intro k; unfold MayR at k; simp [hnx] at k)
        rw [decide_eq_true hnx] at G
        refine Sy.st_callV0 T F (hc := G) (h := ?_); (clear T F; intro ac w T F)
        clear G
        repeat (first
    | (((with_reducible refine Sy.is_guard ?_); (refine Sy.st_guard T (h := ?_))))
    | (((with_reducible refine Sy.is_load ?_); ((refine Sy.st_loadCut T F (h := ?_); conv => whnf)); clear T; intro ac T))
    | (((with_reducible refine Sy.is_op ?_); refine Sy.st_pure T (h := ?_); clear T; intro ac T)))
        by_cases hk0 : reg.kind = 0
        · have t5 := eqT (a := (reg.kind : Int)) (b := 0) (by omega)
          by_cases h6 : May06 reg
          case neg =>
            have G := Rg.may06_any w reg _ (hr.sub F.sub) hs false ⟨fun k => (by cases k), fun k => absurd k h6⟩; refine Sy.st_callV0 T F (hc := G) (h := ?_); (clear T F G; intro ac w T F)
            repeat (first
    | (((with_reducible refine Sy.is_guard ?_); ((refine Sy.st_unguard T (h := ?_); clear T; intro ac T))))
    | (((with_reducible refine Sy.is_op ?_); refine Sy.st_pure T (h := ?_); clear T; intro ac T))
    | (with_reducible refine wpList_nil ?_)
    | (with_reducible refine wp_ret ?_)
    | (go_at_K; go_step)
    | (simp only [Exit.then, Exit.inBlock, ↓reduceIte, Nat.reduceEqDiff]))
            ((try simp only [Exit.inBlock, Exit.then]); refine Sy.st_ret1 T F rfl (by repeat (first | exact Sy.ResV.nil | apply Sy.ResV.tmp rfl | apply Sy.ResV.row rfl rfl rfl (by repeat (first | exact Sy.Take.here | apply Sy.Take.there)) (by rfl) | apply Sy.ResV.one rfl rfl rfl (by repeat (first | exact Sy.Take.here | apply Sy.Take.there)) (by rfl))) ?_)
            exact retIff F hbb (by constructor; · intro k; cases k
                                   · intro k; unfold MayR at k; simp [h6] at k)
          have G := Rg.may06_any w reg _ (hr.sub F.sub) hs true ⟨fun _ => h6, fun _ => rfl⟩; refine Sy.st_callV0 T F (hc := G) (h := ?_); (clear T F G; intro ac w T F)
          repeat (first
    | (((with_reducible refine Sy.is_guard ?_); (first
    | refine Sy.st_guard T (h := ?_)
    | (refine Sy.st_unguard T (h := ?_); clear T; intro ac T))))
    | (((with_reducible refine Sy.is_load ?_); (refine Sy.st_loadOne T F (h := ?_)); clear T; intro ac T))
    | (((with_reducible refine Sy.is_op ?_); refine Sy.st_pure T (h := ?_); clear T; intro ac T))
    | (with_reducible refine wpList_nil ?_)
    | (with_reducible refine wp_ret ?_)
    | (go_at_K; go_step)
    | (simp only [Exit.then, Exit.inBlock, ↓reduceIte, Nat.reduceEqDiff]))
          ((try simp only [Exit.inBlock, Exit.then]); refine Sy.st_ret1 T F rfl (by repeat (first | exact Sy.ResV.nil | apply Sy.ResV.tmp rfl | apply Sy.ResV.row rfl rfl rfl (by repeat (first | exact Sy.Take.here | apply Sy.Take.there)) (by rfl) | apply Sy.ResV.one rfl rfl rfl (by repeat (first | exact Sy.Take.here | apply Sy.Take.there)) (by rfl))) ?_)
          exact retIff F hbb (by unfold MayR; simp [z1, z2, z3, hb0, hmx, hnx, h6, hk0])
        have t5 := eqF (a := (reg.kind : Int)) (b := 0) (by omega)
        by_cases h6 : May06 reg
        case neg =>
          have G := Rg.may06_any w reg _ (hr.sub F.sub) hs false ⟨fun k => (by cases k), fun k => absurd k h6⟩; refine Sy.st_callV0 T F (hc := G) (h := ?_); (clear T F G; intro ac w T F)
          repeat (first
    | (((with_reducible refine Sy.is_guard ?_); ((refine Sy.st_unguard T (h := ?_); clear T; intro ac T))))
    | (((with_reducible refine Sy.is_op ?_); refine Sy.st_pure T (h := ?_); clear T; intro ac T))
    | (with_reducible refine wpList_nil ?_)
    | (with_reducible refine wp_ret ?_)
    | (go_at_K; go_step)
    | (simp only [Exit.then, Exit.inBlock, ↓reduceIte, Nat.reduceEqDiff]))
          ((try simp only [Exit.inBlock, Exit.then]); refine Sy.st_ret1 T F rfl (by repeat (first | exact Sy.ResV.nil | apply Sy.ResV.tmp rfl | apply Sy.ResV.row rfl rfl rfl (by repeat (first | exact Sy.Take.here | apply Sy.Take.there)) (by rfl) | apply Sy.ResV.one rfl rfl rfl (by repeat (first | exact Sy.Take.here | apply Sy.Take.there)) (by rfl))) ?_)
          exact retIff F hbb (by constructor; · intro k; cases k
                                 · intro k; unfold MayR at k; simp [h6] at k)
        have G := Rg.may06_any w reg _ (hr.sub F.sub) hs true ⟨fun _ => h6, fun _ => rfl⟩; refine Sy.st_callV0 T F (hc := G) (h := ?_); (clear T F G; intro ac w T F)
        repeat (first
    | (((with_reducible refine Sy.is_guard ?_); (refine Sy.st_guard T (h := ?_))))
    | (((with_reducible refine Sy.is_load ?_); (first
    | refine Sy.st_loadOne T F (h := ?_)
    | (refine Sy.st_loadCut T F (h := ?_); conv => whnf)); clear T; intro ac T))
    | (((with_reducible refine Sy.is_op ?_); refine Sy.st_pure T (h := ?_); clear T; intro ac T)))
        have G := noneR_any w acc; refine Sy.st_callV0 T F (hc := G) (h := ?_); (clear T F G; intro ac w T F)
        repeat (first
    | (((with_reducible refine Sy.is_guard ?_); (refine Sy.st_guard T (h := ?_))))
    | (((with_reducible refine Sy.is_op ?_); refine Sy.st_pure T (h := ?_); clear T; intro ac T))
    | (with_reducible refine wpList_nil ?_)
    | (with_reducible refine wp_ret ?_)
    | (go_at_K; go_step)
    | (simp only [Exit.then, Exit.inBlock, ↓reduceIte, Nat.reduceEqDiff]))
        ((try simp only [Exit.inBlock, Exit.then]); refine Sy.st_ret1 T F rfl (by repeat (first | exact Sy.ResV.nil | apply Sy.ResV.tmp rfl | apply Sy.ResV.row rfl rfl rfl (by repeat (first | exact Sy.Take.here | apply Sy.Take.there)) (by rfl) | apply Sy.ResV.one rfl rfl rfl (by repeat (first | exact Sy.Take.here | apply Sy.Take.there)) (by rfl))) ?_)
        exact retIff F hbb (by unfold MayR; simp [z1, z2, z3, hb0, hmx, hnx, h6, hk0])
      by_cases q3 : kind = 3
      · subst q3
        have f1 : ((((3 : Nat)) : Int) == 1) = false := rfl
        have f2 : ((((3 : Nat)) : Int) == 2) = false := rfl
        have f3 : ((((3 : Nat)) : Int) == 3) = true := rfl
        have f4 : ((((3 : Nat)) : Int) == 4) = false := rfl
        repeat (first
    | (((with_reducible refine Sy.is_guard ?_); ((refine Sy.st_unguard T (h := ?_); clear T; intro ac T))))
    | (((with_reducible refine Sy.is_load ?_); (first
    | refine Sy.st_loadOne T F (h := ?_)
    | (refine Sy.st_loadCut T F (h := ?_); conv => whnf)); clear T; intro ac T))
    | (((with_reducible refine Sy.is_op ?_); refine Sy.st_pure T (h := ?_); clear T; intro ac T))
    | ((with_reducible refine Sy.is_cond ?_); (first
    | refine Sy.st_true T (h := ?_)
    | refine Sy.st_false T (h := ?_)))
    | (with_reducible refine wpList_nil ?_)
    | (with_reducible refine wp_region_lit ?_)
    | (with_reducible refine wp_skip ?_)
    | ((with_reducible refine wp_seq_k ?_); intro _ _)
    | (go_at_K; go_step)
    | (simp only [Exit.then, Exit.inBlock, ↓reduceIte, Nat.reduceEqDiff]))
        have G := noneR_any w next
        by_cases hnx : next = zeroBal
        · have hnp : NextP b next := .inl hnx
          rw [decide_eq_true hnx] at G
          refine Sy.st_callV0 T F (hc := G) (h := ?_); (clear T F; intro ac w T F)
          clear G
          repeat (first
    | (((with_reducible refine Sy.is_guard ?_); ((refine Sy.st_unguard T (h := ?_); clear T; intro ac T))))
    | (((with_reducible refine Sy.is_load ?_); (refine Sy.st_loadOne T F (h := ?_)); clear T; intro ac T))
    | (((with_reducible refine Sy.is_op ?_); refine Sy.st_pure T (h := ?_); clear T; intro ac T))
    | (with_reducible refine wpList_nil ?_)
    | (with_reducible refine wp_region_lit ?_)
    | (with_reducible refine wp_ret ?_)
    | ((with_reducible refine wp_seq_k ?_); intro _ _)
    | (go_at_K; go_step)
    | (simp only [Exit.then, Exit.inBlock, ↓reduceIte, Nat.reduceEqDiff]))
          ((try simp only [Exit.inBlock, Exit.then]); refine Sy.st_ret1 T F rfl (by repeat (first | exact Sy.ResV.nil | apply Sy.ResV.tmp rfl | apply Sy.ResV.row rfl rfl rfl (by repeat (first | exact Sy.Take.here | apply Sy.Take.there)) (by rfl) | apply Sy.ResV.one rfl rfl rfl (by repeat (first | exact Sy.Take.here | apply Sy.Take.there)) (by rfl))) ?_)
          exact retIff F hbb (by constructor; · intro k; cases k
                                 · intro k; unfold MayR at k; simp [z1] at k)
        rw [decide_eq_false hnx] at G
        refine Sy.st_callV0 T F (hc := G) (h := ?_); (clear T F; intro ac w T F)
        clear G
        by_cases e1 : next.n = b.n
        case neg =>
          have g1 := eqF (a := (next.n : Int)) (b := (b.n : Int)) (by omega)
          have hnp : ¬ NextP b next := fun k => by rcases k with k | k; exact hnx k; exact e1 k.1
          repeat (first
    | (((with_reducible refine Sy.is_guard ?_); (first
    | refine Sy.st_guard T (h := ?_)
    | (refine Sy.st_unguard T (h := ?_); clear T; intro ac T))))
    | (((with_reducible refine Sy.is_load ?_); (refine Sy.st_loadOne T F (h := ?_)); clear T; intro ac T))
    | (((with_reducible refine Sy.is_op ?_); refine Sy.st_pure T (h := ?_); clear T; intro ac T))
    | (with_reducible refine wpList_nil ?_)
    | (with_reducible refine wp_region_lit ?_)
    | (with_reducible refine wp_ret ?_)
    | ((with_reducible refine wp_seq_k ?_); intro _ _)
    | (go_at_K; go_step)
    | (simp only [Exit.then, Exit.inBlock, ↓reduceIte, Nat.reduceEqDiff]))
          ((try simp only [Exit.inBlock, Exit.then]); refine Sy.st_ret1 T F rfl (by repeat (first | exact Sy.ResV.nil | apply Sy.ResV.tmp rfl | apply Sy.ResV.row rfl rfl rfl (by repeat (first | exact Sy.Take.here | apply Sy.Take.there)) (by rfl) | apply Sy.ResV.one rfl rfl rfl (by repeat (first | exact Sy.Take.here | apply Sy.Take.there)) (by rfl))) ?_)
          exact retIff F hbb (by constructor; · intro k; cases k
                                 · intro k; unfold MayR at k; simp [z1] at k)
        have g1 := eqT (a := (next.n : Int)) (b := (b.n : Int)) (by omega)
        by_cases e2 : next.l = b.l
        case neg =>
          have g2 := eqF (a := (next.l : Int)) (b := (b.l : Int)) (by omega)
          have hnp : ¬ NextP b next := fun k => by rcases k with k | k; exact hnx k; exact e2 k.2.1
          repeat (first
    | (((with_reducible refine Sy.is_guard ?_); (first
    | refine Sy.st_guard T (h := ?_)
    | (refine Sy.st_unguard T (h := ?_); clear T; intro ac T))))
    | (((with_reducible refine Sy.is_load ?_); (refine Sy.st_loadOne T F (h := ?_)); clear T; intro ac T))
    | (((with_reducible refine Sy.is_op ?_); refine Sy.st_pure T (h := ?_); clear T; intro ac T))
    | (with_reducible refine wpList_nil ?_)
    | (with_reducible refine wp_region_lit ?_)
    | (with_reducible refine wp_ret ?_)
    | ((with_reducible refine wp_seq_k ?_); intro _ _)
    | (go_at_K; go_step)
    | (simp only [Exit.then, Exit.inBlock, ↓reduceIte, Nat.reduceEqDiff]))
          ((try simp only [Exit.inBlock, Exit.then]); refine Sy.st_ret1 T F rfl (by repeat (first | exact Sy.ResV.nil | apply Sy.ResV.tmp rfl | apply Sy.ResV.row rfl rfl rfl (by repeat (first | exact Sy.Take.here | apply Sy.Take.there)) (by rfl) | apply Sy.ResV.one rfl rfl rfl (by repeat (first | exact Sy.Take.here | apply Sy.Take.there)) (by rfl))) ?_)
          exact retIff F hbb (by constructor; · intro k; cases k
                                 · intro k; unfold MayR at k; simp [z1] at k)
        have g2 := eqT (a := (next.l : Int)) (b := (b.l : Int)) (by omega)
        by_cases e3 : b.c < next.c
        case neg =>
          have g3 : decide ((next.c : Int) > (b.c : Int)) = false := decide_eq_false (by omega)
          have hnp : ¬ NextP b next := fun k => by rcases k with k | k; exact hnx k; exact e3 k.2.2
          repeat (first
    | (((with_reducible refine Sy.is_guard ?_); (first
    | refine Sy.st_guard T (h := ?_)
    | (refine Sy.st_unguard T (h := ?_); clear T; intro ac T))))
    | (((with_reducible refine Sy.is_load ?_); (refine Sy.st_loadOne T F (h := ?_)); clear T; intro ac T))
    | (((with_reducible refine Sy.is_op ?_); refine Sy.st_pure T (h := ?_); clear T; intro ac T))
    | (with_reducible refine wpList_nil ?_)
    | (with_reducible refine wp_region_lit ?_)
    | (with_reducible refine wp_ret ?_)
    | ((with_reducible refine wp_seq_k ?_); intro _ _)
    | (go_at_K; go_step)
    | (simp only [Exit.then, Exit.inBlock, ↓reduceIte, Nat.reduceEqDiff]))
          ((try simp only [Exit.inBlock, Exit.then]); refine Sy.st_ret1 T F rfl (by repeat (first | exact Sy.ResV.nil | apply Sy.ResV.tmp rfl | apply Sy.ResV.row rfl rfl rfl (by repeat (first | exact Sy.Take.here | apply Sy.Take.there)) (by rfl) | apply Sy.ResV.one rfl rfl rfl (by repeat (first | exact Sy.Take.here | apply Sy.Take.there)) (by rfl))) ?_)
          exact retIff F hbb (by constructor; · intro k; cases k
                                 · intro k; unfold MayR at k; simp [z1] at k)
        have g3 : decide ((next.c : Int) > (b.c : Int)) = true := decide_eq_true (by omega)
        have hnp : NextP b next := .inr ⟨e1, e2, e3⟩
        repeat (first
    | (((with_reducible refine Sy.is_guard ?_); (first
    | refine Sy.st_guard T (h := ?_)
    | (refine Sy.st_unguard T (h := ?_); clear T; intro ac T))))
    | (((with_reducible refine Sy.is_load ?_); (refine Sy.st_loadOne T F (h := ?_)); clear T; intro ac T))
    | (((with_reducible refine Sy.is_op ?_); refine Sy.st_pure T (h := ?_); clear T; intro ac T))
    | (with_reducible refine wpList_nil ?_)
    | (with_reducible refine wp_region_lit ?_)
    | (with_reducible refine wp_ret ?_)
    | ((with_reducible refine wp_seq_k ?_); intro _ _)
    | (go_at_K; go_step)
    | (simp only [Exit.then, Exit.inBlock, ↓reduceIte, Nat.reduceEqDiff]))
        ((try simp only [Exit.inBlock, Exit.then]); refine Sy.st_ret1 T F rfl (by repeat (first | exact Sy.ResV.nil | apply Sy.ResV.tmp rfl | apply Sy.ResV.row rfl rfl rfl (by repeat (first | exact Sy.Take.here | apply Sy.Take.there)) (by rfl) | apply Sy.ResV.one rfl rfl rfl (by repeat (first | exact Sy.Take.here | apply Sy.Take.there)) (by rfl))) ?_)
        exact retIff F hbb (by constructor; · intro k; cases k
                               · intro k; unfold MayR at k; simp [z1] at k)
      by_cases q4 : kind = 4
      · subst q4
        have f1 : ((((4 : Nat)) : Int) == 1) = false := rfl
        have f2 : ((((4 : Nat)) : Int) == 2) = false := rfl
        have f3 : ((((4 : Nat)) : Int) == 3) = false := rfl
        have f4 : ((((4 : Nat)) : Int) == 4) = true := rfl
        repeat (first
    | (((with_reducible refine Sy.is_guard ?_); (first
    | refine Sy.st_guard T (h := ?_)
    | (refine Sy.st_unguard T (h := ?_); clear T; intro ac T))))
    | (((with_reducible refine Sy.is_load ?_); (first
    | refine Sy.st_loadOne T F (h := ?_)
    | (refine Sy.st_loadCut T F (h := ?_); conv => whnf)); clear T; intro ac T))
    | (((with_reducible refine Sy.is_op ?_); refine Sy.st_pure T (h := ?_); clear T; intro ac T))
    | ((with_reducible refine Sy.is_cond ?_); (refine Sy.st_false T (h := ?_)))
    | (with_reducible refine wpList_nil ?_)
    | (with_reducible refine wp_region_lit ?_)
    | (with_reducible refine wp_skip ?_)
    | ((with_reducible refine wp_seq_k ?_); intro _ _)
    | (go_at_K; go_step)
    | (simp only [Exit.then, Exit.inBlock, ↓reduceIte, Nat.reduceEqDiff]))
        have G := noneR_any w acc
        by_cases hac : acc = zeroBal
        case neg =>
          rw [decide_eq_false hac] at G
          refine Sy.st_callV0 T F (hc := G) (h := ?_); (clear T F; intro ac w T F)
          clear G
          repeat (first
    | (((with_reducible refine Sy.is_guard ?_); ((refine Sy.st_unguard T (h := ?_); clear T; intro ac T))))
    | (((with_reducible refine Sy.is_op ?_); refine Sy.st_pure T (h := ?_); clear T; intro ac T))
    | (with_reducible refine wpList_nil ?_)
    | (with_reducible refine wp_ret ?_)
    | (go_at_K; go_step)
    | (simp only [Exit.then, Exit.inBlock, ↓reduceIte, Nat.reduceEqDiff]))
          ((try simp only [Exit.inBlock, Exit.then]); refine Sy.st_ret1 T F rfl (by repeat (first | exact Sy.ResV.nil | apply Sy.ResV.tmp rfl | apply Sy.ResV.row rfl rfl rfl (by repeat (first | exact Sy.Take.here | apply Sy.Take.there)) (by rfl) | apply Sy.ResV.one rfl rfl rfl (by repeat (first | exact Sy.Take.here | apply Sy.Take.there)) (by rfl))) ?_)
          exact retIff F hbb (by constructor; · intro k; cases k
                                 · intro k; unfold MayR at k; simp [hac] at k)
        rw [decide_eq_true hac] at G
        refine Sy.st_callV0 T F (hc := G) (h := ?_); (clear T F; intro ac w T F)
        clear G
        repeat (first
    | (((with_reducible refine Sy.is_guard ?_); (refine Sy.st_guard T (h := ?_))))
    | (((with_reducible refine Sy.is_load ?_); ((refine Sy.st_loadCut T F (h := ?_); conv => whnf)); clear T; intro ac T))
    | (((with_reducible refine Sy.is_op ?_); refine Sy.st_pure T (h := ?_); clear T; intro ac T)))
        have G := noneR_any w next
        by_cases hnx : next = zeroBal
        case neg =>
          rw [decide_eq_false hnx] at G
          refine Sy.st_callV0 T F (hc := G) (h := ?_); (clear T F; intro ac w T F)
          clear G
          repeat (first
    | (((with_reducible refine Sy.is_guard ?_); ((refine Sy.st_unguard T (h := ?_); clear T; intro ac T))))
    | (((with_reducible refine Sy.is_op ?_); refine Sy.st_pure T (h := ?_); clear T; intro ac T))
    | (with_reducible refine wpList_nil ?_)
    | (with_reducible refine wp_ret ?_)
    | (go_at_K; go_step)
    | (simp only [Exit.then, Exit.inBlock, ↓reduceIte, Nat.reduceEqDiff]))
          ((try simp only [Exit.inBlock, Exit.then]); refine Sy.st_ret1 T F rfl (by repeat (first | exact Sy.ResV.nil | apply Sy.ResV.tmp rfl | apply Sy.ResV.row rfl rfl rfl (by repeat (first | exact Sy.Take.here | apply Sy.Take.there)) (by rfl) | apply Sy.ResV.one rfl rfl rfl (by repeat (first | exact Sy.Take.here | apply Sy.Take.there)) (by rfl))) ?_)
          exact retIff F hbb (by constructor; · intro k; cases k
                                 · intro k; unfold MayR at k; simp [hnx] at k)
        rw [decide_eq_true hnx] at G
        refine Sy.st_callV0 T F (hc := G) (h := ?_); (clear T F; intro ac w T F)
        clear G
        repeat (first
    | (((with_reducible refine Sy.is_guard ?_); (refine Sy.st_guard T (h := ?_))))
    | (((with_reducible refine Sy.is_load ?_); ((refine Sy.st_loadCut T F (h := ?_); conv => whnf)); clear T; intro ac T))
    | (((with_reducible refine Sy.is_op ?_); refine Sy.st_pure T (h := ?_); clear T; intro ac T)))
        by_cases hz : reg = zeroReg
        case neg =>
          have G := zeroR_any w reg _ (hr.sub F.sub) hs
          rw [decide_eq_false hz] at G
          refine Sy.st_callV0 T F (hc := G) (h := ?_); (clear T F; intro ac w T F)
          clear G
          repeat (first
    | (((with_reducible refine Sy.is_guard ?_); ((refine Sy.st_unguard T (h := ?_); clear T; intro ac T))))
    | (((with_reducible refine Sy.is_op ?_); refine Sy.st_pure T (h := ?_); clear T; intro ac T))
    | (with_reducible refine wpList_nil ?_)
    | (with_reducible refine wp_ret ?_)
    | (go_at_K; go_step)
    | (simp only [Exit.then, Exit.inBlock, ↓reduceIte, Nat.reduceEqDiff]))
          ((try simp only [Exit.inBlock, Exit.then]); refine Sy.st_ret1 T F rfl (by repeat (first | exact Sy.ResV.nil | apply Sy.ResV.tmp rfl | apply Sy.ResV.row rfl rfl rfl (by repeat (first | exact Sy.Take.here | apply Sy.Take.there)) (by rfl) | apply Sy.ResV.one rfl rfl rfl (by repeat (first | exact Sy.Take.here | apply Sy.Take.there)) (by rfl))) ?_)
          exact retIff F hbb (by constructor; · intro k; cases k
                                 · intro k; unfold MayR at k; simp [hz] at k)
        have G := zeroR_any w reg _ (hr.sub F.sub) hs
        rw [decide_eq_true hz] at G
        refine Sy.st_callV0 T F (hc := G) (h := ?_); (clear T F; intro ac w T F)
        clear G
        by_cases hmx : max = 0
        case neg =>
          have t4 := eqF (a := (max : Int)) (b := 0) (by omega)
          repeat (first
    | (((with_reducible refine Sy.is_guard ?_); (refine Sy.st_guard T (h := ?_))))
    | (((with_reducible refine Sy.is_load ?_); (refine Sy.st_loadOne T F (h := ?_)); clear T; intro ac T))
    | (((with_reducible refine Sy.is_op ?_); refine Sy.st_pure T (h := ?_); clear T; intro ac T))
    | (with_reducible refine wpList_nil ?_)
    | (with_reducible refine wp_ret ?_)
    | (go_at_K; go_step)
    | (simp only [Exit.then, Exit.inBlock, ↓reduceIte, Nat.reduceEqDiff]))
          ((try simp only [Exit.inBlock, Exit.then]); refine Sy.st_ret1 T F rfl (by repeat (first | exact Sy.ResV.nil | apply Sy.ResV.tmp rfl | apply Sy.ResV.row rfl rfl rfl (by repeat (first | exact Sy.Take.here | apply Sy.Take.there)) (by rfl) | apply Sy.ResV.one rfl rfl rfl (by repeat (first | exact Sy.Take.here | apply Sy.Take.there)) (by rfl))) ?_)
          exact retIff F hbb (by constructor; · intro k; cases k
                                 · intro k; unfold MayR at k; simp [hmx] at k)
        have t4 := eqT (a := (max : Int)) (b := 0) (by omega)
        repeat (first
    | (((with_reducible refine Sy.is_guard ?_); (refine Sy.st_guard T (h := ?_))))
    | (((with_reducible refine Sy.is_load ?_); (refine Sy.st_loadOne T F (h := ?_)); clear T; intro ac T))
    | (((with_reducible refine Sy.is_op ?_); refine Sy.st_pure T (h := ?_); clear T; intro ac T))
    | (with_reducible refine wpList_nil ?_)
    | (with_reducible refine wp_ret ?_)
    | (go_at_K; go_step)
    | (simp only [Exit.then, Exit.inBlock, ↓reduceIte, Nat.reduceEqDiff]))
        ((try simp only [Exit.inBlock, Exit.then]); refine Sy.st_ret1 T F rfl (by repeat (first | exact Sy.ResV.nil | apply Sy.ResV.tmp rfl | apply Sy.ResV.row rfl rfl rfl (by repeat (first | exact Sy.Take.here | apply Sy.Take.there)) (by rfl) | apply Sy.ResV.one rfl rfl rfl (by repeat (first | exact Sy.Take.here | apply Sy.Take.there)) (by rfl))) ?_)
        exact retIff F hbb (by unfold MayR; simp [z1, z2, z3, hb0, hac, hnx, hz, hmx])
      have f1 := eqF (a := (kind : Int)) (b := 1) (by omega)
      have f2 := eqF (a := (kind : Int)) (b := 2) (by omega)
      have f3 := eqF (a := (kind : Int)) (b := 3) (by omega)
      have f4 := eqF (a := (kind : Int)) (b := 4) (by omega)
      repeat (first
    | (((with_reducible refine Sy.is_guard ?_); ((refine Sy.st_unguard T (h := ?_); clear T; intro ac T))))
    | (((with_reducible refine Sy.is_load ?_); (refine Sy.st_loadOne T F (h := ?_)); clear T; intro ac T))
    | (((with_reducible refine Sy.is_op ?_); refine Sy.st_pure T (h := ?_); clear T; intro ac T))
    | ((with_reducible refine Sy.is_cond ?_); (refine Sy.st_false T (h := ?_)))
    | (with_reducible refine wpList_nil ?_)
    | (with_reducible refine wp_region_lit ?_)
    | (with_reducible refine wp_skip ?_)
    | (with_reducible refine wp_ret ?_)
    | ((with_reducible refine wp_seq_k ?_); intro _ _)
    | (go_at_K; go_step)
    | (simp only [Exit.then, Exit.inBlock, ↓reduceIte, Nat.reduceEqDiff]))
      ((try simp only [Exit.inBlock, Exit.then]); refine Sy.st_ret1 T F rfl (by repeat (first | exact Sy.ResV.nil | apply Sy.ResV.tmp rfl | apply Sy.ResV.row rfl rfl rfl (by repeat (first | exact Sy.Take.here | apply Sy.Take.there)) (by rfl) | apply Sy.ResV.one rfl rfl rfl (by repeat (first | exact Sy.Take.here | apply Sy.Take.there)) (by rfl))) ?_)
      exact retIff F hbb (by constructor; · intro k; cases k
                             · intro k; unfold MayR at k; simp [q1, q2, q3, q4] at k)
    case false =>
      by_cases q1 : kind = 1
      · subst q1
        have f1 : ((((1 : Nat)) : Int) == 1) = true := rfl
        have f2 : ((((1 : Nat)) : Int) == 2) = false := rfl
        have f3 : ((((1 : Nat)) : Int) == 3) = false := rfl
        have f4 : ((((1 : Nat)) : Int) == 4) = false := rfl
        repeat (first
    | (((with_reducible refine Sy.is_guard ?_); (refine Sy.st_guard T (h := ?_))))
    | (((with_reducible refine Sy.is_load ?_); (first
    | refine Sy.st_loadOne T F (h := ?_)
    | (refine Sy.st_loadCut T F (h := ?_); conv => whnf)); clear T; intro ac T))
    | (((with_reducible refine Sy.is_op ?_); refine Sy.st_pure T (h := ?_); clear T; intro ac T))
    | ((with_reducible refine Sy.is_cond ?_); (first
    | refine Sy.st_true T (h := ?_)
    | refine Sy.st_false T (h := ?_)))
    | (with_reducible refine wpList_nil ?_)
    | (with_reducible refine wp_region_lit ?_)
    | (with_reducible refine wp_skip ?_)
    | ((with_reducible refine wp_seq_k ?_); intro _ _)
    | (go_at_K; go_step)
    | (simp only [Exit.then, Exit.inBlock, ↓reduceIte, Nat.reduceEqDiff]))
        have G := noneR_any w acc
        by_cases hac : acc = zeroBal
        case neg =>
          rw [decide_eq_false hac] at G
          refine Sy.st_callV0 T F (hc := G) (h := ?_); (clear T F; intro ac w T F)
          clear G
          repeat (first
    | (((with_reducible refine Sy.is_guard ?_); ((refine Sy.st_unguard T (h := ?_); clear T; intro ac T))))
    | (((with_reducible refine Sy.is_op ?_); refine Sy.st_pure T (h := ?_); clear T; intro ac T))
    | (with_reducible refine wpList_nil ?_)
    | (with_reducible refine wp_ret ?_)
    | (go_at_K; go_step)
    | (simp only [Exit.then, Exit.inBlock, ↓reduceIte, Nat.reduceEqDiff]))
          ((try simp only [Exit.inBlock, Exit.then]); refine Sy.st_ret1 T F rfl (by repeat (first | exact Sy.ResV.nil | apply Sy.ResV.tmp rfl | apply Sy.ResV.row rfl rfl rfl (by repeat (first | exact Sy.Take.here | apply Sy.Take.there)) (by rfl) | apply Sy.ResV.one rfl rfl rfl (by repeat (first | exact Sy.Take.here | apply Sy.Take.there)) (by rfl))) ?_)
          exact retIff F hbb (by constructor; · intro k; cases k
                                 · intro k; unfold MayR at k; simp [hac] at k)
        rw [decide_eq_true hac] at G
        refine Sy.st_callV0 T F (hc := G) (h := ?_); (clear T F; intro ac w T F)
        clear G
        repeat (first
    | (((with_reducible refine Sy.is_guard ?_); (refine Sy.st_guard T (h := ?_))))
    | (((with_reducible refine Sy.is_load ?_); ((refine Sy.st_loadCut T F (h := ?_); conv => whnf)); clear T; intro ac T))
    | (((with_reducible refine Sy.is_op ?_); refine Sy.st_pure T (h := ?_); clear T; intro ac T)))
        have G := noneR_any w next
        by_cases hnx : next = zeroBal
        case neg =>
          rw [decide_eq_false hnx] at G
          refine Sy.st_callV0 T F (hc := G) (h := ?_); (clear T F; intro ac w T F)
          clear G
          repeat (first
    | (((with_reducible refine Sy.is_guard ?_); ((refine Sy.st_unguard T (h := ?_); clear T; intro ac T))))
    | (((with_reducible refine Sy.is_op ?_); refine Sy.st_pure T (h := ?_); clear T; intro ac T))
    | (with_reducible refine wpList_nil ?_)
    | (with_reducible refine wp_ret ?_)
    | (go_at_K; go_step)
    | (simp only [Exit.then, Exit.inBlock, ↓reduceIte, Nat.reduceEqDiff]))
          ((try simp only [Exit.inBlock, Exit.then]); refine Sy.st_ret1 T F rfl (by repeat (first | exact Sy.ResV.nil | apply Sy.ResV.tmp rfl | apply Sy.ResV.row rfl rfl rfl (by repeat (first | exact Sy.Take.here | apply Sy.Take.there)) (by rfl) | apply Sy.ResV.one rfl rfl rfl (by repeat (first | exact Sy.Take.here | apply Sy.Take.there)) (by rfl))) ?_)
          exact retIff F hbb (by constructor; · intro k; cases k
                                 · intro k; unfold MayR at k; simp [hnx] at k)
        rw [decide_eq_true hnx] at G
        refine Sy.st_callV0 T F (hc := G) (h := ?_); (clear T F; intro ac w T F)
        clear G
        repeat (first
    | (((with_reducible refine Sy.is_guard ?_); (refine Sy.st_guard T (h := ?_))))
    | (((with_reducible refine Sy.is_load ?_); ((refine Sy.st_loadCut T F (h := ?_); conv => whnf)); clear T; intro ac T))
    | (((with_reducible refine Sy.is_op ?_); refine Sy.st_pure T (h := ?_); clear T; intro ac T)))
        by_cases hz : reg = zeroReg
        case neg =>
          have G := zeroR_any w reg _ (hr.sub F.sub) hs
          rw [decide_eq_false hz] at G
          refine Sy.st_callV0 T F (hc := G) (h := ?_); (clear T F; intro ac w T F)
          clear G
          repeat (first
    | (((with_reducible refine Sy.is_guard ?_); ((refine Sy.st_unguard T (h := ?_); clear T; intro ac T))))
    | (((with_reducible refine Sy.is_op ?_); refine Sy.st_pure T (h := ?_); clear T; intro ac T))
    | (with_reducible refine wpList_nil ?_)
    | (with_reducible refine wp_ret ?_)
    | (go_at_K; go_step)
    | (simp only [Exit.then, Exit.inBlock, ↓reduceIte, Nat.reduceEqDiff]))
          ((try simp only [Exit.inBlock, Exit.then]); refine Sy.st_ret1 T F rfl (by repeat (first | exact Sy.ResV.nil | apply Sy.ResV.tmp rfl | apply Sy.ResV.row rfl rfl rfl (by repeat (first | exact Sy.Take.here | apply Sy.Take.there)) (by rfl) | apply Sy.ResV.one rfl rfl rfl (by repeat (first | exact Sy.Take.here | apply Sy.Take.there)) (by rfl))) ?_)
          exact retIff F hbb (by constructor; · intro k; cases k
                                 · intro k; unfold MayR at k; simp [hz] at k)
        have G := zeroR_any w reg _ (hr.sub F.sub) hs
        rw [decide_eq_true hz] at G
        refine Sy.st_callV0 T F (hc := G) (h := ?_); (clear T F; intro ac w T F)
        clear G
        by_cases hmx : max = 0
        case neg =>
          have t4 := eqF (a := (max : Int)) (b := 0) (by omega)
          repeat (first
    | (((with_reducible refine Sy.is_guard ?_); (refine Sy.st_guard T (h := ?_))))
    | (((with_reducible refine Sy.is_load ?_); (refine Sy.st_loadOne T F (h := ?_)); clear T; intro ac T))
    | (((with_reducible refine Sy.is_op ?_); refine Sy.st_pure T (h := ?_); clear T; intro ac T))
    | (with_reducible refine wpList_nil ?_)
    | (with_reducible refine wp_ret ?_)
    | (go_at_K; go_step)
    | (simp only [Exit.then, Exit.inBlock, ↓reduceIte, Nat.reduceEqDiff]))
          ((try simp only [Exit.inBlock, Exit.then]); refine Sy.st_ret1 T F rfl (by repeat (first | exact Sy.ResV.nil | apply Sy.ResV.tmp rfl | apply Sy.ResV.row rfl rfl rfl (by repeat (first | exact Sy.Take.here | apply Sy.Take.there)) (by rfl) | apply Sy.ResV.one rfl rfl rfl (by repeat (first | exact Sy.Take.here | apply Sy.Take.there)) (by rfl))) ?_)
          exact retIff F hbb (by constructor; · intro k; cases k
                                 · intro k; unfold MayR at k; simp [hmx] at k)
        have t4 := eqT (a := (max : Int)) (b := 0) (by omega)
        repeat (first
    | (((with_reducible refine Sy.is_guard ?_); (refine Sy.st_guard T (h := ?_))))
    | (((with_reducible refine Sy.is_load ?_); (refine Sy.st_loadOne T F (h := ?_)); clear T; intro ac T))
    | (((with_reducible refine Sy.is_op ?_); refine Sy.st_pure T (h := ?_); clear T; intro ac T))
    | (with_reducible refine wpList_nil ?_)
    | (with_reducible refine wp_ret ?_)
    | (go_at_K; go_step)
    | (simp only [Exit.then, Exit.inBlock, ↓reduceIte, Nat.reduceEqDiff]))
        ((try simp only [Exit.inBlock, Exit.then]); refine Sy.st_ret1 T F rfl (by repeat (first | exact Sy.ResV.nil | apply Sy.ResV.tmp rfl | apply Sy.ResV.row rfl rfl rfl (by repeat (first | exact Sy.Take.here | apply Sy.Take.there)) (by rfl) | apply Sy.ResV.one rfl rfl rfl (by repeat (first | exact Sy.Take.here | apply Sy.Take.there)) (by rfl))) ?_)
        exact retIff F hbb (by unfold MayR; simp [z1, z2, z3, hb0, hac, hnx, hz, hmx])
      by_cases q2 : kind = 2
      · subst q2
        have f1 : ((((2 : Nat)) : Int) == 1) = false := rfl
        have f2 : ((((2 : Nat)) : Int) == 2) = true := rfl
        have f3 : ((((2 : Nat)) : Int) == 3) = false := rfl
        have f4 : ((((2 : Nat)) : Int) == 4) = false := rfl
        repeat (first
    | (((with_reducible refine Sy.is_guard ?_); (refine Sy.st_guard T (h := ?_))))
    | (((with_reducible refine Sy.is_load ?_); (first
    | refine Sy.st_loadOne T F (h := ?_)
    | (refine Sy.st_loadCut T F (h := ?_); conv => whnf)); clear T; intro ac T))
    | (((with_reducible refine Sy.is_op ?_); refine Sy.st_pure T (h := ?_); clear T; intro ac T))
    | ((with_reducible refine Sy.is_cond ?_); (first
    | refine Sy.st_true T (h := ?_)
    | refine Sy.st_false T (h := ?_)))
    | (with_reducible refine wpList_nil ?_)
    | (with_reducible refine wp_region_lit ?_)
    | (with_reducible refine wp_skip ?_)
    | ((with_reducible refine wp_seq_k ?_); intro _ _)
    | (go_at_K; go_step)
    | (simp only [Exit.then, Exit.inBlock, ↓reduceIte, Nat.reduceEqDiff]))
        have G := noneR_any w acc
        by_cases hac : acc = zeroBal
        case neg =>
          rw [decide_eq_false hac] at G
          refine Sy.st_callV0 T F (hc := G) (h := ?_); (clear T F; intro ac w T F)
          clear G
          repeat (first
    | (((with_reducible refine Sy.is_guard ?_); ((refine Sy.st_unguard T (h := ?_); clear T; intro ac T))))
    | (((with_reducible refine Sy.is_op ?_); refine Sy.st_pure T (h := ?_); clear T; intro ac T))
    | (with_reducible refine wpList_nil ?_)
    | (with_reducible refine wp_ret ?_)
    | (go_at_K; go_step)
    | (simp only [Exit.then, Exit.inBlock, ↓reduceIte, Nat.reduceEqDiff]))
          ((try simp only [Exit.inBlock, Exit.then]); refine Sy.st_ret1 T F rfl (by repeat (first | exact Sy.ResV.nil | apply Sy.ResV.tmp rfl | apply Sy.ResV.row rfl rfl rfl (by repeat (first | exact Sy.Take.here | apply Sy.Take.there)) (by rfl) | apply Sy.ResV.one rfl rfl rfl (by repeat (first | exact Sy.Take.here | apply Sy.Take.there)) (by rfl))) ?_)
          exact retIff F hbb (by constructor; · intro k; cases k
                                 · intro k; unfold MayR at k; simp [hac] at k)
        rw [decide_eq_true hac] at G
        refine Sy.st_callV0 T F (hc := G) (h := ?_); (clear T F; intro ac w T F)
        clear G
        repeat (first
    | (((with_reducible refine Sy.is_guard ?_); (refine Sy.st_guard T (h := ?_))))
    | (((with_reducible refine Sy.is_load ?_); ((refine Sy.st_loadCut T F (h := ?_); conv => whnf)); clear T; intro ac T))
    | (((with_reducible refine Sy.is_op ?_); refine Sy.st_pure T (h := ?_); clear T; intro ac T)))
        have G := noneR_any w next
        by_cases hnx : next = zeroBal
        case neg =>
          rw [decide_eq_false hnx] at G
          refine Sy.st_callV0 T F (hc := G) (h := ?_); (clear T F; intro ac w T F)
          clear G
          repeat (first
    | (((with_reducible refine Sy.is_guard ?_); ((refine Sy.st_unguard T (h := ?_); clear T; intro ac T))))
    | (((with_reducible refine Sy.is_op ?_); refine Sy.st_pure T (h := ?_); clear T; intro ac T))
    | (with_reducible refine wpList_nil ?_)
    | (with_reducible refine wp_ret ?_)
    | (go_at_K; go_step)
    | (simp only [Exit.then, Exit.inBlock, ↓reduceIte, Nat.reduceEqDiff]))
          ((try simp only [Exit.inBlock, Exit.then]); refine Sy.st_ret1 T F rfl (by repeat (first | exact Sy.ResV.nil | apply Sy.ResV.tmp rfl | apply Sy.ResV.row rfl rfl rfl (by repeat (first | exact Sy.Take.here | apply Sy.Take.there)) (by rfl) | apply Sy.ResV.one rfl rfl rfl (by repeat (first | exact Sy.Take.here | apply Sy.Take.there)) (by rfl))) ?_)
          exact retIff F hbb (by constructor; · intro k; cases k
                                 · intro k; unfold MayR at k; simp [hnx] at k)
        rw [decide_eq_true hnx] at G
        refine Sy.st_callV0 T F (hc := G) (h := ?_); (clear T F; intro ac w T F)
        clear G
        repeat (first
    | (((with_reducible refine Sy.is_guard ?_); (refine Sy.st_guard T (h := ?_))))
    | (((with_reducible refine Sy.is_load ?_); ((refine Sy.st_loadCut T F (h := ?_); conv => whnf)); clear T; intro ac T))
    | (((with_reducible refine Sy.is_op ?_); refine Sy.st_pure T (h := ?_); clear T; intro ac T)))
        have G := zeroR_any w reg _ (hr.sub F.sub) hs; refine Sy.st_callV0 T F (hc := G) (h := ?_); (clear T F G; intro ac w T F)
        repeat (first
    | (((with_reducible refine Sy.is_op ?_); refine Sy.st_pure T (h := ?_); clear T; intro ac T))
    | (with_reducible refine wpList_nil ?_)
    | (with_reducible refine wp_ret ?_)
    | (go_at_K; go_step)
    | (simp only [Exit.then, Exit.inBlock, ↓reduceIte, Nat.reduceEqDiff]))
        ((try simp only [Exit.inBlock, Exit.then]); refine Sy.st_ret1 T F rfl (by repeat (first | exact Sy.ResV.nil | apply Sy.ResV.tmp rfl | apply Sy.ResV.row rfl rfl rfl (by repeat (first | exact Sy.Take.here | apply Sy.Take.there)) (by rfl) | apply Sy.ResV.one rfl rfl rfl (by repeat (first | exact Sy.Take.here | apply Sy.Take.there)) (by rfl))) ?_)
        exact retIff F hbb (by unfold MayR; simp [z1, z2, z3, hb0, hac, hnx])
      by_cases q3 : kind = 3
      · subst q3
        have f1 : ((((3 : Nat)) : Int) == 1) = false := rfl
        have f2 : ((((3 : Nat)) : Int) == 2) = false := rfl
        have f3 : ((((3 : Nat)) : Int) == 3) = true := rfl
        have f4 : ((((3 : Nat)) : Int) == 4) = false := rfl
        repeat (first
    | (((with_reducible refine Sy.is_guard ?_); ((refine Sy.st_unguard T (h := ?_); clear T; intro ac T))))
    | (((with_reducible refine Sy.is_load ?_); (first
    | refine Sy.st_loadOne T F (h := ?_)
    | (refine Sy.st_loadCut T F (h := ?_); conv => whnf)); clear T; intro ac T))
    | (((with_reducible refine Sy.is_op ?_); refine Sy.st_pure T (h := ?_); clear T; intro ac T))
    | ((with_reducible refine Sy.is_cond ?_); (first
    | refine Sy.st_true T (h := ?_)
    | refine Sy.st_false T (h := ?_)))
    | (with_reducible refine wpList_nil ?_)
    | (with_reducible refine wp_region_lit ?_)
    | (with_reducible refine wp_skip ?_)
    | ((with_reducible refine wp_seq_k ?_); intro _ _)
    | (go_at_K; go_step)
    | (simp only [Exit.then, Exit.inBlock, ↓reduceIte, Nat.reduceEqDiff]))
        have G := noneR_any w next
        by_cases hnx : next = zeroBal
        · have hnp : NextP b next := .inl hnx
          rw [decide_eq_true hnx] at G
          refine Sy.st_callV0 T F (hc := G) (h := ?_); (clear T F; intro ac w T F)
          clear G
          repeat (first
    | (((with_reducible refine Sy.is_guard ?_); (first
    | refine Sy.st_guard T (h := ?_)
    | (refine Sy.st_unguard T (h := ?_); clear T; intro ac T))))
    | (((with_reducible refine Sy.is_load ?_); (first
    | refine Sy.st_loadOne T F (h := ?_)
    | (refine Sy.st_loadCut T F (h := ?_); conv => whnf)); clear T; intro ac T))
    | (((with_reducible refine Sy.is_op ?_); refine Sy.st_pure T (h := ?_); clear T; intro ac T))
    | (with_reducible refine wpList_nil ?_)
    | (with_reducible refine wp_region_lit ?_)
    | ((with_reducible refine wp_seq_k ?_); intro _ _)
    | (go_at_K; go_step)
    | (simp only [Exit.then, Exit.inBlock, ↓reduceIte, Nat.reduceEqDiff]))
          by_cases hmx : max = 0
          case neg =>
            have t4 := eqF (a := (max : Int)) (b := 0) (by omega)
            have G := noneR_any w acc
            by_cases hac : acc = zeroBal
            case neg =>
              rw [decide_eq_false hac] at G
              refine Sy.st_callV0 T F (hc := G) (h := ?_); (clear T F; intro ac w T F)
              clear G
              repeat (first
    | (((with_reducible refine Sy.is_guard ?_); ((refine Sy.st_unguard T (h := ?_); clear T; intro ac T))))
    | (((with_reducible refine Sy.is_op ?_); refine Sy.st_pure T (h := ?_); clear T; intro ac T))
    | (with_reducible refine wpList_nil ?_)
    | (with_reducible refine wp_ret ?_)
    | (go_at_K; go_step)
    | (simp only [Exit.then, Exit.inBlock, ↓reduceIte, Nat.reduceEqDiff]))
              ((try simp only [Exit.inBlock, Exit.then]); refine Sy.st_ret1 T F rfl (by repeat (first | exact Sy.ResV.nil | apply Sy.ResV.tmp rfl | apply Sy.ResV.row rfl rfl rfl (by repeat (first | exact Sy.Take.here | apply Sy.Take.there)) (by rfl) | apply Sy.ResV.one rfl rfl rfl (by repeat (first | exact Sy.Take.here | apply Sy.Take.there)) (by rfl))) ?_)
              exact retIff F hbb (by constructor; · intro k; cases k
                                     · intro k; unfold MayR at k; simp [hac] at k)
            rw [decide_eq_true hac] at G
            refine Sy.st_callV0 T F (hc := G) (h := ?_); (clear T F; intro ac w T F)
            clear G
            repeat (first
    | (((with_reducible refine Sy.is_guard ?_); (first
    | refine Sy.st_guard T (h := ?_)
    | (refine Sy.st_unguard T (h := ?_); clear T; intro ac T))))
    | (((with_reducible refine Sy.is_load ?_); (refine Sy.st_loadOne T F (h := ?_)); clear T; intro ac T))
    | (((with_reducible refine Sy.is_op ?_); refine Sy.st_pure T (h := ?_); clear T; intro ac T))
    | (with_reducible refine wpList_nil ?_)
    | (with_reducible refine wp_ret ?_)
    | (go_at_K; go_step)
    | (simp only [Exit.then, Exit.inBlock, ↓reduceIte, Nat.reduceEqDiff]))
            ((try simp only [Exit.inBlock, Exit.then]); refine Sy.st_ret1 T F rfl (by repeat (first | exact Sy.ResV.nil | apply Sy.ResV.tmp rfl | apply Sy.ResV.row rfl rfl rfl (by repeat (first | exact Sy.Take.here | apply Sy.Take.there)) (by rfl) | apply Sy.ResV.one rfl rfl rfl (by repeat (first | exact Sy.Take.here | apply Sy.Take.there)) (by rfl))) ?_)
            exact retIff F hbb (by constructor; · intro k; cases k
                                   · intro k; unfold MayR at k; simp [hmx] at k)
          have t4 := eqT (a := (max : Int)) (b := 0) (by omega)
          have G := noneR_any w acc
          by_cases hac : acc = zeroBal
          case neg =>
            rw [decide_eq_false hac] at G
            refine Sy.st_callV0 T F (hc := G) (h := ?_); (clear T F; intro ac w T F)
            clear G
            repeat (first
    | (((with_reducible refine Sy.is_guard ?_); ((refine Sy.st_unguard T (h := ?_); clear T; intro ac T))))
    | (((with_reducible refine Sy.is_op ?_); refine Sy.st_pure T (h := ?_); clear T; intro ac T))
    | (with_reducible refine wpList_nil ?_)
    | (with_reducible refine wp_ret ?_)
    | (go_at_K; go_step)
    | (simp only [Exit.then, Exit.inBlock, ↓reduceIte, Nat.reduceEqDiff]))
            ((try simp only [Exit.inBlock, Exit.then]); refine Sy.st_ret1 T F rfl (by repeat (first | exact Sy.ResV.nil | apply Sy.ResV.tmp rfl | apply Sy.ResV.row rfl rfl rfl (by repeat (first | exact Sy.Take.here | apply Sy.Take.there)) (by rfl) | apply Sy.ResV.one rfl rfl rfl (by repeat (first | exact Sy.Take.here | apply Sy.Take.there)) (by rfl))) ?_)
            exact retIff F hbb (by constructor; · intro k; cases k
                                   · intro k; unfold MayR at k; simp [hac] at k)
          rw [decide_eq_true hac] at G
          refine Sy.st_callV0 T F (hc := G) (h := ?_); (clear T F; intro ac w T F)
          clear G
          repeat (first
    | (((with_reducible refine Sy.is_guard ?_); (refine Sy.st_guard T (h := ?_))))
    | (((with_reducible refine Sy.is_load ?_); (first
    | refine Sy.st_loadOne T F (h := ?_)
    | (refine Sy.st_loadCut T F (h := ?_); conv => whnf)); clear T; intro ac T))
    | (((with_reducible refine Sy.is_op ?_); refine Sy.st_pure T (h := ?_); clear T; intro ac T)))
          by_cases h6 : May06 reg
          case neg =>
            have G := Rg.may06_any w reg _ (hr.sub F.sub) hs false ⟨fun k => (by cases k), fun k => absurd k h6⟩; refine Sy.st_callV0 T F (hc := G) (h := ?_); (clear T F G; intro ac w T F)
            repeat (first
    | (((with_reducible refine Sy.is_guard ?_); ((refine Sy.st_unguard T (h := ?_); clear T; intro ac T))))
    | (((with_reducible refine Sy.is_op ?_); refine Sy.st_pure T (h := ?_); clear T; intro ac T))
    | (with_reducible refine wpList_nil ?_)
    | (with_reducible refine wp_ret ?_)
    | (go_at_K; go_step)
    | (simp only [Exit.then, Exit.inBlock, ↓reduceIte, Nat.reduceEqDiff]))
            ((try simp only [Exit.inBlock, Exit.then]); refine Sy.st_ret1 T F rfl (by repeat (first | exact Sy.ResV.nil | apply Sy.ResV.tmp rfl | apply Sy.ResV.row rfl rfl rfl (by repeat (first | exact Sy.Take.here | apply Sy.Take.there)) (by rfl) | apply Sy.ResV.one rfl rfl rfl (by repeat (first | exact Sy.Take.here | apply Sy.Take.there)) (by rfl))) ?_)
            exact retIff F hbb (by constructor; · intro k; cases k
                                   · intro k; unfold MayR at k; simp [h6] at k)
          have G := Rg.may06_any w reg _ (hr.sub F.sub) hs true ⟨fun _ => h6, fun _ => rfl⟩; refine Sy.st_callV0 T F (hc := G) (h := ?_); (clear T F G; intro ac w T F)
          repeat (first
    | (((with_reducible refine Sy.is_guard ?_); (refine Sy.st_guard T (h := ?_))))
    | (((with_reducible refine Sy.is_op ?_); refine Sy.st_pure T (h := ?_); clear T; intro ac T))
    | (with_reducible refine wpList_nil ?_)
    | (with_reducible refine wp_ret ?_)
    | (go_at_K; go_step)
    | (simp only [Exit.then, Exit.inBlock, ↓reduceIte, Nat.reduceEqDiff]))
          ((try simp only [Exit.inBlock, Exit.then]); refine Sy.st_ret1 T F rfl (by repeat (first | exact Sy.ResV.nil | apply Sy.ResV.tmp rfl | apply Sy.ResV.row rfl rfl rfl (by repeat (first | exact Sy.Take.here | apply Sy.Take.there)) (by rfl) | apply Sy.ResV.one rfl rfl rfl (by repeat (first | exact Sy.Take.here | apply Sy.Take.there)) (by rfl))) ?_)
          exact retIff F hbb (by unfold MayR; simp [z1, z2, z3, hb0, hac, hmx, h6, hnp])
        rw [decide_eq_false hnx] at G
        refine Sy.st_callV0 T F (hc := G) (h := ?_); (clear T F; intro ac w T F)
        clear G
        by_cases e1 : next.n = b.n
        case neg =>
          have g1 := eqF (a := (next.n : Int)) (b := (b.n : Int)) (by omega)
          have hnp : ¬ NextP b next := fun k => by rcases k with k | k; exact hnx k; exact e1 k.1
          repeat (first
    | (((with_reducible refine Sy.is_guard ?_); (first
    | refine Sy.st_guard T (h := ?_)
    | (refine Sy.st_unguard T (h := ?_); clear T; intro ac T))))
    | (((with_reducible refine Sy.is_load ?_); (first
    | refine Sy.st_loadOne T F (h := ?_)
    | (refine Sy.st_loadCut T F (h := ?_); conv => whnf)); clear T; intro ac T))
    | (((with_reducible refine Sy.is_op ?_); refine Sy.st_pure T (h := ?_); clear T; intro ac T))
    | (with_reducible refine wpList_nil ?_)
    | (with_reducible refine wp_region_lit ?_)
    | ((with_reducible refine wp_seq_k ?_); intro _ _)
    | (go_at_K; go_step)
    | (simp only [Exit.then, Exit.inBlock, ↓reduceIte, Nat.reduceEqDiff]))
          by_cases hmx : max = 0
          case neg =>
            have t4 := eqF (a := (max : Int)) (b := 0) (by omega)
            have G := noneR_any w acc
            by_cases hac : acc = zeroBal
            case neg =>
              rw [decide_eq_false hac] at G
              refine Sy.st_callV0 T F (hc := G) (h := ?_); (clear T F; intro ac w T F)
              clear G
              repeat (first
    | (((with_reducible refine Sy.is_guard ?_); ((refine Sy.st_unguard T (h := ?_); clear T; intro ac T))))
    | (((with_reducible refine Sy.is_op ?_); refine Sy.st_pure T (h := ?_); clear T; intro ac T))
    | (with_reducible refine wpList_nil ?_)
    | (with_reducible refine wp_ret ?_)
    | (go_at_K; go_step)
    | (simp only [Exit.then, Exit.inBlock, ↓reduceIte, Nat.reduceEqDiff]))
              ((try simp only [Exit.inBlock, Exit.then]); refine Sy.st_ret1 T F rfl (by repeat (first | exact Sy.ResV.nil | apply Sy.ResV.tmp rfl | apply Sy.ResV.row rfl rfl rfl (by repeat (first | exact Sy.Take.here | apply Sy.Take.there)) (by rfl) | apply Sy.ResV.one rfl rfl rfl (by repeat (first | exact Sy.Take.here | apply Sy.Take.there)) (by rfl))) ?_)
              exact retIff F hbb (by constructor; · intro k; cases k
                                     · intro k; unfold MayR at k; simp [hac] at k)
            rw [decide_eq_true hac] at G
            refine Sy.st_callV0 T F (hc := G) (h := ?_); (clear T F; intro ac w T F)
            clear G
            repeat (first
    | (((with_reducible refine Sy.is_guard ?_); (first
    | refine Sy.st_guard T (h := ?_)
    | (refine Sy.st_unguard T (h := ?_); clear T; intro ac T))))
    | (((with_reducible refine Sy.is_load ?_); (refine Sy.st_loadOne T F (h := ?_)); clear T; intro ac T))
    | (((with_reducible refine Sy.is_op ?_); refine Sy.st_pure T (h := ?_); clear T; intro ac T))
    | (with_reducible refine wpList_nil ?_)
    | (with_reducible refine wp_ret ?_)
    | (go_at_K; go_step)
    | (simp only [Exit.then, Exit.inBlock, ↓reduceIte, Nat.reduceEqDiff]))
            ((try simp only [Exit.inBlock, Exit.then]); refine Sy.st_ret1 T F rfl (by repeat (first | exact Sy.ResV.nil | apply Sy.ResV.tmp rfl | apply Sy.ResV.row rfl rfl rfl (by repeat (first | exact Sy.Take.here | apply Sy.Take.there)) (by rfl) | apply Sy.ResV.one rfl rfl rfl (by repeat (first | exact Sy.Take.here | apply Sy.Take.there)) (by rfl))) ?_)
            exact retIff F hbb (by constructor; · intro k; cases k
                                   · intro k; unfold MayR at k; simp [hmx] at k)
          have t4 := eqT (a := (max : Int)) (b := 0) (by omega)
          have G := noneR_any w acc
          by_cases hac : acc = zeroBal
          case neg =>
            rw [decide_eq_false hac] at G
            refine Sy.st_callV0 T F (hc := G) (h := ?_); (clear T F; intro ac w T F)
            clear G
            repeat (first
    | (((with_reducible refine Sy.is_guard ?_); ((refine Sy.st_unguard T (h := ?_); clear T; intro ac T))))
    | (((with_reducible refine Sy.is_op ?_); refine Sy.st_pure T (h := ?_); clear T; intro ac T))
    | (with_reducible refine wpList_nil ?_)
    | (with_reducible refine wp_ret ?_)
    | (go_at_K; go_step)
    | (simp only [Exit.then, Exit.inBlock, ↓reduceIte, Nat.reduceEqDiff]))
            ((try simp only [Exit.inBlock, Exit.then]); refine Sy.st_ret1 T F rfl (by repeat (first | exact Sy.ResV.nil | apply Sy.ResV.tmp rfl | apply Sy.ResV.row rfl rfl rfl (by repeat (first | exact Sy.Take.here | apply Sy.Take.there)) (by rfl) | apply Sy.ResV.one rfl rfl rfl (by repeat (first | exact Sy.Take.here | apply Sy.Take.there)) (by rfl))) ?_)
            exact retIff F hbb (by constructor; · intro k; cases k
                                   · intro k; unfold MayR at k; simp [hac] at k)
          rw [decide_eq_true hac] at G
          refine Sy.st_callV0 T F (hc := G) (h := ?_); (clear T F; intro ac w T F)
          clear G
          repeat (first
    | (((with_reducible refine Sy.is_guard ?_); (refine Sy.st_guard T (h := ?_))))
    | (((with_reducible refine Sy.is_load ?_); (first
    | refine Sy.st_loadOne T F (h := ?_)
    | (refine Sy.st_loadCut T F (h := ?_); conv => whnf)); clear T; intro ac T))
    | (((with_reducible refine Sy.is_op ?_); refine Sy.st_pure T (h := ?_); clear T; intro ac T)))
          by_cases h6 : May06 reg
          case neg =>
            have G := Rg.may06_any w reg _ (hr.sub F.sub) hs false ⟨fun k => (by cases k), fun k => absurd k h6⟩; refine Sy.st_callV0 T F (hc := G) (h := ?_); (clear T F G; intro ac w T F)
            repeat (first
    | (((with_reducible refine Sy.is_guard ?_); ((refine Sy.st_unguard T (h := ?_); clear T; intro ac T))))
    | (((with_reducible refine Sy.is_op ?_); refine Sy.st_pure T (h := ?_); clear T; intro ac T))
    | (with_reducible refine wpList_nil ?_)
    | (with_reducible refine wp_ret ?_)
    | (go_at_K; go_step)
    | (simp only [Exit.then, Exit.inBlock, ↓reduceIte, Nat.reduceEqDiff]))
            ((try simp only [Exit.inBlock, Exit.then]); refine Sy.st_ret1 T F rfl (by repeat (first | exact Sy.ResV.nil | apply Sy.ResV.tmp rfl | apply Sy.ResV.row rfl rfl rfl (by repeat (first | exact Sy.Take.here | apply Sy.Take.there)) (by rfl) | apply Sy.ResV.one rfl rfl rfl (by repeat (first | exact Sy.Take.here | apply Sy.Take.there)) (by rfl))) ?_)
            exact retIff F hbb (by constructor; · intro k; cases k
                                   · intro k; unfold MayR at k; simp [h6] at k)
          have G := Rg.may06_any w reg _ (hr.sub F.sub) hs true ⟨fun _ => h6, fun _ => rfl⟩; refine Sy.st_callV0 T F (hc := G) (h := ?_); (clear T F G; intro ac w T F)
          repeat (first
    | (((with_reducible refine Sy.is_guard ?_); (refine Sy.st_guard T (h := ?_))))
    | (((with_reducible refine Sy.is_op ?_); refine Sy.st_pure T (h := ?_); clear T; intro ac T))
    | (with_reducible refine wpList_nil ?_)
    | (with_reducible refine wp_ret ?_)
    | (go_at_K; go_step)
    | (simp only [Exit.then, Exit.inBlock, ↓reduceIte, Nat.reduceEqDiff]))
          ((try simp only [Exit.inBlock, Exit.then]); refine Sy.st_ret1 T F rfl (by repeat (first | exact Sy.ResV.nil | apply Sy.ResV.tmp rfl | apply Sy.ResV.row rfl rfl rfl (by repeat (first | exact Sy.Take.here | apply Sy.Take.there)) (by rfl) | apply Sy.ResV.one rfl rfl rfl (by repeat (first | exact Sy.Take.here | apply Sy.Take.there)) (by rfl))) ?_)
          exact retIff F hbb (by unfold MayR; simp [z1, z2, z3, hb0, hac, hmx, h6, hnp])
        have g1 := eqT (a := (next.n : Int)) (b := (b.n : Int)) (by omega)
        by_cases e2 : next.l = b.l
        case neg =>
          have g2 := eqF (a := (next.l : Int)) (b := (b.l : Int)) (by omega)
          have hnp : ¬ NextP b next := fun k => by rcases k with k | k; exact hnx k; exact e2 k.2.1
          repeat (first
    | (((with_reducible refine Sy.is_guard ?_); (first
    | refine Sy.st_guard T (h := ?_)
    | (refine Sy.st_unguard T (h := ?_); clear T; intro ac T))))
    | (((with_reducible refine Sy.is_load ?_); (first
    | refine Sy.st_loadOne T F (h := ?_)
    | (refine Sy.st_loadCut T F (h := ?_); conv => whnf)); clear T; intro ac T))
    | (((with_reducible refine Sy.is_op ?_); refine Sy.st_pure T (h := ?_); clear T; intro ac T))
    | (with_reducible refine wpList_nil ?_)
    | (with_reducible refine wp_region_lit ?_)
    | ((with_reducible refine wp_seq_k ?_); intro _ _)
    | (go_at_K; go_step)
    | (simp only [Exit.then, Exit.inBlock, ↓reduceIte, Nat.reduceEqDiff]))
          by_cases hmx : max = 0
          case neg =>
            have t4 := eqF (a := (max : Int)) (b := 0) (by omega)
            have G := noneR_any w acc
            by_cases hac : acc = zeroBal
            case neg =>
              rw [decide_eq_false hac] at G
              refine Sy.st_callV0 T F (hc := G) (h := ?_); (clear T F; intro ac w T F)
              clear G
              repeat (first
    | (((with_reducible refine Sy.is_guard ?_); ((refine Sy.st_unguard T (h := ?_); clear T; intro ac T))))
    | (((with_reducible refine Sy.is_op ?_); refine Sy.st_pure T (h := ?_); clear T; intro ac T))
    | (with_reducible refine wpList_nil ?_)
    | (with_reducible refine wp_ret ?_)
    | (go_at_K; go_step)
    | (simp only [Exit.then, Exit.inBlock, ↓reduceIte, Nat.reduceEqDiff]))
              ((try simp only [Exit.inBlock, Exit.then]); refine Sy.st_ret1 T F rfl (by repeat (first | exact Sy.ResV.nil | apply Sy.ResV.tmp rfl | apply Sy.ResV.row rfl rfl rfl (by repeat (first | exact Sy.Take.here | apply Sy.Take.there)) (by rfl) | apply Sy.ResV.one rfl rfl rfl (by repeat (first | exact Sy.Take.here | apply Sy.Take.there)) (by rfl))) ?_)
              exact retIff F hbb (by constructor; · intro k; cases k
                                     · intro k; unfold MayR at k; simp [hac] at k)
            rw [decide_eq_true hac] at G
            refine Sy.st_callV0 T F (hc := G) (h := ?_); (clear T F; intro ac w T F)
            clear G
            repeat (first
    | (((with_reducible refine Sy.is_guard ?_); (first
    | refine Sy.st_guard T (h := ?_)
    | (refine Sy.st_unguard T (h := ?_); clear T; intro ac T))))
    | (((with_reducible refine Sy.is_load ?_); (refine Sy.st_loadOne T F (h := ?_)); clear T; intro ac T))
    | (((with_reducible refine Sy.is_op ?_); refine Sy.st_pure T (h := ?_); clear T; intro ac T))
    | (with_reducible refine wpList_nil ?_)
    | (with_reducible refine wp_ret ?_)
    | (go_at_K; go_step)
    | (simp only [Exit.then, Exit.inBlock, ↓reduceIte, Nat.reduceEqDiff]))
            ((try simp only [Exit.inBlock, Exit.then]); refine Sy.st_ret1 T F rfl (by repeat (first | exact Sy.ResV.nil | apply Sy.ResV.tmp rfl | apply Sy.ResV.row rfl rfl rfl (by repeat (first | exact Sy.Take.here | apply Sy.Take.there)) (by rfl) | apply Sy.ResV.one rfl rfl rfl (by repeat (first | exact Sy.Take.here | apply Sy.Take.there)) (by rfl))) ?_)
            exact retIff F hbb (by constructor; · intro k; cases k
                                   · intro k; unfold MayR at k; simp [hmx] at k)
          have t4 := eqT (a := (max : Int)) (b := 0) (by omega)
          have G := noneR_any w acc
          by_cases hac : acc = zeroBal
          case neg =>
            rw [decide_eq_false hac] at G
            refine Sy.st_callV0 T F (hc := G) (h := ?_); (clear T F; intro ac w T F)
            clear G
            repeat (first
    | (((with_reducible refine Sy.is_guard ?_); ((refine Sy.st_unguard T (h := ?_); clear T; intro ac T))))
    | (((with_reducible refine Sy.is_op ?_); refine Sy.st_pure T (h := ?_); clear T; intro ac T))
    | (with_reducible refine wpList_nil ?_)
    | (with_reducible refine wp_ret ?_)
    | (go_at_K; go_step)
    | (simp only [Exit.then, Exit.inBlock, ↓reduceIte, Nat.reduceEqDiff]))
            ((try simp only [Exit.inBlock, Exit.then]); refine Sy.st_ret1 T F rfl (by repeat (first | exact Sy.ResV.nil | apply Sy.ResV.tmp rfl | apply Sy.ResV.row rfl rfl rfl (by repeat (first | exact Sy.Take.here | apply Sy.Take.there)) (by rfl) | apply Sy.ResV.one rfl rfl rfl (by repeat (first | exact Sy.Take.here | apply Sy.Take.there)) (by rfl))) ?_)
            exact retIff F hbb (by constructor; · intro k; cases k
                                   · intro k; unfold MayR at k; simp [hac] at k)
          rw [decide_eq_true hac] at G
          refine Sy.st_callV0 T F (hc := G) (h := ?_); (clear T F; intro ac w T F)
          clear G
          repeat (first
    | (((with_reducible refine Sy.is_guard ?_); (refine Sy.st_guard T (h := ?_))))
    | (((with_reducible refine Sy.is_load ?_); (first
    | refine Sy.st_loadOne T F (h := ?_)
    | (refine Sy.st_loadCut T F (h := ?_); conv => whnf)); clear T; intro ac T))
    | (((with_reducible refine Sy.is_op ?_); refine Sy.st_pure T (h := ?_); clear T; intro ac T)))
          by_cases h6 : May06 reg
          case neg =>
            have G := Rg.may06_any w reg _ (hr.sub F.sub) hs false ⟨fun k => (by cases k), fun k => absurd k h6⟩; refine Sy.st_callV0 T F (hc := G) (h := ?_); (clear T F G; intro ac w T F)
            repeat (first
    | (((with_reducible refine Sy.is_guard ?_); ((refine Sy.st_unguard T (h := ?_); clear T; intro ac T))))
    | (((with_reducible refine Sy.is_op ?_); refine Sy.st_pure T (h := ?_); clear T; intro ac T))
    | (with_reducible refine wpList_nil ?_)
    | (with_reducible refine wp_ret ?_)
    | (go_at_K; go_step)
    | (simp only [Exit.then, Exit.inBlock, ↓reduceIte, Nat.reduceEqDiff]))
            ((try simp only [Exit.inBlock, Exit.then]); refine Sy.st_ret1 T F rfl (by repeat (first | exact Sy.ResV.nil | apply Sy.ResV.tmp rfl | apply Sy.ResV.row rfl rfl rfl (by repeat (first | exact Sy.Take.here | apply Sy.Take.there)) (by rfl) | apply Sy.ResV.one rfl rfl rfl (by repeat (first | exact Sy.Take.here | apply Sy.Take.there)) (by rfl))) ?_)
            exact retIff F hbb (by constructor; · intro k; cases k
                                   · intro k; unfold MayR at k; simp [h6] at k)
          have G := Rg.may06_any w reg _ (hr.sub F.sub) hs true ⟨fun _ => h6, fun _ => rfl⟩; refine Sy.st_callV0 T F (hc := G) (h := ?_); (clear T F G; intro ac w T F)
          repeat (first
    | (((with_reducible refine Sy.is_guard ?_); (refine Sy.st_guard T (h := ?_))))
    | (((with_reducible refine Sy.is_op ?_); refine Sy.st_pure T (h := ?_); clear T; intro ac T))
    | (with_reducible refine wpList_nil ?_)
    | (with_reducible refine wp_ret ?_)
    | (go_at_K; go_step)
    | (simp only [Exit.then, Exit.inBlock, ↓reduceIte, Nat.reduceEqDiff]))
          ((try simp only [Exit.inBlock, Exit.then]); refine Sy.st_ret1 T F rfl (by repeat (first | exact Sy.ResV.nil | apply Sy.ResV.tmp rfl | apply Sy.ResV.row rfl rfl rfl (by repeat (first | exact Sy.Take.here | apply Sy.Take.there)) (by rfl) | apply Sy.ResV.one rfl rfl rfl (by repeat (first | exact Sy.Take.here | apply Sy.Take.there)) (by rfl))) ?_)
          exact retIff F hbb (by unfold MayR; simp [z1, z2, z3, hb0, hac, hmx, h6, hnp])
        have g2 := eqT (a := (next.l : Int)) (b := (b.l : Int)) (by omega)
        by_cases e3 : b.c < next.c
        case neg =>
          have g3 : decide ((next.c : Int) > (b.c : Int)) = false := decide_eq_false (by omega)
          have hnp : ¬ NextP b next := fun k => by rcases k with k | k; exact hnx k; exact e3 k.2.2
          repeat (first
    | (((with_reducible refine Sy.is_guard ?_); (refine Sy.st_guard T (h := ?_))))
    | (((with_reducible refine Sy.is_load ?_); (first
    | refine Sy.st_loadOne T F (h := ?_)
    | (refine Sy.st_loadCut T F (h := ?_); conv => whnf)); clear T; intro ac T))
    | (((with_reducible refine Sy.is_op ?_); refine Sy.st_pure T (h := ?_); clear T; intro ac T))
    | (with_reducible refine wpList_nil ?_)
    | (with_reducible refine wp_region_lit ?_)
    | ((with_reducible refine wp_seq_k ?_); intro _ _)
    | (go_at_K; go_step)
    | (simp only [Exit.then, Exit.inBlock, ↓reduceIte, Nat.reduceEqDiff]))
          by_cases hmx : max = 0
          case neg =>
            have t4 := eqF (a := (max : Int)) (b := 0) (by omega)
            have G := noneR_any w acc
            by_cases hac : acc = zeroBal
            case neg =>
              rw [decide_eq_false hac] at G
              refine Sy.st_callV0 T F (hc := G) (h := ?_); (clear T F; intro ac w T F)
              clear G
              repeat (first
    | (((with_reducible refine Sy.is_guard ?_); ((refine Sy.st_unguard T (h := ?_); clear T; intro ac T))))
    | (((with_reducible refine Sy.is_op ?_); refine Sy.st_pure T (h := ?_); clear T; intro ac T))
    | (with_reducible refine wpList_nil ?_)
    | (with_reducible refine wp_ret ?_)
    | (go_at_K; go_step)
    | (simp only [Exit.then, Exit.inBlock, ↓reduceIte, Nat.reduceEqDiff]))
              ((try simp only [Exit.inBlock, Exit.then]); refine Sy.st_ret1 T F rfl (by repeat (first | exact Sy.ResV.nil | apply Sy.ResV.tmp rfl | apply Sy.ResV.row rfl rfl rfl (by repeat (first | exact Sy.Take.here | apply Sy.Take.there)) (by rfl) | apply Sy.ResV.one rfl rfl rfl (by repeat (first | exact Sy.Take.here | apply Sy.Take.there)) (by rfl))) ?_)
              exact retIff F hbb (by constructor; · intro k; cases k
                                     · intro k; unfold MayR at k; simp [hac] at k)
            rw [decide_eq_true hac] at G
            refine Sy.st_callV0 T F (hc := G) (h := ?_); (clear T F; intro ac w T F)
            clear G
            repeat (first
    | (((with_reducible refine Sy.is_guard ?_); (first
    | refine Sy.st_guard T (h := ?_)
    | (refine Sy.st_unguard T (h := ?_); clear T; intro ac T))))
    | (((with_reducible refine Sy.is_load ?_); (refine Sy.st_loadOne T F (h := ?_)); clear T; intro ac T))
    | (((with_reducible refine Sy.is_op ?_); refine Sy.st_pure T (h := ?_); clear T; intro ac T))
    | (with_reducible refine wpList_nil ?_)
    | (with_reducible refine wp_ret ?_)
    | (go_at_K; go_step)
    | (simp only [Exit.then, Exit.inBlock, ↓reduceIte, Nat.reduceEqDiff]))
            ((try simp only [Exit.inBlock, Exit.then]); refine Sy.st_ret1 T F rfl (by repeat (first | exact Sy.ResV.nil | apply Sy.ResV.tmp rfl | apply Sy.ResV.row rfl rfl rfl (by repeat (first | exact Sy.Take.here | apply Sy.Take.there)) (by rfl) | apply Sy.ResV.one rfl rfl rfl (by repeat (first | exact Sy.Take.here | apply Sy.Take.there)) (by rfl))) ?_)
            exact retIff F hbb (by constructor; · intro k; cases k
                                   · intro k; unfold MayR at k; simp [hmx] at k)
          have t4 := eqT (a := (max : Int)) (b := 0) (by omega)
          have G := noneR_any w acc
          by_cases hac : acc = zeroBal
          case neg =>
            rw [decide_eq_false hac] at G
            refine Sy.st_callV0 T F (hc := G) (h := ?_); (clear T F; intro ac w T F)
            clear G
            repeat (first
    | (((with_reducible refine Sy.is_guard ?_); ((refine Sy.st_unguard T (h := ?_); clear T; intro ac T))))
    | (((with_reducible refine Sy.is_op ?_); refine Sy.st_pure T (h := ?_); clear T; intro ac T))
    | (with_reducible refine wpList_nil ?_)
    | (with_reducible refine wp_ret ?_)
    | (go_at_K; go_step)
    | (simp only [Exit.then, Exit.inBlock, ↓reduceIte, Nat.reduceEqDiff]))
            ((try simp only [Exit.inBlock, Exit.then]); refine Sy.st_ret1 T F rfl (by repeat (first | exact Sy.ResV.nil | apply Sy.ResV.tmp rfl | apply Sy.ResV.row rfl rfl rfl (by repeat (first | exact Sy.Take.here | apply Sy.Take.there)) (by rfl) | apply Sy.ResV.one rfl rfl rfl (by repeat (first | exact Sy.Take.here | apply Sy.Take.there)) (by rfl))) ?_)
            exact retIff F hbb (by constructor; · intro k; cases k
                                   · intro k; unfold MayR at k; simp [hac] at k)
          rw [decide_eq_true hac] at G
          refine Sy.st_callV0 T F (hc := G) (h := ?_); (clear T F; intro ac w T F)
          clear G
          repeat (first
    | (((with_reducible refine Sy.is_guard ?_); (refine Sy.st_guard T (h := ?_))))
    | (((with_reducible refine Sy.is_load ?_); (first
    | refine Sy.st_loadOne T F (h := ?_)
    | (refine Sy.st_loadCut T F (h := ?_); conv => whnf)); clear T; intro ac T))
    | (((with_reducible refine Sy.is_op ?_); refine Sy.st_pure T (h := ?_); clear T; intro ac T)))
          by_cases h6 : May06 reg
          case neg =>
            have G := Rg.may06_any w reg _ (hr.sub F.sub) hs false ⟨fun k => (by cases k), fun k => absurd k h6⟩; refine Sy.st_callV0 T F (hc := G) (h := ?_); (clear T F G; intro ac w T F)
            repeat (first
    | (((with_reducible refine Sy.is_guard ?_); ((refine Sy.st_unguard T (h := ?_); clear T; intro ac T))))
    | (((with_reducible refine Sy.is_op ?_); refine Sy.st_pure T (h := ?_); clear T; intro ac T))
    | (with_reducible refine wpList_nil ?_)
    | (with_reducible refine wp_ret ?_)
    | (go_at_K; go_step)
    | (simp only [Exit.then, Exit.inBlock, ↓reduceIte, Nat.reduceEqDiff]))
            ((try simp only [Exit.inBlock, Exit.then]); refine Sy.st_ret1 T F rfl (by repeat (first | exact Sy.ResV.nil | apply Sy.ResV.tmp rfl | apply Sy.ResV.row rfl rfl rfl (by repeat (first | exact Sy.Take.here | apply Sy.Take.there)) (by rfl) | apply Sy.ResV.one rfl rfl rfl (by repeat (first | exact Sy.Take.here | apply Sy.Take.there)) (by rfl))) ?_)
            exact retIff F hbb (by constructor; · intro k; cases k
                                   · intro k; unfold MayR at k; simp [h6] at k)
          have G := Rg.may06_any w reg _ (hr.sub F.sub) hs true ⟨fun _ => h6, fun _ => rfl⟩; refine Sy.st_callV0 T F (hc := G) (h := ?_); (clear T F G; intro ac w T F)
          repeat (first
    | (((with_reducible refine Sy.is_guard ?_); (refine Sy.st_guard T (h := ?_))))
    | (((with_reducible refine Sy.is_op ?_); refine Sy.st_pure T (h := ?_); clear T; intro ac T))
    | (with_reducible refine wpList_nil ?_)
    | (with_reducible refine wp_ret ?_)
    | (go_at_K; go_step)
    | (simp only [Exit.then, Exit.inBlock, ↓reduceIte, Nat.reduceEqDiff]))
          ((try simp only [Exit.inBlock, Exit.then]); refine Sy.st_ret1 T F rfl (by repeat (first | exact Sy.ResV.nil | apply Sy.ResV.tmp rfl | apply Sy.ResV.row rfl rfl rfl (by repeat (first | exact Sy.Take.here | apply Sy.Take.there)) (by rfl) | apply Sy.ResV.one rfl rfl rfl (by repeat (first | exact Sy.Take.here | apply Sy.Take.there)) (by rfl))) ?_)
          exact retIff F hbb (by unfold MayR; simp [z1, z2, z3, hb0, hac, hmx, h6, hnp])
        have g3 : decide ((next.c : Int) > (b.c : Int)) = true := decide_eq_true (by omega)
        have hnp : NextP b next := .inr ⟨e1, e2, e3⟩
        repeat (first
    | (((with_reducible refine Sy.is_guard ?_); (refine Sy.st_guard T (h := ?_))))
    | (((with_reducible refine Sy.is_load ?_); (first
    | refine Sy.st_loadOne T F (h := ?_)
    | (refine Sy.st_loadCut T F (h := ?_); conv => whnf)); clear T; intro ac T))
    | (((with_reducible refine Sy.is_op ?_); refine Sy.st_pure T (h := ?_); clear T; intro ac T))
    | (with_reducible refine wpList_nil ?_)
    | (with_reducible refine wp_region_lit ?_)
    | ((with_reducible refine wp_seq_k ?_); intro _ _)
    | (go_at_K; go_step)
    | (simp only [Exit.then, Exit.inBlock, ↓reduceIte, Nat.reduceEqDiff]))
        by_cases hmx : max = 0
        case neg =>
          have t4 := eqF (a := (max : Int)) (b := 0) (by omega)
          have G := noneR_any w acc
          by_cases hac : acc = zeroBal
          case neg =>
            rw [decide_eq_false hac] at G
            refine Sy.st_callV0 T F (hc := G) (h := ?_); (clear T F; intro ac w T F)
            clear G
            repeat (first
    | (((with_reducible refine Sy.is_guard ?_); ((refine Sy.st_unguard T (h := ?_); clear T; intro ac T))))
    | (((with_reducible refine Sy.is_op ?_); refine Sy.st_pure T (h := ?_); clear T; intro ac T))
    | (with_reducible refine wpList_nil ?_)
    | (with_reducible refine wp_ret ?_)
    | (go_at_K; go_step)
    | (simp only [Exit.then, Exit.inBlock, ↓reduceIte, Nat.reduceEqDiff]))
            ((try simp only [Exit.inBlock, Exit.then]); refine Sy.st_ret1 T F rfl (by repeat (first | exact Sy.ResV.nil | apply Sy.ResV.tmp rfl | apply Sy.ResV.row rfl rfl rfl (by repeat (first | exact Sy.Take.here | apply Sy.Take.there)) (by rfl) | apply Sy.ResV.one rfl rfl rfl (by repeat (first | exact Sy.Take.here | apply Sy.Take.there)) (by rfl))) ?_)
            exact retIff F hbb (by constructor; · intro k; cases k
                                   · intro k; unfold MayR at k; simp [hac] at k)
          rw [decide_eq_true hac] at G
          refine Sy.st_callV0 T F (hc := G) (h := ?_); (clear T F; intro ac w T F)
          clear G
          repeat (first
    | (((with_reducible refine Sy.is_guard ?_); (first
    | refine Sy.st_guard T (h := ?_)
    | (refine Sy.st_unguard T (h := ?_); clear T; intro ac T))))
    | (((with_reducible refine Sy.is_load ?_); (refine Sy.st_loadOne T F (h := ?_)); clear T; intro ac T))
    | (((with_reducible refine Sy.is_op ?_); refine Sy.st_pure T (h := ?_); clear T; intro ac T))
    | (with_reducible refine wpList_nil ?_)
    | (with_reducible refine wp_ret ?_)
    | (go_at_K; go_step)
    | (simp only [Exit.then, Exit.inBlock, ↓reduceIte, Nat.reduceEqDiff]))
          ((try simp only [Exit.inBlock, Exit.then]); refine Sy.st_ret1 T F rfl (by repeat (first | exact Sy.ResV.nil | apply Sy.ResV.tmp rfl | apply Sy.ResV.row rfl rfl rfl (by repeat (first | exact Sy.Take.here | apply Sy.Take.there)) (by rfl) | apply Sy.ResV.one rfl rfl rfl (by repeat (first | exact Sy.Take.here | apply Sy.Take.there)) (by rfl))) ?_)
          exact retIff F hbb (by constructor; · intro k; cases k
                                 · intro k; unfold MayR at k; simp [hmx] at k)
        have t4 := eqT (a := (max : Int)) (b := 0) (by omega)
        have G := noneR_any w acc
        by_cases hac : acc = zeroBal
        case neg =>
          rw [decide_eq_false hac] at G
          refine Sy.st_callV0 T F (hc := G) (h := ?_); (clear T F; intro ac w T F)
          clear G
          repeat (first
    | (((with_reducible refine Sy.is_guard ?_); ((refine Sy.st_unguard T (h := ?_); clear T; intro ac T))))
    | (((with_reducible refine Sy.is_op ?_); refine Sy.st_pure T (h := ?_); clear T; intro ac T))
    | (with_reducible refine wpList_nil ?_)
    | (with_reducible refine wp_ret ?_)
    | (go_at_K; go_step)
    | (simp only [Exit.then, Exit.inBlock, ↓reduceIte, Nat.reduceEqDiff]))
          ((try simp only [Exit.inBlock, Exit.then]); refine Sy.st_ret1 T F rfl (by repeat (first | exact Sy.ResV.nil | apply Sy.ResV.tmp rfl | apply Sy.ResV.row rfl rfl rfl (by repeat (first | exact Sy.Take.here | apply Sy.Take.there)) (by rfl) | apply Sy.ResV.one rfl rfl rfl (by repeat (first | exact Sy.Take.here | apply Sy.Take.there)) (by rfl))) ?_)
          exact retIff F hbb (by constructor; · intro k; cases k
                                 · intro k; unfold MayR at k; simp [hac] at k)
        rw [decide_eq_true hac] at G
        refine Sy.st_callV0 T F (hc := G) (h := ?_); (clear T F; intro ac w T F)
        clear G
        repeat (first
    | (((with_reducible refine Sy.is_guard ?_); (refine Sy.st_guard T (h := ?_))))
    | (((with_reducible refine Sy.is_load ?_); (first
    | refine Sy.st_loadOne T F (h := ?_)
    | (refine Sy.st_loadCut T F (h := ?_); conv => whnf)); clear T; intro ac T))
    | (((with_reducible refine Sy.is_op ?_); refine Sy.st_pure T (h := ?_); clear T; intro ac T)))
        by_cases h6 : May06 reg
        case neg =>
          have G := Rg.may06_any w reg _ (hr.sub F.sub) hs false ⟨fun k => (by cases k), fun k => absurd k h6⟩; refine Sy.st_callV0 T F (hc := G) (h := ?_); (clear T F G; intro ac w T F)
          repeat (first
    | (((with_reducible refine Sy.is_guard ?_); ((refine Sy.st_unguard T (h := ?_); clear T; intro ac T))))
    | (((with_reducible refine Sy.is_op ?_); refine Sy.st_pure T (h := ?_); clear T; intro ac T))
    | (with_reducible refine wpList_nil ?_)
    | (with_reducible refine wp_ret ?_)
    | (go_at_K; go_step)
    | (simp only [Exit.then, Exit.inBlock, ↓reduceIte, Nat.reduceEqDiff]))
          ((try simp only [Exit.inBlock, Exit.then]); refine Sy.st_ret1 T F rfl (by repeat (first | exact Sy.ResV.nil | apply Sy.ResV.tmp rfl | apply Sy.ResV.row rfl rfl rfl (by repeat (first | exact Sy.Take.here | apply Sy.Take.there)) (by rfl) | apply Sy.ResV.one rfl rfl rfl (by repeat (first | exact Sy.Take.here | apply Sy.Take.there)) (by rfl))) ?_)
          exact retIff F hbb (by constructor; · intro k; cases k
                                 · intro k; unfold MayR at k; simp [h6] at k)
        have G := Rg.may06_any w reg _ (hr.sub F.sub) hs true ⟨fun _ => h6, fun _ => rfl⟩; refine Sy.st_callV0 T F (hc := G) (h := ?_); (clear T F G; intro ac w T F)
        repeat (first
    | (((with_reducible refine Sy.is_guard ?_); (refine Sy.st_guard T (h := ?_))))
    | (((with_reducible refine Sy.is_op ?_); refine Sy.st_pure T (h := ?_); clear T; intro ac T))
    | (with_reducible refine wpList_nil ?_)
    | (with_reducible refine wp_ret ?_)
    | (go_at_K; go_step)
    | (simp only [Exit.then, Exit.inBlock, ↓reduceIte, Nat.reduceEqDiff]))
        ((try simp only [Exit.inBlock, Exit.then]); refine Sy.st_ret1 T F rfl (by repeat (first | exact Sy.ResV.nil | apply Sy.ResV.tmp rfl | apply Sy.ResV.row rfl rfl rfl (by repeat (first | exact Sy.Take.here | apply Sy.Take.there)) (by rfl) | apply Sy.ResV.one rfl rfl rfl (by repeat (first | exact Sy.Take.here | apply Sy.Take.there)) (by rfl))) ?_)
        exact retIff F hbb (by unfold MayR; simp [z1, z2, z3, hb0, hac, hmx, h6, hnp])
      by_cases q4 : kind = 4
      · subst q4
        have f1 : ((((4 : Nat)) : Int) == 1) = false := rfl
        have f2 : ((((4 : Nat)) : Int) == 2) = false := rfl
        have f3 : ((((4 : Nat)) : Int) == 3) = false := rfl
        have f4 : ((((4 : Nat)) : Int) == 4) = true := rfl
        repeat (first
    | (((with_reducible refine Sy.is_guard ?_); (first
    | refine Sy.st_guard T (h := ?_)
    | (refine Sy.st_unguard T (h := ?_); clear T; intro ac T))))
    | (((with_reducible refine Sy.is_load ?_); (first
    | refine Sy.st_loadOne T F (h := ?_)
    | (refine Sy.st_loadCut T F (h := ?_); conv => whnf)); clear T; intro ac T))
    | (((with_reducible refine Sy.is_op ?_); refine Sy.st_pure T (h := ?_); clear T; intro ac T))
    | ((with_reducible refine Sy.is_cond ?_); (refine Sy.st_false T (h := ?_)))
    | (with_reducible refine wpList_nil ?_)
    | (with_reducible refine wp_region_lit ?_)
    | (with_reducible refine wp_skip ?_)
    | ((with_reducible refine wp_seq_k ?_); intro _ _)
    | (go_at_K; go_step)
    | (simp only [Exit.then, Exit.inBlock, ↓reduceIte, Nat.reduceEqDiff]))
        have G := noneR_any w acc
        by_cases hac : acc = zeroBal
        case neg =>
          rw [decide_eq_false hac] at G
          refine Sy.st_callV0 T F (hc := G) (h := ?_); (clear T F; intro ac w T F)
          clear G
          repeat (first
    | (((with_reducible refine Sy.is_guard ?_); ((refine Sy.st_unguard T (h := ?_); clear T; intro ac T))))
    | (((with_reducible refine Sy.is_op ?_); refine Sy.st_pure T (h := ?_); clear T; intro ac T))
    | (with_reducible refine wpList_nil ?_)
    | (with_reducible refine wp_ret ?_)
    | (go_at_K; go_step)
    | (simp only [Exit.then, Exit.inBlock, ↓reduceIte, Nat.reduceEqDiff]))
          ((try simp only [Exit.inBlock, Exit.then]); refine Sy.st_ret1 T F rfl (by repeat (first | exact Sy.ResV.nil | apply Sy.ResV.tmp rfl | apply Sy.ResV.row rfl rfl rfl (by repeat (first | exact Sy.Take.here | apply Sy.Take.there)) (by rfl) | apply Sy.ResV.one rfl rfl rfl (by repeat (first | exact Sy.Take.here | apply Sy.Take.there)) (by rfl))) ?_)
          exact retIff F hbb (by constructor; · intro k; cases k
                                 · intro k; unfold MayR at k; simp [hac] at k)
        rw [decide_eq_true hac] at G
        refine Sy.st_callV0 T F (hc := G) (h := ?_); (clear T F; intro ac w T F)
        clear G
        repeat (first
    | (((with_reducible refine Sy.is_guard ?_); (refine Sy.st_guard T (h := ?_))))
    | (((with_reducible refine Sy.is_load ?_); ((refine Sy.st_loadCut T F (h := ?_); conv => whnf)); clear T; intro ac T))
    | (((with_reducible refine Sy.is_op ?_); refine Sy.st_pure T (h := ?_); clear T; intro ac T)))
        have G := noneR_any w next
        by_cases hnx : next = zeroBal
        case neg =>
          rw [decide_eq_false hnx] at G
          refine Sy.st_callV0 T F (hc := G) (h := ?_); (clear T F; intro ac w T F)
          clear G
          repeat (first
    | (((with_reducible refine Sy.is_guard ?_); ((refine Sy.st_unguard T (h := ?_); clear T; intro ac T))))
    | (((with_reducible refine Sy.is_op ?_); refine Sy.st_pure T (h := ?_); clear T; intro ac T))
    | (with_reducible refine wpList_nil ?_)
    | (with_reducible refine wp_ret ?_)
    | (go_at_K; go_step)
    | (simp only [Exit.then, Exit.inBlock, ↓reduceIte, Nat.reduceEqDiff]))
          ((try simp only [Exit.inBlock, Exit.then]); refine Sy.st_ret1 T F rfl (by repeat (first | exact Sy.ResV.nil | apply Sy.ResV.tmp rfl | apply Sy.ResV.row rfl rfl rfl (by repeat (first | exact Sy.Take.here | apply Sy.Take.there)) (by rfl) | apply Sy.ResV.one rfl rfl rfl (by repeat (first | exact Sy.Take.here | apply Sy.Take.there)) (by rfl))) ?_)
          exact retIff F hbb (by constructor; · intro k; cases k
                                 · intro k; unfold MayR at k; simp [hnx] at k)
        rw [decide_eq_true hnx] at G
        refine Sy.st_callV0 T F (hc := G) (h := ?_); (clear T F; intro ac w T F)
        clear G
        repeat (first
    | (((with_reducible refine Sy.is_guard ?_); (refine Sy.st_guard T (h := ?_))))
    | (((with_reducible refine Sy.is_load ?_); ((refine Sy.st_loadCut T F (h := ?_); conv => whnf)); clear T; intro ac T))
    | (((with_reducible refine Sy.is_op ?_); refine Sy.st_pure T (h := ?_); clear T; intro ac T)))
        by_cases hz : reg = zeroReg
        case neg =>
          have G := zeroR_any w reg _ (hr.sub F.sub) hs
          rw [decide_eq_false hz] at G
          refine Sy.st_callV0 T F (hc := G) (h := ?_); (clear T F; intro ac w T F)
          clear G
          repeat (first
    | (((with_reducible refine Sy.is_guard ?_); ((refine Sy.st_unguard T (h := ?_); clear T; intro ac T))))
    | (((with_reducible refine Sy.is_op ?_); refine Sy.st_pure T (h := ?_); clear T; intro ac T))
    | (with_reducible refine wpList_nil ?_)
    | (with_reducible refine wp_ret ?_)
    | (go_at_K; go_step)
    | (simp only [Exit.then, Exit.inBlock, ↓reduceIte, Nat.reduceEqDiff]))
          ((try simp only [Exit.inBlock, Exit.then]); refine Sy.st_ret1 T F rfl (by repeat (first | exact Sy.ResV.nil | apply Sy.ResV.tmp rfl | apply Sy.ResV.row rfl rfl rfl (by repeat (first | exact Sy.Take.here | apply Sy.Take.there)) (by rfl) | apply Sy.ResV.one rfl rfl rfl (by repeat (first | exact Sy.Take.here | apply Sy.Take.there)) (by rfl))) ?_)
          exact retIff F hbb (by constructor; · intro k; cases k
                                 · intro k; unfold MayR at k; simp [hz] at k)
        have G := zeroR_any w reg _ (hr.sub F.sub) hs
        rw [decide_eq_true hz] at G
        refine Sy.st_callV0 T F (hc := G) (h := ?_); (clear T F; intro ac w T F)
        clear G
        repeat (first
    | (((with_reducible refine Sy.is_guard ?_); (first
    | refine Sy.st_guard T (h := ?_)
    | (refine Sy.st_unguard T (h := ?_); clear T; intro ac T))))
    | (((with_reducible refine Sy.is_load ?_); (refine Sy.st_loadOne T F (h := ?_)); clear T; intro ac T))
    | (((with_reducible refine Sy.is_op ?_); refine Sy.st_pure T (h := ?_); clear T; intro ac T))
    | (with_reducible refine wpList_nil ?_)
    | (with_reducible refine wp_ret ?_)
    | (go_at_K; go_step)
    | (simp only [Exit.then, Exit.inBlock, ↓reduceIte, Nat.reduceEqDiff]))
        ((try simp only [Exit.inBlock, Exit.then]); refine Sy.st_ret1 T F rfl (by repeat (first | exact Sy.ResV.nil | apply Sy.ResV.tmp rfl | apply Sy.ResV.row rfl rfl rfl (by repeat (first | exact Sy.Take.here | apply Sy.Take.there)) (by rfl) | apply Sy.ResV.one rfl rfl rfl (by repeat (first | exact Sy.Take.here | apply Sy.Take.there)) (by rfl))) ?_)
        exact retIff F hbb (by unfold MayR; simp [z1, z2, z3, hb0, hac, hnx, hz])
      have f1 := eqF (a := (kind : Int)) (b := 1) (by omega)
      have f2 := eqF (a := (kind : Int)) (b := 2) (by omega)
      have f3 := eqF (a := (kind : Int)) (b := 3) (by omega)
      have f4 := eqF (a := (kind : Int)) (b := 4) (by omega)
      repeat (first
    | (((with_reducible refine Sy.is_guard ?_); ((refine Sy.st_unguard T (h := ?_); clear T; intro ac T))))
    | (((with_reducible refine Sy.is_load ?_); (refine Sy.st_loadOne T F (h := ?_)); clear T; intro ac T))
    | (((with_reducible refine Sy.is_op ?_); refine Sy.st_pure T (h := ?_); clear T; intro ac T))
    | ((with_reducible refine Sy.is_cond ?_); (refine Sy.st_false T (h := ?_)))
    | (with_reducible refine wpList_nil ?_)
    | (with_reducible refine wp_region_lit ?_)
    | (with_reducible refine wp_skip ?_)
    | (with_reducible refine wp_ret ?_)
    | ((with_reducible refine wp_seq_k ?_); intro _ _)
    | (go_at_K; go_step)
    | (simp only [Exit.then, Exit.inBlock, ↓reduceIte, Nat.reduceEqDiff]))
      ((try simp only [Exit.inBlock, Exit.then]); refine Sy.st_ret1 T F rfl (by repeat (first | exact Sy.ResV.nil | apply Sy.ResV.tmp rfl | apply Sy.ResV.row rfl rfl rfl (by repeat (first | exact Sy.Take.here | apply Sy.Take.there)) (by rfl) | apply Sy.ResV.one rfl rfl rfl (by repeat (first | exact Sy.Take.here | apply Sy.Take.there)) (by rfl))) ?_)
      exact retIff F hbb (by constructor; · intro k; cases k
                             · intro k; unfold MayR at k; simp [q1, q2, q3, q4] at k)
  all_goals
    try have t1 : decide ((src : Int) > 63) = true := decide_eq_true (by omega)
    try have t1 : decide ((src : Int) > 63) = false := decide_eq_false (by omega)
    try have t2 : decide ((dst : Int) > 63) = true := decide_eq_true (by omega)
    try have t2 : decide ((dst : Int) > 63) = false := decide_eq_false (by omega)
    try have t3 : decide ((key : Int) > 15) = true := decide_eq_true (by omega)
    repeat (first
    | (((with_reducible refine Sy.is_guard ?_); (first
    | refine Sy.st_guard T (h := ?_)
    | (refine Sy.st_unguard T (h := ?_); clear T; intro ac T))))
    | (((with_reducible refine Sy.is_load ?_); (refine Sy.st_loadOne T F (h := ?_)); clear T; intro ac T))
    | (((with_reducible refine Sy.is_box ?_); (refine Sy.st_boxAgg T F (h := ?_)); clear T F; intro ac g w T F))
    | (((with_reducible refine Sy.is_op ?_); refine Sy.st_pure T (h := ?_); clear T; intro ac T))
    | ((with_reducible refine Sy.is_cond ?_); (refine Sy.st_true T (h := ?_)))
    | (with_reducible refine wpList_nil ?_)
    | (with_reducible refine wp_region_lit ?_)
    | (with_reducible refine wp_ret ?_)
    | ((with_reducible refine wp_seq_k ?_); intro _ _)
    | (go_at_K; go_step)
    | (simp only [Exit.then, Exit.inBlock, ↓reduceIte, Nat.reduceEqDiff]))
    ((try simp only [Exit.inBlock, Exit.then]); refine Sy.st_ret1 T F rfl (by repeat (first | exact Sy.ResV.nil | apply Sy.ResV.tmp rfl | apply Sy.ResV.row rfl rfl rfl (by repeat (first | exact Sy.Take.here | apply Sy.Take.there)) (by rfl) | apply Sy.ResV.one rfl rfl rfl (by repeat (first | exact Sy.Take.here | apply Sy.Take.there)) (by rfl))) ?_)
    exact retIff F hbb ⟨fun k => (by cases k), fun k => by have h1 := k.1; have h2 := k.2.1; have h3 := k.2.2.1; simp only at h1 h2 h3; omega⟩
end Ms
end Go.Proofs.Ytniopkoaplkpkaa
