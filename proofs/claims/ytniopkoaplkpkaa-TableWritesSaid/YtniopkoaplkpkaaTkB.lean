/- The walks of taking formulas. Conditions: the reader's bytes can be read. Printed by a program (gentkb.py). -/
import Derived.Test.YtniopkoaplkpkaaTkA
import Derived.Test.YtniopkoaplkpkaaTbD
namespace Go.Proofs.Ytniopkoaplkpkaa
open Go.RowKit
set_option linter.unusedVariables false
set_option linter.unusedSimpArgs false
namespace Tk
open Sy (RetV RetM Sub)
open Rg (eqT eqF i64_wrap I64 RowsOf)
open Pk (RdX RdC RetR numS end_r endS intS)
open Rt (St loopS numR smlS smallS wellS SmlV IntV int_v numR_le name1 bindS pureS rows_up rows_snoc rows_nil doneL ListV cells_own)
def TokR (_ : World) (cs : List Value) (t : Ex.Tok) : Prop := cs = [.int .u8 (t.op : Int), .int .i64 t.n] ∧ Ex.okT t
def tokS : St → Ex.Tok × St := bindS smallS fun o => bindS intS fun n => pureS ⟨o, n⟩
def formS : St → List Ex.Tok × St := manyS 24 tokS
/-- a formula that a call handed back -/
def ToksV (m : World) (v : Value) (l : List Ex.Tok) : Prop := ∃ a cap, v = .slice a l.length cap ∧ Ex.Toks m a l.length l
theorem toks_rows {m : World} {a : Option Addr} {l : List Ex.Tok} (h : Rows TokR 2 m a l) : Ex.Toks m a l.length l := by
  refine ⟨rfl, h.1, fun t ht => ?_, ?_⟩
  · obtain ⟨k, hk, rfl⟩ := List.getElem_of_mem ht
    obtain ⟨b, o, cs, _, _, _, hr⟩ := rows_get h hk
    exact hr.2
  · rcases h.2 with h0 | ⟨b, o, ha, hc⟩
    · exact .inl h0
    · refine .inr ⟨b, o, ha, fun i hi => ?_⟩
      obtain ⟨cs, h1, h2, h3⟩ := hc i hi
      obtain ⟨rfl, -⟩ := h3
      have q0 := h2 0 (by simp)
      have q1 := h2 1 (by simp)
      exact ⟨by simpa using q0, by simpa using q1⟩
/-- what stands while a formula is taken -/
def JF (W m0 : World) (gr g3 g1 : Nat) (st : St) (acc : List Ex.Tok) (ex : List Sy.Blk) (w : World) : Prop := ∃ m cs ad cap css, Sub m0 m ∧
  Sy.MemE (Sy.SlA Sy.E0 135 2 (.slice ad acc.length cap) acc.length css.flatten) ⟨W, [gr], m0⟩ m (⟨gr, cs, 100⟩ :: (ex ++ [⟨g3, [.slice ad acc.length cap], 72⟩, ⟨g1, [.pointer (some ⟨gr, 0, none⟩)], 85⟩])) w ∧ RdC m st cs ∧ RowsOf TokR 2 m css acc
theorem jf_opens (W m0 : World) (gr g3 g1 : Nat) : Opens gr (JF W m0 gr g3 g1) := fun st acc ex w ⟨m, cs, ad, cap, css, hS, F, hC, hr⟩ =>
  ⟨_, _, m, cs, _, F, hC, fun m' cs' st' ex' w' hs F' hC' => ⟨m', cs', ad, cap, css, hS.trans hs, F', hC', rows_up (fun _ _ h => h) hr⟩⟩
theorem not_in {c : Sy.Cx} {m w : World} {bs : List Sy.Blk} {e : TypeId} {s n : Nat} {v : Value} {xs : List Value} {E1 : Sy.Ext} (F : Sy.MemE (Sy.SlA E1 e s v n xs) c m bs w) {g : Nat} (hg : g ∈ bs.map Sy.Blk.adr) {gr : Nat} (hne : g ≠ gr) : g ∉ gr :: (blk v).toList := fun hm => by
  rcases List.mem_cons.1 hm with h | h
  · exact hne h
  · exact (F.loose _ (.inr (Option.mem_toList.1 h))).2.1 hg
set_option maxRecDepth 20000 in
theorem tok1_any {W m0 : World} {gr g3 g1 : Nat} {st : St} {acc : List Ex.Tok} {b : Sy.Blk} {w : World} (h : JF W m0 gr g3 g1 st acc [b] w) (hlt : acc.length < 24) :
    Calls Try.prog 117 ([] ++ [] ++ [Value.pointer (some ⟨g3, 0, none⟩), Value.pointer (some ⟨g1, 0, none⟩)]).toArray w (RetJ (JF W m0 gr g3 g1 (tokS st).2 (acc ++ [(tokS st).1]) [b])) := by
  obtain ⟨m, cs, ad, cap, css, hS0, F, hC, hrows⟩ := h
  rw [List.cons_append, List.nil_append] at F
  obtain ⟨⟨o, s1⟩, e1⟩ : ∃ x, x = numS 255 st.1 st.2 := ⟨_, rfl⟩
  obtain ⟨⟨n, s2⟩, e2⟩ : ∃ x, x = intS s1 := ⟨_, rfl⟩
  have hD : tokS st = (⟨o, n⟩, s2) := by
    have e1' : smallS st = (o, s1) := e1.symm
    simp only [tokS, bindS, pureS, e1', ← e2]
  rw [hD]
  clear hD
  have hle := numR_le (most := 255) (by omega) st
  unfold numR at hle
  rw [← e1] at hle
  dsimp only at hle
  have hwu : IntKind.u8.wrap (o : Int) = (o : Int) := by rw [IntKind.wrap_u8]; omega
  have ND := F.nodup
  simp only [List.map_cons, List.map_nil, List.nodup_cons, List.mem_cons, not_or] at ND
  have hx3 := not_in F (g := g3) (by simp) (gr := gr) (fun e => ND.1.2.1 e.symm)
  have hx1 := not_in F (g := g1) (by simp) (gr := gr) (fun e => ND.1.2.2.1 e.symm)
  show Calls _ _ #[Value.pointer (some ⟨g3, 0, none⟩), Value.pointer (some ⟨g1, 0, none⟩)] w _
  refine Sy.enter Try.func117 rfl Try.ntmps117 rfl ?_; intro ac T; simp only [Sy.enum, Nat.zero_add, Nat.reduceAdd] at T
  repeat ((simp only [Exit.then, Exit.inBlock, ↓reduceIte, Nat.reduceEqDiff]))
  refine Sy.sx_region F (gr :: (blk (.slice ad acc.length cap)).toList) (.t 0 (.t 1 (.t 2 (.t 5 (.t 6 (.h 3 (.t 4 (.h 7 (.t 8 (.h 9 (.h 10 .e))))))))))) [11] (by kernel_rfl) ?_; (clear F; intro w F)
  refine Sy.sx_plain rfl rfl (Sy.sx_val (Sy.rx_loadOne T F (hX := hx3)) T rfl ?_); (clear T; intro ac T); show Sy.wpUx _ _ _ _ _ _ _ _ _
  repeat (((refine Sy.sx_plain (h := ?_)); ((refine Sy.sx_pure T (h := ?_); clear T; intro ac T)); show Sy.wpUx _ _ _ _ _ _ _ _ _))
  refine Sy.sx_plain rfl rfl (Sy.sx_val (Sy.rx_loadOne T F (hX := hx1)) T rfl ?_); (clear T; intro ac T); show Sy.wpUx _ _ _ _ _ _ _ _ _
  repeat (((refine Sy.sx_plain (h := ?_)); ((refine Sy.sx_pure T (h := ?_); clear T; intro ac T)); show Sy.wpUx _ _ _ _ _ _ _ _ _))
  refine Sy.sx_plain rfl rfl (Sy.sx_val (Sy.rx_loadOne T F (hX := hx1)) T rfl ?_); (clear T; intro ac T); show Sy.wpUx _ _ _ _ _ _ _ _ _
  skip
  have G := Pk.num_r 255 (by omega) (Pk.RdX.mk (Sy.MemE.reX F (by repeat (first | exact Sy.Take.here | apply Sy.Take.there))) hC); rw [← e1] at G; refine Sy.sx_callX rfl T F (hc := G) (h := ?_); (clear T F G hC; intro v m cs ac w hR hS T F; obtain ⟨hV, hC⟩ := hR; dsimp only at hV hC)
  obtain rfl := hV
  replace hS0 := hS0.trans hS
  repeat (((refine Sy.sx_plain (h := ?_)); ((refine Sy.sx_pure T (h := ?_); clear T; intro ac T)); show Sy.wpUx _ _ _ _ _ _ _ _ _))
  have G := int_v (Pk.RdX.mk (Sy.MemE.reX F (by repeat (first | exact Sy.Take.here | apply Sy.Take.there))) hC); rw [← e2] at G; refine Sy.sx_callX rfl T F (hc := G) (h := ?_); (clear T F G hC; intro v m cs ac w hR hS T F; obtain ⟨hV, hC⟩ := hR; dsimp only at hV hC)
  obtain ⟨rfl, hI⟩ := hV
  replace hS0 := hS0.trans hS
  repeat (((refine Sy.sx_plain (h := ?_)); (((with_reducible refine Sy.ux_build ?_); refine Sy.sx_build T (h := ?_); (conv => whnf); (repeat (refine ⟨by first | exact rfl | exact ⟨rfl, rfl⟩, ?_⟩; (conv => whnf))); clear T; intro ac T)); show Sy.wpUx _ _ _ _ _ _ _ _ _))
  refine Sy.sx_buildSliceR rfl T F (h := ?_); (conv => whnf); (repeat (refine ⟨by first | exact rfl | exact ⟨rfl, rfl⟩, ?_⟩; (conv => whnf))); clear T F; intro ac gn w T F
  have hone : ∀ u ∈ [Value.int .u8 (o : Int), .int .i64 n], u.oneCell' = true := by intro u hu; simp at hu; rcases hu with rfl | rfl <;> rfl
  refine Sy.sx_appendC rfl T F (fun q hq => List.mem_cons_of_mem _ (Option.mem_toList.2 hq)) (k2 := 1) (cp := 1) (news := [.int .u8 (o : Int), .int .i64 n]) (cells_own (F.get Sy.Take.here)) rfl hone (hbytes := ?_) (h := ?_)
  · exact Nat.le_trans (Nat.mul_le_mul_right _ (show acc.length + 1 ≤ 1001 by omega)) (by decide)
  clear T F; intro ad' cap' X' ac w hX' T F
  have ea : acc.length + 1 = (acc ++ [(⟨o, n⟩ : Ex.Tok)]).length := by simp
  have ec : css.flatten ++ [Value.int .u8 (o : Int), .int .i64 n] = (css ++ [[Value.int .u8 (o : Int), .int .i64 n]]).flatten := by simp
  rw [ea, ec] at F
  rw [ea] at T
  repeat (first
    | (((with_reducible refine Sy.is_store ?_); ((refine Sy.st_storeOne T F (h := ?_); conv => whnf)); clear T F; intro ac w T F))
    | ((with_reducible refine Sy.atK (hK _ _ ?_)))
    | (with_reducible refine Sy.sx_nil ?_)
    | (with_reducible refine Sy.sx_end ?_)
    | (with_reducible refine Sy.sx_tail rfl rfl (fun K hK => ?_)))
  (try simp only [Exit.inBlock, Exit.then])
  refine Sy.st_end0 T F rfl ⟨rfl, ?_⟩
  exact ⟨_, _, ad', cap', css ++ [[Value.int .u8 (o : Int), .int .i64 n]], hS0, (F.sel (by repeat (first | exact Sy.Sel.nil | apply Sy.Sel.cons (by repeat (first | exact Sy.Take.here | apply Sy.Take.there))))), hC, rows_snoc (rows_up (fun _ _ h => h) hrows) rfl ⟨rfl, by unfold Ex.okT; exact ⟨by simp only; omega, hI⟩⟩⟩
set_option maxRecDepth 20000 in
theorem form_r {m0 W : World} {gr : Nat} {s : St} {cs : List Value} (h : RdX m0 W gr s cs) :
    Calls Try.prog 89 #[.agg #[.pointer (some ⟨gr, 0, none⟩)]] W (RetR m0 W gr ToksV (formS s)) := by
  have F := h.F
  have hC := h.c
  clear h
  refine Sy.enter Try.func89 rfl Try.ntmps89 rfl ?_; intro ac T; simp only [Sy.enum, Nat.zero_add, Nat.reduceAdd] at T
  repeat (first
    | (((with_reducible refine Sy.is_load ?_); (refine Sy.st_loadAll T F (h := ?_)); clear T; intro ac T))
    | (((with_reducible refine Sy.is_box ?_); (refine Sy.st_boxAgg T F (h := ?_)); clear T F; intro ac g w T F))
    | (((with_reducible refine Sy.is_alloc ?_); refine Sy.st_alloc T F (h := ?_); clear T F; intro ac g w T F))
    | (((with_reducible refine Sy.is_op ?_); refine Sy.st_pure T (h := ?_); clear T; intro ac T))
    | (with_reducible refine wpList_nil ?_)
    | (with_reducible refine wp_region_lit ?_)
    | ((with_reducible refine wp_seq_k ?_); intro _ _)
    | (go_at_K; go_step)
    | (simp only [Exit.then, Exit.inBlock, ↓reduceIte, Nat.reduceEqDiff]))
  obtain ⟨g1, rfl⟩ := name1 T 1 rfl
  obtain ⟨g3, rfl⟩ := name1 T 3 rfl
  replace F := F.slA0 135 2 none
  have hj : JF W m0 gr g3 g1 s [] [] _ := ⟨m0, cs, none, 0, [], Sub.refl _, (F.sel (by repeat (first | exact Sy.Sel.nil | apply Sy.Sel.cons (by repeat (first | exact Sy.Take.here | apply Sy.Take.there))))), hC, rows_nil⟩
  refine Sy.st_call (us := []) (ks := []) T rfl rfl rfl rfl (many_any (jf_opens W m0 gr g3 g1) tokS 24 (by omega) 117 rfl [.pointer (some ⟨g3, 0, none⟩), .pointer (some ⟨g1, 0, none⟩)] (fun st acc b w hj _ hlt => tok1_any hj hlt) hj) ?_
  rintro e w1 ⟨rfl, hj2⟩
  refine ⟨_, rfl, fun ac T' => ?_⟩
  obtain ⟨m, cs, ad, cap, css, hS0, F, hC, hrows⟩ := hj2
  have T := T'
  clear T' hj
  rw [List.nil_append] at F
  repeat (first
    | (((with_reducible refine Sy.is_load ?_); (refine Sy.st_loadOne T F (h := ?_)); clear T; intro ac T))
    | (((with_reducible refine Sy.is_op ?_); refine Sy.st_pure T (h := ?_); clear T; intro ac T))
    | (with_reducible refine wpList_nil ?_)
    | (with_reducible refine wp_region_lit ?_)
    | (with_reducible refine wp_ret ?_)
    | ((with_reducible refine wp_seq_k ?_); intro _ _)
    | (go_at_K; go_step)
    | (simp only [Exit.then, Exit.inBlock, ↓reduceIte, Nat.reduceEqDiff]))
  ((try simp only [Exit.inBlock, Exit.then]); refine Sy.st_ret1 T F rfl (by repeat (first | exact Sy.ResV.nil | apply Sy.ResV.tmp rfl | apply Sy.ResV.row rfl rfl rfl (by repeat (first | exact Sy.Take.here | apply Sy.Take.there)) (by rfl) | apply Sy.ResV.one rfl rfl rfl (by repeat (first | exact Sy.Take.here | apply Sy.Take.there)) (by rfl))) ?_)
  obtain ⟨v, m', cs', he, h1, h2, h3, h4, h5, ⟨a, cp, hv, hr, _⟩, h7⟩ := doneL F (by repeat (first | exact Sy.Take.here | apply Sy.Take.there)) hrows (fun _ _ _ _ _ h => h) hC (by decide)
  cases he
  exact ⟨_, m', cs', rfl, h1, h2, h3, h4, h5, ⟨a, cp, hv, toks_rows hr⟩, h7⟩
end Tk
end Go.Proofs.Ytniopkoaplkpkaa
