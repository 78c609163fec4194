/- The walks of taking rules and contracts. Conditions: the reader's bytes can be read. Printed by a program (gentkc.py). -/
import Derived.Test.YtniopkoaplkpkaaTkB
import Derived.Test.YtniopkoaplkpkaaTbO
namespace Go.Proofs.Ytniopkoaplkpkaa
open Go.RowKit
set_option linter.unusedVariables false
set_option linter.unusedSimpArgs false
namespace Tk
open Sy (RetV RetM Sub)
open Rg (eqT eqF i64_wrap I64 RowsOf flat_rows)
open Pk (RdX RdC RetR numS end_r endS intS)
open Rt (St loopS numR smlS smallS wellS SmlV IntV int_v numR_le name1 bindS pureS rows_up rows_snoc rows_nil doneL ListV cells_own RowV)
open Tb (SetD EmitD RuleD TabD SetR EmitR RuleR RuleA RuleAt ruleCs tabCs TabAt)
def setS : St → SetD × St := bindS smlS fun v => bindS formS fun l => pureS ⟨(v : Int), l⟩
def emitS : St → EmitD × St := bindS smallS fun t => bindS smlS fun a => bindS formS fun l => pureS ⟨t, (a : Int), l⟩
def ruleTS : St → RuleD × St := bindS smlS fun f => bindS smlS fun a => bindS smlS fun p => bindS smlS fun t => bindS formS fun g => bindS (manyS 8 setS) fun s => bindS (manyS 4 emitS) fun e => pureS ⟨(f : Int), (a : Int), (p : Int), (t : Int), g, s, e⟩
def tabTS : St → TabD × St := bindS smlS fun s => bindS smlS fun v => bindS (manyS 32 ruleTS) fun r => pureS ⟨(s : Int), (v : Int), r⟩
/-- a list that the call owns stands still from now on -/
theorem frzL {α : Type} {R : World → List Value → α → Prop} {c : Nat} {E1 : Sy.Ext} {m0 W m w : World} {X : List Nat} {bs : List Sy.Blk} {e : TypeId} {a : Option Addr} {cap : Nat} {acc : List α} {css : List (List Value)}
    (F : Sy.MemE (Sy.SlA E1 e c (.slice a acc.length cap) acc.length css.flatten) ⟨W, X, m0⟩ m bs w) (hX : ∀ x ∈ X, x ∈ bs.map Sy.Blk.adr) (hrows : RowsOf R c m css acc) (hup : ∀ m m' cs x, Sub m m' → R m cs x → R m' cs x) (hc0 : 0 < c) :
    ∃ m', Sub m m' ∧ Sy.MemE E1 ⟨W, X, m0⟩ m' bs w ∧ Rows R c m' a acc ∧ acc.length ≤ cap ∧ cap ≤ maxLen := by
  obtain ⟨m', hS, F', hcells⟩ := F.freezeX fun k hkk => (F.loose k (.inr hkk)).1.resolve_right fun hx => (F.loose k (.inr hkk)).2.1 (hX k hx)
  obtain ⟨a', cap', hv, hl, hn, hm, _⟩ := F.ext.2.1
  simp at hv
  obtain ⟨rfl, rfl⟩ := hv
  exact ⟨m', hS, F', flat_rows (Nat.le_trans hn hm) hc0 (rows_up (fun _ _ h => hup _ _ _ _ hS h) hrows) (hcells a cap rfl), hn, hm⟩
def JS (W m0 mg : World) (gr g3 g1 g2 : Nat) (v0 v1 v2 v3 v4 v6 : Value) (z : List Value) (st : St) (acc : List SetD) (ex : List Sy.Blk) (w : World) : Prop := ∃ m cs ad cap css, Sub mg m ∧
  Sy.MemE (Sy.SlA Sy.E0 78 2 (.slice ad acc.length cap) acc.length css.flatten) ⟨W, [gr], m0⟩ m (⟨gr, cs, 100⟩ :: (ex ++ [⟨g3, [v0, v1, v2, v3, v4, .slice ad acc.length cap, v6], 76⟩, ⟨g1, [.pointer (some ⟨gr, 0, none⟩)], 85⟩, ⟨g2, z, 76⟩])) w ∧ RdC m st cs ∧ RowsOf SetR 2 m css acc
theorem js_opens (W m0 mg : World) (gr g3 g1 g2 : Nat) (v0 v1 v2 v3 v4 v6 : Value) (z : List Value) : Opens gr (JS W m0 mg gr g3 g1 g2 v0 v1 v2 v3 v4 v6 z) := fun st acc ex w ⟨m, cs, ad, cap, css, hS, F, hC, hr⟩ =>
  ⟨_, _, m, cs, _, F, hC, fun m' cs' st' ex' w' hs F' hC' => ⟨m', cs', ad, cap, css, hS.trans hs, F', hC', rows_up (fun _ _ h => h.sub hs) hr⟩⟩
def JE (W m0 mg : World) (gr g3 g1 g2 : Nat) (v0 v1 v2 v3 v4 v5 : Value) (z : List Value) (st : St) (acc : List EmitD) (ex : List Sy.Blk) (w : World) : Prop := ∃ m cs ad cap css, Sub mg m ∧
  Sy.MemE (Sy.SlA Sy.E0 80 3 (.slice ad acc.length cap) acc.length css.flatten) ⟨W, [gr], m0⟩ m (⟨gr, cs, 100⟩ :: (ex ++ [⟨g3, [v0, v1, v2, v3, v4, v5, .slice ad acc.length cap], 76⟩, ⟨g1, [.pointer (some ⟨gr, 0, none⟩)], 85⟩, ⟨g2, z, 76⟩])) w ∧ RdC m st cs ∧ RowsOf EmitR 3 m css acc
theorem je_opens (W m0 mg : World) (gr g3 g1 g2 : Nat) (v0 v1 v2 v3 v4 v5 : Value) (z : List Value) : Opens gr (JE W m0 mg gr g3 g1 g2 v0 v1 v2 v3 v4 v5 z) := fun st acc ex w ⟨m, cs, ad, cap, css, hS, F, hC, hr⟩ =>
  ⟨_, _, m, cs, _, F, hC, fun m' cs' st' ex' w' hs F' hC' => ⟨m', cs', ad, cap, css, hS.trans hs, F', hC', rows_up (fun _ _ h => h.sub hs) hr⟩⟩
def JR (W m0 mg : World) (gr g3 g1 g2 : Nat) (v0 v1 : Value) (z : List Value) (st : St) (acc : List RuleD) (ex : List Sy.Blk) (w : World) : Prop := ∃ m cs ad cap css, Sub mg m ∧
  Sy.MemE (Sy.SlA Sy.E0 76 7 (.slice ad acc.length cap) acc.length css.flatten) ⟨W, [], m0⟩ m (⟨gr, cs, 100⟩ :: (ex ++ [⟨g3, [v0, v1, .slice ad acc.length cap], 24⟩, ⟨g1, [.pointer (some ⟨gr, 0, none⟩)], 85⟩, ⟨g2, z, 24⟩])) w ∧ RdC m st cs ∧ RowsOf RuleR 7 m css acc
theorem jr_opens (W m0 mg : World) (gr g3 g1 g2 : Nat) (v0 v1 : Value) (z : List Value) : Opens gr (JR W m0 mg gr g3 g1 g2 v0 v1 z) := fun st acc ex w ⟨m, cs, ad, cap, css, hS, F, hC, hr⟩ =>
  ⟨_, _, m, cs, _, F, hC, fun m' cs' st' ex' w' hs F' hC' => ⟨m', cs', ad, cap, css, hS.trans hs, F', hC', rows_up (fun _ _ h => h.sub hs) hr⟩⟩

set_option maxRecDepth 20000 in
set_option maxHeartbeats 1000000 in
theorem set1_any {W m0 mg : World} {gr g3 g1 g2 : Nat} {v0 v1 v2 v3 v4 v6 : Value} {z : List Value} {st : St} {acc : List SetD} {b : Sy.Blk} {w : World} (h : JS W m0 mg gr g3 g1 g2 v0 v1 v2 v3 v4 v6 z st acc [b] w) (hlt : acc.length < 8) :
    Calls Try.prog 90 ([] ++ [] ++ [Value.pointer (some ⟨g3, 0, none⟩), Value.pointer (some ⟨g1, 0, none⟩)]).toArray w (RetJ (JS W m0 mg gr g3 g1 g2 v0 v1 v2 v3 v4 v6 z (setS st).2 (acc ++ [(setS st).1]) [b])) := by
  obtain ⟨m, cs, ad, cap, css, hS0, F, hC, hrows⟩ := h
  rw [List.cons_append, List.nil_append] at F
  obtain ⟨⟨v, s1⟩, e1⟩ : ∃ x, x = smlS st := ⟨_, rfl⟩
  obtain ⟨⟨l, s2⟩, e2⟩ : ∃ x, x = formS s1 := ⟨_, rfl⟩
  have hD : setS st = (⟨(v : Int), l⟩, s2) := by simp only [setS, bindS, pureS, ← e1, ← e2]
  rw [hD]
  clear hD

  have ND := F.nodup
  simp only [List.map_cons, List.map_nil, List.nodup_cons, List.mem_cons, not_or] at ND
  have hx3 := not_in F (g := g3) (by simp) (gr := gr) (fun e => ND.1.2.1 e.symm)
  have hx1 := not_in F (g := g1) (by simp) (gr := gr) (fun e => ND.1.2.2.1 e.symm)
  show Calls _ _ #[Value.pointer (some ⟨g3, 0, none⟩), Value.pointer (some ⟨g1, 0, none⟩)] w _
  refine Sy.enter Try.func90 rfl Try.ntmps90 rfl ?_; intro ac T; simp only [Sy.enum, Nat.zero_add, Nat.reduceAdd] at T
  repeat ((simp only [Exit.then, Exit.inBlock, ↓reduceIte, Nat.reduceEqDiff]))
  refine Sy.sx_region F (gr :: (blk (.slice ad acc.length cap)).toList) (.t 0 (.t 1 (.t 2 (.t 4 (.h 3 (.h 5 (.t 6 (.h 7 (.h 8 .e))))))))) [9, 10] (by kernel_rfl) ?_; (clear F; intro w F)
  repeat (((refine Sy.sx_plain (h := ?_)); ((refine Sy.sx_pure T (h := ?_); clear T; intro ac T)); show Sy.wpUx _ _ _ _ _ _ _ _ _))
  refine Sy.sx_plain rfl rfl (Sy.sx_val (Sy.rx_loadOne T F (hX := hx3)) T rfl ?_); (clear T; intro ac T); show Sy.wpUx _ _ _ _ _ _ _ _ _
  skip
  refine Sy.sx_plain rfl rfl (Sy.sx_val (Sy.rx_loadAll T F (hX := hx1)) T rfl ?_); (clear T; intro ac T); show Sy.wpUx _ _ _ _ _ _ _ _ _
  skip
  refine Sy.sx_plain rfl rfl (Sy.sx_val (Sy.rx_loadAll T F (hX := hx1)) T rfl ?_); (clear T; intro ac T); show Sy.wpUx _ _ _ _ _ _ _ _ _
  skip
  have G := num_r (Pk.RdX.mk (Sy.MemE.reX F (by repeat (first | exact Sy.Take.here | apply Sy.Take.there))) hC); rw [← e1] at G; refine Sy.sx_callX rfl T F (hc := G) (h := ?_); (clear T F G hC; intro v m cs ac w hR hS T F; obtain ⟨hV, hC⟩ := hR; dsimp only at hV hC)
  obtain ⟨rfl, hb1⟩ := hV
  have hS1 := hS
  replace hS0 := hS0.trans hS
  skip
  have G := form_r (Pk.RdX.mk (Sy.MemE.reX F (by repeat (first | exact Sy.Take.here | apply Sy.Take.there))) hC); rw [← e2] at G; refine Sy.sx_callX rfl T F (hc := G) (h := ?_); (clear T F G hC; intro v m cs ac w hR hS T F; obtain ⟨hV, hC⟩ := hR; dsimp only at hV hC)
  obtain ⟨ga, gc, rfl, hI⟩ := hV
  have hS2 := hS
  replace hS0 := hS0.trans hS
  repeat (((refine Sy.sx_plain (h := ?_)); (((with_reducible refine Sy.ux_build ?_); refine Sy.sx_build T (h := ?_); (conv => whnf); (repeat (refine ⟨by first | exact rfl | exact ⟨rfl, rfl⟩, ?_⟩; (conv => whnf))); clear T; intro ac T)); show Sy.wpUx _ _ _ _ _ _ _ _ _))
  refine Sy.sx_buildSliceR rfl T F (h := ?_); (conv => whnf); (repeat (refine ⟨by first | exact rfl | exact ⟨rfl, rfl⟩, ?_⟩; (conv => whnf))); clear T F; intro ac gn w T F
  obtain ⟨news, hnews⟩ : ∃ news, news = [Value.int .i64 (v : Int), .slice ga l.length gc] := ⟨_, rfl⟩
  have hone : ∀ u ∈ news, u.oneCell' = true := by rw [hnews]; intro u hu; simp at hu; rcases hu with rfl | rfl <;> rfl
  have hlen : news.length = 2 := by rw [hnews]; rfl
  refine Sy.sx_appendC rfl T F (fun q hq => List.mem_cons_of_mem _ (Option.mem_toList.2 hq)) (k2 := 1) (cp := 1) (news := news) (by rw [hnews]; exact cells_own (F.get Sy.Take.here)) (by exact hlen) (by exact hone) (hbytes := ?_) (h := ?_)
  · exact Nat.le_trans (Nat.mul_le_mul_right _ (show acc.length + 1 ≤ 1001 by omega)) (by decide)
  clear T F; intro ad' cap' X' ac w hX' T F
  rw [show acc.length + 1 = (acc ++ [(⟨(v : Int), l⟩ : SetD)]).length by simp, show css.flatten ++ news = (css ++ [news]).flatten by simp] at F
  rw [show acc.length + 1 = (acc ++ [(⟨(v : Int), l⟩ : SetD)]).length by simp] at T
  repeat (first
    | (((with_reducible refine Sy.is_store ?_); ((refine Sy.st_storeOne T F (h := ?_); conv => whnf)); clear T F; intro ac w T F))
    | (((with_reducible refine Sy.is_op ?_); refine Sy.st_pure T (h := ?_); clear T; intro ac T))
    | ((with_reducible refine Sy.atK (hK _ _ ?_)))
    | (with_reducible refine Sy.sx_nil ?_)
    | (with_reducible refine Sy.sx_end ?_)
    | (with_reducible refine Sy.sx_tail rfl rfl (fun K hK => ?_)))
  (try simp only [Exit.inBlock, Exit.then])
  refine Sy.st_end0 T F rfl ⟨rfl, ?_⟩
  exact ⟨_, _, ad', cap', css ++ [news], hS0, (F.sel (by repeat (first | exact Sy.Sel.nil | apply Sy.Sel.cons (by repeat (first | exact Sy.Take.here | apply Sy.Take.there))))), hC, rows_snoc (rows_up (fun _ _ h => h.sub (hS1.trans hS2)) hrows) hlen (by rw [hnews]; exact ⟨ga, gc, rfl, (by unfold I64; simp only; omega), hI⟩)⟩

set_option maxRecDepth 20000 in
set_option maxHeartbeats 1000000 in
theorem emit1_any {W m0 mg : World} {gr g3 g1 g2 : Nat} {v0 v1 v2 v3 v4 v5 : Value} {z : List Value} {st : St} {acc : List EmitD} {b : Sy.Blk} {w : World} (h : JE W m0 mg gr g3 g1 g2 v0 v1 v2 v3 v4 v5 z st acc [b] w) (hlt : acc.length < 4) :
    Calls Try.prog 91 ([] ++ [] ++ [Value.pointer (some ⟨g3, 0, none⟩), Value.pointer (some ⟨g1, 0, none⟩)]).toArray w (RetJ (JE W m0 mg gr g3 g1 g2 v0 v1 v2 v3 v4 v5 z (emitS st).2 (acc ++ [(emitS st).1]) [b])) := by
  obtain ⟨m, cs, ad, cap, css, hS0, F, hC, hrows⟩ := h
  rw [List.cons_append, List.nil_append] at F
  obtain ⟨⟨o, s1⟩, e1⟩ : ∃ x, x = numS 255 st.1 st.2 := ⟨_, rfl⟩
  obtain ⟨⟨v, s2⟩, e2⟩ : ∃ x, x = smlS s1 := ⟨_, rfl⟩
  obtain ⟨⟨l, s3⟩, e3⟩ : ∃ x, x = formS s2 := ⟨_, rfl⟩
  have e1' : smallS st = (o, s1) := e1.symm
  have hD : emitS st = (⟨o, (v : Int), l⟩, s3) := by simp only [emitS, bindS, pureS, e1', ← e2, ← e3]
  rw [hD]
  clear hD
  have hle := numR_le (most := 255) (by omega) st
  unfold numR at hle
  rw [← e1] at hle
  dsimp only at hle
  have hwu : IntKind.u8.wrap (o : Int) = (o : Int) := by rw [IntKind.wrap_u8]; omega
  have ND := F.nodup
  simp only [List.map_cons, List.map_nil, List.nodup_cons, List.mem_cons, not_or] at ND
  have hx3 := not_in F (g := g3) (by simp) (gr := gr) (fun e => ND.1.2.1 e.symm)
  have hx1 := not_in F (g := g1) (by simp) (gr := gr) (fun e => ND.1.2.2.1 e.symm)
  show Calls _ _ #[Value.pointer (some ⟨g3, 0, none⟩), Value.pointer (some ⟨g1, 0, none⟩)] w _
  refine Sy.enter Try.func91 rfl Try.ntmps91 rfl ?_; intro ac T; simp only [Sy.enum, Nat.zero_add, Nat.reduceAdd] at T
  repeat ((simp only [Exit.then, Exit.inBlock, ↓reduceIte, Nat.reduceEqDiff]))
  refine Sy.sx_region F (gr :: (blk (.slice ad acc.length cap)).toList) (.t 0 (.t 1 (.t 2 (.t 3 (.t 6 (.t 8 (.h 4 (.t 5 (.h 7 (.h 9 (.t 10 (.h 11 (.h 12 .e))))))))))))) [13, 14] (by kernel_rfl) ?_; (clear F; intro w F)
  repeat (((refine Sy.sx_plain (h := ?_)); ((refine Sy.sx_pure T (h := ?_); clear T; intro ac T)); show Sy.wpUx _ _ _ _ _ _ _ _ _))
  refine Sy.sx_plain rfl rfl (Sy.sx_val (Sy.rx_loadOne T F (hX := hx3)) T rfl ?_); (clear T; intro ac T); show Sy.wpUx _ _ _ _ _ _ _ _ _
  repeat (((refine Sy.sx_plain (h := ?_)); ((refine Sy.sx_pure T (h := ?_); clear T; intro ac T)); show Sy.wpUx _ _ _ _ _ _ _ _ _))
  refine Sy.sx_plain rfl rfl (Sy.sx_val (Sy.rx_loadOne T F (hX := hx1)) T rfl ?_); (clear T; intro ac T); show Sy.wpUx _ _ _ _ _ _ _ _ _
  skip
  refine Sy.sx_plain rfl rfl (Sy.sx_val (Sy.rx_loadAll T F (hX := hx1)) T rfl ?_); (clear T; intro ac T); show Sy.wpUx _ _ _ _ _ _ _ _ _
  skip
  refine Sy.sx_plain rfl rfl (Sy.sx_val (Sy.rx_loadAll T F (hX := hx1)) T rfl ?_); (clear T; intro ac T); show Sy.wpUx _ _ _ _ _ _ _ _ _
  skip
  have G := Pk.num_r 255 (by omega) (Pk.RdX.mk (Sy.MemE.reX F (by repeat (first | exact Sy.Take.here | apply Sy.Take.there))) hC); rw [← e1] at G; refine Sy.sx_callX rfl T F (hc := G) (h := ?_); (clear T F G hC; intro v m cs ac w hR hS T F; obtain ⟨hV, hC⟩ := hR; dsimp only at hV hC)
  obtain rfl := hV
  have hS1 := hS
  replace hS0 := hS0.trans hS
  repeat (((refine Sy.sx_plain (h := ?_)); ((refine Sy.sx_pure T (h := ?_); clear T; intro ac T)); show Sy.wpUx _ _ _ _ _ _ _ _ _))
  have G := num_r (Pk.RdX.mk (Sy.MemE.reX F (by repeat (first | exact Sy.Take.here | apply Sy.Take.there))) hC); rw [← e2] at G; refine Sy.sx_callX rfl T F (hc := G) (h := ?_); (clear T F G hC; intro v m cs ac w hR hS T F; obtain ⟨hV, hC⟩ := hR; dsimp only at hV hC)
  obtain ⟨rfl, hb1⟩ := hV
  have hS2 := hS
  replace hS0 := hS0.trans hS
  skip
  have G := form_r (Pk.RdX.mk (Sy.MemE.reX F (by repeat (first | exact Sy.Take.here | apply Sy.Take.there))) hC); rw [← e3] at G; refine Sy.sx_callX rfl T F (hc := G) (h := ?_); (clear T F G hC; intro v m cs ac w hR hS T F; obtain ⟨hV, hC⟩ := hR; dsimp only at hV hC)
  obtain ⟨ga, gc, rfl, hI⟩ := hV
  have hS3 := hS
  replace hS0 := hS0.trans hS
  repeat (((refine Sy.sx_plain (h := ?_)); (((with_reducible refine Sy.ux_build ?_); refine Sy.sx_build T (h := ?_); (conv => whnf); (repeat (refine ⟨by first | exact rfl | exact ⟨rfl, rfl⟩, ?_⟩; (conv => whnf))); clear T; intro ac T)); show Sy.wpUx _ _ _ _ _ _ _ _ _))
  refine Sy.sx_buildSliceR rfl T F (h := ?_); (conv => whnf); (repeat (refine ⟨by first | exact rfl | exact ⟨rfl, rfl⟩, ?_⟩; (conv => whnf))); clear T F; intro ac gn w T F
  obtain ⟨news, hnews⟩ : ∃ news, news = [Value.int .u8 (o : Int), .int .i64 (v : Int), .slice ga l.length gc] := ⟨_, rfl⟩
  have hone : ∀ u ∈ news, u.oneCell' = true := by rw [hnews]; intro u hu; simp at hu; rcases hu with rfl | rfl | rfl <;> rfl
  have hlen : news.length = 3 := by rw [hnews]; rfl
  refine Sy.sx_appendC rfl T F (fun q hq => List.mem_cons_of_mem _ (Option.mem_toList.2 hq)) (k2 := 1) (cp := 1) (news := news) (by rw [hnews]; exact cells_own (F.get Sy.Take.here)) (by exact hlen) (by exact hone) (hbytes := ?_) (h := ?_)
  · exact Nat.le_trans (Nat.mul_le_mul_right _ (show acc.length + 1 ≤ 1001 by omega)) (by decide)
  clear T F; intro ad' cap' X' ac w hX' T F
  rw [show acc.length + 1 = (acc ++ [(⟨o, (v : Int), l⟩ : EmitD)]).length by simp, show css.flatten ++ news = (css ++ [news]).flatten by simp] at F
  rw [show acc.length + 1 = (acc ++ [(⟨o, (v : Int), l⟩ : EmitD)]).length by simp] at T
  repeat (first
    | (((with_reducible refine Sy.is_store ?_); ((refine Sy.st_storeOne T F (h := ?_); conv => whnf)); clear T F; intro ac w T F))
    | (((with_reducible refine Sy.is_op ?_); refine Sy.st_pure T (h := ?_); clear T; intro ac T))
    | ((with_reducible refine Sy.atK (hK _ _ ?_)))
    | (with_reducible refine Sy.sx_nil ?_)
    | (with_reducible refine Sy.sx_end ?_)
    | (with_reducible refine Sy.sx_tail rfl rfl (fun K hK => ?_)))
  (try simp only [Exit.inBlock, Exit.then])
  refine Sy.st_end0 T F rfl ⟨rfl, ?_⟩
  exact ⟨_, _, ad', cap', css ++ [news], hS0, (F.sel (by repeat (first | exact Sy.Sel.nil | apply Sy.Sel.cons (by repeat (first | exact Sy.Take.here | apply Sy.Take.there))))), hC, rows_snoc (rows_up (fun _ _ h => h.sub ((hS1.trans hS2).trans hS3)) hrows) hlen (by rw [hnews]; exact ⟨ga, gc, rfl, (by unfold Rg.U8; simp only; omega), (by unfold I64; simp only; omega), hI⟩)⟩

set_option maxRecDepth 20000 in
set_option maxHeartbeats 4000000 in
theorem rule_r {m0 W : World} {gr : Nat} {s : St} {cs : List Value} (h : RdX m0 W gr s cs) :
    Calls Try.prog 49 #[.agg #[.pointer (some ⟨gr, 0, none⟩)]] W (RetR m0 W gr (RowV RuleR) (ruleTS s)) := by
  have F := h.F
  have hC := h.c
  clear h
  obtain ⟨⟨f, s1⟩, e1⟩ : ∃ x, x = smlS s := ⟨_, rfl⟩
  obtain ⟨⟨a, s2⟩, e2⟩ : ∃ x, x = smlS s1 := ⟨_, rfl⟩
  obtain ⟨⟨p, s3⟩, e3⟩ : ∃ x, x = smlS s2 := ⟨_, rfl⟩
  obtain ⟨⟨t, s4⟩, e4⟩ : ∃ x, x = smlS s3 := ⟨_, rfl⟩
  obtain ⟨⟨g, s5⟩, e5⟩ : ∃ x, x = formS s4 := ⟨_, rfl⟩
  obtain ⟨⟨sl, s6⟩, e6⟩ : ∃ x, x = manyS 8 setS s5 := ⟨_, rfl⟩
  obtain ⟨⟨el, s7⟩, e7⟩ : ∃ x, x = manyS 4 emitS s6 := ⟨_, rfl⟩
  have hD : ruleTS s = (⟨f, a, p, t, g, sl, el⟩, s7) := by simp only [ruleTS, bindS, pureS, ← e1, ← e2, ← e3, ← e4, ← e5, ← e6, ← e7]
  rw [hD]
  clear hD
  refine Sy.enter Try.func49 rfl Try.ntmps49 rfl ?_; intro ac T; simp only [Sy.enum, Nat.zero_add, Nat.reduceAdd] at T
  repeat (first
    | (((with_reducible refine Sy.is_box ?_); (refine Sy.st_boxAgg T F (h := ?_)); clear T F; intro ac g w T F))
    | (((with_reducible refine Sy.is_alloc ?_); refine Sy.st_alloc T F (h := ?_); clear T F; intro ac g w T F))
    | (with_reducible refine wpList_nil ?_)
    | (with_reducible refine wp_region_lit ?_)
    | ((with_reducible refine wp_seq_k ?_); intro _ _)
    | (go_at_K; go_step)
    | (simp only [Exit.then, Exit.inBlock, ↓reduceIte, Nat.reduceEqDiff]))
  refine Sy.sx_region F [gr] (.t 0 (.t 2 (.t 4 (.t 6 (.t 8 (.f 1 (.f 3 (.f 5 (.f 7 (.f 9 (.t 10 (.h 11 .e)) 11 (.h 9 (.t 10 .e))) 11 (.h 7 (.h 9 (.t 10 .e)))) 11 (.h 5 (.h 7 (.h 9 (.t 10 .e))))) 11 (.h 3 (.h 5 (.h 7 (.h 9 (.t 10 .e)))))) 11 (.h 1 (.h 3 (.h 5 (.h 7 (.h 9 (.t 10 .e)))))))))))) [12] (by kernel_rfl) ?_; (clear F; intro w F)
  repeat (first
    | ((refine Sy.sx_plain (h := ?_)); (((with_reducible refine Sy.ux_load ?_); (refine Sy.sx_val (Sy.rx_loadAll T F) T rfl ?_); clear T; intro ac T)); show Sy.wpUx _ _ _ _ _ _ _ _ _)
    | (with_reducible refine Sy.sx_fork ?_ ?_))
  all_goals try repeat (((refine Sy.sx_new (T := T) (F := F) (hr := Sy.new_alloc rfl) (h := ?_)); clear T F; intro ac g w T F))
  all_goals (have G := num_r (Pk.RdX.mk (Sy.MemE.reX F (by repeat (first | exact Sy.Take.here | apply Sy.Take.there))) hC); rw [← e1] at G; refine Sy.sx_callX rfl T F (hc := G) (h := ?_); (clear T F G hC; intro v m cs ac w hR hS T F; obtain ⟨hV, hC⟩ := hR; dsimp only at hV hC); obtain ⟨rfl, hb1⟩ := hV; (have hQ1 := hS); repeat ((with_reducible refine Sy.sx_fork ?_ ?_)))
  all_goals try repeat (((refine Sy.sx_new (T := T) (F := F) (hr := Sy.new_alloc rfl) (h := ?_)); clear T F; intro ac g w T F))
  all_goals (have G := num_r (Pk.RdX.mk (Sy.MemE.reX F (by repeat (first | exact Sy.Take.here | apply Sy.Take.there))) hC); rw [← e2] at G; refine Sy.sx_callX rfl T F (hc := G) (h := ?_); (clear T F G hC; intro v m cs ac w hR hS T F; obtain ⟨hV, hC⟩ := hR; dsimp only at hV hC); obtain ⟨rfl, hb2⟩ := hV; (have hQ2 := hS); repeat ((with_reducible refine Sy.sx_fork ?_ ?_)))
  all_goals try repeat (((refine Sy.sx_new (T := T) (F := F) (hr := Sy.new_alloc rfl) (h := ?_)); clear T F; intro ac g w T F))
  all_goals (have G := num_r (Pk.RdX.mk (Sy.MemE.reX F (by repeat (first | exact Sy.Take.here | apply Sy.Take.there))) hC); rw [← e3] at G; refine Sy.sx_callX rfl T F (hc := G) (h := ?_); (clear T F G hC; intro v m cs ac w hR hS T F; obtain ⟨hV, hC⟩ := hR; dsimp only at hV hC); obtain ⟨rfl, hb3⟩ := hV; (have hQ3 := hS); repeat ((with_reducible refine Sy.sx_fork ?_ ?_)))
  all_goals try repeat (((refine Sy.sx_new (T := T) (F := F) (hr := Sy.new_alloc rfl) (h := ?_)); clear T F; intro ac g w T F))
  all_goals (have G := num_r (Pk.RdX.mk (Sy.MemE.reX F (by repeat (first | exact Sy.Take.here | apply Sy.Take.there))) hC); rw [← e4] at G; refine Sy.sx_callX rfl T F (hc := G) (h := ?_); (clear T F G hC; intro v m cs ac w hR hS T F; obtain ⟨hV, hC⟩ := hR; dsimp only at hV hC); obtain ⟨rfl, hb4⟩ := hV; (have hQ4 := hS); repeat ((with_reducible refine Sy.sx_fork ?_ ?_)))
  all_goals try repeat (((refine Sy.sx_new (T := T) (F := F) (hr := Sy.new_alloc rfl) (h := ?_)); clear T F; intro ac g w T F))
  all_goals (have G := form_r (Pk.RdX.mk (Sy.MemE.reX F (by repeat (first | exact Sy.Take.here | apply Sy.Take.there))) hC); rw [← e5] at G; refine Sy.sx_callX rfl T F (hc := G) (h := ?_); (clear T F G hC; intro v m cs ac w hR hS T F; obtain ⟨hV, hC⟩ := hR; dsimp only at hV hC); obtain ⟨ga, gc, rfl, hg⟩ := hV; (have hQ5 := hS); repeat (first
    | (((with_reducible refine Sy.is_load ?_); (refine Sy.st_loadAll T F (h := ?_)); clear T; intro ac T))
    | (((with_reducible refine Sy.is_store ?_); (refine Sy.st_storeAll T F (h := ?_)); clear T F; intro ac w T F))
    | (((with_reducible refine Sy.is_op ?_); refine Sy.st_pure T (h := ?_); clear T; intro ac T))
    | ((with_reducible refine Sy.atK (hK _ _ ?_)))
    | (with_reducible refine wp_region_lit ?_)
    | ((with_reducible refine wp_seq_k ?_); intro _ _)
    | (go_at_K; go_step)
    | (simp only [Exit.then, Exit.inBlock, ↓reduceIte, Nat.reduceEqDiff])
    | ((refine Sy.sx_plain (h := ?_)); (((with_reducible refine Sy.ux_build ?_); refine Sy.sx_build T (h := ?_); (conv => whnf); (repeat (refine ⟨by first | exact rfl | exact ⟨rfl, rfl⟩, ?_⟩; (conv => whnf))); clear T; intro ac T)); show Sy.wpUx _ _ _ _ _ _ _ _ _)
    | (with_reducible refine Sy.sx_nil ?_)
    | (with_reducible refine Sy.sx_end ?_)
    | (with_reducible refine Sy.sx_tail rfl rfl (fun K hK => ?_))
    | ((refine Sy.sx_new (T := T) (F := F) (hr := Sy.new_alloc rfl) (h := ?_)); clear T F; intro ac g w T F)))
  all_goals try skip
  all_goals
    obtain ⟨g2, rfl⟩ := name1 T 2 rfl
    obtain ⟨g1, rfl⟩ := name1 T 1 rfl
    obtain ⟨g3, rfl⟩ := name1 T 3 rfl
    have hS5 := (((hQ1.trans hQ2).trans hQ3).trans hQ4).trans hQ5
    replace F := F.slA0 78 2 none
    have hj := (⟨_, _, none, 0, [], Sub.refl _, (F.sel (by repeat (first | exact Sy.Sel.nil | apply Sy.Sel.cons (by repeat (first | exact Sy.Take.here | apply Sy.Take.there))))), hC, rows_nil⟩ : JS W m0 _ gr g3 g1 g2 (.int .i64 (f : Int)) (.int .i64 (a : Int)) (.int .i64 (p : Int)) (.int .i64 (t : Int)) (.slice ga g.length gc) (.slice none 0 0) _ s5 [] [] _)
    refine Sy.st_call (us := []) (ks := []) T rfl rfl rfl rfl (many_any (js_opens _ _ _ _ _ _ _ _ _ _ _ _ _ _) setS 8 (by omega) 90 rfl [.pointer (some ⟨g3, 0, none⟩), .pointer (some ⟨g1, 0, none⟩)] (fun st acc b w hj _ hlt => set1_any hj hlt) hj) ?_
    rw [← e6]
    rintro en w1 ⟨rfl, hj2⟩
    refine ⟨_, rfl, fun ac T' => ?_⟩
    clear T F hj
    obtain ⟨m, cs, ad, cap, css, hS0, F, hC, hrows⟩ := hj2
    have T := T'
    clear T'
    rw [List.nil_append] at F
    dsimp only at F hC hrows
    obtain ⟨m', hS1, F', hrs, hc1, hc2⟩ := frzL F (by simp) hrows (fun _ _ _ _ hs h => h.sub hs) (by decide)
    replace hC := hC.sub hS1
    clear F
    have F := F'
    clear F' hrows
    have hS6 := hS0.trans hS1
    repeat (first
    | (((with_reducible refine Sy.is_load ?_); (refine Sy.st_loadAll T F (h := ?_)); clear T; intro ac T))
    | (((with_reducible refine Sy.is_op ?_); refine Sy.st_pure T (h := ?_); clear T; intro ac T))
    | (with_reducible refine wpList_nil ?_)
    | (with_reducible refine wp_region_lit ?_)
    | ((with_reducible refine wp_seq_k ?_); intro _ _)
    | (go_at_K; go_step)
    | (simp only [Exit.then, Exit.inBlock, ↓reduceIte, Nat.reduceEqDiff]))
    replace F := F.slA0 80 3 none
    have hj := (⟨_, _, none, 0, [], Sub.refl _, (F.sel (by repeat (first | exact Sy.Sel.nil | apply Sy.Sel.cons (by repeat (first | exact Sy.Take.here | apply Sy.Take.there))))), hC, rows_nil⟩ : JE W m0 _ gr g3 g1 g2 (.int .i64 (f : Int)) (.int .i64 (a : Int)) (.int .i64 (p : Int)) (.int .i64 (t : Int)) (.slice ga g.length gc) (.slice ad sl.length cap) _ s6 [] [] _)
    have hrs6 := hrs
    have hc6 := hc1
    refine Sy.st_call (us := []) (ks := []) T rfl rfl rfl rfl (many_any (je_opens _ _ _ _ _ _ _ _ _ _ _ _ _ _) emitS 4 (by omega) 91 rfl [.pointer (some ⟨g3, 0, none⟩), .pointer (some ⟨g1, 0, none⟩)] (fun st acc b w hj _ hlt => emit1_any hj hlt) hj) ?_
    rw [← e7]
    rintro en w1 ⟨rfl, hj2⟩
    refine ⟨_, rfl, fun ac T' => ?_⟩
    clear T F hj
    obtain ⟨m, cs, ad, cap, css, hS0, F, hC, hrows⟩ := hj2
    have T := T'
    clear T'
    rw [List.nil_append] at F
    dsimp only at F hC hrows
    obtain ⟨m', hS1, F', hrs, hc1, hc2⟩ := frzL F (by simp) hrows (fun _ _ _ _ hs h => h.sub hs) (by decide)
    replace hC := hC.sub hS1
    clear F
    have F := F'
    clear F' hrows
    have hS7 := hS0.trans hS1
    repeat (first
    | (((with_reducible refine Sy.is_load ?_); (refine Sy.st_loadAll T F (h := ?_)); clear T; intro ac T))
    | (((with_reducible refine Sy.is_store ?_); (refine Sy.st_storeAll T F (h := ?_)); clear T F; intro ac w T F))
    | (with_reducible refine wpList_nil ?_)
    | (with_reducible refine wp_region_lit ?_)
    | (with_reducible refine wp_ret ?_)
    | ((with_reducible refine wp_seq_k ?_); intro _ _)
    | (go_at_K; go_step)
    | (simp only [Exit.then, Exit.inBlock, ↓reduceIte, Nat.reduceEqDiff]))
    ((try simp only [Exit.inBlock, Exit.then]); refine Sy.st_ret1 T F rfl (by repeat (first | exact Sy.ResV.nil | apply Sy.ResV.tmp rfl | apply Sy.ResV.row rfl rfl rfl (by repeat (first | exact Sy.Take.here | apply Sy.Take.there)) (by rfl) | apply Sy.ResV.one rfl rfl rfl (by repeat (first | exact Sy.Take.here | apply Sy.Take.there)) (by rfl))) ?_)
    refine F.retX (by repeat (first | exact Sy.Take.here | apply Sy.Take.there)) ⟨⟨_, rfl, ⟨ga, gc, _, _, _, _⟩, rfl, ⟨?_, ?_, ?_, ?_, (hg.sub hS6).sub hS7, rows_sub (fun _ _ h => h.sub hS7) hS7 hrs6, hrs⟩⟩, hC⟩
    all_goals (unfold I64; simp only; omega)
end Tk
end Go.Proofs.Ytniopkoaplkpkaa
