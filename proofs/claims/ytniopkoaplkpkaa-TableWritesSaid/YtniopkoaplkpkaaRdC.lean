/- The walks of taking lists, and what they are lists of. Conditions: the reader's bytes can be read. Printed by a program (gentake.py). -/
import Derived.Test.YtniopkoaplkpkaaRdB
namespace Go.Proofs.Ytniopkoaplkpkaa
open Go.RowKit
set_option linter.unusedVariables false
set_option linter.unusedSimpArgs false
namespace Rt
open Sy (RetV RetM Sub)
open Rg Pk
theorem cells_own {w : World} {g : Nat} {cs : List Value} {t : TypeId} (h : w.heap[g]? = some (.cells cs.toArray t (0, 0))) : Cells w (some ⟨g, 0, none⟩) cs := .inr ⟨g, 0, rfl, fun i hi => by simp [World.cell?, h, hi]⟩
/-- a list that the call owns is handed back -/
theorem doneL {α : Type} {R : World → List Value → α → Prop} {c : Nat} {E1 : Sy.Ext} {m0 W m w : World} {g : Nat} {bs r : List Sy.Blk} {e : TypeId} {a : Option Addr} {cap : Nat} {acc : List α} {css : List (List Value)} {cs : List Value} {st : St}
    (F : Sy.MemE (Sy.SlA E1 e c (.slice a acc.length cap) acc.length css.flatten) ⟨W, [g], m0⟩ m bs w) (hk : Sy.Take bs g cs 100 r) (hrows : RowsOf R c m css acc) (hup : ∀ m m' cs x, Sub m m' → R m cs x → R m' cs x) (hC : RdC m st cs) (hc0 : 0 < c) :
    RetR m0 W g (ListV R c) (acc, st) (.returned (.slice a acc.length cap)) w := by
  obtain ⟨m', hS, F', hcells⟩ := F.freezeX fun k hkk => (F.loose k (.inr hkk)).1.resolve_right fun hx => (F.loose k (.inr hkk)).2.1 (by
    simp at hx
    subst hx
    exact List.mem_map.2 ⟨_, hk.perm.symm.subset (List.mem_cons_self ..), rfl⟩)
  obtain ⟨a', cap', hv, hl, hn, hm, _⟩ := F.ext.2.1
  simp at hv
  obtain ⟨rfl, rfl⟩ := hv
  exact F'.retX hk ⟨⟨a, cap, rfl, flat_rows (Nat.le_trans hn hm) hc0 (rows_up (fun _ _ h => hup _ _ _ _ hS h) hrows) (hcells a cap rfl), hn, hm⟩, hC.sub hS⟩
theorem name1 {a : Act} {n : Nat} {ts : List (Nat × Value)} (T : Sy.Tm a n ts) (k : Nat) {g : Nat} (h : Sy.getT ts k = some (.pointer (some ⟨g, 0, none⟩))) : ∃ x, x = g := ⟨_, rfl⟩

set_option maxRecDepth 20000 in
set_option maxHeartbeats 1000000 in
theorem list_ints {m0 W : World} {gr : Nat} {s : St} {cs : List Value} (h : RdX m0 W gr s cs) :
    Calls Try.prog 59 #[.agg #[.pointer (some ⟨gr, 0, none⟩)], .func (.func 60) #[.pointer (some ⟨gr, 0, none⟩)] #[]] W (RetR m0 W gr (ListV IntR 1) (listS intS s)) := by
  have hle := numR_le (most := 1000) (by omega) s
  have F := h.F
  have hC := h.c
  clear h
  refine Sy.enter Try.func59 rfl Try.ntmps59 rfl ?_; intro ac T; simp only [Sy.enum, Nat.zero_add, Nat.reduceAdd] at T
  repeat (first
    | (((with_reducible refine Sy.is_load ?_); (refine Sy.st_loadAll T F (h := ?_)); clear T; intro ac T))
    | (((with_reducible refine Sy.is_box ?_); (refine Sy.st_boxAgg T F (h := ?_)); clear T F; intro ac g w T F))
    | (((with_reducible refine Sy.is_op ?_); refine Sy.st_pure T (h := ?_); clear T; intro ac T))
    | (with_reducible refine wpList_nil ?_)
    | (with_reducible refine wp_region_lit ?_)
    | ((with_reducible refine wp_seq_k ?_); intro _ _)
    | (go_at_K; go_step)
    | (simp only [Exit.then, Exit.inBlock, ↓reduceIte, Nat.reduceEqDiff]))
  have G := sml_r (Pk.RdX.mk (Sy.MemE.reX F (by repeat (first | exact Sy.Take.here | apply Sy.Take.there))) hC); refine Sy.st_callX T F (hc := G) (h := ?_); (clear T F G hC; intro v m cs ac w hR hS T F; obtain ⟨hV, hC⟩ := hR)
  obtain ⟨rfl, hn⟩ := hV
  obtain ⟨gt, rfl⟩ := name1 T 2 rfl
  replace F := F.slA0 2 1 none
  have hspec : listS intS s = loopS intS (smlS s).1 (smlS s).2 [] := rfl
  generalize (smlS s).1 = n0 at *
  generalize (smlS s).2 = s0 at *
  generalize listS intS s = res at *
  repeat (first
    | (((with_reducible refine Sy.is_op ?_); refine Sy.st_pure T (h := ?_); clear T; intro ac T))
    | (with_reducible refine wpList_nil ?_)
    | (with_reducible refine wp_block ?_)
    | (go_at_K; go_step)
    | (simp only [Exit.then, Exit.inBlock, ↓reduceIte, Nat.reduceEqDiff]))
  refine wp_loop_ghost_k (fun n ac w' => ∃ (m : World) (cs : List Value) (st : St) (acc : List Int) (css : List (List Value)) (a : Option Addr) (cap : Nat), n ≤ n0 ∧ acc.length + n = n0 ∧ Sub m0 m ∧ res = loopS intS n st acc ∧ RdC m st cs ∧ RowsOf IntR 1 m css acc ∧
    Sy.Tm ac 23 [(1, .func (.func 60) #[.pointer (some ⟨gr, 0, none⟩)] #[]), (2, .pointer (some ⟨gt, 0, none⟩)), (5, .slice a acc.length cap), (6, .int .i64 (n : Int))] ∧ Sy.MemE (Sy.SlA Sy.E0 2 1 (.slice a acc.length cap) acc.length css.flatten) ⟨W, [gr], m0⟩ m [⟨gr, cs, 100⟩, ⟨gt, [.pointer (some ⟨gr, 0, none⟩)], 101⟩] w') n0 ?_ ?_
  · exact ⟨m, cs, s0, [], [], none, 0, Nat.le_refl _, by simp, hS, hspec, hC, rows_nil, (T.part (by repeat (first | exact Sy.Part.nil | apply Sy.Part.cons rfl))), (F.sel (by repeat (first | exact Sy.Sel.nil | apply Sy.Sel.cons (by repeat (first | exact Sy.Take.here | apply Sy.Take.there)))))⟩
  clear T F hC hS hspec
  intro n ac w hI J K hJ hK
  obtain ⟨m, cs, st, acc, css, a, cap, hn1, hacc, hS0, hspec, hC, hrows, T, F⟩ := hI
  by_cases hz : n = 0
  · subst hz
    have u1 : decide (((0 : Nat) : Int) > 0) = false := decide_eq_false (by omega)
    repeat (first
    | (((with_reducible refine Sy.is_guard ?_); ((refine Sy.st_unguard T (h := ?_); clear T; intro ac T))))
    | (((with_reducible refine Sy.is_op ?_); refine Sy.st_pure T (h := ?_); clear T; intro ac T))
    | ((with_reducible refine Sy.is_cond ?_); (refine Sy.st_false T (h := ?_)))
    | (with_reducible refine wpList_nil ?_)
    | (with_reducible refine wp_region_lit ?_)
    | (with_reducible refine wp_exit ?_)
    | (with_reducible refine wp_ret ?_)
    | ((with_reducible refine wp_seq_k ?_); intro _ _)
    | (go_at_K; go_step)
    | (simp only [Exit.then, Exit.inBlock, ↓reduceIte, Nat.reduceEqDiff]))
    ((try simp only [Exit.inBlock, Exit.then]); refine Sy.st_ret1 T F rfl (by repeat (first | exact Sy.ResV.nil | apply Sy.ResV.tmp rfl | apply Sy.ResV.row rfl rfl rfl (by repeat (first | exact Sy.Take.here | apply Sy.Take.there)) (by rfl) | apply Sy.ResV.one rfl rfl rfl (by repeat (first | exact Sy.Take.here | apply Sy.Take.there)) (by rfl))) ?_)
    have hres : res = (acc, st) := hspec.trans (by first | rfl | simp [loopS, hwell])
    rw [hres]
    exact doneL F (by repeat (first | exact Sy.Take.here | apply Sy.Take.there)) hrows (fun _ _ _ _ _ h => h) hC (by decide)
  obtain ⟨n, rfl⟩ : ∃ q, n = q + 1 := ⟨n - 1, by omega⟩
  have u1 : decide (((n + 1 : Nat) : Int) > 0) = true := decide_eq_true (by omega)
  have u2 : IntKind.i64.wrap (((n + 1 : Nat) : Int) - 1) = (n : Int) := by rw [i64_wrap (by omega) (by omega)]; omega
  cases hwell : wellS st with
  | false =>
    have G := fun w' (hs : Below w.heap.size w w') => well_r (RdX.mk (Sy.MemE.reX (F.below hs) (by repeat (first | exact Sy.Take.here | apply Sy.Take.there))) hC)
    rw [hwell] at G
    repeat (first
    | (((with_reducible refine Sy.is_guard ?_); (refine Sy.st_guard T (h := ?_))))
    | (((with_reducible refine Sy.is_load ?_); (refine Sy.st_loadAll T F (h := ?_)); clear T; intro ac T))
    | (((with_reducible refine Sy.is_op ?_); refine Sy.st_pure T (h := ?_); clear T; intro ac T))
    | (with_reducible refine wp_region_lit ?_)
    | ((with_reducible refine wp_seq_k ?_); intro _ _))
    refine Sy.st_callV0 T F (hc := G _ (Below.refl _ _)) (h := ?_); (clear T F; intro ac w T F)
    clear G
    repeat (first
    | (((with_reducible refine Sy.is_op ?_); refine Sy.st_pure T (h := ?_); clear T; intro ac T))
    | ((with_reducible refine Sy.is_cond ?_); (refine Sy.st_false T (h := ?_)))
    | (with_reducible refine wpList_nil ?_)
    | (with_reducible refine wp_region_lit ?_)
    | (with_reducible refine wp_exit ?_)
    | (with_reducible refine wp_ret ?_)
    | ((with_reducible refine wp_seq_k ?_); intro _ _)
    | (go_at_K; go_step)
    | (simp only [Exit.then, Exit.inBlock, ↓reduceIte, Nat.reduceEqDiff]))
    ((try simp only [Exit.inBlock, Exit.then]); refine Sy.st_ret1 T F rfl (by repeat (first | exact Sy.ResV.nil | apply Sy.ResV.tmp rfl | apply Sy.ResV.row rfl rfl rfl (by repeat (first | exact Sy.Take.here | apply Sy.Take.there)) (by rfl) | apply Sy.ResV.one rfl rfl rfl (by repeat (first | exact Sy.Take.here | apply Sy.Take.there)) (by rfl))) ?_)
    have hres : res = (acc, st) := hspec.trans (by first | rfl | simp [loopS, hwell])
    rw [hres]
    exact doneL F (by repeat (first | exact Sy.Take.here | apply Sy.Take.there)) hrows (fun _ _ _ _ _ h => h) hC (by decide)
  | true =>
    have G := fun w' (hs : Below w.heap.size w w') => well_r (RdX.mk (Sy.MemE.reX (F.below hs) (by repeat (first | exact Sy.Take.here | apply Sy.Take.there))) hC)
    rw [hwell] at G
    repeat (first
    | (((with_reducible refine Sy.is_guard ?_); (refine Sy.st_guard T (h := ?_))))
    | (((with_reducible refine Sy.is_load ?_); (refine Sy.st_loadAll T F (h := ?_)); clear T; intro ac T))
    | (((with_reducible refine Sy.is_op ?_); refine Sy.st_pure T (h := ?_); clear T; intro ac T))
    | (with_reducible refine wp_region_lit ?_)
    | ((with_reducible refine wp_seq_k ?_); intro _ _))
    refine Sy.st_callV0 T F (hc := G _ (Below.refl _ _)) (h := ?_); (clear T F; intro ac w T F)
    clear G
    repeat (first
    | (((with_reducible refine Sy.is_op ?_); refine Sy.st_pure T (h := ?_); clear T; intro ac T))
    | ((with_reducible refine Sy.is_cond ?_); (refine Sy.st_true T (h := ?_)))
    | (with_reducible refine wpList_nil ?_)
    | (with_reducible refine wp_region_lit ?_)
    | (with_reducible refine wp_block ?_)
    | (with_reducible refine wp_skip ?_)
    | ((with_reducible refine wp_seq_k ?_); intro _ _)
    | (go_at_K; go_step)
    | (simp only [Exit.then, Exit.inBlock, ↓reduceIte, Nat.reduceEqDiff]))
    have G := int_v (RdX.mk (Sy.MemE.reX F (by repeat (first | exact Sy.Take.here | apply Sy.Take.there))) hC)
    refine Sy.st_callXc T F (us := [.pointer (some ⟨gr, 0, none⟩)]) (vs := []) (ks := []) rfl rfl (hc := G) (h := ?_)
    clear T F G hC; intro v m' cs ac w hR hS T F; obtain ⟨hV, hC⟩ := hR
    simp only [loopS, hwell, if_true] at hspec
    obtain ⟨x, hx⟩ : ∃ x, x = (intS st).1 := ⟨_, rfl⟩
    rw [← hx] at hV hspec
    obtain ⟨rfl, hI⟩ := hV
    have hR : IntR m' [.int .i64 x] x := ⟨rfl, hI⟩
    obtain ⟨news, hnews⟩ : ∃ news, news = [Value.int .i64 x] := ⟨_, rfl⟩
    rw [← hnews] at hR
    have hlen : news.length = 1 := by rw [hnews]; rfl
    have hone : ∀ u ∈ news, u.oneCell' = true := by rw [hnews]; intro u hu; simp at hu; subst hu; rfl
    repeat ((((with_reducible refine Sy.is_buildSlice ?_); refine Sy.st_buildSlice T F (h := ?_); (conv => whnf); (repeat (refine ⟨by first | exact rfl | exact ⟨rfl, rfl⟩, ?_⟩; (conv => whnf))); clear T F; intro ac g w T F)))
    refine Sy.st_appendC T F (news := news) (k2 := 1) (cp := 1) (by rw [hnews]; exact Rt.cells_own (F.get (by exact Sy.Take.here))) (by exact hlen) (by exact hone) (hbytes := ?_) (h := ?_)
    · have : acc.length ≤ 1000 := by omega
      exact Nat.le_trans (Nat.mul_le_mul_right _ (show acc.length + 1 ≤ 1001 by omega)) (by decide)
    clear T F; intro ad' cap' ac w T F
    rw [show acc.length + 1 = (acc ++ [x]).length by simp, show css.flatten ++ news = (css ++ [news]).flatten by simp] at F
    rw [show acc.length + 1 = (acc ++ [x]).length by simp] at T
    repeat (first
    | (((with_reducible refine Sy.is_op ?_); refine Sy.st_pure T (h := ?_); clear T; intro ac T))
    | (with_reducible refine wpList_nil ?_)
    | (with_reducible refine wp_region_lit ?_)
    | (go_at_K; go_step)
    | (simp only [Exit.then, Exit.inBlock, ↓reduceIte, Nat.reduceEqDiff]))
    exact Sy.handed hJ (k := n) (by omega) ⟨m', cs, _, acc ++ [x], css ++ [news], ad', cap', by omega, by simp; omega, hS0.trans hS, hspec, hC, rows_snoc (rows_up (fun _ _ h => h) hrows) hlen hR, (T.part (by repeat (first | exact Sy.Part.nil | apply Sy.Part.cons rfl))), (F.sel (by repeat (first | exact Sy.Sel.nil | apply Sy.Sel.cons (by repeat (first | exact Sy.Take.here | apply Sy.Take.there)))))⟩

set_option maxRecDepth 20000 in
set_option maxHeartbeats 1000000 in
theorem done_r {m0 W : World} {gr : Nat} {s : St} {cs : List Value} (h : RdX m0 W gr s cs) : Calls Try.prog 62 #[.agg #[.pointer (some ⟨gr, 0, none⟩)]] W (RetR m0 W gr (RowV DoneR) (doneS s)) := by
  have F := h.F
  have hC := h.c
  clear h
  obtain ⟨⟨c, s1⟩, e1⟩ : ∃ x, x = smallS s := ⟨_, rfl⟩
  obtain ⟨⟨q, s2⟩, e2⟩ : ∃ x, x = bigS s1 := ⟨_, rfl⟩
  obtain ⟨⟨e, s3⟩, e3⟩ : ∃ x, x = smlS s2 := ⟨_, rfl⟩
  obtain ⟨⟨i, s4⟩, e4⟩ : ∃ x, x = bigS s3 := ⟨_, rfl⟩
  obtain ⟨⟨t, s5⟩, e5⟩ : ∃ x, x = smlS s4 := ⟨_, rfl⟩
  obtain ⟨⟨l, s6⟩, e6⟩ : ∃ x, x = listS intS s5 := ⟨_, rfl⟩
  have hD : doneS s = (⟨c, q, ⟨e, i, t, l⟩⟩, s6) := by simp only [doneS, repS, bindS, pureS, ← e1, ← e2, ← e3, ← e4, ← e5, ← e6]
  rw [hD]
  clear hD
  refine Sy.enter Try.func62 rfl Try.ntmps62 rfl ?_; intro ac T; simp only [Sy.enum, Nat.zero_add, Nat.reduceAdd] at T
  repeat (first
    | (((with_reducible refine Sy.is_box ?_); (refine Sy.st_boxAgg T F (h := ?_)); clear T F; intro ac g w T F))
    | (((with_reducible refine Sy.is_alloc ?_); refine Sy.st_alloc T F (h := ?_); clear T F; intro ac g w T F))
    | (with_reducible refine wpList_nil ?_)
    | (with_reducible refine wp_region_lit ?_)
    | ((with_reducible refine wp_seq_k ?_); intro _ _)
    | (go_at_K; go_step)
    | (simp only [Exit.then, Exit.inBlock, ↓reduceIte, Nat.reduceEqDiff]))
  refine Sy.sx_region F [gr] (.t 0 (.t 2 (.f 1 (.f 3 (.t 4 (.h 5 .e)) 5 (.h 3 (.t 4 .e))) 5 (.h 1 (.h 3 (.t 4 .e)))))) [6] (by kernel_rfl) ?_; (clear F; intro w F)
  repeat (first
    | ((refine Sy.sx_plain (h := ?_)); (((with_reducible refine Sy.ux_load ?_); (refine Sy.sx_val (Sy.rx_loadAll T F) T rfl ?_); clear T; intro ac T)); show Sy.wpUx _ _ _ _ _ _ _ _ _)
    | (with_reducible refine Sy.sx_fork ?_ ?_))
  all_goals try repeat (((refine Sy.sx_new (T := T) (F := F) (hr := Sy.new_alloc rfl) (h := ?_)); clear T F; intro ac g w T F))
  all_goals (have G := small_r (Pk.RdX.mk (Sy.MemE.reX F (by repeat (first | exact Sy.Take.here | apply Sy.Take.there))) hC); rw [← e1] at G; refine Sy.sx_callX rfl T F (hc := G) (h := ?_); (clear T F G hC; intro v m cs ac w hR hS T F; obtain ⟨hV, hC⟩ := hR; dsimp only at hV hC); obtain ⟨rfl, hb1⟩ := hV; repeat ((with_reducible refine Sy.sx_fork ?_ ?_)))
  all_goals try repeat (((refine Sy.sx_new (T := T) (F := F) (hr := Sy.new_alloc rfl) (h := ?_)); clear T F; intro ac g w T F))
  all_goals (have G := big_r (Pk.RdX.mk (Sy.MemE.reX F (by repeat (first | exact Sy.Take.here | apply Sy.Take.there))) hC); rw [← e2] at G; refine Sy.sx_callX rfl T F (hc := G) (h := ?_); (clear T F G hC; intro v m cs ac w hR hS T F; obtain ⟨hV, hC⟩ := hR; dsimp only at hV hC); obtain ⟨rfl, hb2⟩ := hV; repeat (first
    | (((with_reducible refine Sy.is_store ?_); (refine Sy.st_storeAll T F (h := ?_)); clear T F; intro ac w T F))
    | ((with_reducible refine Sy.atK (hK _ _ ?_)))
    | ((with_reducible refine wp_seq_k ?_); intro _ _)
    | (go_at_K; go_step)
    | (simp only [Exit.then, Exit.inBlock, ↓reduceIte, Nat.reduceEqDiff])
    | ((refine Sy.sx_plain (h := ?_)); (((with_reducible refine Sy.ux_build ?_); refine Sy.sx_build T (h := ?_); (conv => whnf); (repeat (refine ⟨by first | exact rfl | exact ⟨rfl, rfl⟩, ?_⟩; (conv => whnf))); clear T; intro ac T)); show Sy.wpUx _ _ _ _ _ _ _ _ _)
    | (with_reducible refine Sy.sx_nil ?_)
    | (with_reducible refine Sy.sx_end ?_)
    | (with_reducible refine Sy.sx_tail rfl rfl (fun K hK => ?_))
    | ((refine Sy.sx_new (T := T) (F := F) (hr := Sy.new_alloc rfl) (h := ?_)); clear T F; intro ac g w T F)))
  all_goals
    refine Sy.sx_region F [gr] (.t 0 (.t 2 (.t 4 (.t 6 (.t 7 (.t 8 (.t 9 (.h 1 (.h 3 (.h 5 (.h 10 (.t 11 .e)))))))))))) [12, 13] (by kernel_rfl) ?_; (clear F; intro w F)
    repeat (((refine Sy.sx_plain (h := ?_)); (first
    | ((with_reducible refine Sy.ux_load ?_); (first
    | refine Sy.sx_val (Sy.rx_loadOne T F) T rfl ?_
    | refine Sy.sx_val (Sy.rx_loadAll T F) T rfl ?_); clear T; intro ac T)
    | (refine Sy.sx_pure T (h := ?_); clear T; intro ac T)); show Sy.wpUx _ _ _ _ _ _ _ _ _))
    have G := sml_r (Pk.RdX.mk (Sy.MemE.reX F (by repeat (first | exact Sy.Take.here | apply Sy.Take.there))) hC); rw [← e3] at G; refine Sy.sx_callX rfl T F (hc := G) (h := ?_); (clear T F G hC; intro v m cs ac w hR hS T F; obtain ⟨hV, hC⟩ := hR; dsimp only at hV hC)
    obtain ⟨rfl, hb3⟩ := hV
    skip
    have G := big_r (Pk.RdX.mk (Sy.MemE.reX F (by repeat (first | exact Sy.Take.here | apply Sy.Take.there))) hC); rw [← e4] at G; refine Sy.sx_callX rfl T F (hc := G) (h := ?_); (clear T F G hC; intro v m cs ac w hR hS T F; obtain ⟨hV, hC⟩ := hR; dsimp only at hV hC)
    obtain ⟨rfl, hb4⟩ := hV
    skip
    have G := sml_r (Pk.RdX.mk (Sy.MemE.reX F (by repeat (first | exact Sy.Take.here | apply Sy.Take.there))) hC); rw [← e5] at G; refine Sy.sx_callX rfl T F (hc := G) (h := ?_); (clear T F G hC; intro v m cs ac w hR hS T F; obtain ⟨hV, hC⟩ := hR; dsimp only at hV hC)
    obtain ⟨rfl, hb5⟩ := hV
    skip
    have G := list_ints (Pk.RdX.mk (Sy.MemE.reX F (by repeat (first | exact Sy.Take.here | apply Sy.Take.there))) hC); rw [← e6] at G; refine Sy.sx_callX rfl T F (hc := G) (h := ?_); (clear T F G hC; intro v m cs ac w hR hS T F; obtain ⟨hV, hC⟩ := hR; dsimp only at hV hC)
    obtain ⟨va, vc, rfl, hv1, hv2, hv3⟩ := hV
    repeat (first
    | (((with_reducible refine Sy.is_load ?_); (refine Sy.st_loadAll T F (h := ?_)); clear T; intro ac T))
    | (((with_reducible refine Sy.is_store ?_); (first
    | refine Sy.st_storeAll T F (h := ?_)
    | (refine Sy.st_storeAgg T F (h := ?_); conv => whnf)); clear T F; intro ac w T F))
    | (((with_reducible refine Sy.is_op ?_); refine Sy.st_pure T (h := ?_); clear T; intro ac T))
    | ((with_reducible refine Sy.atK (hK _ _ ?_)))
    | (with_reducible refine wpList_nil ?_)
    | (with_reducible refine wp_region_lit ?_)
    | (with_reducible refine wp_ret ?_)
    | ((with_reducible refine wp_seq_k ?_); intro _ _)
    | (go_at_K; go_step)
    | (simp only [Exit.then, Exit.inBlock, ↓reduceIte, Nat.reduceEqDiff])
    | ((refine Sy.sx_plain (h := ?_)); (((with_reducible refine Sy.ux_build ?_); refine Sy.sx_build T (h := ?_); (conv => whnf); (repeat (refine ⟨by first | exact rfl | exact ⟨rfl, rfl⟩, ?_⟩; (conv => whnf))); clear T; intro ac T)); show Sy.wpUx _ _ _ _ _ _ _ _ _)
    | (with_reducible refine Sy.sx_nil ?_)
    | (with_reducible refine Sy.sx_end ?_)
    | (with_reducible refine Sy.sx_tail rfl rfl (fun K hK => ?_)))
    ((try simp only [Exit.inBlock, Exit.then]); refine Sy.st_ret1 T F rfl (by repeat (first | exact Sy.ResV.nil | apply Sy.ResV.tmp rfl | apply Sy.ResV.row rfl rfl rfl (by repeat (first | exact Sy.Take.here | apply Sy.Take.there)) (by rfl) | apply Sy.ResV.one rfl rfl rfl (by repeat (first | exact Sy.Take.here | apply Sy.Take.there)) (by rfl))) ?_)
    refine F.retX (by repeat (first | exact Sy.Take.here | apply Sy.Take.there)) ⟨⟨_, rfl, ⟨va, vc⟩, rfl, hb1, hb2, ?_, hb4, ?_, hv1, hv2, hv3⟩, hC⟩
    all_goals (unfold I64; simp only; omega)

set_option maxRecDepth 20000 in
set_option maxHeartbeats 1000000 in
theorem cell_r {m0 W : World} {gr : Nat} {s : St} {cs : List Value} (h : RdX m0 W gr s cs) : Calls Try.prog 64 #[.agg #[.pointer (some ⟨gr, 0, none⟩)]] W (RetR m0 W gr (RowV CellR) (cellS s)) := by
  have F := h.F
  have hC := h.c
  clear h
  refine Sy.enter Try.func64 rfl Try.ntmps64 rfl ?_; intro ac T; simp only [Sy.enum, Nat.zero_add, Nat.reduceAdd] at T
  repeat (first
    | (((with_reducible refine Sy.is_box ?_); (refine Sy.st_boxAgg T F (h := ?_)); clear T F; intro ac g w T F))
    | (((with_reducible refine Sy.is_alloc ?_); refine Sy.st_alloc T F (h := ?_); clear T F; intro ac g w T F))
    | (with_reducible refine wpList_nil ?_)
    | (with_reducible refine wp_region_lit ?_)
    | ((with_reducible refine wp_seq_k ?_); intro _ _)
    | (go_at_K; go_step)
    | (simp only [Exit.then, Exit.inBlock, ↓reduceIte, Nat.reduceEqDiff]))
  refine Sy.sx_region F [gr] (.t 0 (.t 2 (.t 4 (.t 6 (.t 7 (.h 1 (.h 3 (.h 5 (.h 8 (.t 9 .e)))))))))) [10] (by kernel_rfl) ?_; (clear F; intro w F)
  repeat (((refine Sy.sx_plain (h := ?_)); (first
    | ((with_reducible refine Sy.ux_load ?_); (first
    | refine Sy.sx_val (Sy.rx_loadOne T F) T rfl ?_
    | refine Sy.sx_val (Sy.rx_loadAll T F) T rfl ?_); clear T; intro ac T)
    | (refine Sy.sx_pure T (h := ?_); clear T; intro ac T)); show Sy.wpUx _ _ _ _ _ _ _ _ _))
  have G := big_r (Pk.RdX.mk (Sy.MemE.reX F (by repeat (first | exact Sy.Take.here | apply Sy.Take.there))) hC); refine Sy.sx_callX rfl T F (hc := G) (h := ?_); (clear T F G hC; intro v m cs ac w hR hS T F; obtain ⟨hV, hC⟩ := hR)
  obtain ⟨rfl, hb1⟩ := hV
  skip
  have G := small_r (Pk.RdX.mk (Sy.MemE.reX F (by repeat (first | exact Sy.Take.here | apply Sy.Take.there))) hC); refine Sy.sx_callX rfl T F (hc := G) (h := ?_); (clear T F G hC; intro v m cs ac w hR hS T F; obtain ⟨hV, hC⟩ := hR)
  obtain ⟨rfl, hb2⟩ := hV
  skip
  have G := sml_r (Pk.RdX.mk (Sy.MemE.reX F (by repeat (first | exact Sy.Take.here | apply Sy.Take.there))) hC); refine Sy.sx_callX rfl T F (hc := G) (h := ?_); (clear T F G hC; intro v m cs ac w hR hS T F; obtain ⟨hV, hC⟩ := hR)
  obtain ⟨rfl, hb3⟩ := hV
  skip
  have G := int_v (Pk.RdX.mk (Sy.MemE.reX F (by repeat (first | exact Sy.Take.here | apply Sy.Take.there))) hC); refine Sy.sx_callX rfl T F (hc := G) (h := ?_); (clear T F G hC; intro v m cs ac w hR hS T F; obtain ⟨hV, hC⟩ := hR)
  obtain ⟨rfl, hb4⟩ := hV
  repeat (first
    | (((with_reducible refine Sy.is_store ?_); (refine Sy.st_storeAll T F (h := ?_)); clear T F; intro ac w T F))
    | ((with_reducible refine Sy.atK (hK _ _ ?_)))
    | (with_reducible refine wp_ret ?_)
    | (go_at_K; go_step)
    | (simp only [Exit.then, Exit.inBlock, ↓reduceIte, Nat.reduceEqDiff])
    | ((refine Sy.sx_plain (h := ?_)); (((with_reducible refine Sy.ux_build ?_); refine Sy.sx_build T (h := ?_); (conv => whnf); (repeat (refine ⟨by first | exact rfl | exact ⟨rfl, rfl⟩, ?_⟩; (conv => whnf))); clear T; intro ac T)); show Sy.wpUx _ _ _ _ _ _ _ _ _)
    | (with_reducible refine Sy.sx_nil ?_)
    | (with_reducible refine Sy.sx_end ?_)
    | (with_reducible refine Sy.sx_tail rfl rfl (fun K hK => ?_)))
  ((try simp only [Exit.inBlock, Exit.then]); refine Sy.st_ret1 T F rfl (by repeat (first | exact Sy.ResV.nil | apply Sy.ResV.tmp rfl | apply Sy.ResV.row rfl rfl rfl (by repeat (first | exact Sy.Take.here | apply Sy.Take.there)) (by rfl) | apply Sy.ResV.one rfl rfl rfl (by repeat (first | exact Sy.Take.here | apply Sy.Take.there)) (by rfl))) ?_)
  refine F.retX (by repeat (first | exact Sy.Take.here | apply Sy.Take.there)) ⟨⟨_, rfl, rfl, hb1, hb2, ?_, hb4⟩, hC⟩
  show I64 ((smlS _).1 : Int)
  unfold I64
  omega

set_option maxRecDepth 20000 in
set_option maxHeartbeats 1000000 in
theorem mark_r {m0 W : World} {gr : Nat} {s : St} {cs : List Value} (h : RdX m0 W gr s cs) : Calls Try.prog 66 #[.agg #[.pointer (some ⟨gr, 0, none⟩)]] W (RetR m0 W gr (RowV MarkR) (markS s)) := by
  have F := h.F
  have hC := h.c
  clear h
  refine Sy.enter Try.func66 rfl Try.ntmps66 rfl ?_; intro ac T; simp only [Sy.enum, Nat.zero_add, Nat.reduceAdd] at T
  repeat (first
    | (((with_reducible refine Sy.is_box ?_); (refine Sy.st_boxAgg T F (h := ?_)); clear T F; intro ac g w T F))
    | (((with_reducible refine Sy.is_alloc ?_); refine Sy.st_alloc T F (h := ?_); clear T F; intro ac g w T F))
    | (with_reducible refine wpList_nil ?_)
    | (with_reducible refine wp_region_lit ?_)
    | ((with_reducible refine wp_seq_k ?_); intro _ _)
    | (go_at_K; go_step)
    | (simp only [Exit.then, Exit.inBlock, ↓reduceIte, Nat.reduceEqDiff]))
  refine Sy.sx_region F [gr] (.t 0 (.t 2 (.t 4 (.h 1 (.h 3 (.h 5 (.t 6 .e))))))) [7] (by kernel_rfl) ?_; (clear F; intro w F)
  repeat (((refine Sy.sx_plain (h := ?_)); (((with_reducible refine Sy.ux_load ?_); (refine Sy.sx_val (Sy.rx_loadAll T F) T rfl ?_); clear T; intro ac T)); show Sy.wpUx _ _ _ _ _ _ _ _ _))
  have G := small_r (Pk.RdX.mk (Sy.MemE.reX F (by repeat (first | exact Sy.Take.here | apply Sy.Take.there))) hC); refine Sy.sx_callX rfl T F (hc := G) (h := ?_); (clear T F G hC; intro v m cs ac w hR hS T F; obtain ⟨hV, hC⟩ := hR)
  obtain ⟨rfl, hb1⟩ := hV
  skip
  have G := big_r (Pk.RdX.mk (Sy.MemE.reX F (by repeat (first | exact Sy.Take.here | apply Sy.Take.there))) hC); refine Sy.sx_callX rfl T F (hc := G) (h := ?_); (clear T F G hC; intro v m cs ac w hR hS T F; obtain ⟨hV, hC⟩ := hR)
  obtain ⟨rfl, hb2⟩ := hV
  skip
  have G := big_r (Pk.RdX.mk (Sy.MemE.reX F (by repeat (first | exact Sy.Take.here | apply Sy.Take.there))) hC); refine Sy.sx_callX rfl T F (hc := G) (h := ?_); (clear T F G hC; intro v m cs ac w hR hS T F; obtain ⟨hV, hC⟩ := hR)
  obtain ⟨rfl, hb3⟩ := hV
  repeat (first
    | (((with_reducible refine Sy.is_store ?_); (refine Sy.st_storeAll T F (h := ?_)); clear T F; intro ac w T F))
    | ((with_reducible refine Sy.atK (hK _ _ ?_)))
    | (with_reducible refine wp_ret ?_)
    | (go_at_K; go_step)
    | (simp only [Exit.then, Exit.inBlock, ↓reduceIte, Nat.reduceEqDiff])
    | ((refine Sy.sx_plain (h := ?_)); (((with_reducible refine Sy.ux_build ?_); refine Sy.sx_build T (h := ?_); (conv => whnf); (repeat (refine ⟨by first | exact rfl | exact ⟨rfl, rfl⟩, ?_⟩; (conv => whnf))); clear T; intro ac T)); show Sy.wpUx _ _ _ _ _ _ _ _ _)
    | (with_reducible refine Sy.sx_nil ?_)
    | (with_reducible refine Sy.sx_end ?_)
    | (with_reducible refine Sy.sx_tail rfl rfl (fun K hK => ?_)))
  ((try simp only [Exit.inBlock, Exit.then]); refine Sy.st_ret1 T F rfl (by repeat (first | exact Sy.ResV.nil | apply Sy.ResV.tmp rfl | apply Sy.ResV.row rfl rfl rfl (by repeat (first | exact Sy.Take.here | apply Sy.Take.there)) (by rfl) | apply Sy.ResV.one rfl rfl rfl (by repeat (first | exact Sy.Take.here | apply Sy.Take.there)) (by rfl))) ?_)
  exact F.retX (by repeat (first | exact Sy.Take.here | apply Sy.Take.there)) ⟨⟨_, rfl, rfl, hb1, hb2, hb3⟩, hC⟩

set_option maxRecDepth 20000 in
set_option maxHeartbeats 1000000 in
theorem list_dones {m0 W : World} {gr : Nat} {s : St} {cs : List Value} (h : RdX m0 W gr s cs) :
    Calls Try.prog 61 #[.agg #[.pointer (some ⟨gr, 0, none⟩)], .func (.func 62) #[.agg #[.pointer (some ⟨gr, 0, none⟩)]] #[]] W (RetR m0 W gr (ListV DoneR 6) (listS doneS s)) := by
  have hle := numR_le (most := 1000) (by omega) s
  have F := h.F
  have hC := h.c
  clear h
  refine Sy.enter Try.func61 rfl Try.ntmps61 rfl ?_; intro ac T; simp only [Sy.enum, Nat.zero_add, Nat.reduceAdd] at T
  repeat (first
    | (((with_reducible refine Sy.is_load ?_); (refine Sy.st_loadAll T F (h := ?_)); clear T; intro ac T))
    | (((with_reducible refine Sy.is_box ?_); (refine Sy.st_boxAgg T F (h := ?_)); clear T F; intro ac g w T F))
    | (((with_reducible refine Sy.is_op ?_); refine Sy.st_pure T (h := ?_); clear T; intro ac T))
    | (with_reducible refine wpList_nil ?_)
    | (with_reducible refine wp_region_lit ?_)
    | ((with_reducible refine wp_seq_k ?_); intro _ _)
    | (go_at_K; go_step)
    | (simp only [Exit.then, Exit.inBlock, ↓reduceIte, Nat.reduceEqDiff]))
  have G := sml_r (Pk.RdX.mk (Sy.MemE.reX F (by repeat (first | exact Sy.Take.here | apply Sy.Take.there))) hC); refine Sy.st_callX T F (hc := G) (h := ?_); (clear T F G hC; intro v m cs ac w hR hS T F; obtain ⟨hV, hC⟩ := hR)
  obtain ⟨rfl, hn⟩ := hV
  obtain ⟨gt, rfl⟩ := name1 T 2 rfl
  replace F := F.slA0 91 6 none
  have hspec : listS doneS s = loopS doneS (smlS s).1 (smlS s).2 [] := rfl
  generalize (smlS s).1 = n0 at *
  generalize (smlS s).2 = s0 at *
  generalize listS doneS s = res at *
  repeat (first
    | (((with_reducible refine Sy.is_op ?_); refine Sy.st_pure T (h := ?_); clear T; intro ac T))
    | (with_reducible refine wpList_nil ?_)
    | (with_reducible refine wp_block ?_)
    | (go_at_K; go_step)
    | (simp only [Exit.then, Exit.inBlock, ↓reduceIte, Nat.reduceEqDiff]))
  refine wp_loop_ghost_k (fun n ac w' => ∃ (m : World) (cs : List Value) (st : St) (acc : List DoneD) (css : List (List Value)) (a : Option Addr) (cap : Nat), n ≤ n0 ∧ acc.length + n = n0 ∧ Sub m0 m ∧ res = loopS doneS n st acc ∧ RdC m st cs ∧ RowsOf DoneR 6 m css acc ∧
    Sy.Tm ac 23 [(1, .func (.func 62) #[.agg #[.pointer (some ⟨gr, 0, none⟩)]] #[]), (2, .pointer (some ⟨gt, 0, none⟩)), (5, .slice a acc.length cap), (6, .int .i64 (n : Int))] ∧ Sy.MemE (Sy.SlA Sy.E0 91 6 (.slice a acc.length cap) acc.length css.flatten) ⟨W, [gr], m0⟩ m [⟨gr, cs, 100⟩, ⟨gt, [.pointer (some ⟨gr, 0, none⟩)], 101⟩] w') n0 ?_ ?_
  · exact ⟨m, cs, s0, [], [], none, 0, Nat.le_refl _, by simp, hS, hspec, hC, rows_nil, (T.part (by repeat (first | exact Sy.Part.nil | apply Sy.Part.cons rfl))), (F.sel (by repeat (first | exact Sy.Sel.nil | apply Sy.Sel.cons (by repeat (first | exact Sy.Take.here | apply Sy.Take.there)))))⟩
  clear T F hC hS hspec
  intro n ac w hI J K hJ hK
  obtain ⟨m, cs, st, acc, css, a, cap, hn1, hacc, hS0, hspec, hC, hrows, T, F⟩ := hI
  by_cases hz : n = 0
  · subst hz
    have u1 : decide (((0 : Nat) : Int) > 0) = false := decide_eq_false (by omega)
    repeat (first
    | (((with_reducible refine Sy.is_guard ?_); ((refine Sy.st_unguard T (h := ?_); clear T; intro ac T))))
    | (((with_reducible refine Sy.is_op ?_); refine Sy.st_pure T (h := ?_); clear T; intro ac T))
    | ((with_reducible refine Sy.is_cond ?_); (refine Sy.st_false T (h := ?_)))
    | (with_reducible refine wpList_nil ?_)
    | (with_reducible refine wp_region_lit ?_)
    | (with_reducible refine wp_exit ?_)
    | (with_reducible refine wp_ret ?_)
    | ((with_reducible refine wp_seq_k ?_); intro _ _)
    | (go_at_K; go_step)
    | (simp only [Exit.then, Exit.inBlock, ↓reduceIte, Nat.reduceEqDiff]))
    ((try simp only [Exit.inBlock, Exit.then]); refine Sy.st_ret1 T F rfl (by repeat (first | exact Sy.ResV.nil | apply Sy.ResV.tmp rfl | apply Sy.ResV.row rfl rfl rfl (by repeat (first | exact Sy.Take.here | apply Sy.Take.there)) (by rfl) | apply Sy.ResV.one rfl rfl rfl (by repeat (first | exact Sy.Take.here | apply Sy.Take.there)) (by rfl))) ?_)
    have hres : res = (acc, st) := hspec.trans (by first | rfl | simp [loopS, hwell])
    rw [hres]
    exact doneL F (by repeat (first | exact Sy.Take.here | apply Sy.Take.there)) hrows (fun _ _ _ _ hs h => h.sub hs) hC (by decide)
  obtain ⟨n, rfl⟩ : ∃ q, n = q + 1 := ⟨n - 1, by omega⟩
  have u1 : decide (((n + 1 : Nat) : Int) > 0) = true := decide_eq_true (by omega)
  have u2 : IntKind.i64.wrap (((n + 1 : Nat) : Int) - 1) = (n : Int) := by rw [i64_wrap (by omega) (by omega)]; omega
  cases hwell : wellS st with
  | false =>
    have G := fun w' (hs : Below w.heap.size w w') => well_r (RdX.mk (Sy.MemE.reX (F.below hs) (by repeat (first | exact Sy.Take.here | apply Sy.Take.there))) hC)
    rw [hwell] at G
    repeat (first
    | (((with_reducible refine Sy.is_guard ?_); (refine Sy.st_guard T (h := ?_))))
    | (((with_reducible refine Sy.is_load ?_); (refine Sy.st_loadAll T F (h := ?_)); clear T; intro ac T))
    | (((with_reducible refine Sy.is_op ?_); refine Sy.st_pure T (h := ?_); clear T; intro ac T))
    | (with_reducible refine wp_region_lit ?_)
    | ((with_reducible refine wp_seq_k ?_); intro _ _))
    refine Sy.st_callV0 T F (hc := G _ (Below.refl _ _)) (h := ?_); (clear T F; intro ac w T F)
    clear G
    repeat (first
    | (((with_reducible refine Sy.is_op ?_); refine Sy.st_pure T (h := ?_); clear T; intro ac T))
    | ((with_reducible refine Sy.is_cond ?_); (refine Sy.st_false T (h := ?_)))
    | (with_reducible refine wpList_nil ?_)
    | (with_reducible refine wp_region_lit ?_)
    | (with_reducible refine wp_exit ?_)
    | (with_reducible refine wp_ret ?_)
    | ((with_reducible refine wp_seq_k ?_); intro _ _)
    | (go_at_K; go_step)
    | (simp only [Exit.then, Exit.inBlock, ↓reduceIte, Nat.reduceEqDiff]))
    ((try simp only [Exit.inBlock, Exit.then]); refine Sy.st_ret1 T F rfl (by repeat (first | exact Sy.ResV.nil | apply Sy.ResV.tmp rfl | apply Sy.ResV.row rfl rfl rfl (by repeat (first | exact Sy.Take.here | apply Sy.Take.there)) (by rfl) | apply Sy.ResV.one rfl rfl rfl (by repeat (first | exact Sy.Take.here | apply Sy.Take.there)) (by rfl))) ?_)
    have hres : res = (acc, st) := hspec.trans (by first | rfl | simp [loopS, hwell])
    rw [hres]
    exact doneL F (by repeat (first | exact Sy.Take.here | apply Sy.Take.there)) hrows (fun _ _ _ _ hs h => h.sub hs) hC (by decide)
  | true =>
    have G := fun w' (hs : Below w.heap.size w w') => well_r (RdX.mk (Sy.MemE.reX (F.below hs) (by repeat (first | exact Sy.Take.here | apply Sy.Take.there))) hC)
    rw [hwell] at G
    repeat (first
    | (((with_reducible refine Sy.is_guard ?_); (refine Sy.st_guard T (h := ?_))))
    | (((with_reducible refine Sy.is_load ?_); (refine Sy.st_loadAll T F (h := ?_)); clear T; intro ac T))
    | (((with_reducible refine Sy.is_op ?_); refine Sy.st_pure T (h := ?_); clear T; intro ac T))
    | (with_reducible refine wp_region_lit ?_)
    | ((with_reducible refine wp_seq_k ?_); intro _ _))
    refine Sy.st_callV0 T F (hc := G _ (Below.refl _ _)) (h := ?_); (clear T F; intro ac w T F)
    clear G
    repeat (first
    | (((with_reducible refine Sy.is_op ?_); refine Sy.st_pure T (h := ?_); clear T; intro ac T))
    | ((with_reducible refine Sy.is_cond ?_); (refine Sy.st_true T (h := ?_)))
    | (with_reducible refine wpList_nil ?_)
    | (with_reducible refine wp_region_lit ?_)
    | (with_reducible refine wp_block ?_)
    | (with_reducible refine wp_skip ?_)
    | ((with_reducible refine wp_seq_k ?_); intro _ _)
    | (go_at_K; go_step)
    | (simp only [Exit.then, Exit.inBlock, ↓reduceIte, Nat.reduceEqDiff]))
    have G := done_r (RdX.mk (Sy.MemE.reX F (by repeat (first | exact Sy.Take.here | apply Sy.Take.there))) hC)
    refine Sy.st_callXc T F (us := [.agg #[.pointer (some ⟨gr, 0, none⟩)]]) (vs := []) (ks := []) rfl rfl (hc := G) (h := ?_)
    clear T F G hC; intro v m' cs ac w hR hS T F; obtain ⟨hV, hC⟩ := hR
    simp only [loopS, hwell, if_true] at hspec
    obtain ⟨x, hx⟩ : ∃ x, x = (doneS st).1 := ⟨_, rfl⟩
    rw [← hx] at hV hspec
    obtain ⟨cs0, rfl, hR⟩ := hV
    have hR2 := hR
    obtain ⟨dp, rfl, -⟩ := hR2
    dsimp only [repCs] at T hR
    obtain ⟨news, hnews⟩ : ∃ news, news = [Value.int .u8 (x.client : Int), .int .u64 (x.seq : Int), .int .i64 x.rep.err, .int .u64 (x.rep.inc : Int), .int .i64 x.rep.state, .slice dp.a x.rep.vars.length dp.c] := ⟨_, rfl⟩
    rw [← hnews] at hR
    have hlen : news.length = 6 := by rw [hnews]; rfl
    have hone : ∀ u ∈ news, u.oneCell' = true := by rw [hnews]; intro u hu; simp at hu; rcases hu with rfl | rfl | rfl | rfl | rfl | rfl <;> rfl
    skip
    refine Sy.st_buildSliceR T F (h := ?_); (conv => whnf); (repeat (refine ⟨by first | exact rfl | exact ⟨rfl, rfl⟩, ?_⟩; (conv => whnf))); clear T F; intro ac g w T F
    refine Sy.st_appendC T F (news := news) (k2 := 1) (cp := 1) (by rw [hnews]; exact Rt.cells_own (F.get (by exact Sy.Take.here))) (by exact hlen) (by exact hone) (hbytes := ?_) (h := ?_)
    · have : acc.length ≤ 1000 := by omega
      exact Nat.le_trans (Nat.mul_le_mul_right _ (show acc.length + 1 ≤ 1001 by omega)) (by decide)
    clear T F; intro ad' cap' ac w T F
    rw [show acc.length + 1 = (acc ++ [x]).length by simp, show css.flatten ++ news = (css ++ [news]).flatten by simp] at F
    rw [show acc.length + 1 = (acc ++ [x]).length by simp] at T
    repeat (first
    | (((with_reducible refine Sy.is_op ?_); refine Sy.st_pure T (h := ?_); clear T; intro ac T))
    | (with_reducible refine wpList_nil ?_)
    | (with_reducible refine wp_region_lit ?_)
    | (go_at_K; go_step)
    | (simp only [Exit.then, Exit.inBlock, ↓reduceIte, Nat.reduceEqDiff]))
    exact Sy.handed hJ (k := n) (by omega) ⟨m', cs, _, acc ++ [x], css ++ [news], ad', cap', by omega, by simp; omega, hS0.trans hS, hspec, hC, rows_snoc (rows_up (fun _ _ h => h.sub hS) hrows) hlen hR, (T.part (by repeat (first | exact Sy.Part.nil | apply Sy.Part.cons rfl))), (F.sel (by repeat (first | exact Sy.Sel.nil | apply Sy.Sel.cons (by repeat (first | exact Sy.Take.here | apply Sy.Take.there)))))⟩

set_option maxRecDepth 20000 in
set_option maxHeartbeats 1000000 in
theorem list_cells {m0 W : World} {gr : Nat} {s : St} {cs : List Value} (h : RdX m0 W gr s cs) :
    Calls Try.prog 63 #[.agg #[.pointer (some ⟨gr, 0, none⟩)], .func (.func 64) #[.agg #[.pointer (some ⟨gr, 0, none⟩)]] #[]] W (RetR m0 W gr (ListV CellR 4) (listS cellS s)) := by
  have hle := numR_le (most := 1000) (by omega) s
  have F := h.F
  have hC := h.c
  clear h
  refine Sy.enter Try.func63 rfl Try.ntmps63 rfl ?_; intro ac T; simp only [Sy.enum, Nat.zero_add, Nat.reduceAdd] at T
  repeat (first
    | (((with_reducible refine Sy.is_load ?_); (refine Sy.st_loadAll T F (h := ?_)); clear T; intro ac T))
    | (((with_reducible refine Sy.is_box ?_); (refine Sy.st_boxAgg T F (h := ?_)); clear T F; intro ac g w T F))
    | (((with_reducible refine Sy.is_op ?_); refine Sy.st_pure T (h := ?_); clear T; intro ac T))
    | (with_reducible refine wpList_nil ?_)
    | (with_reducible refine wp_region_lit ?_)
    | ((with_reducible refine wp_seq_k ?_); intro _ _)
    | (go_at_K; go_step)
    | (simp only [Exit.then, Exit.inBlock, ↓reduceIte, Nat.reduceEqDiff]))
  have G := sml_r (Pk.RdX.mk (Sy.MemE.reX F (by repeat (first | exact Sy.Take.here | apply Sy.Take.there))) hC); refine Sy.st_callX T F (hc := G) (h := ?_); (clear T F G hC; intro v m cs ac w hR hS T F; obtain ⟨hV, hC⟩ := hR)
  obtain ⟨rfl, hn⟩ := hV
  obtain ⟨gt, rfl⟩ := name1 T 2 rfl
  replace F := F.slA0 95 4 none
  have hspec : listS cellS s = loopS cellS (smlS s).1 (smlS s).2 [] := rfl
  generalize (smlS s).1 = n0 at *
  generalize (smlS s).2 = s0 at *
  generalize listS cellS s = res at *
  repeat (first
    | (((with_reducible refine Sy.is_op ?_); refine Sy.st_pure T (h := ?_); clear T; intro ac T))
    | (with_reducible refine wpList_nil ?_)
    | (with_reducible refine wp_block ?_)
    | (go_at_K; go_step)
    | (simp only [Exit.then, Exit.inBlock, ↓reduceIte, Nat.reduceEqDiff]))
  refine wp_loop_ghost_k (fun n ac w' => ∃ (m : World) (cs : List Value) (st : St) (acc : List CellD) (css : List (List Value)) (a : Option Addr) (cap : Nat), n ≤ n0 ∧ acc.length + n = n0 ∧ Sub m0 m ∧ res = loopS cellS n st acc ∧ RdC m st cs ∧ RowsOf CellR 4 m css acc ∧
    Sy.Tm ac 23 [(1, .func (.func 64) #[.agg #[.pointer (some ⟨gr, 0, none⟩)]] #[]), (2, .pointer (some ⟨gt, 0, none⟩)), (5, .slice a acc.length cap), (6, .int .i64 (n : Int))] ∧ Sy.MemE (Sy.SlA Sy.E0 95 4 (.slice a acc.length cap) acc.length css.flatten) ⟨W, [gr], m0⟩ m [⟨gr, cs, 100⟩, ⟨gt, [.pointer (some ⟨gr, 0, none⟩)], 101⟩] w') n0 ?_ ?_
  · exact ⟨m, cs, s0, [], [], none, 0, Nat.le_refl _, by simp, hS, hspec, hC, rows_nil, (T.part (by repeat (first | exact Sy.Part.nil | apply Sy.Part.cons rfl))), (F.sel (by repeat (first | exact Sy.Sel.nil | apply Sy.Sel.cons (by repeat (first | exact Sy.Take.here | apply Sy.Take.there)))))⟩
  clear T F hC hS hspec
  intro n ac w hI J K hJ hK
  obtain ⟨m, cs, st, acc, css, a, cap, hn1, hacc, hS0, hspec, hC, hrows, T, F⟩ := hI
  by_cases hz : n = 0
  · subst hz
    have u1 : decide (((0 : Nat) : Int) > 0) = false := decide_eq_false (by omega)
    repeat (first
    | (((with_reducible refine Sy.is_guard ?_); ((refine Sy.st_unguard T (h := ?_); clear T; intro ac T))))
    | (((with_reducible refine Sy.is_op ?_); refine Sy.st_pure T (h := ?_); clear T; intro ac T))
    | ((with_reducible refine Sy.is_cond ?_); (refine Sy.st_false T (h := ?_)))
    | (with_reducible refine wpList_nil ?_)
    | (with_reducible refine wp_region_lit ?_)
    | (with_reducible refine wp_exit ?_)
    | (with_reducible refine wp_ret ?_)
    | ((with_reducible refine wp_seq_k ?_); intro _ _)
    | (go_at_K; go_step)
    | (simp only [Exit.then, Exit.inBlock, ↓reduceIte, Nat.reduceEqDiff]))
    ((try simp only [Exit.inBlock, Exit.then]); refine Sy.st_ret1 T F rfl (by repeat (first | exact Sy.ResV.nil | apply Sy.ResV.tmp rfl | apply Sy.ResV.row rfl rfl rfl (by repeat (first | exact Sy.Take.here | apply Sy.Take.there)) (by rfl) | apply Sy.ResV.one rfl rfl rfl (by repeat (first | exact Sy.Take.here | apply Sy.Take.there)) (by rfl))) ?_)
    have hres : res = (acc, st) := hspec.trans (by first | rfl | simp [loopS, hwell])
    rw [hres]
    exact doneL F (by repeat (first | exact Sy.Take.here | apply Sy.Take.there)) hrows (fun _ _ _ _ _ h => h) hC (by decide)
  obtain ⟨n, rfl⟩ : ∃ q, n = q + 1 := ⟨n - 1, by omega⟩
  have u1 : decide (((n + 1 : Nat) : Int) > 0) = true := decide_eq_true (by omega)
  have u2 : IntKind.i64.wrap (((n + 1 : Nat) : Int) - 1) = (n : Int) := by rw [i64_wrap (by omega) (by omega)]; omega
  cases hwell : wellS st with
  | false =>
    have G := fun w' (hs : Below w.heap.size w w') => well_r (RdX.mk (Sy.MemE.reX (F.below hs) (by repeat (first | exact Sy.Take.here | apply Sy.Take.there))) hC)
    rw [hwell] at G
    repeat (first
    | (((with_reducible refine Sy.is_guard ?_); (refine Sy.st_guard T (h := ?_))))
    | (((with_reducible refine Sy.is_load ?_); (refine Sy.st_loadAll T F (h := ?_)); clear T; intro ac T))
    | (((with_reducible refine Sy.is_op ?_); refine Sy.st_pure T (h := ?_); clear T; intro ac T))
    | (with_reducible refine wp_region_lit ?_)
    | ((with_reducible refine wp_seq_k ?_); intro _ _))
    refine Sy.st_callV0 T F (hc := G _ (Below.refl _ _)) (h := ?_); (clear T F; intro ac w T F)
    clear G
    repeat (first
    | (((with_reducible refine Sy.is_op ?_); refine Sy.st_pure T (h := ?_); clear T; intro ac T))
    | ((with_reducible refine Sy.is_cond ?_); (refine Sy.st_false T (h := ?_)))
    | (with_reducible refine wpList_nil ?_)
    | (with_reducible refine wp_region_lit ?_)
    | (with_reducible refine wp_exit ?_)
    | (with_reducible refine wp_ret ?_)
    | ((with_reducible refine wp_seq_k ?_); intro _ _)
    | (go_at_K; go_step)
    | (simp only [Exit.then, Exit.inBlock, ↓reduceIte, Nat.reduceEqDiff]))
    ((try simp only [Exit.inBlock, Exit.then]); refine Sy.st_ret1 T F rfl (by repeat (first | exact Sy.ResV.nil | apply Sy.ResV.tmp rfl | apply Sy.ResV.row rfl rfl rfl (by repeat (first | exact Sy.Take.here | apply Sy.Take.there)) (by rfl) | apply Sy.ResV.one rfl rfl rfl (by repeat (first | exact Sy.Take.here | apply Sy.Take.there)) (by rfl))) ?_)
    have hres : res = (acc, st) := hspec.trans (by first | rfl | simp [loopS, hwell])
    rw [hres]
    exact doneL F (by repeat (first | exact Sy.Take.here | apply Sy.Take.there)) hrows (fun _ _ _ _ _ h => h) hC (by decide)
  | true =>
    have G := fun w' (hs : Below w.heap.size w w') => well_r (RdX.mk (Sy.MemE.reX (F.below hs) (by repeat (first | exact Sy.Take.here | apply Sy.Take.there))) hC)
    rw [hwell] at G
    repeat (first
    | (((with_reducible refine Sy.is_guard ?_); (refine Sy.st_guard T (h := ?_))))
    | (((with_reducible refine Sy.is_load ?_); (refine Sy.st_loadAll T F (h := ?_)); clear T; intro ac T))
    | (((with_reducible refine Sy.is_op ?_); refine Sy.st_pure T (h := ?_); clear T; intro ac T))
    | (with_reducible refine wp_region_lit ?_)
    | ((with_reducible refine wp_seq_k ?_); intro _ _))
    refine Sy.st_callV0 T F (hc := G _ (Below.refl _ _)) (h := ?_); (clear T F; intro ac w T F)
    clear G
    repeat (first
    | (((with_reducible refine Sy.is_op ?_); refine Sy.st_pure T (h := ?_); clear T; intro ac T))
    | ((with_reducible refine Sy.is_cond ?_); (refine Sy.st_true T (h := ?_)))
    | (with_reducible refine wpList_nil ?_)
    | (with_reducible refine wp_region_lit ?_)
    | (with_reducible refine wp_block ?_)
    | (with_reducible refine wp_skip ?_)
    | ((with_reducible refine wp_seq_k ?_); intro _ _)
    | (go_at_K; go_step)
    | (simp only [Exit.then, Exit.inBlock, ↓reduceIte, Nat.reduceEqDiff]))
    have G := cell_r (RdX.mk (Sy.MemE.reX F (by repeat (first | exact Sy.Take.here | apply Sy.Take.there))) hC)
    refine Sy.st_callXc T F (us := [.agg #[.pointer (some ⟨gr, 0, none⟩)]]) (vs := []) (ks := []) rfl rfl (hc := G) (h := ?_)
    clear T F G hC; intro v m' cs ac w hR hS T F; obtain ⟨hV, hC⟩ := hR
    simp only [loopS, hwell, if_true] at hspec
    obtain ⟨x, hx⟩ : ∃ x, x = (cellS st).1 := ⟨_, rfl⟩
    rw [← hx] at hV hspec
    obtain ⟨cs0, rfl, hR⟩ := hV
    have hR2 := hR
    obtain ⟨rfl, -⟩ := hR2
    obtain ⟨news, hnews⟩ : ∃ news, news = [Value.int .u64 (x.n : Int), .int .u8 (x.target : Int), .int .i64 x.action, .int .i64 x.arg] := ⟨_, rfl⟩
    rw [← hnews] at hR
    have hlen : news.length = 4 := by rw [hnews]; rfl
    have hone : ∀ u ∈ news, u.oneCell' = true := by rw [hnews]; intro u hu; simp  at hu; rcases hu with rfl | rfl | rfl | rfl <;> rfl
    skip
    refine Sy.st_buildSliceR T F (h := ?_); (conv => whnf); (repeat (refine ⟨by first | exact rfl | exact ⟨rfl, rfl⟩, ?_⟩; (conv => whnf))); clear T F; intro ac g w T F
    refine Sy.st_appendC T F (news := news) (k2 := 1) (cp := 1) (by rw [hnews]; exact Rt.cells_own (F.get (by exact Sy.Take.here))) (by exact hlen) (by exact hone) (hbytes := ?_) (h := ?_)
    · have : acc.length ≤ 1000 := by omega
      exact Nat.le_trans (Nat.mul_le_mul_right _ (show acc.length + 1 ≤ 1001 by omega)) (by decide)
    clear T F; intro ad' cap' ac w T F
    rw [show acc.length + 1 = (acc ++ [x]).length by simp, show css.flatten ++ news = (css ++ [news]).flatten by simp] at F
    rw [show acc.length + 1 = (acc ++ [x]).length by simp] at T
    repeat (first
    | (((with_reducible refine Sy.is_op ?_); refine Sy.st_pure T (h := ?_); clear T; intro ac T))
    | (with_reducible refine wpList_nil ?_)
    | (with_reducible refine wp_region_lit ?_)
    | (go_at_K; go_step)
    | (simp only [Exit.then, Exit.inBlock, ↓reduceIte, Nat.reduceEqDiff]))
    exact Sy.handed hJ (k := n) (by omega) ⟨m', cs, _, acc ++ [x], css ++ [news], ad', cap', by omega, by simp; omega, hS0.trans hS, hspec, hC, rows_snoc (rows_up (fun _ _ h => h) hrows) hlen hR, (T.part (by repeat (first | exact Sy.Part.nil | apply Sy.Part.cons rfl))), (F.sel (by repeat (first | exact Sy.Sel.nil | apply Sy.Sel.cons (by repeat (first | exact Sy.Take.here | apply Sy.Take.there)))))⟩

set_option maxRecDepth 20000 in
set_option maxHeartbeats 1000000 in
theorem list_marks {m0 W : World} {gr : Nat} {s : St} {cs : List Value} (h : RdX m0 W gr s cs) :
    Calls Try.prog 65 #[.agg #[.pointer (some ⟨gr, 0, none⟩)], .func (.func 66) #[.agg #[.pointer (some ⟨gr, 0, none⟩)]] #[]] W (RetR m0 W gr (ListV MarkR 3) (listS markS s)) := by
  have hle := numR_le (most := 1000) (by omega) s
  have F := h.F
  have hC := h.c
  clear h
  refine Sy.enter Try.func65 rfl Try.ntmps65 rfl ?_; intro ac T; simp only [Sy.enum, Nat.zero_add, Nat.reduceAdd] at T
  repeat (first
    | (((with_reducible refine Sy.is_load ?_); (refine Sy.st_loadAll T F (h := ?_)); clear T; intro ac T))
    | (((with_reducible refine Sy.is_box ?_); (refine Sy.st_boxAgg T F (h := ?_)); clear T F; intro ac g w T F))
    | (((with_reducible refine Sy.is_op ?_); refine Sy.st_pure T (h := ?_); clear T; intro ac T))
    | (with_reducible refine wpList_nil ?_)
    | (with_reducible refine wp_region_lit ?_)
    | ((with_reducible refine wp_seq_k ?_); intro _ _)
    | (go_at_K; go_step)
    | (simp only [Exit.then, Exit.inBlock, ↓reduceIte, Nat.reduceEqDiff]))
  have G := sml_r (Pk.RdX.mk (Sy.MemE.reX F (by repeat (first | exact Sy.Take.here | apply Sy.Take.there))) hC); refine Sy.st_callX T F (hc := G) (h := ?_); (clear T F G hC; intro v m cs ac w hR hS T F; obtain ⟨hV, hC⟩ := hR)
  obtain ⟨rfl, hn⟩ := hV
  obtain ⟨gt, rfl⟩ := name1 T 2 rfl
  replace F := F.slA0 98 3 none
  have hspec : listS markS s = loopS markS (smlS s).1 (smlS s).2 [] := rfl
  generalize (smlS s).1 = n0 at *
  generalize (smlS s).2 = s0 at *
  generalize listS markS s = res at *
  repeat (first
    | (((with_reducible refine Sy.is_op ?_); refine Sy.st_pure T (h := ?_); clear T; intro ac T))
    | (with_reducible refine wpList_nil ?_)
    | (with_reducible refine wp_block ?_)
    | (go_at_K; go_step)
    | (simp only [Exit.then, Exit.inBlock, ↓reduceIte, Nat.reduceEqDiff]))
  refine wp_loop_ghost_k (fun n ac w' => ∃ (m : World) (cs : List Value) (st : St) (acc : List MarkD) (css : List (List Value)) (a : Option Addr) (cap : Nat), n ≤ n0 ∧ acc.length + n = n0 ∧ Sub m0 m ∧ res = loopS markS n st acc ∧ RdC m st cs ∧ RowsOf MarkR 3 m css acc ∧
    Sy.Tm ac 23 [(1, .func (.func 66) #[.agg #[.pointer (some ⟨gr, 0, none⟩)]] #[]), (2, .pointer (some ⟨gt, 0, none⟩)), (5, .slice a acc.length cap), (6, .int .i64 (n : Int))] ∧ Sy.MemE (Sy.SlA Sy.E0 98 3 (.slice a acc.length cap) acc.length css.flatten) ⟨W, [gr], m0⟩ m [⟨gr, cs, 100⟩, ⟨gt, [.pointer (some ⟨gr, 0, none⟩)], 101⟩] w') n0 ?_ ?_
  · exact ⟨m, cs, s0, [], [], none, 0, Nat.le_refl _, by simp, hS, hspec, hC, rows_nil, (T.part (by repeat (first | exact Sy.Part.nil | apply Sy.Part.cons rfl))), (F.sel (by repeat (first | exact Sy.Sel.nil | apply Sy.Sel.cons (by repeat (first | exact Sy.Take.here | apply Sy.Take.there)))))⟩
  clear T F hC hS hspec
  intro n ac w hI J K hJ hK
  obtain ⟨m, cs, st, acc, css, a, cap, hn1, hacc, hS0, hspec, hC, hrows, T, F⟩ := hI
  by_cases hz : n = 0
  · subst hz
    have u1 : decide (((0 : Nat) : Int) > 0) = false := decide_eq_false (by omega)
    repeat (first
    | (((with_reducible refine Sy.is_guard ?_); ((refine Sy.st_unguard T (h := ?_); clear T; intro ac T))))
    | (((with_reducible refine Sy.is_op ?_); refine Sy.st_pure T (h := ?_); clear T; intro ac T))
    | ((with_reducible refine Sy.is_cond ?_); (refine Sy.st_false T (h := ?_)))
    | (with_reducible refine wpList_nil ?_)
    | (with_reducible refine wp_region_lit ?_)
    | (with_reducible refine wp_exit ?_)
    | (with_reducible refine wp_ret ?_)
    | ((with_reducible refine wp_seq_k ?_); intro _ _)
    | (go_at_K; go_step)
    | (simp only [Exit.then, Exit.inBlock, ↓reduceIte, Nat.reduceEqDiff]))
    ((try simp only [Exit.inBlock, Exit.then]); refine Sy.st_ret1 T F rfl (by repeat (first | exact Sy.ResV.nil | apply Sy.ResV.tmp rfl | apply Sy.ResV.row rfl rfl rfl (by repeat (first | exact Sy.Take.here | apply Sy.Take.there)) (by rfl) | apply Sy.ResV.one rfl rfl rfl (by repeat (first | exact Sy.Take.here | apply Sy.Take.there)) (by rfl))) ?_)
    have hres : res = (acc, st) := hspec.trans (by first | rfl | simp [loopS, hwell])
    rw [hres]
    exact doneL F (by repeat (first | exact Sy.Take.here | apply Sy.Take.there)) hrows (fun _ _ _ _ _ h => h) hC (by decide)
  obtain ⟨n, rfl⟩ : ∃ q, n = q + 1 := ⟨n - 1, by omega⟩
  have u1 : decide (((n + 1 : Nat) : Int) > 0) = true := decide_eq_true (by omega)
  have u2 : IntKind.i64.wrap (((n + 1 : Nat) : Int) - 1) = (n : Int) := by rw [i64_wrap (by omega) (by omega)]; omega
  cases hwell : wellS st with
  | false =>
    have G := fun w' (hs : Below w.heap.size w w') => well_r (RdX.mk (Sy.MemE.reX (F.below hs) (by repeat (first | exact Sy.Take.here | apply Sy.Take.there))) hC)
    rw [hwell] at G
    repeat (first
    | (((with_reducible refine Sy.is_guard ?_); (refine Sy.st_guard T (h := ?_))))
    | (((with_reducible refine Sy.is_load ?_); (refine Sy.st_loadAll T F (h := ?_)); clear T; intro ac T))
    | (((with_reducible refine Sy.is_op ?_); refine Sy.st_pure T (h := ?_); clear T; intro ac T))
    | (with_reducible refine wp_region_lit ?_)
    | ((with_reducible refine wp_seq_k ?_); intro _ _))
    refine Sy.st_callV0 T F (hc := G _ (Below.refl _ _)) (h := ?_); (clear T F; intro ac w T F)
    clear G
    repeat (first
    | (((with_reducible refine Sy.is_op ?_); refine Sy.st_pure T (h := ?_); clear T; intro ac T))
    | ((with_reducible refine Sy.is_cond ?_); (refine Sy.st_false T (h := ?_)))
    | (with_reducible refine wpList_nil ?_)
    | (with_reducible refine wp_region_lit ?_)
    | (with_reducible refine wp_exit ?_)
    | (with_reducible refine wp_ret ?_)
    | ((with_reducible refine wp_seq_k ?_); intro _ _)
    | (go_at_K; go_step)
    | (simp only [Exit.then, Exit.inBlock, ↓reduceIte, Nat.reduceEqDiff]))
    ((try simp only [Exit.inBlock, Exit.then]); refine Sy.st_ret1 T F rfl (by repeat (first | exact Sy.ResV.nil | apply Sy.ResV.tmp rfl | apply Sy.ResV.row rfl rfl rfl (by repeat (first | exact Sy.Take.here | apply Sy.Take.there)) (by rfl) | apply Sy.ResV.one rfl rfl rfl (by repeat (first | exact Sy.Take.here | apply Sy.Take.there)) (by rfl))) ?_)
    have hres : res = (acc, st) := hspec.trans (by first | rfl | simp [loopS, hwell])
    rw [hres]
    exact doneL F (by repeat (first | exact Sy.Take.here | apply Sy.Take.there)) hrows (fun _ _ _ _ _ h => h) hC (by decide)
  | true =>
    have G := fun w' (hs : Below w.heap.size w w') => well_r (RdX.mk (Sy.MemE.reX (F.below hs) (by repeat (first | exact Sy.Take.here | apply Sy.Take.there))) hC)
    rw [hwell] at G
    repeat (first
    | (((with_reducible refine Sy.is_guard ?_); (refine Sy.st_guard T (h := ?_))))
    | (((with_reducible refine Sy.is_load ?_); (refine Sy.st_loadAll T F (h := ?_)); clear T; intro ac T))
    | (((with_reducible refine Sy.is_op ?_); refine Sy.st_pure T (h := ?_); clear T; intro ac T))
    | (with_reducible refine wp_region_lit ?_)
    | ((with_reducible refine wp_seq_k ?_); intro _ _))
    refine Sy.st_callV0 T F (hc := G _ (Below.refl _ _)) (h := ?_); (clear T F; intro ac w T F)
    clear G
    repeat (first
    | (((with_reducible refine Sy.is_op ?_); refine Sy.st_pure T (h := ?_); clear T; intro ac T))
    | ((with_reducible refine Sy.is_cond ?_); (refine Sy.st_true T (h := ?_)))
    | (with_reducible refine wpList_nil ?_)
    | (with_reducible refine wp_region_lit ?_)
    | (with_reducible refine wp_block ?_)
    | (with_reducible refine wp_skip ?_)
    | ((with_reducible refine wp_seq_k ?_); intro _ _)
    | (go_at_K; go_step)
    | (simp only [Exit.then, Exit.inBlock, ↓reduceIte, Nat.reduceEqDiff]))
    have G := mark_r (RdX.mk (Sy.MemE.reX F (by repeat (first | exact Sy.Take.here | apply Sy.Take.there))) hC)
    refine Sy.st_callXc T F (us := [.agg #[.pointer (some ⟨gr, 0, none⟩)]]) (vs := []) (ks := []) rfl rfl (hc := G) (h := ?_)
    clear T F G hC; intro v m' cs ac w hR hS T F; obtain ⟨hV, hC⟩ := hR
    simp only [loopS, hwell, if_true] at hspec
    obtain ⟨x, hx⟩ : ∃ x, x = (markS st).1 := ⟨_, rfl⟩
    rw [← hx] at hV hspec
    obtain ⟨cs0, rfl, hR⟩ := hV
    have hR2 := hR
    obtain ⟨rfl, -⟩ := hR2
    obtain ⟨news, hnews⟩ : ∃ news, news = [Value.int .u8 (x.source : Int), .int .u64 (x.inc : Int), .int .u64 (x.cell : Int)] := ⟨_, rfl⟩
    rw [← hnews] at hR
    have hlen : news.length = 3 := by rw [hnews]; rfl
    have hone : ∀ u ∈ news, u.oneCell' = true := by rw [hnews]; intro u hu; simp  at hu; rcases hu with rfl | rfl | rfl <;> rfl
    skip
    refine Sy.st_buildSliceR T F (h := ?_); (conv => whnf); (repeat (refine ⟨by first | exact rfl | exact ⟨rfl, rfl⟩, ?_⟩; (conv => whnf))); clear T F; intro ac g w T F
    refine Sy.st_appendC T F (news := news) (k2 := 1) (cp := 1) (by rw [hnews]; exact Rt.cells_own (F.get (by exact Sy.Take.here))) (by exact hlen) (by exact hone) (hbytes := ?_) (h := ?_)
    · have : acc.length ≤ 1000 := by omega
      exact Nat.le_trans (Nat.mul_le_mul_right _ (show acc.length + 1 ≤ 1001 by omega)) (by decide)
    clear T F; intro ad' cap' ac w T F
    rw [show acc.length + 1 = (acc ++ [x]).length by simp, show css.flatten ++ news = (css ++ [news]).flatten by simp] at F
    rw [show acc.length + 1 = (acc ++ [x]).length by simp] at T
    repeat (first
    | (((with_reducible refine Sy.is_op ?_); refine Sy.st_pure T (h := ?_); clear T; intro ac T))
    | (with_reducible refine wpList_nil ?_)
    | (with_reducible refine wp_region_lit ?_)
    | (go_at_K; go_step)
    | (simp only [Exit.then, Exit.inBlock, ↓reduceIte, Nat.reduceEqDiff]))
    exact Sy.handed hJ (k := n) (by omega) ⟨m', cs, _, acc ++ [x], css ++ [news], ad', cap', by omega, by simp; omega, hS0.trans hS, hspec, hC, rows_snoc (rows_up (fun _ _ h => h) hrows) hlen hR, (T.part (by repeat (first | exact Sy.Part.nil | apply Sy.Part.cons rfl))), (F.sel (by repeat (first | exact Sy.Sel.nil | apply Sy.Sel.cons (by repeat (first | exact Sy.Take.here | apply Sy.Take.there)))))⟩
end Rt
end Go.Proofs.Ytniopkoaplkpkaa
