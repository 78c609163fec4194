/- The walk of TableFirst. Conditions: the contract and the variables can be read. -/
import Derived.Test.YtdpmfjbhadapiaaTbU
import Derived.Test.YtdpmfjbhadapiaaSyU
namespace Go.Proofs.Ytdpmfjbhadapiaa
open Go.RowKit
set_option linter.unusedVariables false
set_option linter.unusedSimpArgs false
namespace Sy
theorem MemE.takeSl {E : Ext} {c : Cx} {m w : World} {bs r : List Blk} {g : Nat} {cs : List Value} {e : TypeId} {size n : Nat} (F : MemE E c m bs w) (h : Take bs g cs e r) (hl : cs.length = n * size) (hn : n ≤ maxLen) : MemE (SlA E e size (.slice (some ⟨g, 0, none⟩) n n) n cs) c m r w := by
  have F' := F.perm h.perm
  have ho := F'.own ⟨g, cs, e⟩ (List.mem_cons_self ..)
  have hnd := List.nodup_cons.1 F'.nodup
  have hblk : ∀ k, blk (.slice (some ⟨g, 0, none⟩) n n) = some k → k = g := fun k hk => by
    cases n with
    | zero => exact (blk_zero _ k hk).elim
    | succ n => simp [blk] at hk; exact hk.symm
  refine ⟨F'.kept, F'.sub0, F'.sub, F'.fresh, fun b hb => F'.own b (List.mem_cons_of_mem _ hb), hnd.2, ⟨F'.ext, ⟨_, n, rfl, hl, Nat.le_refl _, hn, .inr ⟨g, cs.toArray, rfl, Nat.zero_le _, ho.2.1, by simpa using hl, ?_⟩⟩, fun k hk hs => ?_⟩, fun k hk => ?_⟩
  · rw [← hl]; simp
  · rw [hblk k hk] at hs
    exact (F'.loose g hs).2.1 (by simp)
  · rcases hk with hk | hk
    · have := F'.loose k hk
      exact ⟨this.1, fun hm => this.2.1 (by simp only [List.map_cons]; exact List.mem_cons_of_mem _ hm), this.2.2⟩
    · rw [hblk k hk]
      exact ⟨ho.1, hnd.1, ho.2.2⟩
end Sy
namespace Tb
open Sy (RetV RetM Sub)
open Rg (and2 or2 or7 retBb not_t not_f eqT eqF i64_up i64_wrap idxS idx_some CellD CellR NumR OwnRows RowsOf rows_flat flat_rows flat_len)
theorem retBo_of {w : World} {b : Bool} {e : Ending} {w' : World} (h : RetV w (.bool b) e w') : RetBo w b e w' := h
def firstR (r : RuleD) (to : Int) : RuleD := ⟨r.src, r.action, r.party, to, [], [], []⟩
def firstT (t : TabD) (r : RuleD) (to : Int) : TabD := ⟨t.states, t.vars, firstR r to :: t.rules⟩
theorem holds_nil (vars : List Int) (arg : Int) : Ex.holdsS [] vars arg = true := by unfold Ex.holdsS; simp
theorem first_law {t : TabD} {i : Nat} (hi : i < t.rules.length) {to : Int} {vars : List Int} (arg : Int) (hm : mayS t = true) (h31 : t.rules.length ≤ 31) (h0 : 0 ≤ to) (h1 : to < t.states) (hv : (vars.length : Int) = t.vars) :
    findS (firstT t t.rules[i] to) t.rules[i].src t.rules[i].action t.rules[i].party vars arg = 0 ∧ fireS (firstT t t.rules[i] to) t.rules[i].src t.rules[i].action t.rules[i].party vars arg = ⟨to, vars, [], 0⟩ := by
  have hr := may_rule hm (List.getElem_mem hi)
  have hmv := may_vars hm
  generalize t.rules[i] = r at *
  have hn : ruleS t.states t.vars (firstR r to) = true := by
    unfold ruleS headS at hr
    simp only [Bool.and_eq_true] at hr
    obtain ⟨⟨x1, x2, x3, x4, -, -⟩, -⟩ := hr
    have x5 : inS to t.states = true := by unfold inS; rw [decide_eq_true h1, decide_eq_true (show to ≥ 0 from h0)]; rfl
    unfold ruleS headS firstR
    simp only [x1, x3, x4, x5]
    rfl
  have hmx : mayS (firstT t r to) = true := by
    unfold mayS at hm ⊢
    simp only [Bool.and_eq_true, firstT] at hm ⊢
    obtain ⟨y1, y2, y3, y4, y5, y6⟩ := hm
    refine ⟨y1, y2, y3, y4, ?_, ?_⟩
    · have hz : ¬ (((firstR r to :: t.rules).length : Int) > 32) := by simp only [List.length_cons]; omega
      exact (congrArg not (decide_eq_false hz)).trans rfl
    · rw [List.any_cons, hn]
      exact y6
  have hg : goodS (firstT t r to) vars = true := by
    unfold goodS
    rw [hmx]
    simpa [firstT] using hv
  have hhit : hitR r.src r.action r.party vars arg (firstR r to) = true := by
    unfold hitR firstR
    simp [holds_nil]
  have hf : findS (firstT t r to) r.src r.action r.party vars arg = 0 := by
    unfold findS
    rw [if_pos hg]
    have : idxS (hitR r.src r.action r.party vars arg) (firstT t r to).rules = ((0 : Nat) : Int) := idx_some (k := 0) (by simp [firstT]) rfl hhit
    exact this
  refine ⟨hf, ?_⟩
  unfold fireS
  rw [if_neg (by rw [hg]; simp), hf, if_neg (by omega)]
  have : (firstT t r to).rules.getD (0 : Int).toNat zeroRule = firstR r to := rfl
  rw [this]
  rfl
theorem rule_one (w : World) (cs : List Value) (r : RuleD) (h : RuleR w cs r) : ∀ u ∈ cs, u.oneCell' = true := by
  obtain ⟨p, rfl, _⟩ := h
  intro u hu
  simp [ruleCs] at hu
  rcases hu with rfl | rfl | rfl | rfl | rfl | rfl | rfl <;> rfl
theorem rowsOf_sub {w w' : World} (hs : Sub w w') {css : List (List Value)} {l : List RuleD} (h : RowsOf RuleR 7 w css l) : RowsOf RuleR 7 w' css l := ⟨h.1, fun i p q => ⟨(h.2 i p q).1, (h.2 i p q).2.sub hs⟩⟩
theorem rowsOf_cons {w : World} {cs : List Value} {r : RuleD} (hl : cs.length = 7) (hr : RuleR w cs r) {css : List (List Value)} {l : List RuleD} (h : RowsOf RuleR 7 w css l) : RowsOf RuleR 7 w (cs :: css) (r :: l) := by
  refine ⟨by simp [h.1], fun i p q => ?_⟩
  cases i with
  | zero => exact ⟨hl, hr⟩
  | succ i => exact h.2 i (by simpa using p) (by simpa using q)
def nilA : RuleA := ⟨none, 0, none, 0, none, 0⟩
set_option maxRecDepth 20000 in
set_option maxHeartbeats 2000000 in
theorem first_any (w0 : World) (t : TabD) (ta : Option Addr) (tc : Nat) (h : TabAt w0 t ta tc) (to : Int) (hto : Rg.I64 to) (va : Option Addr) (vc : Nat) (vars : List Int) (hv : Ex.Ints w0 va vars.length vars) (arg : Int) (ha : OkA arg) (at_ : Int) :
    Calls Try.prog 4 #[.agg (tabCs t ta tc).toArray, .int .i64 to, .slice va vars.length vc, .int .i64 arg, .int .i64 at_] w0 (RetV w0 (.bool true)) := by
  have F := Sy.Mem.start (Sub.refl w0)
  have hvm := hv.2.1
  refine Sy.enter Try.func4 rfl Try.ntmps4 rfl ?_; intro ac T; simp only [Sy.enum, Nat.zero_add, Nat.reduceAdd] at T
  repeat (first
    | (((with_reducible refine Sy.is_guard ?_); (first | refine Sy.st_guard T (h := ?_) | (refine Sy.st_unguard T (h := ?_); clear T; intro ac T))))
    | (((with_reducible refine Sy.is_load ?_); (first | refine Sy.st_loadOne T F (h := ?_) | refine Sy.st_oldOne T F (h := ?_) | refine Sy.st_loadAll T F (h := ?_) | (refine Sy.st_loadCut T F (h := ?_); conv => whnf) | refine Sy.st_oldAgg T F (h := ?_) | (refine Sy.st_oldCut T F (h := ?_); conv => whnf)); clear T; intro ac T))
    | (((with_reducible refine Sy.is_store ?_); (first | refine Sy.st_storeAll T F (h := ?_) | (refine Sy.st_storeOne T F (h := ?_); conv => whnf) | (refine Sy.st_storeAgg T F (h := ?_); conv => whnf)); clear T F; intro ac w T F))
    | (((with_reducible refine Sy.is_box ?_); (first | refine Sy.st_boxAgg T F (h := ?_) | refine Sy.st_boxOne T F (h := ?_)); clear T F; intro ac g w T F))
    | (((with_reducible refine Sy.is_alloc ?_); refine Sy.st_alloc T F (h := ?_); clear T F; intro ac g w T F))
    | (((with_reducible refine Sy.is_build ?_); refine Sy.st_build T (h := ?_); (conv => whnf); (repeat (refine ⟨by first | exact rfl | exact ⟨rfl, rfl⟩, ?_⟩; (conv => whnf))); clear T; intro ac T))
    | (((with_reducible refine Sy.is_buildSlice ?_); refine Sy.st_buildSlice T F (h := ?_); (conv => whnf); (repeat (refine ⟨by first | exact rfl | exact ⟨rfl, rfl⟩, ?_⟩; (conv => whnf))); clear T F; intro ac g w T F))
    | (((with_reducible refine Sy.is_op ?_); refine Sy.st_pure T (h := ?_); clear T; intro ac T))
    | ((with_reducible refine Sy.atK (hK _ _ ?_)))
    | ((with_reducible refine Sy.is_cond ?_); (first | refine Sy.st_true T (h := ?_) | refine Sy.st_false T (h := ?_)))
    | (with_reducible refine wpList_nil ?_)
    | (with_reducible refine wp_region_lit ?_)
    | (with_reducible refine wp_block ?_)
    | (with_reducible refine wp_skip ?_)
    | (with_reducible refine wp_exit ?_)
    | (with_reducible refine wp_ret ?_)
    | ((with_reducible refine wp_seq_k ?_); intro _ _)
    | (go_at_K; go_step)
    | (simp only [Exit.then, Exit.inBlock, ↓reduceIte, Nat.reduceEqDiff]))
  refine Sy.st_call (us := []) (ks := []) T rfl rfl rfl rfl (great_any _ t ta tc (h.sub F.sub)) ?_
  rintro e w1 ⟨b, rfl, bel⟩
  refine ⟨_, rfl, fun ac' T' => ?_⟩
  have F1 := F.below bel
  clear F T bel
  have F := F1
  have T := T'
  clear F1 T'
  cases b with
  | true =>
    repeat (first
    | (((with_reducible refine Sy.is_guard ?_); (first | refine Sy.st_guard T (h := ?_) | (refine Sy.st_unguard T (h := ?_); clear T; intro ac T))))
    | (((with_reducible refine Sy.is_load ?_); (first | refine Sy.st_loadOne T F (h := ?_) | refine Sy.st_oldOne T F (h := ?_) | refine Sy.st_loadAll T F (h := ?_) | (refine Sy.st_loadCut T F (h := ?_); conv => whnf) | refine Sy.st_oldAgg T F (h := ?_) | (refine Sy.st_oldCut T F (h := ?_); conv => whnf)); clear T; intro ac T))
    | (((with_reducible refine Sy.is_store ?_); (first | refine Sy.st_storeAll T F (h := ?_) | (refine Sy.st_storeOne T F (h := ?_); conv => whnf) | (refine Sy.st_storeAgg T F (h := ?_); conv => whnf)); clear T F; intro ac w T F))
    | (((with_reducible refine Sy.is_box ?_); (first | refine Sy.st_boxAgg T F (h := ?_) | refine Sy.st_boxOne T F (h := ?_)); clear T F; intro ac g w T F))
    | (((with_reducible refine Sy.is_alloc ?_); refine Sy.st_alloc T F (h := ?_); clear T F; intro ac g w T F))
    | (((with_reducible refine Sy.is_build ?_); refine Sy.st_build T (h := ?_); (conv => whnf); (repeat (refine ⟨by first | exact rfl | exact ⟨rfl, rfl⟩, ?_⟩; (conv => whnf))); clear T; intro ac T))
    | (((with_reducible refine Sy.is_buildSlice ?_); refine Sy.st_buildSlice T F (h := ?_); (conv => whnf); (repeat (refine ⟨by first | exact rfl | exact ⟨rfl, rfl⟩, ?_⟩; (conv => whnf))); clear T F; intro ac g w T F))
    | (((with_reducible refine Sy.is_op ?_); refine Sy.st_pure T (h := ?_); clear T; intro ac T))
    | ((with_reducible refine Sy.atK (hK _ _ ?_)))
    | ((with_reducible refine Sy.is_cond ?_); (first | refine Sy.st_true T (h := ?_) | refine Sy.st_false T (h := ?_)))
    | (with_reducible refine wpList_nil ?_)
    | (with_reducible refine wp_region_lit ?_)
    | (with_reducible refine wp_block ?_)
    | (with_reducible refine wp_skip ?_)
    | (with_reducible refine wp_exit ?_)
    | (with_reducible refine wp_ret ?_)
    | ((with_reducible refine wp_seq_k ?_); intro _ _)
    | (go_at_K; go_step)
    | (simp only [Exit.then, Exit.inBlock, ↓reduceIte, Nat.reduceEqDiff]))
    refine Sy.st_callV0 T F (hc := awake05_any _) (h := ?_); (clear T F; intro ac w T F)
    repeat (first
    | (((with_reducible refine Sy.is_guard ?_); (first | refine Sy.st_guard T (h := ?_) | (refine Sy.st_unguard T (h := ?_); clear T; intro ac T))))
    | (((with_reducible refine Sy.is_load ?_); (first | refine Sy.st_loadOne T F (h := ?_) | refine Sy.st_oldOne T F (h := ?_) | refine Sy.st_loadAll T F (h := ?_) | (refine Sy.st_loadCut T F (h := ?_); conv => whnf) | refine Sy.st_oldAgg T F (h := ?_) | (refine Sy.st_oldCut T F (h := ?_); conv => whnf)); clear T; intro ac T))
    | (((with_reducible refine Sy.is_store ?_); (first | refine Sy.st_storeAll T F (h := ?_) | (refine Sy.st_storeOne T F (h := ?_); conv => whnf) | (refine Sy.st_storeAgg T F (h := ?_); conv => whnf)); clear T F; intro ac w T F))
    | (((with_reducible refine Sy.is_box ?_); (first | refine Sy.st_boxAgg T F (h := ?_) | refine Sy.st_boxOne T F (h := ?_)); clear T F; intro ac g w T F))
    | (((with_reducible refine Sy.is_alloc ?_); refine Sy.st_alloc T F (h := ?_); clear T F; intro ac g w T F))
    | (((with_reducible refine Sy.is_build ?_); refine Sy.st_build T (h := ?_); (conv => whnf); (repeat (refine ⟨by first | exact rfl | exact ⟨rfl, rfl⟩, ?_⟩; (conv => whnf))); clear T; intro ac T))
    | (((with_reducible refine Sy.is_buildSlice ?_); refine Sy.st_buildSlice T F (h := ?_); (conv => whnf); (repeat (refine ⟨by first | exact rfl | exact ⟨rfl, rfl⟩, ?_⟩; (conv => whnf))); clear T F; intro ac g w T F))
    | (((with_reducible refine Sy.is_op ?_); refine Sy.st_pure T (h := ?_); clear T; intro ac T))
    | ((with_reducible refine Sy.atK (hK _ _ ?_)))
    | ((with_reducible refine Sy.is_cond ?_); (first | refine Sy.st_true T (h := ?_) | refine Sy.st_false T (h := ?_)))
    | (with_reducible refine wpList_nil ?_)
    | (with_reducible refine wp_region_lit ?_)
    | (with_reducible refine wp_block ?_)
    | (with_reducible refine wp_skip ?_)
    | (with_reducible refine wp_exit ?_)
    | (with_reducible refine wp_ret ?_)
    | ((with_reducible refine wp_seq_k ?_); intro _ _)
    | (go_at_K; go_step)
    | (simp only [Exit.then, Exit.inBlock, ↓reduceIte, Nat.reduceEqDiff]))
    ((try simp only [Exit.inBlock, Exit.then]); refine Sy.st_ret1 T F rfl (by repeat (first | exact Sy.ResV.nil | apply Sy.ResV.tmp rfl | apply Sy.ResV.row rfl rfl rfl (by repeat (first | exact Sy.Take.here | apply Sy.Take.there)) (by rfl) | apply Sy.ResV.one rfl rfl rfl (by repeat (first | exact Sy.Take.here | apply Sy.Take.there)) (by rfl))) ?_)
    exact F.retV _
  | false =>
  rcases or7 (!mayS t) (decide ((t.rules.length : Int) > 31)) (decide (at_ < 0)) (decide (at_ ≥ (t.rules.length : Int))) (decide (to < 0)) (decide (to ≥ t.states)) (!((vars.length : Int) == t.vars)) with t1 | ⟨t1, t2⟩ | ⟨t1, t2, t3⟩ | ⟨t1, t2, t3, t4⟩ | ⟨t1, t2, t3, t4, t5⟩ | ⟨t1, t2, t3, t4, t5, t6⟩ | ⟨t1, t2, t3, t4, t5, t6, t7⟩ | ⟨t1, t2, t3, t4, t5, t6, t7⟩
  case inr.inr.inr.inr.inr.inr.inr =>
    replace t1 := not_f t1
    replace t7 := not_f t7
    have hat0 := of_decide_eq_false t3
    have hat1 := of_decide_eq_false t4
    obtain ⟨i, rfl⟩ : ∃ i : Nat, at_ = (i : Int) := ⟨at_.toNat, by omega⟩
    have hi : i < t.rules.length := by omega
    have h31 := of_decide_eq_false t2
    have hlaw := first_law hi (to := to) (vars := vars) arg t1 (by omega) (by have := of_decide_eq_false t5; omega) (by have := of_decide_eq_false t6; omega) (by simpa using t7)
    obtain ⟨bb, oo, cs, hra, hcl, hat, ⟨ga, gc, sa, sc, ea, ec⟩, rfl, hr⟩ := rows_get h.rules hi
    obtain ⟨css, hro, hflat⟩ := rows_flat h.rules
    have hlen := flat_len 7 css hro.len
    rw [hro.1] at hlen
    have hone := Rg.flat_one' hro rule_one
    have hrm := h.cap
    have hri : t.rules[i] ∈ t.rules := List.getElem_mem hi
    generalize t.rules[i] = r at *
    repeat (first
    | (((with_reducible refine Sy.is_guard ?_); (first | refine Sy.st_guard T (h := ?_) | (refine Sy.st_unguard T (h := ?_); clear T; intro ac T))))
    | (((with_reducible refine Sy.is_load ?_); (first | refine Sy.st_loadOne T F (h := ?_) | refine Sy.st_oldOne T F (h := ?_) | refine Sy.st_loadAll T F (h := ?_) | (refine Sy.st_loadCut T F (h := ?_); conv => whnf) | refine Sy.st_oldAgg T F (h := ?_) | (refine Sy.st_oldCut T F (h := ?_); conv => whnf)); clear T; intro ac T))
    | (((with_reducible refine Sy.is_store ?_); (first | refine Sy.st_storeAll T F (h := ?_) | (refine Sy.st_storeOne T F (h := ?_); conv => whnf) | (refine Sy.st_storeAgg T F (h := ?_); conv => whnf)); clear T F; intro ac w T F))
    | (((with_reducible refine Sy.is_box ?_); (first | refine Sy.st_boxAgg T F (h := ?_) | refine Sy.st_boxOne T F (h := ?_)); clear T F; intro ac g w T F))
    | (((with_reducible refine Sy.is_alloc ?_); refine Sy.st_alloc T F (h := ?_); clear T F; intro ac g w T F))
    | (((with_reducible refine Sy.is_build ?_); refine Sy.st_build T (h := ?_); (conv => whnf); (repeat (refine ⟨by first | exact rfl | exact ⟨rfl, rfl⟩, ?_⟩; (conv => whnf))); clear T; intro ac T))
    | (((with_reducible refine Sy.is_buildSlice ?_); refine Sy.st_buildSlice T F (h := ?_); (conv => whnf); (repeat (refine ⟨by first | exact rfl | exact ⟨rfl, rfl⟩, ?_⟩; (conv => whnf))); clear T F; intro ac g w T F))
    | (((with_reducible refine Sy.is_op ?_); refine Sy.st_pure T (h := ?_); clear T; intro ac T))
    | ((with_reducible refine Sy.atK (hK _ _ ?_)))
    | ((with_reducible refine Sy.is_cond ?_); (first | refine Sy.st_true T (h := ?_) | refine Sy.st_false T (h := ?_)))
    | (with_reducible refine wpList_nil ?_)
    | (with_reducible refine wp_region_lit ?_)
    | (with_reducible refine wp_block ?_)
    | (with_reducible refine wp_skip ?_)
    | (with_reducible refine wp_exit ?_)
    | (with_reducible refine wp_ret ?_)
    | ((with_reducible refine wp_seq_k ?_); intro _ _)
    | (go_at_K; go_step)
    | (simp only [Exit.then, Exit.inBlock, ↓reduceIte, Nat.reduceEqDiff]))
    refine Sy.st_callV0 T F (hc := mayRM F.sub h t1) (h := ?_); (clear T F; intro ac w T F)
    subst hra
    repeat (first
    | (((with_reducible refine Sy.is_guard ?_); (first | refine Sy.st_guard T (h := ?_) | (refine Sy.st_unguard T (h := ?_); clear T; intro ac T))))
    | (((with_reducible refine Sy.is_load ?_); (first | refine Sy.st_loadOne T F (h := ?_) | refine Sy.st_oldOne T F (h := ?_) | refine Sy.st_loadAll T F (h := ?_) | (refine Sy.st_loadCut T F (h := ?_); conv => whnf) | refine Sy.st_oldAgg T F (h := ?_) | (refine Sy.st_oldCut T F (h := ?_); conv => whnf)); clear T; intro ac T))
    | (((with_reducible refine Sy.is_store ?_); (first | refine Sy.st_storeAll T F (h := ?_) | (refine Sy.st_storeOne T F (h := ?_); conv => whnf) | (refine Sy.st_storeAgg T F (h := ?_); conv => whnf)); clear T F; intro ac w T F))
    | (((with_reducible refine Sy.is_box ?_); (first | refine Sy.st_boxAgg T F (h := ?_) | refine Sy.st_boxOne T F (h := ?_)); clear T F; intro ac g w T F))
    | (((with_reducible refine Sy.is_alloc ?_); refine Sy.st_alloc T F (h := ?_); clear T F; intro ac g w T F))
    | (((with_reducible refine Sy.is_build ?_); refine Sy.st_build T (h := ?_); (conv => whnf); (repeat (refine ⟨by first | exact rfl | exact ⟨rfl, rfl⟩, ?_⟩; (conv => whnf))); clear T; intro ac T))
    | (((with_reducible refine Sy.is_buildSlice ?_); refine Sy.st_buildSlice T F (h := ?_); (conv => whnf); (repeat (refine ⟨by first | exact rfl | exact ⟨rfl, rfl⟩, ?_⟩; (conv => whnf))); clear T F; intro ac g w T F))
    | (((with_reducible refine Sy.is_op ?_); refine Sy.st_pure T (h := ?_); clear T; intro ac T))
    | ((with_reducible refine Sy.atK (hK _ _ ?_)))
    | ((with_reducible refine Sy.is_cond ?_); (first | refine Sy.st_true T (h := ?_) | refine Sy.st_false T (h := ?_)))
    | (with_reducible refine wpList_nil ?_)
    | (with_reducible refine wp_region_lit ?_)
    | (with_reducible refine wp_block ?_)
    | (with_reducible refine wp_skip ?_)
    | (with_reducible refine wp_exit ?_)
    | (with_reducible refine wp_ret ?_)
    | ((with_reducible refine wp_seq_k ?_); intro _ _)
    | (go_at_K; go_step)
    | (simp only [Exit.then, Exit.inBlock, ↓reduceIte, Nat.reduceEqDiff]))
    refine Sy.st_buildSliceR T F (h := ?_); (conv => whnf); (repeat (refine ⟨by first | exact rfl | exact ⟨rfl, rfl⟩, ?_⟩; (conv => whnf))); clear T F; intro ac g w T F
    repeat (first
    | (((with_reducible refine Sy.is_guard ?_); (first | refine Sy.st_guard T (h := ?_) | (refine Sy.st_unguard T (h := ?_); clear T; intro ac T))))
    | (((with_reducible refine Sy.is_load ?_); (first | refine Sy.st_loadOne T F (h := ?_) | refine Sy.st_oldOne T F (h := ?_) | refine Sy.st_loadAll T F (h := ?_) | (refine Sy.st_loadCut T F (h := ?_); conv => whnf) | refine Sy.st_oldAgg T F (h := ?_) | (refine Sy.st_oldCut T F (h := ?_); conv => whnf)); clear T; intro ac T))
    | (((with_reducible refine Sy.is_store ?_); (first | refine Sy.st_storeAll T F (h := ?_) | (refine Sy.st_storeOne T F (h := ?_); conv => whnf) | (refine Sy.st_storeAgg T F (h := ?_); conv => whnf)); clear T F; intro ac w T F))
    | (((with_reducible refine Sy.is_box ?_); (first | refine Sy.st_boxAgg T F (h := ?_) | refine Sy.st_boxOne T F (h := ?_)); clear T F; intro ac g w T F))
    | (((with_reducible refine Sy.is_alloc ?_); refine Sy.st_alloc T F (h := ?_); clear T F; intro ac g w T F))
    | (((with_reducible refine Sy.is_build ?_); refine Sy.st_build T (h := ?_); (conv => whnf); (repeat (refine ⟨by first | exact rfl | exact ⟨rfl, rfl⟩, ?_⟩; (conv => whnf))); clear T; intro ac T))
    | (((with_reducible refine Sy.is_buildSlice ?_); refine Sy.st_buildSlice T F (h := ?_); (conv => whnf); (repeat (refine ⟨by first | exact rfl | exact ⟨rfl, rfl⟩, ?_⟩; (conv => whnf))); clear T F; intro ac g w T F))
    | (((with_reducible refine Sy.is_op ?_); refine Sy.st_pure T (h := ?_); clear T; intro ac T))
    | ((with_reducible refine Sy.atK (hK _ _ ?_)))
    | ((with_reducible refine Sy.is_cond ?_); (first | refine Sy.st_true T (h := ?_) | refine Sy.st_false T (h := ?_)))
    | (with_reducible refine wpList_nil ?_)
    | (with_reducible refine wp_region_lit ?_)
    | (with_reducible refine wp_block ?_)
    | (with_reducible refine wp_skip ?_)
    | (with_reducible refine wp_exit ?_)
    | (with_reducible refine wp_ret ?_)
    | ((with_reducible refine wp_seq_k ?_); intro _ _)
    | (go_at_K; go_step)
    | (simp only [Exit.then, Exit.inBlock, ↓reduceIte, Nat.reduceEqDiff]))
    replace F := F.takeSl (size := 7) (n := 1) Sy.Take.here rfl (by unfold maxLen; omega)
    refine Sy.st_appendC T F (k2 := t.rules.length) (cp := tc) (news := css.flatten) (hflat.sub F.sub) hlen hone (hbytes := ?_) (h := ?_)
    · show (1 + t.rules.length) * 104 ≤ 140737488355328
      omega
    clear T F; intro oa oc ac w T F
    have hcap : 1 + t.rules.length ≤ oc ∧ oc ≤ maxLen := by
      obtain ⟨a2, cap2, hv2, _, x2, x3, _⟩ := F.ext.2.1
      simp at hv2
      obtain ⟨rfl, rfl⟩ := hv2
      exact ⟨x2, x3⟩
    obtain ⟨m, hS, F', hoc⟩ := F.freeze
    clear F
    have F := F'
    clear F'
    have hcells := hoc _ _ rfl
    have hnew : RuleR m (ruleCs (firstR r to) nilA) (firstR r to) := ⟨nilA, rfl, hr.src, hr.action, hr.party, hto, Ex.Toks.nil _ _, Rows.nil _ _ _ _, Rows.nil _ _ _ _⟩
    have hrows : Rows RuleR 7 m oa (firstR r to :: t.rules) := flat_rows (by simp only [List.length_cons]; omega) (by omega) (rowsOf_cons rfl hnew (rowsOf_sub hS hro)) hcells
    have hx : TabAt m (firstT t r to) oa oc := ⟨h.states, h.vars, hrows, by simp only [firstT, List.length_cons]; omega⟩
    have hl1 : 1 + t.rules.length = (firstT t r to).rules.length := by simp only [firstT, List.length_cons]; omega
    rw [hl1] at T
    replace hv := hv.sub hS
    clear hcells hoc hrows hnew hone hflat hro hlen
    repeat (first
    | (((with_reducible refine Sy.is_guard ?_); (first | refine Sy.st_guard T (h := ?_) | (refine Sy.st_unguard T (h := ?_); clear T; intro ac T))))
    | (((with_reducible refine Sy.is_load ?_); (first | refine Sy.st_loadOne T F (h := ?_) | refine Sy.st_oldOne T F (h := ?_) | refine Sy.st_loadAll T F (h := ?_) | (refine Sy.st_loadCut T F (h := ?_); conv => whnf) | refine Sy.st_oldAgg T F (h := ?_) | (refine Sy.st_oldCut T F (h := ?_); conv => whnf)); clear T; intro ac T))
    | (((with_reducible refine Sy.is_store ?_); (first | refine Sy.st_storeAll T F (h := ?_) | (refine Sy.st_storeOne T F (h := ?_); conv => whnf) | (refine Sy.st_storeAgg T F (h := ?_); conv => whnf)); clear T F; intro ac w T F))
    | (((with_reducible refine Sy.is_box ?_); (first | refine Sy.st_boxAgg T F (h := ?_) | refine Sy.st_boxOne T F (h := ?_)); clear T F; intro ac g w T F))
    | (((with_reducible refine Sy.is_alloc ?_); refine Sy.st_alloc T F (h := ?_); clear T F; intro ac g w T F))
    | (((with_reducible refine Sy.is_build ?_); refine Sy.st_build T (h := ?_); (conv => whnf); (repeat (refine ⟨by first | exact rfl | exact ⟨rfl, rfl⟩, ?_⟩; (conv => whnf))); clear T; intro ac T))
    | (((with_reducible refine Sy.is_buildSlice ?_); refine Sy.st_buildSlice T F (h := ?_); (conv => whnf); (repeat (refine ⟨by first | exact rfl | exact ⟨rfl, rfl⟩, ?_⟩; (conv => whnf))); clear T F; intro ac g w T F))
    | (((with_reducible refine Sy.is_op ?_); refine Sy.st_pure T (h := ?_); clear T; intro ac T))
    | ((with_reducible refine Sy.atK (hK _ _ ?_)))
    | ((with_reducible refine Sy.is_cond ?_); (first | refine Sy.st_true T (h := ?_) | refine Sy.st_false T (h := ?_)))
    | (with_reducible refine wpList_nil ?_)
    | (with_reducible refine wp_region_lit ?_)
    | (with_reducible refine wp_block ?_)
    | (with_reducible refine wp_skip ?_)
    | (with_reducible refine wp_exit ?_)
    | (with_reducible refine wp_ret ?_)
    | ((with_reducible refine wp_seq_k ?_); intro _ _)
    | (go_at_K; go_step)
    | (simp only [Exit.then, Exit.inBlock, ↓reduceIte, Nat.reduceEqDiff]))
    have G := fireM F.sub hx r.src r.action r.party (vc := vc) arg hv ha; refine Sy.st_callM0 T F (hc := G) (h := ?_); (clear T F G; intro v m ac w hR hS T F)
    rw [hlaw.2] at hR
    obtain ⟨a1, c1, a2, c2, rfl, hn, hcs⟩ := hR
    have hfi := fun w hs => find_any w (firstT t r to) oa oc ((hx.sub hS).sub hs) r.src r.action r.party (vc := vc) arg ((hv.sub hS).sub hs) ha
    rw [hlaw.1] at hfi
    have u1 : ((0 : Int) == 0) = true := rfl
    have u2 : (to == to) = true := beq_self_eq_true _
    have u3 : ((vars.length : Int) == (vars.length : Int)) = true := beq_self_eq_true _
    repeat (first
    | (((with_reducible refine Sy.is_guard ?_); (first | refine Sy.st_guard T (h := ?_) | (refine Sy.st_unguard T (h := ?_); clear T; intro ac T))))
    | (((with_reducible refine Sy.is_load ?_); (first | refine Sy.st_loadOne T F (h := ?_) | refine Sy.st_oldOne T F (h := ?_) | refine Sy.st_loadAll T F (h := ?_) | (refine Sy.st_loadCut T F (h := ?_); conv => whnf) | refine Sy.st_oldAgg T F (h := ?_) | (refine Sy.st_oldCut T F (h := ?_); conv => whnf)); clear T; intro ac T))
    | (((with_reducible refine Sy.is_store ?_); (first | refine Sy.st_storeAll T F (h := ?_) | (refine Sy.st_storeOne T F (h := ?_); conv => whnf) | (refine Sy.st_storeAgg T F (h := ?_); conv => whnf)); clear T F; intro ac w T F))
    | (((with_reducible refine Sy.is_box ?_); (first | refine Sy.st_boxAgg T F (h := ?_) | refine Sy.st_boxOne T F (h := ?_)); clear T F; intro ac g w T F))
    | (((with_reducible refine Sy.is_alloc ?_); refine Sy.st_alloc T F (h := ?_); clear T F; intro ac g w T F))
    | (((with_reducible refine Sy.is_build ?_); refine Sy.st_build T (h := ?_); (conv => whnf); (repeat (refine ⟨by first | exact rfl | exact ⟨rfl, rfl⟩, ?_⟩; (conv => whnf))); clear T; intro ac T))
    | (((with_reducible refine Sy.is_buildSlice ?_); refine Sy.st_buildSlice T F (h := ?_); (conv => whnf); (repeat (refine ⟨by first | exact rfl | exact ⟨rfl, rfl⟩, ?_⟩; (conv => whnf))); clear T F; intro ac g w T F))
    | (((with_reducible refine Sy.is_op ?_); refine Sy.st_pure T (h := ?_); clear T; intro ac T))
    | ((with_reducible refine Sy.atK (hK _ _ ?_)))
    | ((with_reducible refine Sy.is_cond ?_); (first | refine Sy.st_true T (h := ?_) | refine Sy.st_false T (h := ?_)))
    | (with_reducible refine wpList_nil ?_)
    | (with_reducible refine wp_region_lit ?_)
    | (with_reducible refine wp_block ?_)
    | (with_reducible refine wp_skip ?_)
    | (with_reducible refine wp_exit ?_)
    | (with_reducible refine wp_ret ?_)
    | ((with_reducible refine wp_seq_k ?_); intro _ _)
    | (go_at_K; go_step)
    | (simp only [Exit.then, Exit.inBlock, ↓reduceIte, Nat.reduceEqDiff]))
    have G := hfi w F.sub; refine Sy.st_callV0 T F (hc := G) (h := ?_); (clear T F G; intro ac w T F)
    repeat (first
    | (((with_reducible refine Sy.is_guard ?_); (first | refine Sy.st_guard T (h := ?_) | (refine Sy.st_unguard T (h := ?_); clear T; intro ac T))))
    | (((with_reducible refine Sy.is_load ?_); (first | refine Sy.st_loadOne T F (h := ?_) | refine Sy.st_oldOne T F (h := ?_) | refine Sy.st_loadAll T F (h := ?_) | (refine Sy.st_loadCut T F (h := ?_); conv => whnf) | refine Sy.st_oldAgg T F (h := ?_) | (refine Sy.st_oldCut T F (h := ?_); conv => whnf)); clear T; intro ac T))
    | (((with_reducible refine Sy.is_store ?_); (first | refine Sy.st_storeAll T F (h := ?_) | (refine Sy.st_storeOne T F (h := ?_); conv => whnf) | (refine Sy.st_storeAgg T F (h := ?_); conv => whnf)); clear T F; intro ac w T F))
    | (((with_reducible refine Sy.is_box ?_); (first | refine Sy.st_boxAgg T F (h := ?_) | refine Sy.st_boxOne T F (h := ?_)); clear T F; intro ac g w T F))
    | (((with_reducible refine Sy.is_alloc ?_); refine Sy.st_alloc T F (h := ?_); clear T F; intro ac g w T F))
    | (((with_reducible refine Sy.is_build ?_); refine Sy.st_build T (h := ?_); (conv => whnf); (repeat (refine ⟨by first | exact rfl | exact ⟨rfl, rfl⟩, ?_⟩; (conv => whnf))); clear T; intro ac T))
    | (((with_reducible refine Sy.is_buildSlice ?_); refine Sy.st_buildSlice T F (h := ?_); (conv => whnf); (repeat (refine ⟨by first | exact rfl | exact ⟨rfl, rfl⟩, ?_⟩; (conv => whnf))); clear T F; intro ac g w T F))
    | (((with_reducible refine Sy.is_op ?_); refine Sy.st_pure T (h := ?_); clear T; intro ac T))
    | ((with_reducible refine Sy.atK (hK _ _ ?_)))
    | ((with_reducible refine Sy.is_cond ?_); (first | refine Sy.st_true T (h := ?_) | refine Sy.st_false T (h := ?_)))
    | (with_reducible refine wpList_nil ?_)
    | (with_reducible refine wp_region_lit ?_)
    | (with_reducible refine wp_block ?_)
    | (with_reducible refine wp_skip ?_)
    | (with_reducible refine wp_exit ?_)
    | (with_reducible refine wp_ret ?_)
    | ((with_reducible refine wp_seq_k ?_); intro _ _)
    | (go_at_K; go_step)
    | (simp only [Exit.then, Exit.inBlock, ↓reduceIte, Nat.reduceEqDiff]))
    refine Sy.st_callV0 T F (hc := awake05_any _) (h := ?_); (clear T F; intro ac w T F)
    repeat (first
    | (((with_reducible refine Sy.is_guard ?_); (first | refine Sy.st_guard T (h := ?_) | (refine Sy.st_unguard T (h := ?_); clear T; intro ac T))))
    | (((with_reducible refine Sy.is_load ?_); (first | refine Sy.st_loadOne T F (h := ?_) | refine Sy.st_oldOne T F (h := ?_) | refine Sy.st_loadAll T F (h := ?_) | (refine Sy.st_loadCut T F (h := ?_); conv => whnf) | refine Sy.st_oldAgg T F (h := ?_) | (refine Sy.st_oldCut T F (h := ?_); conv => whnf)); clear T; intro ac T))
    | (((with_reducible refine Sy.is_store ?_); (first | refine Sy.st_storeAll T F (h := ?_) | (refine Sy.st_storeOne T F (h := ?_); conv => whnf) | (refine Sy.st_storeAgg T F (h := ?_); conv => whnf)); clear T F; intro ac w T F))
    | (((with_reducible refine Sy.is_box ?_); (first | refine Sy.st_boxAgg T F (h := ?_) | refine Sy.st_boxOne T F (h := ?_)); clear T F; intro ac g w T F))
    | (((with_reducible refine Sy.is_alloc ?_); refine Sy.st_alloc T F (h := ?_); clear T F; intro ac g w T F))
    | (((with_reducible refine Sy.is_build ?_); refine Sy.st_build T (h := ?_); (conv => whnf); (repeat (refine ⟨by first | exact rfl | exact ⟨rfl, rfl⟩, ?_⟩; (conv => whnf))); clear T; intro ac T))
    | (((with_reducible refine Sy.is_buildSlice ?_); refine Sy.st_buildSlice T F (h := ?_); (conv => whnf); (repeat (refine ⟨by first | exact rfl | exact ⟨rfl, rfl⟩, ?_⟩; (conv => whnf))); clear T F; intro ac g w T F))
    | (((with_reducible refine Sy.is_op ?_); refine Sy.st_pure T (h := ?_); clear T; intro ac T))
    | ((with_reducible refine Sy.atK (hK _ _ ?_)))
    | ((with_reducible refine Sy.is_cond ?_); (first | refine Sy.st_true T (h := ?_) | refine Sy.st_false T (h := ?_)))
    | (with_reducible refine wpList_nil ?_)
    | (with_reducible refine wp_region_lit ?_)
    | (with_reducible refine wp_block ?_)
    | (with_reducible refine wp_skip ?_)
    | (with_reducible refine wp_exit ?_)
    | (with_reducible refine wp_ret ?_)
    | ((with_reducible refine wp_seq_k ?_); intro _ _)
    | (go_at_K; go_step)
    | (simp only [Exit.then, Exit.inBlock, ↓reduceIte, Nat.reduceEqDiff]))
    ((try simp only [Exit.inBlock, Exit.then]); refine Sy.st_ret1 T F rfl (by repeat (first | exact Sy.ResV.nil | apply Sy.ResV.tmp rfl | apply Sy.ResV.row rfl rfl rfl (by repeat (first | exact Sy.Take.here | apply Sy.Take.there)) (by rfl) | apply Sy.ResV.one rfl rfl rfl (by repeat (first | exact Sy.Take.here | apply Sy.Take.there)) (by rfl))) ?_)
    exact F.retV _
  all_goals
    (try replace t7 := not_t t7)
    repeat (first
    | (((with_reducible refine Sy.is_guard ?_); (first | refine Sy.st_guard T (h := ?_) | (refine Sy.st_unguard T (h := ?_); clear T; intro ac T))))
    | (((with_reducible refine Sy.is_load ?_); (first | refine Sy.st_loadOne T F (h := ?_) | refine Sy.st_oldOne T F (h := ?_) | refine Sy.st_loadAll T F (h := ?_) | (refine Sy.st_loadCut T F (h := ?_); conv => whnf) | refine Sy.st_oldAgg T F (h := ?_) | (refine Sy.st_oldCut T F (h := ?_); conv => whnf)); clear T; intro ac T))
    | (((with_reducible refine Sy.is_store ?_); (first | refine Sy.st_storeAll T F (h := ?_) | (refine Sy.st_storeOne T F (h := ?_); conv => whnf) | (refine Sy.st_storeAgg T F (h := ?_); conv => whnf)); clear T F; intro ac w T F))
    | (((with_reducible refine Sy.is_box ?_); (first | refine Sy.st_boxAgg T F (h := ?_) | refine Sy.st_boxOne T F (h := ?_)); clear T F; intro ac g w T F))
    | (((with_reducible refine Sy.is_alloc ?_); refine Sy.st_alloc T F (h := ?_); clear T F; intro ac g w T F))
    | (((with_reducible refine Sy.is_build ?_); refine Sy.st_build T (h := ?_); (conv => whnf); (repeat (refine ⟨by first | exact rfl | exact ⟨rfl, rfl⟩, ?_⟩; (conv => whnf))); clear T; intro ac T))
    | (((with_reducible refine Sy.is_buildSlice ?_); refine Sy.st_buildSlice T F (h := ?_); (conv => whnf); (repeat (refine ⟨by first | exact rfl | exact ⟨rfl, rfl⟩, ?_⟩; (conv => whnf))); clear T F; intro ac g w T F))
    | (((with_reducible refine Sy.is_op ?_); refine Sy.st_pure T (h := ?_); clear T; intro ac T))
    | ((with_reducible refine Sy.atK (hK _ _ ?_)))
    | ((with_reducible refine Sy.is_cond ?_); (first | refine Sy.st_true T (h := ?_) | refine Sy.st_false T (h := ?_)))
    | (with_reducible refine wpList_nil ?_)
    | (with_reducible refine wp_region_lit ?_)
    | (with_reducible refine wp_block ?_)
    | (with_reducible refine wp_skip ?_)
    | (with_reducible refine wp_exit ?_)
    | (with_reducible refine wp_ret ?_)
    | ((with_reducible refine wp_seq_k ?_); intro _ _)
    | (go_at_K; go_step)
    | (simp only [Exit.then, Exit.inBlock, ↓reduceIte, Nat.reduceEqDiff]))
    try (refine Sy.st_callV0 T F (hc := mayRM F.sub h (not_t t1)) (h := ?_); (clear T F; intro ac w T F))
    try (refine Sy.st_callV0 T F (hc := mayRM F.sub h (not_f t1)) (h := ?_); (clear T F; intro ac w T F))
    repeat (first
    | (((with_reducible refine Sy.is_guard ?_); (first | refine Sy.st_guard T (h := ?_) | (refine Sy.st_unguard T (h := ?_); clear T; intro ac T))))
    | (((with_reducible refine Sy.is_load ?_); (first | refine Sy.st_loadOne T F (h := ?_) | refine Sy.st_oldOne T F (h := ?_) | refine Sy.st_loadAll T F (h := ?_) | (refine Sy.st_loadCut T F (h := ?_); conv => whnf) | refine Sy.st_oldAgg T F (h := ?_) | (refine Sy.st_oldCut T F (h := ?_); conv => whnf)); clear T; intro ac T))
    | (((with_reducible refine Sy.is_store ?_); (first | refine Sy.st_storeAll T F (h := ?_) | (refine Sy.st_storeOne T F (h := ?_); conv => whnf) | (refine Sy.st_storeAgg T F (h := ?_); conv => whnf)); clear T F; intro ac w T F))
    | (((with_reducible refine Sy.is_box ?_); (first | refine Sy.st_boxAgg T F (h := ?_) | refine Sy.st_boxOne T F (h := ?_)); clear T F; intro ac g w T F))
    | (((with_reducible refine Sy.is_alloc ?_); refine Sy.st_alloc T F (h := ?_); clear T F; intro ac g w T F))
    | (((with_reducible refine Sy.is_build ?_); refine Sy.st_build T (h := ?_); (conv => whnf); (repeat (refine ⟨by first | exact rfl | exact ⟨rfl, rfl⟩, ?_⟩; (conv => whnf))); clear T; intro ac T))
    | (((with_reducible refine Sy.is_buildSlice ?_); refine Sy.st_buildSlice T F (h := ?_); (conv => whnf); (repeat (refine ⟨by first | exact rfl | exact ⟨rfl, rfl⟩, ?_⟩; (conv => whnf))); clear T F; intro ac g w T F))
    | (((with_reducible refine Sy.is_op ?_); refine Sy.st_pure T (h := ?_); clear T; intro ac T))
    | ((with_reducible refine Sy.atK (hK _ _ ?_)))
    | ((with_reducible refine Sy.is_cond ?_); (first | refine Sy.st_true T (h := ?_) | refine Sy.st_false T (h := ?_)))
    | (with_reducible refine wpList_nil ?_)
    | (with_reducible refine wp_region_lit ?_)
    | (with_reducible refine wp_block ?_)
    | (with_reducible refine wp_skip ?_)
    | (with_reducible refine wp_exit ?_)
    | (with_reducible refine wp_ret ?_)
    | ((with_reducible refine wp_seq_k ?_); intro _ _)
    | (go_at_K; go_step)
    | (simp only [Exit.then, Exit.inBlock, ↓reduceIte, Nat.reduceEqDiff]))
    refine Sy.st_callV0 T F (hc := awake05_any _) (h := ?_); (clear T F; intro ac w T F)
    repeat (first
    | (((with_reducible refine Sy.is_guard ?_); (first | refine Sy.st_guard T (h := ?_) | (refine Sy.st_unguard T (h := ?_); clear T; intro ac T))))
    | (((with_reducible refine Sy.is_load ?_); (first | refine Sy.st_loadOne T F (h := ?_) | refine Sy.st_oldOne T F (h := ?_) | refine Sy.st_loadAll T F (h := ?_) | (refine Sy.st_loadCut T F (h := ?_); conv => whnf) | refine Sy.st_oldAgg T F (h := ?_) | (refine Sy.st_oldCut T F (h := ?_); conv => whnf)); clear T; intro ac T))
    | (((with_reducible refine Sy.is_store ?_); (first | refine Sy.st_storeAll T F (h := ?_) | (refine Sy.st_storeOne T F (h := ?_); conv => whnf) | (refine Sy.st_storeAgg T F (h := ?_); conv => whnf)); clear T F; intro ac w T F))
    | (((with_reducible refine Sy.is_box ?_); (first | refine Sy.st_boxAgg T F (h := ?_) | refine Sy.st_boxOne T F (h := ?_)); clear T F; intro ac g w T F))
    | (((with_reducible refine Sy.is_alloc ?_); refine Sy.st_alloc T F (h := ?_); clear T F; intro ac g w T F))
    | (((with_reducible refine Sy.is_build ?_); refine Sy.st_build T (h := ?_); (conv => whnf); (repeat (refine ⟨by first | exact rfl | exact ⟨rfl, rfl⟩, ?_⟩; (conv => whnf))); clear T; intro ac T))
    | (((with_reducible refine Sy.is_buildSlice ?_); refine Sy.st_buildSlice T F (h := ?_); (conv => whnf); (repeat (refine ⟨by first | exact rfl | exact ⟨rfl, rfl⟩, ?_⟩; (conv => whnf))); clear T F; intro ac g w T F))
    | (((with_reducible refine Sy.is_op ?_); refine Sy.st_pure T (h := ?_); clear T; intro ac T))
    | ((with_reducible refine Sy.atK (hK _ _ ?_)))
    | ((with_reducible refine Sy.is_cond ?_); (first | refine Sy.st_true T (h := ?_) | refine Sy.st_false T (h := ?_)))
    | (with_reducible refine wpList_nil ?_)
    | (with_reducible refine wp_region_lit ?_)
    | (with_reducible refine wp_block ?_)
    | (with_reducible refine wp_skip ?_)
    | (with_reducible refine wp_exit ?_)
    | (with_reducible refine wp_ret ?_)
    | ((with_reducible refine wp_seq_k ?_); intro _ _)
    | (go_at_K; go_step)
    | (simp only [Exit.then, Exit.inBlock, ↓reduceIte, Nat.reduceEqDiff]))
    ((try simp only [Exit.inBlock, Exit.then]); refine Sy.st_ret1 T F rfl (by repeat (first | exact Sy.ResV.nil | apply Sy.ResV.tmp rfl | apply Sy.ResV.row rfl rfl rfl (by repeat (first | exact Sy.Take.here | apply Sy.Take.there)) (by rfl) | apply Sy.ResV.one rfl rfl rfl (by repeat (first | exact Sy.Take.here | apply Sy.Take.there)) (by rfl))) ?_)
    exact F.retV _
theorem tableFirstW (w : World) (t : TabD) (ta : Option Addr) (tc : Nat) (h : TabAt w t ta tc) (to : Int) (hto : -9223372036854775808 ≤ to ∧ to ≤ 9223372036854775807) (va : Option Addr) (vc : Nat) (vars : List Int) (hv : Ex.Ints w va vars.length vars) (arg : Int) (ha : -9223372036854775808 ≤ arg ∧ arg ≤ 9223372036854775807) (at_ : Int) (_ : -9223372036854775808 ≤ at_ ∧ at_ ≤ 9223372036854775807) :
    Calls Try.prog 4 #[.agg (tabCs t ta tc).toArray, .int .i64 to, .slice va vars.length vc, .int .i64 arg, .int .i64 at_] w (RetBo w true) :=
  (first_any w t ta tc h to hto va vc vars hv arg ha at_).mono fun _ _ h => retBo_of h
end Tb
end Go.Proofs.Ytdpmfjbhadapiaa
