/- The walk of the law MsgMore. Conditions: what is handed in can be read. -/
import Derived.Test.YtniopkoaplkpkaaMgG
import Derived.Test.YtniopkoaplkpkaaMsR
namespace Go.Proofs.Ytniopkoaplkpkaa
open Go.RowKit
set_option linter.unusedVariables false
set_option linter.unusedSimpArgs false
namespace Ms
open Sy (RetV RetM Sub)
open Rg (eqT eqF RegD RegA RegAt regCs BytP zeroReg zeroRegA regB mayS Short U8 U64)
open Sm (markS mark_len fitsS fits_mark)
/-- marked bytes with others behind them: the sum is wrong, or there is more -/
theorem fits_more (own more : List UInt8) (h : 0 < more.length) : fitsS (markS own ++ more) = ([], 5) ∨ ∃ extra, 0 < extra.length ∧ fitsS (markS own ++ more) = (own ++ extra, 0) := by
  have hl := mark_len own
  have hlen : (markS own ++ more).length = own.length + 4 + more.length := by rw [List.length_append, hl]
  unfold fitsS
  rw [if_neg (by omega)]
  split
  · right
    refine ⟨(Sm.le4 (Sm.ofS own) ++ more).take more.length, ?_, ?_⟩
    · rw [List.length_take, List.length_append]; omega
    · congr 1
      rw [hlen, show own.length + 4 + more.length - 4 = own.length + more.length from by omega]
      unfold markS
      rw [List.append_assoc, List.take_append, List.take_of_length_le (by omega), show own.length + more.length - own.length = more.length from by omega]
  · exact .inl rfl
theorem bytes_own {E1 : Sy.Ext} {c : Sy.Cx} {m w : World} {bs : List Sy.Blk} {e : TypeId} {a : Option Addr} {k cap : Nat} {l : List UInt8} (F : Sy.MemE (Sy.SlA E1 e 1 (.slice a k cap) k (l.map bv)) c m bs w) : k = l.length ∧ Bytes w a l.length l ∧ l.length ≤ cap ∧ cap ≤ maxLen := by
  have ho := F.ext.2.1
  have hc := ho.cells
  obtain ⟨a', cap', hv, hl, hn, hm, _⟩ := ho
  simp at hv hl
  obtain ⟨rfl, rfl⟩ := hv
  exact ⟨hl.symm, ⟨rfl, by omega, hc⟩, by omega, hm⟩
/-- the first bytes -/
theorem bytes_cut {m : World} {a : Option Addr} {l : List UInt8} (h : Bytes m a l.length l) (c s k : Nat) (hk : k ≤ l.length) : Bytes m (if c = 0 then a else a.map (·.add (0 * s))) (l.take k).length (l.take k) := by
  refine ⟨rfl, by have := h.2.1; simp; omega, ?_⟩
  have h3 := h.2.2
  rw [← List.take_append_drop k l, List.map_append] at h3
  exact Sy.cells_lo c s h3
set_option maxRecDepth 20000 in
set_option maxHeartbeats 4000000 in
theorem more_any (w0 : World) (x : MsgD) (p : RegA) (h : MsgAt w0 x p) (a2 : Option Addr) (c2 : Nat) (more : List UInt8) (hmore : Bytes w0 a2 more.length more) :
    Calls Try.prog 7 #[.agg (msgCs x p).toArray, .slice a2 more.length c2] w0 (RetV w0 (.bool true)) := by
  have F := Sy.Mem.start (Sub.refl w0)
  have e00 : ((0 : Int) == 0) = true := rfl
  have e30 : ((3 : Int) == 0) = false := rfl
  have hreg := h.reg
  have GG : ∀ w, Sub w0 w → Calls Try.prog 16 #[.agg (regCs x.reg p).toArray] w (RetV w (.bool (Rg.greatS x.reg))) := fun w hs => Rg.great_any w x.reg p (hreg.sub hs)
  refine Sy.enter Try.func7 rfl Try.ntmps7 rfl ?_; intro ac T; simp only [Sy.enum, Nat.zero_add, Nat.reduceAdd] at T
  repeat (first
    | (((with_reducible refine Sy.is_load ?_); ((refine Sy.st_loadCut T F (h := ?_); conv => whnf)); clear T; intro ac T))
    | (((with_reducible refine Sy.is_box ?_); (refine Sy.st_boxAgg T F (h := ?_)); clear T F; intro ac g w T F))
    | (((with_reducible refine Sy.is_op ?_); refine Sy.st_pure T (h := ?_); clear T; intro ac T))
    | (with_reducible refine wpList_nil ?_)
    | (with_reducible refine wp_region_lit ?_)
    | ((with_reducible refine wp_seq_k ?_); intro _ _)
    | (go_at_K; go_step)
    | (simp only [Exit.then, Exit.inBlock, ↓reduceIte, Nat.reduceEqDiff]))
  cases hg : Rg.greatS x.reg with
  | true =>
    simp only [hg] at GG
    refine Sy.st_callV0 T F (hc := GG _ F.sub) (h := ?_); (clear T F; intro ac w T F)
    repeat (first
    | (((with_reducible refine Sy.is_guard ?_); ((refine Sy.st_unguard T (h := ?_); clear T; intro ac T))))
    | (((with_reducible refine Sy.is_op ?_); refine Sy.st_pure T (h := ?_); clear T; intro ac T))
    | ((with_reducible refine Sy.is_cond ?_); (refine Sy.st_true T (h := ?_)))
    | (with_reducible refine wpList_nil ?_)
    | (with_reducible refine wp_region_lit ?_)
    | ((with_reducible refine wp_seq_k ?_); intro _ _)
    | (go_at_K; go_step)
    | (simp only [Exit.then, Exit.inBlock, ↓reduceIte, Nat.reduceEqDiff]))
    refine Sy.st_callV0 T F (hc := awake_any _) (h := ?_); (clear T F; intro ac w T F)
    repeat (first
    | (((with_reducible refine Sy.is_op ?_); refine Sy.st_pure T (h := ?_); clear T; intro ac T))
    | (with_reducible refine wpList_nil ?_)
    | (with_reducible refine wp_ret ?_)
    | (go_at_K; go_step)
    | (simp only [Exit.then, Exit.inBlock, ↓reduceIte, Nat.reduceEqDiff]))
    ((try simp only [Exit.inBlock, Exit.then]); refine Sy.st_ret1 T F rfl (by repeat (first | exact Sy.ResV.nil | apply Sy.ResV.tmp rfl | apply Sy.ResV.row rfl rfl rfl (by repeat (first | exact Sy.Take.here | apply Sy.Take.there)) (by rfl) | apply Sy.ResV.one rfl rfl rfl (by repeat (first | exact Sy.Take.here | apply Sy.Take.there)) (by rfl))) ?_)
    exact F.retV _
  | false =>
  simp only [hg] at GG
  have hsh := Rg.short_of hg
  refine Sy.st_callV0 T F (hc := GG _ F.sub) (h := ?_); (clear T F; intro ac w T F)
  by_cases h5 : 500 < more.length
  · have t1 : decide ((more.length : Int) > 500) = true := decide_eq_true (by omega)
    repeat (first
    | (((with_reducible refine Sy.is_guard ?_); (first
    | refine Sy.st_guard T (h := ?_)
    | (refine Sy.st_unguard T (h := ?_); clear T; intro ac T))))
    | (((with_reducible refine Sy.is_op ?_); refine Sy.st_pure T (h := ?_); clear T; intro ac T))
    | ((with_reducible refine Sy.is_cond ?_); (refine Sy.st_true T (h := ?_)))
    | (with_reducible refine wpList_nil ?_)
    | (with_reducible refine wp_region_lit ?_)
    | ((with_reducible refine wp_seq_k ?_); intro _ _)
    | (go_at_K; go_step)
    | (simp only [Exit.then, Exit.inBlock, ↓reduceIte, Nat.reduceEqDiff]))
    refine Sy.st_callV0 T F (hc := awake_any _) (h := ?_); (clear T F; intro ac w T F)
    repeat (first
    | (((with_reducible refine Sy.is_op ?_); refine Sy.st_pure T (h := ?_); clear T; intro ac T))
    | (with_reducible refine wpList_nil ?_)
    | (with_reducible refine wp_ret ?_)
    | (go_at_K; go_step)
    | (simp only [Exit.then, Exit.inBlock, ↓reduceIte, Nat.reduceEqDiff]))
    ((try simp only [Exit.inBlock, Exit.then]); refine Sy.st_ret1 T F rfl (by repeat (first | exact Sy.ResV.nil | apply Sy.ResV.tmp rfl | apply Sy.ResV.row rfl rfl rfl (by repeat (first | exact Sy.Take.here | apply Sy.Take.there)) (by rfl) | apply Sy.ResV.one rfl rfl rfl (by repeat (first | exact Sy.Take.here | apply Sy.Take.there)) (by rfl))) ?_)
    exact F.retV _
  have t1 : decide ((more.length : Int) > 500) = false := decide_eq_false (by omega)
  by_cases h0 : more.length = 0
  · have t2 : ((more.length : Int) == 0) = true := eqT (by omega)
    repeat (first
    | (((with_reducible refine Sy.is_guard ?_); (refine Sy.st_guard T (h := ?_))))
    | (((with_reducible refine Sy.is_op ?_); refine Sy.st_pure T (h := ?_); clear T; intro ac T))
    | ((with_reducible refine Sy.is_cond ?_); (refine Sy.st_true T (h := ?_)))
    | (with_reducible refine wpList_nil ?_)
    | (with_reducible refine wp_region_lit ?_)
    | ((with_reducible refine wp_seq_k ?_); intro _ _)
    | (go_at_K; go_step)
    | (simp only [Exit.then, Exit.inBlock, ↓reduceIte, Nat.reduceEqDiff]))
    refine Sy.st_callV0 T F (hc := awake_any _) (h := ?_); (clear T F; intro ac w T F)
    repeat (first
    | (((with_reducible refine Sy.is_op ?_); refine Sy.st_pure T (h := ?_); clear T; intro ac T))
    | (with_reducible refine wpList_nil ?_)
    | (with_reducible refine wp_ret ?_)
    | (go_at_K; go_step)
    | (simp only [Exit.then, Exit.inBlock, ↓reduceIte, Nat.reduceEqDiff]))
    ((try simp only [Exit.inBlock, Exit.then]); refine Sy.st_ret1 T F rfl (by repeat (first | exact Sy.ResV.nil | apply Sy.ResV.tmp rfl | apply Sy.ResV.row rfl rfl rfl (by repeat (first | exact Sy.Take.here | apply Sy.Take.there)) (by rfl) | apply Sy.ResV.one rfl rfl rfl (by repeat (first | exact Sy.Take.here | apply Sy.Take.there)) (by rfl))) ?_)
    exact F.retV _
  have t2 : ((more.length : Int) == 0) = false := eqF (by omega)
  repeat (first
    | (((with_reducible refine Sy.is_guard ?_); (refine Sy.st_guard T (h := ?_))))
    | (((with_reducible refine Sy.is_load ?_); (refine Sy.st_loadAll T F (h := ?_)); clear T; intro ac T))
    | (((with_reducible refine Sy.is_op ?_); refine Sy.st_pure T (h := ?_); clear T; intro ac T))
    | ((with_reducible refine Sy.is_cond ?_); (refine Sy.st_false T (h := ?_)))
    | (with_reducible refine wpList_nil ?_)
    | (with_reducible refine wp_region_lit ?_)
    | (with_reducible refine wp_skip ?_)
    | ((with_reducible refine wp_seq_k ?_); intro _ _)
    | (go_at_K; go_step)
    | (simp only [Exit.then, Exit.inBlock, ↓reduceIte, Nat.reduceEqDiff]))
  by_cases hm : MayM x
  case neg =>
    have G := put_no w x p (h.sub F.sub) hsh hm; refine Sy.st_callV0 T F (hc := G) (h := ?_); (clear T F G; intro ac w T F)
    repeat (first
    | (((with_reducible refine Sy.is_op ?_); refine Sy.st_pure T (h := ?_); clear T; intro ac T))
    | ((with_reducible refine Sy.is_cond ?_); (refine Sy.st_true T (h := ?_)))
    | (with_reducible refine wpList_nil ?_)
    | (with_reducible refine wp_region_lit ?_)
    | ((with_reducible refine wp_seq_k ?_); intro _ _)
    | (go_at_K; go_step)
    | (simp only [Exit.then, Exit.inBlock, ↓reduceIte, Nat.reduceEqDiff]))
    refine Sy.st_callV0 T F (hc := awake_any _) (h := ?_); (clear T F; intro ac w T F)
    repeat (first
    | (((with_reducible refine Sy.is_op ?_); refine Sy.st_pure T (h := ?_); clear T; intro ac T))
    | (with_reducible refine wpList_nil ?_)
    | (with_reducible refine wp_ret ?_)
    | (go_at_K; go_step)
    | (simp only [Exit.then, Exit.inBlock, ↓reduceIte, Nat.reduceEqDiff]))
    ((try simp only [Exit.inBlock, Exit.then]); refine Sy.st_ret1 T F rfl (by repeat (first | exact Sy.ResV.nil | apply Sy.ResV.tmp rfl | apply Sy.ResV.row rfl rfl rfl (by repeat (first | exact Sy.Take.here | apply Sy.Take.there)) (by rfl) | apply Sy.ResV.one rfl rfl rfl (by repeat (first | exact Sy.Take.here | apply Sy.Take.there)) (by rfl))) ?_)
    exact F.retV _
  have G := (put_yes w x p (h.sub F.sub) hsh hm).mono fun e w' r => retM_Y F.sub (retPN_Y r)
  refine Sy.st_callM0 T F (hc := G) (h := ?_); (clear T F; intro v m ac w hR hS T F)
  clear G
  obtain ⟨u, rfl, ba, bc, rfl, hB, hbc1, hbc2, -⟩ := hR
  have hl1 := msgB_len h hsh (may_reg hm)
  have hl2 := msgB_pos x (regB x.reg)
  have hl3 := mark_len (msgB x (regB x.reg))
  have hms := may_reg hm
  have hin := Rt.regIn h.reg
  obtain ⟨own, hown⟩ : ∃ own, own = msgB x (regB x.reg) := ⟨_, rfl⟩
  have GL := fun (w : World) (extra : List UInt8) (hne : 0 < extra.length) => get_long w x extra hne h.kind h.src h.dst h.key h.conf h.b h.acc h.next h.max hin hms hsh
  rw [← hown] at hB hl1 hl2 hl3 hbc1 GL
  rw [← hown] at T
  have t8 : decide (((markS own).length : Int) < 8) = false := decide_eq_false (by omega)
  repeat (first
    | (((with_reducible refine Sy.is_buildSlice ?_); refine Sy.st_buildSlice T F (h := ?_); (conv => whnf); (repeat (refine ⟨by first | exact rfl | exact ⟨rfl, rfl⟩, ?_⟩; (conv => whnf))); clear T F; intro ac g w T F))
    | (((with_reducible refine Sy.is_op ?_); refine Sy.st_pure T (h := ?_); clear T; intro ac T))
    | ((with_reducible refine Sy.is_cond ?_); (refine Sy.st_false T (h := ?_)))
    | (with_reducible refine wpList_nil ?_)
    | (with_reducible refine wp_region_lit ?_)
    | (with_reducible refine wp_skip ?_)
    | ((with_reducible refine wp_seq_k ?_); intro _ _)
    | (go_at_K; go_step)
    | (simp only [Exit.then, Exit.inBlock, ↓reduceIte, Nat.reduceEqDiff]))
  replace F := F.takeSl Sy.Take.here (n := 0) (size := 1) (by rfl) (by decide)
  refine Sy.st_appendC T F (k2 := (markS own).length) (cp := bc) (ad := ba) (news := (markS own).map bv) (hB.sub F.sub).2.2 (by simp) (bv_one _) (hbytes := by show (0 + _) * 1 ≤ _; omega) (h := ?_)
  clear T F; intro ad cap ac w T F
  rw [Nat.zero_add] at T F
  replace F : Sy.MemE (Sy.SlA Sy.E0 5 1 (.slice ad (markS own).length cap) (markS own).length ((markS own).map bv)) ⟨w0, [], w0⟩ m _ w := F
  repeat ((((with_reducible refine Sy.is_op ?_); refine Sy.st_pure T (h := ?_); clear T; intro ac T)))
  refine Sy.st_appendC T F (k2 := more.length) (cp := c2) (ad := a2) (news := more.map bv) (hmore.sub ((F.sub0).trans F.sub)).2.2 (by simp) (bv_one _) (hbytes := by show (_ + _) * 1 ≤ _; omega) (h := ?_)
  clear T F; intro ad cap ac w T F
  rw [← List.map_append, ← List.length_append] at F
  rw [← List.length_append] at T
  obtain ⟨-, hb1, hcap1⟩ := bytes_own F
  have hlen1 : (markS own ++ more).length ≤ 70368744177664 := by rw [List.length_append]; omega
  obtain ⟨k, hk, G⟩ : ∃ k : Int, (k == 0) = false ∧ Calls Try.prog 28 #[.slice ad (markS own ++ more).length cap] w (RetV w (.tuple #[.agg (msgCs zeroMsg zeroRegA).toArray, .int .i64 k])) := by
    rcases fits_more own more (by omega) with hf | ⟨extra, hne, hf⟩
    · exact ⟨5, rfl, get_sum w ad cap _ hb1 hlen1 hcap1 hf⟩
    · exact ⟨4, rfl, GL w extra hne ad cap _ hb1 hlen1 hcap1 hf⟩
  skip
  refine Sy.st_callV0 T F (hc := G) (h := ?_); (clear T F; intro ac w T F)
  clear G
  have t4 : IntKind.i64.wrap (((markS own).length : Int) - 4) = ((own.length : Nat) : Int) := by rw [Rg.i64_wrap (by omega) (by omega)]; omega
  repeat (first
    | (((with_reducible refine Sy.is_store ?_); (refine Sy.st_storeAll T F (h := ?_)); clear T F; intro ac w T F))
    | (((with_reducible refine Sy.is_alloc ?_); refine Sy.st_alloc T F (h := ?_); clear T F; intro ac g w T F))
    | (((with_reducible refine Sy.is_buildSlice ?_); refine Sy.st_buildSlice T F (h := ?_); (conv => whnf); (repeat (refine ⟨by first | exact rfl | exact ⟨rfl, rfl⟩, ?_⟩; (conv => whnf))); clear T F; intro ac g w T F))
    | (((with_reducible refine Sy.is_op ?_); refine Sy.st_pure T (h := ?_); clear T; intro ac T))
    | (with_reducible refine wpList_nil ?_)
    | (with_reducible refine wp_region_lit ?_)
    | ((with_reducible refine wp_seq_k ?_); intro _ _)
    | (go_at_K; go_step)
    | (simp only [Exit.then, Exit.inBlock, ↓reduceIte, Nat.reduceEqDiff]))
  refine Sy.st_val (Sy.runs_sliceH T (by exact rfl) (by exact rfl) (show own.length ≤ bc by omega) (by exact rfl) (by exact rfl) (by exact rfl) (by exact rfl)) T (by exact rfl) ?_; (clear T; intro ac T)
  have hcut := bytes_cut hB bc 1 own.length (by omega)
  have htk : (markS own).take own.length = own := by unfold markS; simp
  rw [htk] at hcut
  obtain ⟨b1, hb1'⟩ : ∃ b, b = (if bc = 0 then ba else ba.map (·.add (0 * 1))) := ⟨_, rfl⟩
  rw [← hb1'] at hcut T
  obtain ⟨m', hS', F', -⟩ := F.freeze
  replace hB := hB.sub hS'
  replace hcut := hcut.sub hS'
  clear F
  have F := F'
  clear F' hS' hb1 hcap1
  replace F := F.takeSl Sy.Take.here (n := 0) (size := 1) (by rfl) (by decide)
  refine Sy.st_appendC T F (k2 := own.length) (cp := bc) (ad := b1) (news := own.map bv) (hcut.sub F.sub).2.2 (by simp) (bv_one _) (hbytes := by show (0 + _) * 1 ≤ _; omega) (h := ?_)
  clear T F; intro ad cap ac w T F
  rw [Nat.zero_add] at T F
  replace F : Sy.MemE (Sy.SlA Sy.E0 5 1 (.slice ad own.length cap) own.length (own.map bv)) ⟨w0, [], w0⟩ m' _ w := F
  repeat ((((with_reducible refine Sy.is_op ?_); refine Sy.st_pure T (h := ?_); clear T; intro ac T)))
  refine Sy.st_appendC T F (k2 := more.length) (cp := c2) (ad := a2) (news := more.map bv) (hmore.sub ((F.sub0).trans F.sub)).2.2 (by simp) (bv_one _) (hbytes := by show (_ + _) * 1 ≤ _; omega) (h := ?_)
  clear T F; intro ad cap ac w T F
  rw [← List.map_append, ← List.length_append] at F
  rw [← List.length_append] at T
  obtain ⟨-, hb1, hcap1⟩ := bytes_own F
  have hlen2 : (own ++ more).length ≤ 70368744000000 := by rw [List.length_append]; omega
  skip
  have G := callsF F.sub (l := markS (own ++ more)) ((Sm.mark_any ad _ cap _ w hb1 (by omega)).mono fun _ _ r => retF_B r)
  refine Sy.st_callM0 T F (hc := G) (h := ?_); (clear T F; intro v m ac w hR hS T F)
  clear G
  obtain ⟨da, dc, rfl, hD, hd1, hd2, -⟩ := hR
  have hml := mark_len (own ++ more)
  skip
  have G := GL w more (by omega) da dc (markS (own ++ more)) (hD.sub F.sub) (by omega) ⟨hd1, hd2⟩ (fits_mark _)
  refine Sy.st_callV0 T F (hc := G) (h := ?_); (clear T F; intro ac w T F)
  clear G
  have e44 : ((4 : Int) == 4) = true := rfl
  repeat (first
    | (((with_reducible refine Sy.is_guard ?_); (refine Sy.st_guard T (h := ?_))))
    | (((with_reducible refine Sy.is_store ?_); (refine Sy.st_storeAll T F (h := ?_)); clear T F; intro ac w T F))
    | (((with_reducible refine Sy.is_alloc ?_); refine Sy.st_alloc T F (h := ?_); clear T F; intro ac g w T F))
    | (((with_reducible refine Sy.is_op ?_); refine Sy.st_pure T (h := ?_); clear T; intro ac T))
    | (with_reducible refine wpList_nil ?_)
    | (with_reducible refine wp_region_lit ?_)
    | ((with_reducible refine wp_seq_k ?_); intro _ _)
    | (go_at_K; go_step)
    | (simp only [Exit.then, Exit.inBlock, ↓reduceIte, Nat.reduceEqDiff]))
  refine Sy.st_callV0 T F (hc := awake_any _) (h := ?_); (clear T F; intro ac w T F)
  repeat (first
    | (((with_reducible refine Sy.is_op ?_); refine Sy.st_pure T (h := ?_); clear T; intro ac T))
    | (with_reducible refine wpList_nil ?_)
    | (with_reducible refine wp_ret ?_)
    | (go_at_K; go_step)
    | (simp only [Exit.then, Exit.inBlock, ↓reduceIte, Nat.reduceEqDiff]))
  ((try simp only [Exit.inBlock, Exit.then]); refine Sy.st_ret1 T F rfl (by repeat (first | exact Sy.ResV.nil | apply Sy.ResV.tmp rfl | apply Sy.ResV.row rfl rfl rfl (by repeat (first | exact Sy.Take.here | apply Sy.Take.there)) (by rfl) | apply Sy.ResV.one rfl rfl rfl (by repeat (first | exact Sy.Take.here | apply Sy.Take.there)) (by rfl))) ?_)
  exact F.retV _
end Ms
theorem msgMoreW (w : World) (x : Ms.MsgD) (p : Rg.RegA) (h : Ms.MsgAt w x p) (a2 : Option Addr) (c2 : Nat) (more : List UInt8) (hmore : Bytes w a2 more.length more) :
    Calls Try.prog 7 #[.agg (Ms.msgCs x p).toArray, .slice a2 more.length c2] w (RetBo w true) := Ms.more_any w x p h a2 c2 more hmore
end Go.Proofs.Ytniopkoaplkpkaa
