/- The walk of the law EngineGone. Conditions: what is handed in can be read. -/
import Derived.Test.YtdpmfjbhadapiaaEnZ
namespace Go.Proofs.Ytdpmfjbhadapiaa
open Go.RowKit
set_option linter.unusedVariables false
set_option linter.unusedSimpArgs false
namespace En
open Sy (RetV RetM Sub)
open Rg (eqT eqF U8 U64 I64 RegD RegA RegAt regCs DoneD MarkD CellD OpD OpOk opCs RepD RepA RepAt repCs greatS zeroReg zeroRegA zeroReg_at May06 MarkR)
open Tb (TabD TabAt tabCs)
def markL (m : MarkD) : List Value := [.int .u8 (m.source : Int), .int .u64 (m.inc : Int), .int .u64 (m.cell : Int)]
theorem markEq (x : MarkD) : Sy.EqAgg Try.prog .eql 69 (markL x) (markL x) true ∧ Sy.EqAgg Try.prog .neq 69 (markL x) (markL x) false := by
  refine Sy.eqAgg_refl Try.underlying69 (by kernel_rfl) ?_
  intro f hf
  simp at hf
  rcases hf with rfl | rfl | rfl <;> exact ⟨_, _, rfl⟩
def goneO (client seq : Nat) : OpD := ⟨4, 0, client, seq, 0, 0, 0, 0, 0, 0⟩
def backO (client seq : Nat) : OpD := ⟨1, 0, client, seq + 1, 0, 0, 0, 0, 0, 0⟩
theorem gone_ok {client seq : Nat} (h1 : U8 client) (h2 : U64 seq) : OpOk (goneO client seq) := by
  unfold U8 at h1
  unfold U64 at h2
  unfold goneO
  constructor <;> first | (unfold U8; (try simp only); omega) | (unfold U64; (try simp only); omega) | (unfold I64; (try simp only); omega)
theorem back_ok {client seq : Nat} (h1 : U8 client) (h2 : seq ≤ 4611686018427387904) : OpOk (backO client seq) := by
  unfold U8 at h1
  unfold backO
  constructor <;> first | (unfold U8; (try simp only); omega) | (unfold U64; (try simp only); omega) | (unfold I64; (try simp only); omega)
theorem back_may {client seq : Nat} (h : MayO (goneO client seq)) : MayO (backO client seq) := by
  unfold MayO goneO backO at *
  simp only at *
  omega
set_option maxRecDepth 20000 in
set_option maxHeartbeats 8000000 in
theorem gone_any (w0 : World) (t : TabD) (ta : Option Addr) (tc : Nat) (ht : TabAt w0 t ta tc) (r : RegD) (p : RegA) (h : RegAt w0 r p) (client seq count : Nat) (hcl : U8 client) (hsq : U64 seq) (hc : U64 count) :
    Calls Try.prog 12 #[.agg (tabCs t ta tc).toArray, .agg (regCs r p).toArray, .int .u8 (client : Int), .int .u64 (seq : Int), .int .u64 (count : Int)] w0 (RetV w0 (.bool true)) := by
  have F := Sy.Mem.start (Sub.refl w0)
  have hk0 := gone_ok hcl hsq
  refine Sy.enter Try.func12 rfl Try.ntmps12 rfl ?_; intro ac T; simp only [Sy.enum, Nat.zero_add, Nat.reduceAdd] at T
  repeat (first
    | (((with_reducible refine Sy.is_load ?_); (refine Sy.st_loadAll T F (h := ?_)); clear T; intro ac T))
    | (((with_reducible refine Sy.is_store ?_); (refine Sy.st_storeAll T F (h := ?_)); clear T F; intro ac w T F))
    | (((with_reducible refine Sy.is_box ?_); (refine Sy.st_boxAgg T F (h := ?_)); clear T F; intro ac g w T F))
    | (((with_reducible refine Sy.is_alloc ?_); refine Sy.st_alloc T F (h := ?_); clear T F; intro ac g w T F))
    | (((with_reducible refine Sy.is_build ?_); refine Sy.st_build T (h := ?_); (conv => whnf); (repeat (refine ⟨by first | exact rfl | exact ⟨rfl, rfl⟩, ?_⟩; (conv => whnf))); clear T; intro ac T))
    | (((with_reducible refine Sy.is_op ?_); refine Sy.st_pure T (h := ?_); clear T; intro ac T))
    | (with_reducible refine wpList_nil ?_)
    | (with_reducible refine wp_region_lit ?_)
    | ((with_reducible refine wp_seq_k ?_); intro _ _)
    | (go_at_K; go_step)
    | (simp only [Exit.then, Exit.inBlock, ↓reduceIte, Nat.reduceEqDiff]))
  refine Sy.st_call (us := []) (ks := []) T rfl rfl rfl rfl (great07_any _ t ta tc (ht.sub F.sub) r p (h.sub F.sub)) ?_
  rintro e w1 ⟨b, rfl, bel, hgr⟩
  refine ⟨_, rfl, fun ac' T' => ?_⟩
  have F1 := F.below bel
  clear F T bel
  have F := F1
  have T := T'
  clear F1 T'
  cases b with
  | true =>
    repeat (first
    | (((with_reducible refine Sy.is_guard ?_); ((refine Sy.st_unguard T (h := ?_); clear T; intro ac T))))
    | (((with_reducible refine Sy.is_op ?_); refine Sy.st_pure T (h := ?_); clear T; intro ac T))
    | ((with_reducible refine Sy.is_cond ?_); (refine Sy.st_true T (h := ?_)))
    | (with_reducible refine wpList_nil ?_)
    | (with_reducible refine wp_region_lit ?_)
    | ((with_reducible refine wp_seq_k ?_); intro _ _)
    | (go_at_K; go_step)
    | (simp only [Exit.then, Exit.inBlock, ↓reduceIte, Nat.reduceEqDiff]))
    refine Sy.st_callV0 T F (hc := awake_any _) (h := ?_); (clear T F; intro ac w T F)
    repeat (first
    | (((with_reducible refine Sy.is_op ?_); refine Sy.st_pure T (h := ?_); clear T; intro ac T))
    | (with_reducible refine wpList_nil ?_)
    | (with_reducible refine wp_ret ?_)
    | (go_at_K; go_step)
    | (simp only [Exit.then, Exit.inBlock, ↓reduceIte, Nat.reduceEqDiff]))
    ((try simp only [Exit.inBlock, Exit.then]); refine Sy.st_ret1 T F rfl (by repeat (first | exact Sy.ResV.nil | apply Sy.ResV.tmp rfl | apply Sy.ResV.row rfl rfl rfl (by repeat (first | exact Sy.Take.here | apply Sy.Take.there)) (by rfl) | apply Sy.ResV.one rfl rfl rfl (by repeat (first | exact Sy.Take.here | apply Sy.Take.there)) (by rfl))) ?_)
    exact F.retV _
  | false =>
  have hs := Rg.short_of (hgr rfl)
  cases q1 : decide ((seq : Int) > 4611686018427387904) with
  | true =>
    repeat (first
    | (((with_reducible refine Sy.is_guard ?_); (first
    | refine Sy.st_guard T (h := ?_)
    | (refine Sy.st_unguard T (h := ?_); clear T; intro ac T))))
    | (((with_reducible refine Sy.is_op ?_); refine Sy.st_pure T (h := ?_); clear T; intro ac T))
    | ((with_reducible refine Sy.is_cond ?_); (refine Sy.st_true T (h := ?_)))
    | (with_reducible refine wpList_nil ?_)
    | (with_reducible refine wp_region_lit ?_)
    | ((with_reducible refine wp_seq_k ?_); intro _ _)
    | (go_at_K; go_step)
    | (simp only [Exit.then, Exit.inBlock, ↓reduceIte, Nat.reduceEqDiff]))
    refine Sy.st_callV0 T F (hc := awake_any _) (h := ?_); (clear T F; intro ac w T F)
    repeat (first
    | (((with_reducible refine Sy.is_op ?_); refine Sy.st_pure T (h := ?_); clear T; intro ac T))
    | (with_reducible refine wpList_nil ?_)
    | (with_reducible refine wp_ret ?_)
    | (go_at_K; go_step)
    | (simp only [Exit.then, Exit.inBlock, ↓reduceIte, Nat.reduceEqDiff]))
    ((try simp only [Exit.inBlock, Exit.then]); refine Sy.st_ret1 T F rfl (by repeat (first | exact Sy.ResV.nil | apply Sy.ResV.tmp rfl | apply Sy.ResV.row rfl rfl rfl (by repeat (first | exact Sy.Take.here | apply Sy.Take.there)) (by rfl) | apply Sy.ResV.one rfl rfl rfl (by repeat (first | exact Sy.Take.here | apply Sy.Take.there)) (by rfl))) ?_)
    exact F.retV _
  | false =>
  have hseq := of_decide_eq_false q1
  cases q2 : decide ((count : Int) > 4611686018427387904) with
  | true =>
    repeat (first
    | (((with_reducible refine Sy.is_guard ?_); (first
    | refine Sy.st_guard T (h := ?_)
    | (refine Sy.st_unguard T (h := ?_); clear T; intro ac T))))
    | (((with_reducible refine Sy.is_op ?_); refine Sy.st_pure T (h := ?_); clear T; intro ac T))
    | ((with_reducible refine Sy.is_cond ?_); (refine Sy.st_true T (h := ?_)))
    | (with_reducible refine wpList_nil ?_)
    | (with_reducible refine wp_region_lit ?_)
    | ((with_reducible refine wp_seq_k ?_); intro _ _)
    | (go_at_K; go_step)
    | (simp only [Exit.then, Exit.inBlock, ↓reduceIte, Nat.reduceEqDiff]))
    refine Sy.st_callV0 T F (hc := awake_any _) (h := ?_); (clear T F; intro ac w T F)
    repeat (first
    | (((with_reducible refine Sy.is_op ?_); refine Sy.st_pure T (h := ?_); clear T; intro ac T))
    | (with_reducible refine wpList_nil ?_)
    | (with_reducible refine wp_ret ?_)
    | (go_at_K; go_step)
    | (simp only [Exit.then, Exit.inBlock, ↓reduceIte, Nat.reduceEqDiff]))
    ((try simp only [Exit.inBlock, Exit.then]); refine Sy.st_ret1 T F rfl (by repeat (first | exact Sy.ResV.nil | apply Sy.ResV.tmp rfl | apply Sy.ResV.row rfl rfl rfl (by repeat (first | exact Sy.Take.here | apply Sy.Take.there)) (by rfl) | apply Sy.ResV.one rfl rfl rfl (by repeat (first | exact Sy.Take.here | apply Sy.Take.there)) (by rfl))) ?_)
    exact F.retV _
  | false =>
  have hcnt := of_decide_eq_false q2
  repeat (first
    | (((with_reducible refine Sy.is_guard ?_); (refine Sy.st_guard T (h := ?_))))
    | (((with_reducible refine Sy.is_load ?_); (refine Sy.st_loadAll T F (h := ?_)); clear T; intro ac T))
    | (((with_reducible refine Sy.is_op ?_); refine Sy.st_pure T (h := ?_); clear T; intro ac T)))
  by_cases hRt : Right07 t r (goneO client seq) count
  case neg =>
    have G := right_any _ t ta tc (ht.sub F.sub) r p (h.sub F.sub) hs (goneO client seq) count false ⟨fun k => (by cases k), fun k => absurd k hRt⟩; refine Sy.st_callV0 T F (hc := G) (h := ?_); (clear T F G; intro ac w T F)
    repeat (first
    | (((with_reducible refine Sy.is_guard ?_); (first
    | refine Sy.st_guard T (h := ?_)
    | (refine Sy.st_unguard T (h := ?_); clear T; intro ac T))))
    | (((with_reducible refine Sy.is_op ?_); refine Sy.st_pure T (h := ?_); clear T; intro ac T))
    | ((with_reducible refine Sy.is_cond ?_); (refine Sy.st_true T (h := ?_)))
    | (with_reducible refine wpList_nil ?_)
    | (with_reducible refine wp_region_lit ?_)
    | ((with_reducible refine wp_seq_k ?_); intro _ _)
    | (go_at_K; go_step)
    | (simp only [Exit.then, Exit.inBlock, ↓reduceIte, Nat.reduceEqDiff]))
    refine Sy.st_callV0 T F (hc := awake_any _) (h := ?_); (clear T F; intro ac w T F)
    repeat (first
    | (((with_reducible refine Sy.is_op ?_); refine Sy.st_pure T (h := ?_); clear T; intro ac T))
    | (with_reducible refine wpList_nil ?_)
    | (with_reducible refine wp_ret ?_)
    | (go_at_K; go_step)
    | (simp only [Exit.then, Exit.inBlock, ↓reduceIte, Nat.reduceEqDiff]))
    ((try simp only [Exit.inBlock, Exit.then]); refine Sy.st_ret1 T F rfl (by repeat (first | exact Sy.ResV.nil | apply Sy.ResV.tmp rfl | apply Sy.ResV.row rfl rfl rfl (by repeat (first | exact Sy.Take.here | apply Sy.Take.there)) (by rfl) | apply Sy.ResV.one rfl rfl rfl (by repeat (first | exact Sy.Take.here | apply Sy.Take.there)) (by rfl))) ?_)
    exact F.retV _
  have G := right_any _ t ta tc (ht.sub F.sub) r p (h.sub F.sub) hs (goneO client seq) count true ⟨fun _ => hRt, fun _ => rfl⟩; refine Sy.st_callV0 T F (hc := G) (h := ?_); (clear T F G; intro ac w T F)
  obtain ⟨hmo, hpg, htm, c0⟩ := right_parts hRt
  obtain ⟨n, hn⟩ := tab_nat htm
  by_cases k1 : r.kind = 1
  case neg =>
    have v1 := eqF (a := (r.kind : Int)) (b := 1) (by omega)
    repeat (first
    | (((with_reducible refine Sy.is_guard ?_); (first
    | refine Sy.st_guard T (h := ?_)
    | (refine Sy.st_unguard T (h := ?_); clear T; intro ac T))))
    | (((with_reducible refine Sy.is_load ?_); (refine Sy.st_loadOne T F (h := ?_)); clear T; intro ac T))
    | (((with_reducible refine Sy.is_op ?_); refine Sy.st_pure T (h := ?_); clear T; intro ac T))
    | ((with_reducible refine Sy.is_cond ?_); (refine Sy.st_true T (h := ?_)))
    | (with_reducible refine wpList_nil ?_)
    | (with_reducible refine wp_region_lit ?_)
    | ((with_reducible refine wp_seq_k ?_); intro _ _)
    | (go_at_K; go_step)
    | (simp only [Exit.then, Exit.inBlock, ↓reduceIte, Nat.reduceEqDiff]))
    refine Sy.st_callV0 T F (hc := awake_any _) (h := ?_); (clear T F; intro ac w T F)
    repeat (first
    | (((with_reducible refine Sy.is_op ?_); refine Sy.st_pure T (h := ?_); clear T; intro ac T))
    | (with_reducible refine wpList_nil ?_)
    | (with_reducible refine wp_ret ?_)
    | (go_at_K; go_step)
    | (simp only [Exit.then, Exit.inBlock, ↓reduceIte, Nat.reduceEqDiff]))
    ((try simp only [Exit.inBlock, Exit.then]); refine Sy.st_ret1 T F rfl (by repeat (first | exact Sy.ResV.nil | apply Sy.ResV.tmp rfl | apply Sy.ResV.row rfl rfl rfl (by repeat (first | exact Sy.Take.here | apply Sy.Take.there)) (by rfl) | apply Sy.ResV.one rfl rfl rfl (by repeat (first | exact Sy.Take.here | apply Sy.Take.there)) (by rfl))) ?_)
    exact F.retV _
  have v1 := eqT (a := (r.kind : Int)) (b := 1) (by omega)
  by_cases ho0 : r.out = []
  case neg =>
    have v2 : decide ((r.out.length : Int) > 0) = true := decide_eq_true (by have := List.length_pos_iff.2 ho0; omega)
    repeat (first
    | (((with_reducible refine Sy.is_guard ?_); (refine Sy.st_guard T (h := ?_))))
    | (((with_reducible refine Sy.is_load ?_); (refine Sy.st_loadOne T F (h := ?_)); clear T; intro ac T))
    | (((with_reducible refine Sy.is_op ?_); refine Sy.st_pure T (h := ?_); clear T; intro ac T))
    | ((with_reducible refine Sy.is_cond ?_); (refine Sy.st_true T (h := ?_)))
    | (with_reducible refine wpList_nil ?_)
    | (with_reducible refine wp_region_lit ?_)
    | ((with_reducible refine wp_seq_k ?_); intro _ _)
    | (go_at_K; go_step)
    | (simp only [Exit.then, Exit.inBlock, ↓reduceIte, Nat.reduceEqDiff]))
    refine Sy.st_callV0 T F (hc := awake_any _) (h := ?_); (clear T F; intro ac w T F)
    repeat (first
    | (((with_reducible refine Sy.is_op ?_); refine Sy.st_pure T (h := ?_); clear T; intro ac T))
    | (with_reducible refine wpList_nil ?_)
    | (with_reducible refine wp_ret ?_)
    | (go_at_K; go_step)
    | (simp only [Exit.then, Exit.inBlock, ↓reduceIte, Nat.reduceEqDiff]))
    ((try simp only [Exit.inBlock, Exit.then]); refine Sy.st_ret1 T F rfl (by repeat (first | exact Sy.ResV.nil | apply Sy.ResV.tmp rfl | apply Sy.ResV.row rfl rfl rfl (by repeat (first | exact Sy.Take.here | apply Sy.Take.there)) (by rfl) | apply Sy.ResV.one rfl rfl rfl (by repeat (first | exact Sy.Take.here | apply Sy.Take.there)) (by rfl))) ?_)
    exact F.retV _
  have v2 : decide ((r.out.length : Int) > 0) = false := decide_eq_false (by rw [ho0]; simp)
  have e00 : ((0 : Int) == 0) = true := rfl
  have e1 : IntKind.u64.wrap ((count : Int) + 1) = ((count + 1 : Nat) : Int) := by rw [u64_wrap (by omega) (by omega)]; omega
  have e2 : IntKind.u64.wrap ((seq : Int) + 1) = ((seq + 1 : Nat) : Int) := by rw [u64_wrap (by omega) (by omega)]; omega
  have hA := gone_first (t := t) (o := goneO client seq) (count := count) (n := n) rfl k1 ho0
  have hpx := apply_pg htm hpg (goneO client seq) hmo count n c0 hn
  have hb1 := back_may hmo
  have hb2 := back_ok (client := client) (seq := seq) hcl (by omega)
  repeat (first
    | (((with_reducible refine Sy.is_guard ?_); (refine Sy.st_guard T (h := ?_))))
    | (((with_reducible refine Sy.is_load ?_); (first
    | refine Sy.st_loadOne T F (h := ?_)
    | refine Sy.st_loadAll T F (h := ?_)); clear T; intro ac T))
    | (((with_reducible refine Sy.is_op ?_); refine Sy.st_pure T (h := ?_); clear T; intro ac T))
    | ((with_reducible refine Sy.is_cond ?_); (refine Sy.st_false T (h := ?_)))
    | (with_reducible refine wpList_nil ?_)
    | (with_reducible refine wp_region_lit ?_)
    | (with_reducible refine wp_skip ?_)
    | ((with_reducible refine wp_seq_k ?_); intro _ _)
    | (go_at_K; go_step)
    | (simp only [Exit.then, Exit.inBlock, ↓reduceIte, Nat.reduceEqDiff]))
  have G := apply_any _ _ F.sub t ta tc ht r p h (goneO client seq) count n (good_of hpg hmo hk0 htm c0 hc h.last hn); refine Sy.st_callM0 T F (hc := G) (h := ?_); (clear T F G; intro v m ac w hR hS T F)
  rcases hA with ⟨d, hf, hA⟩ | hA
  · rw [hA] at hR
    have hot := fun hq => gone_other (t := t) (r := r) (o := goneO client seq) (o2 := backO client seq) (d := d) (count := count + 1) (n := n) hpg k1 rfl rfl (Nat.lt_succ_self _) hf hq
    have hlt15 : (goneO client seq).seq < d.seq → (if (goneO client seq).seq < d.seq then (⟨15, 0, 0, []⟩ : RepD) else d.rep).err = 15 := fun k => by rw [if_pos k]
    generalize (if (goneO client seq).seq < d.seq then (⟨15, 0, 0, []⟩ : RepD) else d.rep) = y at *
    obtain ⟨⟨va, vc, da, dc, oa, oc, ma, mc⟩, ax, rfl, hx, hxr⟩ := hR
    replace hx : RegAt m r ⟨va, vc, da, dc, oa, oc, ma, mc⟩ := hx
    by_cases y15 : y.err = 15
    · have u1 := eqT y15
      repeat (first
    | (((with_reducible refine Sy.is_guard ?_); (first
    | refine Sy.st_guard T (h := ?_)
    | (refine Sy.st_unguard T (h := ?_); clear T; intro ac T))))
    | (((with_reducible refine Sy.is_load ?_); (refine Sy.st_loadOne T F (h := ?_)); clear T; intro ac T))
    | (((with_reducible refine Sy.is_store ?_); (refine Sy.st_storeAll T F (h := ?_)); clear T F; intro ac w T F))
    | (((with_reducible refine Sy.is_alloc ?_); refine Sy.st_alloc T F (h := ?_); clear T F; intro ac g w T F))
    | (((with_reducible refine Sy.is_op ?_); refine Sy.st_pure T (h := ?_); clear T; intro ac T))
    | ((with_reducible refine Sy.is_cond ?_); (refine Sy.st_true T (h := ?_)))
    | (with_reducible refine wpList_nil ?_)
    | (with_reducible refine wp_region_lit ?_)
    | ((with_reducible refine wp_seq_k ?_); intro _ _)
    | (go_at_K; go_step)
    | (simp only [Exit.then, Exit.inBlock, ↓reduceIte, Nat.reduceEqDiff]))
      refine Sy.st_callV0 T F (hc := awake_any _) (h := ?_); (clear T F; intro ac w T F)
      repeat (first
    | (((with_reducible refine Sy.is_op ?_); refine Sy.st_pure T (h := ?_); clear T; intro ac T))
    | (with_reducible refine wpList_nil ?_)
    | (with_reducible refine wp_ret ?_)
    | (go_at_K; go_step)
    | (simp only [Exit.then, Exit.inBlock, ↓reduceIte, Nat.reduceEqDiff]))
      ((try simp only [Exit.inBlock, Exit.then]); refine Sy.st_ret1 T F rfl (by repeat (first | exact Sy.ResV.nil | apply Sy.ResV.tmp rfl | apply Sy.ResV.row rfl rfl rfl (by repeat (first | exact Sy.Take.here | apply Sy.Take.there)) (by rfl) | apply Sy.ResV.one rfl rfl rfl (by repeat (first | exact Sy.Take.here | apply Sy.Take.there)) (by rfl))) ?_)
      exact F.retV _
    have u1 := eqF y15
    by_cases y0 : y.err = 0
    · have u2 := eqT y0
      repeat (first
    | (((with_reducible refine Sy.is_guard ?_); (refine Sy.st_guard T (h := ?_))))
    | (((with_reducible refine Sy.is_load ?_); (refine Sy.st_loadOne T F (h := ?_)); clear T; intro ac T))
    | (((with_reducible refine Sy.is_store ?_); (refine Sy.st_storeAll T F (h := ?_)); clear T F; intro ac w T F))
    | (((with_reducible refine Sy.is_alloc ?_); refine Sy.st_alloc T F (h := ?_); clear T F; intro ac g w T F))
    | (((with_reducible refine Sy.is_op ?_); refine Sy.st_pure T (h := ?_); clear T; intro ac T))
    | ((with_reducible refine Sy.is_cond ?_); (refine Sy.st_true T (h := ?_)))
    | (with_reducible refine wpList_nil ?_)
    | (with_reducible refine wp_region_lit ?_)
    | ((with_reducible refine wp_seq_k ?_); intro _ _)
    | (go_at_K; go_step)
    | (simp only [Exit.then, Exit.inBlock, ↓reduceIte, Nat.reduceEqDiff]))
      refine Sy.st_callV0 T F (hc := awake_any _) (h := ?_); (clear T F; intro ac w T F)
      repeat (first
    | (((with_reducible refine Sy.is_op ?_); refine Sy.st_pure T (h := ?_); clear T; intro ac T))
    | (with_reducible refine wpList_nil ?_)
    | (with_reducible refine wp_ret ?_)
    | (go_at_K; go_step)
    | (simp only [Exit.then, Exit.inBlock, ↓reduceIte, Nat.reduceEqDiff]))
      ((try simp only [Exit.inBlock, Exit.then]); refine Sy.st_ret1 T F rfl (by repeat (first | exact Sy.ResV.nil | apply Sy.ResV.tmp rfl | apply Sy.ResV.row rfl rfl rfl (by repeat (first | exact Sy.Take.here | apply Sy.Take.there)) (by rfl) | apply Sy.ResV.one rfl rfl rfl (by repeat (first | exact Sy.Take.here | apply Sy.Take.there)) (by rfl))) ?_)
      exact F.retV _
    have u2 := eqF y0
    obtain ⟨z1, z2⟩ := hot (fun k => y15 (hlt15 k))
    repeat (first
    | (((with_reducible refine Sy.is_guard ?_); (first
    | refine Sy.st_guard T (h := ?_)
    | (refine Sy.st_unguard T (h := ?_); clear T; intro ac T))))
    | (((with_reducible refine Sy.is_load ?_); (first
    | refine Sy.st_loadOne T F (h := ?_)
    | refine Sy.st_loadAll T F (h := ?_)); clear T; intro ac T))
    | (((with_reducible refine Sy.is_store ?_); (refine Sy.st_storeAll T F (h := ?_)); clear T F; intro ac w T F))
    | (((with_reducible refine Sy.is_alloc ?_); refine Sy.st_alloc T F (h := ?_); clear T F; intro ac g w T F))
    | (((with_reducible refine Sy.is_build ?_); refine Sy.st_build T (h := ?_); (conv => whnf); (repeat (refine ⟨by first | exact rfl | exact ⟨rfl, rfl⟩, ?_⟩; (conv => whnf))); clear T; intro ac T))
    | (((with_reducible refine Sy.is_op ?_); refine Sy.st_pure T (h := ?_); clear T; intro ac T))
    | ((with_reducible refine Sy.is_cond ?_); (refine Sy.st_false T (h := ?_)))
    | (with_reducible refine wpList_nil ?_)
    | (with_reducible refine wp_region_lit ?_)
    | (with_reducible refine wp_skip ?_)
    | ((with_reducible refine wp_seq_k ?_); intro _ _)
    | (go_at_K; go_step)
    | (simp only [Exit.then, Exit.inBlock, ↓reduceIte, Nat.reduceEqDiff]))
    have G := apply_any _ _ F.sub t ta tc (ht.sub hS) r ⟨va, vc, da, dc, oa, oc, ma, mc⟩ hx (backO client seq) (count + 1) n (good_of hpg hb1 hb2 htm (by omega) (by unfold U64; omega) h.last hn); refine Sy.st_callM0 T F (hc := G) (h := ?_); (clear T F G; intro v m ac w hR hS T F)
    generalize applyR t r (backO client seq) (count + 1) n = B at *
    obtain ⟨x2, y2⟩ := B
    replace z1 : x2.kind = 1 := z1
    replace z2 : y2 = ⟨12, 0, 0, []⟩ := z2
    subst z2
    obtain ⟨⟨va3, vc3, da3, dc3, oa3, oc3, ma3, mc3⟩, ax2, rfl, hx2, hxr2⟩ := hR
    have z3 := eqT (a := (x2.kind : Int)) (b := 1) (by omega)
    have z4 := eqF (a := 0) (b := ((count + 1 : Nat) : Int)) (by omega)
    by_cases hi : x2.inc = count + 1
    · have z5 := eqT (a := (x2.inc : Int)) (b := ((count + 1 : Nat) : Int)) (by omega)
      repeat (first
    | (((with_reducible refine Sy.is_guard ?_); (first
    | refine Sy.st_guard T (h := ?_)
    | (refine Sy.st_unguard T (h := ?_); clear T; intro ac T))))
    | (((with_reducible refine Sy.is_load ?_); (refine Sy.st_loadOne T F (h := ?_)); clear T; intro ac T))
    | (((with_reducible refine Sy.is_store ?_); (refine Sy.st_storeAll T F (h := ?_)); clear T F; intro ac w T F))
    | (((with_reducible refine Sy.is_alloc ?_); refine Sy.st_alloc T F (h := ?_); clear T F; intro ac g w T F))
    | (((with_reducible refine Sy.is_op ?_); refine Sy.st_pure T (h := ?_); clear T; intro ac T))
    | ((with_reducible refine Sy.is_cond ?_); (refine Sy.st_true T (h := ?_)))
    | (with_reducible refine wpList_nil ?_)
    | (with_reducible refine wp_region_lit ?_)
    | ((with_reducible refine wp_seq_k ?_); intro _ _)
    | (go_at_K; go_step)
    | (simp only [Exit.then, Exit.inBlock, ↓reduceIte, Nat.reduceEqDiff]))
      refine Sy.st_callV0 T F (hc := awake_any _) (h := ?_); (clear T F; intro ac w T F)
      repeat (first
    | (((with_reducible refine Sy.is_op ?_); refine Sy.st_pure T (h := ?_); clear T; intro ac T))
    | (with_reducible refine wpList_nil ?_)
    | (with_reducible refine wp_ret ?_)
    | (go_at_K; go_step)
    | (simp only [Exit.then, Exit.inBlock, ↓reduceIte, Nat.reduceEqDiff]))
      ((try simp only [Exit.inBlock, Exit.then]); refine Sy.st_ret1 T F rfl (by repeat (first | exact Sy.ResV.nil | apply Sy.ResV.tmp rfl | apply Sy.ResV.row rfl rfl rfl (by repeat (first | exact Sy.Take.here | apply Sy.Take.there)) (by rfl) | apply Sy.ResV.one rfl rfl rfl (by repeat (first | exact Sy.Take.here | apply Sy.Take.there)) (by rfl))) ?_)
      exact F.retV _
    · have z5 := eqF (a := (x2.inc : Int)) (b := ((count + 1 : Nat) : Int)) (by omega)
      repeat (first
    | (((with_reducible refine Sy.is_guard ?_); (first
    | refine Sy.st_guard T (h := ?_)
    | (refine Sy.st_unguard T (h := ?_); clear T; intro ac T))))
    | (((with_reducible refine Sy.is_load ?_); (refine Sy.st_loadOne T F (h := ?_)); clear T; intro ac T))
    | (((with_reducible refine Sy.is_store ?_); (refine Sy.st_storeAll T F (h := ?_)); clear T F; intro ac w T F))
    | (((with_reducible refine Sy.is_alloc ?_); refine Sy.st_alloc T F (h := ?_); clear T F; intro ac g w T F))
    | (((with_reducible refine Sy.is_op ?_); refine Sy.st_pure T (h := ?_); clear T; intro ac T))
    | ((with_reducible refine Sy.is_cond ?_); (refine Sy.st_true T (h := ?_)))
    | (with_reducible refine wpList_nil ?_)
    | (with_reducible refine wp_region_lit ?_)
    | ((with_reducible refine wp_seq_k ?_); intro _ _)
    | (go_at_K; go_step)
    | (simp only [Exit.then, Exit.inBlock, ↓reduceIte, Nat.reduceEqDiff]))
      refine Sy.st_callV0 T F (hc := awake_any _) (h := ?_); (clear T F; intro ac w T F)
      repeat (first
    | (((with_reducible refine Sy.is_op ?_); refine Sy.st_pure T (h := ?_); clear T; intro ac T))
    | (with_reducible refine wpList_nil ?_)
    | (with_reducible refine wp_ret ?_)
    | (go_at_K; go_step)
    | (simp only [Exit.then, Exit.inBlock, ↓reduceIte, Nat.reduceEqDiff]))
      ((try simp only [Exit.inBlock, Exit.then]); refine Sy.st_ret1 T F rfl (by repeat (first | exact Sy.ResV.nil | apply Sy.ResV.tmp rfl | apply Sy.ResV.row rfl rfl rfl (by repeat (first | exact Sy.Take.here | apply Sy.Take.there)) (by rfl) | apply Sy.ResV.one rfl rfl rfl (by repeat (first | exact Sy.Take.here | apply Sy.Take.there)) (by rfl))) ?_)
      exact F.retV _
  · rw [hA] at hR hpx
    have hth := gone_then (count := count + 1) (n := n) htm hpg k1 hmo rfl (o2 := backO client seq) rfl rfl (Nat.lt_succ_self _)
    simp only at hth
    have hkx : (noteS (tombS r) (goneO client seq) ⟨0, 0, 0, []⟩).kind = 2 := (note_rest _ _ _).1
    generalize noteS (tombS r) (goneO client seq) ⟨0, 0, 0, []⟩ = x at *
    obtain ⟨⟨va, vc, da, dc, oa, oc, ma, mc⟩, ax, rfl, hx, hxr⟩ := hR
    replace hx : RegAt m x ⟨va, vc, da, dc, oa, oc, ma, mc⟩ := hx
    have hr1 := h.sub hS
    have u1 : ((0 : Int) == 15) = false := rfl
    have u2 := eqF (a := (x.kind : Int)) (b := 1) (by omega)
    repeat (first
    | (((with_reducible refine Sy.is_guard ?_); (refine Sy.st_guard T (h := ?_))))
    | (((with_reducible refine Sy.is_load ?_); (first
    | refine Sy.st_loadOne T F (h := ?_)
    | refine Sy.st_loadAll T F (h := ?_)); clear T; intro ac T))
    | (((with_reducible refine Sy.is_store ?_); (refine Sy.st_storeAll T F (h := ?_)); clear T F; intro ac w T F))
    | (((with_reducible refine Sy.is_alloc ?_); refine Sy.st_alloc T F (h := ?_); clear T F; intro ac g w T F))
    | (((with_reducible refine Sy.is_build ?_); refine Sy.st_build T (h := ?_); (conv => whnf); (repeat (refine ⟨by first | exact rfl | exact ⟨rfl, rfl⟩, ?_⟩; (conv => whnf))); clear T; intro ac T))
    | (((with_reducible refine Sy.is_op ?_); refine Sy.st_pure T (h := ?_); clear T; intro ac T))
    | ((with_reducible refine Sy.is_cond ?_); (refine Sy.st_false T (h := ?_)))
    | (with_reducible refine wpList_nil ?_)
    | (with_reducible refine wp_region_lit ?_)
    | (with_reducible refine wp_skip ?_)
    | ((with_reducible refine wp_seq_k ?_); intro _ _)
    | (go_at_K; go_step)
    | (simp only [Exit.then, Exit.inBlock, ↓reduceIte, Nat.reduceEqDiff]))
    have G := apply_any _ _ F.sub t ta tc (ht.sub hS) x ⟨va, vc, da, dc, oa, oc, ma, mc⟩ hx (backO client seq) (count + 1) n (good_of hpx hb1 hb2 htm (by omega) (by unfold U64; omega) hx.last hn); refine Sy.st_callM0 T F (hc := G) (h := ?_); (clear T F G; intro v m ac w hR hS T F)
    generalize applyR t x (backO client seq) (count + 1) n = B at *
    obtain ⟨x2, y2⟩ := B
    obtain ⟨z1, z2, z3, z4, z5, z6⟩ := hth
    replace z1 : x2.kind = 1 := z1
    replace z2 : x2.inc = count + 1 := z2
    replace z3 : y2.inc = count + 1 := z3
    replace z4 : x2.out = [] := z4
    replace z5 : x2.last = 0 := z5
    replace z6 : x2.marks = r.marks := z6
    obtain ⟨⟨va3, vc3, da3, dc3, oa3, oc3, ma3, mc3⟩, ax2, rfl, hx2, hxr2⟩ := hR
    replace hx2 : RegAt m x2 ⟨va3, vc3, da3, dc3, oa3, oc3, ma3, mc3⟩ := hx2
    have hr2 := hr1.sub hS
    have t1 := eqT (a := (x2.kind : Int)) (b := 1) (by omega)
    have t2 := eqT (a := (x2.inc : Int)) (b := ((count + 1 : Nat) : Int)) (by omega)
    have t3 := eqT (a := (y2.inc : Int)) (b := ((count + 1 : Nat) : Int)) (by omega)
    have t4 := eqT (a := (x2.out.length : Int)) (b := 0) (by rw [z4]; rfl)
    have t5 := eqT (a := (x2.last : Int)) (b := 0) (by omega)
    have t6 := eqT (a := (x2.marks.length : Int)) (b := (r.marks.length : Int)) (by rw [z6])
    obtain ⟨va2, vc2, da2, dc2, oa2, oc2, ma2, mc2⟩ := p
    repeat (first
    | (((with_reducible refine Sy.is_guard ?_); (refine Sy.st_guard T (h := ?_))))
    | (((with_reducible refine Sy.is_load ?_); (refine Sy.st_loadOne T F (h := ?_)); clear T; intro ac T))
    | (((with_reducible refine Sy.is_store ?_); (refine Sy.st_storeAll T F (h := ?_)); clear T F; intro ac w T F))
    | (((with_reducible refine Sy.is_alloc ?_); refine Sy.st_alloc T F (h := ?_); clear T F; intro ac g w T F))
    | (((with_reducible refine Sy.is_op ?_); refine Sy.st_pure T (h := ?_); clear T; intro ac T))
    | ((with_reducible refine Sy.is_cond ?_); (refine Sy.st_false T (h := ?_)))
    | (with_reducible refine wpList_nil ?_)
    | (with_reducible refine wp_region_lit ?_)
    | (with_reducible refine wp_block ?_)
    | (with_reducible refine wp_skip ?_)
    | ((with_reducible refine wp_seq_k ?_); intro _ _)
    | (go_at_K; go_step)
    | (simp only [Exit.then, Exit.inBlock, ↓reduceIte, Nat.reduceEqDiff]))
    obtain ⟨b6, rfl⟩ := nameP T 6 rfl
    obtain ⟨b15, rfl⟩ := nameP T 15 rfl
    have hml : r.marks.length ≤ maxLen := hr2.marks.1
    refine wp_loop_ghost_k (fun n0 ac w' => ∃ k, n0 = r.marks.length - k ∧ k ≤ r.marks.length ∧ Sy.Tm ac 172 [(6, .pointer (some ⟨b6, 0, none⟩)), (15, .pointer (some ⟨b15, 0, none⟩)), (18, .int .i64 (k : Int))] ∧ Sy.Mem ⟨w0, [], w0⟩ m [⟨b15, regCs x2 ⟨va3, vc3, da3, dc3, oa3, oc3, ma3, mc3⟩, 51⟩, ⟨b6, regCs r ⟨va2, vc2, da2, dc2, oa2, oc2, ma2, mc2⟩, 51⟩] w') r.marks.length ?_ ?_
    · exact ⟨0, rfl, Nat.zero_le _, (T.part (by repeat (first | exact Sy.Part.nil | apply Sy.Part.cons rfl))), (F.sel (by repeat (first | exact Sy.Sel.nil | apply Sy.Sel.cons (by repeat (first | exact Sy.Take.here | apply Sy.Take.there)))))⟩
    clear T F
    intro n0 ac w hI J K hJ hK
    obtain ⟨k, rfl, hk, T, F⟩ := hI
    have hlen : x2.marks.length = r.marks.length := by rw [z6]
    by_cases hlt : k < r.marks.length
    · have y1 : decide ((k : Int) < (x2.marks.length : Int)) = true := decide_eq_true (by omega)
      have y2' := Rg.i64_up hlt hml
      have hlt2 : k < x2.marks.length := by omega
      obtain ⟨pb, po, row, hpa, hpl, hpt, hpr⟩ := rows_get hx2.marks hlt2
      obtain ⟨qb, qo, row2, hqa, hql, hqt, hqr⟩ := rows_get hr2.marks hlt
      obtain ⟨rfl, -⟩ := hpr
      obtain ⟨rfl, -⟩ := hqr
      have hxe : x2.marks[k] = r.marks[k] := by simp only [z6]
      rw [hxe] at hpt
      have hne := (markEq r.marks[k]).2
      unfold markL at hne
      replace hpa : ma3 = _ := hpa
      replace hqa : ma2 = _ := hqa
      subst hpa hqa
      repeat (first
    | (((with_reducible refine Sy.is_load ?_); (refine Sy.st_loadOne T F (h := ?_)); clear T; intro ac T))
    | (((with_reducible refine Sy.is_op ?_); refine Sy.st_pure T (h := ?_); clear T; intro ac T))
    | ((with_reducible refine Sy.is_cond ?_); (first
    | refine Sy.st_true T (h := ?_)
    | refine Sy.st_false T (h := ?_)))
    | (with_reducible refine wpList_nil ?_)
    | (with_reducible refine wp_region_lit ?_)
    | (with_reducible refine wp_block ?_)
    | (with_reducible refine wp_skip ?_)
    | ((with_reducible refine wp_seq_k ?_); intro _ _)
    | (go_at_K; go_step)
    | (simp only [Exit.then, Exit.inBlock, ↓reduceIte, Nat.reduceEqDiff])
    | ((with_reducible refine Sy.is_drawn (id := 13) ?_); refine Sy.sx_region F [] (.t 0 (.t 1 (.t 2 (.t 3 (.t 4 (.t 5 (.t 6 (.t 7 (.t 8 (.t 9 (.t 10 .e))))))))))) [] (by kernel_rfl) ?_; (clear F; intro w F))
    | ((refine Sy.sx_plain (h := ?_)); (first
    | ((with_reducible refine Sy.ux_load ?_); (first
    | refine Sy.sx_val (Sy.rx_loadOne T F) T rfl ?_
    | refine Sy.sx_val (Sy.rx_oldAgg T F) T rfl ?_); clear T; intro ac T)
    | (refine Sy.sx_pure T (h := ?_); clear T; intro ac T)); show Sy.wpUx _ _ _ _ _ _ _ _ _)
    | (with_reducible refine Sy.sx_nil ?_)
    | (with_reducible refine Sy.sx_end ?_))
      exact Sy.handed hJ (k := r.marks.length - (k + 1)) (by omega) ⟨k + 1, rfl, by omega, (T.part (by repeat (first | exact Sy.Part.nil | apply Sy.Part.cons rfl))), (F.sel (by repeat (first | exact Sy.Sel.nil | apply Sy.Sel.cons (by repeat (first | exact Sy.Take.here | apply Sy.Take.there)))))⟩
    · obtain rfl : k = r.marks.length := by omega
      have y1 : decide ((r.marks.length : Int) < (x2.marks.length : Int)) = false := decide_eq_false (by omega)
      repeat (first
    | (((with_reducible refine Sy.is_load ?_); (refine Sy.st_loadOne T F (h := ?_)); clear T; intro ac T))
    | (((with_reducible refine Sy.is_op ?_); refine Sy.st_pure T (h := ?_); clear T; intro ac T))
    | ((with_reducible refine Sy.is_cond ?_); (refine Sy.st_false T (h := ?_)))
    | (with_reducible refine wpList_nil ?_)
    | (with_reducible refine wp_region_lit ?_)
    | (with_reducible refine wp_exit ?_)
    | ((with_reducible refine wp_seq_k ?_); intro _ _)
    | (go_at_K; go_step)
    | (simp only [Exit.then, Exit.inBlock, ↓reduceIte, Nat.reduceEqDiff]))
      refine Sy.st_callV0 T F (hc := awake_any _) (h := ?_); (clear T F; intro ac w T F)
      repeat (first
    | (((with_reducible refine Sy.is_op ?_); refine Sy.st_pure T (h := ?_); clear T; intro ac T))
    | (with_reducible refine wpList_nil ?_)
    | (with_reducible refine wp_ret ?_)
    | (go_at_K; go_step)
    | (simp only [Exit.then, Exit.inBlock, ↓reduceIte, Nat.reduceEqDiff]))
      ((try simp only [Exit.inBlock, Exit.then]); refine Sy.st_ret1 T F rfl (by repeat (first | exact Sy.ResV.nil | apply Sy.ResV.tmp rfl | apply Sy.ResV.row rfl rfl rfl (by repeat (first | exact Sy.Take.here | apply Sy.Take.there)) (by rfl) | apply Sy.ResV.one rfl rfl rfl (by repeat (first | exact Sy.Take.here | apply Sy.Take.there)) (by rfl))) ?_)
      exact F.retV _
end En
theorem engineGoneW (w : World) (t : Tb.TabD) (ta : Option Addr) (tc : Nat) (ht : Tb.TabAt w t ta tc) (r : Rg.RegD) (p : Rg.RegA) (h : Rg.RegAt w r p) (client : UInt8) (seq : Int) (hs : 0 ≤ seq ∧ seq ≤ 18446744073709551615) (count : Int) (hc : 0 ≤ count ∧ count ≤ 18446744073709551615) :
    Calls Try.prog 12 #[.agg (Tb.tabCs t ta tc).toArray, .agg (Rg.regCs r p).toArray, .int .u8 (client.toNat : Int), .int .u64 seq, .int .u64 count] w (RetBo w true) := by
  obtain ⟨c, rfl⟩ : ∃ n : Nat, count = (n : Int) := ⟨count.toNat, by omega⟩
  obtain ⟨s, rfl⟩ : ∃ n : Nat, seq = (n : Int) := ⟨seq.toNat, by omega⟩
  exact En.gone_any w t ta tc ht r p h client.toNat s c (by have := client.toNat_lt; unfold Rg.U8; omega) (by unfold Rg.U64; omega) (by unfold Rg.U64; omega)
end Go.Proofs.Ytdpmfjbhadapiaa
