/- The walk of the law EngineCells. Conditions: what is handed in can be read. -/
import Derived.Test.YtdpmfjbhadapiaaEnZ
import Derived.Test.YtdpmfjbhadapiaaRegD
namespace Go.Proofs.Ytdpmfjbhadapiaa
open Go.RowKit
set_option linter.unusedVariables false
set_option linter.unusedSimpArgs false
namespace En
open Sy (RetV RetM Sub)
open Rg (eqT eqF U8 U64 I64 RegD RegA RegAt regCs DoneD MarkD CellD OpD OpOk OpR opCs RepD RepA RepAt repCs greatS zeroReg zeroRegA zeroReg_at May06 MarkR)
open Tb (TabD TabAt tabCs)
theorem cellCmp (x y : CellD) : Sy.EqAgg Try.prog .eql 47 [.int .u64 (x.n : Int), .int .u8 (x.target : Int), .int .i64 x.action, .int .i64 x.arg] [.int .u64 (y.n : Int), .int .u8 (y.target : Int), .int .i64 y.action, .int .i64 y.arg] (decide (x = y)) := by
  refine (Sy.eqAgg_flat Try.underlying47 (by kernel_rfl) ?_ ?_).1
  · intro f hf
    simp at hf
    rcases hf with rfl | rfl | rfl | rfl <;> exact ⟨_, _, _, rfl, rfl⟩
  · obtain ⟨a1, a2, a3, a4⟩ := x
    obtain ⟨b1, b2, b3, b4⟩ := y
    show (((a1 : Int) == (b1 : Int)) && (((a2 : Int) == (b2 : Int)) && ((a3 == b3) && ((a4 == b4) && true)))) = _
    rw [Bool.eq_iff_iff]
    simp only [Bool.and_eq_true, beq_iff_eq, decide_eq_true_eq, CellD.mk.injEq, Bool.and_true]
    omega
/-- is a cell among the first k? -/
def hasC (l : List CellD) (c : CellD) (k : Nat) : Bool := (l.take k).any fun d => decide (d = c)
theorem hasC_up {l : List CellD} {c : CellD} {k : Nat} (h : k < l.length) : hasC l c (k + 1) = (hasC l c k || decide (l[k] = c)) := by
  unfold hasC
  rw [List.take_succ_eq_append_getElem h, List.any_append]
  simp
theorem hasC_all {l : List CellD} {c : CellD} : hasC l c l.length = true ↔ c ∈ l := by
  unfold hasC
  rw [List.take_length, List.any_eq_true]
  constructor
  · rintro ⟨d, hd, he⟩
    rw [decide_eq_true_eq] at he
    exact he ▸ hd
  · intro h
    exact ⟨c, h, decide_eq_true rfl⟩
set_option maxRecDepth 20000 in
set_option maxHeartbeats 16000000 in
theorem cells_any (w0 : World) (t : TabD) (ta : Option Addr) (tc : Nat) (ht : TabAt w0 t ta tc) (r : RegD) (p : RegA) (h : RegAt w0 r p) (la : Option Addr) (lc : Nat) (l : List OpD) (hl : Rows OpR 10 w0 la l) (count : Nat) (hc : U64 count) :
    Calls Try.prog 9 #[.agg (tabCs t ta tc).toArray, .agg (regCs r p).toArray, .slice la l.length lc, .int .u64 (count : Int)] w0 (RetV w0 (.bool true)) := by
  have F := Sy.Mem.start (Sub.refl w0)
  refine Sy.enter Try.func9 rfl Try.ntmps9 rfl ?_; intro ac T; simp only [Sy.enum, Nat.zero_add, Nat.reduceAdd] at T
  repeat (first
    | (((with_reducible refine Sy.is_load ?_); (refine Sy.st_loadAll T F (h := ?_)); clear T; intro ac T))
    | (((with_reducible refine Sy.is_box ?_); (refine Sy.st_boxAgg T F (h := ?_)); clear T F; intro ac g w T F))
    | (((with_reducible refine Sy.is_op ?_); refine Sy.st_pure T (h := ?_); clear T; intro ac T))
    | (with_reducible refine wpList_nil ?_)
    | (with_reducible refine wp_region_lit ?_)
    | ((with_reducible refine wp_seq_k ?_); intro _ _)
    | (go_at_K; go_step)
    | (simp only [Exit.then, Exit.inBlock, ↓reduceIte, Nat.reduceEqDiff]))
  refine Sy.st_call (us := []) (ks := []) T rfl rfl rfl rfl (great07_any _ t ta tc (ht.sub F.sub) r p (h.sub F.sub)) ?_
  rintro e w1 ⟨b, rfl, bel, hgr⟩
  refine ⟨_, rfl, fun ac' T' => ?_⟩
  have F1 := F.below bel
  clear F T bel
  have F := F1
  have T := T'
  clear F1 T'
  cases b with
  | true =>
    repeat (first
    | (((with_reducible refine Sy.is_guard ?_); ((refine Sy.st_unguard T (h := ?_); clear T; intro ac T))))
    | (((with_reducible refine Sy.is_op ?_); refine Sy.st_pure T (h := ?_); clear T; intro ac T))
    | ((with_reducible refine Sy.is_cond ?_); (refine Sy.st_true T (h := ?_)))
    | (with_reducible refine wpList_nil ?_)
    | (with_reducible refine wp_region_lit ?_)
    | ((with_reducible refine wp_seq_k ?_); intro _ _)
    | (go_at_K; go_step)
    | (simp only [Exit.then, Exit.inBlock, ↓reduceIte, Nat.reduceEqDiff]))
    refine Sy.st_callV0 T F (hc := awake_any _) (h := ?_); (clear T F; intro ac w T F)
    repeat (first
    | (((with_reducible refine Sy.is_op ?_); refine Sy.st_pure T (h := ?_); clear T; intro ac T))
    | (with_reducible refine wpList_nil ?_)
    | (with_reducible refine wp_ret ?_)
    | (go_at_K; go_step)
    | (simp only [Exit.then, Exit.inBlock, ↓reduceIte, Nat.reduceEqDiff]))
    ((try simp only [Exit.inBlock, Exit.then]); refine Sy.st_ret1 T F rfl (by repeat (first | exact Sy.ResV.nil | apply Sy.ResV.tmp rfl | apply Sy.ResV.row rfl rfl rfl (by repeat (first | exact Sy.Take.here | apply Sy.Take.there)) (by rfl) | apply Sy.ResV.one rfl rfl rfl (by repeat (first | exact Sy.Take.here | apply Sy.Take.there)) (by rfl))) ?_)
    exact F.retV _
  | false =>
  have hs := Rg.short_of (hgr rfl)
  cases q1 : decide ((l.length : Int) > 40) with
  | true =>
    repeat (first
    | (((with_reducible refine Sy.is_guard ?_); (first
    | refine Sy.st_guard T (h := ?_)
    | (refine Sy.st_unguard T (h := ?_); clear T; intro ac T))))
    | (((with_reducible refine Sy.is_op ?_); refine Sy.st_pure T (h := ?_); clear T; intro ac T))
    | ((with_reducible refine Sy.is_cond ?_); (refine Sy.st_true T (h := ?_)))
    | (with_reducible refine wpList_nil ?_)
    | (with_reducible refine wp_region_lit ?_)
    | ((with_reducible refine wp_seq_k ?_); intro _ _)
    | (go_at_K; go_step)
    | (simp only [Exit.then, Exit.inBlock, ↓reduceIte, Nat.reduceEqDiff]))
    refine Sy.st_callV0 T F (hc := awake_any _) (h := ?_); (clear T F; intro ac w T F)
    repeat (first
    | (((with_reducible refine Sy.is_op ?_); refine Sy.st_pure T (h := ?_); clear T; intro ac T))
    | (with_reducible refine wpList_nil ?_)
    | (with_reducible refine wp_ret ?_)
    | (go_at_K; go_step)
    | (simp only [Exit.then, Exit.inBlock, ↓reduceIte, Nat.reduceEqDiff]))
    ((try simp only [Exit.inBlock, Exit.then]); refine Sy.st_ret1 T F rfl (by repeat (first | exact Sy.ResV.nil | apply Sy.ResV.tmp rfl | apply Sy.ResV.row rfl rfl rfl (by repeat (first | exact Sy.Take.here | apply Sy.Take.there)) (by rfl) | apply Sy.ResV.one rfl rfl rfl (by repeat (first | exact Sy.Take.here | apply Sy.Take.there)) (by rfl))) ?_)
    exact F.retV _
  | false =>
  have hll := of_decide_eq_false q1
  cases q2 : decide ((count : Int) > 1152921504606846976) with
  | true =>
    repeat (first
    | (((with_reducible refine Sy.is_guard ?_); (refine Sy.st_guard T (h := ?_))))
    | (((with_reducible refine Sy.is_op ?_); refine Sy.st_pure T (h := ?_); clear T; intro ac T))
    | ((with_reducible refine Sy.is_cond ?_); (refine Sy.st_true T (h := ?_)))
    | (with_reducible refine wpList_nil ?_)
    | (with_reducible refine wp_region_lit ?_)
    | ((with_reducible refine wp_seq_k ?_); intro _ _)
    | (go_at_K; go_step)
    | (simp only [Exit.then, Exit.inBlock, ↓reduceIte, Nat.reduceEqDiff]))
    refine Sy.st_callV0 T F (hc := awake_any _) (h := ?_); (clear T F; intro ac w T F)
    repeat (first
    | (((with_reducible refine Sy.is_op ?_); refine Sy.st_pure T (h := ?_); clear T; intro ac T))
    | (with_reducible refine wpList_nil ?_)
    | (with_reducible refine wp_ret ?_)
    | (go_at_K; go_step)
    | (simp only [Exit.then, Exit.inBlock, ↓reduceIte, Nat.reduceEqDiff]))
    ((try simp only [Exit.inBlock, Exit.then]); refine Sy.st_ret1 T F rfl (by repeat (first | exact Sy.ResV.nil | apply Sy.ResV.tmp rfl | apply Sy.ResV.row rfl rfl rfl (by repeat (first | exact Sy.Take.here | apply Sy.Take.there)) (by rfl) | apply Sy.ResV.one rfl rfl rfl (by repeat (first | exact Sy.Take.here | apply Sy.Take.there)) (by rfl))) ?_)
    exact F.retV _
  | false =>
  have hcnt := of_decide_eq_false q2
  have e00 : ((0 : Int) == 0) = true := rfl
  repeat (first
    | (((with_reducible refine Sy.is_guard ?_); (refine Sy.st_guard T (h := ?_))))
    | (((with_reducible refine Sy.is_load ?_); (refine Sy.st_loadAll T F (h := ?_)); clear T; intro ac T))
    | (((with_reducible refine Sy.is_store ?_); (refine Sy.st_storeAll T F (h := ?_)); clear T F; intro ac w T F))
    | (((with_reducible refine Sy.is_alloc ?_); refine Sy.st_alloc T F (h := ?_); clear T F; intro ac g w T F))
    | (((with_reducible refine Sy.is_op ?_); refine Sy.st_pure T (h := ?_); clear T; intro ac T))
    | ((with_reducible refine Sy.is_cond ?_); (refine Sy.st_false T (h := ?_)))
    | (with_reducible refine wpList_nil ?_)
    | (with_reducible refine wp_region_lit ?_)
    | (with_reducible refine wp_block ?_)
    | (with_reducible refine wp_skip ?_)
    | ((with_reducible refine wp_seq_k ?_); intro _ _)
    | (go_at_K; go_step)
    | (simp only [Exit.then, Exit.inBlock, ↓reduceIte, Nat.reduceEqDiff]))
  obtain ⟨b4, rfl⟩ := nameP T 4 rfl
  obtain ⟨b9, rfl⟩ := nameP T 9 rfl
  refine wp_loop_ghost_k (fun n0 ac w' => ∃ k x q mm, n0 = l.length - k ∧ k ≤ l.length ∧ Sub w0 mm ∧ RegAt mm x q ∧ Rg.Short x ∧ Sy.Tm ac 145 [(2, .slice la l.length lc), (3, .int .u64 (count : Int)), (4, .pointer (some ⟨b4, 0, none⟩)), (9, .pointer (some ⟨b9, 0, none⟩)), (10, .int .i64 (k : Int))] ∧ Sy.Mem ⟨w0, [], w0⟩ mm [⟨b9, regCs x q, 51⟩, ⟨b4, tabCs t ta tc, 24⟩] w') l.length ?_ ?_
  · exact ⟨0, r, p, w0, rfl, Nat.zero_le _, Sub.refl _, h, hs, (T.part (by repeat (first | exact Sy.Part.nil | apply Sy.Part.cons rfl))), (F.sel (by repeat (first | exact Sy.Sel.nil | apply Sy.Sel.cons (by repeat (first | exact Sy.Take.here | apply Sy.Take.there)))))⟩
  clear T F h hs hgr
  clear r p
  intro n0 ac w hI J K hJ hK
  obtain ⟨k, x, q, mm, rfl, hk, h0S, hx, hsx, T, F⟩ := hI
  by_cases hlt : k < l.length
  case neg =>
    obtain rfl : k = l.length := by omega
    have z1 : decide ((l.length : Int) < (l.length : Int)) = false := decide_eq_false (by omega)
    repeat (first
    | (((with_reducible refine Sy.is_op ?_); refine Sy.st_pure T (h := ?_); clear T; intro ac T))
    | ((with_reducible refine Sy.is_cond ?_); (refine Sy.st_false T (h := ?_)))
    | (with_reducible refine wpList_nil ?_)
    | (with_reducible refine wp_region_lit ?_)
    | (with_reducible refine wp_exit ?_)
    | ((with_reducible refine wp_seq_k ?_); intro _ _)
    | (go_at_K; go_step)
    | (simp only [Exit.then, Exit.inBlock, ↓reduceIte, Nat.reduceEqDiff]))
    refine Sy.st_callV0 T F (hc := awake_any _) (h := ?_); (clear T F; intro ac w T F)
    repeat (first
    | (((with_reducible refine Sy.is_op ?_); refine Sy.st_pure T (h := ?_); clear T; intro ac T))
    | (with_reducible refine wpList_nil ?_)
    | (with_reducible refine wp_ret ?_)
    | (go_at_K; go_step)
    | (simp only [Exit.then, Exit.inBlock, ↓reduceIte, Nat.reduceEqDiff]))
    ((try simp only [Exit.inBlock, Exit.then]); refine Sy.st_ret1 T F rfl (by repeat (first | exact Sy.ResV.nil | apply Sy.ResV.tmp rfl | apply Sy.ResV.row rfl rfl rfl (by repeat (first | exact Sy.Take.here | apply Sy.Take.there)) (by rfl) | apply Sy.ResV.one rfl rfl rfl (by repeat (first | exact Sy.Take.here | apply Sy.Take.there)) (by rfl))) ?_)
    exact F.retV _
  have z1 : decide ((k : Int) < (l.length : Int)) = true := decide_eq_true (by omega)
  have z2 := Rg.i64_up hlt hl.1
  have z3 : IntKind.u64.wrap (k : Int) = (k : Int) := u64_wrap (by omega) (by omega)
  have z4 : IntKind.u64.wrap ((count : Int) + (k : Int)) = ((count + k : Nat) : Int) := by rw [u64_wrap (by omega) (by omega)]; omega
  obtain ⟨lb, lo, row, hla, hrl, hat, hrow⟩ := rows_get (rows_sub (w := w0) (w' := mm) (R := OpR) (fun _ _ h => h) h0S hl) hlt
  obtain ⟨rfl, hok⟩ := hrow
  have ht' := ht.sub h0S
  subst hla
  repeat (first
    | (((with_reducible refine Sy.is_op ?_); refine Sy.st_pure T (h := ?_); clear T; intro ac T))
    | ((with_reducible refine Sy.is_cond ?_); (refine Sy.st_true T (h := ?_)))
    | (with_reducible refine wpList_nil ?_)
    | (with_reducible refine wp_region_lit ?_)
    | (with_reducible refine wp_block ?_)
    | (with_reducible refine wp_skip ?_)
    | ((with_reducible refine wp_seq_k ?_); intro _ _)
    | (go_at_K; go_step)
    | (simp only [Exit.then, Exit.inBlock, ↓reduceIte, Nat.reduceEqDiff])
    | ((with_reducible refine Sy.is_drawn (id := 7) ?_); refine Sy.sx_region F [] (.t 0 (.t 1 (.t 2 (.t 3 (.t 4 (.t 5 (.t 6 (.t 7 (.t 8 (.t 9 (.h 10 (.t 11 .e)))))))))))) [] (by kernel_rfl) ?_; (clear F; intro w F))
    | ((refine Sy.sx_plain (h := ?_)); (first
    | ((with_reducible refine Sy.ux_load ?_); (first
    | refine Sy.sx_val (Sy.rx_loadAll T F) T rfl ?_
    | refine Sy.sx_val (Sy.rx_oldAgg T F) T rfl ?_); clear T; intro ac T)
    | (refine Sy.sx_pure T (h := ?_); clear T; intro ac T)); show Sy.wpUx _ _ _ _ _ _ _ _ _))
  by_cases hRk : Right07 t x l[k] (count + k)
  case neg =>
    have G := right_any w t ta tc (ht'.sub F.sub) x q (hx.sub F.sub) hsx l[k] (count + k) false ⟨fun k => (by cases k), fun k => absurd k hRk⟩; refine Sy.sx_callV0 rfl T F (hc := G) (h := ?_); (clear T F G; intro ac w T F)
    repeat (first
    | (((with_reducible refine Sy.is_op ?_); refine Sy.st_pure T (h := ?_); clear T; intro ac T))
    | ((with_reducible refine Sy.is_cond ?_); (refine Sy.st_true T (h := ?_)))
    | (with_reducible refine wpList_nil ?_)
    | (with_reducible refine wp_region_lit ?_)
    | (with_reducible refine wp_exit ?_)
    | (go_at_K; go_step)
    | (simp only [Exit.then, Exit.inBlock, ↓reduceIte, Nat.reduceEqDiff])
    | ((refine Sy.sx_plain (h := ?_)); ((refine Sy.sx_pure T (h := ?_); clear T; intro ac T)); show Sy.wpUx _ _ _ _ _ _ _ _ _)
    | (with_reducible refine Sy.sx_nil ?_)
    | (with_reducible refine Sy.sx_end ?_))
    exact Sy.handed hJ (k := l.length - (k + 1)) (by omega) ⟨k + 1, x, q, mm, rfl, by omega, h0S, hx, hsx, (T.part (by repeat (first | exact Sy.Part.nil | apply Sy.Part.cons rfl))), (F.sel (by repeat (first | exact Sy.Sel.nil | apply Sy.Sel.cons (by repeat (first | exact Sy.Take.here | apply Sy.Take.there)))))⟩
  have G := right_any w t ta tc (ht'.sub F.sub) x q (hx.sub F.sub) hsx l[k] (count + k) true ⟨fun _ => hRk, fun _ => rfl⟩; refine Sy.sx_callV0 rfl T F (hc := G) (h := ?_); (clear T F G; intro ac w T F)
  obtain ⟨hmk, hpx, htm, ck0⟩ := right_parts hRk
  obtain ⟨n, hn⟩ := tab_nat htm
  repeat (first
    | ((with_reducible refine Sy.is_cond ?_); (refine Sy.st_false T (h := ?_)))
    | (with_reducible refine wp_skip ?_)
    | ((with_reducible refine wp_seq_k ?_); intro _ _)
    | (go_at_K; go_step)
    | (simp only [Exit.then, Exit.inBlock, ↓reduceIte, Nat.reduceEqDiff])
    | ((refine Sy.sx_plain (h := ?_)); ((refine Sy.sx_pure T (h := ?_); clear T; intro ac T)); show Sy.wpUx _ _ _ _ _ _ _ _ _)
    | (with_reducible refine Sy.sx_nil ?_)
    | (with_reducible refine Sy.sx_end ?_))
  have hpy := apply_pg htm hpx l[k] hmk (count + k) n ck0 hn
  have hcw := fun hk1 => cells_law (t := t) (r := x) (o := l[k]) (count := count + k) (n := n) hk1
  have hgd := good_of hpx hmk hok htm ck0 (show U64 (count + k) by unfold U64; omega) hx.last hn
  have G1 := fun w hs => apply_any w mm hs t ta tc ht' x q hx l[k] (count + k) n hgd
  generalize applyR t x l[k] (count + k) n = A at *
  obtain ⟨y, yr⟩ := A
  replace hpy : PG t y := hpy
  replace hcw : x.kind = 1 → ((y.kind = 1 → x.last ≤ y.last) ∧ ∀ c ∈ y.out, c ∈ x.out ∨ x.last < c.n) := hcw
  rename ∀ (a : Act) (w : World), Code.wp _ (Code.seq (Code.seq (Code.region 9 _ _) _) _) _ a w → _ => hK9
  have H9 := Sy.cutP (I := fun ac w => ∃ m' q2 g11, Sub mm m' ∧ RegAt m' y q2 ∧ Sy.Tm ac 145 [(2, .slice (some ⟨lb, lo, none⟩) l.length lc), (3, .int .u64 (count : Int)), (4, .pointer (some ⟨b4, 0, none⟩)), (9, .pointer (some ⟨b9, 0, none⟩)), (10, .int .i64 (k : Int)), (11, .pointer (some ⟨g11, 0, none⟩)), (13, .int .i64 0)] ∧ Sy.Mem ⟨w0, [], w0⟩ m' [⟨g11, regCs y q2, 51⟩, ⟨b9, regCs x q, 51⟩, ⟨b4, tabCs t ta tc, 24⟩] w) hK9 (by
    clear T F
    intro ac w hI
    obtain ⟨m', q2, g11, hS1, hy, T, F⟩ := hI
    clear hK9 G1
    replace hx := hx.sub hS1
    obtain ⟨xva, xvc, xda, xdc, xoa, xoc, xma, xmc⟩ := q
    obtain ⟨yva, yvc, yda, ydc, yoa, yoc, yma, ymc⟩ := q2
    (with_reducible refine wp_seq_k ?_); intro K11 hK11
    have H11 := Sy.cutP (I := fun ac w => Sy.Tm ac 145 [(2, .slice (some ⟨lb, lo, none⟩) l.length lc), (3, .int .u64 (count : Int)), (4, .pointer (some ⟨b4, 0, none⟩)), (9, .pointer (some ⟨b9, 0, none⟩)), (10, .int .i64 (k : Int)), (11, .pointer (some ⟨g11, 0, none⟩))] ∧ Sy.Mem ⟨w0, [], w0⟩ m' [⟨g11, regCs y ⟨yva, yvc, yda, ydc, yoa, yoc, yma, ymc⟩, 51⟩, ⟨b9, regCs x ⟨xva, xvc, xda, xdc, xoa, xoc, xma, xmc⟩, 51⟩, ⟨b4, tabCs t ta tc, 24⟩] w) hK11 (by
      clear T F hK11
      intro ac w hI
      obtain ⟨T, F⟩ := hI
      have hxl : x.out.length ≤ 50 := hsx.o
      have hyl : y.out.length ≤ 8 := (may_LG hpy.1).o
      repeat (first
    | (((with_reducible refine Sy.is_op ?_); refine Sy.st_pure T (h := ?_); clear T; intro ac T))
    | (with_reducible refine wpList_nil ?_)
    | (with_reducible refine wp_region_lit ?_)
    | (with_reducible refine wp_block ?_)
    | ((with_reducible refine wp_seq_k ?_); intro _ _)
    | (go_at_K; go_step)
    | (simp only [Exit.then, Exit.inBlock, ↓reduceIte, Nat.reduceEqDiff]))
      refine wp_loop_ghost_k (fun n0 ac w' => ∃ j, n0 = y.out.length - j ∧ j ≤ y.out.length ∧ Sy.Tm ac 145 [(2, .slice (some ⟨lb, lo, none⟩) l.length lc), (3, .int .u64 (count : Int)), (4, .pointer (some ⟨b4, 0, none⟩)), (9, .pointer (some ⟨b9, 0, none⟩)), (10, .int .i64 (k : Int)), (11, .pointer (some ⟨g11, 0, none⟩)), (14, .int .i64 (j : Int))] ∧ Sy.Mem ⟨w0, [], w0⟩ m' [⟨g11, regCs y ⟨yva, yvc, yda, ydc, yoa, yoc, yma, ymc⟩, 51⟩, ⟨b9, regCs x ⟨xva, xvc, xda, xdc, xoa, xoc, xma, xmc⟩, 51⟩, ⟨b4, tabCs t ta tc, 24⟩] w') y.out.length ?_ ?_
      · exact ⟨0, rfl, Nat.zero_le _, (T.part (by repeat (first | exact Sy.Part.nil | apply Sy.Part.cons rfl))), (F.sel (by repeat (first | exact Sy.Sel.nil | apply Sy.Sel.cons (by repeat (first | exact Sy.Take.here | apply Sy.Take.there)))))⟩
      clear T F
      intro n0 ac w hI J2 K2 hJ2 hK2
      obtain ⟨j, rfl, hj, T, F⟩ := hI
      by_cases hjl : j < y.out.length
      case neg =>
        obtain rfl : j = y.out.length := by omega
        have v1 : decide ((y.out.length : Int) < (y.out.length : Int)) = false := decide_eq_false (by omega)
        repeat (first
    | (((with_reducible refine Sy.is_load ?_); (first
    | refine Sy.st_loadOne T F (h := ?_)
    | refine Sy.st_loadAll T F (h := ?_)); clear T; intro ac T))
    | (((with_reducible refine Sy.is_store ?_); (refine Sy.st_storeAll T F (h := ?_)); clear T F; intro ac w T F))
    | (((with_reducible refine Sy.is_op ?_); refine Sy.st_pure T (h := ?_); clear T; intro ac T))
    | ((with_reducible refine Sy.is_cond ?_); (refine Sy.st_false T (h := ?_)))
    | (with_reducible refine wpList_nil ?_)
    | (with_reducible refine wp_region_lit ?_)
    | (with_reducible refine wp_exit ?_)
    | ((with_reducible refine wp_seq_k ?_); intro _ _)
    | (go_at_K; go_step)
    | (simp only [Exit.then, Exit.inBlock, ↓reduceIte, Nat.reduceEqDiff]))
        exact Sy.handed hJ (k := l.length - (k + 1)) (by omega) ⟨k + 1, y, ⟨yva, yvc, yda, ydc, yoa, yoc, yma, ymc⟩, m', rfl, by omega, h0S.trans hS1, hy, Rg.short_of (may_great hpy.1), (T.part (by repeat (first | exact Sy.Part.nil | apply Sy.Part.cons rfl))), (F.sel (by repeat (first | exact Sy.Sel.nil | apply Sy.Sel.cons (by repeat (first | exact Sy.Take.here | apply Sy.Take.there)))))⟩
      have v1 : decide ((j : Int) < (y.out.length : Int)) = true := decide_eq_true (by omega)
      have v2 : IntKind.i64.wrap ((j : Int) + 1) = ((j + 1 : Nat) : Int) := by rw [Rg.i64_wrap (by omega) (by omega)]; omega
      obtain ⟨yb, yo, yrow, hya, hyrl, hyat, hyrow⟩ := rows_get hy.out hjl
      obtain ⟨rfl, -⟩ := hyrow
      replace hya : yoa = _ := hya
      subst hya
      have hcj := fun hk1 => (hcw hk1).2 y.out[j] (List.getElem_mem hjl)
      repeat (first
    | (((with_reducible refine Sy.is_load ?_); (refine Sy.st_loadOne T F (h := ?_)); clear T; intro ac T))
    | (((with_reducible refine Sy.is_op ?_); refine Sy.st_pure T (h := ?_); clear T; intro ac T))
    | ((with_reducible refine Sy.is_cond ?_); (refine Sy.st_true T (h := ?_)))
    | (with_reducible refine wpList_nil ?_)
    | (with_reducible refine wp_region_lit ?_)
    | (with_reducible refine wp_block ?_)
    | (with_reducible refine wp_skip ?_)
    | ((with_reducible refine wp_seq_k ?_); intro _ _)
    | (go_at_K; go_step)
    | (simp only [Exit.then, Exit.inBlock, ↓reduceIte, Nat.reduceEqDiff]))
      refine wp_loop_ghost_k (fun n0 ac w' => ∃ i b, n0 = x.out.length - i ∧ i ≤ x.out.length ∧ b = hasC x.out y.out[j] i ∧ Sy.Tm ac 145 [(2, .slice (some ⟨lb, lo, none⟩) l.length lc), (3, .int .u64 (count : Int)), (4, .pointer (some ⟨b4, 0, none⟩)), (9, .pointer (some ⟨b9, 0, none⟩)), (10, .int .i64 (k : Int)), (11, .pointer (some ⟨g11, 0, none⟩)), (14, .int .i64 (j : Int)), (15, .bool b), (16, .int .i64 (i : Int))] ∧ Sy.Mem ⟨w0, [], w0⟩ m' [⟨g11, regCs y ⟨yva, yvc, yda, ydc, some ⟨yb, yo, none⟩, yoc, yma, ymc⟩, 51⟩, ⟨b9, regCs x ⟨xva, xvc, xda, xdc, xoa, xoc, xma, xmc⟩, 51⟩, ⟨b4, tabCs t ta tc, 24⟩] w') x.out.length ?_ ?_
      · exact ⟨0, false, rfl, Nat.zero_le _, rfl, (T.part (by repeat (first | exact Sy.Part.nil | apply Sy.Part.cons rfl))), (F.sel (by repeat (first | exact Sy.Sel.nil | apply Sy.Sel.cons (by repeat (first | exact Sy.Take.here | apply Sy.Take.there)))))⟩
      clear T F
      intro n0 ac w hI J3 K3 hJ3 hK3
      obtain ⟨i, b, rfl, hi, hb, T, F⟩ := hI
      by_cases hil : i < x.out.length
      · have u1 : decide ((i : Int) < (x.out.length : Int)) = true := decide_eq_true (by omega)
        have u2 : IntKind.i64.wrap ((i : Int) + 1) = ((i + 1 : Nat) : Int) := by rw [Rg.i64_wrap (by omega) (by omega)]; omega
        have hup := hasC_up (c := y.out[j]) hil
        rw [← hb] at hup
        cases b with
        | true =>
          repeat (first
    | (((with_reducible refine Sy.is_load ?_); (refine Sy.st_loadOne T F (h := ?_)); clear T; intro ac T))
    | (((with_reducible refine Sy.is_op ?_); refine Sy.st_pure T (h := ?_); clear T; intro ac T))
    | ((with_reducible refine Sy.is_cond ?_); (refine Sy.st_true T (h := ?_)))
    | (with_reducible refine wpList_nil ?_)
    | (with_reducible refine wp_region_lit ?_)
    | (with_reducible refine wp_block ?_)
    | (with_reducible refine wp_skip ?_)
    | ((with_reducible refine wp_seq_k ?_); intro _ _)
    | (go_at_K; go_step)
    | (simp only [Exit.then, Exit.inBlock, ↓reduceIte, Nat.reduceEqDiff])
    | ((with_reducible refine Sy.is_drawn (id := 18) ?_); refine Sy.sx_region F [] (.t 0 (.t 1 (.t 2 (.t 3 (.t 4 (.t 5 (.t 6 (.t 7 (.t 8 (.t 9 (.t 10 (.t 11 (.t 12 (.t 13 (.t 14 .e))))))))))))))) [] (by kernel_rfl) ?_; (clear F; intro w F))
    | ((refine Sy.sx_plain (h := ?_)); ((refine Sy.sx_pure T (h := ?_); clear T; intro ac T)); show Sy.wpUx _ _ _ _ _ _ _ _ _)
    | ((refine Sy.sx_unguard (T := T) (h := ?_)); clear T; intro ac T)
    | (with_reducible refine Sy.sx_nil ?_)
    | (with_reducible refine Sy.sx_end ?_))
          exact Sy.handed hJ3 (k := x.out.length - (i + 1)) (by omega) ⟨i + 1, true, rfl, by omega, by rw [hup]; rfl, (T.part (by repeat (first | exact Sy.Part.nil | apply Sy.Part.cons rfl))), (F.sel (by repeat (first | exact Sy.Sel.nil | apply Sy.Sel.cons (by repeat (first | exact Sy.Take.here | apply Sy.Take.there)))))⟩
        | false =>
          obtain ⟨xb, xo, xrow, hxa, hxrl, hxat, hxrow⟩ := rows_get hx.out hil
          obtain ⟨rfl, -⟩ := hxrow
          have hcmp := cellCmp x.out[i] y.out[j]
          generalize decide (x.out[i] = y.out[j]) = D at *
          replace hxa : xoa = _ := hxa
          subst hxa
          repeat (first
    | (((with_reducible refine Sy.is_load ?_); (refine Sy.st_loadOne T F (h := ?_)); clear T; intro ac T))
    | (((with_reducible refine Sy.is_op ?_); refine Sy.st_pure T (h := ?_); clear T; intro ac T))
    | ((with_reducible refine Sy.is_cond ?_); (refine Sy.st_true T (h := ?_)))
    | (with_reducible refine wpList_nil ?_)
    | (with_reducible refine wp_region_lit ?_)
    | (with_reducible refine wp_block ?_)
    | (with_reducible refine wp_skip ?_)
    | ((with_reducible refine wp_seq_k ?_); intro _ _)
    | (go_at_K; go_step)
    | (simp only [Exit.then, Exit.inBlock, ↓reduceIte, Nat.reduceEqDiff])
    | ((with_reducible refine Sy.is_drawn (id := 18) ?_); refine Sy.sx_region F [] (.t 0 (.t 1 (.t 2 (.t 3 (.t 4 (.t 5 (.t 6 (.t 7 (.t 8 (.t 9 (.t 10 (.t 11 (.t 12 (.t 13 (.t 14 .e))))))))))))))) [] (by kernel_rfl) ?_; (clear F; intro w F))
    | ((first
    | refine Sy.sx_plain (h := ?_)
    | refine Sy.sx_guard (T := T) (h := ?_)); (first
    | ((with_reducible refine Sy.ux_load ?_); (first
    | refine Sy.sx_val (Sy.rx_loadOne T F) T rfl ?_
    | refine Sy.sx_val (Sy.rx_oldAgg T F) T rfl ?_); clear T; intro ac T)
    | (refine Sy.sx_pure T (h := ?_); clear T; intro ac T)); show Sy.wpUx _ _ _ _ _ _ _ _ _)
    | (with_reducible refine Sy.sx_nil ?_)
    | (with_reducible refine Sy.sx_end ?_))
          exact Sy.handed hJ3 (k := x.out.length - (i + 1)) (by omega) ⟨i + 1, D, rfl, by omega, by rw [hup]; rfl, (T.part (by repeat (first | exact Sy.Part.nil | apply Sy.Part.cons rfl))), (F.sel (by repeat (first | exact Sy.Sel.nil | apply Sy.Sel.cons (by repeat (first | exact Sy.Take.here | apply Sy.Take.there)))))⟩
      obtain rfl : i = x.out.length := by omega
      have u1 : decide ((x.out.length : Int) < (x.out.length : Int)) = false := decide_eq_false (by omega)
      cases b with
      | true =>
        repeat (first
    | (((with_reducible refine Sy.is_load ?_); (refine Sy.st_loadOne T F (h := ?_)); clear T; intro ac T))
    | (((with_reducible refine Sy.is_op ?_); refine Sy.st_pure T (h := ?_); clear T; intro ac T))
    | ((with_reducible refine Sy.is_cond ?_); (refine Sy.st_false T (h := ?_)))
    | (with_reducible refine wpList_nil ?_)
    | (with_reducible refine wp_region_lit ?_)
    | (with_reducible refine wp_skip ?_)
    | (with_reducible refine wp_exit ?_)
    | ((with_reducible refine wp_seq_k ?_); intro _ _)
    | (go_at_K; go_step)
    | (simp only [Exit.then, Exit.inBlock, ↓reduceIte, Nat.reduceEqDiff])
    | ((with_reducible refine Sy.is_drawn (id := 19) ?_); refine Sy.sx_region F [] (.t 0 (.t 1 (.t 2 (.t 3 (.t 4 (.t 5 (.t 6 (.t 7 (.t 8 (.t 9 (.t 10 (.t 11 (.t 12 (.t 13 (.t 14 (.t 15 (.t 16 (.t 17 (.t 18 (.t 19 (.t 20 (.t 21 (.t 22 (.t 23 (.t 24 .e))))))))))))))))))))))))) [] (by kernel_rfl) ?_; (clear F; intro w F))
    | ((refine Sy.sx_plain (h := ?_)); ((refine Sy.sx_pure T (h := ?_); clear T; intro ac T)); show Sy.wpUx _ _ _ _ _ _ _ _ _)
    | ((refine Sy.sx_unguard (T := T) (h := ?_)); clear T; intro ac T)
    | (with_reducible refine Sy.sx_nil ?_)
    | (with_reducible refine Sy.sx_end ?_))
        exact Sy.handed hJ2 (k := y.out.length - (j + 1)) (by omega) ⟨j + 1, rfl, by omega, (T.part (by repeat (first | exact Sy.Part.nil | apply Sy.Part.cons rfl))), (F.sel (by repeat (first | exact Sy.Sel.nil | apply Sy.Sel.cons (by repeat (first | exact Sy.Take.here | apply Sy.Take.there)))))⟩
      | false =>
        have hno : ¬ y.out[j] ∈ x.out := fun hm => by
          have := hasC_all.2 hm
          rw [← hb] at this
          cases this
        by_cases c1 : x.kind = 1
        case neg =>
          have e1 := eqF (a := (x.kind : Int)) (b := 1) (by omega)
          repeat (first
    | (((with_reducible refine Sy.is_load ?_); (refine Sy.st_loadOne T F (h := ?_)); clear T; intro ac T))
    | (((with_reducible refine Sy.is_op ?_); refine Sy.st_pure T (h := ?_); clear T; intro ac T))
    | ((with_reducible refine Sy.is_cond ?_); (refine Sy.st_false T (h := ?_)))
    | (with_reducible refine wpList_nil ?_)
    | (with_reducible refine wp_region_lit ?_)
    | (with_reducible refine wp_skip ?_)
    | (with_reducible refine wp_exit ?_)
    | ((with_reducible refine wp_seq_k ?_); intro _ _)
    | (go_at_K; go_step)
    | (simp only [Exit.then, Exit.inBlock, ↓reduceIte, Nat.reduceEqDiff])
    | ((with_reducible refine Sy.is_drawn (id := 19) ?_); refine Sy.sx_region F [] (.t 0 (.t 1 (.t 2 (.t 3 (.t 4 (.t 5 (.t 6 (.t 7 (.t 8 (.t 9 (.t 10 (.t 11 (.t 12 (.t 13 (.t 14 (.t 15 (.t 16 (.t 17 (.t 18 (.t 19 (.t 20 (.t 21 (.t 22 (.t 23 (.t 24 .e))))))))))))))))))))))))) [] (by kernel_rfl) ?_; (clear F; intro w F))
    | ((first
    | refine Sy.sx_plain (h := ?_)
    | refine Sy.sx_guard (T := T) (h := ?_)); (first
    | ((with_reducible refine Sy.ux_load ?_); (refine Sy.sx_val (Sy.rx_loadOne T F) T rfl ?_); clear T; intro ac T)
    | (refine Sy.sx_pure T (h := ?_); clear T; intro ac T)); show Sy.wpUx _ _ _ _ _ _ _ _ _)
    | ((refine Sy.sx_unguard (T := T) (h := ?_)); clear T; intro ac T)
    | (with_reducible refine Sy.sx_nil ?_)
    | (with_reducible refine Sy.sx_end ?_))
          exact Sy.handed hJ2 (k := y.out.length - (j + 1)) (by omega) ⟨j + 1, rfl, by omega, (T.part (by repeat (first | exact Sy.Part.nil | apply Sy.Part.cons rfl))), (F.sel (by repeat (first | exact Sy.Sel.nil | apply Sy.Sel.cons (by repeat (first | exact Sy.Take.here | apply Sy.Take.there)))))⟩
        have e1 := eqT (a := (x.kind : Int)) (b := 1) (by omega)
        by_cases c2 : x.inc = y.inc
        case neg =>
          have e2 := eqF (a := (x.inc : Int)) (b := (y.inc : Int)) (by omega)
          repeat (first
    | (((with_reducible refine Sy.is_load ?_); (refine Sy.st_loadOne T F (h := ?_)); clear T; intro ac T))
    | (((with_reducible refine Sy.is_op ?_); refine Sy.st_pure T (h := ?_); clear T; intro ac T))
    | ((with_reducible refine Sy.is_cond ?_); (refine Sy.st_false T (h := ?_)))
    | (with_reducible refine wpList_nil ?_)
    | (with_reducible refine wp_region_lit ?_)
    | (with_reducible refine wp_skip ?_)
    | (with_reducible refine wp_exit ?_)
    | ((with_reducible refine wp_seq_k ?_); intro _ _)
    | (go_at_K; go_step)
    | (simp only [Exit.then, Exit.inBlock, ↓reduceIte, Nat.reduceEqDiff])
    | ((with_reducible refine Sy.is_drawn (id := 19) ?_); refine Sy.sx_region F [] (.t 0 (.t 1 (.t 2 (.t 3 (.t 4 (.t 5 (.t 6 (.t 7 (.t 8 (.t 9 (.t 10 (.t 11 (.t 12 (.t 13 (.t 14 (.t 15 (.t 16 (.t 17 (.t 18 (.t 19 (.t 20 (.t 21 (.t 22 (.t 23 (.t 24 .e))))))))))))))))))))))))) [] (by kernel_rfl) ?_; (clear F; intro w F))
    | ((first
    | refine Sy.sx_plain (h := ?_)
    | refine Sy.sx_guard (T := T) (h := ?_)); (first
    | ((with_reducible refine Sy.ux_load ?_); (refine Sy.sx_val (Sy.rx_loadOne T F) T rfl ?_); clear T; intro ac T)
    | (refine Sy.sx_pure T (h := ?_); clear T; intro ac T)); show Sy.wpUx _ _ _ _ _ _ _ _ _)
    | ((refine Sy.sx_unguard (T := T) (h := ?_)); clear T; intro ac T)
    | (with_reducible refine Sy.sx_nil ?_)
    | (with_reducible refine Sy.sx_end ?_))
          exact Sy.handed hJ2 (k := y.out.length - (j + 1)) (by omega) ⟨j + 1, rfl, by omega, (T.part (by repeat (first | exact Sy.Part.nil | apply Sy.Part.cons rfl))), (F.sel (by repeat (first | exact Sy.Sel.nil | apply Sy.Sel.cons (by repeat (first | exact Sy.Take.here | apply Sy.Take.there)))))⟩
        have e2 := eqT (a := (x.inc : Int)) (b := (y.inc : Int)) (by omega)
        have e3 : decide ((y.out[j].n : Int) ≤ (x.last : Int)) = false := decide_eq_false (by
          rcases hcj c1 with hm | hm
          · exact absurd hm hno
          · omega)
        repeat (first
    | (((with_reducible refine Sy.is_load ?_); (refine Sy.st_loadOne T F (h := ?_)); clear T; intro ac T))
    | (((with_reducible refine Sy.is_op ?_); refine Sy.st_pure T (h := ?_); clear T; intro ac T))
    | ((with_reducible refine Sy.is_cond ?_); (refine Sy.st_false T (h := ?_)))
    | (with_reducible refine wpList_nil ?_)
    | (with_reducible refine wp_region_lit ?_)
    | (with_reducible refine wp_skip ?_)
    | (with_reducible refine wp_exit ?_)
    | ((with_reducible refine wp_seq_k ?_); intro _ _)
    | (go_at_K; go_step)
    | (simp only [Exit.then, Exit.inBlock, ↓reduceIte, Nat.reduceEqDiff])
    | ((with_reducible refine Sy.is_drawn (id := 19) ?_); refine Sy.sx_region F [] (.t 0 (.t 1 (.t 2 (.t 3 (.t 4 (.t 5 (.t 6 (.t 7 (.t 8 (.t 9 (.t 10 (.t 11 (.t 12 (.t 13 (.t 14 (.t 15 (.t 16 (.t 17 (.t 18 (.t 19 (.t 20 (.t 21 (.t 22 (.t 23 (.t 24 .e))))))))))))))))))))))))) [] (by kernel_rfl) ?_; (clear F; intro w F))
    | ((first
    | refine Sy.sx_plain (h := ?_)
    | refine Sy.sx_guard (T := T) (h := ?_)); (first
    | ((with_reducible refine Sy.ux_load ?_); (first
    | refine Sy.sx_val (Sy.rx_loadOne T F) T rfl ?_
    | refine Sy.sx_val (Sy.rx_oldOne T F) T rfl ?_); clear T; intro ac T)
    | (refine Sy.sx_pure T (h := ?_); clear T; intro ac T)); show Sy.wpUx _ _ _ _ _ _ _ _ _)
    | (with_reducible refine Sy.sx_nil ?_)
    | (with_reducible refine Sy.sx_end ?_))
        exact Sy.handed hJ2 (k := y.out.length - (j + 1)) (by omega) ⟨j + 1, rfl, by omega, (T.part (by repeat (first | exact Sy.Part.nil | apply Sy.Part.cons rfl))), (F.sel (by repeat (first | exact Sy.Sel.nil | apply Sy.Sel.cons (by repeat (first | exact Sy.Take.here | apply Sy.Take.there)))))⟩)
    clear hK11
    by_cases c2 : y.kind = 1
    case neg =>
      have f1 := eqF (a := (y.kind : Int)) (b := 1) (by omega)
      repeat (first
    | (((with_reducible refine Sy.is_guard ?_); (first
    | refine Sy.st_guard T (h := ?_)
    | (refine Sy.st_unguard T (h := ?_); clear T; intro ac T))))
    | (((with_reducible refine Sy.is_load ?_); (refine Sy.st_loadOne T F (h := ?_)); clear T; intro ac T))
    | (((with_reducible refine Sy.is_op ?_); refine Sy.st_pure T (h := ?_); clear T; intro ac T))
    | ((with_reducible refine Sy.is_cond ?_); (refine Sy.st_false T (h := ?_)))
    | (with_reducible refine wpList_nil ?_)
    | (with_reducible refine wp_region_lit ?_)
    | (with_reducible refine wp_skip ?_)
    | ((with_reducible refine wp_seq_k ?_); intro _ _)
    | (go_at_K; go_step)
    | (simp only [Exit.then, Exit.inBlock, ↓reduceIte, Nat.reduceEqDiff]))
      exact ⟨(T.part (by repeat (first | exact Sy.Part.nil | apply Sy.Part.cons rfl))), (F.sel (by repeat (first | exact Sy.Sel.nil | apply Sy.Sel.cons (by repeat (first | exact Sy.Take.here | apply Sy.Take.there)))))⟩
    have f1 := eqT (a := (y.kind : Int)) (b := 1) (by omega)
    by_cases c3 : y.inc = x.inc
    case neg =>
      have f2 := eqF (a := (y.inc : Int)) (b := (x.inc : Int)) (by omega)
      repeat (first
    | (((with_reducible refine Sy.is_guard ?_); (first
    | refine Sy.st_guard T (h := ?_)
    | (refine Sy.st_unguard T (h := ?_); clear T; intro ac T))))
    | (((with_reducible refine Sy.is_load ?_); (refine Sy.st_loadOne T F (h := ?_)); clear T; intro ac T))
    | (((with_reducible refine Sy.is_op ?_); refine Sy.st_pure T (h := ?_); clear T; intro ac T))
    | ((with_reducible refine Sy.is_cond ?_); (refine Sy.st_false T (h := ?_)))
    | (with_reducible refine wpList_nil ?_)
    | (with_reducible refine wp_region_lit ?_)
    | (with_reducible refine wp_skip ?_)
    | ((with_reducible refine wp_seq_k ?_); intro _ _)
    | (go_at_K; go_step)
    | (simp only [Exit.then, Exit.inBlock, ↓reduceIte, Nat.reduceEqDiff]))
      exact ⟨(T.part (by repeat (first | exact Sy.Part.nil | apply Sy.Part.cons rfl))), (F.sel (by repeat (first | exact Sy.Sel.nil | apply Sy.Sel.cons (by repeat (first | exact Sy.Take.here | apply Sy.Take.there)))))⟩
    have f2 := eqT (a := (y.inc : Int)) (b := (x.inc : Int)) (by omega)
    by_cases c1 : x.kind = 1
    case neg =>
      have f3 := eqF (a := (x.kind : Int)) (b := 1) (by omega)
      repeat (first
    | (((with_reducible refine Sy.is_guard ?_); (first
    | refine Sy.st_guard T (h := ?_)
    | (refine Sy.st_unguard T (h := ?_); clear T; intro ac T))))
    | (((with_reducible refine Sy.is_load ?_); (refine Sy.st_loadOne T F (h := ?_)); clear T; intro ac T))
    | (((with_reducible refine Sy.is_op ?_); refine Sy.st_pure T (h := ?_); clear T; intro ac T))
    | ((with_reducible refine Sy.is_cond ?_); (refine Sy.st_false T (h := ?_)))
    | (with_reducible refine wpList_nil ?_)
    | (with_reducible refine wp_region_lit ?_)
    | (with_reducible refine wp_skip ?_)
    | ((with_reducible refine wp_seq_k ?_); intro _ _)
    | (go_at_K; go_step)
    | (simp only [Exit.then, Exit.inBlock, ↓reduceIte, Nat.reduceEqDiff]))
      exact ⟨(T.part (by repeat (first | exact Sy.Part.nil | apply Sy.Part.cons rfl))), (F.sel (by repeat (first | exact Sy.Sel.nil | apply Sy.Sel.cons (by repeat (first | exact Sy.Take.here | apply Sy.Take.there)))))⟩
    have f3 := eqT (a := (x.kind : Int)) (b := 1) (by omega)
    have f4 : decide ((y.last : Int) < (x.last : Int)) = false := decide_eq_false (by have := (hcw c1).1 c2; omega)
    repeat (first
    | (((with_reducible refine Sy.is_guard ?_); (refine Sy.st_guard T (h := ?_))))
    | (((with_reducible refine Sy.is_load ?_); (refine Sy.st_loadOne T F (h := ?_)); clear T; intro ac T))
    | (((with_reducible refine Sy.is_op ?_); refine Sy.st_pure T (h := ?_); clear T; intro ac T))
    | ((with_reducible refine Sy.is_cond ?_); (refine Sy.st_false T (h := ?_)))
    | (with_reducible refine wpList_nil ?_)
    | (with_reducible refine wp_region_lit ?_)
    | (with_reducible refine wp_skip ?_)
    | ((with_reducible refine wp_seq_k ?_); intro _ _)
    | (go_at_K; go_step)
    | (simp only [Exit.then, Exit.inBlock, ↓reduceIte, Nat.reduceEqDiff]))
    exact ⟨(T.part (by repeat (first | exact Sy.Part.nil | apply Sy.Part.cons rfl))), (F.sel (by repeat (first | exact Sy.Sel.nil | apply Sy.Sel.cons (by repeat (first | exact Sy.Take.here | apply Sy.Take.there)))))⟩)
  clear hK9
  repeat (first
    | ((with_reducible refine Sy.is_drawn (id := 8) ?_); refine Sy.sx_region F [] (.t 0 (.t 1 (.t 2 (.t 3 (.t 4 (.t 5 (.t 6 (.t 7 (.t 8 (.t 9 (.g 10 (.t 11 (.t 12 (.t 13 (.t 14 (.f 15 (.h 16 (.h 17 (.h 18 (.t 19 .e)))) 16 (.h 15 (.h 17 (.h 18 (.t 19 .e))))))))) 15 (.f 10 (.t 11 (.t 12 (.t 13 (.t 14 (.h 16 (.h 17 (.h 18 (.t 19 .e)))))))) 16 (.h 10 (.t 11 (.t 12 (.t 13 (.t 14 (.h 17 (.h 18 (.t 19 .e))))))))) 16 (.f 10 (.t 11 (.t 12 (.t 13 (.t 14 (.h 15 (.h 17 (.h 18 (.t 19 .e)))))))) 15 (.h 10 (.t 11 (.t 12 (.t 13 (.t 14 (.h 17 (.h 18 (.t 19 .e)))))))))))))))))))) [] (by kernel_rfl) ?_; (clear F; intro w F))
    | ((refine Sy.sx_plain (h := ?_)); (first
    | ((with_reducible refine Sy.ux_load ?_); (first
    | refine Sy.sx_val (Sy.rx_loadAll T F) T rfl ?_
    | refine Sy.sx_val (Sy.rx_oldAgg T F) T rfl ?_); clear T; intro ac T)
    | (refine Sy.sx_pure T (h := ?_); clear T; intro ac T)); show Sy.wpUx _ _ _ _ _ _ _ _ _)
    | (with_reducible refine Sy.sx_fork3 ?_ ?_ ?_))
  all_goals
    repeat (first
    | ((refine Sy.sx_newX (i := 15) (T := T) (F := F) (hr := Sy.new_alloc rfl) (h := ?_)); clear T F; intro ac g w T F)
    | ((refine Sy.sx_newX (i := 16) (T := T) (F := F) (hr := Sy.new_alloc rfl) (h := ?_)); clear T F; intro ac g w T F)
    | (with_reducible refine Sy.sx_fork ?_ ?_))
  all_goals
    repeat (first
    | ((refine Sy.sx_newX (i := 15) (T := T) (F := F) (hr := Sy.new_alloc rfl) (h := ?_)); clear T F; intro ac g w T F)
    | ((refine Sy.sx_newX (i := 16) (T := T) (F := F) (hr := Sy.new_alloc rfl) (h := ?_)); clear T F; intro ac g w T F))
  all_goals
    have G := G1 w F.sub; refine Sy.sx_callM0 rfl T F (hc := G) (h := ?_); (clear T F G; intro v m ac w hR hS T F)
    obtain ⟨q2, ax, rfl, hy, hyr⟩ := hR
    repeat (first
    | (go_at_K; go_step)
    | (simp only [Exit.then, Exit.inBlock, ↓reduceIte, Nat.reduceEqDiff])
    | ((refine Sy.sx_newX (i := 15) (T := T) (F := F) (hr := Sy.new_alloc rfl) (h := ?_)); clear T F; intro ac g w T F)
    | ((refine Sy.sx_newX (i := 16) (T := T) (F := F) (hr := Sy.new_alloc rfl) (h := ?_)); clear T F; intro ac g w T F)
    | ((refine Sy.sx_plain (h := ?_)); ((refine Sy.sx_pure T (h := ?_); clear T; intro ac T)); show Sy.wpUx _ _ _ _ _ _ _ _ _)
    | (with_reducible refine Sy.sx_fork ?_ ?_)
    | (with_reducible refine Sy.sx_nil ?_)
    | (with_reducible refine Sy.sx_end ?_)
    | ((refine Sy.sx_storeAll (T := T) (F := F) (h := ?_)); clear T F; intro ac w T F))
  all_goals
    repeat (first
    | (go_at_K; go_step)
    | (simp only [Exit.then, Exit.inBlock, ↓reduceIte, Nat.reduceEqDiff])
    | ((refine Sy.sx_newX (i := 15) (T := T) (F := F) (hr := Sy.new_alloc rfl) (h := ?_)); clear T F; intro ac g w T F)
    | ((refine Sy.sx_newX (i := 16) (T := T) (F := F) (hr := Sy.new_alloc rfl) (h := ?_)); clear T F; intro ac g w T F)
    | ((refine Sy.sx_plain (h := ?_)); ((refine Sy.sx_pure T (h := ?_); clear T; intro ac T)); show Sy.wpUx _ _ _ _ _ _ _ _ _)
    | (with_reducible refine Sy.sx_nil ?_)
    | (with_reducible refine Sy.sx_end ?_)
    | ((refine Sy.sx_storeAll (T := T) (F := F) (h := ?_)); clear T F; intro ac w T F))
  all_goals
    exact ⟨m, q2, _, hS, hy, (T.part (by repeat (first | exact Sy.Part.nil | apply Sy.Part.cons rfl))), (F.sel (by repeat (first | exact Sy.Sel.nil | apply Sy.Sel.cons (by repeat (first | exact Sy.Take.here | apply Sy.Take.there)))))⟩
end En
theorem engineCellsW (w : World) (t : Tb.TabD) (ta : Option Addr) (tc : Nat) (ht : Tb.TabAt w t ta tc) (r : Rg.RegD) (p : Rg.RegA) (h : Rg.RegAt w r p) (la : Option Addr) (lc : Nat) (l : List Rg.OpD) (hl : Rows Rg.OpR 10 w la l) (count : Int) (hc : 0 ≤ count ∧ count ≤ 18446744073709551615) :
    Calls Try.prog 9 #[.agg (Tb.tabCs t ta tc).toArray, .agg (Rg.regCs r p).toArray, .slice la l.length lc, .int .u64 count] w (RetBo w true) := by
  obtain ⟨c, rfl⟩ : ∃ n : Nat, count = (n : Int) := ⟨count.toNat, by omega⟩
  exact En.cells_any w t ta tc ht r p h la lc l hl c (by unfold Rg.U64; omega)
end Go.Proofs.Ytdpmfjbhadapiaa
