/- The walks of the document's num and formula: bytes put behind a slice of the caller's own. Conditions: what is handed in can be read. Printed by a program (gentks.py). -/
import Derived.Test.YtniopkoaplkpkaaTkQ
import Derived.Test.YtniopkoaplkpkaaPkR
namespace Go.Proofs.Ytniopkoaplkpkaa
open Go.RowKit
set_option linter.unusedVariables false
set_option linter.unusedSimpArgs false
namespace Sy
section
variable {E1 : Ext} {c : Cx} {m w w' : World} {bs : List Blk} {e : TypeId} {s n : Nat} {v : Value} {xs : List Value}
/-- memory that stands while the call's own slice is written -/
theorem MemE.subO (F : MemE (SlA E1 e s v n xs) c m bs w) (hb : BelowX ((blk v).toList) w.heap.size w w') : Sub m w' := fun p u hp => by
  have h1 := F.sub p u hp
  have hlt := World.block_lt_of_cell? w _ h1
  rw [World.cell?_of_block (w := w) (hb.block p.block hlt (fun hm => by
    have := (F.loose _ (.inr (Option.mem_toList.1 hm))).2.2 p.off p.spot
    rw [hp] at this
    cases this))]
  exact h1
/-- what a call that is handed a slice to write begins with -/
structure HandO (m w : World) (e : TypeId) (s : Nat) (v : Value) (n : Nat) (xs : List Value) : Prop where
  sub : Sub m w
  none_ : ∀ k, blk v = some k → ∀ i q, m.cell? ⟨k, i, q⟩ = none
  own : Own w 0 e s v n xs
theorem MemE.handO (F : MemE (SlA E1 e s v n xs) c m bs w) : HandO m w e s v n xs := ⟨F.sub, fun k hk => (F.loose k (.inr hk)).2.2, F.ext.2.1⟩
theorem HandO.start (h : HandO m w e s v n xs) : ∃ m', Sub m m' ∧ MemE (SlA E0 e s v n xs) ⟨w, (blk v).toList, m'⟩ m' [] w := by
  obtain ⟨m', h1, h2, F⟩ := Own.startO h.own
  refine ⟨m', fun p u hp => ?_, F⟩
  rw [h1 p (fun hb => by
    have := h.none_ _ hb p.off p.spot
    rw [hp] at this
    cases this)]
  exact h.sub p u hp
end
section
variable {E1 : Ext} {P : Program} {tab : List (Nat × Ty)} {fl : List Nat} {a : Act} {n : Nat} {ts : List (Nat × Value)} {w : World} {ty : TypeId} {pos : String} {af : Array Edge}
  {ops : Array Oper} {Q : Exit → Act → World → Prop} {c : Cx} {m : World} {bs : List Blk} {X : List Nat} {r : Ot} {i : Nat}
/-- a call that writes a slice of the caller's, in a drawn region; what it hands back may be written from now on -/
theorem sx_callOX [S : Seat P tab fl] {d : Nat} {f : FuncId} {args : List Operand} {ats : Array TypeId} {vs : List Value} {e e' : TypeId} {s k s' k' : Nat} {v : Value} {xs xs' : List Value} (hi' : nthO ops i = some ⟨some d, .call { callee := .value (.func f), args := args.toArray, argTypes := ats }, ty, pos, af, none⟩) (T : Tm a n ts) (F : MemE (SlA E1 e s v k xs) c m bs w) (hX : ∀ q, blk v = some q → q ∈ X) (hc : Calls P f vs.toArray w (RetO w v e' s' k' xs'))
    (hfl : fl.contains f = true := by exact rfl) (ha : evs ts args = some vs := by exact rfl) (hd : Nat.blt d n = true := by exact rfl)
    (h : ∀ v' X' a' w', (∀ q, blk v' = some q → q ∈ X') → Tm a' n ((d, v') :: ts) → MemE (SlA E1 e' s' v' k' xs') c m bs w' → wpUx P X' ops Q r w'.heap.size w' a' w') : wpUx P X ops Q (.h i r) w.heap.size w a w := by
  refine sx_holeX hi' rfl fun K hK => wpList_plain rfl fun K' hK' => wp_call (us := []) (ks := []) (R := RetO w v e' s' k' xs') T rfl hfl ha (by simpa using hc) fun en w' ⟨v', he, hg, ho, hb⟩ => ⟨v', he, ?_⟩
  refine hK' _ _ (atK (hK ((blk v').toList ++ X) _ _ (fun q hq => ?_) ⟨hg.os, hg.tape, hg.output, hg.size, fun q hq hqX => hg.block q hq fun hbv => hqX (hX q hbv.symm)⟩ (h _ _ _ _ (fun q hq => List.mem_append_left _ (Option.mem_toList.2 hq)) (T.put (by simpa [Nat.blt_eq] using hd) _) (F.grownO hg ho hb))))
  rcases List.mem_append.1 hq with hq | hq
  · rcases hb q (Option.mem_toList.1 hq) with h1 | h1
    · exact .inl (hX q h1)
    · exact .inr h1
  · exact .inl hq
end
end Sy
namespace Tk
open Sy (RetV RetM Sub HandO RetO)
open Rg (eqT eqF i64_wrap I64 U8 fm_up)
open Pk (numB numB_len zig zig_lt refNumF refIntF)
open Tb (SetD EmitD RuleD TabD SetR EmitR RuleR RuleA RuleAt ruleCs tabCs TabAt)
/-- bytes of the caller's own come back, put behind -/
abbrev RetBO (w : World) (v : Value) (l : List UInt8) : Ending → World → Prop := RetO w v 5 1 l.length (l.map bv)
abbrev HandB (m w : World) (v : Value) (l : List UInt8) : Prop := HandO m w 5 1 v l.length (l.map bv)
theorem own_slice {w : World} {B : Nat} {e : TypeId} {s n : Nat} {v : Value} {xs : List Value} (h : Own w B e s v n xs) : ∃ a cap, v = .slice a n cap := by
  obtain ⟨a, cap, hv, _⟩ := h
  exact ⟨a, cap, hv⟩
set_option maxRecDepth 20000 in
theorem rnum_any (m w : World) {a : Option Addr} {cap : Nat} {l : List UInt8} (h : HandB m w (.slice a l.length cap) l) (n : Nat) (hn : n < 9223372036854775808) (hsl : l.length ≤ 1000000) :
    Calls Try.prog 44 #[.slice a l.length cap, .int .i64 (n : Int)] w (RetBO w (.slice a l.length cap) (l ++ numB n)) := by
  obtain ⟨m', hS0, F⟩ := h.start
  have c1 : IntKind.u64.wrap (n : Int) = (n : Int) := by rw [IntKind.wrap_u64]; omega
  have hn10 := numB_len (n := n) (by omega)
  refine Sy.enter Try.func44 rfl Try.ntmps44 rfl ?_; intro ac T; simp only [Sy.enum, Nat.zero_add, Nat.reduceAdd] at T
  repeat (first
    | (((with_reducible refine Sy.is_op ?_); refine Sy.st_pure T (h := ?_); clear T; intro ac T))
    | (with_reducible refine wpList_nil ?_)
    | (with_reducible refine wp_region_lit ?_)
    | ((with_reducible refine wp_seq_k ?_); intro _ _)
    | (go_at_K; go_step)
    | (simp only [Exit.then, Exit.inBlock, ↓reduceIte, Nat.reduceEqDiff]))
  have G := callsF F.sub (refNumF n (by omega)); refine Sy.st_callM0 T F (hc := G) (h := ?_); (clear T F G; intro v m ac w hR hS T F)
  obtain ⟨ba, bc, rfl, hb1, hb2, hb3, hb4⟩ := hR
  refine Sy.st_appendC T F (k2 := (numB n).length) (cp := bc) (ad := ba) (news := (numB n).map bv) (hb1.sub F.sub).2.2 (by simp) (bv_one _) (hbytes := by show (_ + _) * 1 ≤ _; omega) (h := ?_)
  clear T F; intro ad cap' ac w T F
  rw [← List.map_append, ← List.length_append] at F
  rw [← List.length_append] at T
  repeat (first
    | (((with_reducible refine Sy.is_op ?_); refine Sy.st_pure T (h := ?_); clear T; intro ac T))
    | (with_reducible refine wpList_nil ?_)
    | (with_reducible refine wp_ret ?_)
    | (go_at_K; go_step)
    | (simp only [Exit.then, Exit.inBlock, ↓reduceIte, Nat.reduceEqDiff]))
  ((try simp only [Exit.inBlock, Exit.then]); refine Sy.st_ret1 T F rfl (by repeat (first | exact Sy.ResV.nil | apply Sy.ResV.tmp rfl | apply Sy.ResV.row rfl rfl rfl (by repeat (first | exact Sy.Take.here | apply Sy.Take.there)) (by rfl) | apply Sy.ResV.one rfl rfl rfl (by repeat (first | exact Sy.Take.here | apply Sy.Take.there)) (by rfl))) ?_)
  exact F.retO
set_option maxRecDepth 20000 in
set_option maxHeartbeats 1000000 in
theorem rform_any (m0 w0 : World) {a : Option Addr} {cap : Nat} {l : List UInt8} (h : HandB m0 w0 (.slice a l.length cap) l) {a2 : Option Addr} {c2 : Nat} {ts : List Ex.Tok} (h2 : Ex.Toks m0 a2 ts.length ts) (hok : ToksOk ts) (hsl : l.length ≤ 900000) :
    Calls Try.prog 45 #[.slice a l.length cap, .slice a2 ts.length c2] w0 (RetBO w0 (.slice a l.length cap) (l ++ formB ts)) := by
  obtain ⟨m', hS0, F⟩ := h.start
  replace h2 := h2.sub hS0
  have hl24 := hok.1
  refine Sy.enter Try.func45 rfl Try.ntmps45 rfl ?_; intro ac T; simp only [Sy.enum, Nat.zero_add, Nat.reduceAdd] at T
  repeat (first
    | (((with_reducible refine Sy.is_op ?_); refine Sy.st_pure T (h := ?_); clear T; intro ac T))
    | (with_reducible refine wpList_nil ?_)
    | (with_reducible refine wp_region_lit ?_)
    | ((with_reducible refine wp_seq_k ?_); intro _ _)
    | (go_at_K; go_step)
    | (simp only [Exit.then, Exit.inBlock, ↓reduceIte, Nat.reduceEqDiff]))
  refine Sy.st_callO T F (hc := rnum_any m' _ F.handO ts.length (by omega) (by omega)) (h := ?_)
  clear T; intro v ac w T F
  obtain ⟨a1, cap1, rfl⟩ := own_slice F.ext.2.1
  repeat (first
    | (((with_reducible refine Sy.is_op ?_); refine Sy.st_pure T (h := ?_); clear T; intro ac T))
    | (with_reducible refine wpList_nil ?_)
    | (with_reducible refine wp_region_lit ?_)
    | (with_reducible refine wp_block ?_)
    | ((with_reducible refine wp_seq_k ?_); intro _ _)
    | (go_at_K; go_step)
    | (simp only [Exit.then, Exit.inBlock, ↓reduceIte, Nat.reduceEqDiff]))
  refine wp_loop_ghost_k (fun i ac w' => ∃ (k : Nat) (m : World) (L : List UInt8) (a1 : Option Addr) (cap1 : Nat), i = ts.length - k ∧ k ≤ ts.length ∧ Sub m' m ∧ L = l ++ (numB ts.length ++ (ts.take k).flatMap tokB) ∧
    Sy.Tm ac 33 [(0, .slice a1 L.length cap1), (1, .slice a2 ts.length c2), (11, .int .i64 (ts.length : Int)), (12, .int .i64 (k : Int))] ∧ Sy.MemE (Sy.SlA Sy.E0 5 1 (.slice a1 L.length cap1) L.length (L.map bv)) ⟨w0, (blk (.slice a l.length cap)).toList, m'⟩ m [] w') ts.length ?_ ?_
  · exact ⟨0, m', l ++ numB ts.length, a1, cap1, rfl, Nat.zero_le _, Sub.refl _, by simp, (T.part (by repeat (first | exact Sy.Part.nil | apply Sy.Part.cons rfl))), (F.sel (by repeat (first | exact Sy.Sel.nil | apply Sy.Sel.cons (by repeat (first | exact Sy.Take.here | apply Sy.Take.there)))))⟩
  clear T F
  intro i ac w hI J K hJ hK
  obtain ⟨k, m, L, a1, cap1, rfl, hk, hsub, hL, T, F⟩ := hI
  by_cases hlt : k < ts.length
  · have t1 : decide ((k : Int) < (ts.length : Int)) = true := decide_eq_true (by omega)
    have t2 : IntKind.i64.wrap ((k : Int) + 1) = ((k + 1 : Nat) : Int) := by rw [i64_wrap (by omega) (by omega)]; omega
    obtain ⟨rb, ro, ha, hat⟩ := toks_at (h2.sub hsub) hlt
    subst ha
    have hup := fm_up (f := tokB) hlt
    have hn10 := numB_len (n := ts.length) (by omega)
    have hx := hok.2 ts[k] (List.getElem_mem _)
    have hlen : ((ts.take k).flatMap tokB).length ≤ 20 * 24 := by
      have q := Rg.fm_len (f := tokB) (c := 20) (l := ts.take k) (fun t ht => by
        have ho := hok.2 t (List.mem_of_mem_take ht)
        have q1 := numB_len (n := t.op) (by have := ho.1; omega)
        have q2 := numB_len (zig_lt ho.2.1 ho.2.2)
        unfold tokB
        rw [List.length_append]
        omega)
      have : (ts.take k).length ≤ 24 := by rw [List.length_take]; omega
      omega
    have hLl : L.length ≤ 910000 := by rw [hL]; simp only [List.length_append]; omega
    generalize ts[k] = x at *
    have c1 : IntKind.i64.wrap (x.op : Int) = (x.op : Int) := by have := hx.1; rw [i64_wrap (by omega) (by omega)]
    have ho1 := hx.1
    have hq1 := numB_len (n := x.op) (by omega)
    have hq2 := numB_len (zig_lt hx.2.1 hx.2.2)
    repeat (first
    | (((with_reducible refine Sy.is_load ?_); (refine Sy.st_oldOne T F (h := ?_)); clear T; intro ac T))
    | (((with_reducible refine Sy.is_op ?_); refine Sy.st_pure T (h := ?_); clear T; intro ac T))
    | ((with_reducible refine Sy.is_cond ?_); (refine Sy.st_true T (h := ?_)))
    | (with_reducible refine wpList_nil ?_)
    | (with_reducible refine wp_region_lit ?_)
    | (with_reducible refine wp_block ?_)
    | (with_reducible refine wp_skip ?_)
    | ((with_reducible refine wp_seq_k ?_); intro _ _)
    | (go_at_K; go_step)
    | (simp only [Exit.then, Exit.inBlock, ↓reduceIte, Nat.reduceEqDiff]))
    refine Sy.st_callO T F (hc := rnum_any m _ F.handO x.op (by omega) (by omega)) (h := ?_)
    clear T F; intro v ac w T F
    obtain ⟨a3, cap3, rfl⟩ := own_slice F.ext.2.1
    repeat (first
    | (((with_reducible refine Sy.is_load ?_); (refine Sy.st_oldOne T F (h := ?_)); clear T; intro ac T))
    | (((with_reducible refine Sy.is_op ?_); refine Sy.st_pure T (h := ?_); clear T; intro ac T))
    | (with_reducible refine wpList_nil ?_)
    | (with_reducible refine wp_region_lit ?_)
    | (go_at_K; go_step)
    | (simp only [Exit.then, Exit.inBlock, ↓reduceIte, Nat.reduceEqDiff]))
    have G := callsF F.sub (refIntF x.n hx.2.1 hx.2.2); refine Sy.st_callM0 T F (hc := G) (h := ?_); (clear T F G; intro v m ac w hR hS T F)
    obtain ⟨ba, bc, rfl, hb1, hb2, hb3, hb4⟩ := hR
    refine Sy.st_appendC T F (k2 := (numB (zig x.n)).length) (cp := bc) (ad := ba) (news := (numB (zig x.n)).map bv) (hb1.sub F.sub).2.2 (by simp) (bv_one _) (hbytes := by show (_ + _) * 1 ≤ _; simp only [List.length_append]; omega) (h := ?_)
    clear T F; intro ad cap' ac w T F
    have e : L ++ numB x.op ++ numB (zig x.n) = l ++ (numB ts.length ++ (ts.take (k + 1)).flatMap tokB) := by
      rw [hL, hup]
      unfold tokB
      simp
    rw [← List.map_append, ← List.length_append] at F
    rw [← List.length_append] at T
    repeat (first
    | (((with_reducible refine Sy.is_op ?_); refine Sy.st_pure T (h := ?_); clear T; intro ac T))
    | (with_reducible refine wpList_nil ?_)
    | (with_reducible refine wp_region_lit ?_)
    | (go_at_K; go_step)
    | (simp only [Exit.then, Exit.inBlock, ↓reduceIte, Nat.reduceEqDiff]))
    exact Sy.handed hJ (k := ts.length - (k + 1)) (by omega) ⟨k + 1, _, _, ad, cap', rfl, by omega, hsub.trans hS, e, (T.part (by repeat (first | exact Sy.Part.nil | apply Sy.Part.cons rfl))), (F.sel (by repeat (first | exact Sy.Sel.nil | apply Sy.Sel.cons (by repeat (first | exact Sy.Take.here | apply Sy.Take.there)))))⟩
  · obtain rfl : k = ts.length := by omega
    have t1 : decide ((ts.length : Int) < (ts.length : Int)) = false := decide_eq_false (by omega)
    rw [List.take_length] at hL
    subst hL
    repeat (first
    | (((with_reducible refine Sy.is_op ?_); refine Sy.st_pure T (h := ?_); clear T; intro ac T))
    | ((with_reducible refine Sy.is_cond ?_); (refine Sy.st_false T (h := ?_)))
    | (with_reducible refine wpList_nil ?_)
    | (with_reducible refine wp_region_lit ?_)
    | (with_reducible refine wp_exit ?_)
    | (with_reducible refine wp_ret ?_)
    | ((with_reducible refine wp_seq_k ?_); intro _ _)
    | (go_at_K; go_step)
    | (simp only [Exit.then, Exit.inBlock, ↓reduceIte, Nat.reduceEqDiff]))
    ((try simp only [Exit.inBlock, Exit.then]); refine Sy.st_ret1 T F rfl (by repeat (first | exact Sy.ResV.nil | apply Sy.ResV.tmp rfl | apply Sy.ResV.row rfl rfl rfl (by repeat (first | exact Sy.Take.here | apply Sy.Take.there)) (by rfl) | apply Sy.ResV.one rfl rfl rfl (by repeat (first | exact Sy.Take.here | apply Sy.Take.there)) (by rfl))) ?_)
    exact F.retO
end Tk
end Go.Proofs.Ytniopkoaplkpkaa
