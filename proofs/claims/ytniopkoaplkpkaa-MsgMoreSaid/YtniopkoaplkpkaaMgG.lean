/- The walks of ballot.Get, and of msg.Get at a message's bytes with bytes behind them. Conditions: the bytes can be read. -/
import Derived.Test.YtniopkoaplkpkaaRdG
import Derived.Test.YtniopkoaplkpkaaMsQ
namespace Go.Proofs.Ytniopkoaplkpkaa
open Go.RowKit
set_option linter.unusedVariables false
set_option linter.unusedSimpArgs false
namespace Ms
open Sy (RetV RetM Sub)
open Rg (eqT eqF RegD RegA RegAt RegR regCs BytP zeroReg zeroRegA regB mayS Short U8 U64)
open Pk (numB numB_len numB_pos RdX RdC RetR numS numS_put num_r end_r endS)
open Rt (St bindS pureS numR bigS smallS wellS RowV BigV U8V RegIn get_r getS get_put rawS raw_reads numR_le)
def BalR (_ : World) (cs : List Value) (b : BalD) : Prop := cs = balCs b ∧ BalOk b
def balS (s : St) : BalD × St :=
  (if wellS (numR 4294967295 (smallS (bigS s).2).2).2 then ⟨(bigS s).1, (smallS (bigS s).2).1, (numR 4294967295 (smallS (bigS s).2).2).1⟩ else zeroBal, (numR 4294967295 (smallS (bigS s).2).2).2)
theorem bal_put {b : BalD} (h : BalOk b) (cs : List UInt8) : balS (balB b ++ cs, 0) = (b, cs, 0) := by
  obtain ⟨c, n, l⟩ := b
  obtain ⟨h1, h2, h3⟩ := h
  simp only at h1 h2 h3
  have e1 : bigS (balB ⟨c, n, l⟩ ++ cs, 0) = (c, numB n ++ (numB l ++ cs), 0) := by
    unfold bigS numR balB
    simp only [List.append_assoc]
    exact numS_put h1 (by omega) _
  have e2 : smallS (numB n ++ (numB l ++ cs), 0) = (n, numB l ++ cs, 0) := numS_put (by omega) (by omega) _
  have e3 : numR 4294967295 (numB l ++ cs, 0) = (l, cs, 0) := numS_put (by omega) (by omega) _
  unfold balS
  rw [e1]
  simp only
  rw [e2]
  simp only
  rw [e3]
  rfl
theorem well_end (l : List UInt8) (e : Nat) : wellS (l, e) = (((endS l e : Nat) : Int) == 0 || ((endS l e : Nat) : Int) == 4) := by
  unfold wellS endS
  rw [Bool.eq_iff_iff]
  simp only [Bool.or_eq_true, beq_iff_eq]
  split <;> omega
set_option maxRecDepth 20000 in
theorem bal_r {m0 W : World} {gr : Nat} {s : St} {cs : List Value} (h : RdX m0 W gr s cs) :
    Calls Try.prog 76 #[.pointer (some ⟨gr, 0, none⟩)] W (RetR m0 W gr (RowV BalR) (balS s)) := by
  have F := h.F
  have hC := h.c
  clear h
  obtain ⟨⟨c, s1⟩, e1⟩ : ∃ x, x = bigS s := ⟨_, rfl⟩
  obtain ⟨⟨q, s2⟩, e2⟩ : ∃ x, x = smallS s1 := ⟨_, rfl⟩
  obtain ⟨⟨l, s3⟩, e3⟩ : ∃ x, x = numR 4294967295 s2 := ⟨_, rfl⟩
  have b1 := numR_le (most := 18446744073709551615) (by omega) s
  have b2 := numR_le (most := 255) (by omega) s1
  have b3 := numR_le (most := 4294967295) (by omega) s2
  have hD : balS s = (if wellS s3 then ⟨c, q, l⟩ else zeroBal, s3) := by unfold balS; rw [← e1]; simp only; rw [← e2]; simp only; rw [← e3]
  rw [hD]
  clear hD
  have e1' : numS 18446744073709551615 s.1 s.2 = (c, s1) := e1.symm
  have e2' : numS 255 s1.1 s1.2 = (q, s2) := e2.symm
  have e3' : numS 4294967295 s2.1 s2.2 = (l, s3) := e3.symm
  have e1 := e1'.symm
  have e2 := e2'.symm
  have e3 := e3'.symm
  unfold numR at b1 b2 b3
  rw [e1'] at b1
  rw [e2'] at b2
  rw [e3'] at b3
  dsimp only at b1 b2 b3
  have w1 : IntKind.u8.wrap (q : Int) = (q : Int) := by rw [IntKind.wrap_u8]; omega
  have w2 : IntKind.u32.wrap (l : Int) = (l : Int) := by simp [IntKind.wrap, IntKind.signed, IntKind.bits]; omega
  clear e1' e2' e3'
  refine Sy.enter Try.func76 rfl Try.ntmps76 rfl ?_; intro ac T; simp only [Sy.enum, Nat.zero_add, Nat.reduceAdd] at T
  repeat (first
    | (((with_reducible refine Sy.is_alloc ?_); refine Sy.st_alloc T F (h := ?_); clear T F; intro ac g w T F))
    | (((with_reducible refine Sy.is_op ?_); refine Sy.st_pure T (h := ?_); clear T; intro ac T))
    | (with_reducible refine wpList_nil ?_)
    | (with_reducible refine wp_region_lit ?_)
    | ((with_reducible refine wp_seq_k ?_); intro _ _)
    | (go_at_K; go_step)
    | (simp only [Exit.then, Exit.inBlock, ↓reduceIte, Nat.reduceEqDiff]))
  have G := num_r 18446744073709551615 (by omega) (Pk.RdX.mk (Sy.MemE.reX F (by repeat (first | exact Sy.Take.here | apply Sy.Take.there))) hC); rw [← e1] at G; refine Sy.st_callX T F (hc := G) (h := ?_); (clear T F G hC; intro v m cs ac w hR hS T F; obtain ⟨hV, hC⟩ := hR; dsimp only at hV hC)
  obtain rfl := hV
  repeat ((((with_reducible refine Sy.is_op ?_); refine Sy.st_pure T (h := ?_); clear T; intro ac T)))
  have G := num_r 255 (by omega) (Pk.RdX.mk (Sy.MemE.reX F (by repeat (first | exact Sy.Take.here | apply Sy.Take.there))) hC); rw [← e2] at G; refine Sy.st_callX T F (hc := G) (h := ?_); (clear T F G hC; intro v m cs ac w hR hS T F; obtain ⟨hV, hC⟩ := hR; dsimp only at hV hC)
  obtain rfl := hV
  repeat ((((with_reducible refine Sy.is_op ?_); refine Sy.st_pure T (h := ?_); clear T; intro ac T)))
  have G := num_r 4294967295 (by omega) (Pk.RdX.mk (Sy.MemE.reX F (by repeat (first | exact Sy.Take.here | apply Sy.Take.there))) hC); rw [← e3] at G; refine Sy.st_callX T F (hc := G) (h := ?_); (clear T F G hC; intro v m cs ac w hR hS T F; obtain ⟨hV, hC⟩ := hR; dsimp only at hV hC)
  obtain rfl := hV
  repeat (first
    | (((with_reducible refine Sy.is_store ?_); (refine Sy.st_storeAll T F (h := ?_)); clear T F; intro ac w T F))
    | (((with_reducible refine Sy.is_alloc ?_); refine Sy.st_alloc T F (h := ?_); clear T F; intro ac g w T F))
    | (((with_reducible refine Sy.is_build ?_); refine Sy.st_build T (h := ?_); (conv => whnf); (repeat (refine ⟨by first | exact rfl | exact ⟨rfl, rfl⟩, ?_⟩; (conv => whnf))); clear T; intro ac T))
    | (((with_reducible refine Sy.is_op ?_); refine Sy.st_pure T (h := ?_); clear T; intro ac T))
    | (with_reducible refine wpList_nil ?_)
    | (with_reducible refine wp_region_lit ?_)
    | ((with_reducible refine wp_seq_k ?_); intro _ _)
    | (go_at_K; go_step)
    | (simp only [Exit.then, Exit.inBlock, ↓reduceIte, Nat.reduceEqDiff]))
  refine Sy.st_callV0 T F (hc := end_r (RdX.mk (Sy.MemE.reX F (by repeat (first | exact Sy.Take.here | apply Sy.Take.there))) hC)) (h := ?_); (clear T F; intro ac w T F)
  obtain ⟨l3, n3⟩ := s3
  have hw := well_end l3 n3
  dsimp only at T
  have hok : BalOk ⟨c, q, l⟩ := ⟨by simp only; omega, by simp only; omega, by simp only; omega⟩
  by_cases h0 : endS l3 n3 = 0
  · have t1 : (((endS l3 n3 : Nat) : Int) == 0) = true := eqT (by omega)
    rw [t1, Bool.true_or] at hw
    repeat (first
    | (((with_reducible refine Sy.is_guard ?_); ((refine Sy.st_unguard T (h := ?_); clear T; intro ac T))))
    | (((with_reducible refine Sy.is_load ?_); (refine Sy.st_loadAll T F (h := ?_)); clear T; intro ac T))
    | (((with_reducible refine Sy.is_store ?_); (refine Sy.st_storeAll T F (h := ?_)); clear T F; intro ac w T F))
    | (((with_reducible refine Sy.is_op ?_); refine Sy.st_pure T (h := ?_); clear T; intro ac T))
    | ((with_reducible refine Sy.is_cond ?_); (refine Sy.st_false T (h := ?_)))
    | (with_reducible refine wpList_nil ?_)
    | (with_reducible refine wp_region_lit ?_)
    | (with_reducible refine wp_skip ?_)
    | (with_reducible refine wp_ret ?_)
    | ((with_reducible refine wp_seq_k ?_); intro _ _)
    | (go_at_K; go_step)
    | (simp only [Exit.then, Exit.inBlock, ↓reduceIte, Nat.reduceEqDiff]))
    ((try simp only [Exit.inBlock, Exit.then]); refine Sy.st_ret1 T F rfl (by repeat (first | exact Sy.ResV.nil | apply Sy.ResV.tmp rfl | apply Sy.ResV.row rfl rfl rfl (by repeat (first | exact Sy.Take.here | apply Sy.Take.there)) (by rfl) | apply Sy.ResV.one rfl rfl rfl (by repeat (first | exact Sy.Take.here | apply Sy.Take.there)) (by rfl))) ?_)
    rw [hw]
    exact F.retX (by repeat (first | exact Sy.Take.here | apply Sy.Take.there)) ⟨⟨_, rfl, rfl, hok⟩, hC⟩
  have t1 : (((endS l3 n3 : Nat) : Int) == 0) = false := eqF (by omega)
  by_cases h4 : endS l3 n3 = 4
  · have t2 : (((endS l3 n3 : Nat) : Int) == 4) = true := eqT (by omega)
    rw [t1, t2, Bool.false_or] at hw
    repeat (first
    | (((with_reducible refine Sy.is_guard ?_); (refine Sy.st_guard T (h := ?_))))
    | (((with_reducible refine Sy.is_load ?_); (refine Sy.st_loadAll T F (h := ?_)); clear T; intro ac T))
    | (((with_reducible refine Sy.is_store ?_); (refine Sy.st_storeAll T F (h := ?_)); clear T F; intro ac w T F))
    | (((with_reducible refine Sy.is_op ?_); refine Sy.st_pure T (h := ?_); clear T; intro ac T))
    | ((with_reducible refine Sy.is_cond ?_); (refine Sy.st_false T (h := ?_)))
    | (with_reducible refine wpList_nil ?_)
    | (with_reducible refine wp_region_lit ?_)
    | (with_reducible refine wp_skip ?_)
    | (with_reducible refine wp_ret ?_)
    | ((with_reducible refine wp_seq_k ?_); intro _ _)
    | (go_at_K; go_step)
    | (simp only [Exit.then, Exit.inBlock, ↓reduceIte, Nat.reduceEqDiff]))
    ((try simp only [Exit.inBlock, Exit.then]); refine Sy.st_ret1 T F rfl (by repeat (first | exact Sy.ResV.nil | apply Sy.ResV.tmp rfl | apply Sy.ResV.row rfl rfl rfl (by repeat (first | exact Sy.Take.here | apply Sy.Take.there)) (by rfl) | apply Sy.ResV.one rfl rfl rfl (by repeat (first | exact Sy.Take.here | apply Sy.Take.there)) (by rfl))) ?_)
    rw [hw]
    exact F.retX (by repeat (first | exact Sy.Take.here | apply Sy.Take.there)) ⟨⟨_, rfl, rfl, hok⟩, hC⟩
  · have t2 : (((endS l3 n3 : Nat) : Int) == 4) = false := eqF (by omega)
    rw [t1, t2, Bool.false_or] at hw
    repeat (first
    | (((with_reducible refine Sy.is_guard ?_); (refine Sy.st_guard T (h := ?_))))
    | (((with_reducible refine Sy.is_store ?_); (refine Sy.st_storeAll T F (h := ?_)); clear T F; intro ac w T F))
    | (((with_reducible refine Sy.is_build ?_); refine Sy.st_build T (h := ?_); (conv => whnf); (repeat (refine ⟨by first | exact rfl | exact ⟨rfl, rfl⟩, ?_⟩; (conv => whnf))); clear T; intro ac T))
    | (((with_reducible refine Sy.is_op ?_); refine Sy.st_pure T (h := ?_); clear T; intro ac T))
    | ((with_reducible refine Sy.is_cond ?_); (refine Sy.st_true T (h := ?_)))
    | (with_reducible refine wpList_nil ?_)
    | (with_reducible refine wp_region_lit ?_)
    | (with_reducible refine wp_ret ?_)
    | ((with_reducible refine wp_seq_k ?_); intro _ _)
    | (go_at_K; go_step)
    | (simp only [Exit.then, Exit.inBlock, ↓reduceIte, Nat.reduceEqDiff]))
    ((try simp only [Exit.inBlock, Exit.then]); refine Sy.st_ret1 T F rfl (by repeat (first | exact Sy.ResV.nil | apply Sy.ResV.tmp rfl | apply Sy.ResV.row rfl rfl rfl (by repeat (first | exact Sy.Take.here | apply Sy.Take.there)) (by rfl) | apply Sy.ResV.one rfl rfl rfl (by repeat (first | exact Sy.Take.here | apply Sy.Take.there)) (by rfl))) ?_)
    rw [hw]
    exact F.retX (by repeat (first | exact Sy.Take.here | apply Sy.Take.there)) ⟨⟨_, rfl, rfl, (by unfold BalOk zeroBal; simp)⟩, hC⟩
/-! an array of four places -/
theorem run_at4 (p0 p1 p2 p3 : Option Addr) (k : Nat) (hk : k < 4) (W : World) : (Instr.index 119 (.agg #[.pointer p0, .pointer p1, .pointer p2, .pointer p3]) (.int .i64 (k : Int))).run Try.prog W = .ok (.pointer ([p0, p1, p2, p3].getD k none)) W := by
  have hk4 : k = 0 ∨ k = 1 ∨ k = 2 ∨ k = 3 := by omega
  rcases hk4 with rfl | rfl | rfl | rfl <;> simp [Instr.index, run_underlying Try.underlying119, asIntOf, go_sem]
theorem exec_build4 (ρ : Operand → Value) {x0 x1 x2 x3 : Operand} {p0 p1 p2 p3 : Option Addr} (h0 : ρ x0 = .pointer p0) (h1 : ρ x1 = .pointer p1) (h2 : ρ x2 = .pointer p2) (h3 : ρ x3 = .pointer p3) (d ty pos af g) (w : World) :
    (execOp ρ ⟨d, .build 119 #[(0, x0), (1, x1), (2, x2), (3, x3)], ty, pos, af, g⟩).run Try.prog w = .ok (.value (.agg #[.pointer p0, .pointer p1, .pointer p2, .pointer p3])) w := by
  simp [execOp, h0, h1, h2, h3, go_sem]
section
variable {a : Act} {n : Nat} {ts : List (Nat × Value)} {w : World} {ty : TypeId}
theorem runs_build4 (T : Sy.Tm a n ts) {x0 x1 x2 x3 : Operand} {p0 p1 p2 p3 : Option Addr} (h0 : Sy.ev ts x0 = some (.pointer p0)) (h1 : Sy.ev ts x1 = some (.pointer p1)) (h2 : Sy.ev ts x2 = some (.pointer p2)) (h3 : Sy.ev ts x3 = some (.pointer p3)) :
    Sy.Runs Try.prog a (.build 119 #[(0, x0), (1, x1), (2, x2), (3, x3)]) ty w (.agg #[.pointer p0, .pointer p1, .pointer p2, .pointer p3]) := .of fun d pos af g => exec_build4 a.eval (T.eval h0) (T.eval h1) (T.eval h2) (T.eval h3) d ty pos af g w
theorem runs_at4 (T : Sy.Tm a n ts) {x ix : Operand} {p0 p1 p2 p3 : Option Addr} (k : Nat) (hk : k < 4) (hx : Sy.ev ts x = some (.agg #[.pointer p0, .pointer p1, .pointer p2, .pointer p3])) (hi : Sy.ev ts ix = some (.int .i64 (k : Int))) :
    Sy.Runs Try.prog a (.index 119 x ix) ty w (.pointer ([p0, p1, p2, p3].getD k none)) := .of fun _ _ _ _ => by
  simp only [execOp, T.eval hx, T.eval hi, Sem.run_bind, run_at4 _ _ _ _ k hk, Result.andThen_ok, Sem.run_pure]
end
/-- what is read, behind k numbers -/
def headC (x : MsgD) : Nat → List Value
  | 0 => [.int .u8 0, .int .u8 0, .int .u8 0, .int .u8 0]
  | 1 => [.int .u8 (x.kind : Int), .int .u8 0, .int .u8 0, .int .u8 0]
  | 2 => [.int .u8 (x.kind : Int), .int .u8 (x.src : Int), .int .u8 0, .int .u8 0]
  | 3 => [.int .u8 (x.kind : Int), .int .u8 (x.src : Int), .int .u8 (x.dst : Int), .int .u8 0]
  | _ => [.int .u8 (x.kind : Int), .int .u8 (x.src : Int), .int .u8 (x.dst : Int), .int .u8 (x.key : Int)]
def restC : List Value := [.int .u64 0, .int .u64 0, .int .u8 0, .int .u32 0, .bool false, .int .u64 0, .int .u8 0, .int .u32 0, .int .u8 0, .int .u64 0, .int .i64 0, .slice none 0 0, .slice none 0 0, .slice none 0 0, .int .u64 0, .slice none 0 0, .int .u64 0, .int .u8 0, .int .u32 0, .int .u64 0]
def tailB (x : MsgD) (R : List UInt8) : Nat → List UInt8
  | 0 => numB x.kind ++ (numB x.src ++ (numB x.dst ++ (numB x.key ++ R)))
  | 1 => numB x.src ++ (numB x.dst ++ (numB x.key ++ R))
  | 2 => numB x.dst ++ (numB x.key ++ R)
  | 3 => numB x.key ++ R
  | _ => R
theorem retBE_Y {w : World} {l : List UInt8} {k : Nat} {e : Ending} {w' : World} (h : Sm.RetBE w l k e w') : RetY w l (k : Int) e w' := by
  obtain ⟨a, n, cap, rfl, ho, hb⟩ := h
  obtain ⟨v, he, h1, h2⟩ := retF_B (e := .returned (.slice a n cap)) ⟨a, n, cap, rfl, ho, hb⟩
  cases he
  exact ⟨_, rfl, h1, h2⟩
set_option maxRecDepth 20000 in
set_option maxHeartbeats 4000000 in
/-- a message's bytes, with others behind them -/
theorem get_long (w0 : World) (x : MsgD) (extra : List UInt8) (hne : 0 < extra.length) (hk : U8 x.kind) (hsrc : U8 x.src) (hdst : U8 x.dst) (hkey : U8 x.key) (hcf : U64 x.conf) (hb : BalOk x.b) (hacc : BalOk x.acc) (hnx : BalOk x.next) (hmx : U64 x.max) (hin : RegIn x.reg) (hms : mayS x.reg = true) (hsh : Short x.reg)
    (a : Option Addr) (cap : Nat) (l : List UInt8) (hbl : Bytes w0 a l.length l) (hsmall : l.length ≤ 70368744177664) (hcap : l.length ≤ cap ∧ cap ≤ maxLen) (hf : Sm.fitsS l = (msgB x (regB x.reg) ++ extra, 0)) :
    Calls Try.prog 28 #[.slice a l.length cap] w0 (RetV w0 (.tuple #[.agg (msgCs zeroMsg zeroRegA).toArray, .int .i64 4])) := by
  have F := Sy.Mem.start (Sub.refl w0)
  have e00 : (((0 : Nat) : Int) == 0) = true := rfl
  have e40 : (((4 : Nat) : Int) == 0) = false := rfl
  unfold U8 at hk hsrc hdst hkey
  unfold U64 at hcf hmx
  obtain ⟨R4, hR4⟩ : ∃ R, R = numB x.max ++ extra := ⟨_, rfl⟩
  obtain ⟨R3, hR3⟩ : ∃ R, R = balB x.next ++ R4 := ⟨_, rfl⟩
  obtain ⟨R2, hR2⟩ : ∃ R, R = regB x.reg ++ R3 := ⟨_, rfl⟩
  obtain ⟨R1, hR1⟩ : ∃ R, R = balB x.acc ++ R2 := ⟨_, rfl⟩
  obtain ⟨R0, hR0⟩ : ∃ R, R = numB (okN x) ++ R1 := ⟨_, rfl⟩
  obtain ⟨Rb, hRb⟩ : ∃ R, R = balB x.b ++ R0 := ⟨_, rfl⟩
  obtain ⟨Rc, hRc⟩ : ∃ R, R = numB x.conf ++ Rb := ⟨_, rfl⟩
  have hall : msgB x (regB x.reg) ++ extra = tailB x Rc 0 := by
    subst hRc hRb hR0 hR1 hR2 hR3 hR4
    simp [msgB, preM, nth5, tailB, List.append_assoc]
  have ho : okN x ≤ 1 := by unfold okN; split <;> omega
  have c0 : (x.kind, tailB x Rc 1, 0) = numS 255 (tailB x Rc 0) 0 := (numS_put (by omega) (by omega) _).symm
  have c1 : (x.src, tailB x Rc 2, 0) = numS 255 (tailB x Rc 1) 0 := (numS_put (by omega) (by omega) _).symm
  have c2 : (x.dst, tailB x Rc 3, 0) = numS 255 (tailB x Rc 2) 0 := (numS_put (by omega) (by omega) _).symm
  have c3 : (x.key, tailB x Rc 4, 0) = numS 255 (tailB x Rc 3) 0 := (numS_put (by omega) (by omega) _).symm
  have c4 : (x.conf, Rb, 0) = numS 18446744073709551615 (tailB x Rc 4) 0 := by show _ = numS 18446744073709551615 Rc 0; rw [hRc]; exact (numS_put hcf (by omega) _).symm
  have c5 : (x.b, R0, 0) = balS (Rb, 0) := by rw [hRb]; exact (bal_put hb _).symm
  have c6 : (okN x, R1, 0) = numS 1 R0 0 := by rw [hR0]; exact (numS_put (by omega) ho _).symm
  have c7 : (x.acc, R2, 0) = balS (R1, 0) := by rw [hR1]; exact (bal_put hacc _).symm
  have c8 : (x.reg, R3, 0) = getS (R2, 0) := by rw [hR2]; exact (get_put hin hms hsh _).symm
  have c8s : Short (rawS (R2, 0)).1 := by rw [hR2, (raw_reads hin hms hsh).ok]; exact hsh
  have c9 : (x.next, R4, 0) = balS (R3, 0) := by rw [hR3]; exact (bal_put hnx _).symm
  have c10 : (x.max, extra, 0) = numS 18446744073709551615 R4 0 := by rw [hR4]; exact (numS_put hmx (by omega) _).symm
  have c11 : endS extra 0 = 4 := by simp [endS, hne]
  rw [hall] at hf
  have hl0 : (tailB x Rc 0).length ≤ 70368744177664 := by
    have h1 := congrArg (fun p => p.1.length) hf
    simp only at h1
    rw [← h1]
    unfold Sm.fitsS
    split
    · simp
    · split
      · simp; omega
      · simp
  clear hall hRc hRb hR0 hR1 hR2 hR3 hR4
  have hwp : ∀ n : Nat, n < 256 → IntKind.u8.wrap (n : Int) = (n : Int) := fun n hn => by rw [IntKind.wrap_u8]; omega
  have wk := hwp _ hk
  have ws := hwp _ hsrc
  have wd := hwp _ hdst
  have we := hwp _ hkey
  refine Sy.enter Try.func28 rfl Try.ntmps28 rfl ?_; intro ac T; simp only [Sy.enum, Nat.zero_add, Nat.reduceAdd] at T
  repeat (first
    | (((with_reducible refine Sy.is_alloc ?_); refine Sy.st_alloc T F (h := ?_); clear T F; intro ac g w T F))
    | (((with_reducible refine Sy.is_op ?_); refine Sy.st_pure T (h := ?_); clear T; intro ac T))
    | (with_reducible refine wpList_nil ?_)
    | (with_reducible refine wp_region_lit ?_)
    | ((with_reducible refine wp_seq_k ?_); intro _ _)
    | (go_at_K; go_step)
    | (simp only [Exit.then, Exit.inBlock, ↓reduceIte, Nat.reduceEqDiff]))
  have G := (Sm.fits_any a l.length cap l w (hbl.sub F.sub) hsmall hcap)
  rw [hf] at G
  refine Sy.st_callM0 T F (hc := G.mono fun e w' r => retM_Y F.sub (retBE_Y r)) (h := ?_); (clear T F; intro v m ac w hR hS T F)
  clear G
  obtain ⟨u, rfl, ba, bc, rfl, hB, -⟩ := hR
  repeat (first
    | (((with_reducible refine Sy.is_op ?_); refine Sy.st_pure T (h := ?_); clear T; intro ac T))
    | ((with_reducible refine Sy.is_cond ?_); (refine Sy.st_false T (h := ?_)))
    | (with_reducible refine wpList_nil ?_)
    | (with_reducible refine wp_region_lit ?_)
    | (with_reducible refine wp_skip ?_)
    | ((with_reducible refine wp_seq_k ?_); intro _ _)
    | (go_at_K; go_step)
    | (simp only [Exit.then, Exit.inBlock, ↓reduceIte, Nat.reduceEqDiff]))
  have G := Pk.new_r m w F.sub (cap := bc) hB hl0
  refine Sy.st_callQ T F (hc := G) (h := ?_); clear T F G; intro gr m cs ac w hC hS2 T F
  repeat (first
    | (((with_reducible refine Sy.is_alloc ?_); refine Sy.st_alloc T F (h := ?_); clear T F; intro ac g w T F))
    | (((with_reducible refine Sy.is_op ?_); refine Sy.st_pure T (h := ?_); clear T; intro ac T))
    | (with_reducible refine wpList_nil ?_)
    | (with_reducible refine wp_region_lit ?_)
    | ((with_reducible refine wp_seq_k ?_); intro _ _)
    | (go_at_K; go_step)
    | (simp only [Exit.then, Exit.inBlock, ↓reduceIte, Nat.reduceEqDiff]))
  refine Sy.st_val (runs_build4 T (by exact rfl) (by exact rfl) (by exact rfl) (by exact rfl)) T (by exact rfl) ?_; (clear T; intro ac T)
  repeat (first
    | (((with_reducible refine Sy.is_op ?_); refine Sy.st_pure T (h := ?_); clear T; intro ac T))
    | (with_reducible refine wpList_nil ?_)
    | (with_reducible refine wp_block ?_)
    | (go_at_K; go_step)
    | (simp only [Exit.then, Exit.inBlock, ↓reduceIte, Nat.reduceEqDiff]))
  obtain ⟨g2, rfl⟩ := Rt.name1 T 2 rfl
  obtain ⟨g7, rfl⟩ := Rt.name1 T 7 rfl
  refine wp_loop_ghost_k (fun n ac w' => ∃ (k : Nat) (m : World) (cs : List Value), n = 4 - k ∧ k ≤ 4 ∧ RdC m (tailB x Rc k, 0) cs ∧ Sy.Tm ac 69 [(2, .pointer (some ⟨g2, 0, none⟩)), (6, .pointer (some ⟨gr, 0, none⟩)), (7, .pointer (some ⟨g7, 0, none⟩)), (26, .agg #[.pointer (some ⟨g7, 0, none⟩), .pointer (some ⟨g7, 1, none⟩), .pointer (some ⟨g7, 2, none⟩), .pointer (some ⟨g7, 3, none⟩)]), (27, .int .i64 (k : Int))] ∧
    Sy.Mem ⟨w0, [], w0⟩ m [⟨gr, cs, 100⟩, ⟨g7, headC x k ++ restC, 55⟩, ⟨g2, headC x 0 ++ restC, 55⟩] w') 4 ?_ ?_
  · exact ⟨0, m, cs, rfl, Nat.zero_le _, hC, (T.part (by repeat (first | exact Sy.Part.nil | apply Sy.Part.cons rfl))), (F.sel (by repeat (first | exact Sy.Sel.nil | apply Sy.Sel.cons (by repeat (first | exact Sy.Take.here | apply Sy.Take.there)))))⟩
  clear T F hC hS hS2
  intro n0 ac w hI J K hJ hK
  obtain ⟨k, m, cs, rfl, hk4, hC, T, F⟩ := hI
  have hks : k = 0 ∨ k = 1 ∨ k = 2 ∨ k = 3 ∨ k = 4 := by omega
  rcases hks with rfl | rfl | rfl | rfl | rfl
  · have u1 : decide (((0 : Nat) : Int) < 4) = true := rfl
    have u2 : IntKind.i64.wrap (((0 : Nat) : Int) + 1) = ((1 : Nat) : Int) := rfl
    dsimp only [headC, restC, List.cons_append, List.nil_append] at F
    repeat (first
    | (((with_reducible refine Sy.is_op ?_); refine Sy.st_pure T (h := ?_); clear T; intro ac T))
    | ((with_reducible refine Sy.is_cond ?_); (refine Sy.st_true T (h := ?_)))
    | (with_reducible refine wpList_nil ?_)
    | (with_reducible refine wp_region_lit ?_)
    | (with_reducible refine wp_block ?_)
    | (with_reducible refine wp_skip ?_)
    | ((with_reducible refine wp_seq_k ?_); intro _ _)
    | (go_at_K; go_step)
    | (simp only [Exit.then, Exit.inBlock, ↓reduceIte, Nat.reduceEqDiff]))
    refine Sy.st_val (runs_at4 T 0 (by decide) (by exact rfl) (by exact rfl)) T (by exact rfl) ?_; (clear T; intro ac T)
    repeat (first
    | (((with_reducible refine Sy.is_op ?_); refine Sy.st_pure T (h := ?_); clear T; intro ac T))
    | (with_reducible refine wpList_nil ?_)
    | (with_reducible refine wp_region_lit ?_)
    | (go_at_K; go_step)
    | (simp only [Exit.then, Exit.inBlock, ↓reduceIte, Nat.reduceEqDiff]))
    have G := num_r 255 (by omega) (Pk.RdX.mk (Sy.MemE.reX F (by repeat (first | exact Sy.Take.here | apply Sy.Take.there))) hC); rw [← c0] at G; refine Sy.st_callX T F (hc := G) (h := ?_); (clear T F G hC; intro v m cs ac w hR hS T F; obtain ⟨hV, hC⟩ := hR; dsimp only at hV hC)
    obtain rfl := hV
    repeat (first
    | (((with_reducible refine Sy.is_store ?_); ((refine Sy.st_storeOne T F (h := ?_); conv => whnf)); clear T F; intro ac w T F))
    | (((with_reducible refine Sy.is_op ?_); refine Sy.st_pure T (h := ?_); clear T; intro ac T))
    | (with_reducible refine wpList_nil ?_)
    | (with_reducible refine wp_region_lit ?_)
    | (go_at_K; go_step)
    | (simp only [Exit.then, Exit.inBlock, ↓reduceIte, Nat.reduceEqDiff]))
    exact Sy.handed hJ (k := 4 - (0 + 1)) (by omega) ⟨0 + 1, m, cs, rfl, by omega, hC, (T.part (by repeat (first | exact Sy.Part.nil | apply Sy.Part.cons rfl))), (F.sel (by repeat (first | exact Sy.Sel.nil | apply Sy.Sel.cons (by repeat (first | exact Sy.Take.here | apply Sy.Take.there)))))⟩
  · have u1 : decide (((1 : Nat) : Int) < 4) = true := rfl
    have u2 : IntKind.i64.wrap (((1 : Nat) : Int) + 1) = ((2 : Nat) : Int) := rfl
    dsimp only [headC, restC, List.cons_append, List.nil_append] at F
    repeat (first
    | (((with_reducible refine Sy.is_op ?_); refine Sy.st_pure T (h := ?_); clear T; intro ac T))
    | ((with_reducible refine Sy.is_cond ?_); (refine Sy.st_true T (h := ?_)))
    | (with_reducible refine wpList_nil ?_)
    | (with_reducible refine wp_region_lit ?_)
    | (with_reducible refine wp_block ?_)
    | (with_reducible refine wp_skip ?_)
    | ((with_reducible refine wp_seq_k ?_); intro _ _)
    | (go_at_K; go_step)
    | (simp only [Exit.then, Exit.inBlock, ↓reduceIte, Nat.reduceEqDiff]))
    refine Sy.st_val (runs_at4 T 1 (by decide) (by exact rfl) (by exact rfl)) T (by exact rfl) ?_; (clear T; intro ac T)
    repeat (first
    | (((with_reducible refine Sy.is_op ?_); refine Sy.st_pure T (h := ?_); clear T; intro ac T))
    | (with_reducible refine wpList_nil ?_)
    | (with_reducible refine wp_region_lit ?_)
    | (go_at_K; go_step)
    | (simp only [Exit.then, Exit.inBlock, ↓reduceIte, Nat.reduceEqDiff]))
    have G := num_r 255 (by omega) (Pk.RdX.mk (Sy.MemE.reX F (by repeat (first | exact Sy.Take.here | apply Sy.Take.there))) hC); rw [← c1] at G; refine Sy.st_callX T F (hc := G) (h := ?_); (clear T F G hC; intro v m cs ac w hR hS T F; obtain ⟨hV, hC⟩ := hR; dsimp only at hV hC)
    obtain rfl := hV
    repeat (first
    | (((with_reducible refine Sy.is_store ?_); ((refine Sy.st_storeOne T F (h := ?_); conv => whnf)); clear T F; intro ac w T F))
    | (((with_reducible refine Sy.is_op ?_); refine Sy.st_pure T (h := ?_); clear T; intro ac T))
    | (with_reducible refine wpList_nil ?_)
    | (with_reducible refine wp_region_lit ?_)
    | (go_at_K; go_step)
    | (simp only [Exit.then, Exit.inBlock, ↓reduceIte, Nat.reduceEqDiff]))
    exact Sy.handed hJ (k := 4 - (1 + 1)) (by omega) ⟨1 + 1, m, cs, rfl, by omega, hC, (T.part (by repeat (first | exact Sy.Part.nil | apply Sy.Part.cons rfl))), (F.sel (by repeat (first | exact Sy.Sel.nil | apply Sy.Sel.cons (by repeat (first | exact Sy.Take.here | apply Sy.Take.there)))))⟩
  · have u1 : decide (((2 : Nat) : Int) < 4) = true := rfl
    have u2 : IntKind.i64.wrap (((2 : Nat) : Int) + 1) = ((3 : Nat) : Int) := rfl
    dsimp only [headC, restC, List.cons_append, List.nil_append] at F
    repeat (first
    | (((with_reducible refine Sy.is_op ?_); refine Sy.st_pure T (h := ?_); clear T; intro ac T))
    | ((with_reducible refine Sy.is_cond ?_); (refine Sy.st_true T (h := ?_)))
    | (with_reducible refine wpList_nil ?_)
    | (with_reducible refine wp_region_lit ?_)
    | (with_reducible refine wp_block ?_)
    | (with_reducible refine wp_skip ?_)
    | ((with_reducible refine wp_seq_k ?_); intro _ _)
    | (go_at_K; go_step)
    | (simp only [Exit.then, Exit.inBlock, ↓reduceIte, Nat.reduceEqDiff]))
    refine Sy.st_val (runs_at4 T 2 (by decide) (by exact rfl) (by exact rfl)) T (by exact rfl) ?_; (clear T; intro ac T)
    repeat (first
    | (((with_reducible refine Sy.is_op ?_); refine Sy.st_pure T (h := ?_); clear T; intro ac T))
    | (with_reducible refine wpList_nil ?_)
    | (with_reducible refine wp_region_lit ?_)
    | (go_at_K; go_step)
    | (simp only [Exit.then, Exit.inBlock, ↓reduceIte, Nat.reduceEqDiff]))
    have G := num_r 255 (by omega) (Pk.RdX.mk (Sy.MemE.reX F (by repeat (first | exact Sy.Take.here | apply Sy.Take.there))) hC); rw [← c2] at G; refine Sy.st_callX T F (hc := G) (h := ?_); (clear T F G hC; intro v m cs ac w hR hS T F; obtain ⟨hV, hC⟩ := hR; dsimp only at hV hC)
    obtain rfl := hV
    repeat (first
    | (((with_reducible refine Sy.is_store ?_); ((refine Sy.st_storeOne T F (h := ?_); conv => whnf)); clear T F; intro ac w T F))
    | (((with_reducible refine Sy.is_op ?_); refine Sy.st_pure T (h := ?_); clear T; intro ac T))
    | (with_reducible refine wpList_nil ?_)
    | (with_reducible refine wp_region_lit ?_)
    | (go_at_K; go_step)
    | (simp only [Exit.then, Exit.inBlock, ↓reduceIte, Nat.reduceEqDiff]))
    exact Sy.handed hJ (k := 4 - (2 + 1)) (by omega) ⟨2 + 1, m, cs, rfl, by omega, hC, (T.part (by repeat (first | exact Sy.Part.nil | apply Sy.Part.cons rfl))), (F.sel (by repeat (first | exact Sy.Sel.nil | apply Sy.Sel.cons (by repeat (first | exact Sy.Take.here | apply Sy.Take.there)))))⟩
  · have u1 : decide (((3 : Nat) : Int) < 4) = true := rfl
    have u2 : IntKind.i64.wrap (((3 : Nat) : Int) + 1) = ((4 : Nat) : Int) := rfl
    dsimp only [headC, restC, List.cons_append, List.nil_append] at F
    repeat (first
    | (((with_reducible refine Sy.is_op ?_); refine Sy.st_pure T (h := ?_); clear T; intro ac T))
    | ((with_reducible refine Sy.is_cond ?_); (refine Sy.st_true T (h := ?_)))
    | (with_reducible refine wpList_nil ?_)
    | (with_reducible refine wp_region_lit ?_)
    | (with_reducible refine wp_block ?_)
    | (with_reducible refine wp_skip ?_)
    | ((with_reducible refine wp_seq_k ?_); intro _ _)
    | (go_at_K; go_step)
    | (simp only [Exit.then, Exit.inBlock, ↓reduceIte, Nat.reduceEqDiff]))
    refine Sy.st_val (runs_at4 T 3 (by decide) (by exact rfl) (by exact rfl)) T (by exact rfl) ?_; (clear T; intro ac T)
    repeat (first
    | (((with_reducible refine Sy.is_op ?_); refine Sy.st_pure T (h := ?_); clear T; intro ac T))
    | (with_reducible refine wpList_nil ?_)
    | (with_reducible refine wp_region_lit ?_)
    | (go_at_K; go_step)
    | (simp only [Exit.then, Exit.inBlock, ↓reduceIte, Nat.reduceEqDiff]))
    have G := num_r 255 (by omega) (Pk.RdX.mk (Sy.MemE.reX F (by repeat (first | exact Sy.Take.here | apply Sy.Take.there))) hC); rw [← c3] at G; refine Sy.st_callX T F (hc := G) (h := ?_); (clear T F G hC; intro v m cs ac w hR hS T F; obtain ⟨hV, hC⟩ := hR; dsimp only at hV hC)
    obtain rfl := hV
    repeat (first
    | (((with_reducible refine Sy.is_store ?_); ((refine Sy.st_storeOne T F (h := ?_); conv => whnf)); clear T F; intro ac w T F))
    | (((with_reducible refine Sy.is_op ?_); refine Sy.st_pure T (h := ?_); clear T; intro ac T))
    | (with_reducible refine wpList_nil ?_)
    | (with_reducible refine wp_region_lit ?_)
    | (go_at_K; go_step)
    | (simp only [Exit.then, Exit.inBlock, ↓reduceIte, Nat.reduceEqDiff]))
    exact Sy.handed hJ (k := 4 - (3 + 1)) (by omega) ⟨3 + 1, m, cs, rfl, by omega, hC, (T.part (by repeat (first | exact Sy.Part.nil | apply Sy.Part.cons rfl))), (F.sel (by repeat (first | exact Sy.Sel.nil | apply Sy.Sel.cons (by repeat (first | exact Sy.Take.here | apply Sy.Take.there)))))⟩
  have u1 : decide (((4 : Nat) : Int) < 4) = false := rfl
  replace F : Sy.Mem ⟨w0, [], w0⟩ m [⟨gr, cs, 100⟩, ⟨g7, [.int .u8 (x.kind : Int), .int .u8 (x.src : Int), .int .u8 (x.dst : Int), .int .u8 (x.key : Int), .int .u64 0, .int .u64 0, .int .u8 0, .int .u32 0, .bool false, .int .u64 0, .int .u8 0, .int .u32 0, .int .u8 0, .int .u64 0, .int .i64 0, .slice none 0 0, .slice none 0 0, .slice none 0 0, .int .u64 0, .slice none 0 0, .int .u64 0, .int .u8 0, .int .u32 0, .int .u64 0], 55⟩, ⟨g2, [.int .u8 0, .int .u8 0, .int .u8 0, .int .u8 0, .int .u64 0, .int .u64 0, .int .u8 0, .int .u32 0, .bool false, .int .u64 0, .int .u8 0, .int .u32 0, .int .u8 0, .int .u64 0, .int .i64 0, .slice none 0 0, .slice none 0 0, .slice none 0 0, .int .u64 0, .slice none 0 0, .int .u64 0, .int .u8 0, .int .u32 0, .int .u64 0], 55⟩] w := F
  repeat (first
    | (((with_reducible refine Sy.is_op ?_); refine Sy.st_pure T (h := ?_); clear T; intro ac T))
    | ((with_reducible refine Sy.is_cond ?_); (refine Sy.st_false T (h := ?_)))
    | (with_reducible refine wpList_nil ?_)
    | (with_reducible refine wp_region_lit ?_)
    | (with_reducible refine wp_exit ?_)
    | ((with_reducible refine wp_seq_k ?_); intro _ _)
    | (go_at_K; go_step)
    | (simp only [Exit.then, Exit.inBlock, ↓reduceIte, Nat.reduceEqDiff]))
  have G := num_r 18446744073709551615 (by omega) (Pk.RdX.mk (Sy.MemE.reX F (by repeat (first | exact Sy.Take.here | apply Sy.Take.there))) hC); rw [← c4] at G; refine Sy.st_callX T F (hc := G) (h := ?_); (clear T F G hC; intro v m cs ac w hR hS T F; obtain ⟨hV, hC⟩ := hR; dsimp only at hV hC)
  obtain rfl := hV
  repeat (first
    | (((with_reducible refine Sy.is_store ?_); ((refine Sy.st_storeOne T F (h := ?_); conv => whnf)); clear T F; intro ac w T F))
    | (((with_reducible refine Sy.is_op ?_); refine Sy.st_pure T (h := ?_); clear T; intro ac T))
    | (with_reducible refine wpList_nil ?_)
    | (with_reducible refine wp_region_lit ?_)
    | ((with_reducible refine wp_seq_k ?_); intro _ _)
    | (go_at_K; go_step)
    | (simp only [Exit.then, Exit.inBlock, ↓reduceIte, Nat.reduceEqDiff]))
  have G := bal_r (Pk.RdX.mk (Sy.MemE.reX F (by repeat (first | exact Sy.Take.here | apply Sy.Take.there))) hC); rw [← c5] at G; refine Sy.st_callX T F (hc := G) (h := ?_); (clear T F G hC; intro v m cs ac w hR hS T F; obtain ⟨hV, hC⟩ := hR; dsimp only at hV hC)
  obtain ⟨_, rfl, rfl, -⟩ := hV
  dsimp only [balCs] at T
  repeat (first
    | (((with_reducible refine Sy.is_store ?_); ((refine Sy.st_storeAgg T F (h := ?_); conv => whnf)); clear T F; intro ac w T F))
    | (((with_reducible refine Sy.is_op ?_); refine Sy.st_pure T (h := ?_); clear T; intro ac T))
    | (with_reducible refine wpList_nil ?_)
    | (with_reducible refine wp_region_lit ?_)
    | ((with_reducible refine wp_seq_k ?_); intro _ _)
    | (go_at_K; go_step)
    | (simp only [Exit.then, Exit.inBlock, ↓reduceIte, Nat.reduceEqDiff]))
  have G := num_r 1 (by omega) (Pk.RdX.mk (Sy.MemE.reX F (by repeat (first | exact Sy.Take.here | apply Sy.Take.there))) hC); rw [← c6] at G; refine Sy.st_callX T F (hc := G) (h := ?_); (clear T F G hC; intro v m cs ac w hR hS T F; obtain ⟨hV, hC⟩ := hR; dsimp only at hV hC)
  obtain rfl := hV
  repeat (first
    | (((with_reducible refine Sy.is_store ?_); ((refine Sy.st_storeOne T F (h := ?_); conv => whnf)); clear T F; intro ac w T F))
    | (((with_reducible refine Sy.is_op ?_); refine Sy.st_pure T (h := ?_); clear T; intro ac T))
    | (with_reducible refine wpList_nil ?_)
    | (with_reducible refine wp_region_lit ?_)
    | ((with_reducible refine wp_seq_k ?_); intro _ _)
    | (go_at_K; go_step)
    | (simp only [Exit.then, Exit.inBlock, ↓reduceIte, Nat.reduceEqDiff]))
  have G := bal_r (Pk.RdX.mk (Sy.MemE.reX F (by repeat (first | exact Sy.Take.here | apply Sy.Take.there))) hC); rw [← c7] at G; refine Sy.st_callX T F (hc := G) (h := ?_); (clear T F G hC; intro v m cs ac w hR hS T F; obtain ⟨hV, hC⟩ := hR; dsimp only at hV hC)
  obtain ⟨_, rfl, rfl, -⟩ := hV
  dsimp only [balCs] at T
  repeat (first
    | (((with_reducible refine Sy.is_store ?_); ((refine Sy.st_storeAgg T F (h := ?_); conv => whnf)); clear T F; intro ac w T F))
    | (((with_reducible refine Sy.is_op ?_); refine Sy.st_pure T (h := ?_); clear T; intro ac T))
    | (with_reducible refine wpList_nil ?_)
    | (with_reducible refine wp_region_lit ?_)
    | ((with_reducible refine wp_seq_k ?_); intro _ _)
    | (go_at_K; go_step)
    | (simp only [Exit.then, Exit.inBlock, ↓reduceIte, Nat.reduceEqDiff]))
  have G := get_r (RdX.mk (Sy.MemE.reX F (by repeat (first | exact Sy.Take.here | apply Sy.Take.there))) hC) c8s
  rw [← c8] at G
  refine Sy.st_callX T F (hc := G) (h := ?_)
  clear T F G hC; intro v m cs ac w hR hS T F
  obtain ⟨⟨_, rfl, ⟨va, vc, da, dc, oa, oc, ma, mc⟩, rfl, -⟩, hC⟩ := hR
  dsimp only [regCs] at T hC
  repeat (first
    | (((with_reducible refine Sy.is_store ?_); ((refine Sy.st_storeAgg T F (h := ?_); conv => whnf)); clear T F; intro ac w T F))
    | (((with_reducible refine Sy.is_op ?_); refine Sy.st_pure T (h := ?_); clear T; intro ac T))
    | (with_reducible refine wpList_nil ?_)
    | (with_reducible refine wp_region_lit ?_)
    | ((with_reducible refine wp_seq_k ?_); intro _ _)
    | (go_at_K; go_step)
    | (simp only [Exit.then, Exit.inBlock, ↓reduceIte, Nat.reduceEqDiff]))
  have G := bal_r (Pk.RdX.mk (Sy.MemE.reX F (by repeat (first | exact Sy.Take.here | apply Sy.Take.there))) hC); rw [← c9] at G; refine Sy.st_callX T F (hc := G) (h := ?_); (clear T F G hC; intro v m cs ac w hR hS T F; obtain ⟨hV, hC⟩ := hR; dsimp only at hV hC)
  obtain ⟨_, rfl, rfl, -⟩ := hV
  dsimp only [balCs] at T
  repeat (first
    | (((with_reducible refine Sy.is_store ?_); ((refine Sy.st_storeAgg T F (h := ?_); conv => whnf)); clear T F; intro ac w T F))
    | (((with_reducible refine Sy.is_op ?_); refine Sy.st_pure T (h := ?_); clear T; intro ac T))
    | (with_reducible refine wpList_nil ?_)
    | (with_reducible refine wp_region_lit ?_)
    | ((with_reducible refine wp_seq_k ?_); intro _ _)
    | (go_at_K; go_step)
    | (simp only [Exit.then, Exit.inBlock, ↓reduceIte, Nat.reduceEqDiff]))
  have G := num_r 18446744073709551615 (by omega) (Pk.RdX.mk (Sy.MemE.reX F (by repeat (first | exact Sy.Take.here | apply Sy.Take.there))) hC); rw [← c10] at G; refine Sy.st_callX T F (hc := G) (h := ?_); (clear T F G hC; intro v m cs ac w hR hS T F; obtain ⟨hV, hC⟩ := hR; dsimp only at hV hC)
  obtain rfl := hV
  repeat (first
    | (((with_reducible refine Sy.is_store ?_); ((refine Sy.st_storeOne T F (h := ?_); conv => whnf)); clear T F; intro ac w T F))
    | (((with_reducible refine Sy.is_op ?_); refine Sy.st_pure T (h := ?_); clear T; intro ac T))
    | (with_reducible refine wpList_nil ?_)
    | (with_reducible refine wp_region_lit ?_)
    | ((with_reducible refine wp_seq_k ?_); intro _ _)
    | (go_at_K; go_step)
    | (simp only [Exit.then, Exit.inBlock, ↓reduceIte, Nat.reduceEqDiff]))
  have G := end_r (RdX.mk (Sy.MemE.reX F (by repeat (first | exact Sy.Take.here | apply Sy.Take.there))) hC)
  dsimp only at G
  rw [c11] at G
  refine Sy.st_callV0 T F (hc := G) (h := ?_); (clear T F; intro ac w T F)
  clear G
  repeat (first
    | (((with_reducible refine Sy.is_store ?_); (refine Sy.st_storeAll T F (h := ?_)); clear T F; intro ac w T F))
    | (((with_reducible refine Sy.is_build ?_); refine Sy.st_build T (h := ?_); (conv => whnf); (repeat (refine ⟨by first | exact rfl | exact ⟨rfl, rfl⟩, ?_⟩; (conv => whnf))); clear T; intro ac T))
    | (((with_reducible refine Sy.is_op ?_); refine Sy.st_pure T (h := ?_); clear T; intro ac T))
    | ((with_reducible refine Sy.is_cond ?_); (refine Sy.st_true T (h := ?_)))
    | (with_reducible refine wpList_nil ?_)
    | (with_reducible refine wp_region_lit ?_)
    | (with_reducible refine wp_ret ?_)
    | ((with_reducible refine wp_seq_k ?_); intro _ _)
    | (go_at_K; go_step)
    | (simp only [Exit.then, Exit.inBlock, ↓reduceIte, Nat.reduceEqDiff]))
  ((try simp only [Exit.inBlock, Exit.then]); refine Sy.st_ret2 T F rfl (by repeat (first | exact Sy.ResV.nil | apply Sy.ResV.tmp rfl | apply Sy.ResV.row rfl rfl rfl (by repeat (first | exact Sy.Take.here | apply Sy.Take.there)) (by rfl) | apply Sy.ResV.one rfl rfl rfl (by repeat (first | exact Sy.Take.here | apply Sy.Take.there)) (by rfl))) ?_)
  exact F.retV _
end Ms
end Go.Proofs.Ytniopkoaplkpkaa
