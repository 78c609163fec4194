/- The walks of the code's Eval and Holds. Conditions: the signs and the variables can be read. -/
import Derived.Test.YtdpmfjbhadapiaaExpV
namespace Go.Proofs.Ytdpmfjbhadapiaa
open Go.RowKit
set_option linter.unusedVariables false
namespace Ex

theorem below_dr (w : World) (n : Nat) : Below w.heap.size w (w.drewN n) := ⟨rfl, rfl, rfl, Nat.le_refl _, fun _ _ => rfl⟩

/-- the stack's cells -/
def stk (C : List Int) : Array Value := (C.map (Value.int .i64)).toArray
theorem stk_zero : stk (List.replicate 24 0) = #[.int .i64 0, .int .i64 0, .int .i64 0, .int .i64 0, .int .i64 0, .int .i64 0, .int .i64 0, .int .i64 0, .int .i64 0, .int .i64 0, .int .i64 0, .int .i64 0, .int .i64 0, .int .i64 0, .int .i64 0, .int .i64 0, .int .i64 0, .int .i64 0, .int .i64 0, .int .i64 0, .int .i64 0, .int .i64 0, .int .i64 0, .int .i64 0] := rfl
theorem stk_set (C : List Int) (j : Nat) (x : Int) : (stk C).setIfInBounds j (.int .i64 x) = stk (C.set j x) := by
  unfold stk; simp [List.map_set]

/-- the stack: its block, its numbers, those that count -/
def Stk (w : World) (sb : Nat) (C st : List Int) : Prop :=
  w.heap[sb]? = some (.cells (stk C) 106 (0, 0)) ∧ C.length = 24 ∧ (∀ x ∈ C, least ≤ x ∧ x ≤ most) ∧ st.length ≤ 24 ∧ C.take st.length = st.reverse

theorem Stk.cell {w : World} {sb : Nat} {C st : List Int} (h : Stk w sb C st) (j : Nat) (hj : j < 24) :
    ∃ x, w.cell? ⟨sb, j, none⟩ = some (.int .i64 x) ∧ w.frozen? ⟨sb, j, none⟩ = false ∧ (least ≤ x ∧ x ≤ most) ∧ (j < st.length → st.reverse[j]? = some x) := by
  obtain ⟨h1, h2, h3, h4, h5⟩ := h
  refine ⟨C[j]'(by omega), ?_, frozen_of_row _ _ _ _ _ h1, h3 _ (List.getElem_mem _), ?_⟩
  · rw [cell_of_row _ _ _ _ _ _ h1]
    unfold stk; simp
  · intro hj2
    rw [← h5, List.getElem?_take_of_lt hj2, List.getElem?_eq_getElem (by omega)]

theorem Stk.below {w w' : World} {sb : Nat} {C st : List Int} (h : Stk w sb C st) (hb : Below w.heap.size w w') : Stk w' sb C st := by
  obtain ⟨h1, h2⟩ := h
  exact ⟨by rw [hb.block sb (Array.getElem?_eq_some_iff.1 h1).1]; exact h1, h2⟩

theorem Stk.set {w : World} {sb : Nat} {C st r : List Int} (h : Stk w sb C st) (x : Int) (hx : least ≤ x ∧ x ≤ most) (p : List Int) (hst : st = p ++ r) (hr : r.length < 24) :
    Stk (w.setCell ⟨sb, r.length, none⟩ (.int .i64 x)) sb (C.set r.length x) (x :: r) := by
  obtain ⟨h1, h2, h3, h4, h5⟩ := h
  subst hst
  refine ⟨?_, by simpa using h2, ?_, by simp; omega, ?_⟩
  · rw [← stk_set]; exact heap_setCell_same _ _ _ _ _ _ h1
  · intro y hy
    rcases List.mem_or_eq_of_mem_set hy with h | h
    · exact h3 y h
    · rw [h]; exact hx
  · have h6 : C.take r.length = r.reverse := by
      have h7 : (C.take (p ++ r).length).take r.length = ((p ++ r).reverse).take r.length := by rw [h5]
      rw [List.take_take, List.length_append, Nat.min_eq_left (by omega), List.reverse_append] at h7
      rw [h7]
      exact List.take_left' (by simp)
    rw [List.length_cons, List.take_succ_eq_append_getElem (by simp; omega), List.take_set_of_le (Nat.le_refl _), h6]
    simp

theorem Stk.frame {w w' : World} {b0 sb : Nat} (hb : Below b0 w w') (hs : b0 ≤ sb) (j : Nat) (v : Value) : Below b0 w (w'.setCell ⟨sb, j, none⟩ v) :=
  hb.trans ⟨rfl, rfl, rfl, by simp, fun k hk => Below.heap_setCell w' ⟨sb, j, none⟩ v k (by simp; omega)⟩

theorem may_step {l : List Tok} {vn : Int} (h : mayS l vn = true) {k hh : Nat} (hk : k < l.length) (e : mayGo vn (l.take k) 0 = some hh) :
    right l[k] vn = true ∧ takes l[k].op ≤ hh ∧ mayGo vn (l.take (k + 1)) 0 = some (hh + 1 - takes l[k].op) := by
  have h1 := mayGo_take vn l k hh hk e
  unfold mayStep at h1
  by_cases g : right l[k] vn = true ∧ takes l[k].op ≤ hh
  · rw [if_pos g] at h1
    exact ⟨g.1, g.2, h1⟩
  · rw [if_neg g] at h1
    have := mayS_none h1
    rw [h] at this; cases this
theorem ev_take (vars : List Int) (arg : Int) (l : List Tok) (k : Nat) (hk : k < l.length) : evGo vars arg (l.take (k + 1)) [] = (evGo vars arg (l.take k) []).bind (evStep vars arg l[k]) := by
  rw [List.take_succ_eq_append_getElem hk, evGo_snoc]
theorem ev_none {vars : List Int} {arg : Int} {l : List Tok} {k : Nat} (h : evGo vars arg (l.take k) [] = none) : evGo vars arg l [] = none := by
  rw [← List.take_append_drop k l, evGo_app, h]; rfl
theorem ev_leaf {vars : List Int} {arg : Int} {t : Tok} (h : takes t.op = 0) (st : List Int) : evStep vars arg t st = some (leafS vars arg t :: st) := by simp [evStep, h]
theorem ev_not {vars : List Int} {arg : Int} {t : Tok} (h : takes t.op = 1) (x : Int) (st : List Int) : evStep vars arg t (x :: st) = some (truth (decide (x = 0)) :: st) := by simp [evStep, h]
theorem ev_two {vars : List Int} {arg : Int} {t : Tok} (h : takes t.op = 2) (b a : Int) (st : List Int) : evStep vars arg t (b :: a :: st) = (twoS t.op a b).map (· :: st) := by simp [evStep, h]

def RetE (w : World) (r : Int × Nat) (e : Ending) (w' : World) : Prop := e = .returned (.tuple #[.int .i64 r.1, .int .i64 (r.2 : Int)]) ∧ Below w.heap.size w w'

set_option maxHeartbeats 1600000 in
theorem eval_any (a : Option Addr) (n cap : Nat) (l : List Tok) (av : Option Addr) (nv cv : Nat) (vars : List Int) (arg : Int) (w : World) (hl : Toks w a n l) (hv : Ints w av nv vars) (harg : least ≤ arg ∧ arg ≤ most) :
    Calls Try.prog 39 #[.slice a n cap, .slice av nv cv, .int .i64 arg] w (RetE w (evalS l vars arg)) := by
  obtain rfl := hl.1
  obtain rfl := hv.1
  have hm := hl.2.1
  have hm2 := hv.2.1
  unfold maxLen at hm hm2
  have HL := Lib.hid hl
  have HV := Lib.hid hv
  have hfin : evalS l vars arg = if mayS l vars.length = true then (match evGo vars arg l [] with | none => (0, 18) | some st => (st.headD 0, 0)) else (0, 3) := rfl
  generalize evalS l vars arg = res at *
  have HF := Lib.hid hfin
  clear hfin hl hv
  cases hmay : mayS l vars.length
  · have hr : res = (0, 3) := by rw [HF.out, hmay]; rfl
    subst hr
    go_enter Try.func39, Try.ntmps39
    go_wp2_with fail
    refine (may_any _ _ _ _ _ _ HL.out).mono ?_
    rintro e w1 ⟨rfl, b1⟩
    rw [hmay]
    go_wp2_with fail
    go_ret2
    exact ⟨rfl, b1⟩
  · have hlen : l.length ≤ 24 := by
      unfold mayS at hmay
      rw [decide_eq_true_eq] at hmay
      exact hmay.1
    have MS := Lib.hid (fun k hh => @may_step l vars.length hmay k hh)
    have EV := Lib.hid (fun k => ev_take vars arg l k)
    have EN := Lib.hid (fun k => @ev_none vars arg l k)
    go_enter Try.func39, Try.ntmps39
    go_wp2_with fail
    refine (may_any _ _ _ _ _ _ HL.out).mono ?_
    rintro e w1 ⟨rfl, b1⟩
    rw [hmay]
    have HMAY := Lib.hid hmay
    clear hmay
    go_wp2_with fail
    have hs0 : Stk (w1.alloc (.cells (stk (List.replicate 24 0)) 106)) w1.heap.size (List.replicate 24 0) [] :=
      ⟨heap_alloc_new _ _, rfl, by intro x hx; rw [List.eq_of_mem_replicate hx]; unfold least most; omega, by simp, rfl⟩
    rw [stk_zero] at hs0
    have HS0 := Lib.hid hs0
    have hsb := b1.size
    have B1 := Lib.hid (bthen b1 (balloc w1 (.cells (stk (List.replicate 24 0)) 106)))
    clear hs0
    go_loopw [9, 21] (fun high i wr => ∃ (k : Nat) (C st : List Int), k ≤ l.length ∧ i = .int .i64 k ∧ high = .int .i64 st.length ∧ Hid (evGo vars arg (l.take k) [] = some st) ∧ Hid (mayGo vars.length (l.take k) 0 = some st.length) ∧ Hid (Stk wr w1.heap.size C st) ∧ st.length ≤ k ∧ Below w.heap.size w wr) (fun _ i _ => l.length - (intOf i).toNat)
    case atStart => exact ⟨0, _, [], Nat.zero_le _, rfl, rfl, Lib.hid rfl, Lib.hid rfl, HS0, Nat.le_refl _, B1.out⟩
    case round =>
      obtain ⟨k, C, st, hk, rfl, rfl, hev, hgo, hst, hsk, bl⟩ := hrel
      by_cases hlt : k < l.length
      · obtain ⟨b, o, ha, c0, c1, hok⟩ := (HL.out.mono bl).at k hlt
        obtain ⟨hr, ht, hgo2⟩ := MS.out k st.length hlt hgo.out
        have hev2 := EV.out k hlt
        rw [hev.out] at hev2
        have hen := EN.out (k + 1)
        simp only [Option.bind_some] at hev2
        rw [hev2] at hen
        have BA := Lib.hid (fun o => balloc wr o)
        have hszb : w1.heap.size < wr.heap.size := (Array.getElem?_eq_some_iff.1 hst.out.1).1
        have HSB := Lib.hid (show w.heap.size ≤ w1.heap.size from hsb)
        subst ha
        have HVR := Lib.hid (HV.out.mono bl)
        generalize l[k] = t at *
        obtain ⟨op, n⟩ := t
        obtain ⟨hop, hn⟩ := hok
        simp only at c0 c1 hop hn ht hgo2
        have HG := Lib.hid hgo2
        have HEN := Lib.hid hen
        clear hgo2 hen
        rcases (show takes op = 0 ∨ takes op = 1 ∨ takes op = 2 by have := takes_le op; omega) with h | h | h
        · rw [ev_leaf (t := ⟨op, n⟩) h] at hev2
          have HE := Lib.hid hev2
          have hT := Lib.hid h
          have hix : (st.length : Int) < 24 := by omega
          obtain ⟨y, hc, hfr, _, _⟩ := hst.out.cell st.length (by omega)
          clear hev2 ht
          rcases takes_0 h with rfl | rfl | rfl
          · have HX : Hid (least ≤ n ∧ n ≤ most) := Lib.hid hn
            have HE1 : Hid (evGo vars arg (l.take (k + 1)) [] = some (n :: st)) := Lib.hid HE.out
            clear h
            go_wp2_with fail
            refine (takes_any _ _).mono ?_
            rintro e w2 ⟨rfl, rfl⟩
            rw [hT.out]
            go_wp2_with fail
            go_roundw
            case rel => exact ⟨k + 1, _, n :: st, by omega, by go_num, by simp, Lib.hid HE1.out, Lib.hid (by rw [HG.out, hT.out]; simp), Lib.hid ((hst.out.set n HX.out [] rfl (by omega)).below (balloc _ _)), by simp; omega, (Stk.frame bl HSB.out _ _).trans ((balloc _ _).mono (by simpa using bl.size))⟩
            case measure => simp [intOf]; omega
          · clear h
            obtain ⟨n0, n1⟩ := right_two hr
            obtain ⟨v, rfl⟩ : ∃ v : Nat, n = v := ⟨n.toNat, by omega⟩
            obtain ⟨b2, o2, ha2, d0, hvb⟩ := HVR.out.at v (by omega)
            subst ha2
            have hleaf : leafS vars arg ⟨2, (v : Int)⟩ = vars[v] := by
              unfold leafS varAt
              simp
              rw [List.getElem?_eq_getElem (by omega)]; rfl
            have nn : ¬ b2 = wr.heap.size := Ne.symm (World.new_ne wr _ d0)
            have nl : b2 < wr.heap.size := World.block_lt_of_cell? wr _ d0
            have hvn : (v : Int) < (vars.length : Int) := by omega
            have hE2 := HE.out
            rw [hleaf] at hE2
            clear hleaf hr
            generalize vars[v] = x at *
            have HE1 := Lib.hid hE2
            have HX := Lib.hid hvb
            clear hE2
            go_wp2_with fail
            refine (takes_any _ _).mono ?_
            rintro e w2 ⟨rfl, rfl⟩
            rw [hT.out]
            go_wp2_with fail
            go_roundw
            case rel => exact ⟨k + 1, _, x :: st, by omega, by go_num, by simp, Lib.hid HE1.out, Lib.hid (by rw [HG.out, hT.out]; simp), Lib.hid ((hst.out.set x HX.out [] rfl (by omega)).below (balloc _ _)), by simp; omega, (Stk.frame bl HSB.out _ _).trans ((balloc _ _).mono (by simpa using bl.size))⟩
            case measure => simp [intOf]; omega
          · have HX : Hid (least ≤ arg ∧ arg ≤ most) := Lib.hid harg
            have HE1 : Hid (evGo vars arg (l.take (k + 1)) [] = some (arg :: st)) := Lib.hid HE.out
            clear h
            go_wp2_with fail
            refine (takes_any _ _).mono ?_
            rintro e w2 ⟨rfl, rfl⟩
            rw [hT.out]
            go_wp2_with fail
            go_roundw
            case rel => exact ⟨k + 1, _, arg :: st, by omega, by go_num, by simp, Lib.hid HE1.out, Lib.hid (by rw [HG.out, hT.out]; simp), Lib.hid ((hst.out.set arg HX.out [] rfl (by omega)).below (balloc _ _)), by simp; omega, (Stk.frame bl HSB.out _ _).trans ((balloc _ _).mono (by simpa using bl.size))⟩
            case measure => simp [intOf]; omega
        · have hT := Lib.hid h
          obtain rfl := takes_1 h
          cases st with
          | nil => rw [h] at ht; simp at ht
          | cons x st =>
            rw [ev_not (t := ⟨11, n⟩) h] at hev2
            have HE1 := Lib.hid hev2
            have hle : (x :: st).length = st.length + 1 := rfl
            rw [hle] at hsk ht
            have hix : (st.length : Int) < 24 := by omega
            obtain ⟨y, hc, hfr, hy, hyx⟩ := hst.out.cell st.length (by omega)
            have hyx2 := hyx (by simp)
            rw [List.reverse_cons, List.getElem?_append_right (by simp)] at hyx2
            simp at hyx2
            subst hyx2
            have HX := Lib.hid (truth_bd (decide (x = 0)))
            simp only [hle]
            clear hev2 ht hyx h hr hle
            go_wp2_with fail
            refine (takes_any _ _).mono ?_
            rintro e w2 ⟨rfl, rfl⟩
            rw [hT.out]
            go_wp2_with fail
            refine (truth_any _ _).mono ?_
            rintro e w2 ⟨rfl, rfl⟩
            rw [show truth (x == 0) = truth (decide (x = 0)) from rfl]
            generalize truth (decide (x = 0)) = z at *
            go_wp2_with fail
            go_roundw
            case rel => exact ⟨k + 1, _, z :: st, by omega, by go_num, by simp, Lib.hid HE1.out, Lib.hid (by rw [HG.out, hT.out]; simp), Lib.hid ((hst.out.set z HX.out [x] rfl (by omega)).below (balloc _ _)), by simp; omega, (Stk.frame bl HSB.out _ _).trans ((balloc _ _).mono (by simpa using bl.size))⟩
            case measure => simp [intOf]; omega
        · have hT := Lib.hid h
          have h3 := takes_2 h
          have e1 : ((op : Int) == 1) = false := by rw [beq_eq_false_iff_ne]; omega
          have e2 : ((op : Int) == 2) = false := by rw [beq_eq_false_iff_ne]; omega
          have e3 : ((op : Int) == 3) = false := by rw [beq_eq_false_iff_ne]; omega
          have e4 : ((op : Int) == 11) = false := by rw [beq_eq_false_iff_ne]; omega
          cases st with
          | nil => rw [h] at ht; simp at ht
          | cons y st =>
          cases st with
          | nil => rw [h] at ht; simp at ht
          | cons x st =>
            rw [ev_two (t := ⟨op, n⟩) h] at hev2 HEN
            have hle : (y :: x :: st).length = st.length + 2 := rfl
            rw [hle] at hsk ht
            have hix : (st.length : Int) < 24 := by omega
            have hix2 : (st.length : Int) + 1 < 24 := by omega
            obtain ⟨x', hc, hfr, hx, hxx⟩ := hst.out.cell st.length (by omega)
            have hxx2 := hxx (by simp only [List.length_cons]; omega)
            rw [show y :: x :: st = [y, x] ++ st from rfl, List.reverse_append, List.getElem?_append_right (by simp)] at hxx2
            simp at hxx2
            subst hxx2
            obtain ⟨y', hc2, hfr2, hy, hyy⟩ := hst.out.cell (st.length + 1) (by omega)
            have hyy2 := hyy (by simp only [List.length_cons]; omega)
            rw [show y :: x :: st = [y, x] ++ st from rfl, List.reverse_append, List.getElem?_append_right (by simp)] at hyy2
            simp at hyy2
            subst hyy2
            have HE := Lib.hid hev2
            have TW := Lib.hid (fun w => (two_any op x y w hx hy).mono fun e w' (h : _ ∧ _) => (⟨h.1, h.2.symm⟩ : e = _ ∧ w' = w))
            have T2 := Lib.hid (two_C op x y)
            have HX := Lib.hid (twoC_bd op x y)
            simp only [hle]
            clear hev2 ht hxx hyy h hr hle h3
            generalize (twoC op x y).1 = z at *
            generalize (twoC op x y).2 = bo at *
            cases bo with
            | true =>
              rw [if_pos rfl] at T2
              have HE1 : Hid (evGo vars arg (l.take (k + 1)) [] = some (z :: st)) := Lib.hid (by rw [HE.out, T2.out]; rfl)
              go_wp2_with fail
              refine (takes_any _ _).mono ?_
              rintro e w2 ⟨rfl, rfl⟩
              rw [hT.out]
              go_wp2_with fail
              have s1 : IntKind.i64.wrap ((st.length : Int) + 1) = (st.length : Int) + 1 := by rw [IntKind.wrap_i64]; omega
              have s2 : (0 : Int) ≤ (st.length : Int) + 1 := by omega
              have s3 : ((st.length : Int) + 1).toNat = st.length + 1 := by omega
              go_quiet ((go_at_call 62; exact Calls.quiet_of_same (TW.out _)))
              clear s1 s2 s3
              go_wp2_with fail
              refine ⟨⟨k + 1, _, z :: st, by omega, by go_num, by simp, HE1, Lib.hid (by rw [HG.out, hT.out]; simp), Lib.hid (((hst.out.below (balloc wr (.cells #[.int .u8 (op : Int), .int .i64 n] 108))).below (below_dr _ nq)).set z HX.out [y, x] rfl (by omega)), by simp; omega, Stk.frame ((bthen bl (balloc wr (.cells #[.int .u8 (op : Int), .int .i64 n] 108))).trans ((below_dr _ nq).mono (bthen bl (balloc wr _)).size)) HSB.out _ _⟩, by simp [intOf]; omega⟩
            | false =>
              rw [if_neg (by simp)] at T2
              have hr : res = (0, 18) := by rw [HF.out, if_pos HMAY.out, HEN.out (by rw [T2.out]; rfl)]
              subst hr
              go_wp2_with fail
              refine (takes_any _ _).mono ?_
              rintro e w2 ⟨rfl, rfl⟩
              rw [hT.out]
              go_wp2_with fail
              have s1 : IntKind.i64.wrap ((st.length : Int) + 1) = (st.length : Int) + 1 := by rw [IntKind.wrap_i64]; omega
              have s2 : (0 : Int) ≤ (st.length : Int) + 1 := by omega
              have s3 : ((st.length : Int) + 1).toNat = st.length + 1 := by omega
              go_quiet ((go_at_call 62; exact Calls.quiet_of_same (TW.out _)))
              clear s1 s2 s3
              go_wp2_with fail
              go_ret2
              exact ⟨rfl, (bthen bl (balloc wr (.cells #[.int .u8 (op : Int), .int .i64 n] 108))).trans ((below_dr _ nq).mono (bthen bl (balloc wr _)).size)⟩
      · obtain rfl : k = l.length := by omega
        have he := hev.out
        have hg := hgo.out
        rw [List.take_length] at he hg
        have h1 : st.length = 1 := by
          rw [may_go HMAY.out] at hg
          simpa using hg.symm
        match st, h1 with
        | [v], _ =>
          have hr : res = (v, 0) := by rw [HF.out, if_pos HMAY.out, he]; rfl
          obtain ⟨x, hc, hfr, hx, hxx⟩ := hst.out.cell 0 (by omega)
          have hxx2 := hxx (by simp)
          simp at hxx2
          subst hxx2
          subst hr
          clear he hg hxx
          go_wp2_with fail
          go_ret2
          exact ⟨rfl, bl⟩
end Ex
end Go.Proofs.Ytdpmfjbhadapiaa
