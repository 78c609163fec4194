/- The walks of the document's part and Eval and Holds. Conditions: the signs and the variables can be read. -/
import Derived.Test.YtdpmfjbhadapiaaExpN
namespace Go.Proofs.Ytdpmfjbhadapiaa
open Go.RowKit
set_option linter.unusedVariables false
namespace Ex

/-- a pair: a value and true, or something and false -/
def PartP (w : World) (r : Option Int) (e : Ending) (w' : World) : Prop :=
  ∃ x b, e = .returned (.tuple #[.int .i64 x, .bool b]) ∧ (least ≤ x ∧ x ≤ most) ∧ Below w.heap.size w w' ∧ (b = true → r = some x) ∧ (b = false → r = none)

theorem truth_bd (b : Bool) : least ≤ truth b ∧ truth b ≤ most := by cases b <;> (unfold truth least most; simp)
theorem wrap_bd (x : Int) : least ≤ wrap64 x ∧ wrap64 x ≤ most := by unfold wrap64 least most; omega
theorem twoC_bd (op : Nat) (a b : Int) : least ≤ (twoC op a b).1 ∧ (twoC op a b).1 ≤ most := by
  unfold twoC
  repeat' split
  all_goals first | exact wrap_bd _ | exact truth_bd _
theorem twoR_bd (op : Nat) (a b : Int) : least ≤ (twoR op a b).1 ∧ (twoR op a b).1 ≤ most := by
  unfold twoR timesR
  repeat' split
  all_goals first | exact twoC_bd _ _ _ | exact wrap_bd _ | (unfold least most; simp)

theorem takes_0 {op : Nat} (h : takes op = 0) : op = 1 ∨ op = 2 ∨ op = 3 := by
  unfold takes at h
  by_cases g : op = 1 ∨ op = 2 ∨ op = 3
  · exact g
  · rw [if_neg g] at h; split at h <;> omega
theorem takes_1 {op : Nat} (h : takes op = 1) : op = 11 := by
  unfold takes at h
  by_cases g : op = 1 ∨ op = 2 ∨ op = 3
  · rw [if_pos g] at h; omega
  · rw [if_neg g] at h
    by_cases g2 : op = 11
    · exact g2
    · rw [if_neg g2] at h; omega
theorem takes_2 {op : Nat} (h : takes op = 2) : op ≠ 1 ∧ op ≠ 2 ∧ op ≠ 3 ∧ op ≠ 11 := by
  unfold takes at h
  by_cases g : op = 1 ∨ op = 2 ∨ op = 3
  · rw [if_pos g] at h; omega
  · rw [if_neg g] at h
    by_cases g2 : op = 11
    · rw [if_pos g2] at h; omega
    · omega

theorem right_two {n v : Int} (h : right ⟨2, n⟩ v = true) : 0 ≤ n ∧ n < v := by
  unfold right at h
  simpa using h

theorem part_any (a : Option Addr) (cap : Nat) (l : List Tok) (av : Option Addr) (nv cv : Nat) (vars : List Int) (arg : Int) (harg : least ≤ arg ∧ arg ≤ most) (hrt : ∀ t ∈ l, right t vars.length = true) :
    ∀ (m e : Nat) (f : Nat) (x : Int) (w : World), e ≤ m → e ≤ f → e ≤ l.length → x + 1 = e → (skip 1 (l.take e).reverse).isSome = true → Toks w a l.length l → Ints w av nv vars →
    Calls Try.prog 64 #[.slice a l.length cap, .int .i64 x, .slice av nv cv, .int .i64 arg] w (PartP w (partS vars arg f (l.take e).reverse)) := by
  intro m
  induction m with
  | zero =>
    intro e f x w hem hef hel hx hsk hl hv
    obtain rfl : e = 0 := by omega
    simp [skip] at hsk
  | succ m ih =>
    intro e f x w hem hef hel hx hsk hl hv
    cases e with
    | zero => simp [skip] at hsk
    | succ e =>
      cases f with
      | zero => omega
      | succ f =>
      obtain rfl : x = (e : Int) := by omega
      clear hx
      have hm := hl.2.1
      unfold maxLen at hm
      obtain ⟨b, o, ha, c0, c1, hok⟩ := hl.at e (by omega)
      have hright := hrt l[e] (List.getElem_mem _)
      subst ha
      have IH := Lib.hid ih
      have HL := Lib.hid hl
      have HV := Lib.hid hv
      have hr := rev_take l e (by omega)
      rw [hr] at hsk ⊢
      have hi1 : (e : Int) < (l.length : Int) := by omega
      have HD := Lib.hid (drop_rev l e)
      have hrl : (l.take e).reverse.length = e := by simp; omega
      have HRL := Lib.hid hrl
      have HB := Lib.hid (fun o => balloc w o)
      clear ih hl hv hr hrl hrt
      generalize l[e] = t at *
      obtain ⟨op, n⟩ := t
      obtain ⟨hop, hn⟩ := hok
      simp only at c0 c1 hop hn
      rcases (show takes op = 0 ∨ takes op = 1 ∨ takes op = 2 by have := takes_le op; omega) with h | h | h
      · have hfin : partS vars arg (f + 1) (⟨op, n⟩ :: (l.take e).reverse) = some (leafS vars arg ⟨op, n⟩) := by simp only [partS]; rw [if_pos h]
        rw [hfin]
        clear hfin hsk
        rcases takes_0 h with rfl | rfl | rfl
        · clear h
          go_enter Try.func64, Try.ntmps64
          go_wp2_with fail
          go_ret2
          exact ⟨_, _, rfl, hn, HB.out _, fun _ => rfl, fun h => by cases h⟩
        · clear h
          obtain ⟨n0, n1⟩ := right_two hright
          clear hright
          obtain ⟨k, rfl⟩ : ∃ k : Nat, n = k := ⟨n.toNat, by omega⟩
          obtain ⟨b2, o2, ha2, d0, hvb⟩ := HV.out.at k (by omega)
          subst ha2
          have hleaf : leafS vars arg ⟨2, (k : Int)⟩ = vars[k] := by
            unfold leafS varAt
            simp
            rw [List.getElem?_eq_getElem (by omega)]; rfl
          have HLF := Lib.hid hleaf
          have hnv := HV.out.1
          have hkn : (k : Int) < (nv : Int) := by omega
          have HN := Lib.hid hnv
          have nn : ¬ b2 = w.heap.size := Ne.symm (World.new_ne w _ d0)
          have nl : b2 < w.heap.size := World.block_lt_of_cell? w _ d0
          clear hleaf hnv
          rw [HLF.out]
          generalize vars[k] = vk at *
          go_enter Try.func64, Try.ntmps64
          go_wp2_with fail
          go_ret2
          exact ⟨_, _, rfl, hvb, HB.out _, fun _ => rfl, fun h => by cases h⟩
        · clear h
          go_enter Try.func64, Try.ntmps64
          go_wp2_with fail
          go_ret2
          exact ⟨_, _, rfl, harg, HB.out _, fun _ => rfl, fun h => by cases h⟩
      · obtain rfl := takes_1 h
        have hsk2 : (skip 1 (l.take e).reverse).isSome = true := hsk
        have hfin : partS vars arg (f + 1) (⟨11, n⟩ :: (l.take e).reverse) = (partS vars arg f (l.take e).reverse).map fun b => truth (decide (b = 0)) := by
          simp only [partS]
          rw [if_neg (by omega)]
          cases partS vars arg f (l.take e).reverse with
          | none => rfl
          | some b => simp only [Option.map_some]; rw [if_pos h]
        generalize partS vars arg (f + 1) (⟨11, n⟩ :: (l.take e).reverse) = res at *
        have HF := Lib.hid hfin
        have HSK := Lib.hid hsk2
        clear hfin hsk hsk2 h
        go_enter Try.func64, Try.ntmps64
        go_wp2_with fail
        refine (IH.out e f _ _ (by omega) (by omega) (by omega) (by omega) HSK.out (HL.out.mono (HB.out _)) (HV.out.mono (HB.out _))).mono ?_
        rintro en w1 ⟨y, bo, rfl, hy, b1, hb1, hb2⟩
        have q0 := (cell_new b1 0).trans (show _ = some (Value.int .u8 11) from rfl)
        have B01 := Lib.hid (bthen (HB.out _) b1)
        clear b1
        cases bo with
        | false =>
          have HR := Lib.hid (hb2 rfl)
          clear hb1 hb2
          go_wp2_with fail
          go_ret2
          exact ⟨_, _, rfl, by unfold least most; omega, B01.out, (fun h => by cases h), fun _ => by rw [HF.out, HR.out]; rfl⟩
        | true =>
          have HR := Lib.hid (hb1 rfl)
          clear hb1 hb2
          go_wp2_with fail
          refine (truthR_any _ _).mono ?_
          rintro en w2 ⟨rfl, rfl⟩
          go_wp2_with fail
          go_ret2
          refine ⟨_, _, rfl, truth_bd _, B01.out, fun _ => by rw [HF.out, HR.out]; rfl, fun h => by cases h⟩
      · have h3 := takes_2 h
        have e1 : ((op : Int) == 1) = false := by rw [beq_eq_false_iff_ne]; omega
        have e2 : ((op : Int) == 2) = false := by rw [beq_eq_false_iff_ne]; omega
        have e3 : ((op : Int) == 3) = false := by rw [beq_eq_false_iff_ne]; omega
        have e4 : ((op : Int) == 11) = false := by rw [beq_eq_false_iff_ne]; omega
        rw [skip_two (t := ⟨op, n⟩) h] at hsk
        cases hs1 : skip 1 (l.take e).reverse with
        | none => rw [hs1] at hsk; simp at hsk
        | some r1 =>
          rw [hs1] at hsk
          have hd := skip_drop _ _ _ hs1
          have hlen := skip_len _ _ _ hs1
          rw [HRL.out] at hlen
          have hd2 : r1 = (l.take r1.length).reverse := hd.trans (HD.out r1.length (by omega) (by omega))
          have hbeg : begS (l.take e).reverse = r1.length := by unfold begS; rw [hs1]
          have hsk1 : (skip 1 (l.take e).reverse).isSome = true := by rw [hs1]; rfl
          have hsk2 : (skip 1 (l.take r1.length).reverse).isSome = true := by rw [← hd2]; exact hsk
          have hfin : partS vars arg (f + 1) (⟨op, n⟩ :: (l.take e).reverse) = match partS vars arg f (l.take e).reverse with
              | none => none
              | some b => match partS vars arg f (l.take r1.length).reverse with
                | none => none
                | some a => twoS op a b := by
            simp only [partS]
            rw [if_neg (by omega)]
            cases partS vars arg f (l.take e).reverse with
            | none => rfl
            | some b => simp only; rw [if_neg (by omega)]; simp only [hs1]; rw [← hd2]; rfl
          generalize partS vars arg (f + 1) (⟨op, n⟩ :: (l.take e).reverse) = res at *
          have HF := Lib.hid hfin
          have HSK1 := Lib.hid hsk1
          have HSK2 := Lib.hid hsk2
          have HBEG := Lib.hid hbeg
          generalize r1.length = c at *
          clear hfin hsk hsk2 hsk1 hbeg hd hd2 hs1 h HD HRL h3
          go_enter Try.func64, Try.ntmps64
          go_wp2_with fail
          refine (IH.out e f _ _ (by omega) (by omega) (by omega) (by omega) HSK1.out (HL.out.mono (HB.out _)) (HV.out.mono (HB.out _))).mono ?_
          rintro en w1 ⟨y, bo, rfl, hy, b1, hb1, hb2⟩
          have q0 := (cell_new b1 0).trans (show _ = some (Value.int .u8 (op : Int)) from rfl)
          have B01 := Lib.hid (bthen (HB.out _) b1)
          clear b1
          cases bo with
          | false =>
            have HR := Lib.hid (hb2 rfl)
            clear hb1 hb2
            go_wp2_with fail
            go_ret2
            exact ⟨_, _, rfl, by unfold least most; omega, B01.out, (fun h => by cases h), fun _ => by rw [HF.out, HR.out]⟩
          | true =>
            have HR := Lib.hid (hb1 rfl)
            clear hb1 hb2
            have hw1 : w.heap.size < w1.heap.size := World.block_lt_of_cell? w1 _ q0
            go_wp2_with fail
            refine (begins_any _ _ l e e _ _ (Nat.le_refl _) (by omega) (by omega) (HL.out.mono B01.out)).mono ?_
            rintro en w2 ⟨rfl, rfl⟩
            rw [HBEG.out]
            go_wp2_with fail
            refine (IH.out c f _ _ (by omega) (by omega) (by omega) (by omega) HSK2.out (HL.out.mono B01.out) (HV.out.mono B01.out)).mono ?_
            rintro en w3 ⟨z, bo, rfl, hz, b3, hb1, hb2⟩
            have q3 := (b3.cell (p := ⟨w.heap.size, 0, none⟩) hw1).trans q0
            have B03 := Lib.hid (bthen B01.out b3)
            clear b3 q0
            cases bo with
            | false =>
              have HR2 := Lib.hid (hb2 rfl)
              clear hb1 hb2
              go_wp2_with fail
              go_ret2
              exact ⟨_, _, rfl, by unfold least most; omega, B03.out, (fun h => by cases h), fun _ => by rw [HF.out, HR.out, HR2.out]⟩
            | true =>
              have HR2 := Lib.hid (hb1 rfl)
              clear hb1 hb2
              go_wp2_with fail
              refine (twoR_any op z y _ hz hy).mono ?_
              rintro en w4 ⟨rfl, b4⟩
              have hbd := twoR_bd op z y
              have h2 := two_R op z y
              generalize (twoR op z y).1 = v at *
              generalize (twoR op z y).2 = bo at *
              have H2 := Lib.hid h2
              clear h2
              go_wp2_with fail
              go_ret2
              refine ⟨_, _, rfl, hbd, bthen B03.out b4, fun hb => ?_, fun hb => ?_⟩
              · rw [HF.out, HR.out, HR2.out]
                simp only
                rw [H2.out, if_pos hb]
              · rw [HF.out, HR.out, HR2.out]
                simp only
                rw [H2.out, if_neg (by rw [hb]; simp)]

/-- the document's value, or its error -/
theorem evalR_any (a : Option Addr) (n cap : Nat) (l : List Tok) (av : Option Addr) (nv cv : Nat) (vars : List Int) (arg : Int) (w : World) (hl : Toks w a n l) (hv : Ints w av nv vars) (harg : least ≤ arg ∧ arg ≤ most) :
    Calls Try.prog 40 #[.slice a n cap, .slice av nv cv, .int .i64 arg] w fun e w' => e = .returned (.tuple #[.int .i64 (refEvalS l vars arg).1, .int .i64 ((refEvalS l vars arg).2 : Int)]) ∧ Below w.heap.size w w' := by
  obtain rfl := hl.1
  obtain rfl := hv.1
  have hm := hl.2.1
  have hm2 := hv.2.1
  unfold maxLen at hm hm2
  have HL := Lib.hid hl
  have HV := Lib.hid hv
  have hfin : refEvalS l vars arg = if refMayS l vars.length = true then (match partS vars arg l.length l.reverse with | none => (0, 18) | some v => (v, 0)) else (0, 3) := rfl
  have hml : refMayS l vars.length = true → 0 < l.length ∧ (∀ t ∈ l, right t vars.length = true) ∧ (skip 1 (l.take l.length).reverse).isSome = true := by
    intro h
    rw [← may_eq] at h
    have h1 := may_go h
    refine ⟨?_, mayGo_right _ _ _ _ h1, ?_⟩
    · cases l with
      | nil => simp [mayGo] at h1
      | cons t l => simp
    · rw [List.take_length, may_skip1 h]; rfl
  generalize refEvalS l vars arg = res at *
  have HF := Lib.hid hfin
  have HML := Lib.hid hml
  clear hfin hml hl hv
  cases hmay : refMayS l vars.length
  · have hr : res = (0, 3) := by rw [HF.out, hmay]; rfl
    subst hr
    go_enter Try.func40, Try.ntmps40
    go_wp2_with fail
    refine (mayR_any _ _ _ _ _ _ HL.out).mono ?_
    rintro e w1 ⟨rfl, b1⟩
    rw [hmay]
    go_wp2_with fail
    go_ret2
    exact ⟨rfl, b1⟩
  · obtain ⟨h1, h2, h3⟩ := HML.out hmay
    have HR := Lib.hid h2
    have HSK := Lib.hid h3
    clear h2 h3
    have hx : (l.length : Int) - 1 + 1 = (l.length : Int) := by omega
    have HX := Lib.hid hx
    clear hx
    go_enter Try.func40, Try.ntmps40
    go_wp2_with fail
    refine (mayR_any _ _ _ _ _ _ HL.out).mono ?_
    rintro e w1 ⟨rfl, b1⟩
    rw [hmay]
    have HMAY := Lib.hid hmay
    clear hmay
    go_wp2_with fail
    refine (part_any _ _ l _ _ _ vars arg harg HR.out l.length l.length l.length _ _ (Nat.le_refl _) (Nat.le_refl _) (Nat.le_refl _) HX.out HSK.out (HL.out.mono b1) (HV.out.mono b1)).mono ?_
    rintro e w2 ⟨x, b, rfl, hb, b2, k1, k2⟩
    rw [List.take_length] at k1 k2
    have K1 := Lib.hid k1
    have K2 := Lib.hid k2
    clear k1 k2
    cases b
    · have hr : res = (0, 18) := by rw [HF.out, if_pos HMAY.out, K2.out rfl]
      subst hr
      go_wp2_with fail
      go_ret2
      exact ⟨rfl, bthen b1 b2⟩
    · have hr : res = (x, 0) := by rw [HF.out, if_pos HMAY.out, K1.out rfl]
      subst hr
      go_wp2_with fail
      go_ret2
      exact ⟨rfl, bthen b1 b2⟩
end Ex
end Go.Proofs.Ytdpmfjbhadapiaa
