/- The walks of the document's begins and May. Conditions: the signs can be read. The walks of the document's part and Eval and Holds. Conditions: the signs and the variables can be read. The walks of the code's Eval and Holds. Conditions: the signs and the variables can be read. The walks of Holds, the document's Holds, the example; slices of signs that the call makes, and append on them. Conditions: the signs and the variables can be read. What a formula comes to lies in its kind. Conditions: so do the signs, the variables and the argument. -/
import Derived.Test.YtdpmfjbhadapiaaExpP
namespace Go.Proofs.Ytdpmfjbhadapiaa
open Go.RowKit
set_option linter.unusedVariables false
namespace Ex

theorem rev_take (l : List Tok) (e : Nat) (h : e < l.length) : (l.take (e + 1)).reverse = l[e] :: (l.take e).reverse := by
  rw [List.take_succ_eq_append_getElem h, List.reverse_append]; rfl
theorem drop_rev (l : List Tok) (e b : Nat) (he : e ≤ l.length) (hb : b ≤ e) : (l.take e).reverse.drop ((l.take e).reverse.length - b) = (l.take b).reverse := by
  rw [List.drop_reverse]
  congr 1
  rw [List.length_reverse, List.length_take, Nat.min_eq_left he, Nat.sub_sub_self hb, List.take_take, Nat.min_eq_left hb]
theorem begS_bd (r : List Tok) : -1 ≤ begS r ∧ begS r ≤ r.length := by
  unfold begS
  cases h : skip 1 r with
  | none => simp only; omega
  | some r' =>
    have := skip_len r 1 r' h
    simp only; omega

theorem begins_any (a : Option Addr) (cap : Nat) (l : List Tok) : ∀ (m e : Nat) (x : Int) (w : World), e ≤ m → e ≤ l.length → x + 1 = e → Toks w a l.length l →
    Calls Try.prog 93 #[.slice a l.length cap, .int .i64 x] w fun en w' => en = .returned (.int .i64 (begS (l.take e).reverse)) ∧ w = w' := by
  intro m
  induction m with
  | zero =>
    intro e x w hem hel hx hl
    obtain rfl : e = 0 := by omega
    obtain rfl : x = -1 := by omega
    rw [show begS (l.take 0).reverse = -1 from rfl]
    clear hx hl hem hel
    go_enter Try.func93, Try.ntmps93
    go_wp2_with fail
    go_ret
    exact ⟨rfl, rfl⟩
  | succ m ih =>
    intro e x w hem hel hx hl
    cases e with
    | zero =>
      obtain rfl : x = -1 := by omega
      rw [show begS (l.take 0).reverse = -1 from rfl]
      clear hx hl hem hel
      go_enter Try.func93, Try.ntmps93
      go_wp2_with fail
      go_ret
      exact ⟨rfl, rfl⟩
    | succ e =>
      obtain rfl : x = (e : Int) := by omega
      clear hx
      have hm := hl.2.1
      unfold maxLen at hm
      obtain ⟨b, o, ha, c0, c1, hok⟩ := hl.at e (by omega)
      have HA := Lib.hid ha
      subst ha
      have IH := Lib.hid ih
      have HL := Lib.hid hl
      have hr := rev_take l e (by omega)
      rw [hr]
      have hi1 : (e : Int) < (l.length : Int) := by omega
      have HD := Lib.hid (drop_rev l e)
      have hrl : (l.take e).reverse.length = e := by simp; omega
      have HRL := Lib.hid hrl
      clear ih hl hr hrl c1 HA
      generalize l[e] = t at *
      obtain ⟨op, n⟩ := t
      simp only at c0
      rcases (show takes op = 0 ∨ takes op = 1 ∨ takes op = 2 by have := takes_le op; omega) with h | h | h
      · rw [begS_leaf (t := ⟨op, n⟩) h, HRL.out]
        have h3 : op = 1 ∨ op = 2 ∨ op = 3 := by unfold takes at h; split at h <;> first | assumption | (split at h <;> omega)
        clear h
        rcases h3 with rfl | rfl | rfl
        all_goals
          go_enter Try.func93, Try.ntmps93
          go_wp2_with fail
          go_ret
          exact ⟨rfl, rfl⟩
      · rw [begS_not (t := ⟨op, n⟩) h]
        obtain rfl : op = 11 := by unfold takes at h; split at h <;> first | omega | (split at h <;> first | assumption | omega)
        clear h
        go_enter Try.func93, Try.ntmps93
        go_wp2_with fail
        refine (IH.out e _ _ (by omega) (by omega) (by omega) HL.out).mono ?_
        rintro en w1 ⟨rfl, rfl⟩
        go_wp2_with fail
        go_ret
        exact ⟨rfl, rfl⟩
      · have h3 : ¬ (op = 1 ∨ op = 2 ∨ op = 3) ∧ op ≠ 11 := by
          unfold takes at h
          by_cases g : op = 1 ∨ op = 2 ∨ op = 3
          · rw [if_pos g] at h; omega
          · rw [if_neg g] at h
            by_cases g2 : op = 11
            · rw [if_pos g2] at h; omega
            · exact ⟨g, g2⟩
        have HT := Lib.hid h
        clear h
        have e1 : ((op : Int) == 1) = false := by simp; omega
        have e2 : ((op : Int) == 2) = false := by simp; omega
        have e3 : ((op : Int) == 3) = false := by simp; omega
        have e4 : ((op : Int) == 11) = false := by simp; omega
        clear h3
        have hbd := begS_bd (l.take e).reverse
        have hcase : begS (l.take e).reverse < 0 ∨ ∃ b' : Nat, begS (l.take e).reverse = b' := by
          rcases Int.lt_or_le (begS (l.take e).reverse) 0 with h | h
          · exact .inl h
          · exact .inr ⟨(begS (l.take e).reverse).toNat, by omega⟩
        rcases hcase with hc | ⟨b', hc⟩
        · rw [begS_two_no (t := ⟨op, n⟩) HT.out hc]
          clear HD HRL
          go_enter Try.func93, Try.ntmps93
          go_wp2_with fail
          refine (IH.out e _ _ (by omega) (by omega) (by omega) HL.out).mono ?_
          rintro en w1 ⟨rfl, rfl⟩
          generalize begS (l.take e).reverse = bi at *
          go_wp2_with fail
          go_ret
          exact ⟨rfl, rfl⟩
        · obtain ⟨h5, h6⟩ := begS_two (t := ⟨op, n⟩) HT.out hc
          rw [HRL.out] at h6
          rw [h5, HD.out b' (by omega) (by omega)]
          have HC := Lib.hid hc
          clear hc h5 hbd HD HRL
          go_enter Try.func93, Try.ntmps93
          go_wp2_with fail
          refine (IH.out e _ _ (by omega) (by omega) (by omega) HL.out).mono ?_
          rintro en w1 ⟨rfl, rfl⟩
          rw [HC.out]
          go_wp2_with fail
          refine (IH.out b' _ _ (by omega) (by omega) (by omega) HL.out).mono ?_
          rintro en w1 ⟨rfl, rfl⟩
          go_wp2_with fail
          go_ret
          exact ⟨rfl, rfl⟩

theorem right_cases (op : Nat) (n vars : Int) :
    (op = 0 ∧ right ⟨op, n⟩ vars = false) ∨ (11 < op ∧ right ⟨op, n⟩ vars = false) ∨ (op = 1 ∧ right ⟨op, n⟩ vars = true) ∨ (op = 2 ∧ n < 0 ∧ right ⟨op, n⟩ vars = false) ∨
    (op = 2 ∧ 0 ≤ n ∧ vars ≤ n ∧ right ⟨op, n⟩ vars = false) ∨ (op = 2 ∧ 0 ≤ n ∧ n < vars ∧ right ⟨op, n⟩ vars = true) ∨
    (3 ≤ op ∧ op ≤ 11 ∧ n = 0 ∧ right ⟨op, n⟩ vars = true) ∨ (3 ≤ op ∧ op ≤ 11 ∧ n ≠ 0 ∧ right ⟨op, n⟩ vars = false) := by
  unfold right
  simp only
  by_cases h1 : op = 1
  · simp [h1]
  by_cases h2 : op = 2
  · subst h2
    simp
    omega
  rw [if_neg h1, if_neg h2]
  simp only [decide_eq_true_eq, decide_eq_false_iff_not]
  omega

set_option maxHeartbeats 1600000 in
theorem mayR_any (a : Option Addr) (n cap : Nat) (l : List Tok) (vars : Int) (w : World) (hl : Toks w a n l) :
    Calls Try.prog 63 #[.slice a n cap, .int .i64 vars] w (RetBo w (refMayS l vars)) := by
  have hm := hl.2.1
  unfold maxLen at hm
  obtain rfl := hl.1
  have HL := Lib.hid hl
  have HS := Lib.hid (show refMayS l vars = decide (0 < l.length ∧ l.length ≤ 24 ∧ (∀ t ∈ l, right t vars = true) ∧ begS l.reverse = 0) from rfl)
  have B0 := Lib.hid (Below.refl w.heap.size w)
  have BG := Lib.hid (fun w' (h : Toks w' a l.length l) => begins_any a cap l l.length l.length ((l.length : Int) - 1) w' (Nat.le_refl _) (Nat.le_refl _) (by omega) h)
  clear hl
  by_cases h0 : l.length = 0
  · have hf : refMayS l vars = false := by rw [HS.out, decide_eq_false_iff_not]; rintro ⟨h2, h3, _⟩; omega
    have HF := Lib.hid hf
    have t0 : ((l.length : Int) == 0) = true := by simp [h0]
    clear hf h0
    go_enter Try.func63, Try.ntmps63
    go_wp2_with fail
    go_ret
    exact retBo HF.out.symm B0.out
  have t0 : ((l.length : Int) == 0) = false := by rw [beq_eq_false_iff_ne]; omega
  have H0 := Lib.hid h0
  clear h0
  by_cases h1 : 24 < l.length
  · have hf : refMayS l vars = false := by rw [HS.out, decide_eq_false_iff_not]; rintro ⟨h2, h3, _⟩; omega
    have HF := Lib.hid hf
    clear hf
    go_enter Try.func63, Try.ntmps63
    go_wp2_with fail
    go_ret
    exact retBo HF.out.symm B0.out
  have t1 : ¬ (24 < (l.length : Int)) := by omega
  go_enter Try.func63, Try.ntmps63
  go_wp2_with fail
  go_loopw [17] (fun i wr => ∃ k : Nat, k ≤ l.length ∧ i = .int .i64 k ∧ Hid (∀ t ∈ l.take k, right t vars = true) ∧ Below w.heap.size w wr) (fun i _ => l.length - (intOf i).toNat)
  case atStart => exact ⟨0, Nat.zero_le _, rfl, Lib.hid (by simp), B0.out⟩
  case round =>
    obtain ⟨k, hk, rfl, hg, bl⟩ := hrel
    by_cases hlt : k < l.length
    · obtain ⟨b, o, ha, c0, c1, hok⟩ := (HL.out.mono bl).at k hlt
      have hst : ∀ t ∈ l.take (k + 1), right l[k] vars = true → right t vars = true := by
        intro t ht hr
        rw [List.take_succ_eq_append_getElem hlt] at ht
        rcases List.mem_append.1 ht with h | h
        · exact hg.out t h
        · rw [List.mem_singleton.1 h]; exact hr
      have hmem : l[k] ∈ l := List.getElem_mem _
      have HST := Lib.hid hst
      have HM := Lib.hid hmem
      have hbal := fun o => balloc wr o
      have HB := Lib.hid hbal
      subst ha
      clear hst hmem hbal
      generalize l[k] = t at *
      obtain ⟨op, x⟩ := t
      simp only at c0 c1
      have bad : right ⟨op, x⟩ vars = false → refMayS l vars = false := by
        intro h
        rw [HS.out, decide_eq_false_iff_not]
        rintro ⟨_, _, h2, _⟩
        rw [h2 _ HM.out] at h
        cases h
      have HBAD := Lib.hid bad
      clear bad
      rcases right_cases op x vars with ⟨h2, h3⟩ | ⟨h2, h3⟩ | ⟨h2, h3⟩ | ⟨h2, h3, h4⟩ | ⟨h2, h3, h4, h5⟩ | ⟨h2, h3, h4, h5⟩ | ⟨h2, h3, h4, h5⟩ | ⟨h2, h3, h4, h5⟩
      · subst h2
        have HF := Lib.hid (HBAD.out h3)
        clear h3
        go_wp2_with fail
        go_ret
        exact retBo HF.out.symm (bthen bl (HB.out _))
      · have HF := Lib.hid (HBAD.out h3)
        clear h3
        have d1 : decide ((op : Int) < 1) = false := decide_eq_false (by omega)
        have d2 : decide (11 < (op : Int)) = true := decide_eq_true (by omega)
        go_wp2_with fail
        go_ret
        exact retBo HF.out.symm (bthen bl (HB.out _))
      · subst h2
        have HR := Lib.hid h3
        clear h3
        go_wp2_with fail
        go_roundw
        case rel => exact ⟨k + 1, by omega, by go_num, Lib.hid (fun t ht => HST.out t ht HR.out), bthen bl (HB.out _)⟩
        case measure => simp [intOf]; omega
      · subst h2
        have HF := Lib.hid (HBAD.out h4)
        clear h4
        have d1 : decide (x < 0) = true := decide_eq_true h3
        go_wp2_with fail
        go_ret
        exact retBo HF.out.symm (bthen bl (HB.out _))
      · subst h2
        have HF := Lib.hid (HBAD.out h5)
        clear h5
        have d1 : decide (x < 0) = false := decide_eq_false (by omega)
        have d2 : decide (vars ≤ x) = true := decide_eq_true h4
        go_wp2_with fail
        go_ret
        exact retBo HF.out.symm (bthen bl (HB.out _))
      · subst h2
        have HR := Lib.hid h5
        clear h5
        have d1 : decide (x < 0) = false := decide_eq_false (by omega)
        have d2 : decide (vars ≤ x) = false := decide_eq_false (by omega)
        go_wp2_with fail
        go_roundw
        case rel => exact ⟨k + 1, by omega, by go_num, Lib.hid (fun t ht => HST.out t ht HR.out), bthen bl (HB.out _)⟩
        case measure => simp [intOf]; omega
      · have HR := Lib.hid h5
        clear h5
        have d1 : decide ((op : Int) < 1) = false := decide_eq_false (by omega)
        have d2 : decide (11 < (op : Int)) = false := decide_eq_false (by omega)
        have d3 : ((op : Int) == 2) = false := by simp; omega
        have d4 : decide (2 < (op : Int)) = true := decide_eq_true (by omega)
        subst h4
        go_wp2_with fail
        go_roundw
        case rel => exact ⟨k + 1, by omega, by go_num, Lib.hid (fun t ht => HST.out t ht HR.out), bthen bl (HB.out _)⟩
        case measure => simp [intOf]; omega
      · have HF := Lib.hid (HBAD.out h5)
        clear h5
        have d1 : decide ((op : Int) < 1) = false := decide_eq_false (by omega)
        have d2 : decide (11 < (op : Int)) = false := decide_eq_false (by omega)
        have d3 : ((op : Int) == 2) = false := by simp; omega
        have d4 : decide (2 < (op : Int)) = true := decide_eq_true (by omega)
        have d5 : (x != 0) = true := by simp [h4]
        clear h4
        go_wp2_with fail
        go_ret
        exact retBo HF.out.symm (bthen bl (HB.out _))
    · obtain rfl : k = l.length := by omega
      have hg2 := hg.out
      rw [List.take_length] at hg2
      have HG := Lib.hid hg2
      clear hg2 hg
      go_wp2_with fail
      refine (BG.out _ (HL.out.mono bl)).mono ?_
      rintro en w1 ⟨rfl, rfl⟩
      rw [List.take_length]
      have hfin : refMayS l vars = (begS l.reverse == 0) := by
        rw [HS.out, Bool.eq_iff_iff]
        simp only [decide_eq_true_eq, beq_iff_eq]
        exact ⟨fun h => h.2.2.2, fun h => ⟨by have := H0.out; omega, by omega, HG.out, h⟩⟩
      have HF := Lib.hid hfin
      clear hfin
      generalize begS l.reverse = bi at *
      go_wp2_with fail
      go_ret
      exact retBo HF.out.symm bl
end Ex
end Go.Proofs.Ytdpmfjbhadapiaa
namespace Go.Proofs.Ytdpmfjbhadapiaa
open Go.RowKit
set_option linter.unusedVariables false
namespace Ex

/-- a pair: a value and true, or something and false -/
def PartP (w : World) (r : Option Int) (e : Ending) (w' : World) : Prop :=
  ∃ x b, e = .returned (.tuple #[.int .i64 x, .bool b]) ∧ (least ≤ x ∧ x ≤ most) ∧ Below w.heap.size w w' ∧ (b = true → r = some x) ∧ (b = false → r = none)

theorem truth_bd (b : Bool) : least ≤ truth b ∧ truth b ≤ most := by cases b <;> (unfold truth least most; simp)
theorem wrap_bd (x : Int) : least ≤ wrap64 x ∧ wrap64 x ≤ most := by unfold wrap64 least most; omega
theorem twoC_bd (op : Nat) (a b : Int) : least ≤ (twoC op a b).1 ∧ (twoC op a b).1 ≤ most := by
  unfold twoC
  repeat' split
  all_goals first | exact wrap_bd _ | exact truth_bd _
theorem twoR_bd (op : Nat) (a b : Int) : least ≤ (twoR op a b).1 ∧ (twoR op a b).1 ≤ most := by
  unfold twoR timesR
  repeat' split
  all_goals first | exact twoC_bd _ _ _ | exact wrap_bd _ | (unfold least most; simp)

theorem takes_0 {op : Nat} (h : takes op = 0) : op = 1 ∨ op = 2 ∨ op = 3 := by
  unfold takes at h
  by_cases g : op = 1 ∨ op = 2 ∨ op = 3
  · exact g
  · rw [if_neg g] at h; split at h <;> omega
theorem takes_1 {op : Nat} (h : takes op = 1) : op = 11 := by
  unfold takes at h
  by_cases g : op = 1 ∨ op = 2 ∨ op = 3
  · rw [if_pos g] at h; omega
  · rw [if_neg g] at h
    by_cases g2 : op = 11
    · exact g2
    · rw [if_neg g2] at h; omega
theorem takes_2 {op : Nat} (h : takes op = 2) : op ≠ 1 ∧ op ≠ 2 ∧ op ≠ 3 ∧ op ≠ 11 := by
  unfold takes at h
  by_cases g : op = 1 ∨ op = 2 ∨ op = 3
  · rw [if_pos g] at h; omega
  · rw [if_neg g] at h
    by_cases g2 : op = 11
    · rw [if_pos g2] at h; omega
    · omega

theorem right_two {n v : Int} (h : right ⟨2, n⟩ v = true) : 0 ≤ n ∧ n < v := by
  unfold right at h
  simpa using h

theorem part_any (a : Option Addr) (cap : Nat) (l : List Tok) (av : Option Addr) (nv cv : Nat) (vars : List Int) (arg : Int) (harg : least ≤ arg ∧ arg ≤ most) (hrt : ∀ t ∈ l, right t vars.length = true) :
    ∀ (m e : Nat) (f : Nat) (x : Int) (w : World), e ≤ m → e ≤ f → e ≤ l.length → x + 1 = e → (skip 1 (l.take e).reverse).isSome = true → Toks w a l.length l → Ints w av nv vars →
    Calls Try.prog 64 #[.slice a l.length cap, .int .i64 x, .slice av nv cv, .int .i64 arg] w (PartP w (partS vars arg f (l.take e).reverse)) := by
  intro m
  induction m with
  | zero =>
    intro e f x w hem hef hel hx hsk hl hv
    obtain rfl : e = 0 := by omega
    simp [skip] at hsk
  | succ m ih =>
    intro e f x w hem hef hel hx hsk hl hv
    cases e with
    | zero => simp [skip] at hsk
    | succ e =>
      cases f with
      | zero => omega
      | succ f =>
      obtain rfl : x = (e : Int) := by omega
      clear hx
      have hm := hl.2.1
      unfold maxLen at hm
      obtain ⟨b, o, ha, c0, c1, hok⟩ := hl.at e (by omega)
      have hright := hrt l[e] (List.getElem_mem _)
      subst ha
      have IH := Lib.hid ih
      have HL := Lib.hid hl
      have HV := Lib.hid hv
      have hr := rev_take l e (by omega)
      rw [hr] at hsk ⊢
      have hi1 : (e : Int) < (l.length : Int) := by omega
      have HD := Lib.hid (drop_rev l e)
      have hrl : (l.take e).reverse.length = e := by simp; omega
      have HRL := Lib.hid hrl
      have HB := Lib.hid (fun o => balloc w o)
      clear ih hl hv hr hrl hrt
      generalize l[e] = t at *
      obtain ⟨op, n⟩ := t
      obtain ⟨hop, hn⟩ := hok
      simp only at c0 c1 hop hn
      rcases (show takes op = 0 ∨ takes op = 1 ∨ takes op = 2 by have := takes_le op; omega) with h | h | h
      · have hfin : partS vars arg (f + 1) (⟨op, n⟩ :: (l.take e).reverse) = some (leafS vars arg ⟨op, n⟩) := by simp only [partS]; rw [if_pos h]
        rw [hfin]
        clear hfin hsk
        rcases takes_0 h with rfl | rfl | rfl
        · clear h
          go_enter Try.func64, Try.ntmps64
          go_wp2_with fail
          go_ret2
          exact ⟨_, _, rfl, hn, HB.out _, fun _ => rfl, fun h => by cases h⟩
        · clear h
          obtain ⟨n0, n1⟩ := right_two hright
          clear hright
          obtain ⟨k, rfl⟩ : ∃ k : Nat, n = k := ⟨n.toNat, by omega⟩
          obtain ⟨b2, o2, ha2, d0, hvb⟩ := HV.out.at k (by omega)
          subst ha2
          have hleaf : leafS vars arg ⟨2, (k : Int)⟩ = vars[k] := by
            unfold leafS varAt
            simp
            rw [List.getElem?_eq_getElem (by omega)]; rfl
          have HLF := Lib.hid hleaf
          have hnv := HV.out.1
          have hkn : (k : Int) < (nv : Int) := by omega
          have HN := Lib.hid hnv
          have nn : ¬ b2 = w.heap.size := Ne.symm (World.new_ne w _ d0)
          have nl : b2 < w.heap.size := World.block_lt_of_cell? w _ d0
          clear hleaf hnv
          rw [HLF.out]
          generalize vars[k] = vk at *
          go_enter Try.func64, Try.ntmps64
          go_wp2_with fail
          go_ret2
          exact ⟨_, _, rfl, hvb, HB.out _, fun _ => rfl, fun h => by cases h⟩
        · clear h
          go_enter Try.func64, Try.ntmps64
          go_wp2_with fail
          go_ret2
          exact ⟨_, _, rfl, harg, HB.out _, fun _ => rfl, fun h => by cases h⟩
      · obtain rfl := takes_1 h
        have hsk2 : (skip 1 (l.take e).reverse).isSome = true := hsk
        have hfin : partS vars arg (f + 1) (⟨11, n⟩ :: (l.take e).reverse) = (partS vars arg f (l.take e).reverse).map fun b => truth (decide (b = 0)) := by
          simp only [partS]
          rw [if_neg (by omega)]
          cases partS vars arg f (l.take e).reverse with
          | none => rfl
          | some b => simp only [Option.map_some]; rw [if_pos h]
        generalize partS vars arg (f + 1) (⟨11, n⟩ :: (l.take e).reverse) = res at *
        have HF := Lib.hid hfin
        have HSK := Lib.hid hsk2
        clear hfin hsk hsk2 h
        go_enter Try.func64, Try.ntmps64
        go_wp2_with fail
        refine (IH.out e f _ _ (by omega) (by omega) (by omega) (by omega) HSK.out (HL.out.mono (HB.out _)) (HV.out.mono (HB.out _))).mono ?_
        rintro en w1 ⟨y, bo, rfl, hy, b1, hb1, hb2⟩
        have q0 := (cell_new b1 0).trans (show _ = some (Value.int .u8 11) from rfl)
        have B01 := Lib.hid (bthen (HB.out _) b1)
        clear b1
        cases bo with
        | false =>
          have HR := Lib.hid (hb2 rfl)
          clear hb1 hb2
          go_wp2_with fail
          go_ret2
          exact ⟨_, _, rfl, by unfold least most; omega, B01.out, (fun h => by cases h), fun _ => by rw [HF.out, HR.out]; rfl⟩
        | true =>
          have HR := Lib.hid (hb1 rfl)
          clear hb1 hb2
          go_wp2_with fail
          refine (truthR_any _ _).mono ?_
          rintro en w2 ⟨rfl, rfl⟩
          go_wp2_with fail
          go_ret2
          refine ⟨_, _, rfl, truth_bd _, B01.out, fun _ => by rw [HF.out, HR.out]; rfl, fun h => by cases h⟩
      · have h3 := takes_2 h
        have e1 : ((op : Int) == 1) = false := by rw [beq_eq_false_iff_ne]; omega
        have e2 : ((op : Int) == 2) = false := by rw [beq_eq_false_iff_ne]; omega
        have e3 : ((op : Int) == 3) = false := by rw [beq_eq_false_iff_ne]; omega
        have e4 : ((op : Int) == 11) = false := by rw [beq_eq_false_iff_ne]; omega
        rw [skip_two (t := ⟨op, n⟩) h] at hsk
        cases hs1 : skip 1 (l.take e).reverse with
        | none => rw [hs1] at hsk; simp at hsk
        | some r1 =>
          rw [hs1] at hsk
          have hd := skip_drop _ _ _ hs1
          have hlen := skip_len _ _ _ hs1
          rw [HRL.out] at hlen
          have hd2 : r1 = (l.take r1.length).reverse := hd.trans (HD.out r1.length (by omega) (by omega))
          have hbeg : begS (l.take e).reverse = r1.length := by unfold begS; rw [hs1]
          have hsk1 : (skip 1 (l.take e).reverse).isSome = true := by rw [hs1]; rfl
          have hsk2 : (skip 1 (l.take r1.length).reverse).isSome = true := by rw [← hd2]; exact hsk
          have hfin : partS vars arg (f + 1) (⟨op, n⟩ :: (l.take e).reverse) = match partS vars arg f (l.take e).reverse with
              | none => none
              | some b => match partS vars arg f (l.take r1.length).reverse with
                | none => none
                | some a => twoS op a b := by
            simp only [partS]
            rw [if_neg (by omega)]
            cases partS vars arg f (l.take e).reverse with
            | none => rfl
            | some b => simp only; rw [if_neg (by omega)]; simp only [hs1]; rw [← hd2]; rfl
          generalize partS vars arg (f + 1) (⟨op, n⟩ :: (l.take e).reverse) = res at *
          have HF := Lib.hid hfin
          have HSK1 := Lib.hid hsk1
          have HSK2 := Lib.hid hsk2
          have HBEG := Lib.hid hbeg
          generalize r1.length = c at *
          clear hfin hsk hsk2 hsk1 hbeg hd hd2 hs1 h HD HRL h3
          go_enter Try.func64, Try.ntmps64
          go_wp2_with fail
          refine (IH.out e f _ _ (by omega) (by omega) (by omega) (by omega) HSK1.out (HL.out.mono (HB.out _)) (HV.out.mono (HB.out _))).mono ?_
          rintro en w1 ⟨y, bo, rfl, hy, b1, hb1, hb2⟩
          have q0 := (cell_new b1 0).trans (show _ = some (Value.int .u8 (op : Int)) from rfl)
          have B01 := Lib.hid (bthen (HB.out _) b1)
          clear b1
          cases bo with
          | false =>
            have HR := Lib.hid (hb2 rfl)
            clear hb1 hb2
            go_wp2_with fail
            go_ret2
            exact ⟨_, _, rfl, by unfold least most; omega, B01.out, (fun h => by cases h), fun _ => by rw [HF.out, HR.out]⟩
          | true =>
            have HR := Lib.hid (hb1 rfl)
            clear hb1 hb2
            have hw1 : w.heap.size < w1.heap.size := World.block_lt_of_cell? w1 _ q0
            go_wp2_with fail
            refine (begins_any _ _ l e e _ _ (Nat.le_refl _) (by omega) (by omega) (HL.out.mono B01.out)).mono ?_
            rintro en w2 ⟨rfl, rfl⟩
            rw [HBEG.out]
            go_wp2_with fail
            refine (IH.out c f _ _ (by omega) (by omega) (by omega) (by omega) HSK2.out (HL.out.mono B01.out) (HV.out.mono B01.out)).mono ?_
            rintro en w3 ⟨z, bo, rfl, hz, b3, hb1, hb2⟩
            have q3 := (b3.cell (p := ⟨w.heap.size, 0, none⟩) hw1).trans q0
            have B03 := Lib.hid (bthen B01.out b3)
            clear b3 q0
            cases bo with
            | false =>
              have HR2 := Lib.hid (hb2 rfl)
              clear hb1 hb2
              go_wp2_with fail
              go_ret2
              exact ⟨_, _, rfl, by unfold least most; omega, B03.out, (fun h => by cases h), fun _ => by rw [HF.out, HR.out, HR2.out]⟩
            | true =>
              have HR2 := Lib.hid (hb1 rfl)
              clear hb1 hb2
              go_wp2_with fail
              refine (twoR_any op z y _ hz hy).mono ?_
              rintro en w4 ⟨rfl, b4⟩
              have hbd := twoR_bd op z y
              have h2 := two_R op z y
              generalize (twoR op z y).1 = v at *
              generalize (twoR op z y).2 = bo at *
              have H2 := Lib.hid h2
              clear h2
              go_wp2_with fail
              go_ret2
              refine ⟨_, _, rfl, hbd, bthen B03.out b4, fun hb => ?_, fun hb => ?_⟩
              · rw [HF.out, HR.out, HR2.out]
                simp only
                rw [H2.out, if_pos hb]
              · rw [HF.out, HR.out, HR2.out]
                simp only
                rw [H2.out, if_neg (by rw [hb]; simp)]

/-- the document's value, or its error -/
theorem evalR_any (a : Option Addr) (n cap : Nat) (l : List Tok) (av : Option Addr) (nv cv : Nat) (vars : List Int) (arg : Int) (w : World) (hl : Toks w a n l) (hv : Ints w av nv vars) (harg : least ≤ arg ∧ arg ≤ most) :
    Calls Try.prog 40 #[.slice a n cap, .slice av nv cv, .int .i64 arg] w fun e w' => e = .returned (.tuple #[.int .i64 (refEvalS l vars arg).1, .int .i64 ((refEvalS l vars arg).2 : Int)]) ∧ Below w.heap.size w w' := by
  obtain rfl := hl.1
  obtain rfl := hv.1
  have hm := hl.2.1
  have hm2 := hv.2.1
  unfold maxLen at hm hm2
  have HL := Lib.hid hl
  have HV := Lib.hid hv
  have hfin : refEvalS l vars arg = if refMayS l vars.length = true then (match partS vars arg l.length l.reverse with | none => (0, 18) | some v => (v, 0)) else (0, 3) := rfl
  have hml : refMayS l vars.length = true → 0 < l.length ∧ (∀ t ∈ l, right t vars.length = true) ∧ (skip 1 (l.take l.length).reverse).isSome = true := by
    intro h
    rw [← may_eq] at h
    have h1 := may_go h
    refine ⟨?_, mayGo_right _ _ _ _ h1, ?_⟩
    · cases l with
      | nil => simp [mayGo] at h1
      | cons t l => simp
    · rw [List.take_length, may_skip1 h]; rfl
  generalize refEvalS l vars arg = res at *
  have HF := Lib.hid hfin
  have HML := Lib.hid hml
  clear hfin hml hl hv
  cases hmay : refMayS l vars.length
  · have hr : res = (0, 3) := by rw [HF.out, hmay]; rfl
    subst hr
    go_enter Try.func40, Try.ntmps40
    go_wp2_with fail
    refine (mayR_any _ _ _ _ _ _ HL.out).mono ?_
    rintro e w1 ⟨rfl, b1⟩
    rw [hmay]
    go_wp2_with fail
    go_ret2
    exact ⟨rfl, b1⟩
  · obtain ⟨h1, h2, h3⟩ := HML.out hmay
    have HR := Lib.hid h2
    have HSK := Lib.hid h3
    clear h2 h3
    have hx : (l.length : Int) - 1 + 1 = (l.length : Int) := by omega
    have HX := Lib.hid hx
    clear hx
    go_enter Try.func40, Try.ntmps40
    go_wp2_with fail
    refine (mayR_any _ _ _ _ _ _ HL.out).mono ?_
    rintro e w1 ⟨rfl, b1⟩
    rw [hmay]
    have HMAY := Lib.hid hmay
    clear hmay
    go_wp2_with fail
    refine (part_any _ _ l _ _ _ vars arg harg HR.out l.length l.length l.length _ _ (Nat.le_refl _) (Nat.le_refl _) (Nat.le_refl _) HX.out HSK.out (HL.out.mono b1) (HV.out.mono b1)).mono ?_
    rintro e w2 ⟨x, b, rfl, hb, b2, k1, k2⟩
    rw [List.take_length] at k1 k2
    have K1 := Lib.hid k1
    have K2 := Lib.hid k2
    clear k1 k2
    cases b
    · have hr : res = (0, 18) := by rw [HF.out, if_pos HMAY.out, K2.out rfl]
      subst hr
      go_wp2_with fail
      go_ret2
      exact ⟨rfl, bthen b1 b2⟩
    · have hr : res = (x, 0) := by rw [HF.out, if_pos HMAY.out, K1.out rfl]
      subst hr
      go_wp2_with fail
      go_ret2
      exact ⟨rfl, bthen b1 b2⟩
end Ex
end Go.Proofs.Ytdpmfjbhadapiaa
namespace Go.Proofs.Ytdpmfjbhadapiaa
open Go.RowKit
set_option linter.unusedVariables false
namespace Ex

theorem below_dr (w : World) (n : Nat) : Below w.heap.size w (w.drewN n) := ⟨rfl, rfl, rfl, Nat.le_refl _, fun _ _ => rfl⟩

/-- the stack's cells -/
def stk (C : List Int) : Array Value := (C.map (Value.int .i64)).toArray
theorem stk_zero : stk (List.replicate 24 0) = #[.int .i64 0, .int .i64 0, .int .i64 0, .int .i64 0, .int .i64 0, .int .i64 0, .int .i64 0, .int .i64 0, .int .i64 0, .int .i64 0, .int .i64 0, .int .i64 0, .int .i64 0, .int .i64 0, .int .i64 0, .int .i64 0, .int .i64 0, .int .i64 0, .int .i64 0, .int .i64 0, .int .i64 0, .int .i64 0, .int .i64 0, .int .i64 0] := rfl
theorem stk_set (C : List Int) (j : Nat) (x : Int) : (stk C).setIfInBounds j (.int .i64 x) = stk (C.set j x) := by
  unfold stk; simp [List.map_set]

/-- the stack: its block, its numbers, those that count -/
def Stk (w : World) (sb : Nat) (C st : List Int) : Prop :=
  w.heap[sb]? = some (.cells (stk C) 106 (0, 0)) ∧ C.length = 24 ∧ (∀ x ∈ C, least ≤ x ∧ x ≤ most) ∧ st.length ≤ 24 ∧ C.take st.length = st.reverse

theorem Stk.cell {w : World} {sb : Nat} {C st : List Int} (h : Stk w sb C st) (j : Nat) (hj : j < 24) :
    ∃ x, w.cell? ⟨sb, j, none⟩ = some (.int .i64 x) ∧ w.frozen? ⟨sb, j, none⟩ = false ∧ (least ≤ x ∧ x ≤ most) ∧ (j < st.length → st.reverse[j]? = some x) := by
  obtain ⟨h1, h2, h3, h4, h5⟩ := h
  refine ⟨C[j]'(by omega), ?_, frozen_of_row _ _ _ _ _ h1, h3 _ (List.getElem_mem _), ?_⟩
  · rw [cell_of_row _ _ _ _ _ _ h1]
    unfold stk; simp
  · intro hj2
    rw [← h5, List.getElem?_take_of_lt hj2, List.getElem?_eq_getElem (by omega)]

theorem Stk.below {w w' : World} {sb : Nat} {C st : List Int} (h : Stk w sb C st) (hb : Below w.heap.size w w') : Stk w' sb C st := by
  obtain ⟨h1, h2⟩ := h
  exact ⟨by rw [hb.block sb (Array.getElem?_eq_some_iff.1 h1).1]; exact h1, h2⟩

theorem Stk.set {w : World} {sb : Nat} {C st r : List Int} (h : Stk w sb C st) (x : Int) (hx : least ≤ x ∧ x ≤ most) (p : List Int) (hst : st = p ++ r) (hr : r.length < 24) :
    Stk (w.setCell ⟨sb, r.length, none⟩ (.int .i64 x)) sb (C.set r.length x) (x :: r) := by
  obtain ⟨h1, h2, h3, h4, h5⟩ := h
  subst hst
  refine ⟨?_, by simpa using h2, ?_, by simp; omega, ?_⟩
  · rw [← stk_set]; exact heap_setCell_same _ _ _ _ _ _ h1
  · intro y hy
    rcases List.mem_or_eq_of_mem_set hy with h | h
    · exact h3 y h
    · rw [h]; exact hx
  · have h6 : C.take r.length = r.reverse := by
      have h7 : (C.take (p ++ r).length).take r.length = ((p ++ r).reverse).take r.length := by rw [h5]
      rw [List.take_take, List.length_append, Nat.min_eq_left (by omega), List.reverse_append] at h7
      rw [h7]
      exact List.take_left' (by simp)
    rw [List.length_cons, List.take_succ_eq_append_getElem (by simp; omega), List.take_set_of_le (Nat.le_refl _), h6]
    simp

theorem Stk.frame {w w' : World} {b0 sb : Nat} (hb : Below b0 w w') (hs : b0 ≤ sb) (j : Nat) (v : Value) : Below b0 w (w'.setCell ⟨sb, j, none⟩ v) :=
  hb.trans ⟨rfl, rfl, rfl, by simp, fun k hk => Below.heap_setCell w' ⟨sb, j, none⟩ v k (by simp; omega)⟩

theorem may_step {l : List Tok} {vn : Int} (h : mayS l vn = true) {k hh : Nat} (hk : k < l.length) (e : mayGo vn (l.take k) 0 = some hh) :
    right l[k] vn = true ∧ takes l[k].op ≤ hh ∧ mayGo vn (l.take (k + 1)) 0 = some (hh + 1 - takes l[k].op) := by
  have h1 := mayGo_take vn l k hh hk e
  unfold mayStep at h1
  by_cases g : right l[k] vn = true ∧ takes l[k].op ≤ hh
  · rw [if_pos g] at h1
    exact ⟨g.1, g.2, h1⟩
  · rw [if_neg g] at h1
    have := mayS_none h1
    rw [h] at this; cases this
theorem ev_take (vars : List Int) (arg : Int) (l : List Tok) (k : Nat) (hk : k < l.length) : evGo vars arg (l.take (k + 1)) [] = (evGo vars arg (l.take k) []).bind (evStep vars arg l[k]) := by
  rw [List.take_succ_eq_append_getElem hk, evGo_snoc]
theorem ev_none {vars : List Int} {arg : Int} {l : List Tok} {k : Nat} (h : evGo vars arg (l.take k) [] = none) : evGo vars arg l [] = none := by
  rw [← List.take_append_drop k l, evGo_app, h]; rfl
theorem ev_leaf {vars : List Int} {arg : Int} {t : Tok} (h : takes t.op = 0) (st : List Int) : evStep vars arg t st = some (leafS vars arg t :: st) := by simp [evStep, h]
theorem ev_not {vars : List Int} {arg : Int} {t : Tok} (h : takes t.op = 1) (x : Int) (st : List Int) : evStep vars arg t (x :: st) = some (truth (decide (x = 0)) :: st) := by simp [evStep, h]
theorem ev_two {vars : List Int} {arg : Int} {t : Tok} (h : takes t.op = 2) (b a : Int) (st : List Int) : evStep vars arg t (b :: a :: st) = (twoS t.op a b).map (· :: st) := by simp [evStep, h]

def RetE (w : World) (r : Int × Nat) (e : Ending) (w' : World) : Prop := e = .returned (.tuple #[.int .i64 r.1, .int .i64 (r.2 : Int)]) ∧ Below w.heap.size w w'

set_option maxHeartbeats 1600000 in
theorem eval_any (a : Option Addr) (n cap : Nat) (l : List Tok) (av : Option Addr) (nv cv : Nat) (vars : List Int) (arg : Int) (w : World) (hl : Toks w a n l) (hv : Ints w av nv vars) (harg : least ≤ arg ∧ arg ≤ most) :
    Calls Try.prog 39 #[.slice a n cap, .slice av nv cv, .int .i64 arg] w (RetE w (evalS l vars arg)) := by
  obtain rfl := hl.1
  obtain rfl := hv.1
  have hm := hl.2.1
  have hm2 := hv.2.1
  unfold maxLen at hm hm2
  have HL := Lib.hid hl
  have HV := Lib.hid hv
  have hfin : evalS l vars arg = if mayS l vars.length = true then (match evGo vars arg l [] with | none => (0, 18) | some st => (st.headD 0, 0)) else (0, 3) := rfl
  generalize evalS l vars arg = res at *
  have HF := Lib.hid hfin
  clear hfin hl hv
  cases hmay : mayS l vars.length
  · have hr : res = (0, 3) := by rw [HF.out, hmay]; rfl
    subst hr
    go_enter Try.func39, Try.ntmps39
    go_wp2_with fail
    refine (may_any _ _ _ _ _ _ HL.out).mono ?_
    rintro e w1 ⟨rfl, b1⟩
    rw [hmay]
    go_wp2_with fail
    go_ret2
    exact ⟨rfl, b1⟩
  · have hlen : l.length ≤ 24 := by
      unfold mayS at hmay
      rw [decide_eq_true_eq] at hmay
      exact hmay.1
    have MS := Lib.hid (fun k hh => @may_step l vars.length hmay k hh)
    have EV := Lib.hid (fun k => ev_take vars arg l k)
    have EN := Lib.hid (fun k => @ev_none vars arg l k)
    go_enter Try.func39, Try.ntmps39
    go_wp2_with fail
    refine (may_any _ _ _ _ _ _ HL.out).mono ?_
    rintro e w1 ⟨rfl, b1⟩
    rw [hmay]
    have HMAY := Lib.hid hmay
    clear hmay
    go_wp2_with fail
    have hs0 : Stk (w1.alloc (.cells (stk (List.replicate 24 0)) 106)) w1.heap.size (List.replicate 24 0) [] :=
      ⟨heap_alloc_new _ _, rfl, by intro x hx; rw [List.eq_of_mem_replicate hx]; unfold least most; omega, by simp, rfl⟩
    rw [stk_zero] at hs0
    have HS0 := Lib.hid hs0
    have hsb := b1.size
    have B1 := Lib.hid (bthen b1 (balloc w1 (.cells (stk (List.replicate 24 0)) 106)))
    clear hs0
    go_loopw [9, 21] (fun high i wr => ∃ (k : Nat) (C st : List Int), k ≤ l.length ∧ i = .int .i64 k ∧ high = .int .i64 st.length ∧ Hid (evGo vars arg (l.take k) [] = some st) ∧ Hid (mayGo vars.length (l.take k) 0 = some st.length) ∧ Hid (Stk wr w1.heap.size C st) ∧ st.length ≤ k ∧ Below w.heap.size w wr) (fun _ i _ => l.length - (intOf i).toNat)
    case atStart => exact ⟨0, _, [], Nat.zero_le _, rfl, rfl, Lib.hid rfl, Lib.hid rfl, HS0, Nat.le_refl _, B1.out⟩
    case round =>
      obtain ⟨k, C, st, hk, rfl, rfl, hev, hgo, hst, hsk, bl⟩ := hrel
      by_cases hlt : k < l.length
      · obtain ⟨b, o, ha, c0, c1, hok⟩ := (HL.out.mono bl).at k hlt
        obtain ⟨hr, ht, hgo2⟩ := MS.out k st.length hlt hgo.out
        have hev2 := EV.out k hlt
        rw [hev.out] at hev2
        have hen := EN.out (k + 1)
        simp only [Option.bind_some] at hev2
        rw [hev2] at hen
        have BA := Lib.hid (fun o => balloc wr o)
        have hszb : w1.heap.size < wr.heap.size := (Array.getElem?_eq_some_iff.1 hst.out.1).1
        have HSB := Lib.hid (show w.heap.size ≤ w1.heap.size from hsb)
        subst ha
        have HVR := Lib.hid (HV.out.mono bl)
        generalize l[k] = t at *
        obtain ⟨op, n⟩ := t
        obtain ⟨hop, hn⟩ := hok
        simp only at c0 c1 hop hn ht hgo2
        have HG := Lib.hid hgo2
        have HEN := Lib.hid hen
        clear hgo2 hen
        rcases (show takes op = 0 ∨ takes op = 1 ∨ takes op = 2 by have := takes_le op; omega) with h | h | h
        · rw [ev_leaf (t := ⟨op, n⟩) h] at hev2
          have HE := Lib.hid hev2
          have hT := Lib.hid h
          have hix : (st.length : Int) < 24 := by omega
          obtain ⟨y, hc, hfr, _, _⟩ := hst.out.cell st.length (by omega)
          clear hev2 ht
          rcases takes_0 h with rfl | rfl | rfl
          · have HX : Hid (least ≤ n ∧ n ≤ most) := Lib.hid hn
            have HE1 : Hid (evGo vars arg (l.take (k + 1)) [] = some (n :: st)) := Lib.hid HE.out
            clear h
            go_wp2_with fail
            refine (takes_any _ _).mono ?_
            rintro e w2 ⟨rfl, rfl⟩
            rw [hT.out]
            go_wp2_with fail
            go_roundw
            case rel => exact ⟨k + 1, _, n :: st, by omega, by go_num, by simp, Lib.hid HE1.out, Lib.hid (by rw [HG.out, hT.out]; simp), Lib.hid ((hst.out.set n HX.out [] rfl (by omega)).below (balloc _ _)), by simp; omega, (Stk.frame bl HSB.out _ _).trans ((balloc _ _).mono (by simpa using bl.size))⟩
            case measure => simp [intOf]; omega
          · clear h
            obtain ⟨n0, n1⟩ := right_two hr
            obtain ⟨v, rfl⟩ : ∃ v : Nat, n = v := ⟨n.toNat, by omega⟩
            obtain ⟨b2, o2, ha2, d0, hvb⟩ := HVR.out.at v (by omega)
            subst ha2
            have hleaf : leafS vars arg ⟨2, (v : Int)⟩ = vars[v] := by
              unfold leafS varAt
              simp
              rw [List.getElem?_eq_getElem (by omega)]; rfl
            have nn : ¬ b2 = wr.heap.size := Ne.symm (World.new_ne wr _ d0)
            have nl : b2 < wr.heap.size := World.block_lt_of_cell? wr _ d0
            have hvn : (v : Int) < (vars.length : Int) := by omega
            have hE2 := HE.out
            rw [hleaf] at hE2
            clear hleaf hr
            generalize vars[v] = x at *
            have HE1 := Lib.hid hE2
            have HX := Lib.hid hvb
            clear hE2
            go_wp2_with fail
            refine (takes_any _ _).mono ?_
            rintro e w2 ⟨rfl, rfl⟩
            rw [hT.out]
            go_wp2_with fail
            go_roundw
            case rel => exact ⟨k + 1, _, x :: st, by omega, by go_num, by simp, Lib.hid HE1.out, Lib.hid (by rw [HG.out, hT.out]; simp), Lib.hid ((hst.out.set x HX.out [] rfl (by omega)).below (balloc _ _)), by simp; omega, (Stk.frame bl HSB.out _ _).trans ((balloc _ _).mono (by simpa using bl.size))⟩
            case measure => simp [intOf]; omega
          · have HX : Hid (least ≤ arg ∧ arg ≤ most) := Lib.hid harg
            have HE1 : Hid (evGo vars arg (l.take (k + 1)) [] = some (arg :: st)) := Lib.hid HE.out
            clear h
            go_wp2_with fail
            refine (takes_any _ _).mono ?_
            rintro e w2 ⟨rfl, rfl⟩
            rw [hT.out]
            go_wp2_with fail
            go_roundw
            case rel => exact ⟨k + 1, _, arg :: st, by omega, by go_num, by simp, Lib.hid HE1.out, Lib.hid (by rw [HG.out, hT.out]; simp), Lib.hid ((hst.out.set arg HX.out [] rfl (by omega)).below (balloc _ _)), by simp; omega, (Stk.frame bl HSB.out _ _).trans ((balloc _ _).mono (by simpa using bl.size))⟩
            case measure => simp [intOf]; omega
        · have hT := Lib.hid h
          obtain rfl := takes_1 h
          cases st with
          | nil => rw [h] at ht; simp at ht
          | cons x st =>
            rw [ev_not (t := ⟨11, n⟩) h] at hev2
            have HE1 := Lib.hid hev2
            have hle : (x :: st).length = st.length + 1 := rfl
            rw [hle] at hsk ht
            have hix : (st.length : Int) < 24 := by omega
            obtain ⟨y, hc, hfr, hy, hyx⟩ := hst.out.cell st.length (by omega)
            have hyx2 := hyx (by simp)
            rw [List.reverse_cons, List.getElem?_append_right (by simp)] at hyx2
            simp at hyx2
            subst hyx2
            have HX := Lib.hid (truth_bd (decide (x = 0)))
            simp only [hle]
            clear hev2 ht hyx h hr hle
            go_wp2_with fail
            refine (takes_any _ _).mono ?_
            rintro e w2 ⟨rfl, rfl⟩
            rw [hT.out]
            go_wp2_with fail
            refine (truth_any _ _).mono ?_
            rintro e w2 ⟨rfl, rfl⟩
            rw [show truth (x == 0) = truth (decide (x = 0)) from rfl]
            generalize truth (decide (x = 0)) = z at *
            go_wp2_with fail
            go_roundw
            case rel => exact ⟨k + 1, _, z :: st, by omega, by go_num, by simp, Lib.hid HE1.out, Lib.hid (by rw [HG.out, hT.out]; simp), Lib.hid ((hst.out.set z HX.out [x] rfl (by omega)).below (balloc _ _)), by simp; omega, (Stk.frame bl HSB.out _ _).trans ((balloc _ _).mono (by simpa using bl.size))⟩
            case measure => simp [intOf]; omega
        · have hT := Lib.hid h
          have h3 := takes_2 h
          have e1 : ((op : Int) == 1) = false := by rw [beq_eq_false_iff_ne]; omega
          have e2 : ((op : Int) == 2) = false := by rw [beq_eq_false_iff_ne]; omega
          have e3 : ((op : Int) == 3) = false := by rw [beq_eq_false_iff_ne]; omega
          have e4 : ((op : Int) == 11) = false := by rw [beq_eq_false_iff_ne]; omega
          cases st with
          | nil => rw [h] at ht; simp at ht
          | cons y st =>
          cases st with
          | nil => rw [h] at ht; simp at ht
          | cons x st =>
            rw [ev_two (t := ⟨op, n⟩) h] at hev2 HEN
            have hle : (y :: x :: st).length = st.length + 2 := rfl
            rw [hle] at hsk ht
            have hix : (st.length : Int) < 24 := by omega
            have hix2 : (st.length : Int) + 1 < 24 := by omega
            obtain ⟨x', hc, hfr, hx, hxx⟩ := hst.out.cell st.length (by omega)
            have hxx2 := hxx (by simp only [List.length_cons]; omega)
            rw [show y :: x :: st = [y, x] ++ st from rfl, List.reverse_append, List.getElem?_append_right (by simp)] at hxx2
            simp at hxx2
            subst hxx2
            obtain ⟨y', hc2, hfr2, hy, hyy⟩ := hst.out.cell (st.length + 1) (by omega)
            have hyy2 := hyy (by simp only [List.length_cons]; omega)
            rw [show y :: x :: st = [y, x] ++ st from rfl, List.reverse_append, List.getElem?_append_right (by simp)] at hyy2
            simp at hyy2
            subst hyy2
            have HE := Lib.hid hev2
            have TW := Lib.hid (fun w => (two_any op x y w hx hy).mono fun e w' (h : _ ∧ _) => (⟨h.1, h.2.symm⟩ : e = _ ∧ w' = w))
            have T2 := Lib.hid (two_C op x y)
            have HX := Lib.hid (twoC_bd op x y)
            simp only [hle]
            clear hev2 ht hxx hyy h hr hle h3
            generalize (twoC op x y).1 = z at *
            generalize (twoC op x y).2 = bo at *
            cases bo with
            | true =>
              rw [if_pos rfl] at T2
              have HE1 : Hid (evGo vars arg (l.take (k + 1)) [] = some (z :: st)) := Lib.hid (by rw [HE.out, T2.out]; rfl)
              go_wp2_with fail
              refine (takes_any _ _).mono ?_
              rintro e w2 ⟨rfl, rfl⟩
              rw [hT.out]
              go_wp2_with fail
              have s1 : IntKind.i64.wrap ((st.length : Int) + 1) = (st.length : Int) + 1 := by rw [IntKind.wrap_i64]; omega
              have s2 : (0 : Int) ≤ (st.length : Int) + 1 := by omega
              have s3 : ((st.length : Int) + 1).toNat = st.length + 1 := by omega
              go_quiet ((go_at_call 62; exact Calls.quiet_of_same (TW.out _)))
              clear s1 s2 s3
              go_wp2_with fail
              refine ⟨⟨k + 1, _, z :: st, by omega, by go_num, by simp, HE1, Lib.hid (by rw [HG.out, hT.out]; simp), Lib.hid (((hst.out.below (balloc wr (.cells #[.int .u8 (op : Int), .int .i64 n] 108))).below (below_dr _ nq)).set z HX.out [y, x] rfl (by omega)), by simp; omega, Stk.frame ((bthen bl (balloc wr (.cells #[.int .u8 (op : Int), .int .i64 n] 108))).trans ((below_dr _ nq).mono (bthen bl (balloc wr _)).size)) HSB.out _ _⟩, by simp [intOf]; omega⟩
            | false =>
              rw [if_neg (by simp)] at T2
              have hr : res = (0, 18) := by rw [HF.out, if_pos HMAY.out, HEN.out (by rw [T2.out]; rfl)]
              subst hr
              go_wp2_with fail
              refine (takes_any _ _).mono ?_
              rintro e w2 ⟨rfl, rfl⟩
              rw [hT.out]
              go_wp2_with fail
              have s1 : IntKind.i64.wrap ((st.length : Int) + 1) = (st.length : Int) + 1 := by rw [IntKind.wrap_i64]; omega
              have s2 : (0 : Int) ≤ (st.length : Int) + 1 := by omega
              have s3 : ((st.length : Int) + 1).toNat = st.length + 1 := by omega
              go_quiet ((go_at_call 62; exact Calls.quiet_of_same (TW.out _)))
              clear s1 s2 s3
              go_wp2_with fail
              go_ret2
              exact ⟨rfl, (bthen bl (balloc wr (.cells #[.int .u8 (op : Int), .int .i64 n] 108))).trans ((below_dr _ nq).mono (bthen bl (balloc wr _)).size)⟩
      · obtain rfl : k = l.length := by omega
        have he := hev.out
        have hg := hgo.out
        rw [List.take_length] at he hg
        have h1 : st.length = 1 := by
          rw [may_go HMAY.out] at hg
          simpa using hg.symm
        match st, h1 with
        | [v], _ =>
          have hr : res = (v, 0) := by rw [HF.out, if_pos HMAY.out, he]; rfl
          obtain ⟨x, hc, hfr, hx, hxx⟩ := hst.out.cell 0 (by omega)
          have hxx2 := hxx (by simp)
          simp at hxx2
          subst hxx2
          subst hr
          clear he hg hxx
          go_wp2_with fail
          go_ret2
          exact ⟨rfl, bl⟩
end Ex
end Go.Proofs.Ytdpmfjbhadapiaa
namespace Go.Proofs.Ytdpmfjbhadapiaa
open Go.RowKit
set_option linter.unusedVariables false
namespace Ex

theorem holds_any (a : Option Addr) (n cap : Nat) (l : List Tok) (av : Option Addr) (nv cv : Nat) (vars : List Int) (arg : Int) (w : World) (hl : Toks w a n l) (hv : Ints w av nv vars) (harg : least ≤ arg ∧ arg ≤ most) :
    Calls Try.prog 43 #[.slice a n cap, .slice av nv cv, .int .i64 arg] w (RetBo w (holdsS l vars arg)) := by
  obtain rfl := hl.1
  have hfin : holdsS l vars arg = decide (l.length = 0 ∨ ((evalS l vars arg).2 = 0 ∧ (evalS l vars arg).1 ≠ 0)) := rfl
  generalize holdsS l vars arg = res at *
  have HE := Lib.hid (eval_any a l.length cap l av nv cv vars arg w hl hv harg)
  have B0 := Lib.hid (Below.refl w.heap.size w)
  generalize evalS l vars arg = r at *
  obtain ⟨x, e⟩ := r
  simp only at hfin
  by_cases h0 : l.length = 0
  · have t0 : ((l.length : Int) == 0) = true := by rw [beq_iff_eq]; omega
    rw [decide_eq_true (.inl h0)] at hfin
    subst hfin
    clear h0 hl hv
    go_enter Try.func43, Try.ntmps43
    go_wp2_with fail
    go_ret
    exact retBo rfl B0.out
  · have t0 : ((l.length : Int) == 0) = false := by rw [beq_eq_false_iff_ne]; omega
    have H0 := Lib.hid h0
    have HF := Lib.hid hfin
    rcases beq_cases (e : Int) 0 with ⟨h1, t1⟩ | ⟨h1, t1⟩ <;> rcases beq_cases x 0 with ⟨h2, t2⟩ | ⟨h2, t2⟩
    all_goals
      have t3 : (x != 0) = !(x == 0) := rfl
      rw [t2] at t3
      have H12 := Lib.hid (And.intro h1 h2)
      clear h0 hl hv hfin h1 h2
      go_enter Try.func43, Try.ntmps43
      go_wp2_with fail
      refine HE.out.mono ?_
      rintro en w1 ⟨rfl, b1⟩
      go_wp2_with fail
      go_ret
      refine retBo ?_ b1
      rw [HF.out]
      have := H0.out
      have := H12.out
      first
      | (rw [decide_eq_true (by omega)]; done)
      | (rw [decide_eq_false (by omega)]; done)

theorem holdsR_any (a : Option Addr) (n cap : Nat) (l : List Tok) (av : Option Addr) (nv cv : Nat) (vars : List Int) (arg : Int) (w : World) (hl : Toks w a n l) (hv : Ints w av nv vars) (harg : least ≤ arg ∧ arg ≤ most) :
    Calls Try.prog 44 #[.slice a n cap, .slice av nv cv, .int .i64 arg] w (RetBo w (holdsS l vars arg)) := by
  obtain rfl := hl.1
  have hfin : holdsS l vars arg = decide (l.length = 0 ∨ ((evalS l vars arg).2 = 0 ∧ (evalS l vars arg).1 ≠ 0)) := rfl
  generalize holdsS l vars arg = res at *
  have HE := Lib.hid (evalR_any a l.length cap l av nv cv vars arg w hl hv harg)
  rw [← eval_eq] at HE
  generalize evalS l vars arg = r at *
  obtain ⟨x, e⟩ := r
  simp only at hfin
  have t0 : ((l.length : Int) == 0) = decide (l.length = 0) := by
    by_cases h : l.length = 0
    · rw [decide_eq_true h, beq_iff_eq]; omega
    · rw [decide_eq_false h, beq_eq_false_iff_ne]; omega
  by_cases h0 : l.length = 0 <;> rcases beq_cases (e : Int) 0 with ⟨h1, t1⟩ | ⟨h1, t1⟩ <;> rcases beq_cases x 0 with ⟨h2, t2⟩ | ⟨h2, t2⟩
  all_goals
    first | rw [decide_eq_true h0] at t0 | rw [decide_eq_false h0] at t0
    have H0 := Lib.hid h0
    have HF := Lib.hid hfin
    have t3 : (x != 0) = !(x == 0) := rfl
    rw [t2] at t3
    have H12 := Lib.hid (And.intro h1 h2)
    clear h0 hl hv hfin h1 h2
    go_enter Try.func44, Try.ntmps44
    go_wp2_with fail
    refine HE.out.mono ?_
    rintro en w1 ⟨rfl, b1⟩
    go_wp2_with fail
    go_ret
    refine retBo ?_ b1
    rw [HF.out]
    have := H0.out
    have := H12.out
    first
    | (rw [decide_eq_true (by omega)]; done)
    | (rw [decide_eq_false (by omega)]; done)

/-! ### slices of signs that the call makes -/
end Ex
end Go.Proofs.Ytdpmfjbhadapiaa
namespace Go.Proofs.Ytdpmfjbhadapiaa
open Go.RowKit
set_option linter.unusedVariables false
namespace Ex
theorem leaf_bd {vars : List Int} {arg : Int} {t : Tok} (hv : ∀ x ∈ vars, least ≤ x ∧ x ≤ most) (ha : least ≤ arg ∧ arg ≤ most) (ht : okT t) : least ≤ leafS vars arg t ∧ leafS vars arg t ≤ most := by
  unfold leafS
  split
  · exact ht.2
  · split
    · unfold varAt
      rw [List.getD_eq_getElem?_getD]
      cases h : vars[t.n.toNat]? with
      | none => simp only [Option.getD_none]; unfold least most; omega
      | some x => exact hv x (List.mem_of_getElem? h)
    · exact ha
theorem two_bd {op : Nat} {a b v : Int} (h : twoS op a b = some v) : least ≤ v ∧ v ≤ most := by
  rw [two_C] at h
  split at h
  · simp at h; rw [← h]; exact twoC_bd op a b
  · cases h
theorem ev_bd {vars : List Int} {arg : Int} (hv : ∀ x ∈ vars, least ≤ x ∧ x ≤ most) (ha : least ≤ arg ∧ arg ≤ most) : ∀ (l : List Tok) (st s : List Int), (∀ t ∈ l, okT t) → (∀ x ∈ st, least ≤ x ∧ x ≤ most) → evGo vars arg l st = some s → ∀ x ∈ s, least ≤ x ∧ x ≤ most
  | [], st, s, _, hs, h => by simp [evGo] at h; subst h; exact hs
  | t :: l, st, s, hl, hs, h => by
    simp only [evGo] at h
    cases he : evStep vars arg t st with
    | none => rw [he] at h; simp at h
    | some s1 =>
      rw [he] at h
      refine ev_bd hv ha l s1 s (fun t ht => hl t (List.mem_cons_of_mem _ ht)) ?_ h
      have htl : ∀ x ∈ st.tail, least ≤ x ∧ x ≤ most := fun x hx => hs x (List.mem_of_mem_tail hx)
      have htt : ∀ x ∈ st.tail.tail, least ≤ x ∧ x ≤ most := fun x hx => htl x (List.mem_of_mem_tail hx)
      unfold evStep at he
      split at he
      · simp at he; subst he
        intro x hx
        rcases List.mem_cons.1 hx with rfl | hx
        · exact leaf_bd hv ha (hl t List.mem_cons_self)
        · exact hs x hx
      · split at he
        · simp at he; subst he
          intro x hx
          rcases List.mem_cons.1 hx with rfl | hx
          · exact truth_bd _
          · exact htl x hx
        · cases h2 : twoS t.op (st.tail.headD 0) (st.headD 0) with
          | none => rw [h2] at he; simp at he
          | some v =>
            rw [h2] at he
            simp at he; subst he
            intro x hx
            rcases List.mem_cons.1 hx with rfl | hx
            · exact two_bd h2
            · exact htt x (by simpa using hx)
theorem eval_bd {vars : List Int} {arg : Int} (hv : ∀ x ∈ vars, least ≤ x ∧ x ≤ most) (ha : least ≤ arg ∧ arg ≤ most) {l : List Tok} (hl : ∀ t ∈ l, okT t) : least ≤ (evalS l vars arg).1 ∧ (evalS l vars arg).1 ≤ most := by
  have z : least ≤ 0 ∧ (0 : Int) ≤ most := by unfold least most; omega
  unfold evalS
  split
  · cases h : evGo vars arg l [] with
    | none => exact z
    | some st =>
      have hb := ev_bd hv ha l [] st hl (by simp) h
      cases st with
      | nil => exact z
      | cons v st => exact hb v List.mem_cons_self
  · exact z

end Ex
end Go.Proofs.Ytdpmfjbhadapiaa
