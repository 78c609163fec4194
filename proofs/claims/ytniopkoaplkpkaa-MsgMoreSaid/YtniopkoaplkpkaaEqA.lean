/- The walks of slices.Equal at numbers, cells, marks. Conditions: the slices can be read. -/
import Derived.Test.YtniopkoaplkpkaaSameR
namespace Go.Proofs.Ytniopkoaplkpkaa
open Go.RowKit
set_option linter.unusedVariables false
namespace Rg

set_option maxHeartbeats 800000 in
theorem equalInt_any (w : World) (a b : Option Addr) (c d : Nat) (l m : List Int) (hl : Nums w a l) (hm : Nums w b m) :
    Calls Try.prog 100 #[.slice a l.length c, .slice b m.length d] w (RetBo w (decide (l = m))) := by
  have BD := Lib.hid below_dr
  have HX := Lib.hid hl
  have HY := Lib.hid hm
  have h63 := hl.1
  have h64 := hm.1
  unfold maxLen at h63 h64
  obtain ⟨res, hres⟩ : ∃ res, res = decide (l = m) := ⟨_, rfl⟩
  rw [← hres]
  have HF := Lib.hid hres
  clear hres hl hm
  rcases ne_cases (l.length : Int) (m.length : Int) with ⟨e3, t3⟩ | ⟨e3, t3⟩
  case inr =>
    have hr : res = false := by
      rw [HF.out, decide_eq_false_iff_not]
      rintro rfl
      exact e3 rfl
    subst hr
    clear e3
    go_enter Try.func100, Try.ntmps100
    go_wp2_with fail
    go_ret
    exact retBo rfl (Below.refl _ _)
  have hlen : l.length = m.length := by omega
  have HLEN := Lib.hid hlen
  clear hlen e3
  go_enter Try.func100, Try.ntmps100
  go_wp2_with fail
  go_loopw [13] (fun i wr => ∃ k : Nat, k ≤ l.length ∧ i = .int .i64 k ∧ Hid (l.take k = m.take k) ∧ Below w.heap.size w wr) (fun i _ => l.length - (intOf i).toNat)
  case atStart => exact ⟨0, Nat.zero_le _, rfl, Lib.hid rfl, Below.refl _ _⟩
  case round =>
    obtain ⟨k, hk, rfl, hg, bl⟩ := hrel
    by_cases hlt : k < l.length
    · have hlt2 : k < m.length := by have := HLEN.out; omega
      obtain ⟨b1, o1, ha, c0, hbl, _⟩ := (HX.out.mono bl).at k hlt
      obtain ⟨b2, o2, ha2, d0, hbl2, _⟩ := (HY.out.mono bl).at k hlt2
      subst ha ha2
      have HEQ := Lib.hid (fun e => take_eq hlt hlt2 hg.out e)
      have HNE := Lib.hid (fun e => take_ne hlt hlt2 e)
      have i1 : (0 : Int) ≤ (k : Int) := by omega
      have i2 : (k : Int) < (l.length : Int) := by omega
      have i3 : (k : Int) < (m.length : Int) := by omega
      have HBD := Lib.hid (fun n => BD.out wr n)
      generalize l[k] = u at *
      generalize m[k] = v at *
      rcases ne_cases u v with ⟨e, NQ⟩ | ⟨e, NQ⟩
      · have HE := Lib.hid (HEQ.out e)
        clear e
        go_wp2_with fail
        go_quiet (fail)
        go_wp2_with fail
        refine ⟨⟨k + 1, by omega, by go_num, HE, bthen bl (HBD.out nq)⟩, by simp [intOf]; omega⟩
      · have hr : res = false := by rw [HF.out, decide_eq_false (fun h => HNE.out e h)]
        subst hr
        clear e
        go_wp2_with fail
        go_quiet (fail)
        go_wp2_with fail
        go_ret
        exact retBo rfl (bthen bl (HBD.out _))
    · obtain rfl : k = l.length := by omega
      have hr : res = true := by
        have h := hg.out
        rw [List.take_length, HLEN.out, List.take_length] at h
        rw [HF.out, decide_eq_true h]
      subst hr
      clear hg
      go_wp2_with fail
      go_ret
      exact retBo rfl bl

set_option maxHeartbeats 800000 in
theorem equalCell_any (w : World) (a b : Option Addr) (c d : Nat) (l m : List CellD) (hl : Cels w a l) (hm : Cels w b m) :
    Calls Try.prog 102 #[.slice a l.length c, .slice b m.length d] w (RetBo w (decide (l = m))) := by
  have BD := Lib.hid below_dr
  have HX := Lib.hid hl
  have HY := Lib.hid hm
  have h63 := hl.1
  have h64 := hm.1
  unfold maxLen at h63 h64
  obtain ⟨res, hres⟩ : ∃ res, res = decide (l = m) := ⟨_, rfl⟩
  rw [← hres]
  have HF := Lib.hid hres
  clear hres hl hm
  rcases ne_cases (l.length : Int) (m.length : Int) with ⟨e3, t3⟩ | ⟨e3, t3⟩
  case inr =>
    have hr : res = false := by
      rw [HF.out, decide_eq_false_iff_not]
      rintro rfl
      exact e3 rfl
    subst hr
    clear e3
    go_enter Try.func102, Try.ntmps102
    go_wp2_with fail
    go_ret
    exact retBo rfl (Below.refl _ _)
  have hlen : l.length = m.length := by omega
  have HLEN := Lib.hid hlen
  clear hlen e3
  go_enter Try.func102, Try.ntmps102
  go_wp2_with fail
  go_loopw [13] (fun i wr => ∃ k : Nat, k ≤ l.length ∧ i = .int .i64 k ∧ Hid (l.take k = m.take k) ∧ Below w.heap.size w wr) (fun i _ => l.length - (intOf i).toNat)
  case atStart => exact ⟨0, Nat.zero_le _, rfl, Lib.hid rfl, Below.refl _ _⟩
  case round =>
    obtain ⟨k, hk, rfl, hg, bl⟩ := hrel
    by_cases hlt : k < l.length
    · have hlt2 : k < m.length := by have := HLEN.out; omega
      obtain ⟨b1, o1, cs, ha, _, hc, ⟨rfl, hu⟩, hbl⟩ := Rows.at (HX.out.mono bl) k hlt
      obtain ⟨b2, o2, cs2, ha2, _, hc2, ⟨rfl, hv⟩, hbl2⟩ := Rows.at (HY.out.mono bl) k hlt2
      have c0 := hc 0 (by simp)
      have d0 := hc2 0 (by simp)
      have c1 := hc 1 (by simp)
      have d1 := hc2 1 (by simp)
      have c2 := hc 2 (by simp)
      have d2 := hc2 2 (by simp)
      have c3 := hc 3 (by simp)
      have d3 := hc2 3 (by simp)
      simp at c0 d0 c1 d1 c2 d2 c3 d3
      subst ha ha2
      have NQ := neq_cell l[k] m[k] hu hv
      have g1 := hbl (by omega)
      have g2 := hbl2 (by omega)
      clear hc hc2 hbl hbl2 hu hv
      have HEQ := Lib.hid (fun e => take_eq hlt hlt2 hg.out e)
      have HNE := Lib.hid (fun e => take_ne hlt hlt2 e)
      have i1 : (0 : Int) ≤ (k : Int) := by omega
      have i2 : (k : Int) < (l.length : Int) := by omega
      have i3 : (k : Int) < (m.length : Int) := by omega
      have HBD := Lib.hid (fun n => BD.out wr n)
      generalize l[k] = u at *
      generalize m[k] = v at *
      by_cases e : u = v
      · rw [decide_eq_true e] at NQ
        have HE := Lib.hid (HEQ.out e)
        clear e
        go_wp2_with fail
        go_quiet (fail)
        go_wp2_with fail
        refine ⟨⟨k + 1, by omega, by go_num, HE, bthen bl (HBD.out nq)⟩, by simp [intOf]; omega⟩
      · rw [decide_eq_false e] at NQ
        have hr : res = false := by rw [HF.out, decide_eq_false (fun h => HNE.out e h)]
        subst hr
        clear e
        go_wp2_with fail
        go_quiet (fail)
        go_wp2_with fail
        go_ret
        exact retBo rfl (bthen bl (HBD.out _))
    · obtain rfl : k = l.length := by omega
      have hr : res = true := by
        have h := hg.out
        rw [List.take_length, HLEN.out, List.take_length] at h
        rw [HF.out, decide_eq_true h]
      subst hr
      clear hg
      go_wp2_with fail
      go_ret
      exact retBo rfl bl

set_option maxHeartbeats 800000 in
theorem equalMark_any (w : World) (a b : Option Addr) (c d : Nat) (l m : List MarkD) (hl : Marks w a l) (hm : Marks w b m) :
    Calls Try.prog 103 #[.slice a l.length c, .slice b m.length d] w (RetBo w (decide (l = m))) := by
  have BD := Lib.hid below_dr
  have HX := Lib.hid hl
  have HY := Lib.hid hm
  have h63 := hl.1
  have h64 := hm.1
  unfold maxLen at h63 h64
  obtain ⟨res, hres⟩ : ∃ res, res = decide (l = m) := ⟨_, rfl⟩
  rw [← hres]
  have HF := Lib.hid hres
  clear hres hl hm
  rcases ne_cases (l.length : Int) (m.length : Int) with ⟨e3, t3⟩ | ⟨e3, t3⟩
  case inr =>
    have hr : res = false := by
      rw [HF.out, decide_eq_false_iff_not]
      rintro rfl
      exact e3 rfl
    subst hr
    clear e3
    go_enter Try.func103, Try.ntmps103
    go_wp2_with fail
    go_ret
    exact retBo rfl (Below.refl _ _)
  have hlen : l.length = m.length := by omega
  have HLEN := Lib.hid hlen
  clear hlen e3
  go_enter Try.func103, Try.ntmps103
  go_wp2_with fail
  go_loopw [13] (fun i wr => ∃ k : Nat, k ≤ l.length ∧ i = .int .i64 k ∧ Hid (l.take k = m.take k) ∧ Below w.heap.size w wr) (fun i _ => l.length - (intOf i).toNat)
  case atStart => exact ⟨0, Nat.zero_le _, rfl, Lib.hid rfl, Below.refl _ _⟩
  case round =>
    obtain ⟨k, hk, rfl, hg, bl⟩ := hrel
    by_cases hlt : k < l.length
    · have hlt2 : k < m.length := by have := HLEN.out; omega
      obtain ⟨b1, o1, cs, ha, _, hc, ⟨rfl, hu⟩, hbl⟩ := Rows.at (HX.out.mono bl) k hlt
      obtain ⟨b2, o2, cs2, ha2, _, hc2, ⟨rfl, hv⟩, hbl2⟩ := Rows.at (HY.out.mono bl) k hlt2
      have c0 := hc 0 (by simp)
      have d0 := hc2 0 (by simp)
      have c1 := hc 1 (by simp)
      have d1 := hc2 1 (by simp)
      have c2 := hc 2 (by simp)
      have d2 := hc2 2 (by simp)
      simp at c0 d0 c1 d1 c2 d2
      subst ha ha2
      have NQ := neq_mark l[k] m[k] hu hv
      have g1 := hbl (by omega)
      have g2 := hbl2 (by omega)
      clear hc hc2 hbl hbl2 hu hv
      have HEQ := Lib.hid (fun e => take_eq hlt hlt2 hg.out e)
      have HNE := Lib.hid (fun e => take_ne hlt hlt2 e)
      have i1 : (0 : Int) ≤ (k : Int) := by omega
      have i2 : (k : Int) < (l.length : Int) := by omega
      have i3 : (k : Int) < (m.length : Int) := by omega
      have HBD := Lib.hid (fun n => BD.out wr n)
      generalize l[k] = u at *
      generalize m[k] = v at *
      by_cases e : u = v
      · rw [decide_eq_true e] at NQ
        have HE := Lib.hid (HEQ.out e)
        clear e
        go_wp2_with fail
        go_quiet (fail)
        go_wp2_with fail
        refine ⟨⟨k + 1, by omega, by go_num, HE, bthen bl (HBD.out nq)⟩, by simp [intOf]; omega⟩
      · rw [decide_eq_false e] at NQ
        have hr : res = false := by rw [HF.out, decide_eq_false (fun h => HNE.out e h)]
        subst hr
        clear e
        go_wp2_with fail
        go_quiet (fail)
        go_wp2_with fail
        go_ret
        exact retBo rfl (bthen bl (HBD.out _))
    · obtain rfl : k = l.length := by omega
      have hr : res = true := by
        have h := hg.out
        rw [List.take_length, HLEN.out, List.take_length] at h
        rw [HF.out, decide_eq_true h]
      subst hr
      clear hg
      go_wp2_with fail
      go_ret
      exact retBo rfl bl

end Rg
end Go.Proofs.Ytniopkoaplkpkaa
