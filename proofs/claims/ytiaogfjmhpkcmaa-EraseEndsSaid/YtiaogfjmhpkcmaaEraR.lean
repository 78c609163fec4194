/- The walk of the document's Blocks. Conditions: the register can be read. -/
import Derived.Test.YtiaogfjmhpkcmaaEraB
import Derived.BigQuiet
import Derived.Deep.QuietTactic
namespace Go.Proofs.Ytiaogfjmhpkcmaa
open Go.RowKit
set_option linter.unusedVariables false
namespace Rg

/-- the boxes of the document's Blocks -/
def BoxB (w : World) (rb mb : Nat) (r : RegD) (p : RegA) (m : MarkD) : Prop :=
  w.cell? ⟨rb, 0, none⟩ = some (.int .u8 (r.kind : Int)) ∧ w.cell? ⟨rb, 1, none⟩ = some (.int .u64 (r.inc : Int)) ∧ w.cell? ⟨rb, 5, none⟩ = some (.slice p.oa r.out.length p.oc) ∧
  w.cell? ⟨mb, 1, none⟩ = some (.int .u64 (m.inc : Int)) ∧ w.cell? ⟨mb, 2, none⟩ = some (.int .u64 (m.cell : Int))
theorem BoxB.mono {w w' : World} {rb mb : Nat} {r : RegD} {p : RegA} {m : MarkD} (h : BoxB w rb mb r p m) (hb : Below w.heap.size w w') : BoxB w' rb mb r p m :=
  ⟨cell_up hb h.1, cell_up hb h.2.1, cell_up hb h.2.2.1, cell_up hb h.2.2.2.1, cell_up hb h.2.2.2.2⟩

theorem blocksR_any (w : World) (r : RegD) (p : RegA) (h : RegAt w r p) (key : Nat) (m : MarkD) :
    Calls Try.prog 13 #[.agg (regCs r p).toArray, .int .u8 (key : Int), .agg #[.int .u8 (m.source : Int), .int .u64 (m.inc : Int), .int .u64 (m.cell : Int)]] w (RetBo w (blocksS r key m)) := by
  have BA := Lib.hid (fun w o => balloc w o)
  have BD := Lib.hid below_dr
  have HO := Lib.hid h.out
  have hm3 := h.out.1
  unfold maxLen at hm3
  have hco := h.co
  have hfin : blocksS r key m = (decide (r.kind = 1 ∧ r.inc = m.inc) && r.out.any (hit key m)) := rfl
  generalize blocksS r key m = res at *
  have HF := Lib.hid hfin
  clear hfin h
  unfold regCs
  go_enter Try.func13, Try.ntmps13
  go_wp2_with fail
  go_loopw [11] (fun i wr => ∃ k : Nat, k ≤ r.out.length ∧ i = .int .i64 k ∧ Hid (r.kind = 1 ∧ r.inc = m.inc → (r.out.take k).any (hit key m) = false) ∧ Hid (BoxB wr w.heap.size (w.heap.size + 1) r p m) ∧ Below w.heap.size w wr) (fun i _ => r.out.length - (intOf i).toNat)
  case atStart => exact ⟨0, Nat.zero_le _, rfl, Lib.hid (fun _ => rfl), Lib.hid (by unfold BoxB; refine ⟨?_, ?_, ?_, ?_, ?_⟩ <;> go_simp), bthen (BA.out w _) (BA.out _ _)⟩
  case round =>
    obtain ⟨k, hk, rfl, hg, hbx, bl⟩ := hrel
    by_cases hlt : k < r.out.length
    · obtain ⟨b, o, cs, ha, hcl, hcc, ⟨rfl, hu⟩, hbl⟩ := Rows.at (HO.out.mono bl) k hlt
      have c0 := hcc 0 (by simp)
      have c1 := hcc 1 (by simp)
      simp at c0 c1
      obtain ⟨x0, x1, x5, y1, y2⟩ := hbx.out
      rw [ha] at x5
      have hst := fun (g : r.kind = 1 ∧ r.inc = m.inc) => any_take (hit key m) r.out k hlt (hg.out g)
      have HST := Lib.hid hst
      have HANY := Lib.hid (any_hit (hit key m) r.out k hlt)
      have i1 : (0 : Int) ≤ (k : Int) := by omega
      have i2 : (k : Int) < (r.out.length : Int) := by omega
      have HHIT := Lib.hid (show ∀ d, hit key m d = decide (d.target = key ∧ d.n ≤ m.cell) from fun _ => rfl)
      clear hst hcl hcc hbl ha
      generalize r.out[k] = d at *
      have hbd := fun n => BD.out wr n
      have HBD := Lib.hid hbd
      clear hbd
      rcases beq_cases (r.kind : Int) 1 with ⟨h1, t1⟩ | ⟨h1, t1⟩
      · rcases beq_cases (r.inc : Int) (m.inc : Int) with ⟨h2, t2⟩ | ⟨h2, t2⟩
        · have hki : r.kind = 1 ∧ r.inc = m.inc := by omega
          have HKI := Lib.hid hki
          clear h1 h2 hki
          rcases beq_cases (d.target : Int) (key : Int) with ⟨h3, t3⟩ | ⟨h3, t3⟩
          · by_cases h4 : d.n ≤ m.cell
            · have hr : res = true := by rw [HF.out, decide_eq_true HKI.out, HANY.out (by rw [HHIT.out]; exact decide_eq_true (by omega))]; rfl
              subst hr
              clear h3
              go_wp2_with fail
              go_quiet (fail)
              go_wp2_with fail
              go_ret
              exact retBo rfl (bthen bl (HBD.out _))
            · have H3 := Lib.hid h3
              clear h3
              go_wp2_with fail
              go_quiet (fail)
              go_wp2_with fail
              refine ⟨⟨k + 1, by omega, by go_num, Lib.hid (fun g => by rw [HST.out g, HHIT.out]; exact decide_eq_false (by omega)), Lib.hid (hbx.out.mono (HBD.out nq)), bthen bl (HBD.out nq)⟩, by simp [intOf]; omega⟩
          · have H3 := Lib.hid h3
            clear h3
            go_wp2_with fail
            go_quiet (fail)
            go_wp2_with fail
            refine ⟨⟨k + 1, by omega, by go_num, Lib.hid (fun g => by rw [HST.out g, HHIT.out]; exact decide_eq_false (by have := H3.out; omega)), Lib.hid (hbx.out.mono (HBD.out nq)), bthen bl (HBD.out nq)⟩, by simp [intOf]; omega⟩
        · have H2 := Lib.hid h2
          clear h1 h2
          go_wp2_with fail
          go_quiet (fail)
          go_wp2_with fail
          refine ⟨⟨k + 1, by omega, by go_num, Lib.hid (fun g => by have := H2.out; omega), Lib.hid (hbx.out.mono (HBD.out nq)), bthen bl (HBD.out nq)⟩, by simp [intOf]; omega⟩
      · have H1 := Lib.hid h1
        clear h1
        go_wp2_with fail
        go_quiet (fail)
        go_wp2_with fail
        refine ⟨⟨k + 1, by omega, by go_num, Lib.hid (fun g => by have := H1.out; omega), Lib.hid (hbx.out.mono (HBD.out nq)), bthen bl (HBD.out nq)⟩, by simp [intOf]; omega⟩
    · obtain rfl : k = r.out.length := by omega
      have hr : res = false := by
        rw [HF.out]
        by_cases g : r.kind = 1 ∧ r.inc = m.inc
        · have := hg.out g
          rw [List.take_length] at this
          rw [this]; simp
        · rw [decide_eq_false g]; rfl
      subst hr
      go_wp2_with fail
      go_ret
      exact retBo rfl bl
end Rg
end Go.Proofs.Ytiaogfjmhpkcmaa
