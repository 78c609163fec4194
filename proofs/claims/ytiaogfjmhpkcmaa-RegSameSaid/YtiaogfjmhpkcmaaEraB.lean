/- The walks of Great and Blocks, the code's and the document's. Conditions: the register can be read. -/
import Derived.Test.YtiaogfjmhpkcmaaRegD
namespace Go.Proofs.Ytiaogfjmhpkcmaa
open Go.RowKit
set_option linter.unusedVariables false
namespace Rg

def greatS (r : RegD) : Bool := decide (50 < r.vars.length ∨ 50 < r.done.length ∨ 50 < r.out.length ∨ 50 < r.marks.length) || r.done.any fun d => decide (50 < d.rep.vars.length)

def hit (key : Nat) (m : MarkD) (c : CellD) : Bool := decide (c.target = key ∧ c.n ≤ m.cell)
def blocksS (r : RegD) (key : Nat) (m : MarkD) : Bool := decide (r.kind = 1 ∧ r.inc = m.inc) && r.out.any (hit key m)

theorem any_take {α : Type} (p : α → Bool) (l : List α) (k : Nat) (hk : k < l.length) (h : (l.take k).any p = false) : (l.take (k + 1)).any p = p l[k] := by
  rw [List.take_succ_eq_append_getElem hk, List.any_append, h]; simp
theorem any_hit {α : Type} (p : α → Bool) (l : List α) (k : Nat) (hk : k < l.length) (h : p l[k] = true) : l.any p = true :=
  List.any_eq_true.2 ⟨l[k], List.getElem_mem _, h⟩

set_option maxHeartbeats 800000 in
theorem great_any (w : World) (r : RegD) (p : RegA) (h : RegAt w r p) :
    Calls Try.prog 10 #[.agg (regCs r p).toArray] w (RetBo w (greatS r)) := by
  have BA := Lib.hid (fun o => balloc w o)
  have HD := Lib.hid h.done
  have hm1 := h.vars.1
  have hm2 := h.done.1
  have hm3 := h.out.1
  have hm4 := h.marks.1
  unfold maxLen at hm1 hm2 hm3 hm4
  have hfin : greatS r = (decide (50 < r.vars.length ∨ 50 < r.done.length ∨ 50 < r.out.length ∨ 50 < r.marks.length) || r.done.any fun d => decide (50 < d.rep.vars.length)) := rfl
  generalize greatS r = res at *
  have HF := Lib.hid hfin
  clear hfin h
  unfold regCs
  by_cases h1 : 50 < r.vars.length
  · have hr : res = true := by rw [HF.out, decide_eq_true (.inl h1)]; rfl
    subst hr
    go_enter Try.func10, Try.ntmps10
    go_wp2_with fail
    go_ret
    exact retBo rfl (BA.out _)
  by_cases h2 : 50 < r.done.length
  · have hr : res = true := by rw [HF.out, decide_eq_true (.inr (.inl h2))]; rfl
    subst hr
    go_enter Try.func10, Try.ntmps10
    go_wp2_with fail
    go_ret
    exact retBo rfl (BA.out _)
  by_cases h3 : 50 < r.out.length
  · have hr : res = true := by rw [HF.out, decide_eq_true (.inr (.inr (.inl h3)))]; rfl
    subst hr
    go_enter Try.func10, Try.ntmps10
    go_wp2_with fail
    go_ret
    exact retBo rfl (BA.out _)
  by_cases h4 : 50 < r.marks.length
  · have hr : res = true := by rw [HF.out, decide_eq_true (.inr (.inr (.inr h4)))]; rfl
    subst hr
    go_enter Try.func10, Try.ntmps10
    go_wp2_with fail
    go_ret
    exact retBo rfl (BA.out _)
  have hr : res = r.done.any fun d => decide (50 < d.rep.vars.length) := by
    rw [HF.out, decide_eq_false (by rintro (h | h | h | h) <;> omega)]; rfl
  have HR := Lib.hid hr
  clear hr
  go_enter Try.func10, Try.ntmps10
  go_wp2_with fail
  go_loop [29] (fun i => ∃ k : Nat, k ≤ r.done.length ∧ i = .int .i64 k ∧ Hid ((r.done.take k).any (fun d => decide (50 < d.rep.vars.length)) = false)) (fun i => r.done.length - (intOf i).toNat)
  case atStart => exact ⟨0, Nat.zero_le _, rfl, Lib.hid rfl⟩
  case round =>
    obtain ⟨k, hk, rfl, hg⟩ := hrel
    by_cases hlt : k < r.done.length
    · obtain ⟨b, o, cs, ha, hl, hc, ⟨q, rfl, _, _, hrep⟩, hbl⟩ := Rows.at HD.out k hlt
      have c5 := hc 5 (by simp [repCs])
      simp [repCs] at c5
      have hlb := hbl (by omega)
      have hst := any_take (fun d : DoneD => decide (50 < d.rep.vars.length)) r.done k hlt hg.out
      have hany := any_hit (fun d : DoneD => decide (50 < d.rep.vars.length)) r.done k hlt
      have hml := hrep.2.2.2.1.1
      unfold maxLen at hml
      have HST := Lib.hid hst
      have HANY := Lib.hid hany
      rw [ha]
      clear hst hany hrep hc hl hbl ha
      generalize r.done[k] = d at *
      by_cases h5 : 50 < d.rep.vars.length
      · have hr : res = true := by rw [HR.out]; exact HANY.out (decide_eq_true h5)
        subst hr
        go_wp2_with fail
        go_ret
        exact retBo rfl (BA.out _)
      · go_wp2_with fail
        go_round
        case rel => exact ⟨k + 1, by omega, by go_num, Lib.hid (by rw [HST.out, decide_eq_false h5])⟩
        case measure => simp [intOf]; omega
    · obtain rfl : k = r.done.length := by omega
      have hg2 := hg.out
      rw [List.take_length] at hg2
      have hr : res = false := by rw [HR.out]; exact hg2
      subst hr
      clear hg2
      go_wp2_with fail
      go_ret
      exact retBo rfl (BA.out _)

/-! ### Blocks -/
/-- the boxes that the closure of Blocks holds -/
def ClB (w : World) (kb mb key : Nat) (m : MarkD) : Prop := w.cell? ⟨kb, 0, none⟩ = some (.int .u8 (key : Int)) ∧ w.cell? ⟨mb, 2, none⟩ = some (.int .u64 (m.cell : Int))
theorem ClB.mono {w w' : World} {kb mb key : Nat} {m : MarkD} (h : ClB w kb mb key m) (hb : Below w.heap.size w w') : ClB w' kb mb key m := ⟨cell_up hb h.1, cell_up hb h.2⟩

theorem blocks1_any (w : World) (kb mb key : Nat) (m : MarkD) (c : CellD) (h : ClB w kb mb key m) :
    Calls Try.prog 37 #[.agg #[.int .u64 (c.n : Int), .int .u8 (c.target : Int), .int .i64 c.action, .int .i64 c.arg], .pointer (some ⟨kb, 0, none⟩), .pointer (some ⟨mb, 0, none⟩)] w (RetBo w (hit key m c)) := by
  have BA := Lib.hid (fun o => balloc w o)
  obtain ⟨k0, m2⟩ := h
  have n1 := World.block_lt_of_cell? w _ k0
  have n2 := World.block_lt_of_cell? w _ m2
  simp only at n1 n2
  unfold hit
  rcases beq_cases (c.target : Int) (key : Int) with ⟨h1, t1⟩ | ⟨h1, t1⟩ <;> by_cases h2 : c.n ≤ m.cell
  all_goals
    have H := Lib.hid (And.intro h1 h2)
    clear h1
    go_enter Try.func37, Try.ntmps37
    go_wp2_with fail
    go_ret
    refine retBo ?_ (BA.out _)
    have := H.out
    first
    | (rw [decide_eq_true (by omega)]; done)
    | (rw [decide_eq_false (by omega)]; done)
    | (symm; rw [decide_eq_true (by omega)]; simp; omega)
    | (symm; rw [decide_eq_false (by omega)]; simp; omega)

def idxS {α : Type} (p : α → Bool) (l : List α) : Int := match l.findIdx? p with | none => -1 | some i => (i : Int)
theorem idx_none {α : Type} {p : α → Bool} {l : List α} (h : l.any p = false) : idxS p l = -1 := by
  unfold idxS
  rw [List.findIdx?_eq_none_iff.2 (fun x hx => by
    cases hp : p x
    · rfl
    · rw [List.any_eq_true.2 ⟨x, hx, hp⟩] at h; cases h)]
theorem idx_some {α : Type} {p : α → Bool} {l : List α} {k : Nat} (hk : k < l.length) (h0 : (l.take k).any p = false) (h : p l[k] = true) : idxS p l = (k : Int) := by
  unfold idxS
  have : l.findIdx? p = some k := by
    rw [List.findIdx?_eq_some_iff_getElem]
    refine ⟨hk, h, fun j hj => ?_⟩
    cases hp : p l[j]
    · simp
    · have : (l.take k).any p = true := List.any_eq_true.2 ⟨l[j], by rw [List.mem_take_iff_getElem]; exact ⟨j, by omega, rfl⟩, hp⟩
      rw [h0] at this; cases this
  rw [this]
theorem idx_any {α : Type} (p : α → Bool) (l : List α) : decide (0 ≤ idxS p l) = l.any p := by
  unfold idxS
  cases h : l.findIdx? p with
  | none =>
    simp only
    have : l.any p = false := by
      rw [List.findIdx?_eq_none_iff] at h
      rw [List.any_eq_false]
      intro x hx; simp [h x hx]
    rw [this]; rfl
  | some i =>
    simp only
    rw [decide_eq_true (by omega)]
    rw [List.findIdx?_eq_some_iff_getElem] at h
    obtain ⟨hi, hp, _⟩ := h
    exact (any_hit p l i hi hp).symm

def RetI (w : World) (x : Int) (e : Ending) (w' : World) : Prop := e = .returned (.int .i64 x) ∧ Below w.heap.size w w'

theorem idxC_any (w : World) (a : Option Addr) (cap : Nat) (l : List CellD) (hl : Cels w a l) (kb mb key : Nat) (m : MarkD) (hc : ClB w kb mb key m) :
    Calls Try.prog 77 #[.slice a l.length cap, .func (.func 37) #[] #[.pointer (some ⟨kb, 0, none⟩), .pointer (some ⟨mb, 0, none⟩)]] w (RetI w (idxS (hit key m) l)) := by
  have hm := hl.1
  unfold maxLen at hm
  have HL := Lib.hid hl
  have HC := Lib.hid hc
  have B0 := Lib.hid (Below.refl w.heap.size w)
  have I0 := Lib.hid (@idx_none _ (hit key m) l)
  have I1 := Lib.hid (fun k hk => @idx_some _ (hit key m) l k hk)
  generalize idxS (hit key m) l = res at *
  clear hl hc
  go_enter Try.func77, Try.ntmps77
  go_wp2_with fail
  go_loopw [8] (fun i wr => ∃ k : Nat, k ≤ l.length ∧ i = .int .i64 k ∧ Hid ((l.take k).any (hit key m) = false) ∧ Below w.heap.size w wr) (fun i _ => l.length - (intOf i).toNat)
  case atStart => exact ⟨0, Nat.zero_le _, rfl, Lib.hid rfl, B0.out⟩
  case round =>
    obtain ⟨k, hk, rfl, hg, bl⟩ := hrel
    by_cases hlt : k < l.length
    · obtain ⟨b, o, cs, ha, hcl, hcc, ⟨rfl, _⟩, hbl⟩ := Rows.at (HL.out.mono bl) k hlt
      have c0 := hcc 0 (by simp)
      have c1 := hcc 1 (by simp)
      have c2 := hcc 2 (by simp)
      have c3 := hcc 3 (by simp)
      simp at c0 c1 c2 c3
      have hst := any_take (hit key m) l k hlt hg.out
      have HST := Lib.hid hst
      have hi1 := fun h => I1.out k hlt hg.out h
      have HI1 := Lib.hid hi1
      subst ha
      clear hst hcl hcc hbl hi1
      generalize l[k] = d at *
      cases hd : hit key m d
      · have HD := Lib.hid hd
        clear hd
        go_wp2_with fail
        refine (blocks1_any _ _ _ key m d (HC.out.mono bl)).mono ?_
        rintro e w1 ⟨rfl, b1⟩
        rw [HD.out]
        go_wp2_with fail
        go_roundw
        case rel => exact ⟨k + 1, by omega, by go_num, Lib.hid (by rw [HST.out, HD.out]), bthen bl b1⟩
        case measure => simp [intOf]; omega
      · have hr : res = (k : Int) := HI1.out hd
        have HD := Lib.hid hd
        subst hr
        clear hd
        go_wp2_with fail
        refine (blocks1_any _ _ _ key m d (HC.out.mono bl)).mono ?_
        rintro e w1 ⟨rfl, b1⟩
        rw [HD.out]
        go_wp2_with fail
        go_ret
        exact ⟨rfl, bthen bl b1⟩
    · obtain rfl : k = l.length := by omega
      have hg2 := hg.out
      rw [List.take_length] at hg2
      have hr : res = -1 := I0.out hg2
      subst hr
      clear hg2
      go_wp2_with fail
      go_ret
      exact ⟨rfl, bl⟩

theorem contC_any (w : World) (a : Option Addr) (cap : Nat) (l : List CellD) (hl : Cels w a l) (kb mb key : Nat) (m : MarkD) (hc : ClB w kb mb key m) :
    Calls Try.prog 36 #[.slice a l.length cap, .func (.func 37) #[] #[.pointer (some ⟨kb, 0, none⟩), .pointer (some ⟨mb, 0, none⟩)]] w (RetBo w (l.any (hit key m))) := by
  have HC := Lib.hid (idxC_any w a cap l hl kb mb key m hc)
  have HA := Lib.hid (idx_any (hit key m) l)
  clear hl hc
  generalize l.any (hit key m) = res at *
  generalize idxS (hit key m) l = x at *
  go_enter Try.func36, Try.ntmps36
  go_wp2_with fail
  refine HC.out.mono ?_
  rintro e w1 ⟨rfl, b1⟩
  go_wp2_with fail
  go_ret
  exact retBo (by rw [← HA.out]) b1

theorem blocks_any (w : World) (r : RegD) (p : RegA) (h : RegAt w r p) (key : Nat) (hk : key < 256) (m : MarkD) :
    Calls Try.prog 12 #[.agg (regCs r p).toArray, .int .u8 (key : Int), .agg #[.int .u8 (m.source : Int), .int .u64 (m.inc : Int), .int .u64 (m.cell : Int)]] w (RetBo w (blocksS r key m)) := by
  have BA := Lib.hid (fun w o => balloc w o)
  have HO := Lib.hid h.out
  have hfin : blocksS r key m = (decide (r.kind = 1 ∧ r.inc = m.inc) && r.out.any (hit key m)) := rfl
  generalize blocksS r key m = res at *
  have HF := Lib.hid hfin
  clear hfin h
  unfold regCs
  have tn : ∀ a c : Int, (a != c) = !(a == c) := fun _ _ => rfl
  rcases beq_cases (r.kind : Int) 1 with ⟨h1, t1⟩ | ⟨h1, t1⟩
  · rcases beq_cases (r.inc : Int) (m.inc : Int) with ⟨h2, t2⟩ | ⟨h2, t2⟩
    · have u1 := tn (r.kind : Int) 1
      have u2 := tn (r.inc : Int) (m.inc : Int)
      rw [t1] at u1
      rw [t2] at u2
      have hr : res = r.out.any (hit key m) := by rw [HF.out, decide_eq_true (by omega)]; rfl
      have HR := Lib.hid hr
      clear hr h1 h2 tn
      go_enter Try.func12, Try.ntmps12
      go_wp2_with fail
      refine (contC_any _ _ _ _ (HO.out.mono (bthen (bthen (BA.out w _) (BA.out _ _)) (BA.out _ _))) _ _ key m ⟨?_, ?_⟩).mono ?_
      · go_simp
      · go_simp
      rintro e w1 ⟨rfl, b1⟩
      go_wp2_with fail
      go_ret
      exact retBo HR.out.symm (bthen (bthen (bthen (BA.out w _) (BA.out _ _)) (BA.out _ _)) b1)
    · have u1 := tn (r.kind : Int) 1
      have u2 := tn (r.inc : Int) (m.inc : Int)
      rw [t1] at u1
      rw [t2] at u2
      have hr : res = false := by rw [HF.out, decide_eq_false (by omega)]; rfl
      subst hr
      clear h1 h2 tn
      go_enter Try.func12, Try.ntmps12
      go_wp2_with fail
      go_ret
      exact retBo rfl (bthen (bthen (BA.out w _) (BA.out _ _)) (BA.out _ _))
  · have u1 := tn (r.kind : Int) 1
    rw [t1] at u1
    have hr : res = false := by rw [HF.out, decide_eq_false (by omega)]; rfl
    subst hr
    clear h1 tn
    go_enter Try.func12, Try.ntmps12
    go_wp2_with fail
    go_ret
    exact retBo rfl (bthen (bthen (BA.out w _) (BA.out _ _)) (BA.out _ _))
end Rg
end Go.Proofs.Ytiaogfjmhpkcmaa
