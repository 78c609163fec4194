/- Lists of signs and of numbers in memory; the walks of right and May. Conditions: the lists can be read. -/
import Derived.Test.YtdpmfjbhadapiaaExpS
namespace Go.Proofs.Ytdpmfjbhadapiaa
open Go.RowKit
set_option linter.unusedVariables false
namespace Ex

/-- a slice of signs reads as a list -/
def Toks (w : World) (a : Option Addr) (n : Nat) (l : List Tok) : Prop :=
  l.length = n ∧ n ≤ maxLen ∧ (∀ t ∈ l, okT t) ∧ (l = [] ∨ ∃ b o, a = some ⟨b, o, none⟩ ∧ ∀ i (h : i < l.length), w.cell? ⟨b, o + i * 2, none⟩ = some (.int .u8 (l[i].op : Int)) ∧ w.cell? ⟨b, o + i * 2 + 1, none⟩ = some (.int .i64 l[i].n))
/-- a slice of numbers reads as a list -/
def Ints (w : World) (a : Option Addr) (n : Nat) (l : List Int) : Prop :=
  l.length = n ∧ n ≤ maxLen ∧ (∀ x ∈ l, least ≤ x ∧ x ≤ most) ∧ (l = [] ∨ ∃ b o, a = some ⟨b, o, none⟩ ∧ ∀ i (h : i < l.length), w.cell? ⟨b, o + i, none⟩ = some (.int .i64 l[i]))

theorem Toks.mono {w w' : World} {a : Option Addr} {n : Nat} {l : List Tok} (h : Toks w a n l) (hb : Below w.heap.size w w') : Toks w' a n l := by
  obtain ⟨h1, h2, h3, h4⟩ := h
  refine ⟨h1, h2, h3, ?_⟩
  rcases h4 with h | ⟨b, o, ha, hc⟩
  · exact .inl h
  · refine .inr ⟨b, o, ha, fun i hi => ?_⟩
    obtain ⟨c0, c1⟩ := hc i hi
    exact ⟨by rw [hb.cell (p := ⟨b, o + i * 2, none⟩) (World.block_lt_of_cell? w _ c0)]; exact c0, by rw [hb.cell (p := ⟨b, o + i * 2 + 1, none⟩) (World.block_lt_of_cell? w _ c1)]; exact c1⟩
theorem Ints.mono {w w' : World} {a : Option Addr} {n : Nat} {l : List Int} (h : Ints w a n l) (hb : Below w.heap.size w w') : Ints w' a n l := by
  obtain ⟨h1, h2, h3, h4⟩ := h
  refine ⟨h1, h2, h3, ?_⟩
  rcases h4 with h | ⟨b, o, ha, hc⟩
  · exact .inl h
  · refine .inr ⟨b, o, ha, fun i hi => ?_⟩
    have c0 := hc i hi
    rw [hb.cell (p := ⟨b, o + i, none⟩) (World.block_lt_of_cell? w _ c0)]; exact c0
theorem Toks.at {w : World} {a : Option Addr} {n : Nat} {l : List Tok} (h : Toks w a n l) (k : Nat) (hk : k < l.length) :
    ∃ b o, a = some ⟨b, o, none⟩ ∧ w.cell? ⟨b, o + k * 2, none⟩ = some (.int .u8 (l[k].op : Int)) ∧ w.cell? ⟨b, o + k * 2 + 1, none⟩ = some (.int .i64 l[k].n) ∧ okT l[k] := by
  obtain ⟨h1, h2, h3, h4⟩ := h
  rcases h4 with h | ⟨b, o, ha, hc⟩
  · subst h; simp at hk
  · exact ⟨b, o, ha, (hc k hk).1, (hc k hk).2, h3 _ (List.getElem_mem _)⟩
theorem Ints.at {w : World} {a : Option Addr} {n : Nat} {l : List Int} (h : Ints w a n l) (k : Nat) (hk : k < l.length) :
    ∃ b o, a = some ⟨b, o, none⟩ ∧ w.cell? ⟨b, o + k, none⟩ = some (.int .i64 l[k]) ∧ least ≤ l[k] ∧ l[k] ≤ most := by
  obtain ⟨h1, h2, h3, h4⟩ := h
  rcases h4 with h | ⟨b, o, ha, hc⟩
  · subst h; simp at hk
  · exact ⟨b, o, ha, hc k hk, h3 _ (List.getElem_mem _)⟩
theorem Toks.nil (w : World) (a : Option Addr) : Toks w a 0 [] := ⟨rfl, Nat.zero_le _, by simp, .inl rfl⟩
theorem Ints.nil (w : World) (a : Option Addr) : Ints w a 0 [] := ⟨rfl, Nat.zero_le _, by simp, .inl rfl⟩

theorem cell_new {wr w1 : World} {cs : Array Value} {T : TypeId} (b1 : Below (wr.alloc (.cells cs T)).heap.size (wr.alloc (.cells cs T)) w1) (i : Nat) : w1.cell? ⟨wr.heap.size, i, none⟩ = cs[i]? := by
  rw [b1.cell (p := ⟨wr.heap.size, i, none⟩) (by simp)]
  simp only [World.cell?, heap_alloc_new]
  rfl

def RetBo (w : World) (b : Bool) (e : Ending) (w' : World) : Prop := e = .returned (.bool b) ∧ Below w.heap.size w w'
theorem retBo {w w' : World} {b b' : Bool} (h : b = b') (hb : Below w.heap.size w w') : RetBo w b' (.returned (.bool b)) w' := by subst h; exact ⟨rfl, hb⟩

theorem right_any (op : Nat) (n : Int) (vars : Int) (w : World) :
    Calls Try.prog 90 #[.agg #[.int .u8 (op : Int), .int .i64 n], .int .i64 vars] w (RetBo w (right ⟨op, n⟩ vars)) := by
  have B1 := Lib.hid (fun o => balloc w o)
  unfold right
  simp only
  by_cases h1 : op = 1
  · subst h1
    rw [if_pos rfl]
    go_enter Try.func90, Try.ntmps90
    go_wp2
    go_ret
    exact retBo rfl (B1.out _)
  have e1 : ((op : Int) == 1) = false := by simp; omega
  rw [if_neg h1]
  clear h1
  by_cases h2 : op = 2
  · subst h2
    rw [if_pos rfl]
    clear e1
    by_cases h3 : 0 ≤ n <;> by_cases h4 : n < vars
    all_goals
      have H := Lib.hid (And.intro h3 h4)
      first | have d1 : decide (0 ≤ n) = true := decide_eq_true h3 | have d1 : decide (0 ≤ n) = false := decide_eq_false h3
      first | have d2 : decide (n < vars) = true := decide_eq_true h4 | have d2 : decide (n < vars) = false := decide_eq_false h4
      clear h3 h4
      go_enter Try.func90, Try.ntmps90
      go_wp2
      go_ret
      exact retBo (by simp [H.out]) (B1.out _)
  have e2 : ((op : Int) == 2) = false := by simp; omega
  rw [if_neg h2]
  clear h2
  rcases zero_beq n with ⟨h3, t3⟩ | ⟨h3, t3⟩ <;> by_cases h4 : 3 ≤ op <;> by_cases h5 : op ≤ 11
  all_goals
    have H := Lib.hid (And.intro h3 (And.intro h4 h5))
    have h4' : decide ((3 : Int) ≤ (op : Int)) = decide (3 ≤ op) := by rw [Bool.eq_iff_iff]; simp; omega
    have h5' : decide ((op : Int) ≤ 11) = decide (op ≤ 11) := by rw [Bool.eq_iff_iff]; simp; omega
    first | rw [decide_eq_true h4] at h4' | rw [decide_eq_false h4] at h4'
    first | rw [decide_eq_true h5] at h5' | rw [decide_eq_false h5] at h5'
    clear h3 h4 h5
    go_enter Try.func90, Try.ntmps90
    go_wp2
    go_ret
    exact retBo (by simp [H.out]) (B1.out _)

theorem mayGo_take (vars : Int) (l : List Tok) (k h : Nat) (hk : k < l.length) (e : mayGo vars (l.take k) 0 = some h) : mayGo vars (l.take (k + 1)) 0 = mayStep vars l[k] h := by
  rw [List.take_succ_eq_append_getElem hk, mayGo_snoc, e]; rfl
theorem mayS_none {vars : Int} {l : List Tok} {k : Nat} (e : mayGo vars (l.take k) 0 = none) : mayS l vars = false := by
  unfold mayS
  rw [decide_eq_false_iff_not]
  rintro ⟨_, h⟩
  rw [← List.take_append_drop k l, mayGo_app, e] at h
  simp at h

set_option maxHeartbeats 800000 in
theorem may_any (a : Option Addr) (n cap : Nat) (l : List Tok) (vars : Int) (w : World) (hl : Toks w a n l) :
    Calls Try.prog 59 #[.slice a n cap, .int .i64 vars] w (RetBo w (mayS l vars)) := by
  have hm := hl.2.1
  unfold maxLen at hm
  obtain rfl := hl.1
  have HL := Lib.hid hl
  have HT := Lib.hid (mayGo_take vars l)
  have HN := Lib.hid (fun k => @mayS_none vars l k)
  have HS := Lib.hid (show mayS l vars = decide (l.length ≤ 24 ∧ mayGo vars l 0 = some 1) from rfl)
  have B0 := Lib.hid (Below.refl w.heap.size w)
  clear hl
  go_enter Try.func59, Try.ntmps59
  go_wp2
  go_loopw [5, 10] (fun high i wr => ∃ k h : Nat, k ≤ l.length ∧ i = .int .i64 k ∧ high = .int .i64 h ∧ Hid (mayGo vars (l.take k) 0 = some h) ∧ h ≤ k ∧ Below w.heap.size w wr) (fun _ i _ => l.length - (intOf i).toNat)
  case atStart => exact ⟨0, 0, Nat.zero_le _, rfl, rfl, Lib.hid (by simp [mayGo]), Nat.le_refl _, B0.out⟩
  case round =>
    obtain ⟨k, h, hk, rfl, rfl, hg, hh, bl⟩ := hrel
    by_cases hlt : k < l.length
    · obtain ⟨b, o, ha, c0, c1, hok⟩ := (HL.out.mono bl).at k hlt
      subst ha
      have hst := HT.out k h hlt hg.out
      generalize l[k] = t at *
      obtain ⟨op, x⟩ := t
      simp only at c0 c1
      have HST := Lib.hid hst
      clear hst
      go_wp2_with fail
      refine (right_any op x vars _).mono ?_
      rintro e w1 ⟨rfl, b1⟩
      have hr := Lib.hid (show mayStep vars ⟨op, x⟩ h = if right ⟨op, x⟩ vars = true ∧ takes op ≤ h then some (h + 1 - takes op) else none from rfl)
      have q0 := cell_new b1 0
      have q1 := cell_new b1 1
      simp only [show (#[Value.int .u8 (op : Int), Value.int .i64 x] : Array Value)[0]? = some (.int .u8 (op : Int)) from rfl] at q0
      simp only [show (#[Value.int .u8 (op : Int), Value.int .i64 x] : Array Value)[1]? = some (.int .i64 x) from rfl] at q1
      have bl1 := bthen bl (bthen (balloc _ _) b1)
      have BL1 := Lib.hid bl1
      clear bl1 b1
      have htk := takes_le op
      cases hri : right ⟨op, x⟩ vars
      · have hf : mayS l vars = false := HN.out (k + 1) (by rw [HST.out, hr.out, if_neg (by rw [hri]; simp)])
        have HF := Lib.hid hf
        clear hf
        go_wp2
        go_ret
        exact retBo HF.out.symm BL1.out
      · have HR := Lib.hid hri
        clear hri
        by_cases htt : takes op ≤ h
        · have hf : mayGo vars (l.take (k + 1)) 0 = some (h + 1 - takes op) := by rw [HST.out, hr.out, if_pos ⟨HR.out, htt⟩]
          have HF := Lib.hid hf
          clear hf
          go_wp2_with fail
          refine (takes_any op _).mono ?_
          rintro e w2 ⟨rfl, rfl⟩
          go_wp2_with fail
          refine (takes_any op _).mono ?_
          rintro e w2 ⟨rfl, rfl⟩
          go_wp2
          go_roundw
          case rel => exact ⟨k + 1, h + 1 - takes op, by omega, by go_num, by go_num, HF, by omega, BL1.out⟩
          case measure => simp [intOf]; omega
        · have hf : mayS l vars = false := HN.out (k + 1) (by rw [HST.out, hr.out, if_neg (fun h => htt h.2)])
          have HF := Lib.hid hf
          clear hf
          go_wp2_with fail
          refine (takes_any op _).mono ?_
          rintro e w2 ⟨rfl, rfl⟩
          go_wp2
          go_ret
          exact retBo HF.out.symm BL1.out
    · obtain rfl : k = l.length := by omega
      have hg2 := hg.out
      rw [List.take_length] at hg2
      have HG := Lib.hid hg2
      clear hg2 hg
      by_cases h1 : l.length ≤ 24 <;> by_cases h2 : h = 1
      all_goals
        have H := Lib.hid (And.intro h1 h2)
        have e2 : ((h : Int) == 1) = decide (h = 1) := by rw [Bool.eq_iff_iff]; simp; omega
        first | rw [decide_eq_true h2] at e2 | rw [decide_eq_false h2] at e2
        have e1 : decide ((l.length : Int) ≤ 24) = decide (l.length ≤ 24) := by rw [Bool.eq_iff_iff]; simp; omega
        first | rw [decide_eq_true h1] at e1 | rw [decide_eq_false h1] at e1
        clear h1 h2
        go_wp2
        go_ret
        refine retBo ?_ bl
        rw [HS.out, HG.out]
        simp [H.out]
end Ex
end Go.Proofs.Ytdpmfjbhadapiaa
