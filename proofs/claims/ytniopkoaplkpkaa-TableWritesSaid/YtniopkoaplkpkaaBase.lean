/- General words for memory: rows of cells, slices that a call owns, and what append does with them. Over any program. No condition. A region that draws its order and whose operations read, and call what makes memory and hands back plain values: one walk in the text's order. Over any program. No condition. A region that draws its order: plain operations are taken first, each call stands alone, and what is known of memory grows behind each call. One walk serves every order. Over any program. No condition. A region that draws its order, with a tail: operations that come last, each alone, once all that was taken early has been done; they may write what was read. Over any program. No condition. -/
import Derived.WalkKit
import Derived.Lib.Hide
import Derived.Handy
import Derived.BigQuiet
import Derived.Deep.QuietTactic
import Derived.Deep.RegionHeld3
namespace Go.Proofs.Ytniopkoaplkpkaa
open Go.RowKit

theorem ret_int {k : IntKind} {a b : Int} (h : a = b) : Ending.returned (.int k a) = .returned (.int k b) := by rw [h]
theorem ret_bool {a b : Bool} (h : a = b) : Ending.returned (.bool a) = .returned (.bool b) := by rw [h]

/-- a goal at which the walk stops -/
def Stop (p : Prop) : Prop := p
theorem stopHere {p : Prop} (h : Stop p) : p := h
theorem atStop {p : Prop} (h : p) : Stop p := h

/-- the cells from an address on -/
def Cells (w : World) (a : Option Addr) (cs : List Value) : Prop :=
  cs = [] ∨ ∃ b o, a = some ⟨b, o, none⟩ ∧ ∀ i (h : i < cs.length), w.cell? ⟨b, o + i, none⟩ = some cs[i]

/-- a byte as a value -/
def bv (c : UInt8) : Value := .int .u8 (c.toNat : Int)

/-- a slice of bytes reads as a list -/
def Bytes (w : World) (a : Option Addr) (n : Nat) (l : List UInt8) : Prop := l.length = n ∧ l.length ≤ maxLen ∧ Cells w a (l.map bv)

/-- a slice value that the call owns (its block lies from base on), or one without room -/
def Own (w : World) (base : Nat) (e : TypeId) (size : Nat) (v : Value) (n : Nat) (xs : List Value) : Prop :=
  ∃ a cap, v = .slice a n cap ∧ xs.length = n * size ∧ n ≤ cap ∧ cap ≤ maxLen ∧
    (cap = 0 ∨ ∃ g cur, a = some ⟨g, 0, none⟩ ∧ base ≤ g ∧ w.heap[g]? = some (.cells cur e (0, 0)) ∧ cur.size = cap * size ∧ cur.toList.take (n * size) = xs)

/-- the block that an append may write -/
def blk : Value → Option Nat
  | .slice (some a) _ (_ + 1) => some a.block
  | _ => none

theorem blk_pos {g o : Nat} {s : Option Nat} (n : Nat) {cap : Nat} (m : Nat) (h : m < cap) : blk (.slice (some ⟨g, o, s⟩) n cap) = some g := by
  cases cap with
  | zero => omega
  | succ c => rfl

theorem addr_add (b o j : Nat) : (⟨b, o, none⟩ : Addr).add j = ⟨b, o + j, none⟩ := by
  unfold Addr.add; split <;> simp_all

theorem Cells.nil (w : World) (a : Option Addr) : Cells w a [] := .inl rfl

theorem Cells.news {w : World} {a : Option Addr} {cs : List Value} (h : Cells w a cs) (hp : 0 < cs.length) :
    ∃ b o, a = some ⟨b, o, none⟩ ∧ (∀ j u, cs[j]? = some u → w.cell? ((⟨b, o, none⟩ : Addr).add j) = some u) ∧ (∀ i (h : i < cs.length), w.cell? ⟨b, o + i, none⟩ = some cs[i]) := by
  rcases h with rfl | ⟨b, o, ha, hc⟩
  · simp at hp
  · refine ⟨b, o, ha, fun j u hu => ?_, hc⟩
    obtain ⟨hj, rfl⟩ := List.getElem?_eq_some_iff.1 hu
    rw [addr_add]; exact hc j hj

theorem Cells.mono {w w' : World} {a : Option Addr} {cs : List Value} (h : Cells w a cs) (hb : Below w.heap.size w w') : Cells w' a cs := by
  rcases h with rfl | ⟨b, o, ha, hc⟩
  · exact .inl rfl
  · refine .inr ⟨b, o, ha, fun i hi => ?_⟩
    have := hc i hi
    rw [hb.cell (p := ⟨b, o + i, none⟩) (World.block_lt_of_cell? w _ this)]; exact this

theorem Bytes.mono {w w' : World} {a : Option Addr} {n : Nat} {l : List UInt8} (h : Bytes w a n l) (hb : Below w.heap.size w w') : Bytes w' a n l := ⟨h.1, h.2.1, h.2.2.mono hb⟩

theorem Bytes.nil (w : World) (a : Option Addr) : Bytes w a 0 [] := ⟨rfl, Nat.zero_le _, .inl rfl⟩

theorem Bytes.at {w : World} {a : Option Addr} {n : Nat} {l : List UInt8} (h : Bytes w a n l) (k : Nat) (hk : k < l.length) :
    ∃ b o, a = some ⟨b, o, none⟩ ∧ w.cell? ⟨b, o + k, none⟩ = some (.int .u8 (l[k].toNat : Int)) := by
  obtain ⟨b, o, ha, _, hc⟩ := h.2.2.news (by simp; omega)
  refine ⟨b, o, ha, ?_⟩
  have := hc k (by simpa using hk)
  rw [this]; simp [bv]

theorem Bytes.take {w : World} {a : Option Addr} {n : Nat} {l : List UInt8} (h : Bytes w a n l) (k : Nat) (hk : k ≤ n) : Bytes w a k (l.take k) := by
  refine ⟨by have := h.1; simp; omega, Nat.le_trans (by simp; omega) h.2.1, ?_⟩
  rcases h.2.2 with h | ⟨b, o, ha, hc⟩
  · left; simp at h; simp [h]
  · exact .inr ⟨b, o, ha, fun i hi => by have := hc i (by simp at hi ⊢; omega); rw [this]; simp⟩

theorem newBytes (w : World) (l : List UInt8) (T : TypeId) (fz : Nat × Nat) (hl : l.length ≤ maxLen) : Bytes (w.alloc (.cells (l.map bv).toArray T fz)) (some ⟨w.heap.size, 0, none⟩) l.length l := by
  refine ⟨rfl, hl, .inr ⟨_, _, rfl, fun i hi => ?_⟩⟩
  simp only [World.cell?, heap_alloc_new, Nat.zero_add]
  simp at hi ⊢
  exact ⟨l[i], by simp, rfl⟩

theorem Own.cells {w : World} {base : Nat} {e : TypeId} {size : Nat} {a : Option Addr} {n cap : Nat} {xs : List Value} (h : Own w base e size (.slice a n cap) n xs) : Cells w a xs := by
  obtain ⟨a', cap', hv, hl, hn, hm, h⟩ := h
  simp at hv; obtain ⟨rfl, rfl⟩ := hv
  rcases h with h0 | ⟨g, cur, rfl, hb, hg, hc, ht⟩
  · left; apply List.eq_nil_of_length_eq_zero; rw [hl, show n = 0 from by omega]; simp
  · refine .inr ⟨g, 0, rfl, fun i hi => ?_⟩
    subst ht
    simp [World.cell?, hg] at hi ⊢

theorem Own.kept {w w' : World} {base : Nat} {e : TypeId} {size : Nat} {v : Value} {n : Nat} {xs : List Value} {row : Option Nat} (h : Own w base e size v n xs) (hg : w.grownBy w' row) (hne : ∀ k, blk v = some k → row ≠ some k) : Own w' base e size v n xs := by
  obtain ⟨a, cap, rfl, hl, hn, hm, h⟩ := h
  refine ⟨a, cap, rfl, hl, hn, hm, ?_⟩
  rcases h with h0 | ⟨g, cur, rfl, hb, hgg, hc, ht⟩
  · exact .inl h0
  · by_cases h0 : cap = 0
    · exact .inl h0
    · refine .inr ⟨g, cur, rfl, hb, ?_, hc, ht⟩
      rw [hg.block g (Array.getElem?_eq_some_iff.1 hgg).1 ?_]; exact hgg
      obtain ⟨c, rfl⟩ := Nat.exists_eq_succ_of_ne_zero h0
      exact fun h => hne g (by simp [blk]) h.symm

theorem Own.below {w w' : World} {base : Nat} {e : TypeId} {size : Nat} {v : Value} {n : Nat} {xs : List Value} (h : Own w base e size v n xs) (hb : Below w.heap.size w w') : Own w' base e size v n xs := by
  obtain ⟨a, cap, rfl, hl, hn, hm, h⟩ := h
  refine ⟨a, cap, rfl, hl, hn, hm, ?_⟩
  rcases h with h0 | ⟨g, cur, rfl, hb', hgg, hc, ht⟩
  · exact .inl h0
  · refine .inr ⟨g, cur, rfl, hb', ?_, hc, ht⟩
    rw [hb.block g (Array.getElem?_eq_some_iff.1 hgg).1]; exact hgg

theorem Own.base {w : World} {base base' : Nat} {e : TypeId} {size : Nat} {v : Value} {n : Nat} {xs : List Value} (h : Own w base e size v n xs) (hb : base' ≤ base) : Own w base' e size v n xs := by
  obtain ⟨a, cap, rfl, hl, hn, hm, h⟩ := h
  refine ⟨a, cap, rfl, hl, hn, hm, ?_⟩
  rcases h with h0 | ⟨g, cur, rfl, hb', r⟩
  · exact .inl h0
  · exact .inr ⟨g, cur, rfl, by omega, r⟩

theorem Own.lt {w : World} {base : Nat} {e : TypeId} {size : Nat} {v : Value} {n : Nat} {xs : List Value} (h : Own w base e size v n xs) : ∀ k, blk v = some k → base ≤ k ∧ k < w.heap.size := by
  obtain ⟨a, cap, rfl, hl, hn, hm, h⟩ := h
  intro k hk
  rcases h with h0 | ⟨g, cur, rfl, hb', hgg, r⟩
  · subst h0; cases a <;> simp [blk] at hk
  · have := (Array.getElem?_eq_some_iff.1 hgg).1
    cases cap with
    | zero => simp [blk] at hk
    | succ c => simp [blk] at hk; subst hk; exact ⟨hb', this⟩

theorem Own.empty (w : World) (base : Nat) (e : TypeId) (size : Nat) (a : Option Addr) : Own w base e size (.slice a 0 0) 0 [] :=
  ⟨a, 0, rfl, by simp, Nat.le_refl _, Nat.zero_le _, .inl rfl⟩

theorem Own.made {w : World} {base : Nat} {e : TypeId} {size : Nat} {n cap : Nat} (cur : Array Value) (g : Nat) (hg : w.heap[g]? = some (.cells cur e (0, 0))) (hb : base ≤ g) (hs : cur.size = cap * size) (hn : n ≤ cap) (hm : cap ≤ maxLen) :
    Own w base e size (.slice (some ⟨g, 0, none⟩) n cap) n (cur.toList.take (n * size)) :=
  ⟨_, cap, rfl, by have := Nat.mul_le_mul_right size hn; simp; omega, hn, hm, .inr ⟨g, cur, rfl, hb, hg, hs, rfl⟩⟩

section
variable {P : Program} (w : World)
theorem run_append_Own (base : Nat) (t ty e : TypeId) (i : TypeInfo) (z : Value) (size bytes : Nat) (ht : P.underlying t = some (.slice e)) (hi : P.info? e = some i) (hz : i.zero = some z)
    (hsize : i.size = size) (hby : i.bytes = bytes) (hzs : z.cells.size = size) (hsz : 0 < size)
    (v : Value) (n : Nat) (xs : List Value) (hown : Own w base e size v n xs)
    (a : Option Addr) (m c : Nat) (news : List Value) (hl : news.length = m * size) (hnews : Cells w a news) (h1 : ∀ u ∈ news, u.oneCell' = true)
    (hbytes : (n + m) * bytes ≤ 140737488355328) (hb0 : 0 < bytes) (hbase : base ≤ w.heap.size) :
    ∃ a' cap' w', (Builtin.append_ #[t, t] ty #[v, .slice a m c]).run P w = .ok (.slice a' (n + m) cap') w' ∧ Own w' base e size (.slice a' (n + m) cap') (n + m) (xs ++ news) ∧ w.grownBy w' (blk v) ∧
      (blk (.slice a' (n + m) cap') = blk v ∨ ∃ k, blk (.slice a' (n + m) cap') = some k ∧ w.heap.size ≤ k) := by
  have h63 : n + m ≤ maxLen := by
    have : (n + m) * 1 ≤ (n + m) * bytes := Nat.mul_le_mul_left _ hb0
    simp only [maxLen]; omega
  by_cases hm : m = 0
  · subst hm
    have hn0 : news = [] := List.eq_nil_of_length_eq_zero (by simpa using hl)
    subst hn0
    obtain ⟨a0, cap, rfl, hxl, hnc, hcm, hr⟩ := hown
    refine ⟨a0, cap, w, ?_, ?_, ⟨rfl, rfl, rfl, Nat.le_refl _, fun _ _ _ => rfl⟩, .inl rfl⟩
    · cases a <;> cases a0 <;> simp [Builtin.append_, run_underlying ht, sizeOf, typeInfo, hi, Builtin.lenOf, Builtin.firstCells, hnc, loadCells, loadCellsFrom, storeCells]
    · exact ⟨a0, cap, rfl, by simpa using hxl, hnc, hcm, by simpa using hr⟩
  · have hnp : 0 < news.length := by rw [hl]; exact Nat.mul_pos (by omega) hsz
    obtain ⟨b, o, rfl, hn', _⟩ := hnews.news hnp
    obtain ⟨a0, cap, rfl, hxl, hnc, hcm, hr⟩ := hown
    by_cases hc0 : cap = 0
    · subst hc0
      have hn0 : n = 0 := by omega
      subst hn0
      have hx : xs = [] := List.eq_nil_of_length_eq_zero (by simpa using hxl)
      subst hx
      clear hr
      rcases a0 with _ | a0
      · have hr := run_append_own (P := P) w base t ty e i z size bytes ht hi hz hsize hby hzs hsz (.slice none 0 0) 0 [] (World.ownsRow_nil w base e size) ⟨b, o, none⟩ m c news hl hn' h1 h63 hbytes hbase
        obtain ⟨v', w', hrun, hown', hg, _⟩ := hr
        obtain ⟨hl', hv⟩ := hown'
        rcases hv with ⟨rfl, h0⟩ | ⟨g, cap', cur, rfl, hbg, hgg, hncap, hcapm, hcs, htk⟩
        · omega
        · have hgn : some g ≠ Value.ownBlock (.slice none 0 0) := by simp [Value.ownBlock]
          refine ⟨_, _, w', hrun, ⟨_, cap', rfl, hl', hncap, hcapm, .inr ⟨g, cur, rfl, hbg, hgg, hcs, htk⟩⟩, hg, .inr ⟨g, ?_, ?_⟩⟩
          · exact blk_pos _ 0 (by omega)
          · have hrr := run_append_nil (P := P) w t ty e i z ht hi hz ⟨b, o, none⟩ m c news (by rw [hl, hsize]) hn' (by omega) (by simp [maxLen] at h63; omega) (by rw [hby]; simp at hbytes; omega)
            rw [hrr] at hrun
            simp at hrun
            omega
      · have hr := run_append_arg_grows (P := P) w t ty e i z size bytes ht hi hz hsize hby hzs hsz a0 0 0 [] (by simp) (by simp) ⟨b, o, none⟩ m c news hl hn' (by omega) h63 hbytes
        obtain ⟨v', w', hrun, hown', hg⟩ := hr
        obtain ⟨hl', hv⟩ := hown'
        rcases hv with ⟨rfl, h0⟩ | ⟨g, cap', cur, rfl, hbg, hgg, hncap, hcapm, hcs, htk⟩
        · omega
        · refine ⟨_, _, w', hrun, ⟨_, cap', rfl, hl', hncap, hcapm, .inr ⟨g, cur, rfl, by omega, hgg, hcs, htk⟩⟩, hg, .inr ⟨g, ?_, hbg⟩⟩
          exact blk_pos _ 0 (by omega)
    · rcases hr with h0 | ⟨g, cur, rfl, hbg, hgg, hcs, htk⟩
      · omega
      · have hro : w.ownsRow base e size (.slice (some ⟨g, 0, none⟩) n cap) n xs := ⟨hxl, .inr ⟨g, cap, cur, rfl, hbg, hgg, hnc, hcm, hcs, htk⟩⟩
        obtain ⟨c0, rfl⟩ := Nat.exists_eq_succ_of_ne_zero hc0
        by_cases hroom : n + m ≤ c0 + 1
        · have hfit : n * i.size + news.length ≤ cur.size := by rw [hl, hcs, hsize, ← Nat.add_mul]; exact Nat.mul_le_mul_right _ hroom
          have hrr := run_append_room (P := P) w t ty e i ht hi g n (c0 + 1) cur hgg ⟨b, o, none⟩ m c news (by rw [hl, hsize]) hn' h1 hroom hfit
          refine ⟨_, _, _, hrr, ⟨_, c0 + 1, rfl, by simp [hxl, hl, Nat.add_mul], hroom, hcm, .inr ⟨g, _, rfl, hbg, setRow_heap w g cur _ e _ hgg, ?_, ?_⟩⟩, ⟨rfl, rfl, rfl, by simp, fun k _ hk => setRow_other w g k _ (fun e => hk (by simp [blk, e]))⟩, .inl rfl⟩
          · simp only [Nat.succ_eq_add_one] at hcs
            simp only [List.size_toArray, List.length_append, List.length_take, List.length_drop, Array.length_toList]
            omega
          · rw [hsize, htk]
            have : (xs ++ news).length = (n + m) * size := by simp [hxl, hl, Nat.add_mul]
            rw [← this]
            exact List.take_left
        · have hr := run_append_arg_grows (P := P) w t ty e i z size bytes ht hi hz hsize hby hzs hsz ⟨g, 0, none⟩ n (c0 + 1) xs hxl (hro.cells rfl) ⟨b, o, none⟩ m c news hl hn' (by omega) h63 hbytes
          obtain ⟨v', w', hrun, hown', hg⟩ := hr
          obtain ⟨hl', hv⟩ := hown'
          rcases hv with ⟨rfl, h0⟩ | ⟨g', cap', cur', rfl, hbg', hgg', hncap, hcapm, hcs', htk'⟩
          · omega
          · refine ⟨_, _, w', hrun, ⟨_, cap', rfl, hl', hncap, hcapm, .inr ⟨g', cur', rfl, by omega, hgg', hcs', htk'⟩⟩, ⟨hg.os, hg.tape, hg.output, hg.size, fun k hk _ => hg.block k hk (by simp)⟩, .inr ⟨g', ?_, hbg'⟩⟩
            exact blk_pos _ 0 (by omega)

theorem wp_append_Own {o : Oper} {a : Act} {K : Act → World → Prop} {Q : Exit → Act → World → Prop} (s x : Operand) (t : TypeId)
    (ho : o.op = .call { callee := .builtin .append, args := #[s, x], argTypes := #[t, t] })
    (base : Nat) (e : TypeId) (i : TypeInfo) (z : Value) (size bytes : Nat) (ht : P.underlying t = some (.slice e)) (hi : P.info? e = some i) (hz : i.zero = some z)
    (hsize : i.size = size) (hby : i.bytes = bytes) (hzs : z.cells.size = size) (hsz : 0 < size)
    (v : Value) (n : Nat) (xs : List Value) (hs : a.eval s = v) (hown : Own w base e size v n xs)
    (ad : Option Addr) (m c : Nat) (news : List Value) (hx : a.eval x = .slice ad m c) (hl : news.length = m * size) (hnews : Cells w ad news) (h1 : ∀ u ∈ news, u.oneCell' = true)
    (hbytes : (n + m) * bytes ≤ 140737488355328) (hb0 : 0 < bytes) (hbase : base ≤ w.heap.size)
    (h : ∀ a' cap' w', Own w' base e size (.slice a' (n + m) cap') (n + m) (xs ++ news) → w.grownBy w' (blk v) → (blk (.slice a' (n + m) cap') = blk v ∨ ∃ k, blk (.slice a' (n + m) cap') = some k ∧ w.heap.size ≤ k) → K (a.put o.dst (.slice a' (n + m) cap')) w') : o.wp P a w K Q := by
  obtain ⟨a', cap', w', hr, h2, h3, h4⟩ := run_append_Own (P := P) w base t o.type e i z size bytes ht hi hz hsize hby hzs hsz v n xs hown ad m c news hl hnews h1 hbytes hb0 hbase
  unfold Oper.wp execOp
  simp only [ho, resolve, invoke, builtin, Sem.run_bind, Sem.run_pure, Result.andThen_ok, List.map_toArray, List.map_cons, List.map_nil, hs, hx, hr]
  exact h a' cap' w' h2 h3 h4

theorem wpList_wanted {ops : Array Oper} {rest : List Oper} {o : Oper} {a : Act} {Q : Exit → Act → World → Prop} (hw : Region.wanted o (yielded ops a.tmps) = true)
    (h : ∀ K : Act → World → Prop, (∀ a w, wpList P ops Q rest a w → K a w) → o.wp P a w K Q) : wpList P ops Q (o :: rest) a w := by
  unfold wpList
  rw [if_pos hw]
  exact .inl (h _ (fun _ _ h => h))

theorem wpList_append_Own {ops : Array Oper} {rest : List Oper} {o : Oper} {a : Act} {Q : Exit → Act → World → Prop} (hgd : Region.wanted o (yielded ops a.tmps) = true) (s x : Operand) (t : TypeId)
    (ho : o.op = .call { callee := .builtin .append, args := #[s, x], argTypes := #[t, t] })
    (base : Nat) (e : TypeId) (i : TypeInfo) (z : Value) (size bytes : Nat) (ht : P.underlying t = some (.slice e)) (hi : P.info? e = some i) (hz : i.zero = some z)
    (hsize : i.size = size) (hby : i.bytes = bytes) (hzs : z.cells.size = size) (hsz : 0 < size)
    (v : Value) (n : Nat) (xs : List Value) (hs : a.eval s = v) (hown : Own w base e size v n xs)
    (ad : Option Addr) (m c : Nat) (news : List Value) (hx : a.eval x = .slice ad m c) (hl : news.length = m * size) (hnews : Cells w ad news) (h1 : ∀ u ∈ news, u.oneCell' = true)
    (hbytes : (n + m) * bytes ≤ 140737488355328) (hb0 : 0 < bytes) (hbase : base ≤ w.heap.size)
    (h : ∀ a' cap' w', Own w' base e size (.slice a' (n + m) cap') (n + m) (xs ++ news) → w.grownBy w' (blk v) → (blk (.slice a' (n + m) cap') = blk v ∨ ∃ k, blk (.slice a' (n + m) cap') = some k ∧ w.heap.size ≤ k) → wpList P ops Q rest (a.put o.dst (.slice a' (n + m) cap')) w') : wpList P ops Q (o :: rest) a w :=
  wpList_wanted w hgd fun _ hK => wp_append_Own w s x t ho base e i z size bytes ht hi hz hsize hby hzs hsz v n xs hs hown ad m c news hx hl hnews h1 hbytes hb0 hbase fun a' cap' w' h2 h3 h4 => hK _ _ (h a' cap' w' h2 h3 h4)
end

theorem below_grown {B : Nat} {w w' : World} {row : Option Nat} (hg : w.grownBy w' row) (hB : B ≤ w.heap.size) (hr : ∀ k, row = some k → B ≤ k) : Below B w w' :=
  (Below.refl B w).grown hg hB hr

/-- bytes that the call owns -/
def OwnB (w : World) (base : Nat) (e : TypeId) (v : Value) (l : List UInt8) : Prop := Own w base e 1 v l.length (l.map bv)

theorem bv_one (l : List UInt8) : ∀ u ∈ l.map bv, u.oneCell' = true := by
  intro u hu
  obtain ⟨c, _, rfl⟩ := List.mem_map.1 hu
  rfl

theorem OwnB.bytes {w : World} {base : Nat} {e : TypeId} {a : Option Addr} {n cap : Nat} {l : List UInt8} (h : OwnB w base e (.slice a n cap) l) : Bytes w a n l := by
  obtain ⟨a', cap', hv, hl, hn, hm, h'⟩ := h
  simp at hv; obtain ⟨rfl, rfl, rfl⟩ := hv
  exact ⟨rfl, by omega, Own.cells (n := l.length) (cap := cap) (base := base) (e := e) (size := 1) ⟨a, cap, rfl, hl, hn, hm, h'⟩⟩

theorem OwnB.cap {w : World} {base : Nat} {e : TypeId} {a : Option Addr} {n cap : Nat} {l : List UInt8} (h : OwnB w base e (.slice a n cap) l) : n ≤ cap ∧ cap ≤ maxLen := by
  obtain ⟨a', cap', hv, hl, hn, hm, h'⟩ := h
  simp at hv; obtain ⟨rfl, rfl, rfl⟩ := hv
  exact ⟨hn, hm⟩

theorem appB_run {P : Program} {w : World} {ops : Array Oper} {rest : List Oper} {o : Oper} {a : Act} {Q : Exit → Act → World → Prop} (t e : TypeId) (i : TypeInfo) (z : Value) (ht : P.underlying t = some (.slice e)) (hi : P.info? e = some i) (hz : i.zero = some z)
    (hsize : i.size = 1) (hby : i.bytes = 1) (hzs : z.cells.size = 1) (hgd : Region.wanted o (yielded ops a.tmps) = true) (s x : Operand)
    (ho : o.op = .call { callee := .builtin .append, args := #[s, x], argTypes := #[t, t] })
    {base : Nat} {v : Value} {l : List UInt8} (hown : OwnB w base e v l) {ad : Option Addr} {mn c : Nat} {m : List UInt8} (hsrc : Bytes w ad mn m) (hs : a.eval s = v) (hx : a.eval x = .slice ad mn c)
    (hbase : base ≤ w.heap.size) (hsmall : l.length + m.length ≤ 140737488355328)
    (h : ∀ a' m' cap' w', OwnB w' base e (.slice a' m' cap') (l ++ m) → w.grownBy w' (blk v) → (blk (.slice a' m' cap') = blk v ∨ ∃ k, blk (.slice a' m' cap') = some k ∧ w.heap.size ≤ k) → wpList P ops Q rest (a.put o.dst (.slice a' m' cap')) w') : wpList P ops Q (o :: rest) a w := by
  obtain ⟨rfl, _, hsrc2⟩ := hsrc
  refine wpList_append_Own w hgd s x t ho base e i z 1 1 ht hi hz hsize hby hzs (by omega) v l.length (l.map bv) hs hown ad m.length c (m.map bv) hx (by simp) hsrc2 (bv_one m) (by omega) (by omega) hbase ?_
  intro a' cap' w' h1 h2 h3
  have e1 : l.length + m.length = (l ++ m).length := by simp
  rw [e1] at h1 h3 ⊢
  exact h a' _ cap' w' (by unfold OwnB; rw [List.map_append]; exact h1) h2 h3

theorem OwnB.below {w w' : World} {base : Nat} {e : TypeId} {v : Value} {l : List UInt8} (h : OwnB w base e v l) (hb : Below w.heap.size w w') : OwnB w' base e v l := Own.below h hb
theorem OwnB.kept {w w' : World} {base : Nat} {e : TypeId} {v : Value} {l : List UInt8} {row : Option Nat} (h : OwnB w base e v l) (hg : w.grownBy w' row) (hne : ∀ k, blk v = some k → row ≠ some k) : OwnB w' base e v l := Own.kept h hg hne
theorem OwnB.lt {w : World} {base : Nat} {e : TypeId} {v : Value} {l : List UInt8} (h : OwnB w base e v l) : ∀ k, blk v = some k → base ≤ k ∧ k < w.heap.size := Own.lt h
theorem OwnB.nil (w : World) (base : Nat) (e : TypeId) (a : Option Addr) : OwnB w base e (.slice a 0 0) [] := Own.empty w base e 1 a
/-- an append to what the call owns leaves all below its base -/
theorem OwnB.grown {B : Nat} {w w' : World} {base : Nat} {e : TypeId} {v : Value} {l : List UInt8} (h : OwnB w base e v l) (hg : w.grownBy w' (blk v)) (hB : B ≤ base) (hs : base ≤ w.heap.size) : Below B w w' :=
  (Below.refl B w).grown hg (by omega) fun k hk => Nat.le_trans hB (h.lt k hk).1

theorem balloc (w : World) (o : Obj) : Below w.heap.size w (w.alloc o) := (Below.refl _ _).alloc (Nat.le_refl _) _

/-- an append to what the call owns, behind what it did before -/
theorem bapp {w wA w' : World} {base : Nat} {e : TypeId} {v : Value} {l : List UInt8} (hB : Below w.heap.size w wA) (ho : OwnB wA base e v l) (hb : w.heap.size ≤ base) (hg : wA.grownBy w' (blk v)) : Below w.heap.size w w' :=
  hB.trans (below_grown hg hB.size fun k hk => Nat.le_trans hb (ho.lt k hk).1)

theorem bthen {w w1 w2 : World} (h : Below w.heap.size w w1) (h' : Below w1.heap.size w1 w2) : Below w.heap.size w w2 := h.trans (h'.mono h.size)
end Go.Proofs.Ytniopkoaplkpkaa
namespace Go.Proofs.Ytniopkoaplkpkaa
open Go.RowKit

/-- 's[:k]' -/
theorem run_slice_to {P : Program} {t e : TypeId} {i : TypeInfo} (ht : P.underlying t = some (.slice e)) (hi : P.info? e = some i) (a : Option Addr) (n cap k : Nat) (h : k ≤ cap) (W : World) :
    (Instr.slice t (.slice a n cap) none (some (.int .i64 (k : Int))) none).run P W = .ok (.slice a k cap) W := by
  have h1 : (0 : Int) ≤ (k : Int) := by omega
  have e0 : Option.map (fun x : Addr => x.add 0) a = a := by cases a <;> simp [Addr.add]
  simp [Instr.slice, run_underlying ht, Instr.sliceBounds, Instr.sliceBound, asIntOf, sizeOf, typeInfo, hi, h, e0]

/-- a world that has grown, all below B as it was -/
structure ExtW (B : Nat) (w : World) where
  W : World
  h : Below B w W

instance extNonempty (B : Nat) (w : World) : Nonempty (ExtW B w) := ⟨⟨w, Below.refl _ _⟩⟩

theorem ext_call {P : Program} {f : FuncId} {args : Array Value} {B : Nat} {w : World} {v : Value} (n : ExtW B w) (hB : B ≤ w.heap.size)
    (h : Calls P f args n.W fun e w' => e = .returned v ∧ Below n.W.heap.size n.W w') : Calls P f args n.W fun e w'' => e = .returned v ∧ ∃ m : ExtW B w, w'' = m.W :=
  h.mono fun _ w' ⟨he, hb⟩ => ⟨he, ⟨w', n.h.trans (hb.mono (Nat.le_trans hB n.h.size))⟩, rfl⟩

theorem ext_call_same {P : Program} {f : FuncId} {args : Array Value} {B : Nat} {w : World} {v : Value} (n : ExtW B w)
    (h : Calls P f args n.W fun e w' => e = .returned v ∧ n.W = w') : Calls P f args n.W fun e w'' => e = .returned v ∧ ∃ m : ExtW B w, w'' = m.W :=
  h.mono fun _ _ ⟨he, hb⟩ => ⟨he, n, hb.symm⟩

theorem wp_region_ext {P : Program} {id : Nat} {Q : Exit → Act → World → Prop} {a : Act} {w : World} {l : List Oper} (B : Nat) (w0 : World) (hw : Below B w0 w) (hm : P.follows .mixedOrders = true) (hB : Region.lexB .any l.toArray = true)
    (h : wpQuiet P l.toArray (fun w' => ∃ n : ExtW B w0, w' = n.W) (fun a' => ∀ w', (∃ n : ExtW B w0, w' = n.W) → Q .normal a' w') l a) : (Code.region id l.toArray true).wp P Q a w :=
  wp_region_quiet (C := fun w' => ∃ n : ExtW B w0, w' = n.W) hm hB ⟨⟨{ w with drawn := w.drawn + 1 }, ⟨hw.os, hw.tape, hw.output, hw.size, hw.block⟩⟩, rfl⟩ (by simpa using h)
end Go.Proofs.Ytniopkoaplkpkaa
namespace Go.Proofs.Ytniopkoaplkpkaa
open Go.RowKit
set_option linter.unusedVariables false

section
variable {P : Program} {ops : Array Oper} {Q : Exit → Act → World → Prop} {md : Region.Mode}

/-- an operation that enters no function -/
def plainB (o : Oper) : Bool :=
  match o.op with
  | .move _ | .assign _ | .pick .. | .binOp .. | .unOp .. | .convert .. | .fieldAddr .. | .field .. | .indexAddr .. | .index .. | .extract .. | .slice .. | .build .. | .load .. | .makeInterface .. => true
  | .call c => match c.callee with
    | .builtin .len | .builtin .cap => true
    | _ => false
  | _ => false

theorem noEnter_t {r : Result Value} {w' : World} {f : FuncId} {args : Array Value} : (r.andThen fun a w' => Result.ok (Next.value a) w') ≠ .ok (.enter f args) w' := by cases r <;> simp
theorem noSkip_t {r : Result Value} {w' : World} : (r.andThen fun a w' => Result.ok (Next.value a) w') ≠ .ok .skip w' := by cases r <;> simp
theorem noEnter_v {s : Sem Value} {w w' : World} {f : FuncId} {args : Array Value} : (do pure (Next.value (← s)) : Sem Next).run P w ≠ .ok (.enter f args) w' := by
  rw [Sem.run_bind]
  cases s.run P w <;> simp

theorem plain_noEnter {o : Oper} (h : plainB o = true) (ρ : Operand → Value) (w w' : World) (f : FuncId) (args : Array Value) : (execOp ρ o).run P w ≠ .ok (.enter f args) w' := by
  unfold plainB at h
  unfold execOp
  split at h
  case h_16 c hop =>
    rw [hop]
    simp only at h ⊢
    split at h
    case h_3 => simp at h
    all_goals
      rename_i hb
      simp only [resolve, hb, Sem.run_bind, Sem.run_pure, Result.andThen_ok, invoke, builtin]
      exact noEnter_t
  case h_17 => simp at h
  all_goals (rename_i hop; rw [hop]; first | exact noEnter_v | (simp only [Sem.run_pure]; simp; done) | (simp only [Sem.run_bind, Sem.run_pure]; rename_i c _ _; cases (asBool (ρ c)).run P w <;> simp))

theorem wpAnyH_more {S S' : World → Prop} (hS : ∀ w, S' w → S w) : ∀ (fuel : Nat) (listed : Array Bool) (a : Act) (w : World), wpAnyH P md ops Q S' fuel listed a w → wpAnyH P md ops Q S fuel listed a w
  | 0, _, _, _, h => h
  | fuel + 1, _, _, _, h => ⟨h.1, fun i hi => wpOp_mono (fun a' w' h' => ⟨hS _ h'.1, wpAnyH_more hS fuel _ a' w' h'.2⟩) (h.2 i hi)⟩

/-- the order in which the operations are taken: false: a plain one; true: a call that stands alone -/
def upFrom (md : Region.Mode) (ops : Array Oper) : List (Nat × Bool) → Array Bool → Bool
  | [], listed => (Region.ready md ops listed).isEmpty
  | (i, false) :: r, listed => (Region.ready md ops listed).contains i && Region.free md ops listed i && upFrom md ops r (listed.setIfInBounds i true)
  | (i, true) :: r, listed => (Region.ready md ops listed == [i]) && upFrom md ops r (listed.setIfInBounds i true)

def upB (ops : Array Oper) (ord : List (Nat × Bool)) : Bool := Region.noSelect ops && (ord.length == ops.size) && upFrom .any ops ord (Array.replicate ops.size false)

/-- the worlds in which all below block B is as it was in w0 -/
def InUp (B : Nat) (w0 : World) : World → Prop := fun w' => ∃ n : ExtW B w0, w' = n.W
theorem inUp {B : Nat} {w0 w : World} (h : Below B w0 w) : InUp B w0 w := ⟨⟨w, h⟩, rfl⟩

def wpUp (P : Program) (ops : Array Oper) (Q : Exit → Act → World → Prop) : List (Nat × Bool) → Nat → World → Act → World → Prop
  | [], _, _, a, w => Q .normal a w
  | (i, b) :: r, B, w0, a, w =>
    match ops[i]? with
    | none => False
    | some o =>
      if Region.wanted o (yielded ops a.tmps) then
        match b with
        | true => o.wp P a w (fun a' w' => ∃ B', B ≤ B' ∧ Below B w0 w' ∧ wpUp P ops Q r B' w' a' w') Q
        | false => ∃ v, (∀ w, InUp B w0 w → (execOp a.eval o).run P w = .ok (.value v) w) ∧ wpUp P ops Q r B w0 (a.put o.dst v) w
      else wpUp P ops Q r B w0 (a.put o.dst undef) w

theorem wpAnyH_of_up (hs : Region.noSelect ops = true) (hQ : ∀ c a w, ¬ Q (.panic c) a w) : ∀ (l : List (Nat × Bool)) (B : Nat) (w0 : World) (listed : Array Bool) (a : Act) (w : World),
    upFrom md ops l listed = true → Below B w0 w → wpUp P ops Q l B w0 a w → wpAnyH P md ops Q (InUp B w0) l.length listed a w
  | [], B, w0, listed, a, w, hB, _, h => ⟨by simpa [upFrom] using hB, h⟩
  | (i, true) :: r, B, w0, listed, a, w, hB, hb, h => by
    simp only [upFrom, Bool.and_eq_true, beq_iff_eq] at hB
    refine ⟨fun h0 => (by rw [hB.1] at h0; cases h0), fun j hj => ?_⟩
    rw [hB.1] at hj
    obtain rfl := List.mem_singleton.1 hj
    unfold wpUp at h
    unfold wpOp
    split at h
    · exact h.elim
    · rename_i o ho
      simp only [ho]
      split
      · rename_i hwt
        simp only [hwt, if_true] at h
        exact .inl (Oper.wp_mono (fun a' w' ⟨B', h0, h1, h2⟩ => ⟨inUp h1, wpAnyH_more (fun x ⟨n, hn⟩ => by rw [hn]; exact inUp (h1.trans (n.h.mono h0))) _ _ _ _ (wpAnyH_of_up hs hQ r B' w' _ a' w' hB.2 (Below.refl _ _) h2)⟩) h)
      · rename_i hwt
        simp only [hwt] at h
        exact ⟨inUp hb, wpAnyH_of_up hs hQ r B w0 _ _ w hB.2 hb h⟩
  | (i, false) :: r, B, w0, listed, a, w, hB, hb, h => by
    simp only [upFrom, Bool.and_eq_true] at hB
    obtain ⟨⟨hr, hf⟩, hB'⟩ := hB
    unfold wpUp at h
    split at h
    · exact h.elim
    · rename_i o ho
      split at h
      · rename_i hwt
        obtain ⟨v, h1, h2⟩ := h
        exact wpAnyH_take ho hs hf hr (fun c a w h => (hQ c _ w h).elim) (.inl ⟨hwt, h1⟩) (inUp hb) (wpAnyH_of_up hs hQ r B w0 _ _ w hB' hb h2)
      · rename_i hwt
        exact wpAnyH_take ho hs hf hr (fun c a w h => (hQ c _ w h).elim) (.inr ⟨by simpa using hwt, rfl⟩) (inUp hb) (wpAnyH_of_up hs hQ r B w0 _ _ w hB' hb h)

/-- the beginning -/
theorem wp_region_up {id : Nat} {a : Act} {w : World} (ord : List (Nat × Bool)) (B : Nat) (hm : P.follows .mixedOrders = true) (hB : upB ops ord = true)
    (h : wpUp P ops (NoPanic Q) ord B w.drew a w.drew) : (Code.region id ops true).wp P Q a w := by
  simp only [upB, Bool.and_eq_true, beq_iff_eq] at hB
  refine wp_region_noPanic (wp_region_held (S := InUp B w.drew) hm ?_)
  rw [← hB.1.2]
  exact wpAnyH_of_up hB.1.1 (fun c a w h => h) ord B _ _ a _ (by rw [hB.1.2]; exact hB.2) (Below.refl _ _) h

theorem wpUp_nil {B : Nat} {w0 : World} {a : Act} {w : World} (h : Q .normal a w) : wpUp P ops (NoPanic Q) [] B w0 a w := h

theorem wpUp_skip {i : Nat} {b : Bool} {r : List (Nat × Bool)} {B : Nat} {a : Act} {w0 w : World} {o : Oper} (hi : ops[i]? = some o) (hw : Region.wanted o (yielded ops a.tmps) = false)
    (h : wpUp P ops Q r B w0 (a.put o.dst undef) w) : wpUp P ops Q ((i, b) :: r) B w0 a w := by
  unfold wpUp
  simp only [hi, hw]
  exact h

theorem wpUp_pure {i : Nat} {r : List (Nat × Bool)} {B : Nat} {a : Act} {w0 w : World} {o : Oper} (hi : ops[i]? = some o) (hw : Region.wanted o (yielded ops a.tmps) = true) (hp : plainB o = true)
    (h : ∀ K : Act → Prop, (∀ a', wpUp P ops Q r B w0 a' w → K a') → o.quiet P a (fun w' => ∃ n : ExtW B w0, w' = n.W) K) : wpUp P ops Q ((i, false) :: r) B w0 a w := by
  obtain ⟨v, h1, h2⟩ := h (fun a' => wpUp P ops Q r B w0 a' w) (fun _ h => h)
  by_cases hsk : ∃ w, InUp B w0 w ∧ (execOp a.eval o).run P w = .ok .skip w
  · exfalso
    obtain ⟨w, hw, hs⟩ := hsk
    unfold plainB at hp
    unfold execOp at hs
    have nv : ∀ s : Sem Value, (do pure (Next.value (← s)) : Sem Next).run P w ≠ .ok .skip w := by
      intro s; rw [Sem.run_bind]; cases s.run P w <;> simp
    split at hp
    case h_16 c hop =>
      rw [hop] at hs
      simp only at hp hs
      split at hp
      case h_3 => simp at hp
      all_goals
        rename_i hb
        simp only [resolve, hb, Sem.run_bind, Sem.run_pure, Result.andThen_ok, invoke, builtin] at hs
        exact noSkip_t hs
    case h_17 => simp at hp
    all_goals (rename_i hop; rw [hop] at hs; first | exact nv _ hs | (simp only [Sem.run_pure] at hs; simp at hs; done) | (simp only [Sem.run_bind, Sem.run_pure] at hs; rename_i c _ _; revert hs; cases (asBool (a.eval c)).run P w <;> simp))
  · unfold wpUp
    simp only [hi, hw, if_true]
    refine ⟨v, fun w hw' => ?_, h2⟩
    have h3 := h1 w hw'
    have h4 := plain_noEnter (P := P) hp a.eval w
    unfold Oper.quietAt at h3
    generalize hr : (execOp a.eval o).run P w = res at *
    cases res with
    | ok n w' =>
      cases n <;> simp only [Oper.quietUpon] at h3
      case value u => obtain ⟨e1, e2⟩ := h3; rw [e1, e2]
      case skip => obtain ⟨e1, e2⟩ := h3; subst e1; exact (hsk ⟨_, hw', hr⟩).elim
      case enter f args => exact (h4 _ _ _ rfl).elim
    | halt x w' => simp only [Oper.quietUpon] at h3

theorem wpUp_hole {i : Nat} {r : List (Nat × Bool)} {B : Nat} {a : Act} {w0 w : World} {o : Oper} (hi : ops[i]? = some o) (hw : Region.wanted o (yielded ops a.tmps) = true)
    (h : ∀ (K : Act → World → Prop), (∀ B' a' w', B ≤ B' → Below B w0 w' → wpUp P ops Q r B' w' a' w' → K a' w') → o.wp P a w K Q) : wpUp P ops Q ((i, true) :: r) B w0 a w := by
  unfold wpUp
  simp only [hi, hw, if_true]
  exact h _ fun B' a' w' h0 h1 h2 => ⟨B', h0, h1, h2⟩

theorem wpUp_call {i : Nat} {r : List (Nat × Bool)} {B : Nat} {a : Act} {w : World} {o : Oper} (hi : ops[i]? = some o) (hw : Region.wanted o (yielded ops a.tmps) = true) (hB : B ≤ w.heap.size)
    (h : ∀ (K : Act → World → Prop), (∀ a' w', Below w.heap.size w w' → wpUp P ops Q r w'.heap.size w' a' w' → K a' w') → o.wp P a w K Q) : wpUp P ops Q ((i, true) :: r) B w a w :=
  wpUp_hole hi hw fun K hK => h K fun a' w' h1 h2 => hK w'.heap.size a' w' (Nat.le_trans hB h1.size) (h1.mono hB) h2
end
end Go.Proofs.Ytniopkoaplkpkaa
namespace Go.Proofs.Ytniopkoaplkpkaa
open Go.RowKit
set_option linter.unusedVariables false

section
variable {P : Program} {ops : Array Oper} {Q : Exit → Act → World → Prop} {md : Region.Mode} {T : List Nat} {S : World → Prop}

/-- in whatever order: behind each operation that is not of the tail, S holds -/
def wpAnyT (P : Program) (md : Region.Mode) (ops : Array Oper) (Q : Exit → Act → World → Prop) (T : List Nat) (S : World → Prop) : Nat → Array Bool → Act → World → Prop
  | 0, listed, a, w => Region.ready md ops listed = [] ∧ Q .normal a w
  | n + 1, listed, a, w => (Region.ready md ops listed = [] → Q .normal a w) ∧
    ∀ i ∈ Region.ready md ops listed, wpOp P ops Q i (fun a' w' => (i ∉ T → S w') ∧ wpAnyT P md ops Q T S n (listed.setIfInBounds i true) a' w') a w

theorem wpAny_of_T : ∀ (n : Nat) (listed : Array Bool) (a : Act) (w : World), wpAnyT P md ops Q T S n listed a w → wpAny P md ops Q n listed a w
  | 0, _, _, _, h => h
  | n + 1, _, _, _, h => ⟨h.1, fun i hi => wpOp_mono (fun a' w' h' => wpAny_of_T n _ a' w' h'.2) (h.2 i hi)⟩

theorem wpAnyT_more {S' : World → Prop} (hS : ∀ w, S' w → S w) : ∀ (n : Nat) (listed : Array Bool) (a : Act) (w : World), wpAnyT P md ops Q T S' n listed a w → wpAnyT P md ops Q T S n listed a w
  | 0, _, _, _, h => h
  | n + 1, _, _, _, h => ⟨h.1, fun i hi => wpOp_mono (fun a' w' h' => ⟨fun hT => hS _ (h'.1 hT), wpAnyT_more hS n _ a' w' h'.2⟩) (h.2 i hi)⟩

/-- every operation of the tail waits for number i -/
def waitB (md : Region.Mode) (ops : Array Oper) (T : List Nat) (i : Nat) : Bool :=
  !T.contains i && T.all fun j => match ops[j]? with
    | none => true
    | some o => o.after.any fun e => Region.binds md e && e.on == i

theorem waitB_spec {i : Nat} (h : waitB md ops T i = true) : i ∉ T ∧ ∀ j ∈ T, ∀ oj, ops[j]? = some oj → ∃ e ∈ oj.after, Region.binds md e = true ∧ e.on = i := by
  simp only [waitB, Bool.and_eq_true, Bool.not_eq_true', List.contains_eq_mem, decide_eq_false_iff_not, List.all_eq_true] at h
  refine ⟨h.1, fun j hj oj ho => ?_⟩
  have := h.2 j hj
  rw [ho] at this
  simp only [Array.any_eq_true, Bool.and_eq_true, beq_iff_eq] at this
  obtain ⟨k, hk, h1, h2⟩ := this
  exact ⟨_, Array.getElem_mem hk, h1, h2⟩

theorem wpAnyT_take {i : Nat} {oi : Oper} {v : Value} (hi : ops[i]? = some oi) (hs : Region.noSelect ops = true) (hw : waitB md ops T i = true) (hQ : ∀ c a w, ¬ Q (.panic c) a w) :
    ∀ (n : Nat) (listed : Array Bool) (a : Act) (w : World),
      (∀ j oj, ops[j]? = some oj → j ≠ i → listed.getD j true = false → (∀ e ∈ oj.after, Region.binds md e = true → e.on ≠ i) → oi.apart ops oj = true) →
      i ∈ Region.ready md ops listed → YieldsIf P ops S oi v a → S w → wpAnyT P md ops Q T S n (listed.setIfInBounds i true) (a.put oi.dst v) w → wpAnyT P md ops Q T S (n + 1) listed a w := by
  have hsel := Region.noSelect_spec hs
  obtain ⟨hiT, hwait⟩ := waitB_spec hw
  have hQ' : ∀ c a w, Q (.panic c) (a.put oi.dst v) w → Q (.panic c) a w := fun c a w h => (hQ c _ w h).elim
  intro n
  induction n with
  | zero =>
    intro listed a w hf hr hy hS H
    refine ⟨fun h0 => absurd hr (by rw [h0]; simp), fun j hj => ?_⟩
    by_cases hji : j = i
    · subst hji
      exact hy.wpOp hi hS ⟨fun _ => hS, H⟩
    · exact absurd (ready_mono hj hji) (by rw [H.1]; simp)
  | succ n ih =>
    intro listed a w hf hr hy hS H
    refine ⟨fun h0 => absurd hr (by rw [h0]; simp), fun j hj => ?_⟩
    by_cases hji : j = i
    · subst hji
      exact hy.wpOp hi hS ⟨fun _ => hS, H⟩
    · obtain ⟨hjun, oj, hoj, hall⟩ := mem_ready.1 hj
      have hnot : ∀ e ∈ oj.after, Region.binds md e = true → e.on ≠ i := by
        intro e he hb heq
        have h1 := hall e he hb
        have h0 := (mem_ready.1 hr).1
        rw [heq] at h1
        by_cases hlt : i < listed.size
        · simp [hlt] at h0 h1
          rw [h0] at h1
          cases h1
        · simp [Array.getElem?_eq_none (Nat.le_of_not_lt hlt)] at h1
      have hjT : j ∉ T := fun hT => by
        obtain ⟨e, he, hb, ho⟩ := hwait j hT oj hoj
        exact hnot e he hb ho
      have step := wpOp_putIf hoj (hf j oj hoj hji hjun hnot) (fun cs b => hsel i oi cs b hi) (fun cs b => hsel j oj cs b hoj) hQ' hy (H.2 j (ready_mono hj hji))
      refine wpOp_mono (fun a' w' h3 => ⟨h3.2.1, ih (listed.setIfInBounds j true) a' w' (fun k ok hk hki hun hno => hf k ok hk hki ?_ hno) (ready_mono hr (Ne.symm hji)) h3.1 (h3.2.1 hjT) ?_⟩) step
      · by_cases hjk : j = k
        · subst hjk; exact hjun
        · rwa [getD_set_ne true hjk] at hun
      · rw [Array.setIfInBounds_comm _ _ hji]
        exact h3.2.2

/-- the tail, one by one -/
def tailB (md : Region.Mode) (ops : Array Oper) (T : List Nat) : List Nat → Array Bool → Bool
  | [], listed => (Region.ready md ops listed).isEmpty
  | i :: r, listed => T.contains i && (Region.ready md ops listed == [i]) && tailB md ops T r (listed.setIfInBounds i true)
def wpTail (P : Program) (ops : Array Oper) (Q : Exit → Act → World → Prop) : List Nat → Act → World → Prop
  | [], a, w => Q .normal a w
  | i :: r, a, w =>
    match ops[i]? with
    | none => False
    | some o => if Region.wanted o (yielded ops a.tmps) then o.wp P a w (fun a' w' => wpTail P ops Q r a' w') Q else wpTail P ops Q r (a.put o.dst undef) w

theorem wpAnyT_of_tail : ∀ (t : List Nat) (listed : Array Bool) (a : Act) (w : World), tailB md ops T t listed = true → wpTail P ops Q t a w → wpAnyT P md ops Q T S t.length listed a w
  | [], listed, a, w, hB, h => ⟨by simpa [tailB] using hB, h⟩
  | i :: r, listed, a, w, hB, h => by
    simp only [tailB, Bool.and_eq_true, beq_iff_eq, List.contains_eq_mem, decide_eq_true_eq] at hB
    refine ⟨fun h0 => (by rw [hB.1.2] at h0; cases h0), fun j hj => ?_⟩
    rw [hB.1.2] at hj
    obtain rfl := List.mem_singleton.1 hj
    unfold wpTail at h
    unfold wpOp
    split at h
    · exact h.elim
    · rename_i o ho
      simp only [ho]
      split
      · rename_i hwt
        simp only [hwt, if_true] at h
        exact .inl (Oper.wp_mono (fun a' w' h' => ⟨fun hn => (hn hB.1.1).elim, wpAnyT_of_tail r _ a' w' hB.2 h'⟩) h)
      · rename_i hwt
        simp only [hwt] at h
        exact ⟨fun hn => (hn hB.1.1).elim, wpAnyT_of_tail r _ _ w hB.2 h⟩

/-- the walk's post ahead of the tail -/
def AtTail (P : Program) (ops : Array Oper) (Q : Exit → Act → World → Prop) (t : List Nat) : Exit → Act → World → Prop
  | .normal, a, w => wpTail P ops Q t a w
  | e, a, w => Q e a w

def upFromT (md : Region.Mode) (ops : Array Oper) (t : List Nat) : List (Nat × Bool) → Array Bool → Bool
  | [], listed => tailB md ops t t listed
  | (i, false) :: r, listed => (Region.ready md ops listed).contains i && Region.free md ops listed i && waitB md ops t i && upFromT md ops t r (listed.setIfInBounds i true)
  | (i, true) :: r, listed => (Region.ready md ops listed == [i]) && upFromT md ops t r (listed.setIfInBounds i true)

theorem wp_exits {Q' : Exit → Act → World → Prop} {o : Oper} {a : Act} {w : World} {K : Act → World → Prop} (h : ∀ c a w, Q' (.panic c) a w → Q (.panic c) a w) (h2 : ∀ a w, Q' .outgrown a w → Q .outgrown a w) (hh : o.wp P a w K Q') : o.wp P a w K Q := by
  unfold Oper.wp at *
  generalize (execOp a.eval o).run P w = r at *
  cases r with
  | ok n w' =>
    cases n <;> simp only [Oper.upon] at hh ⊢ <;> first
      | exact hh
      | exact Calls.mono hh (fun e w he => by cases e <;> first | exact he | exact h _ _ _ he | exact (let ⟨a, w, q⟩ := he; ⟨a, w, h2 a w q⟩))
      | exact Rows.mono hh (fun u w he => he)
  | halt x w' => cases x <;> simp only [Oper.upon] at hh ⊢ <;> first | exact hh | exact h _ _ _ hh

theorem wpAnyT_of_up {t : List Nat} (hs : Region.noSelect ops = true) (hQ : ∀ c a w, ¬ Q (.panic c) a w) : ∀ (l : List (Nat × Bool)) (B : Nat) (w0 : World) (listed : Array Bool) (a : Act) (w : World),
    upFromT md ops t l listed = true → Below B w0 w → wpUp P ops (AtTail P ops Q t) l B w0 a w → wpAnyT P md ops Q t (InUp B w0) (l.length + t.length) listed a w
  | [], B, w0, listed, a, w, hB, _, h => by
    rw [List.length_nil, Nat.zero_add]
    exact wpAnyT_of_tail t listed a w hB h
  | (i, true) :: r, B, w0, listed, a, w, hB, hb, h => by
    simp only [upFromT, Bool.and_eq_true, beq_iff_eq] at hB
    rw [List.length_cons, Nat.add_right_comm]
    refine ⟨fun h0 => (by rw [hB.1] at h0; cases h0), fun j hj => ?_⟩
    rw [hB.1] at hj
    obtain rfl := List.mem_singleton.1 hj
    unfold wpUp at h
    unfold wpOp
    split at h
    · exact h.elim
    · rename_i o ho
      simp only [ho]
      split
      · rename_i hwt
        simp only [hwt, if_true] at h
        refine .inl (wp_exits (Q' := AtTail P ops Q t) (fun c a w h => h) (fun a w h => h) (Oper.wp_mono ?_ h))
        intro a' w' ⟨B', h0, h1, h2⟩
        exact ⟨fun _ => inUp h1, wpAnyT_more (fun x ⟨n, hn⟩ => by rw [hn]; exact inUp (h1.trans (n.h.mono h0))) _ _ _ _ (wpAnyT_of_up hs hQ r B' w' _ a' w' hB.2 (Below.refl _ _) h2)⟩
      · rename_i hwt
        simp only [hwt] at h
        exact ⟨fun _ => inUp hb, wpAnyT_of_up hs hQ r B w0 _ _ w hB.2 hb h⟩
  | (i, false) :: r, B, w0, listed, a, w, hB, hb, h => by
    simp only [upFromT, Bool.and_eq_true] at hB
    obtain ⟨⟨⟨hr, hf⟩, hwt'⟩, hB'⟩ := hB
    rw [List.length_cons, Nat.add_right_comm]
    unfold wpUp at h
    split at h
    · exact h.elim
    · rename_i o ho
      split at h
      · rename_i hwt
        obtain ⟨v, h1, h2⟩ := h
        exact wpAnyT_take ho hs hwt' hQ _ _ _ _ (Region.free_spec ho hf) (by simpa using hr) (.inl ⟨hwt, h1⟩) (inUp hb) (wpAnyT_of_up hs hQ r B w0 _ _ w hB' hb h2)
      · rename_i hwt
        exact wpAnyT_take ho hs hwt' hQ _ _ _ _ (Region.free_spec ho hf) (by simpa using hr) (.inr ⟨by simpa using hwt, rfl⟩) (inUp hb) (wpAnyT_of_up hs hQ r B w0 _ _ w hB' hb h)
def uptB (ops : Array Oper) (ord : List (Nat × Bool)) (t : List Nat) : Bool := Region.noSelect ops && (ord.length + t.length == ops.size) && upFromT .any ops t ord (Array.replicate ops.size false)

/-- the beginning -/
theorem wp_region_upt {id : Nat} {a : Act} {w : World} (ord : List (Nat × Bool)) (t : List Nat) (B : Nat) (hm : P.follows .mixedOrders = true) (hB : uptB ops ord t = true)
    (h : wpUp P ops (AtTail P ops (NoPanic Q) t) ord B w.drew a w.drew) : (Code.region id ops true).wp P Q a w := by
  simp only [uptB, Bool.and_eq_true, beq_iff_eq] at hB
  refine wp_region_noPanic (wp_region_any hm (wpAny_of_T (T := t) (S := InUp B w.drew) _ _ _ _ ?_))
  rw [← hB.1.2]
  exact wpAnyT_of_up hB.1.1 (fun c a w h => h) ord B _ _ a _ (by rw [hB.1.2]; exact hB.2) (Below.refl _ _) h

/-- from the walk's end into the tail -/
theorem wpUp_tail {B : Nat} {w0 : World} {a : Act} {w : World} {t : List Nat} (h : wpTail P ops Q t a w) : wpUp P ops (AtTail P ops Q t) [] B w0 a w := h
theorem wpTail_nil {a : Act} {w : World} (h : Q .normal a w) : wpTail P ops (NoPanic Q) [] a w := h
theorem wpTail_step {i : Nat} {r : List Nat} {a : Act} {w : World} {o : Oper} (hi : ops[i]? = some o) (hw : Region.wanted o (yielded ops a.tmps) = true)
    (h : ∀ K : Act → World → Prop, (∀ a' w', wpTail P ops Q r a' w' → K a' w') → o.wp P a w K Q) : wpTail P ops Q (i :: r) a w := by
  unfold wpTail
  simp only [hi, hw, if_true]
  exact h _ fun a' w' h => h
end
end Go.Proofs.Ytniopkoaplkpkaa
