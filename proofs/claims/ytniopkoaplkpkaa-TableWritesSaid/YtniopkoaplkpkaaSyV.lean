/- Slices of the call's own opened to their block; copy, clear, append in their place, append of a made slice, slices cut in plain regions, lengths and caps. Over any program. No condition. Several slices of the call's own, by a list; calls that are handed a block and slices to write. Over any program. No condition. -/
import Derived.Test.YtniopkoaplkpkaaSyS
import Derived.Laws.CopyRow
import Derived.Lib.AppendZerosOnto
import Derived.Lib.SliceRun
namespace Go.Proofs.Ytniopkoaplkpkaa
open Go.RowKit
set_option linter.unusedVariables false
set_option linter.unusedSimpArgs false
namespace Sy
theorem cells_sub {w w' : World} {a : Option Addr} {cs : List Value} (h : Cells w a cs) (hs : Sub w w') : Cells w' a cs := by
  rcases h with rfl | ⟨b, o, ha, hc⟩
  · exact .inl rfl
  · exact .inr ⟨b, o, ha, fun i hi => hs _ _ (hc i hi)⟩
/-- a row with cells put into it -/
def putL (cs : List Value) (o : Nat) (news : List Value) : List Value := cs.take o ++ news ++ cs.drop (o + news.length)
theorem putL_len {cs news : List Value} {o : Nat} (h : o + news.length ≤ cs.length) : (putL cs o news).length = cs.length := by
  unfold putL; simp; omega
theorem frees_blk {ad : Option Addr} {n cap k : Nat} (h : blk (.slice ad n cap) = some k) : cap ≠ 0 ∧ ∃ o s, ad = some ⟨k, o, s⟩ := by
  cases ad with
  | none => simp [blk] at h
  | some a =>
    cases cap with
    | zero => simp [blk] at h
    | succ c =>
      obtain ⟨b, o, s⟩ := a
      simp [blk] at h
      subst h
      exact ⟨by omega, o, s, rfl⟩
section
variable {E E1 : Ext} {c : Cx} {m w : World} {bs : List Blk}
/-- what the call owns, as a block -/
theorem MemE.openSl {e : TypeId} {s n n' cap : Nat} {xs : List Value} {ad : Option Addr} (F : MemE (SlA E1 e s (.slice ad n' cap) n xs) c m bs w) (h0 : cap ≠ 0) :
    ∃ g cs, ad = some ⟨g, 0, none⟩ ∧ n' = n ∧ cs.length = cap * s ∧ n ≤ cap ∧ cap ≤ maxLen ∧ cs.take (n * s) = xs ∧ xs.length = n * s ∧ MemE E1 c m (⟨g, cs, e⟩ :: bs) w := by
  obtain ⟨hE1, ⟨ad', cap', hv, hxl, hn, hm, hcase⟩, hdj⟩ := F.ext
  simp at hv
  obtain ⟨rfl, rfl, rfl⟩ := hv
  rcases hcase with hc | ⟨g, cur, rfl, _, hcell, hcsz, htk⟩
  · exact (h0 hc).elim
  have hb : blk (.slice (some ⟨g, 0, none⟩) n' cap) = some g := blk_of h0 rfl
  have hl := F.loose g (.inr hb)
  refine ⟨g, cur.toList, rfl, rfl, by simpa using hcsz, hn, hm, htk, hxl, ⟨F.kept, F.sub0, F.sub, F.fresh, fun b hbm => ?_, ?_, hE1, fun k hk => ?_⟩⟩
  · rcases List.mem_cons.1 hbm with rfl | hbm
    · exact ⟨hl.1, by simpa using hcell, hl.2.2⟩
    · exact F.own b hbm
  · rw [List.map_cons, List.nodup_cons]
    exact ⟨hl.2.1, F.nodup⟩
  · have h := F.loose k (.inl hk)
    refine ⟨h.1, fun hm => ?_, h.2.2⟩
    rcases List.mem_cons.1 hm with h2 | h2
    · subst h2; exact hdj _ hb hk
    · exact h.2.1 h2
theorem MemE.closeSl {e : TypeId} {s n cap g : Nat} {cs xs : List Value} (F : MemE E c m (⟨g, cs, e⟩ :: bs) w) (hl : cs.length = cap * s) (hn : n ≤ cap) (hm : cap ≤ maxLen) (htk : cs.take (n * s) = xs) :
    MemE (SlA E e s (.slice (some ⟨g, 0, none⟩) n cap) n xs) c m bs w := by
  have ho := F.own ⟨g, cs, e⟩ (List.mem_cons_self ..)
  have hnd := List.nodup_cons.1 F.nodup
  have hblk : ∀ k, blk (.slice (some ⟨g, 0, none⟩) n cap) = some k → k = g := fun k hk => by
    obtain ⟨_, o, s, h⟩ := frees_blk hk
    simp at h
    exact h.1.symm
  have hxl : xs.length = n * s := by
    rw [← htk, List.length_take, hl]
    exact Nat.min_eq_left (Nat.mul_le_mul_right _ hn)
  refine ⟨F.kept, F.sub0, F.sub, F.fresh, fun b hb => F.own b (List.mem_cons_of_mem _ hb), hnd.2, ⟨F.ext, ⟨_, cap, rfl, hxl, hn, hm, .inr ⟨g, cs.toArray, rfl, Nat.zero_le _, ho.2.1, by simpa using hl, by simpa using htk⟩⟩, fun k hk hs => ?_⟩, fun k hk => ?_⟩
  · rw [hblk k hk] at hs
    exact (F.loose g hs).2.1 (by simp)
  · rcases hk with hk | hk
    · have := F.loose k hk
      exact ⟨this.1, fun hm => this.2.1 (by simp only [List.map_cons]; exact List.mem_cons_of_mem _ hm), this.2.2⟩
    · rw [hblk k hk]
      exact ⟨ho.1, hnd.1, ho.2.2⟩
theorem MemE.setRow {g : Nat} {cs cs' : List Value} {t : TypeId} (F : MemE E c m (⟨g, cs, t⟩ :: bs) w) : MemE E c m (⟨g, cs', t⟩ :: bs) (w.setRow g cs'.toArray) := by
  have hg := (F.own ⟨g, cs, t⟩ (by simp)).2.1
  exact F.set cs' (setRow_heap w g _ _ t _ hg) (fun k hk => setRow_other w g k _ hk) rfl rfl rfl (by simp)
/-- nothing else is known than what the walk names -/
theorem MemE.forget {e : TypeId} {s n : Nat} {v : Value} {xs : List Value} (F : MemE (SlA E1 e s v n xs) c m bs w) : MemE E1 c m bs w := ⟨F.kept, F.sub0, F.sub, F.fresh, F.own, F.nodup, F.ext.1, fun k hk => F.loose k (.inl hk)⟩

/-! calls that take a slice of the caller's own, and hand back one -/
def RetO (w : World) (v : Value) (e : TypeId) (s n : Nat) (xs : List Value) (en : Ending) (w' : World) : Prop :=
  ∃ v', en = .returned v' ∧ w.grownBy w' (blk v) ∧ Own w' 0 e s v' n xs ∧ ∀ k, blk v' = some k → blk v = some k ∨ w.heap.size ≤ k
theorem MemE.grownO {e e' : TypeId} {size size' : Nat} {v v' : Value} {n n' : Nat} {xs xs' : List Value} (F : MemE (SlA E1 e size v n xs) c m bs w) {w' : World} (hg : w.grownBy w' (blk v)) (ho : Own w' 0 e' size' v' n' xs') (hb : ∀ k, blk v' = some k → blk v = some k ∨ w.heap.size ≤ k) : MemE (SlA E1 e' size' v' n' xs') c m bs w' := by
  have hlt : ∀ b ∈ bs, b.adr < w.heap.size := fun b hb => F.lt hb
  have hne : ∀ b ∈ bs, some b.adr ≠ blk v := fun b hb hbv => (F.loose b.adr (.inr hbv.symm)).2.1 (List.mem_map_of_mem hb)
  have hE : ∀ k, E1.S k → w'.heap[k]? = w.heap[k]? := fun k hk => hg.block k (E1.dom w k F.ext.1 hk) (fun h => F.ext.2.2 k h.symm hk)
  refine ⟨⟨hg.os.trans F.kept.os, hg.tape.trans F.kept.tape, hg.output.trans F.kept.output, Nat.le_trans F.kept.size hg.size, fun k hk hx => ?_⟩, F.sub0, fun p u hu => ?_, F.fresh, fun b hb => ⟨(F.own b hb).1, ?_, (F.own b hb).2.2⟩, F.nodup, ⟨E1.stab w w' hE F.ext.1, ho, fun k hk hs => ?_⟩, fun k hk => ?_⟩
  · rw [hg.block k (Nat.lt_of_lt_of_le hk F.kept.size) (fun h => by
      have := (F.loose k (.inr h.symm)).1
      rcases this with h1 | h1
      · omega
      · exact hx h1)]
    exact F.kept.block k hk hx
  · have h1 := F.sub p u hu
    have hpl := World.block_lt_of_cell? w _ h1
    rw [World.cell?_of_block (w := w) (hg.block p.block hpl (fun h => by
      have := (F.loose p.block (.inr h.symm)).2.2 p.off p.spot
      rw [hu] at this
      cases this))]
    exact h1
  · rw [hg.block _ (hlt b hb) (hne b hb)]; exact (F.own b hb).2.1
  · rcases hb k hk with hb | hk2
    · exact F.ext.2.2 k hb hs
    · have := E1.dom w k F.ext.1 hs
      omega
  · rcases hk with hk | hk
    · exact F.loose k (.inl hk)
    rcases hb k hk with hb | hk2
    · exact F.loose k (.inr hb)
    · refine ⟨.inl (Nat.le_trans F.size hk2), fun hm => ?_, fun i s => cell_none F.sub hk2 i s⟩
      obtain ⟨b, hbm, he⟩ := List.mem_map.1 hm
      have := hlt b hbm
      omega
end
/-- the memory less a block -/
def cut (w : World) (g : Nat) : World := { w with heap := w.heap.setIfInBounds g (.cells #[] 0 (0, 0)) }
theorem cut_none (w : World) (g i : Nat) (s : Option Nat) : (cut w g).cell? ⟨g, i, s⟩ = none := by
  by_cases h : g < w.heap.size
  · cases s <;> simp [cut, World.cell?, h]
  · cases s <;> simp [cut, World.cell?, h]
theorem cut_cell (w : World) (g : Nat) (p : Addr) (h : p.block ≠ g) : (cut w g).cell? p = w.cell? p :=
  World.cell?_of_block (by simp [cut, Array.getElem?_setIfInBounds, h.symm])
theorem cut_sub (w : World) (g : Nat) : Sub (cut w g) w := fun p v h => by
  by_cases hp : p.block = g
  · obtain ⟨b, o, s⟩ := p
    subst hp
    rw [cut_none] at h
    cases h
  · rw [cut_cell w g p hp] at h; exact h
/-- the beginning of a call that is handed a slice to write -/
theorem Own.startO {W : World} {e : TypeId} {s n : Nat} {v : Value} {xs : List Value} (h : Own W 0 e s v n xs) : ∃ m, (∀ p, blk v ≠ some p.block → m.cell? p = W.cell? p) ∧ Sub m W ∧ MemE (SlA E0 e s v n xs) ⟨W, (blk v).toList, m⟩ m [] W := by
  cases hb : blk v with
  | none =>
    refine ⟨W, fun _ _ => rfl, Sub.refl _, ⟨Kept.refl _ _, Sub.refl _, Sub.refl _, fun _ _ _ e => e, fun _ h => (by cases h), List.nodup_nil, ⟨trivial, h, fun k hk => by rw [hb] at hk; cases hk⟩, fun k hk => ?_⟩⟩
    rcases hk with hk | hk
    · exact hk.elim
    · rw [hb] at hk; cases hk
  | some g =>
    refine ⟨cut W g, fun p hp => cut_cell W g p (fun e => hp (by rw [e])), cut_sub W g, ⟨Kept.refl _ _, Sub.refl _, cut_sub W g, fun _ _ _ e => e, fun _ h => (by cases h), List.nodup_nil, ⟨trivial, h, fun k hk => fun h => h.elim⟩, fun k hk => ?_⟩⟩
    rcases hk with hk | hk
    · exact hk.elim
    · rw [hb] at hk
      simp at hk
      subst hk
      exact ⟨.inr (by simp), by simp, cut_none W g⟩
theorem MemE.retO {W m0 m w : World} {bs : List Blk} {e' : TypeId} {s' n' : Nat} {v v' : Value} {xs : List Value} (F : MemE (SlA E0 e' s' v' n' xs) ⟨W, (blk v).toList, m0⟩ m bs w) : RetO W v e' s' n' xs (.returned v') w :=
  ⟨v', rfl, ⟨F.kept.os, F.kept.tape, F.kept.output, F.kept.size, fun k hk hx => F.kept.block k hk (by simpa using fun h => hx h.symm)⟩, F.ext.2.1, fun k hk => by
    rcases (F.loose k (.inr hk)).1 with h | h
    · exact .inr h
    · exact .inl (by simpa using h)⟩

section
variable {E E1 : Ext} {P : Program} {tab : List (Nat × Ty)} {fl : List Nat} {a : Act} {n : Nat} {ts : List (Nat × Value)} {w : World} {ty : TypeId} {pos : String} {af : Array Edge}
  {ops : Array Oper} {Q : Exit → Act → World → Prop} {rest : List Oper} {c : Cx} {m : World} {bs bs' : List Blk} {X : List Nat} {r : Ot} {i : Nat}
theorem st_callO [S : Seat P tab fl] {d : Nat} {f : FuncId} {args : List Operand} {ats : Array TypeId} {vs : List Value} {e e' : TypeId} {s k s' k' : Nat} {v : Value} {xs xs' : List Value} (T : Tm a n ts) (F : MemE (SlA E1 e s v k xs) c m bs w) (hc : Calls P f vs.toArray w (RetO w v e' s' k' xs'))
    (hfl : fl.contains f = true := by exact rfl) (ha : evs ts args = some vs := by exact rfl) (hd : Nat.blt d n = true := by exact rfl)
    (h : ∀ v' a' w', Tm a' n ((d, v') :: ts) → MemE (SlA E1 e' s' v' k' xs') c m bs w' → wpList P ops Q rest a' w') :
    wpList P ops Q (⟨some d, .call { callee := .value (.func f), args := args.toArray, argTypes := ats }, ty, pos, af, none⟩ :: rest) a w :=
  st_call (R := RetO w v e' s' k' xs') (us := []) (ks := []) T rfl hfl ha hd (by simpa using hc) fun en w' ⟨v', he, hg, ho, hb⟩ => ⟨v', he, fun a' T' => h v' a' w' T' (F.grownO hg ho hb)⟩

/-! slices cut -/
theorem runs_sliceLH [S : Seat P tab fl] {t e : TypeId} {x lo hi : Operand} {ad : Option Addr} {l cp h1 h2 s : Nat} {k k2 : IntKind} {y : Ty} (T : Tm a n ts) (hx : ev ts x = some (.slice ad l cp)) (hlo : ev ts lo = some (.int k (h1 : Int))) (hhi : ev ts hi = some (.int k2 (h2 : Int))) (hle : h1 ≤ h2) (hle2 : h2 ≤ cp) (hy : getY tab t = some y) (hsl : y.isSl = true) (hel : y.elem = (e, s)) (hs : Nat.blt 0 s = true) :
    Runs P a (.slice t x (some lo) (some hi) none) ty w (.slice (if cp = h1 then ad else ad.map (·.add (h1 * s))) (h2 - h1) (cp - h1)) := .of fun _ _ _ _ => by
  have hs' : 0 < s := by simpa [Nat.blt_eq] using hs
  obtain ⟨de, ii, z, hde, hinfo, hz, _, _, _, _, _, hel', _, hsl', _⟩ := tyOf_spec (S.ty _ _ hy)
  rw [hel] at hel'
  rw [hsl] at hsl'
  cases de with
  | slice el =>
    simp only at hel'
    cases hq : P.info? el with
    | none => rw [hq] at hel'; simp at hel'; omega
    | some q =>
      rw [hq] at hel'
      simp only [Prod.mk.injEq] at hel'
      obtain ⟨rfl, hs1⟩ := hel'
      have hle' : (h1 : Int) ≤ (h2 : Int) := by omega
      have hle2' : (h2 : Int) ≤ (cp : Int) := by omega
      simp [execOp, T.eval hx, T.eval hlo, T.eval hhi, Instr.sliceAt, Instr.slice, run_underlying hde, Instr.sliceBounds, Instr.sliceBound, asIntOf, sizeOf, typeInfo, hq, ← hs1, hle', hle2']
      rw [if_pos hle2, if_pos hle]
  | _ => simp at hsl'
theorem runs_slice3 [S : Seat P tab fl] {t e : TypeId} {x lo hi mx : Operand} {ad : Option Addr} {l cp h1 h2 h3 s : Nat} {k k2 k3 : IntKind} {y : Ty} (T : Tm a n ts) (hx : ev ts x = some (.slice ad l cp)) (hlo : ev ts lo = some (.int k (h1 : Int))) (hhi : ev ts hi = some (.int k2 (h2 : Int))) (hmx : ev ts mx = some (.int k3 (h3 : Int))) (hle : h1 ≤ h2) (hle2 : h2 ≤ h3) (hle3 : h3 ≤ cp) (hy : getY tab t = some y) (hsl : y.isSl = true) (hel : y.elem = (e, s)) (hs : Nat.blt 0 s = true) :
    Runs P a (.slice t x (some lo) (some hi) (some mx)) ty w (.slice (if h3 = h1 then ad else ad.map (·.add (h1 * s))) (h2 - h1) (h3 - h1)) := .of fun _ _ _ _ => by
  have hs' : 0 < s := by simpa [Nat.blt_eq] using hs
  obtain ⟨de, ii, z, hde, hinfo, hz, _, _, _, _, _, hel', _, hsl', _⟩ := tyOf_spec (S.ty _ _ hy)
  rw [hel] at hel'
  rw [hsl] at hsl'
  cases de with
  | slice el =>
    simp only at hel'
    cases hq : P.info? el with
    | none => rw [hq] at hel'; simp at hel'; omega
    | some q =>
      rw [hq] at hel'
      simp only [Prod.mk.injEq] at hel'
      obtain ⟨rfl, hs1⟩ := hel'
      have hle' : (h1 : Int) ≤ (h2 : Int) := by omega
      have hle2' : (h2 : Int) ≤ (h3 : Int) := by omega
      have hle3' : (h3 : Int) ≤ (cp : Int) := by omega
      simp [execOp, T.eval hx, T.eval hlo, T.eval hhi, T.eval hmx, Instr.sliceAt, Instr.slice, run_underlying hde, Instr.sliceBounds, Instr.sliceBound, asIntOf, sizeOf, typeInfo, hq, ← hs1, hle', hle2', hle3']
      rw [if_pos hle3, if_pos hle2, if_pos hle]
  | _ => simp at hsl'
theorem runs_cap [S : Seat P tab fl] (T : Tm a n ts) {x : Operand} {t : TypeId} {ad : Option Addr} {l cp : Nat} {y : Ty} (hx : ev ts x = some (.slice ad l cp) := by exact rfl) (hy : getY tab t = some y := by exact rfl) (hz : y.isSl = true := by exact rfl) : Runs P a (.call { callee := .builtin .cap, args := #[x], argTypes := #[t] }) ty w (.int .i64 cp) := .of fun _ _ _ _ => by
  obtain ⟨de, ii, z, hde, hinfo, hzz, _, _, _, _, _, _, _, hsl', _⟩ := tyOf_spec (S.ty _ _ hy)
  rw [hz] at hsl'
  cases de with
  | slice el => simp [execOp, resolve, invoke, builtin, T.eval hx, Builtin.cap_, run_underlying hde, goInt]
  | _ => simp at hsl'
theorem runs_nilSl [S : Seat P tab fl] (T : Tm a n ts) {x z : Operand} {t t2 : TypeId} {ad : Option Addr} {l cp l2 cp2 : Nat} {y : Ty} (hx : ev ts x = some (.slice ad l cp) := by exact rfl) (hz : ev ts z = some (.slice none l2 cp2) := by exact rfl) (hy : getY tab t = some y := by exact rfl) (hsl : y.isSl = true := by exact rfl) : Runs P a (.binOp .eql t x z t2) ty w (.bool ad.isNone) := .of fun _ _ _ _ => by
  obtain ⟨de, ii, zz, hde, hinfo, hzz, _, _, _, _, _, _, _, hsl', _⟩ := tyOf_spec (S.ty _ _ hy)
  rw [hsl] at hsl'
  cases de with
  | slice el =>
    have hg : (eqGuard .eql t x z (.slice ad l cp) (.slice none l2 cp2)).run P w = .ok () w := by
      simp [eqGuard]
    simp [execOp, T.eval hx, T.eval hz, hg, Lib.run_eql_slice_nil w t el ad l cp l2 cp2 hde]
  | _ => simp at hsl'
theorem runs_max (T : Tm a n ts) {x z : Operand} {t : TypeId} {k : IntKind} {p q : Int} (hx : ev ts x = some (.int k p) := by exact rfl) (hz : ev ts z = some (.int k q) := by exact rfl) : Runs P a (.call { callee := .builtin .max, args := #[x, z], argTypes := #[t, t] }) ty w (.int k (max p q)) := .of fun _ _ _ _ => by
  have e : max p q = if q > p then q else p := by by_cases h : q > p <;> simp [h] <;> omega
  rw [e]
  simp [execOp, resolve, invoke, builtin, T.eval hx, T.eval hz, run_max_int2]
end
/-- what copy does -/
theorem run_copy_any {P : Program} (w : World) (dT sT ty elem : TypeId) (size : Nat) (ii : TypeInfo) (g o dLen dCap : Nat) (ad : Addr) (sLen sCap : Nat) (cur : List Value) (t : TypeId) (news : List Value)
    (hu : P.underlying dT = some (.slice elem)) (hi : P.info? elem = some ii) (hsz : ii.size = size) (hg : w.heap[g]? = some (.cells cur.toArray t (0, 0))) (hn : news.length = Nat.min sLen dLen * size)
    (hsrc : ∀ j v, news[j]? = some v → w.cell? (ad.add j) = some v) (hfit : o + news.length ≤ cur.length) (h1 : ∀ v ∈ news, v.oneCell' = true) :
    (Builtin.copy_ #[dT, sT] ty #[.slice (some ⟨g, o, none⟩) dLen dCap, .slice (some ad) sLen sCap]).run P w = .ok (goInt (Nat.min sLen dLen)) (w.setRow g (putL cur o news).toArray) := by
  have hf := run_firstCells_some (P := P) w size (Nat.min sLen dLen) ad sLen sCap news hn hsrc
  have hst := run_storeCells_at P g o t news 0 cur.toArray w hg (by simpa using hfit) h1
  simp only [Nat.add_zero] at hst
  simp [Builtin.copy_, run_underlying hu, Builtin.lenOf, sizeOf, typeInfo, hi, hsz, hf, hst, putL]
theorem slice_ty {P : Program} {tab : List (Nat × Ty)} {fl : List Nat} [S : Seat P tab fl] {t e : TypeId} {s : Nat} {y : Ty} (hy : getY tab t = some y) (hsl : y.isSl = true) (hel : y.elem = (e, s)) (hs : Nat.blt 0 s = true) : P.underlying t = some (.slice e) ∧ ∃ q, P.info? e = some q ∧ q.size = s := by
  have hs' : 0 < s := by simpa [Nat.blt_eq] using hs
  obtain ⟨de, ii, z, hde, hinfo, hz, _, _, _, _, _, hel', _, hsl', _⟩ := tyOf_spec (S.ty _ _ hy)
  rw [hel] at hel'
  rw [hsl] at hsl'
  cases de with
  | slice el =>
    simp only at hel'
    cases hq : P.info? el with
    | none => rw [hq] at hel'; simp at hel'; omega
    | some q =>
      rw [hq] at hel'
      simp only [Prod.mk.injEq] at hel'
      obtain ⟨rfl, hs1⟩ := hel'
      exact ⟨hde, q, hq, hs1.symm⟩
  | _ => simp at hsl'
section
variable {E E1 : Ext} {P : Program} {tab : List (Nat × Ty)} {fl : List Nat} {a : Act} {n : Nat} {ts : List (Nat × Value)} {w : World} {ty : TypeId} {pos : String} {af : Array Edge}
  {ops : Array Oper} {Q : Exit → Act → World → Prop} {rest : List Oper} {c : Cx} {m : World} {bs bs' : List Blk} {X : List Nat} {r : Ot} {i : Nat}
/-- copy to a block of the call's own -/
theorem wp_copyB [S : Seat P tab fl] {d : Option Tmp} {x z : Operand} {t e : TypeId} {s g o dLen dCap sLen sCap : Nat} {ad : Addr} {cs news : List Value} {et : TypeId} {y : Ty} {gd : Option (Nat × Bool)} {K : Act → World → Prop} (T : Tm a n ts) (F : MemE E c m bs w) (hk : Take bs g cs et bs')
    (hx : ev ts x = some (.slice (some ⟨g, o, none⟩) dLen dCap)) (hz : ev ts z = some (.slice (some ad) sLen sCap)) (hy : getY tab t = some y) (hsl : y.isSl = true) (hel : y.elem = (e, s)) (hs : Nat.blt 0 s = true)
    (hn : news.length = Nat.min sLen dLen * s) (hsrc : ∀ j v, news[j]? = some v → w.cell? (ad.add j) = some v) (hfit : o + news.length ≤ cs.length) (h1 : ∀ v ∈ news, v.oneCell' = true)
    (h : ∀ w', MemE E c m (⟨g, putL cs o news, et⟩ :: bs') w' → (∀ k, k ≠ g → w'.heap[k]? = w.heap[k]?) → w'.os = w.os → w'.tape = w.tape → w'.output = w.output → w'.heap.size = w.heap.size → K (a.put d (.int .i64 (Nat.min sLen dLen : Nat))) w') :
    Oper.wp P ⟨d, .call { callee := .builtin .copy, args := #[x, z], argTypes := #[t, t] }, ty, pos, af, gd⟩ a w K Q := by
  obtain ⟨hu, q, hq, hqs⟩ := slice_ty (P := P) hy hsl hel hs
  have hr := run_copy_any (P := P) w t t ty e s q g o dLen dCap ad sLen sCap cs et news hu hq hqs (F.get hk) hn hsrc hfit h1
  unfold Oper.wp execOp
  simp only [resolve, invoke, builtin, Sem.run_bind, Sem.run_pure, Result.andThen_ok, List.map_toArray, List.map_cons, List.map_nil, T.eval hx, T.eval hz, hr]
  exact h _ (F.front hk).setRow (fun k hkg => setRow_other w g k _ hkg) rfl rfl rfl (by simp)
theorem st_copyB [S : Seat P tab fl] {d : Nat} {x z : Operand} {t e : TypeId} {s g o dLen dCap sLen sCap : Nat} {ad : Addr} {cs news : List Value} {et : TypeId} {y : Ty} (T : Tm a n ts) (F : MemE E c m bs w) (hk : Take bs g cs et bs')
    (hn : news.length = Nat.min sLen dLen * s) (hsrc : ∀ j v, news[j]? = some v → w.cell? (ad.add j) = some v) (hfit : o + news.length ≤ cs.length) (h1 : ∀ v ∈ news, v.oneCell' = true)
    (hx : ev ts x = some (.slice (some ⟨g, o, none⟩) dLen dCap) := by exact rfl) (hz : ev ts z = some (.slice (some ad) sLen sCap) := by exact rfl) (hd : Nat.blt d n = true := by exact rfl) (hy : getY tab t = some y := by exact rfl) (hsl : y.isSl = true := by exact rfl) (hel : y.elem = (e, s) := by exact rfl) (hs : Nat.blt 0 s = true := by exact rfl)
    (h : ∀ a' w', Tm a' n ((d, .int .i64 (Nat.min sLen dLen : Nat)) :: ts) → MemE E c m (⟨g, putL cs o news, et⟩ :: bs') w' → wpList P ops Q rest a' w') :
    wpList P ops Q (⟨some d, .call { callee := .builtin .copy, args := #[x, z], argTypes := #[t, t] }, ty, pos, af, none⟩ :: rest) a w :=
  wpList_plain rfl fun K hK => wp_copyB T F hk hx hz hy hsl hel hs hn hsrc hfit h1 fun w' F' _ _ _ _ _ => hK _ _ (h _ _ (T.put (by simpa [Nat.blt_eq] using hd) _) F')
theorem sx_copyB [S : Seat P tab fl] {d : Nat} {x z : Operand} {t e : TypeId} {s g o dLen dCap sLen sCap : Nat} {ad : Addr} {cs news : List Value} {et : TypeId} {y : Ty} (hi' : nthO ops i = some ⟨some d, .call { callee := .builtin .copy, args := #[x, z], argTypes := #[t, t] }, ty, pos, af, none⟩) (T : Tm a n ts) (F : MemE E c m bs w) (hk : Take bs g cs et bs')
    (hX : g ∈ X) (hn : news.length = Nat.min sLen dLen * s) (hsrc : ∀ j v, news[j]? = some v → w.cell? (ad.add j) = some v) (hfit : o + news.length ≤ cs.length) (h1 : ∀ v ∈ news, v.oneCell' = true)
    (hx : ev ts x = some (.slice (some ⟨g, o, none⟩) dLen dCap) := by exact rfl) (hz : ev ts z = some (.slice (some ad) sLen sCap) := by exact rfl) (hd : Nat.blt d n = true := by exact rfl) (hy : getY tab t = some y := by exact rfl) (hsl : y.isSl = true := by exact rfl) (hel : y.elem = (e, s) := by exact rfl) (hs : Nat.blt 0 s = true := by exact rfl)
    (h : ∀ a' w', Tm a' n ((d, .int .i64 (Nat.min sLen dLen : Nat)) :: ts) → MemE E c m (⟨g, putL cs o news, et⟩ :: bs') w' → wpUx P X ops Q r w'.heap.size w' a' w') :
    wpUx P X ops Q (.h i r) w.heap.size w a w :=
  sx_hole hi' rfl fun K hK => wpList_plain rfl fun K' hK' => wp_copyB T F hk hx hz hy hsl hel hs hn hsrc hfit h1 fun w' F' h2 ho ht hp hz' => hK' _ _ (atK (hK _ _ ⟨ho, ht, hp, by omega, fun k hk hkX => h2 k (fun e => hkX (e ▸ hX))⟩ (h _ _ (T.put (by simpa [Nat.blt_eq] using hd) _) F')))
/-- append where there is room -/
theorem sx_appRoom [S : Seat P tab fl] {d : Nat} {x z : Operand} {t e : TypeId} {s g k cap k2 cp2 : Nat} {ad : Addr} {cs news : List Value} {y : Ty} (hi' : nthO ops i = some ⟨some d, .call { callee := .builtin .append, args := #[x, z], argTypes := #[t, t] }, ty, pos, af, none⟩) (T : Tm a n ts) (F : MemE E c m bs w) (hk : Take bs g cs e bs')
    (hX : g ∈ X) (hn : news.length = k2 * s) (hsrc : ∀ j v, news[j]? = some v → w.cell? (ad.add j) = some v) (hroom : k + k2 ≤ cap) (hfit : k * s + news.length ≤ cs.length) (h1 : ∀ v ∈ news, v.oneCell' = true)
    (hx : ev ts x = some (.slice (some ⟨g, 0, none⟩) k cap) := by exact rfl) (hz : ev ts z = some (.slice (some ad) k2 cp2) := by exact rfl) (hd : Nat.blt d n = true := by exact rfl) (hy : getY tab t = some y := by exact rfl) (hsl : y.isSl = true := by exact rfl) (hel : y.elem = (e, s) := by exact rfl) (hs : Nat.blt 0 s = true := by exact rfl)
    (h : ∀ a' w', Tm a' n ((d, .slice (some ⟨g, 0, none⟩) (k + k2) cap) :: ts) → MemE E c m (⟨g, putL cs (k * s) news, e⟩ :: bs') w' → wpUx P X ops Q r w'.heap.size w' a' w') :
    wpUx P X ops Q (.h i r) w.heap.size w a w := by
  obtain ⟨hu, q, hq, hqs⟩ := slice_ty (P := P) hy hsl hel hs
  subst hqs
  have hr := run_append_room (P := P) w t ty e q hu hq g k cap cs.toArray (F.get hk) ad k2 cp2 news hn hsrc h1 hroom (by simpa using hfit)
  refine sx_hole hi' rfl fun K hK => wpList_plain rfl fun K' hK' => ?_
  unfold Oper.wp execOp
  simp only [resolve, invoke, builtin, Sem.run_bind, Sem.run_pure, Result.andThen_ok, List.map_toArray, List.map_cons, List.map_nil, T.eval hx, T.eval hz, hr]
  exact hK' _ _ (atK (hK _ _ ⟨rfl, rfl, rfl, by simp, fun k hk hkX => setRow_other w g k _ (fun e => hkX (e ▸ hX))⟩ (h _ _ (T.put (by simpa [Nat.blt_eq] using hd) _) (F.front hk).setRow)))
/-- append of a made slice, where there is no room: a new row -/
theorem st_appMake [S : Seat P tab fl] {d : Nat} {x z : Operand} {t tn e : TypeId} {s k cap k2 : Nat} {ad : Addr} {olds : List Value} {kk : IntKind} {y y2 ye : Ty} (T : Tm a n ts) (F : MemE E c m bs w)
    (hold : olds.length = k * s) (hsrc : ∀ j v, olds[j]? = some v → w.cell? (ad.add j) = some v) (h0 : 0 < k2) (hroom : cap < k + k2) (hbytes : (k + k2) * ye.bytes ≤ 140737488355328)
    (hx : ev ts x = some (.slice (some ad) k cap) := by exact rfl) (hz : ev ts z = some (.int kk (k2 : Int)) := by exact rfl) (hd : Nat.blt d n = true := by exact rfl) (hy : getY tab t = some y := by exact rfl) (hsl : y.isSl = true := by exact rfl) (hel : y.elem = (e, s) := by exact rfl) (hs : Nat.blt 0 s = true := by exact rfl)
    (hy2 : getY tab tn = some y2 := by exact rfl) (hk2 : y2.kind = some kk := by exact rfl) (hye : getY tab e = some ye := by exact rfl) (hzl : ye.zero.length = s := by exact rfl) (hb0 : Nat.blt 0 ye.bytes = true := by exact rfl)
    (h : ∀ g cap' tl a' w', k + k2 ≤ cap' → cap' ≤ maxLen → tl.length = (cap' - k) * s → Tm a' n ((d, .slice (some ⟨g, 0, none⟩) (k + k2) cap') :: ts) → MemE E c m (⟨g, olds ++ tl, e⟩ :: bs) w' → wpList P ops Q rest a' w') :
    wpList P ops Q (⟨some d, .call { callee := .builtin .append, args := #[x, z], argTypes := #[t, tn] }, ty, pos, af, none⟩ :: rest) a w := by
  have hs' : 0 < s := by simpa [Nat.blt_eq] using hs
  have hb0' : 0 < ye.bytes := by simpa [Nat.blt_eq] using hb0
  obtain ⟨hu, q, hq, hqs⟩ := slice_ty (P := P) hy hsl hel hs
  obtain ⟨de2, i2, z2, hde2, hinfo2, hz2, _, hsz2, hby2, hzz2, _⟩ := tyOf_spec (S.ty _ _ hye)
  rw [hq] at hinfo2
  simp at hinfo2
  subst hinfo2
  obtain ⟨de3, i3, z3, hde3, hinfo3, hz3, _, _, _, _, _, _, hkd3, _, _⟩ := tyOf_spec (S.ty _ _ hy2)
  rw [hk2] at hkd3
  cases de3 with
  | int kn =>
    simp at hkd3
    subst hkd3
    have hzs : z2.cells.size = s := by rw [← Array.length_toList, ← hzz2]; exact hzl
    have h63 : k + k2 ≤ maxLen := by
      have : (k + k2) * 1 ≤ (k + k2) * ye.bytes := Nat.mul_le_mul_left _ hb0'
      simp only [maxLen]; omega
    have hfit := growslice_fits (old := cap) (need := k + k2) (bytes := ye.bytes) hroom hbytes
    have hk2b : k2 * q.bytes ≤ 281474976710656 := by
      rw [← hby2]
      have : k2 * ye.bytes ≤ (k + k2) * ye.bytes := Nat.mul_le_mul_right _ (by omega)
      omega
    have hf := run_firstCells_some (P := P) w.drew s k ad k cap olds hold (fun j v hj => hsrc j v hj)
    have hr := Lib.run_append_grow_zeros (P := P) w t tn ty e q z2 kk kk hu hde3 hq hz2 (some ad) k cap olds (by rw [hqs]; exact hf) k2 h0 (by omega) hroom (by simp only [maxLen] at h63; omega) hk2b (by rw [← hby2]; exact hfit)
    have F1 : MemE E c m bs w.drew := F.below (Below.refl _ w).drew
    refine wpList_plain rfl fun K hK => ?_
    unfold Oper.wp execOp
    simp only [resolve, invoke, builtin, Sem.run_bind, Sem.run_pure, Result.andThen_ok, List.map_toArray, List.map_cons, List.map_nil, T.eval hx, T.eval hz, hr]
    have hge := grownCap_ge w (k + k2) cap e
    have F2 := F1.alloc (olds ++ ((Builtin.zeroCells z2.cells k2).toList ++ (Builtin.zeroCells z2.cells (grownCap w (k + k2) cap e - (k + k2))).toList)) e
    have e1 : (olds ++ ((Builtin.zeroCells z2.cells k2).toList ++ (Builtin.zeroCells z2.cells (grownCap w (k + k2) cap e - (k + k2))).toList)).toArray = olds.toArray ++ Builtin.zeroCells z2.cells k2 ++ Builtin.zeroCells z2.cells (grownCap w (k + k2) cap e - (k + k2)) := by
      apply Array.ext'
      simp
    rw [e1] at F2
    refine hK _ _ (h w.heap.size _ _ _ _ hge (grownCap_le_maxLen w _ _ _ h63) ?_ (T.put (by simpa [Nat.blt_eq] using hd) _) F2)
    simp only [List.length_append, Array.length_toList, size_zeroCells, hzs, ← Nat.add_mul]
    congr 1
    omega
  | _ => simp at hkd3
/-- clear of the end of a block -/
theorem st_clearB [S : Seat P tab fl] {z : Operand} {t e : TypeId} {s g o k cp : Nat} {cs : List Value} {et : TypeId} {y ye : Ty} (T : Tm a n ts) (F : MemE E c m bs w) (hk : Take bs g cs et bs') (hfit : o + k * s ≤ cs.length)
    (hz : ev ts z = some (.slice (some ⟨g, o, none⟩) k cp) := by exact rfl) (hy : getY tab t = some y := by exact rfl) (hsl : y.isSl = true := by exact rfl) (hel : y.elem = (e, s) := by exact rfl) (hs : Nat.blt 0 s = true := by exact rfl) (hye : getY tab e = some ye := by exact rfl) (hzl : ye.zero.length = s := by exact rfl) (h1 : ye.zero.all (·.oneCell') = true := by exact rfl)
    (h : ∀ zs a' w', zs.length = k * s → Tm a' n ts → MemE E c m (⟨g, putL cs o zs, et⟩ :: bs') w' → wpList P ops Q rest a' w') :
    wpList P ops Q (⟨none, .call { callee := .builtin .clear, args := #[z], argTypes := #[t] }, ty, pos, af, none⟩ :: rest) a w := by
  have hs' : 0 < s := by simpa [Nat.blt_eq] using hs
  obtain ⟨hu, q, hq, hqs⟩ := slice_ty (P := P) hy hsl hel hs
  obtain ⟨de2, i2, z2, hde2, hinfo2, hz2, _, hsz2, hby2, hzz2, _⟩ := tyOf_spec (S.ty _ _ hye)
  rw [hq] at hinfo2
  simp at hinfo2
  subst hinfo2
  have hzs : z2.cells.size = s := by rw [← Array.length_toList, ← hzz2]; exact hzl
  refine wpList_plain rfl fun K hK => ?_
  unfold Oper.wp execOp
  simp only [resolve, invoke, builtin, Sem.run_bind, Sem.run_pure, Result.andThen_ok, List.map_toArray, List.map_cons, List.map_nil, T.eval hz]
  cases k with
  | zero =>
    have hr : (Builtin.clear_ #[t] ty #[.slice (some ⟨g, o, none⟩) 0 cp]).run P w = .ok (.tuple #[]) w := by simp [Builtin.clear_, run_underlying hu]
    rw [hr]
    have F2 := F.front hk
    have e0 : putL cs o [] = cs := by unfold putL; simp
    exact hK _ _ (h [] _ _ (by simp) (T.skip _) (by rw [e0]; exact F2))
  | succ k =>
    have hzl' : (Builtin.zeroCells z2.cells (k + 1)).toList.length = (k + 1) * s := by rw [Array.length_toList, size_zeroCells, hzs]
    have hone : ∀ v ∈ (Builtin.zeroCells z2.cells (k + 1)).toList, v.oneCell' = true := fun v hv => by
      have : v ∈ z2.cells.toList := by
        simp only [Builtin.zeroCells] at hv
        simp at hv
        obtain ⟨j, hj, rfl⟩ := hv
        have hjl : j % z2.cells.size < z2.cells.size := Nat.mod_lt _ (by omega)
        simp [hjl]
      rw [← hzz2] at this
      exact List.all_eq_true.1 h1 v this
    have hst := run_storeCells_at P g o et (Builtin.zeroCells z2.cells (k + 1)).toList 0 cs.toArray w (F.get hk) (by rw [hzl']; simpa using hfit) hone
    simp only [Nat.add_zero] at hst
    have hr : (Builtin.clear_ #[t] ty #[.slice (some ⟨g, o, none⟩) (k + 1) cp]).run P w = .ok (.tuple #[]) (w.setRow g (putL cs o (Builtin.zeroCells z2.cells (k + 1)).toList).toArray) := by
      simp [Builtin.clear_, run_underlying hu, zeroValue, typeInfo, hq, hz2, hst, putL]
    rw [hr]
    exact hK _ _ (h _ _ _ hzl' (T.skip _) (F.front hk).setRow)
/-- a call of what has no text in the model's program -/
theorem st_extern {d : Nat} {f : FuncId} {args : List Operand} {ats : Array TypeId} {vs : List Value} {v : Value} (T : Tm a n ts) (hr : (callFunc f vs.toArray).run P w = .ok (.value v) w) (ha : evs ts args = some vs := by exact rfl) (hd : Nat.blt d n = true := by exact rfl)
    (h : ∀ a', Tm a' n ((d, v) :: ts) → wpList P ops Q rest a' w) :
    wpList P ops Q (⟨some d, .call { callee := .value (.func f), args := args.toArray, argTypes := ats }, ty, pos, af, none⟩ :: rest) a w := by
  refine wpList_plain rfl fun K hK => ?_
  unfold Oper.wp
  have hrun : (execOp a.eval ⟨some d, .call { callee := .value (.func f), args := args.toArray, argTypes := ats }, ty, pos, af, none⟩).run P w = .ok (.value v) w := by
    have he : (#[] ++ vs.toArray ++ #[] : Array Value) = vs.toArray := by simp
    simp only [execOp, resolve, T.eval (x := .func f) rfl, Deferred.ofValue, invoke, List.map_toArray, T.evals ha, Sem.run_bind, Sem.run_pure, Result.andThen_ok, he, hr]
  rw [hrun]
  exact hK _ _ (h _ (T.put (by simpa [Nat.blt_eq] using hd) v))
/-! slices cut at a known address -/
theorem ad_zero (g o cp s : Nat) : (if cp = 0 then some (⟨g, o, none⟩ : Addr) else (some (⟨g, o, none⟩ : Addr)).map (·.add (0 * s))) = some ⟨g, o, none⟩ := by split <;> simp [addr_add]
theorem ad_at {cp h : Nat} (hne : cp ≠ h) (g o s : Nat) : (if cp = h then some (⟨g, o, none⟩ : Addr) else (some (⟨g, o, none⟩ : Addr)).map (·.add (h * s))) = some ⟨g, o + h * s, none⟩ := by rw [if_neg hne]; simp [addr_add]
theorem runs_sliceHa [S : Seat P tab fl] {t e : TypeId} {x hi : Operand} {g o l cp h s : Nat} {k : IntKind} {y : Ty} (T : Tm a n ts) (hle : h ≤ cp) (hx : ev ts x = some (.slice (some ⟨g, o, none⟩) l cp) := by exact rfl) (hh : ev ts hi = some (.int k (h : Int)) := by exact rfl) (hy : getY tab t = some y := by exact rfl) (hsl : y.isSl = true := by exact rfl) (hel : y.elem = (e, s) := by exact rfl) (hs : Nat.blt 0 s = true := by exact rfl) :
    Runs P a (.slice t x none (some hi) none) ty w (.slice (some ⟨g, o, none⟩) h cp) := by
  have := runs_sliceH (ty := ty) (w := w) (P := P) T hx hh hle hy hsl hel hs
  rwa [ad_zero] at this
theorem runs_sliceLa [S : Seat P tab fl] {t e : TypeId} {x lo : Operand} {g o l cp h s : Nat} {k : IntKind} {y : Ty} (T : Tm a n ts) (hle : h ≤ l) (hne : cp ≠ h) (hx : ev ts x = some (.slice (some ⟨g, o, none⟩) l cp) := by exact rfl) (hh : ev ts lo = some (.int k (h : Int)) := by exact rfl) (hy : getY tab t = some y := by exact rfl) (hsl : y.isSl = true := by exact rfl) (hel : y.elem = (e, s) := by exact rfl) (hs : Nat.blt 0 s = true := by exact rfl) :
    Runs P a (.slice t x (some lo) none none) ty w (.slice (some ⟨g, o + h * s, none⟩) (l - h) (cp - h)) := by
  have := runs_sliceL (ty := ty) (w := w) (P := P) T hx hh hle hy hsl hel hs
  rwa [ad_at hne] at this
theorem runs_sliceLHa [S : Seat P tab fl] {t e : TypeId} {x lo hi : Operand} {g o l cp h1 h2 s : Nat} {k k2 : IntKind} {y : Ty} (T : Tm a n ts) (hle : h1 ≤ h2) (hle2 : h2 ≤ cp) (hne : cp ≠ h1) (hx : ev ts x = some (.slice (some ⟨g, o, none⟩) l cp) := by exact rfl) (hlo : ev ts lo = some (.int k (h1 : Int)) := by exact rfl) (hhi : ev ts hi = some (.int k2 (h2 : Int)) := by exact rfl) (hy : getY tab t = some y := by exact rfl) (hsl : y.isSl = true := by exact rfl) (hel : y.elem = (e, s) := by exact rfl) (hs : Nat.blt 0 s = true := by exact rfl) :
    Runs P a (.slice t x (some lo) (some hi) none) ty w (.slice (some ⟨g, o + h1 * s, none⟩) (h2 - h1) (cp - h1)) := by
  have := runs_sliceLH (ty := ty) (w := w) (P := P) T hx hlo hhi hle hle2 hy hsl hel hs
  rwa [ad_at hne] at this
end
/-- a slice of the call's own has come back -/
def RetN (w : World) (e : TypeId) (s n : Nat) (xs : List Value) (en : Ending) (w' : World) : Prop :=
  ∃ v', en = .returned v' ∧ Below w.heap.size w w' ∧ Own w' w.heap.size e s v' n xs
theorem Own.raise {w : World} {e : TypeId} {s n B : Nat} {v : Value} {xs : List Value} (h : Own w 0 e s v n xs) (hb : ∀ k, blk v = some k → B ≤ k) : Own w B e s v n xs := by
  obtain ⟨ad, cap, rfl, hl, hn, hm, hc⟩ := h
  refine ⟨ad, cap, rfl, hl, hn, hm, ?_⟩
  rcases hc with h0 | ⟨g, cur, rfl, _, h1, h2, h3⟩
  · exact .inl h0
  · by_cases h0 : cap = 0
    · exact .inl h0
    · exact .inr ⟨g, cur, rfl, hb g (blk_of h0 rfl), h1, h2, h3⟩
theorem MemE.retN {E1 : Ext} {W m0 m w : World} {bs : List Blk} {e : TypeId} {s n : Nat} {v : Value} {xs : List Value} (F : MemE (SlA E1 e s v n xs) ⟨W, [], m0⟩ m bs w) : RetN W e s n xs (.returned v) w :=
  ⟨v, rfl, F.end_, Own.raise F.ext.2.1 fun k hk => (F.loose k (.inr hk)).1.resolve_right (by simp)⟩
section
variable {E : Ext} {P : Program} {tab : List (Nat × Ty)} {fl : List Nat} {a : Act} {n : Nat} {ts : List (Nat × Value)} {w : World} {ty : TypeId} {pos : String} {af : Array Edge}
  {ops : Array Oper} {Q : Exit → Act → World → Prop} {rest : List Oper} {c : Cx} {m : World} {bs : List Blk} {X : List Nat} {r : Ot} {i : Nat}
theorem st_callN [S : Seat P tab fl] {d : Nat} {f : FuncId} {args : List Operand} {ats : Array TypeId} {vs : List Value} {e : TypeId} {s k : Nat} {xs : List Value} (T : Tm a n ts) (F : MemE E c m bs w) (hc : Calls P f vs.toArray w (RetN w e s k xs))
    (hfl : fl.contains f = true := by exact rfl) (ha : evs ts args = some vs := by exact rfl) (hd : Nat.blt d n = true := by exact rfl)
    (h : ∀ v' a' w', Tm a' n ((d, v') :: ts) → MemE (SlA E e s v' k xs) c m bs w' → wpList P ops Q rest a' w') :
    wpList P ops Q (⟨some d, .call { callee := .value (.func f), args := args.toArray, argTypes := ats }, ty, pos, af, none⟩ :: rest) a w :=
  st_call (R := RetN w e s k xs) (us := []) (ks := []) T rfl hfl ha hd (by simpa using hc) fun en w' ⟨v', he, hb, ho⟩ => ⟨v', he, fun a' T' => h v' a' w' T' (F.slAcall hb ho)⟩
theorem sx_callN [S : Seat P tab fl] {d : Nat} {f : FuncId} {args : List Operand} {ats : Array TypeId} {vs : List Value} {e : TypeId} {s k : Nat} {xs : List Value} (hi' : nthO ops i = some ⟨some d, .call { callee := .value (.func f), args := args.toArray, argTypes := ats }, ty, pos, af, none⟩) (T : Tm a n ts) (F : MemE E c m bs w) (hc : Calls P f vs.toArray w (RetN w e s k xs))
    (hfl : fl.contains f = true := by exact rfl) (ha : evs ts args = some vs := by exact rfl) (hd : Nat.blt d n = true := by exact rfl)
    (h : ∀ v' a' w', Tm a' n ((d, v') :: ts) → MemE (SlA E e s v' k xs) c m bs w' → wpUx P X ops Q r w'.heap.size w' a' w') : wpUx P X ops Q (.h i r) w.heap.size w a w := by
  refine sx_hole hi' rfl fun K hK => wpList_plain rfl fun K' hK' => wp_call (us := []) (ks := []) (R := RetN w e s k xs) T rfl hfl ha (by simpa using hc) fun en w' ⟨v', he, hb, ho⟩ => ⟨v', he, ?_⟩
  exact hK' _ _ (atK (hK _ _ (belowX hb) (h _ _ _ (T.put (by simpa [Nat.blt_eq] using hd) _) (F.slAcall hb ho))))
/-- a call under a guard that holds, in a drawn region -/
theorem sx_callGV [S : Seat P tab fl] {d : Nat} {f : FuncId} {args : List Operand} {ats : Array TypeId} {vs : List Value} {v u : Value} {j e : Nat} {b : Bool} (hi' : nthO ops i = some ⟨some d, .call { callee := .value (.func f), args := args.toArray, argTypes := ats }, ty, pos, af, some (j, b)⟩) (T : Tm a n ts) (F : MemE E c m bs w)
    (hj : (ops[j]?).bind (·.dst) = some e := by exact rfl) (hv : getT ts e = some u := by exact rfl) (hy : (yv u == some b) = true := by exact rfl) (hfl : fl.contains f = true := by exact rfl) (ha : evs ts args = some vs := by exact rfl) (hd : Nat.blt d n = true := by exact rfl)
    (hc : Calls P f vs.toArray w (RetV w v)) (h : ∀ a' w', Tm a' n ((d, v) :: ts) → MemE E c m bs w' → wpUx P X ops Q r w'.heap.size w' a' w') : wpUx P X ops Q (.h i r) w.heap.size w a w := by
  have hi := nthO_spec hi'
  have hw := wanted_t (ops := ops) (o := ⟨some d, .call { callee := .value (.func f), args := args.toArray, argTypes := ats }, ty, pos, af, some (j, b)⟩) rfl T hj hv
  rw [hy] at hw
  unfold wpUx wpUy
  simp only [hi]
  rw [if_pos hw]
  exact wp_call (us := []) (ks := []) (R := RetV w v) T rfl hfl ha (by simpa using hc) fun en w' ⟨he, hb⟩ => ⟨v, he, X, w'.heap.size, hb.size, fun _ h => .inl h, belowX hb, h _ _ (T.put (by simpa [Nat.blt_eq] using hd) v) (F.below hb)⟩
end
/-! rows put together -/
theorem putL_at {p q news : List Value} {o : Nat} (h : p.length = o) : putL (p ++ q) o news = p ++ news ++ q.drop news.length := by
  subst h
  unfold putL
  rw [List.take_left, List.drop_append, List.drop_of_length_le (by omega : p.length ≤ p.length + news.length)]
  simp
theorem ins_grow {cs tl news : List Value} {A B s : Nat} (hA : A ≤ B) (hB : cs.length = B) (hs : news.length = s) (ht : s + (B - A) ≤ tl.length) :
    (putL (putL (cs.take A ++ tl) A news) (A + s) (cs.drop A)).take (B + s) = cs.take A ++ news ++ cs.drop A := by
  have h1 : (cs.take A).length = A := by simp; omega
  rw [putL_at h1, putL_at (by simp [hs]; omega)]
  rw [List.append_assoc _ (cs.drop A), ← List.append_assoc]
  exact List.take_left' (by simp [hs]; omega)
theorem ins_shift {cs news : List Value} {A B s : Nat} (hA : A ≤ B) (hB : B + s ≤ cs.length) (hs : news.length = s) :
    (putL (putL cs (A + s) ((cs.drop A).take (B - A))) A news).take (B + s) = (cs.take B).take A ++ news ++ (cs.take B).drop A := by
  have h1 : (cs.take A).length = A := by simp; omega
  have e1 : cs = cs.take (A + s) ++ cs.drop (A + s) := (List.take_append_drop _ _).symm
  have hM : ((cs.drop A).take (B - A)).length = B - A := by simp; omega
  have e2 : putL cs (A + s) ((cs.drop A).take (B - A)) = cs.take (A + s) ++ (cs.drop A).take (B - A) ++ (cs.drop (A + s)).drop (B - A) := by
    have := putL_at (p := cs.take (A + s)) (q := cs.drop (A + s)) (news := (cs.drop A).take (B - A)) (o := A + s) (by simp; omega)
    rw [← e1, hM] at this
    exact this
  have e3 : cs.take (A + s) = cs.take A ++ (cs.drop A).take s := List.take_add
  rw [e2, e3, List.append_assoc, List.append_assoc, putL_at h1]
  have h4 : ((cs.drop A).take s).length = s := by simp; omega
  rw [hs, List.drop_append, h4, Nat.sub_self, List.drop_zero, List.drop_of_length_le (by omega : ((cs.drop A).take s).length ≤ s), List.nil_append]
  rw [List.take_take, List.drop_take, Nat.min_eq_left hA, ← List.append_assoc]
  exact List.take_left' (by simp [hs]; omega)
theorem del_shift {cs zs : List Value} {A J B : Nat} (hA : A ≤ J) (hJ : J ≤ B) (hB : B ≤ cs.length) :
    (putL (putL cs A ((cs.drop J).take (B - J))) (A + (B - J)) zs).take (A + (B - J)) = (cs.take B).take A ++ (cs.take B).drop J := by
  have hM : ((cs.drop J).take (B - J)).length = B - J := by simp; omega
  have h1 : (cs.take A).length = A := by simp; omega
  have e2 : putL cs A ((cs.drop J).take (B - J)) = cs.take A ++ (cs.drop J).take (B - J) ++ (cs.drop A).drop (B - J) := by
    have := putL_at (p := cs.take A) (q := cs.drop A) (news := (cs.drop J).take (B - J)) (o := A) h1
    rw [List.take_append_drop, hM] at this
    exact this
  rw [e2, putL_at (by simp; omega), List.append_assoc (cs.take A ++ _) zs]
  rw [List.take_take, List.drop_take, Nat.min_eq_left (by omega : A ≤ B)]
  exact List.take_left' (by simp; omega)
end Sy
end Go.Proofs.Ytniopkoaplkpkaa
namespace Go.Proofs.Ytniopkoaplkpkaa
open Go.RowKit
set_option linter.unusedVariables false
set_option linter.unusedSimpArgs false
namespace Sy
structure Osl where
  e : TypeId
  s : Nat
  v : Value
  n : Nat
  xs : List Value
def Osl.blk (o : Osl) : Option Nat := Go.Proofs.Ytniopkoaplkpkaa.blk o.v
def blks (L : List Osl) : List Nat := L.filterMap Osl.blk
theorem mem_blks {L : List Osl} {k : Nat} : k ∈ blks L ↔ ∃ o ∈ L, o.blk = some k := by unfold blks; rw [List.mem_filterMap]
/-- what the call owns: the slices of a list, in blocks of their own -/
def OwL (L : List Osl) : Ext where
  S k := k ∈ blks L
  R w := (∀ o ∈ L, Own w 0 o.e o.s o.v o.n o.xs) ∧ (blks L).Nodup
  stab w w' h hr := ⟨fun o ho => (SlE o.e o.s o.v o.n o.xs).stab w w' (fun k hk => h k (mem_blks.2 ⟨o, ho, hk⟩)) (hr.1 o ho), hr.2⟩
  dom w k hr hk := by
    obtain ⟨o, ho, hb⟩ := mem_blks.1 hk
    exact ((hr.1 o ho).lt k hb).2
section
variable {E : Ext} {c : Cx} {m w : World} {bs : List Blk} {L L' L1 : List Osl} {o : Osl}
theorem MemE.congr {E E' : Ext} (F : MemE E c m bs w) (hR : E.R w → E'.R w) (hS : ∀ k, E'.S k → E.S k) : MemE E' c m bs w := ⟨F.kept, F.sub0, F.sub, F.fresh, F.own, F.nodup, hR F.ext, fun k hk => F.loose k (hS k hk)⟩
theorem MemE.ownPerm (F : MemE (OwL L) c m bs w) (h : L.Perm L') : MemE (OwL L') c m bs w :=
  F.congr (fun hr => ⟨fun o ho => hr.1 o (h.symm.subset ho), (h.filterMap _).nodup_iff.1 hr.2⟩) fun k hk => (h.filterMap Osl.blk).symm.subset hk
theorem MemE.own0 (F : MemE E0 c m bs w) : MemE (OwL []) c m bs w := F.congr (fun _ => ⟨fun o ho => (by cases ho), List.nodup_nil⟩) fun k hk => (by cases hk)
theorem MemE.to0 (F : MemE (OwL []) c m bs w) : MemE E0 c m bs w := F.congr (fun _ => trivial) fun k hk => hk.elim
theorem blks_cons (o : Osl) (L : List Osl) : blks (o :: L) = (match o.blk with | none => blks L | some k => k :: blks L) := by unfold blks; rw [List.filterMap_cons]; cases o.blk <;> rfl
theorem MemE.toA {e : TypeId} {s n : Nat} {v : Value} {xs : List Value} (F : MemE (OwL (⟨e, s, v, n, xs⟩ :: L)) c m bs w) : MemE (SlA (OwL L) e s v n xs) c m bs w := by
  refine F.congr (fun hr => ⟨⟨fun o ho => hr.1 o (List.mem_cons_of_mem _ ho), ?_⟩, hr.1 _ (List.mem_cons_self ..), fun k hk hs => ?_⟩) fun k hk => ?_
  · have := hr.2
    rw [blks_cons] at this
    cases hb : (⟨e, s, v, n, xs⟩ : Osl).blk with
    | none => rw [hb] at this; exact this
    | some q => rw [hb] at this; exact (List.nodup_cons.1 this).2
  · have := hr.2
    rw [blks_cons] at this
    have hb : (⟨e, s, v, n, xs⟩ : Osl).blk = some k := hk
    rw [hb] at this
    exact (List.nodup_cons.1 this).1 hs
  · rcases hk with hk | hk
    · obtain ⟨o, ho, hb⟩ := mem_blks.1 hk
      exact mem_blks.2 ⟨o, List.mem_cons_of_mem _ ho, hb⟩
    · exact mem_blks.2 ⟨_, List.mem_cons_self .., hk⟩
theorem MemE.ofA {e : TypeId} {s n : Nat} {v : Value} {xs : List Value} (F : MemE (SlA (OwL L) e s v n xs) c m bs w) : MemE (OwL (⟨e, s, v, n, xs⟩ :: L)) c m bs w := by
  refine F.congr (fun hr => ⟨fun o ho => ?_, ?_⟩) fun k hk => ?_
  · rcases List.mem_cons.1 ho with rfl | ho
    · exact hr.2.1
    · exact hr.1.1 o ho
  · rw [blks_cons]
    cases hb : (⟨e, s, v, n, xs⟩ : Osl).blk with
    | none => exact hr.1.2
    | some q => exact List.nodup_cons.2 ⟨hr.2.2 q hb, hr.1.2⟩
  · obtain ⟨o, ho, hb⟩ := mem_blks.1 hk
    rcases List.mem_cons.1 ho with rfl | ho
    · exact .inr hb
    · exact .inl (mem_blks.2 ⟨o, ho, hb⟩)
theorem MemE.ownAt (F : MemE (OwL L) c m bs w) {e : TypeId} {s n : Nat} {v : Value} {xs : List Value} (h : (⟨e, s, v, n, xs⟩ : Osl) ∈ L) : Own w 0 e s v n xs := F.ext.1 _ h

/-! calls that are handed a block, and slices, to write -/
/-- what such a call may write -/
def wr (g : Nat) (L : List Osl) : List Nat := g :: blks L
/-- a call's beginning: the block g holds cs, the slices of L are there to write -/
abbrev Handx (L : List Osl) (m W : World) (g : Nat) (cs : List Value) (t : TypeId) : Prop := MemE (OwL L) ⟨W, wr g L, m⟩ m [⟨g, cs, t⟩] W
def RetE (L : List Osl) (m w : World) (g : Nat) (t : TypeId) (R : World → Value → List Value → List Osl → Prop) (en : Ending) (w' : World) : Prop :=
  ∃ v m' cs' L', en = .returned v ∧ MemE (OwL L') ⟨w, wr g L, m⟩ m' [⟨g, cs', t⟩] w' ∧ R m' v cs' L'
theorem MemE.handx {g : Nat} {cs : List Value} {t : TypeId} (F : MemE (OwL (L ++ L1)) c m (⟨g, cs, t⟩ :: bs) w) : Handx L m w g cs t := by
  have ho := F.own ⟨g, cs, t⟩ (List.mem_cons_self ..)
  have hsub : ∀ k, k ∈ blks L → k ∈ blks (L ++ L1) := fun k hk => by
    obtain ⟨o, h1, h2⟩ := mem_blks.1 hk
    exact mem_blks.2 ⟨o, List.mem_append_left _ h1, h2⟩
  refine ⟨Kept.refl _ _, Sub.refl _, F.sub, fun _ _ _ e => e, fun b hb => ?_, by simp, ⟨fun o ho => F.ext.1 o (List.mem_append_left _ ho), ?_⟩, fun k hk => ?_⟩
  · simp at hb
    subst hb
    exact ⟨.inr (by simp [wr]), ho.2.1, ho.2.2⟩
  · have := F.ext.2
    unfold blks at this
    rw [List.filterMap_append] at this
    exact (List.nodup_append.1 this).1
  · have h := F.loose k (hsub k hk)
    refine ⟨.inr (by unfold wr; exact List.mem_cons_of_mem _ hk), fun hm => h.2.1 ?_, h.2.2⟩
    simp at hm
    subst hm
    simp
theorem MemE.resume {g : Nat} {cs cs' : List Value} {t : TypeId} {m' w' : World} (F : MemE (OwL (L ++ L1)) c m (⟨g, cs, t⟩ :: bs) w) (H : MemE (OwL L') ⟨w, wr g L, m⟩ m' [⟨g, cs', t⟩] w') : MemE (OwL (L' ++ L1)) c m' (⟨g, cs', t⟩ :: bs) w' := by
  have ho := F.own ⟨g, cs, t⟩ (List.mem_cons_self ..)
  have hg := H.own ⟨g, cs', t⟩ (List.mem_cons_self ..)
  have hnd := List.nodup_cons.1 F.nodup
  have hsubL : ∀ k, k ∈ blks L → k ∈ blks (L ++ L1) := fun k hk => by
    obtain ⟨o, h1, h2⟩ := mem_blks.1 hk
    exact mem_blks.2 ⟨o, List.mem_append_left _ h1, h2⟩
  have hsub1 : ∀ k, k ∈ blks L1 → k ∈ blks (L ++ L1) := fun k hk => by
    obtain ⟨o, h1, h2⟩ := mem_blks.1 hk
    exact mem_blks.2 ⟨o, List.mem_append_right _ h1, h2⟩
  have hbl : (blks L ++ blks L1).Nodup := by
    have := F.ext.2
    unfold blks at this
    rwa [List.filterMap_append] at this
  have hwrF : ∀ k, k ∈ wr g L → (c.W.heap.size ≤ k ∨ k ∈ c.X) := fun k hk => by
    unfold wr at hk
    rcases List.mem_cons.1 hk with rfl | hk
    · exact ho.1
    · exact (F.loose k (hsubL k hk)).1
  have hnone : ∀ k, k < w.heap.size → (∀ i s, m.cell? ⟨k, i, s⟩ = none) → ∀ i s, m'.cell? ⟨k, i, s⟩ = none := fun k hk hm i s => by
    cases hc : m'.cell? ⟨k, i, s⟩ with
    | none => rfl
    | some v => have := H.fresh _ _ hk hc; rw [hm i s] at this; cases this
  have hlt : ∀ b ∈ (⟨g, cs, t⟩ :: bs : List Blk), b.adr < w.heap.size := fun b hb => F.lt hb
  have hbwr : ∀ b ∈ bs, b.adr ∉ wr g L := fun b hb hk => by
    unfold wr at hk
    rcases List.mem_cons.1 hk with e | hk
    · exact hnd.1 (List.mem_map.2 ⟨b, hb, e⟩)
    · exact (F.loose _ (hsubL _ hk)).2.1 (by simp only [List.map_cons]; exact List.mem_cons_of_mem _ (List.mem_map_of_mem hb))
  have h1wr : ∀ k, k ∈ blks L1 → k ∉ wr g L := fun k hk hw => by
    unfold wr at hw
    rcases List.mem_cons.1 hw with e | hw
    · subst e; exact (F.loose k (hsub1 k hk)).2.1 (by simp)
    · exact (List.nodup_append.1 hbl).2.2 k hw k hk rfl
  refine ⟨⟨H.kept.os.trans F.kept.os, H.kept.tape.trans F.kept.tape, H.kept.output.trans F.kept.output, Nat.le_trans F.kept.size H.kept.size, fun k hk hx => ?_⟩, F.sub0.trans H.sub0, H.sub, fun p v hp e => F.fresh p v hp (H.fresh p v (Nat.lt_of_lt_of_le hp F.size) e), fun b hb => ?_, by simp only [List.map_cons]; exact List.nodup_cons.2 hnd, ⟨fun o ho => ?_, ?_⟩, fun k hk => ?_⟩
  · have hkx : k ∉ wr g L := fun h => by
      rcases hwrF k h with h | h
      · exact absurd hk (Nat.not_lt.2 h)
      · exact hx h
    exact (H.kept.block k (Nat.lt_of_lt_of_le hk F.kept.size) hkx).trans (F.kept.block k hk hx)
  · rcases List.mem_cons.1 hb with rfl | hb
    · exact ⟨ho.1, hg.2.1, hg.2.2⟩
    · have h := F.own b (List.mem_cons_of_mem _ hb)
      have hl := hlt b (List.mem_cons_of_mem _ hb)
      refine ⟨h.1, ?_, hnone _ hl h.2.2⟩
      rw [H.kept.block b.adr hl (hbwr b hb)]
      exact h.2.1
  · rcases List.mem_append.1 ho with ho | ho
    · exact H.ext.1 o ho
    · exact (SlE o.e o.s o.v o.n o.xs).stab w w' (fun k hk => H.kept.block k ((F.ext.1 o (List.mem_append_right _ ho)).lt k hk).2 (h1wr k (mem_blks.2 ⟨o, ho, hk⟩))) (F.ext.1 o (List.mem_append_right _ ho))
  · unfold blks
    rw [List.filterMap_append]
    refine List.nodup_append.2 ⟨H.ext.2, (List.nodup_append.1 hbl).2.1, fun k hk k' hk' e => ?_⟩
    subst e
    have hk2 : k < w.heap.size := by
      obtain ⟨o, h1, h2⟩ := mem_blks.1 (show k ∈ blks L1 from hk')
      exact ((F.ext.1 o (List.mem_append_right _ h1)).lt k h2).2
    rcases (H.loose k hk).1 with h | h
    · exact absurd hk2 (Nat.not_lt.2 h)
    · exact h1wr k hk' h
  · obtain ⟨o, ho, hb⟩ := mem_blks.1 hk
    rcases List.mem_append.1 ho with ho | ho
    · have h := H.loose k (mem_blks.2 ⟨o, ho, hb⟩)
      have hkg : k ≠ g := fun e => h.2.1 (by simp [e])
      refine ⟨?_, fun hm => ?_, h.2.2⟩
      · rcases h.1 with h1 | h1
        · exact .inl (Nat.le_trans F.size h1)
        · exact hwrF k h1
      · simp only [List.map_cons] at hm
        rcases List.mem_cons.1 hm with e | hm
        · exact hkg e
        · obtain ⟨b, hbm, e⟩ := List.mem_map.1 hm
          rcases h.1 with h1 | h1
          · have := hlt b (List.mem_cons_of_mem _ hbm)
            have h1' : w.heap.size ≤ k := h1
            omega
          · exact hbwr b hbm (e ▸ h1)
    · have hk1 : k ∈ blks L1 := mem_blks.2 ⟨o, ho, hb⟩
      have h := F.loose k (hsub1 k hk1)
      exact ⟨h.1, by simpa using h.2.1, hnone k (((F.ext.1 o (List.mem_append_right _ ho)).lt k hb).2) h.2.2⟩
end
section
variable {E : Ext} {P : Program} {tab : List (Nat × Ty)} {fl : List Nat} {a : Act} {n : Nat} {ts : List (Nat × Value)} {w : World} {ty : TypeId} {pos : String} {af : Array Edge}
  {ops : Array Oper} {Q : Exit → Act → World → Prop} {rest : List Oper} {c : Cx} {m : World} {bs bs' : List Blk} {X : List Nat} {r : Ot} {i : Nat} {LL L L1 : List Osl}
/-- a call that writes the block g and the slices of L -/
theorem st_callE [S : Seat P tab fl] {d : Nat} {f : FuncId} {args : List Operand} {ats : Array TypeId} {vs : List Value} {g : Nat} {cs : List Value} {t : TypeId} {R : World → Value → List Value → List Osl → Prop} (T : Tm a n ts) (F : MemE (OwL LL) c m bs w) (hL : LL.Perm (L ++ L1)) (hk : Take bs g cs t bs')
    (hc : Handx L m w g cs t → Calls P f vs.toArray w (RetE L m w g t R))
    (hfl : fl.contains f = true := by exact rfl) (ha : evs ts args = some vs := by exact rfl) (hd : Nat.blt d n = true := by exact rfl)
    (h : ∀ v m' cs' L' a' w', R m' v cs' L' → Sub m m' → Tm a' n ((d, v) :: ts) → MemE (OwL (L' ++ L1)) c m' (⟨g, cs', t⟩ :: bs') w' → wpList P ops Q rest a' w') :
    wpList P ops Q (⟨some d, .call { callee := .value (.func f), args := args.toArray, argTypes := ats }, ty, pos, af, none⟩ :: rest) a w := by
  have F' := (F.front hk).ownPerm hL
  exact st_call (R := RetE L m w g t R) (us := []) (ks := []) T rfl hfl ha hd (by simpa using hc F'.handx) fun e w' ⟨v, m', cs', L', he, H, hr⟩ => ⟨v, he, fun a' T' => h v m' cs' L' a' w' hr H.sub0 T' (F'.resume H)⟩
/-- rows read where the call itself may write -/
theorem st_loadW [S : Seat P tab fl] {d : Nat} {t : TypeId} {x : Operand} {g o : Nat} {vs : List Value} {y : Ty} (T : Tm a n ts) (hc : At w g o vs) (hl : vs.length = y.size) (hx : ev ts x = some (.pointer (some ⟨g, o, none⟩)) := by exact rfl) (hy : getY tab t = some y := by exact rfl) (ha : y.agg = true := by exact rfl) (hd : Nat.blt d n = true := by exact rfl)
    (h : ∀ a', Tm a' n ((d, .agg vs.toArray) :: ts) → wpList P ops Q rest a' w) : wpList P ops Q (⟨some d, .load t x, ty, pos, af, none⟩ :: rest) a w :=
  st_val (runs_loadAgg T hx hy ha hl hc) T hd h
/-- a call of a value under a guard that holds, in a drawn region -/
theorem sx_callGW [S : Seat P tab fl] {d : Nat} {fx : Operand} {f : FuncId} {args : List Operand} {ats : Array TypeId} {us vs ks : List Value} {v u : Value} {j e : Nat} {b : Bool} (hi' : nthO ops i = some ⟨some d, .call { callee := .value fx, args := args.toArray, argTypes := ats }, ty, pos, af, some (j, b)⟩) (T : Tm a n ts) (F : MemE E c m bs w)
    (hf : ev ts fx = some (.func (.func f) us.toArray ks.toArray)) (hfl : fl.contains f = true) (ha : evs ts args = some vs) (hc : Calls P f (us ++ vs ++ ks).toArray w (RetV w v))
    (hj : (ops[j]?).bind (·.dst) = some e := by exact rfl) (hv : getT ts e = some u := by exact rfl) (hy : (yv u == some b) = true := by exact rfl) (hd : Nat.blt d n = true := by exact rfl)
    (h : ∀ a' w', Tm a' n ((d, v) :: ts) → MemE E c m bs w' → wpUx P X ops Q r w'.heap.size w' a' w') : wpUx P X ops Q (.h i r) w.heap.size w a w := by
  have hi := nthO_spec hi'
  have hw := wanted_t (ops := ops) (o := ⟨some d, .call { callee := .value fx, args := args.toArray, argTypes := ats }, ty, pos, af, some (j, b)⟩) rfl T hj hv
  rw [hy] at hw
  unfold wpUx wpUy
  simp only [hi]
  rw [if_pos hw]
  exact wp_call (R := RetV w v) T hf hfl ha hc fun en w' ⟨he, hb⟩ => ⟨v, he, X, w'.heap.size, hb.size, fun _ h => .inl h, belowX hb, h _ _ (T.put (by simpa [Nat.blt_eq] using hd) v) (F.below hb)⟩
/-- a row stored to a place of a block of the call's own -/
theorem st_putB [S : Seat P tab fl] {t : TypeId} {x z : Operand} {g o : Nat} {cs vs : List Value} {et : TypeId} {y : Ty} (T : Tm a n ts) (F : MemE E c m bs w) (hk : Take bs g cs et bs') (hfit : o + vs.length ≤ cs.length) (h1 : ∀ v ∈ vs, v.oneCell' = true) (hl : vs.length = y.size)
    (hx : ev ts x = some (.pointer (some ⟨g, o, none⟩)) := by exact rfl) (hz : ev ts z = some (.agg vs.toArray) := by exact rfl) (hy : getY tab t = some y := by exact rfl)
    (h : ∀ a' w', Tm a' n ts → MemE E c m (⟨g, putL cs o vs, et⟩ :: bs') w' → wpList P ops Q rest a' w') : wpList P ops Q (⟨none, .store t x z, ty, pos, af, none⟩ :: rest) a w := by
  have hst := run_storeCells_at P g o et vs 0 cs.toArray w (F.get hk) (by simpa using hfit) h1
  have hsz := run_sizeOf_y (S.ty _ _ hy) w
  rw [← hl] at hsz
  refine wpList_plain rfl fun K hK => ?_
  unfold Oper.wp
  have hrun : (execOp a.eval ⟨none, .store t x z, ty, pos, af, none⟩).run P w = .ok .skip (w.setRow g (putL cs o vs).toArray) := by
    simp only [Nat.add_zero] at hst
    simp [execOp, T.eval hx, T.eval hz, Instr.storeAt, Instr.sureAddr, storeVar, Value.cells, hsz, hst, putL]
  rw [hrun]
  exact hK _ _ (h _ _ (T.skip _) (F.front hk).setRow)
/-- a call that writes a slice of the caller's, in a drawn region -/
theorem sx_callO [S : Seat P tab fl] {d : Nat} {f : FuncId} {args : List Operand} {ats : Array TypeId} {vs : List Value} {e e' : TypeId} {s k s' k' : Nat} {v : Value} {xs xs' : List Value} {E1 : Ext} (hi' : nthO ops i = some ⟨some d, .call { callee := .value (.func f), args := args.toArray, argTypes := ats }, ty, pos, af, none⟩) (T : Tm a n ts) (F : MemE (SlA E1 e s v k xs) c m bs w) (hX : ∀ q, blk v = some q → q ∈ X) (hc : Calls P f vs.toArray w (RetO w v e' s' k' xs'))
    (hfl : fl.contains f = true := by exact rfl) (ha : evs ts args = some vs := by exact rfl) (hd : Nat.blt d n = true := by exact rfl)
    (h : ∀ v' a' w', Tm a' n ((d, v') :: ts) → MemE (SlA E1 e' s' v' k' xs') c m bs w' → wpUx P X ops Q r w'.heap.size w' a' w') : wpUx P X ops Q (.h i r) w.heap.size w a w := by
  refine sx_hole hi' rfl fun K hK => wpList_plain rfl fun K' hK' => wp_call (us := []) (ks := []) (R := RetO w v e' s' k' xs') T rfl hfl ha (by simpa using hc) fun en w' ⟨v', he, hg, ho, hb⟩ => ⟨v', he, ?_⟩
  exact hK' _ _ (atK (hK _ _ ⟨hg.os, hg.tape, hg.output, hg.size, fun q hq hqX => hg.block q hq fun hbv => hqX (hX q hbv.symm)⟩ (h _ _ _ (T.put (by simpa [Nat.blt_eq] using hd) _) (F.grownO hg ho hb))))
theorem st_end0 [S : Seat P tab fl] (T : Tm a n ts) (F : MemE E c m bs w) {fn : Func} {R : Ending → World → Prop} (hf : fn.results = #[]) (hR : R (.returned (.tuple #[])) w) : bodyPost P fn R .normal a w :=
  bodyPost_ret (results_run T F (rs := []) (vs := []) (by rw [hf]) .nil) T.dn hR
/-- no results -/
theorem st_ret0 [S : Seat P tab fl] (T : Tm a n ts) (F : MemE E c m bs w) {fn : Func} {R : Ending → World → Prop} (hf : fn.results = #[]) (hR : R (.returned (.tuple #[])) w) : bodyPost P fn R .ret a w :=
  bodyPost_ret (results_run T F (rs := []) (vs := []) (by rw [hf]) .nil) T.dn hR
end
theorem MemE.retE {L L' : List Osl} {W m0 m w : World} {bs r : List Blk} {g : Nat} {cs : List Value} {t : TypeId} {R : World → Value → List Value → List Osl → Prop} {v : Value} (F : MemE (OwL L') ⟨W, wr g L, m0⟩ m bs w) (hk : Take bs g cs t r) (h : R m v cs L') : RetE L m0 W g t R (.returned v) w :=
  ⟨v, m, cs, L', rfl, F.sel (.cons hk .nil), h⟩
end Sy
end Go.Proofs.Ytniopkoaplkpkaa
