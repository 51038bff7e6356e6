/- Memory, calls, the entry and the end of a function. -/
import Derived.Test.YtdehpaikapbckaaBase1
import Derived.Laws.World
import Derived.Below
namespace Go.Sl

class Und (P : Program) (t : TypeId) (d : outParam TypeDesc) : Prop where
  eq : P.underlying t = some d
class Inf (P : Program) (t : TypeId) (z : outParam Value) (sz bt : outParam Nat) : Prop where
  eq' : (P.info? t).map (fun i => (i.zero, i.size, i.bytes)) = some (some z, sz, bt)
theorem Inf.eq {P : Program} {t : TypeId} {z : Value} {sz bt : Nat} (h : Inf P t z sz bt) : ∃ i, P.info? t = some i ∧ i.zero = some z ∧ i.size = sz ∧ i.bytes = bt := by
  have := h.eq'
  cases hi : P.info? t with
  | none => simp [hi] at this
  | some i => simp [hi] at this; exact ⟨i, rfl, this.1, this.2.1, this.2.2⟩
class Ag (P : Program) (t : TypeId) (b : outParam Bool) : Prop where
  eq : ∀ w, (isAgg t).run P w = .ok b w
/-- A function with a body is entered. -/
class Ent (P : Program) (g : FuncId) : Prop where
  eq : ∀ args w, (callFunc g args).run P w = .ok (.enter g args) w
/-- The address of a field. -/
class FdA (P : Program) (s : TypeId) (f : Nat) (off : outParam Nat) : Prop where
  eq : ∀ b o w, (Instr.fieldAt s (.pointer (some ⟨b, o, none⟩)) f).run P w = .ok (.pointer (some ⟨b, o + off, none⟩)) w

theorem run_underlying {P : Program} {t : TypeId} {d : TypeDesc} [h : Und P t d] (w : World) : (underlying t).run P w = .ok d w := by simp [underlying, h.eq]
theorem run_sizeOf {P : Program} {t : TypeId} {z : Value} {sz bt : Nat} [h : Inf P t z sz bt] (w : World) : (sizeOf t).run P w = .ok sz w := by
  obtain ⟨i, h1, h2, h3, h4⟩ := h.eq; simp [sizeOf, typeInfo, h1, h3]
theorem run_zeroValue {P : Program} {t : TypeId} {z : Value} {sz bt : Nat} [h : Inf P t z sz bt] (w : World) : (zeroValue t).run P w = .ok z w := by
  obtain ⟨i, h1, h2, h3, h4⟩ := h.eq; simp [zeroValue, typeInfo, h1, h2]
theorem run_typeInfo {P : Program} {t : TypeId} {z : Value} {sz bt : Nat} [h : Inf P t z sz bt] : ∃ i : TypeInfo, (∀ w, (typeInfo t).run P w = .ok i w) ∧ i.zero = some z ∧ i.size = sz ∧ i.bytes = bt := by
  obtain ⟨i, h1, h2, h3, h4⟩ := h.eq; exact ⟨i, fun w => by simp [typeInfo, h1], h2, h3, h4⟩

/-- An address holds a value. -/
inductive At (S : Nat → Prop) (w0 : World) (η : Heap) (a : Addr) (v : Value) : Prop
  | rd (h : S a.block) (hc : w0.cell? a = some v)
  | own (seg : Seg) (hs : seg ∈ η) (cs : Array Value) (e : TypeId) (fz : Nat × Nat) (hp : (a.block, Obj.cells cs e fz) ∈ seg) (hc : cs[a.off]? = some v) (hsp : a.spot = none)

variable {S : Nat → Prop} {w0 : World} {η : Heap} {w : World}

theorem At.cell {a : Addr} {v : Value} (h : At S w0 η a v) (hh : Hp S w0 η w) : w.cell? a = some v := by
  cases h with
  | rd h hc =>
    have := (hh.same _ h).2
    simp only [World.cell?, this] at hc ⊢
    exact hc
  | own seg hs cs e fz hp hc hsp =>
    have := (hh.own _ (List.mem_flatten.2 ⟨seg, hs, hp⟩)).1
    simp only at this
    simp [World.cell?, this, hsp, hc]

theorem At.own' {i : Nat} {b : Nat} {cs : Array Value} {e : TypeId} {fz : Nat × Nat} {off : Nat} {v : Value} (hi : η[i]? = some [(b, .cells cs e fz)]) (hc : cs[off]? = some v) : At S w0 η ⟨b, off, none⟩ v :=
  .own _ (List.mem_of_getElem? hi) cs e fz (by simp) hc rfl

theorem Hp.lt (hh : Hp S w0 η w) {p : Nat × Obj} (h : p ∈ η.flatten) : p.1 < w.heap.size := (Array.getElem?_eq_some_iff.1 (hh.own p h).1).1

/-- A new block. -/
theorem Hp.alloc (hh : Hp S w0 η w) (o : Obj) : Hp S w0 ([(w.heap.size, o)] :: η) { w with heap := w.heap.push o } := by
  refine ⟨hh.os, hh.tape, hh.output, by simp; have := hh.size; omega, fun k hk => ?_, fun p hp => ?_, ?_⟩
  · have h1 := hh.same k hk
    refine ⟨h1.1, ?_⟩
    rw [Array.getElem?_push, if_neg (by have := hh.size; omega)]
    exact h1.2
  · simp only [List.flatten_cons, List.mem_append, List.mem_singleton] at hp
    rcases hp with rfl | hp
    · exact ⟨by simp, fun hs => by have := (hh.same _ hs).1; have := hh.size; simp only at *; omega⟩
    · have h1 := hh.lt hp
      have h2 := hh.own p hp
      refine ⟨?_, h2.2⟩
      rw [Array.getElem?_push, if_neg (by omega)]
      exact h2.1
  · simp only [List.flatten_cons, List.map_append, List.map_cons, List.map_nil]
    rw [List.cons_append, List.nil_append, List.nodup_cons]
    refine ⟨fun hm => ?_, hh.once⟩
    obtain ⟨p, hp, he⟩ := List.mem_map.1 hm
    have := hh.lt hp
    omega

/-- The world behind a turn of one block. -/
def putBlk (w : World) (b : Nat) (o : Obj) : World := { w with heap := w.heap.setIfInBounds b o }

/-- A turn of the one block of a segment. -/
theorem Hp.turn {pre post : Heap} {b : Nat} {o : Obj} (hh : Hp S w0 (pre ++ [(b, o)] :: post) w) (o' : Obj) : Hp S w0 (pre ++ [(b, o')] :: post) (putBlk w b o') := by
  have hb : (b, o) ∈ (pre ++ [(b, o)] :: post).flatten := by simp
  have hlt := hh.lt hb
  have hns := (hh.own _ hb).2
  have hon := hh.once
  simp only [List.flatten_append, List.flatten_cons, List.map_append, List.map_cons, List.map_nil, List.cons_append, List.nil_append] at hon
  have hnd := List.nodup_append.1 hon
  have hnd2 := List.nodup_cons.1 hnd.2.1
  refine ⟨hh.os, hh.tape, hh.output, by simp [putBlk]; exact hh.size, fun k hk => ?_, fun p hp => ?_, ?_⟩
  · have h1 := hh.same k hk
    refine ⟨h1.1, ?_⟩
    have hne : b ≠ k := fun e => hns (by simpa [e] using hk)
    simp only [putBlk]
    rw [Array.getElem?_setIfInBounds_ne hne]
    exact h1.2
  · simp only [List.flatten_append, List.flatten_cons, List.mem_append, List.mem_singleton] at hp
    have key : ∀ q : Nat × Obj, q ∈ (pre ++ [(b, o)] :: post).flatten → q.1 ≠ b → (putBlk w b o').heap[q.1]? = some q.2 ∧ ¬ S q.1 := fun q hq hne => by
      have h2 := hh.own q hq
      refine ⟨?_, h2.2⟩
      simp only [putBlk]
      rw [Array.getElem?_setIfInBounds_ne (Ne.symm hne)]
      exact h2.1
    rcases hp with hp | rfl | hp
    · refine key p (by simp only [List.flatten_append, List.mem_append]; exact .inl hp) fun e => ?_
      exact hnd.2.2 p.1 (List.mem_map.2 ⟨p, hp, rfl⟩) b (by simp) e
    · exact ⟨by simp [putBlk, hlt], hns⟩
    · refine key p (by simp only [List.flatten_append, List.flatten_cons, List.mem_append]; exact .inr (.inr hp)) fun e => ?_
      exact hnd2.1 (List.mem_map.2 ⟨p, hp, e⟩)
  · simpa using hh.once

/-- Facts on what nobody owns, after owned blocks have been given up. -/
theorem Hp.weaken {η' : Heap} (hh : Hp S w0 η w) (hs : η'.flatten.Sublist η.flatten) : Hp S w0 η' w :=
  ⟨hh.os, hh.tape, hh.output, hh.size, hh.same, fun p hp => hh.own p (hs.subset hp), hh.once.sublist (hs.map _)⟩

theorem flat_sub : ∀ {η' η : Heap}, η'.Sublist η → η'.flatten.Sublist η.flatten := by
  intro η' η hs
  induction hs with
  | slnil => exact List.Sublist.refl _
  | cons a _ ih => exact ih.trans (by simp)
  | cons_cons a _ ih => simp only [List.flatten_cons]; exact List.Sublist.append (List.Sublist.refl _) ih
theorem Hp.seg {η' : Heap} (hh : Hp S w0 η w) (hs : η'.Sublist η) : Hp S w0 η' w := hh.weaken (flat_sub hs)
theorem Hp.start (w : World) : Hp (· < w.heap.size) w [] w := ⟨rfl, rfl, rfl, Nat.le_refl _, fun k hk => ⟨hk, rfl⟩, by simp, by simp⟩
theorem Hp.below {w w' : World} {η : Heap} (hh : Hp (· < w.heap.size) w η w') : RowKit.Below w.heap.size w w' :=
  ⟨hh.os, hh.tape, hh.output, hh.size, fun k hk => (hh.same k hk).2⟩

section
variable {F : Fence} {P : Program} {n : Nat} {Q : Exit → Act → World → Prop} {ds : List Deferred} {σ : Env} {ops : Array Oper} {rest : List Oper} {d : Nat} {ty : TypeId} {pos : String} {af : Array Edge}

theorem run_loadVar1 {t : TypeId} [Ag P t false] {a : Addr} {v : Value} (h : w.cell? a = some v) : (loadVar t a).run P w = .ok v w := by
  simp [loadVar, Ag.eq (t := t) (b := false), h]

theorem TL.load (hF : Open F) {t : TypeId} [Ag P t false] {x : Operand} {a : Addr} {v : Value} (hx : ev σ x = some (.pointer (some a))) (hv : At S w0 η a v) (hn : Nat.blt d n = true)
    (h : TL F P S w0 n ops Q rest ds ((d, v) :: σ) η) : TL F P S w0 n ops Q (⟨some d, .load t x, ty, pos, af, none⟩ :: rest) ds σ η :=
  TL.pure hF (by intro c; simp) hn (fun a w hk hh => by simp [execOp, hk.ev hx, Instr.loadAt, Instr.sureAddr, run_loadVar1 (hv.cell hh)]) h

theorem run_loadCellsFrom {a : Addr} (hsp : a.spot = none) (f : Nat → Value) : ∀ (m i : Nat) (acc : Array Value), (∀ j, i ≤ j → j < i + m → w.cell? (a.add j) = some (f j)) →
    (loadCellsFrom a i m acc).run P w = .ok (acc ++ ((List.range' i m).map f).toArray) w
  | 0, i, acc, _ => by simp [loadCellsFrom]
  | m + 1, i, acc, h => by
    have h0 := h i (Nat.le_refl _) (by omega)
    simp only [loadCellsFrom, Sem.run_bind, run_load, h0, Result.andThen_ok]
    rw [run_loadCellsFrom hsp f m (i + 1) _ (fun j h1 h2 => h j (by omega) (by omega))]
    simp [List.range'_succ]

theorem TL.loadA (hF : Open F) {t : TypeId} [Ag P t true] {z : Value} {sz bt : Nat} [Inf P t z sz bt] {x : Operand} {b o : Nat} (cs : List Value) (hx : ev σ x = some (.pointer (some ⟨b, o, none⟩))) (hl : cs.length = sz)
    (hv : ∀ i v, cs[i]? = some v → At S w0 η ⟨b, o + i, none⟩ v) (hn : Nat.blt d n = true)
    (h : TL F P S w0 n ops Q rest ds ((d, .agg cs.toArray) :: σ) η) : TL F P S w0 n ops Q (⟨some d, .load t x, ty, pos, af, none⟩ :: rest) ds σ η :=
  TL.pure hF (by intro c; simp) hn (fun a w hk hh => by
    have key : (loadCells ⟨b, o, none⟩ sz).run P w = .ok cs.toArray w := by
      unfold loadCells
      rw [run_loadCellsFrom rfl (fun i => cs.getD i undef) sz 0 #[] (fun j _ h2 => by
        have h3 : cs[j]? = some (cs.getD j undef) := by
          have : j < cs.length := by omega
          simp [List.getD_eq_getElem?_getD, this]
        have h4 := (hv j _ h3).cell hh
        have : (⟨b, o, none⟩ : Addr).add j = ⟨b, o + j, none⟩ := by
          unfold Addr.add; split
          · subst_vars; rfl
          · rfl
        rw [this]; exact h4)]
      congr 1
      simp only [Array.empty_append]
      congr 1
      apply List.ext_getElem?
      intro i
      rw [List.getElem?_map]
      by_cases hi : i < sz
      · rw [List.getElem?_range' hi]; simp [List.getD_eq_getElem?_getD, hl, hi]
      · simp [hl, hi]
    simp [execOp, hk.ev hx, Instr.loadAt, Instr.sureAddr, loadVar, Ag.eq (t := t) (b := true), run_sizeOf (z := z) (sz := sz) (bt := bt), key]) h

theorem run_storeCells {e : TypeId} {b : Nat} : ∀ (vs : List Value) (cs : Array Value) (o i : Nat) (w : World), w.heap[b]? = some (.cells cs e (0, 0)) → o + i + vs.length ≤ cs.size → (∀ v ∈ vs, v.oneCell' = true) →
    (storeCells ⟨b, o, none⟩ vs i).run P w = .ok () (putBlk w b (.cells (vs.zipIdx.foldl (fun cs (c, j) => cs.setIfInBounds (o + i + j) c) cs) e (0, 0)))
  | [], cs, o, i, w, hb, _, _ => by
    have hlt := (Array.getElem?_eq_some_iff.1 hb).1
    have he := (Array.getElem?_eq_some_iff.1 hb).2
    simp only [storeCells, Sem.run_pure, List.zipIdx_nil, List.foldl_nil, putBlk]
    congr 1
    cases w; simp only at hlt he ⊢
    congr 1
    apply Array.ext
    · simp
    · intro j h1 h2
      by_cases hj : b = j
      · subst hj; simp [he]
      · rw [Array.getElem_setIfInBounds_ne (by simpa using h2) hj]
  | v :: vs, cs, o, i, w, hb, hl, ho => by
    have hlt := (Array.getElem?_eq_some_iff.1 hb).1
    simp only [List.length_cons] at hl
    have ha : (⟨b, o, none⟩ : Addr).add i = ⟨b, o + i, none⟩ := by
      unfold Addr.add; split
      · subst_vars; rfl
      · rfl
    have hc : w.cell? ⟨b, o + i, none⟩ = some (cs[o + i]'(by omega)) := by
      simp only [World.cell?, hb]
      simp
    have hf : w.frozen? ⟨b, o + i, none⟩ = false := by simp [World.frozen?, hb]
    have hset : w.setCell ⟨b, o + i, none⟩ v = putBlk w b (.cells (cs.setIfInBounds (o + i) v) e (0, 0)) := by
      obtain ⟨hlt', he'⟩ := Array.getElem?_eq_some_iff.1 hb
      simp only [World.setCell, putBlk]
      congr 1
      apply Array.ext
      · simp
      · intro j h1 h2
        by_cases hj : b = j
        · subst hj; rw [Array.getElem_modify, if_pos rfl]; simp [he']
        · rw [Array.getElem_modify, if_neg hj, Array.getElem_setIfInBounds_ne _ hj]
    simp only [storeCells, Sem.run_bind, ha]
    rw [run_store _ _ _ _ _ (ho v (by simp))]
    simp only [hc, hf, Bool.false_eq_true, if_false, Result.andThen_ok, hset]
    rw [run_storeCells (e := e) vs (cs.setIfInBounds (o + i) v) o (i + 1) _ (by simp [putBlk, hlt]) (by simp; omega) (fun u hu => ho u (by simp [hu]))]
    congr 1
    simp only [putBlk, Array.setIfInBounds_setIfInBounds]
    congr 3
    simp only [List.zipIdx_cons, List.foldl_cons, Nat.add_zero, Nat.zero_add]
    have : ∀ (l : List Value) (k : Nat) (c0 : Array Value), List.foldl (fun cs (x : Value × Nat) => cs.setIfInBounds (o + (i + 1) + x.2) x.1) c0 (l.zipIdx k) = List.foldl (fun cs (x : Value × Nat) => cs.setIfInBounds (o + i + x.2) x.1) c0 (l.zipIdx (k + 1)) := by
      intro l
      induction l with
      | nil => intro k c0; rfl
      | cons u l ih => intro k c0; simp only [List.zipIdx_cons, List.foldl_cons]; rw [ih, show o + (i + 1) + k = o + i + (k + 1) from by omega]
    exact this vs 0 _

/-- A store of one cell. -/
theorem TL.store (hF : Open F) {t : TypeId} {z : Value} {bt : Nat} [Inf P t z 1 bt] {x y : Operand} {b o : Nat} {v : Value} {pre post : Heap} {cs : Array Value} {e : TypeId} (hx : ev σ x = some (.pointer (some ⟨b, o, none⟩))) (hy : ev σ y = some v)
    (hv : v.oneCell' = true) (he : η = pre ++ [(b, .cells cs e (0, 0))] :: post) (ho : o < cs.size) (h : TL F P S w0 n ops Q rest ds σ (pre ++ [(b, .cells (cs.setIfInBounds o v) e (0, 0))] :: post)) :
    TL F P S w0 n ops Q (⟨none, .store t x y, ty, pos, af, none⟩ :: rest) ds σ η :=
  TL.act hF (by intro c; simp) fun a w hk hh => by
    subst he
    have hb := (hh.own (b, .cells cs e (0, 0)) (by simp)).1
    have hcs : v.cells = #[v] := by cases v <;> simp_all [Value.oneCell', Value.cells]
    refine ⟨_, _, ?_, hh.turn (.cells (cs.setIfInBounds o v) e (0, 0)), h⟩
    simp only [execOp, hk.ev hx, hk.ev hy, Instr.storeAt, Instr.sureAddr, storeVar, hcs, Sem.run_bind, Sem.run_pure, Result.andThen_ok, run_sizeOf (z := z) (sz := 1) (bt := bt)]
    simp only [List.size_toArray, List.length_cons, List.length_nil, Nat.zero_add, ne_eq, not_true_eq_false, if_false]
    rw [run_storeCells [v] cs o 0 w hb (by simp; omega) (by simp [hv])]
    simp

/-- A store of several cells. -/
theorem TL.storeA (hF : Open F) {t : TypeId} {z : Value} {sz bt : Nat} [Inf P t z sz bt] {x y : Operand} {b o : Nat} {vs : List Value} {pre post : Heap} {cs : Array Value} {e : TypeId} (hx : ev σ x = some (.pointer (some ⟨b, o, none⟩))) (hy : ev σ y = some (.agg vs.toArray))
    (hl : vs.length = sz) (hv : ∀ v ∈ vs, v.oneCell' = true) (he : η = pre ++ [(b, .cells cs e (0, 0))] :: post) (ho : o + sz ≤ cs.size) (h : TL F P S w0 n ops Q rest ds σ (pre ++ [(b, .cells (vs.zipIdx.foldl (fun cs (c, j) => cs.setIfInBounds (o + j) c) cs) e (0, 0))] :: post)) :
    TL F P S w0 n ops Q (⟨none, .store t x y, ty, pos, af, none⟩ :: rest) ds σ η :=
  TL.act hF (by intro c; simp) fun a w hk hh => by
    subst he
    have hb := (hh.own (b, .cells cs e (0, 0)) (by simp)).1
    refine ⟨_, _, ?_, hh.turn (.cells (vs.zipIdx.foldl (fun cs (c, j) => cs.setIfInBounds (o + j) c) cs) e (0, 0)), h⟩
    simp only [execOp, hk.ev hx, hk.ev hy, Instr.storeAt, Instr.sureAddr, storeVar, Value.cells, Sem.run_bind, Sem.run_pure, Result.andThen_ok, run_sizeOf (z := z) (sz := sz) (bt := bt)]
    simp only [List.size_toArray, hl, ne_eq, not_true_eq_false, if_false]
    rw [run_storeCells vs cs o 0 w hb (by simp; omega) hv]
    simp

/-- A store of one cell, by the place of its block among the owned ones. -/
theorem TL.storeI (hF : Open F) {t : TypeId} {z : Value} {bt : Nat} [Inf P t z 1 bt] {x y : Operand} {b o : Nat} {v : Value} (i : Nat) {cs : Array Value} {e : TypeId} (hx : ev σ x = some (.pointer (some ⟨b, o, none⟩))) (hy : ev σ y = some v)
    (hi : η[i]? = some [(b, .cells cs e (0, 0))]) (hv : v.oneCell' = true) (ho : o < cs.size) (h : TL F P S w0 n ops Q rest ds σ (η.set i [(b, .cells (cs.setIfInBounds o v) e (0, 0))])) :
    TL F P S w0 n ops Q (⟨none, .store t x y, ty, pos, af, none⟩ :: rest) ds σ η := by
  obtain ⟨hlt, he⟩ := List.getElem?_eq_some_iff.1 hi
  refine TL.store hF (z := z) (bt := bt) hx hy hv (pre := η.take i) (post := η.drop (i + 1)) (cs := cs) (e := e) ?_ ho ?_
  · rw [← he, List.getElem_cons_drop, List.take_append_drop]
  · rwa [List.set_eq_take_append_cons_drop, if_pos hlt] at h
theorem TL.storeAI (hF : Open F) {t : TypeId} {z : Value} {sz bt : Nat} [Inf P t z sz bt] {x y : Operand} {b o : Nat} (vs : List Value) (i : Nat) {cs : Array Value} {e : TypeId} (hx : ev σ x = some (.pointer (some ⟨b, o, none⟩))) (hy : ev σ y = some (.agg vs.toArray))
    (hi : η[i]? = some [(b, .cells cs e (0, 0))]) (hl : vs.length = sz) (hv : ∀ v ∈ vs, v.oneCell' = true) (ho : o + sz ≤ cs.size) (h : TL F P S w0 n ops Q rest ds σ (η.set i [(b, .cells (vs.zipIdx.foldl (fun cs (c, j) => cs.setIfInBounds (o + j) c) cs) e (0, 0))])) :
    TL F P S w0 n ops Q (⟨none, .store t x y, ty, pos, af, none⟩ :: rest) ds σ η := by
  obtain ⟨hlt, he⟩ := List.getElem?_eq_some_iff.1 hi
  refine TL.storeA hF (z := z) (bt := bt) hx hy hl hv (pre := η.take i) (post := η.drop (i + 1)) (cs := cs) (e := e) ?_ ho ?_
  · rw [← he, List.getElem_cons_drop, List.take_append_drop]
  · rwa [List.set_eq_take_append_cons_drop, if_pos hlt] at h

/-- A new variable. -/
theorem TL.alloc (hF : Open F) {e : TypeId} {z : Value} {sz bt : Nat} [Inf P e z sz bt] (hn : Nat.blt d n = true)
    (h : ∀ b, TL F P S w0 n ops Q rest ds ((d, .pointer (some ⟨b, 0, none⟩)) :: σ) ([(b, .cells z.cells e (0, 0))] :: η)) : TL F P S w0 n ops Q (⟨some d, .alloc e, ty, pos, af, none⟩ :: rest) ds σ η :=
  TL.val hF (by intro c; simp) hn fun a w hk hh => ⟨_, _, _, by
    simp [execOp, Instr.alloc, run_zeroValue (z := z) (sz := sz) (bt := bt), newVar, newRow], hh.alloc _, h _⟩
theorem TL.box (hF : Open F) {e : TypeId} {x : Operand} {v : Value} (hx : ev σ x = some v) (hn : Nat.blt d n = true)
    (h : ∀ b, TL F P S w0 n ops Q rest ds ((d, .pointer (some ⟨b, 0, none⟩)) :: σ) ([(b, .cells v.cells e (0, 0))] :: η)) : TL F P S w0 n ops Q (⟨some d, .box e x, ty, pos, af, none⟩ :: rest) ds σ η :=
  TL.val hF (by intro c; simp) hn fun a w hk hh => ⟨_, _, _, by
    simp [execOp, hk.ev hx, Instr.box, newVar, newRow], hh.alloc _, h _⟩
theorem TL.makeMap (hF : Open F) {t : TypeId} (hn : Nat.blt d n = true)
    (h : ∀ b, TL F P S w0 n ops Q rest ds ((d, .map (some b)) :: σ) ([(b, .map #[] 0)] :: η)) : TL F P S w0 n ops Q (⟨some d, .makeMap t none, ty, pos, af, none⟩ :: rest) ds σ η :=
  TL.val hF (by intro c; simp) hn fun a w hk hh => ⟨_, _, _, by
    simp [execOp, Instr.makeMap], hh.alloc _, h _⟩
theorem TL.fieldAddr (hF : Open F) {s : TypeId} {f off : Nat} [hfd : FdA P s f off] {x : Operand} {b o : Nat} (hx : ev σ x = some (.pointer (some ⟨b, o, none⟩))) (hn : Nat.blt d n = true)
    (h : TL F P S w0 n ops Q rest ds ((d, .pointer (some ⟨b, o + off, none⟩)) :: σ) η) : TL F P S w0 n ops Q (⟨some d, .fieldAddr s x f, ty, pos, af, none⟩ :: rest) ds σ η :=
  TL.pure hF (by intro c; simp) hn (fun a w hk _ => by simp [execOp, hk.ev hx, hfd.eq]) h
theorem TL.len (hF : Open F) {t e : TypeId} [Und P t (.slice e)] {x : Operand} {a : Option Addr} {l c : Nat} (hx : ev σ x = some (.slice a l c)) (hn : Nat.blt d n = true)
    (h : TL F P S w0 n ops Q rest ds ((d, .int .i64 (l : Int)) :: σ) η) : TL F P S w0 n ops Q (⟨some d, .call ⟨.builtin .len, #[x], #[t]⟩, ty, pos, af, none⟩ :: rest) ds σ η :=
  TL.pure hF (by intro c; simp) hn (fun a w hk _ => by
    simp [execOp, resolve, invoke, builtin, Builtin.len_, hk.ev hx, run_underlying (t := t) (d := .slice e), goInt]) h
/-- The address of an element. -/
def sAt (a : Option Addr) (k : Nat) : Addr := ⟨(a.getD default).block, (a.getD default).off + k, none⟩
theorem TL.indexAddr (hF : Open F) {t e : TypeId} [Und P t (.slice e)] {z : Value} {sz bt : Nat} [Inf P e z sz bt] {x y : Operand} {a : Option Addr} {l c : Nat} {k : IntKind} {i : Int} (hx : ev σ x = some (.slice a l c)) (hy : ev σ y = some (.int k i))
    (ha : ∃ ad, a = some ad ∧ ad.spot = none) (h0 : 0 ≤ i) (hl : i < l) (hn : Nat.blt d n = true)
    (h : TL F P S w0 n ops Q rest ds ((d, .pointer (some (sAt a (i.toNat * sz)))) :: σ) η) : TL F P S w0 n ops Q (⟨some d, .indexAddr t x y, ty, pos, af, none⟩ :: rest) ds σ η := by
  obtain ⟨ad, rfl, hsp⟩ := ha
  refine TL.pure hF (by intro c; simp) hn (fun a w hk _ => ?_) h
  have hadd : ad.add (i.toNat * sz) = sAt (some ad) (i.toNat * sz) := by
    obtain ⟨b, o, s⟩ := ad
    simp only at hsp
    subst hsp
    unfold Addr.add sAt; split
    · rename_i h; simp [h]
    · rfl
  simp [execOp, hk.ev hx, hk.ev hy, Instr.indexAt, asIntOf, run_underlying (t := t) (d := .slice e), run_sizeOf (t := e) (z := z) (sz := sz) (bt := bt), h0, hl, hadd]

/-! Functions -/
/-- A function's contract: it returns. -/
def Rt (P : Program) (g : FuncId) (args : Array Value) (S : Nat → Prop) (w0 : World) (η : Heap) (R : Value → Heap → Prop) : Prop :=
  ∀ w, Hp S w0 η w → Calls P g args w fun e w' => ∃ v η', e = .returned v ∧ Hp S w0 η' w' ∧ R v η'
/-- It returns, or panics. -/
def RtE (P : Program) (g : FuncId) (args : Array Value) (S : Nat → Prop) (w0 : World) (η : Heap) (R : Value → Heap → Prop) (E : List PanicEntry → Heap → Prop) : Prop :=
  ∀ w, Hp S w0 η w → Calls P g args w fun e w' => (∃ v η', e = .returned v ∧ Hp S w0 η' w' ∧ R v η') ∨ (∃ ch η', e = .panicked ch ∧ Hp S w0 η' w' ∧ E ch η')

theorem Rt.mono {g : FuncId} {args : Array Value} {R R' : Value → Heap → Prop} (h : Rt P g args S w0 η R) (hr : ∀ v η', R v η' → R' v η') : Rt P g args S w0 η R' :=
  fun w hh => (h w hh).mono fun e w' ⟨v, η', h1, h2, h3⟩ => ⟨v, η', h1, h2, hr _ _ h3⟩
theorem Rt.toE {g : FuncId} {args : Array Value} {R : Value → Heap → Prop} {E : List PanicEntry → Heap → Prop} (h : Rt P g args S w0 η R) : RtE P g args S w0 η R E :=
  fun w hh => (h w hh).mono fun e w' ⟨v, η', h1, h2, h3⟩ => .inl ⟨v, η', h1, h2, h3⟩
theorem RtE.mono {g : FuncId} {args : Array Value} {R R' : Value → Heap → Prop} {E E' : List PanicEntry → Heap → Prop} (h : RtE P g args S w0 η R E) (hr : ∀ v η', R v η' → R' v η') (he : ∀ v η', E v η' → E' v η') : RtE P g args S w0 η R' E' :=
  fun w hh => (h w hh).mono fun e w' hx => hx.imp (fun ⟨v, η', h1, h2, h3⟩ => ⟨v, η', h1, h2, hr _ _ h3⟩) (fun ⟨v, η', h1, h2, h3⟩ => ⟨v, η', h1, h2, he _ _ h3⟩)

theorem callsIn_open {F : Fence} (hF : Open F) {m : Nat} {f : FuncId} {args : Array Value} {R : Ending → World → Prop} (h : Calls P f args w R) : CallsIn F m P f args w R := by
  have hI : ∀ mm, Machine.fenced P F mm := fun mm g _ => ⟨fun h => (by rw [hF.alive] at h; cases h), .inl (hF.fn _), fun _ _ => hF.fn _, fun _ h => (by rw [hF.depth] at h; cases h)⟩
  refine ⟨hF.fn f, fun cs _ => ?_⟩
  obtain ⟨e, w', fr, r, s, x⟩ := h cs
  refine ⟨e, w', fr, r, ?_, x⟩
  cases e with
  | returned v => exact (StepsIn.of_steps s).mono fun mm _ => hI mm
  | panicked ch => exact (StepsIn.of_steps s).mono fun mm _ => hI mm
  | outgrown => exact s

/-- The function that a call enters, and its arguments. -/
def callOf (σ : Env) (f : Operand) (args : Array Operand) : Option (FuncId × List Value) :=
  match ev σ f, evs σ args.toList with
  | some (.func (.func g) fst cap), some vs => some (g, fst.toList ++ vs ++ cap.toList)
  | _, _ => none
theorem callOf_spec {f : Operand} {args : Array Operand} {g : FuncId} {al : List Value} (h : callOf σ f args = some (g, al)) :
    ∃ fst cap vs, ev σ f = some (.func (.func g) fst cap) ∧ evs σ args.toList = some vs ∧ al.toArray = fst ++ vs.toArray ++ cap := by
  unfold callOf at h
  split at h
  · rename_i g' fst cap vs h1 h2
    simp at h
    obtain ⟨rfl, rfl⟩ := h
    exact ⟨fst, cap, vs, h1, h2, by simp⟩
  · cases h

theorem TL.callG (hF : Open F) {dst : Option Nat} {f : Operand} {args : Array Operand} {ats : Array TypeId} {g : FuncId} {al : List Value} [Ent P g] {R : Value → Heap → Prop} {E : List PanicEntry → Heap → Prop}
    (hc : RtE P g al.toArray S w0 η R E) (ha : callOf σ f args = some (g, al)) (h : ∀ v η', R v η' → ∀ a w, Kn n ds σ a → Hp S w0 η' w → wpListIn F 0 P ops Q rest (a.put dst v) w) (he : ∀ ch η', E ch η' → TQ S w0 n (Q (.panic ch)) ds σ η') :
    TL F P S w0 n ops Q (⟨dst, .call ⟨.value f, args, ats⟩, ty, pos, af, none⟩ :: rest) ds σ η := TL.op hF rfl (by intro c; simp) fun a w hk hh => by
  obtain ⟨fst, cap, vs, h1, h2, h3⟩ := callOf_spec ha
  simp only [execOp, resolve, hk.ev h1, hk.evs h2, Sem.run_bind, Deferred.ofValue, Sem.run_pure, Result.andThen_ok, invoke, Ent.eq, Oper.uponIn]
  refine ⟨fun h => (by rw [hF.depth] at h; cases h), ?_⟩
  rw [← h3]
  refine callsIn_open hF ((hc w hh).mono ?_)
  rintro e w' (⟨v, η', rfl, hh', hr⟩ | ⟨ch, η', rfl, hh', hr⟩)
  · exact h v η' hr _ _ hk hh'
  · exact he ch η' hr _ _ hk hh'
/-- A call of a function value that the walk knows. -/
theorem TL.callE (hF : Open F) {f : Operand} {args : Array Operand} {ats : Array TypeId} {g : FuncId} {al : List Value} [Ent P g] {R : Value → Heap → Prop} {E : List PanicEntry → Heap → Prop}
    (hc : RtE P g al.toArray S w0 η R E) (ha : callOf σ f args = some (g, al)) (hn : Nat.blt d n = true) (h : ∀ v η', R v η' → TL F P S w0 n ops Q rest ds ((d, v) :: σ) η') (he : ∀ ch η', E ch η' → TQ S w0 n (Q (.panic ch)) ds σ η') :
    TL F P S w0 n ops Q (⟨some d, .call ⟨.value f, args, ats⟩, ty, pos, af, none⟩ :: rest) ds σ η :=
  TL.callG hF hc ha (fun v η' hr a w hk hh => h v η' hr _ _ (hk.put (Nat.le_of_ble_eq_true hn) v) hh) he
theorem TL.call (hF : Open F) {f : Operand} {args : Array Operand} {ats : Array TypeId} {g : FuncId} {al : List Value} [Ent P g] {R : Value → Heap → Prop}
    (hc : Rt P g al.toArray S w0 η R) (ha : callOf σ f args = some (g, al)) (hn : Nat.blt d n = true) (h : ∀ v η', R v η' → TL F P S w0 n ops Q rest ds ((d, v) :: σ) η') :
    TL F P S w0 n ops Q (⟨some d, .call ⟨.value f, args, ats⟩, ty, pos, af, none⟩ :: rest) ds σ η :=
  TL.callE hF (hc.toE (E := fun _ _ => False)) ha hn h (fun _ _ h => h.elim)
theorem TL.callNE (hF : Open F) {f : Operand} {args : Array Operand} {ats : Array TypeId} {g : FuncId} {al : List Value} [Ent P g] {R : Value → Heap → Prop} {E : List PanicEntry → Heap → Prop}
    (hc : RtE P g al.toArray S w0 η R E) (ha : callOf σ f args = some (g, al)) (h : ∀ v η', R v η' → TL F P S w0 n ops Q rest ds σ η') (he : ∀ ch η', E ch η' → TQ S w0 n (Q (.panic ch)) ds σ η') :
    TL F P S w0 n ops Q (⟨none, .call ⟨.value f, args, ats⟩, ty, pos, af, none⟩ :: rest) ds σ η :=
  TL.callG hF hc ha (fun v η' hr a w hk hh => h v η' hr _ _ hk hh) he
theorem TL.callN (hF : Open F) {f : Operand} {args : Array Operand} {ats : Array TypeId} {g : FuncId} {al : List Value} [Ent P g] {R : Value → Heap → Prop}
    (hc : Rt P g al.toArray S w0 η R) (ha : callOf σ f args = some (g, al)) (h : ∀ v η', R v η' → TL F P S w0 n ops Q rest ds σ η') :
    TL F P S w0 n ops Q (⟨none, .call ⟨.value f, args, ats⟩, ty, pos, af, none⟩ :: rest) ds σ η :=
  TL.callNE hF (hc.toE (E := fun _ _ => False)) ha h (fun _ _ h => h.elim)

/-! The entry of a function, and its end -/
def envOf (args : List Value) : Env := args.zipIdx.map fun (v, i) => (i, v)
theorem lk_envOf : ∀ (args : List Value) (k t : Nat) (v : Value), lk ((args.zipIdx k).map fun (v, i) => (i, v)) t = some v → ∃ j, t = k + j ∧ args[j]? = some v
  | [], k, t, v, h => by simp [lk] at h
  | u :: r, k, t, v, h => by
    simp only [List.zipIdx_cons, List.map_cons] at h
    rw [lk_cons] at h
    by_cases hk : k = t
    · rw [if_pos hk] at h
      exact ⟨0, by omega, by simpa using h⟩
    · rw [if_neg hk] at h
      obtain ⟨j, h1, h2⟩ := lk_envOf r (k + 1) t v h
      exact ⟨j + 1, by omega, by simpa using h2⟩

def post (R : Value → Heap → Prop) (S : Nat → Prop) (w0 : World) : Ending → World → Prop := fun e w' => ∃ v η', e = .returned v ∧ Hp S w0 η' w' ∧ R v η'
def postE (R : Value → Heap → Prop) (E : List PanicEntry → Heap → Prop) (S : Nat → Prop) (w0 : World) : Ending → World → Prop :=
  fun e w' => (∃ v η', e = .returned v ∧ Hp S w0 η' w' ∧ R v η') ∨ (∃ ch η', e = .panicked ch ∧ Hp S w0 η' w' ∧ E ch η')

theorem kn_start {args : List Value} {m : Nat} (hm : args.length ≤ m) : Kn m [] (envOf args) { tmps := args.toArray ++ Array.replicate (m - args.toArray.size) undef, defers := [] } := by
  refine ⟨by simp; omega, rfl, fun t v h => ?_⟩
  obtain ⟨j, h1, h2⟩ := lk_envOf args 0 t v h
  have hj : j < args.length := (List.getElem?_eq_some_iff.1 h2).1
  rw [Array.getElem?_append_left (by simp; omega)]
  simpa [h1] using h2

theorem Rt.of {g : FuncId} {fn : Func} {c : Code} {args : List Value} {R : Value → Heap → Prop} (hf : P.funcs[g]? = some fn) (hb : fn.body = some c) (hm : Nat.ble args.length fn.ntmps = true)
    (h : T Fence.wide P S w0 fn.ntmps (bodyPost P fn (post R S w0)) c [] (envOf args) η) : Rt P g args.toArray S w0 η R := fun w hh =>
  calls_of_wp hf hb (wpIn_wide.1 (h _ w (kn_start (Nat.le_of_ble_eq_true hm)) hh))
theorem RtE.of {g : FuncId} {fn : Func} {c : Code} {args : List Value} {R : Value → Heap → Prop} {E : List PanicEntry → Heap → Prop} (hf : P.funcs[g]? = some fn) (hb : fn.body = some c) (hm : Nat.ble args.length fn.ntmps = true)
    (h : T Fence.wide P S w0 fn.ntmps (bodyPost P fn (postE R E S w0)) c [] (envOf args) η) : RtE P g args.toArray S w0 η R E := fun w hh =>
  calls_of_wp hf hb (wpIn_wide.1 (h _ w (kn_start (Nat.le_of_ble_eq_true hm)) hh))

theorem results_run {fn : Func} {ts : List Nat} {vs : List Value} (hr : fn.results = (ts.map ResultVar.tmp).toArray) {a : Act} (hk : Kn n ds σ a) (hv : ts.map (lk σ) = vs.map some) (w : World) :
    (results fn a.tmps).run P w = .ok (if h : vs.toArray.size = 1 then vs.toArray[0] else .tuple vs.toArray) w := by
  have key : ∀ (f : ResultVar → Sem Value), (∀ t, f (.tmp t) = pure (a.tmps.getD t undef)) → ∀ (ts : List Nat) (vs : List Value), ts.map (lk σ) = vs.map some → ((ts.map ResultVar.tmp).mapM f).run P w = .ok vs w := by
    intro f hf ts
    induction ts with
    | nil => intro vs hv; cases vs <;> simp_all
    | cons t ts ih =>
      intro vs hv
      cases vs with
      | nil => simp at hv
      | cons v vs =>
        simp only [List.map_cons, List.cons.injEq] at hv
        have h1 := hk.slot _ _ hv.1
        have h2 := ih vs hv.2
        simp only [List.map_cons, List.mapM_cons, Sem.run_bind, hf, Sem.run_pure, Result.andThen_ok, h2]
        simp [Array.getD_eq_getD_getElem?, h1]
  unfold results
  rw [hr, Array.mapM_eq_mapM_toList]
  simp only [Sem.run_bind, Sem.run_map]
  rw [key _ (fun t => rfl) ts vs hv]
  simp only [Result.andThen_ok, Sem.run_pure]

def lks (σ : Env) : List Nat → Option (List Value)
  | [] => some []
  | t :: r => match lk σ t, lks σ r with
    | some v, some vs => some (v :: vs)
    | _, _ => none
theorem lks_map {σ : Env} : ∀ {ts : List Nat} {vs : List Value}, lks σ ts = some vs → ts.map (lk σ) = vs.map some
  | [], vs, h => by simp [lks] at h; simp [h]
  | t :: r, vs, h => by
    unfold lks at h
    cases h1 : lk σ t with
    | none => simp [h1] at h
    | some v =>
      cases h2 : lks σ r with
      | none => simp [h1, h2] at h
      | some us => simp [h1, h2] at h; subst h; simp [h1, lks_map h2]
def retVal : List Value → Value
  | [u] => u
  | vs => .tuple vs.toArray
theorem retVal_eq (vs : List Value) : (if h : vs.toArray.size = 1 then vs.toArray[0] else .tuple vs.toArray) = retVal vs := by
  match vs with
  | [] => simp [retVal]
  | [u] => simp [retVal]
  | u1 :: u2 :: us => simp [retVal]

/-- The end of a function: so many results. -/
theorem TQ.rets {fn : Func} (ts : List Nat) (vs : List Value) {v : Value} {R : Value → Heap → Prop} (hr : fn.results = (ts.map ResultVar.tmp).toArray) (hv : lks σ ts = some vs) (he : retVal vs = v) (hR : R v η) :
    TQ S w0 n (bodyPost P fn (post R S w0) .ret) [] σ η := fun a w hk hh => by
  refine ⟨hk.defers, v, ?_, v, η, rfl, hh, hR⟩
  rw [results_run hr hk (lks_map hv), retVal_eq, he]
theorem TQ.retsE {fn : Func} (ts : List Nat) (vs : List Value) {v : Value} {R : Value → Heap → Prop} {E : List PanicEntry → Heap → Prop} (hr : fn.results = (ts.map ResultVar.tmp).toArray) (hv : lks σ ts = some vs) (he : retVal vs = v) (hR : R v η) :
    TQ S w0 n (bodyPost P fn (postE R E S w0) .ret) [] σ η := fun a w hk hh => by
  refine ⟨hk.defers, v, ?_, .inl ⟨v, η, rfl, hh, hR⟩⟩
  rw [results_run hr hk (lks_map hv), retVal_eq, he]
theorem TQ.norm {fn : Func} {R : Ending → World → Prop} (h : TQ S w0 n (bodyPost P fn R .ret) ds σ η) : TQ S w0 n (bodyPost P fn R .normal) ds σ η := h
theorem TQ.panicE {fn : Func} {ch : List PanicEntry} {R : Value → Heap → Prop} {E : List PanicEntry → Heap → Prop} (hE : E ch η) : TQ S w0 n (bodyPost P fn (postE R E S w0) (.panic ch)) [] σ η :=
  fun a w hk hh => ⟨hk.defers, .inr ⟨ch, η, rfl, hh, hE⟩⟩


/-! Owned blocks that are given up -/
theorem TQ.pop {K : Act → World → Prop} {s : Seg} (h : TQ S w0 n K ds σ η) : TQ S w0 n K ds σ (s :: η) := fun a w hk hh => h a w hk (hh.seg (List.sublist_cons_self _ _))
theorem TQ.hsub {K : Act → World → Prop} (η' : Heap) (hs : η'.Sublist η) (h : TQ S w0 n K ds σ η') : TQ S w0 n K ds σ η := fun a w hk hh => h a w hk (hh.seg hs)
theorem T.hsub {c : Code} (η' : Heap) (hs : η'.Sublist η) (h : T F P S w0 n Q c ds σ η') : T F P S w0 n Q c ds σ η := fun a w hk hh => h a w hk (hh.seg hs)
theorem TL.hsub {l : List Oper} (η' : Heap) (hs : η'.Sublist η) (h : TL F P S w0 n ops Q l ds σ η') : TL F P S w0 n ops Q l ds σ η := fun a w hk hh => h a w hk (hh.seg hs)
end
end Go.Sl
