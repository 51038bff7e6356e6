/- Blocks that are from now on only read; what arguments hold; the frame of a law. -/
import Derived.Test.YtdehpaikapbckaaBase14
import Derived.ProofKit
import Derived.Deep.Slices
namespace Go.Sl
section
variable {F : Fence} {P : Program} {S : Nat → Prop} {w0 w : World} {n : Nat} {Q : Exit → Act → World → Prop} {ds : List Deferred} {σ : Env} {η : Heap} {ops : Array Oper}
/-- From one view of memory to the next one, in which some owned blocks are only read. -/
structure Frz (S S' : Nat → Prop) (w0 w1 : World) (ηr : Heap) : Prop where
  back : ∀ η' w', Hp S' w1 η' w' → Hp S w0 (ηr ++ η') w'
  get : ∀ a v, At S w0 ηr a v → At S' w1 [] a v

theorem frz_mk {ηr : Heap} (hh : Hp S w0 (ηr ++ η) w) : Frz S (fun k => S k ∨ k ∈ ηr.flatten.map (·.1)) w0 w ηr ∧ Hp (fun k => S k ∨ k ∈ ηr.flatten.map (·.1)) w η w := by
  have hon := hh.once
  rw [List.flatten_append, List.map_append, List.nodup_append] at hon
  obtain ⟨n1, n2, n3⟩ := hon
  refine ⟨⟨fun η' w' h => ?_, fun a v h => ?_⟩, ?_⟩
  · refine ⟨h.os.trans hh.os, h.tape.trans hh.tape, h.output.trans hh.output, Nat.le_trans hh.size h.size, fun k hk => ⟨(hh.same k hk).1, ((h.same k (.inl hk)).2).trans (hh.same k hk).2⟩, fun p hp => ?_, ?_⟩
    · rw [List.flatten_append, List.mem_append] at hp
      rcases hp with hp | hp
      · have h1 := hh.own p (by rw [List.flatten_append, List.mem_append]; exact .inl hp)
        exact ⟨((h.same p.1 (.inr (List.mem_map.2 ⟨p, hp, rfl⟩))).2).trans h1.1, h1.2⟩
      · have h1 := h.own p hp
        exact ⟨h1.1, fun hs => h1.2 (.inl hs)⟩
    · rw [List.flatten_append, List.map_append, List.nodup_append]
      refine ⟨n1, h.once, fun a ha b hb hab => ?_⟩
      subst hab
      obtain ⟨p, hp, rfl⟩ := List.mem_map.1 hb
      exact (h.own p hp).2 (.inr ha)
  · cases h with
    | rd h hc =>
      refine .rd (.inl h) ?_
      have := (hh.same _ h).2
      simp only [World.cell?, this] at hc ⊢
      exact hc
    | own seg hs cs e fz hp hc hsp =>
      have hm : (a.block, Obj.cells cs e fz) ∈ ηr.flatten := List.mem_flatten.2 ⟨seg, hs, hp⟩
      have h1 := (hh.own _ (by rw [List.flatten_append, List.mem_append]; exact .inl hm)).1
      refine .rd (.inr (List.mem_map.2 ⟨_, hm, rfl⟩)) ?_
      simp only at h1
      simp [World.cell?, h1, hsp, hc]
  · refine ⟨rfl, rfl, rfl, Nat.le_refl _, fun k hk => ⟨?_, rfl⟩, fun p hp => ⟨(hh.own p (by rw [List.flatten_append, List.mem_append]; exact .inr hp)).1, ?_⟩, n2⟩
    · rcases hk with hk | hk
      · exact Nat.lt_of_lt_of_le (hh.same k hk).1 hh.size
      · obtain ⟨p, hp, rfl⟩ := List.mem_map.1 hk
        exact hh.lt (by rw [List.flatten_append, List.mem_append]; exact .inl hp)
    · rintro (hs | hs)
      · exact (hh.own p (by rw [List.flatten_append, List.mem_append]; exact .inr hp)).2 hs
      · exact n3 _ hs _ (List.mem_map.2 ⟨p, hp, rfl⟩) rfl
/-- From here on the blocks of ηr are only read. -/
theorem T.freeze {c : Code} (ηr : Heap) {η2 : Heap} (he : η = ηr ++ η2) (h : ∀ S' w1, Frz S S' w0 w1 ηr → T F P S' w1 n Q c ds σ η2) : T F P S w0 n Q c ds σ η := fun a w hk hh => by
  subst he
  obtain ⟨hz, h2⟩ := frz_mk hh
  exact h _ _ hz a w hk h2
theorem TL.freeze {l : List Oper} (ηr : Heap) {η2 : Heap} (he : η = ηr ++ η2) (h : ∀ S' w1, Frz S S' w0 w1 ηr → TL F P S' w1 n ops Q l ds σ η2) : TL F P S w0 n ops Q l ds σ η := fun a w hk hh => by
  subst he
  obtain ⟨hz, h2⟩ := frz_mk hh
  exact h _ _ hz a w hk h2
theorem Frz.old {S' : Nat → Prop} {w1 : World} {ηr : Heap} (hz : Frz S S' w0 w1 ηr) {a : Addr} {v : Value} (h : At S w0 [] a v) : At S' w1 [] a v := hz.get a v (h.up (by simp))
theorem Row.frz {S' : Nat → Prop} {w1 : World} {ηr : Heap} {a : Option Addr} {cs : List Value} (h : Row S w0 ηr a cs) (hz : Frz S S' w0 w1 ηr) : Row S' w1 [] a cs := ⟨h.ad, fun i v hi => hz.get _ _ (h.cell i v hi)⟩
theorem Row.old {S' : Nat → Prop} {w1 : World} {ηr : Heap} {a : Option Addr} {cs : List Value} (h : Row S w0 [] a cs) (hz : Frz S S' w0 w1 ηr) : Row S' w1 [] a cs := ⟨h.ad, fun i v hi => hz.old (h.cell i v hi)⟩
/-- The view at the start of a function, and how one comes back to it. -/
def Back (S S' : Nat → Prop) (w0 w1 : World) : Prop := ∀ η' w', Hp S' w1 η' w' → ∃ η2, Hp S w0 η2 w'
theorem Back.refl (S : Nat → Prop) (w0 : World) : Back S S w0 w0 := fun η' _ h => ⟨η', h⟩
theorem Back.frz {S' S2 : Nat → Prop} {w1 w2 : World} {ηr : Heap} (h : Back S S' w0 w1) (hz : Frz S' S2 w1 w2 ηr) : Back S S2 w0 w2 := fun _ _ h2 => h _ _ (hz.back _ _ h2)
/-- The end of a function whose result says nothing of memory. -/
theorem TQ.retsF {fn : Func} {S' : Nat → Prop} {w1 : World} (ts : List Nat) (vs : List Value) {v : Value} {R : Value → Heap → Prop} (hb : Back S S' w0 w1) (hr : fn.results = (ts.map ResultVar.tmp).toArray) (hv : lks σ ts = some vs) (he : retVal vs = v) (hR : ∀ η, R v η) :
    TQ S' w1 n (bodyPost P fn (post R S w0) .ret) [] σ η := fun a w hk hh => by
  obtain ⟨η2, h2⟩ := hb _ _ hh
  refine ⟨hk.defers, v, ?_, v, η2, rfl, h2, hR _⟩
  rw [results_run hr hk (lks_map hv), retVal_eq, he]
theorem TQ.retLF {fn : Func} {S' : Nat → Prop} {w1 : World} (ts : List Nat) (vs : List Value) {v : Value} {R : Value → Heap → Prop} (hb : Back S S' w0 w1) (hr : fn.results = (ts.map ResultVar.tmp).toArray) (hv : lks σ ts = some vs) (he : retVal vs = v) (hR : ∀ η, R v η) :
    TQ S' w1 n (bodyPostL P fn (post R S w0) .ret) [] σ η := fun a w hk hh => by
  show Lv P fn a.tmps (post R S w0) a.defers .returning w
  rw [hk.defers]
  obtain ⟨η2, h2⟩ := hb _ _ hh
  exact ⟨v, by rw [results_run hr hk (lks_map hv), retVal_eq, he], v, η2, rfl, h2, hR _⟩
end

/-! What arguments hold -/
section
open Go.ChangeShapes Go.WideShapes Go.Deep Go.RowKit
variable {H : Type} {enc : TypeId × Value → H} {P : Program} {W : World}
abbrev Old (W : World) : Nat → Prop := (· < W.heap.size)
theorem cell_lt {a : Addr} {v : Value} (h : W.cell? a = some v) : a.block < W.heap.size ∧ a.spot = none := by
  unfold World.cell? at h
  split at h
  · rename_i c e fz hb
    refine ⟨(Array.getElem?_eq_some_iff.1 hb).1, ?_⟩
    cases hs : a.spot with
    | none => rfl
    | some x => simp [hs] at h
  · cases h
theorem add_spot (a : Addr) (i : Nat) : (a.add i).spot = none → a.spot = none ∨ 0 < i := by
  intro h
  unfold Addr.add at h
  split at h
  · exact .inl h
  · rename_i hi; exact .inr (by omega)
/-- A slice that is read: its cells, and what each element reads as. -/
theorem slice_read {t e : TypeId} (ht : P.underlying t = some (.slice e)) (hc : 0 < P.cellsOf e) {fuel : Nat} {v : Value} {x : DataW H × List MemPlace} (h : DataW.trod enc P W 0 (fun _ => true) true fuel t [v] = some x) :
    ∃ (a : Option Addr) (len cap n : Nat) (cs : List Value), v = .slice a len cap ∧ len ≤ cap ∧ cap ≤ maxLen ∧ cs.length = len * P.cellsOf e ∧ Row (Old W) W [] a cs ∧
      ∀ i, i < len → ∃ y, DataW.trod enc P W 0 (fun _ => true) true n e ((cs.drop (i * P.cellsOf e)).take (P.cellsOf e)) = some y := by
  rcases open_slice ht h with ⟨hv, _⟩ | ⟨a, len, cap, m, n, D, Pl, hcs, _, hl, hm, hmm, _, hi⟩
  · have : v = .slice none 0 0 := by simpa using hv
    subst this
    exact ⟨none, 0, 0, 0, [], rfl, Nat.le_refl _, Nat.zero_le _, by simp, ⟨fun h => by simp at h, fun i v h => by simp at h⟩, fun i hi => by omega⟩
  · have : v = .slice (some a) len cap := by simpa using hcs
    subst this
    simp only [if_true] at hmm
    have hx : ∀ i, i < len → ∃ cs', W.cells? 0 (a.add (i * P.cellsOf e)) (P.cellsOf e) = some cs' ∧ DataW.trod enc P W 0 (fun _ => true) true n e cs' = some (D i, Pl i) := fun i h => hi i (by omega)
    obtain ⟨C, hC⟩ := choose_lt (α := List Value) hx
    have hlen : ∀ i, i < len → (C i).length = P.cellsOf e := fun i h => (World.cells?_some (hC i h).1).2.1
    have hcell : ∀ i j, i < len → j < P.cellsOf e → W.cell? (a.add (i * P.cellsOf e + j)) = (C i)[j]? := fun i j h1 h2 => by
      have := (World.cells?_some (hC i h1).1).2.2 j h2
      rwa [Go.Deep.add_add] at this
    let f : Nat → List Value := fun i => if i < len then C i else List.replicate (P.cellsOf e) undef
    have hf : ∀ i, (f i).length = P.cellsOf e := fun i => by
      simp only [f]; split
      · exact hlen i (by assumption)
      · simp
    have hget : ∀ i j, i < len → j < P.cellsOf e → ((List.range len).flatMap f)[i * P.cellsOf e + j]? = (C i)[j]? := fun i j h1 h2 => by
      rw [flat_get _ f hf _ i j h2]
      simp [h1, f]
    have htot : ((List.range len).flatMap f).length = len * P.cellsOf e := by
      rw [List.length_flatMap]
      have : (List.range len).map (fun i => (f i).length) = List.replicate len (P.cellsOf e) := by
        apply List.ext_getElem
        · simp
        · intro i h1 h2; simp [hf]
      rw [this, List.sum_replicate_nat]
    have hsp : 0 < len → a.spot = none ∧ a.block < W.heap.size := fun h0 => by
      have h1 := hcell 0 0 h0 hc
      have h2 : (C 0)[0]? = some ((C 0)[0]'(by rw [hlen 0 h0]; exact hc)) := List.getElem?_eq_getElem _
      rw [h2] at h1
      have h3 := cell_lt h1
      simpa [Addr.add] using h3.symm
    have hadd : a.spot = none → ∀ k, a.add k = sAt (some a) k := fun hs k => by
      obtain ⟨b, o, s⟩ := a
      simp only at hs; subst hs
      unfold Addr.add sAt; split
      · rename_i h; simp [h]
      · rfl
    refine ⟨some a, len, cap, n, (List.range len).flatMap f, rfl, hl, hm, htot, ⟨fun h0 => ?_, fun k v hk => ?_⟩, fun i hil => ⟨(D i, Pl i), ?_⟩⟩
    · rw [htot] at h0
      exact ⟨a, rfl, (hsp (Nat.pos_of_mul_pos_right h0)).1⟩
    · have hkl := (List.getElem?_eq_some_iff.1 hk).1
      rw [htot] at hkl
      have h1 : k / P.cellsOf e < len := by rw [Nat.div_lt_iff_lt_mul hc]; exact hkl
      have h2 : k % P.cellsOf e < P.cellsOf e := Nat.mod_lt _ hc
      have h3 : k / P.cellsOf e * P.cellsOf e + k % P.cellsOf e = k := Nat.div_add_mod' k (P.cellsOf e)
      have h4 := hget _ _ h1 h2
      rw [h3, hk] at h4
      have h5 := hcell _ _ h1 h2
      rw [h3, ← h4] at h5
      obtain ⟨hs, hbl⟩ := hsp (Nat.lt_of_le_of_lt (Nat.zero_le _) h1)
      rw [hadd hs] at h5
      exact .rd hbl h5
    · have e1 : (((List.range len).flatMap f).drop (i * P.cellsOf e)).take (P.cellsOf e) = C i := by
        apply List.ext_getElem?
        intro j
        rw [List.getElem?_take]
        by_cases hj : j < P.cellsOf e
        · rw [if_pos hj, List.getElem?_drop, hget i j hil hj]
        · rw [if_neg hj, List.getElem?_eq_none (by rw [hlen i hil]; omega)]
      rw [e1]; exact (hC i hil).2
/-- A slice of integers. -/
theorem ints_read {t e : TypeId} {k : IntKind} (ht : P.underlying t = some (.slice e)) (he : P.underlying e = some (.int k)) (hc : P.cellsOf e = 1) {fuel : Nat} {v : Value} {x : DataW H × List MemPlace} (h : DataW.trod enc P W 0 (fun _ => true) true fuel t [v] = some x) :
    ∃ (a : Option Addr) (xs : List Int) (cap : Nat), v = .slice a xs.length cap ∧ xs.length ≤ maxLen ∧ Row (Old W) W [] a (xs.map (Value.int k)) ∧ ∀ i ∈ xs, (Lit.int k i).wf = true := by
  obtain ⟨a, len, cap, n, cs, rfl, hl, hm, hlen, hrow, hel⟩ := slice_read ht (by omega) h
  rw [hc] at hlen hel
  rw [Nat.mul_one] at hlen
  have hx : ∀ i, i < len → ∃ z : Int, cs[i]? = some (.int k z) ∧ (Lit.int k z).wf = true := fun i hi => by
    obtain ⟨y, hy⟩ := hel i hi
    obtain ⟨z, h1, _, h3⟩ := DataW.trod_int he hy
    refine ⟨z, ?_, h3⟩
    have : ((cs.drop (i * 1)).take 1)[0]? = some (.int k z) := by rw [h1]; rfl
    simpa using this
  obtain ⟨f, hf⟩ := choose_lt (α := Int) hx
  have e : cs = ((List.range len).map f).map (Value.int k) := by
    apply List.ext_getElem?
    intro i
    by_cases hi : i < len
    · rw [(hf i hi).1]; simp [hi]
    · rw [List.getElem?_eq_none (by omega)]; simp [hi]
  refine ⟨a, (List.range len).map f, cap, by simp, by simp; omega, by rw [← e]; exact hrow, fun z hz => ?_⟩
  obtain ⟨i, hi, rfl⟩ := List.mem_map.1 hz
  exact (hf i (by simpa using hi)).2
theorem wf_i64 {z : Int} (h : (Lit.int .i64 z).wf = true) : -9223372036854775808 ≤ z ∧ z ≤ 9223372036854775807 := by
  simp only [Lit.wf, Bool.and_eq_true, decide_eq_true_eq] at h; exact h
theorem wf_u16 {z : Int} (h : (Lit.int .u16 z).wf = true) : 0 ≤ z ∧ z ≤ 65535 := by
  simp only [Lit.wf, Bool.and_eq_true, decide_eq_true_eq] at h; exact h
theorem wf_u8 {z : Int} (h : (Lit.int .u8 z).wf = true) : 0 ≤ z ∧ z ≤ 255 := by
  simp only [Lit.wf, Bool.and_eq_true, decide_eq_true_eq] at h; exact h
theorem wf_u64 {z : Int} (h : (Lit.int .u64 z).wf = true) : 0 ≤ z ∧ z ≤ 18446744073709551615 := by
  simp only [Lit.wf, Bool.and_eq_true, decide_eq_true_eq] at h; exact h
theorem wf_u32 {z : Int} (h : (Lit.int .u32 z).wf = true) : 0 ≤ z ∧ z ≤ 4294967295 := by
  simp only [Lit.wf, Bool.and_eq_true, decide_eq_true_eq] at h; exact h

/-- A struct that is read: what its fields read as. -/
theorem struct_read {t : TypeId} {l : List (TypeId × Nat)} (hs : (match P.underlying t with | some (.struct fs) => some (fs.toList.map fun f => (f.type, f.offset)) | _ => none) = some l) {fuel : Nat} {cs : List Value} {x : DataW H × List MemPlace} (h : DataW.trod enc P W 0 (fun _ => true) true fuel t cs = some x) :
    ∃ n : Nat, cs.length = P.cellsOf t ∧ ∀ (i : Nat) (ty : TypeId) (off : Nat), l[i]? = some (ty, off) → ∃ y, DataW.trod enc P W 0 (fun _ => true) true n ty ((cs.drop off).take (P.cellsOf ty)) = some y := by
  cases hu : P.underlying t with
  | none => rw [hu] at hs; cases hs
  | some d =>
    cases d with
    | struct fs =>
      rw [hu] at hs
      simp only [Option.some.injEq] at hs
      subst hs
      obtain ⟨xs, n, _, _, hl, hxl, hf⟩ := DataW.trod_struct hu h
      refine ⟨n, hl, fun i ty off hi => ?_⟩
      rw [List.getElem?_map] at hi
      cases hfi : fs.toList[i]? with
      | none => rw [hfi] at hi; cases hi
      | some f =>
        rw [hfi] at hi
        simp only [Option.map_some, Option.some.injEq, Prod.mk.injEq] at hi
        obtain ⟨rfl, rfl⟩ := hi
        have hfi2 : fs[i]? = some f := by simpa using hfi
        have hil : i < xs.length := by rw [hxl]; exact (Array.getElem?_eq_some_iff.1 hfi2).1
        exact ⟨xs[i], by rw [hf i f hfi2]; exact List.getElem?_eq_getElem hil⟩
    | _ => rw [hu] at hs; cases hs
/-- The cells of a slice, element by element. -/
theorem list_read {α : Type} {c : Nat} {Q : α → Prop} (f : α → List Value) : ∀ {len : Nat} {cs : List Value}, cs.length = len * c → (∀ i, i < len → ∃ x, (cs.drop (i * c)).take c = f x ∧ Q x) → ∃ l : List α, l.length = len ∧ cs = l.flatMap f ∧ ∀ x ∈ l, Q x
  | 0, cs, hl, _ => ⟨[], rfl, by simpa using hl, by simp⟩
  | len + 1, cs, hl, h => by
    obtain ⟨x, hx, hq⟩ := h 0 (by omega)
    rw [Nat.add_mul, Nat.one_mul] at hl
    obtain ⟨l, h1, h2, h3⟩ := list_read (c := c) (Q := Q) (len := len) (cs := cs.drop c) f (by rw [List.length_drop]; omega) (fun i hi => by
      obtain ⟨y, hy, hqy⟩ := h (i + 1) (by omega)
      refine ⟨y, ?_, hqy⟩
      rw [List.drop_drop, ← hy, Nat.add_mul, Nat.one_mul, Nat.add_comm])
    refine ⟨x :: l, by simp [h1], ?_, fun y hy => ?_⟩
    · rw [List.flatMap_cons, ← h2, ← hx]
      simp
    · rcases List.mem_cons.1 hy with rfl | hy
      · exact hq
      · exact h3 y hy
theorem slice_form {t e : TypeId} (ht : P.underlying t = some (.slice e)) {fuel : Nat} {cs : List Value} {x : DataW H × List MemPlace} (h : DataW.trod enc P W 0 (fun _ => true) true fuel t cs = some x) : ∃ a l c, cs = [.slice a l c] := by
  rcases open_slice ht h with ⟨hv, _⟩ | ⟨a, len, cap, m, n, D, Pl, hcs, _⟩
  · exact ⟨_, _, _, hv⟩
  · exact ⟨_, _, _, hcs⟩

/-! The frame of a law: it answers true, and of what was there nothing has turned. -/
theorem calls_true {f : FuncId} {args : Array Value} (h : Rt P f args (Old W) W [] fun v _ => v = .bool true) : Calls P f args W fun e W' => e = .returned (.bool true) ∧ Below W.heap.size W W' :=
  (h W (Hp.start W)).mono fun _ _ ⟨v, _, h1, h2, h3⟩ => ⟨by rw [h1, h3], h2.below⟩
theorem trodAll_below (hl : laidOutB P = true) {W' : World} (hb : Below W.heap.size W W') : ∀ {ts : List TypeId} {vs : List Value} {ds : List (DataW H)} {ps : List MemPlace}, (∀ t ∈ ts, P.readableRec t = true ∧ t < P.types.size) → (∀ x ∈ ps, x.block < W.heap.size) →
    DataW.TrodAll enc P W 0 (fun _ => true) true ts vs ds ps → DataW.TrodAll enc P W' 0 (fun b => decide (b < W.heap.size)) true ts vs ds ps
  | [], vs, ds, ps, _, _, h => by
    obtain ⟨rfl, rfl, rfl⟩ := trodAll_nil h
    exact h
  | t :: ts, vs, ds, ps, hr, hlt, h => by
    obtain ⟨v, vs', d, ds', p, q, rfl, rfl, rfl, h1, h2⟩ := trodAll_cons h
    have ht := hr t List.mem_cons_self
    exact ⟨p, q, Below.trod hl ht.1 ht.2 h1 hb (fun x hx => hlt x (by simp [hx])), trodAll_below hl hb (fun t h => hr t (List.mem_cons_of_mem _ h)) (fun x hx => hlt x (by simp [hx])) h2, rfl⟩
theorem law_post {f : Func} {s : ChangeSpec} (hl : laidOutB P = true) (hv : s.vars = []) (bt : TypeId) (hrt : f.resultTypes = #[bt]) (hbt : P.underlying bt = some .bool) {W' : World} {args : Array Value} {ds gs : List (DataW H)} {before : List MemPlace}
    (hW : DataW.Whole enc P f.params.toList s.vars false W args.toList ds gs before) (hfn : s.fn H ds = { results := [.lit (.bool true)], args := ds }) (hr : ∀ t ∈ f.params.toList, P.readableRec t = true ∧ t < P.types.size) (hb : Below W.heap.size W W') :
    s.post enc P f false true false false W args (.bool true) W' := by
  have hlt := fun p hp => hW.lt p hp
  have hW2 := hW
  obtain ⟨p, q, h1, h2, rfl, _, _⟩ := hW
  rw [hv] at h2
  obtain ⟨rfl, rfl⟩ := trodVars_none h2
  have e : s.fn H (ds ++ []) = { results := [.lit (.bool true)], args := ds } := by rw [List.append_nil]; exact hfn
  refine ⟨ds, [], _, [], p, [], hW2, ?_, ?_, ?_, hb.frame _, fun h => by cases h⟩
  · rw [e, hrt]
    exact trodAll_mk1 (shut_bool hbt true)
  · rw [e]
    exact trodAll_below hl hb hr (fun x hx => hlt x (by simp [hx])) h1
  · rw [e, hv]; rfl
end
end Go.Sl
