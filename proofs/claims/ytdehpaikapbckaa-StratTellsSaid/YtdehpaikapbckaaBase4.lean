/- Slices: those that are read, those that are owned; append, make, slice expressions. -/
import Derived.Test.YtdehpaikapbckaaBase3
import Derived.Laws.Append
namespace Go.Sl

/-- The cells of a slice. -/
structure Row (S : Nat → Prop) (w0 : World) (η : Heap) (a : Option Addr) (cs : List Value) : Prop where
  ad : 0 < cs.length → ∃ ad, a = some ad ∧ ad.spot = none
  cell : ∀ i v, cs[i]? = some v → At S w0 η (sAt a i) v
abbrev ints (xs : List Int) : List Value := xs.map (Value.int .i64)

/-- An owned slice. -/
def OSl (e : TypeId) (sz : Nat) (v : Value) (n : Nat) (xs : List Value) (seg : Seg) : Prop :=
  xs.length = n * sz ∧ ((v = .slice none 0 0 ∧ n = 0 ∧ seg = []) ∨
    ∃ g cap cur, v = .slice (some ⟨g, 0, none⟩) n cap ∧ seg = [(g, .cells cur e (0, 0))] ∧ n ≤ cap ∧ cur.size = cap * sz ∧ cur.toList.take (n * sz) = xs)

section
variable {S : Nat → Prop} {w0 w : World} {η : Heap}

theorem Hp.sub {η' : Heap} (hh : Hp S w0 η w) (hs : ∀ p ∈ η'.flatten, p ∈ η.flatten) (hn : (η'.flatten.map (·.1)).Nodup) : Hp S w0 η' w :=
  ⟨hh.os, hh.tape, hh.output, hh.size, hh.same, fun p hp => hh.own p (hs p hp), hn⟩
theorem Hp.drew (hh : Hp S w0 η w) (k : Nat) : Hp S w0 η { w with drawn := k } := ⟨hh.os, hh.tape, hh.output, hh.size, hh.same, hh.own, hh.once⟩
theorem Hp.turnI {i b : Nat} {o : Obj} (hh : Hp S w0 η w) (hi : η[i]? = some [(b, o)]) (o' : Obj) : Hp S w0 (η.set i [(b, o')]) (putBlk w b o') := by
  obtain ⟨hlt, he⟩ := List.getElem?_eq_some_iff.1 hi
  have : η = η.take i ++ [(b, o)] :: η.drop (i + 1) := by rw [← he, List.getElem_cons_drop, List.take_append_drop]
  rw [this] at hh
  have h2 := hh.turn o'
  rwa [List.set_eq_take_append_cons_drop, if_pos hlt]
theorem flatten_set_sub {i : Nat} {s s' : Seg} (hi : η[i]? = some s) : ∃ pre post : Heap, η = pre ++ s :: post ∧ η.set i s' = pre ++ s' :: post := by
  obtain ⟨hlt, he⟩ := List.getElem?_eq_some_iff.1 hi
  refine ⟨η.take i, η.drop (i + 1), ?_, ?_⟩
  · rw [← he, List.getElem_cons_drop, List.take_append_drop]
  · rw [List.set_eq_take_append_cons_drop, if_pos hlt]
theorem nodup_set {pre post : Heap} {s : Seg} {b : Nat} {o : Obj} (h : ((([(b, o)] : Seg) :: (pre ++ s :: post)).flatten.map (·.1)).Nodup) : ((pre ++ [(b, o)] :: post).flatten.map (·.1)).Nodup := by
  have hp : ((pre ++ [(b, o)] :: post).flatten.map (·.1)).Perm (((([(b, o)] : Seg) :: (pre ++ post)).flatten).map (·.1)) := by
    refine List.Perm.map _ ?_
    simp only [List.flatten_append, List.flatten_cons, List.cons_append, List.nil_append]
    exact List.perm_middle
  rw [hp.nodup_iff]
  refine List.Nodup.sublist (List.Sublist.map _ ?_) h
  simp only [List.flatten_append, List.flatten_cons, List.cons_append, List.nil_append]
  exact List.Sublist.cons_cons _ (List.Sublist.append (List.Sublist.refl _) (List.sublist_append_right _ _))
theorem Hp.freshI {i : Nat} {s : Seg} (hh : Hp S w0 η w) (hi : η[i]? = some s) (o : Obj) : Hp S w0 (η.set i [(w.heap.size, o)]) { w with heap := w.heap.push o } := by
  obtain ⟨pre, post, he, hs⟩ := flatten_set_sub (s' := [(w.heap.size, o)]) hi
  have h2 := hh.alloc o
  rw [he] at h2
  rw [hs]
  refine h2.sub (fun p hp => ?_) (nodup_set h2.once)
  simp only [List.flatten_append, List.flatten_cons, List.mem_append] at hp ⊢
  rcases hp with h | h | h
  · exact .inr (.inl h)
  · exact .inl h
  · exact .inr (.inr (.inr h))

theorem OSl.nil (e : TypeId) (sz : Nat) : OSl e sz (.slice none 0 0) 0 [] [] := ⟨by simp, .inl ⟨rfl, rfl, rfl⟩⟩
theorem OSl.len {e : TypeId} {sz n : Nat} {v : Value} {xs : List Value} {seg : Seg} (h : OSl e sz v n xs seg) : xs.length = n * sz := h.1
theorem OSl.form {e : TypeId} {sz n : Nat} {v : Value} {xs : List Value} {seg : Seg} (h : OSl e sz v n xs seg) : ∃ a cap, v = .slice a n cap := by
  rcases h.2 with ⟨rfl, rfl, _⟩ | ⟨g, cap, cur, rfl, _⟩ <;> exact ⟨_, _, rfl⟩
theorem OSl.row {e : TypeId} {sz n : Nat} {a : Option Addr} {l cap : Nat} {xs : List Value} {seg : Seg} (h : OSl e sz (.slice a l cap) n xs seg) (hs : seg ∈ η) : Row S w0 η a xs := by
  rcases h.2 with ⟨hv, hn, _⟩ | ⟨g, cap', cur, hv, hsg, hnc, hcs, ht⟩
  · have hx : xs = [] := List.eq_nil_of_length_eq_zero (by have := h.1; rw [hn] at this; simpa using this)
    subst hx
    exact ⟨fun hl => by simp at hl, fun i v hi => by simp at hi⟩
  · simp only [Value.slice.injEq] at hv
    obtain ⟨rfl, _, _⟩ := hv
    refine ⟨fun _ => ⟨_, rfl, rfl⟩, fun i v hi => ?_⟩
    refine .own seg hs cur e (0, 0) (by rw [hsg]; simp [sAt]) ?_ rfl
    rw [← ht, List.getElem?_take] at hi
    split at hi
    · simpa [sAt] using hi
    · cases hi

/-- What an append takes. -/
def Src (S : Nat → Prop) (w0 : World) (η : Heap) (v : Value) (m : Nat) (news : List Value) : Prop := ∃ a c, v = .slice a m c ∧ Row S w0 η a news
theorem Row.src {a : Option Addr} {m c : Nat} {news : List Value} (h : Row S w0 η a news) : Src S w0 η (.slice a m c) m news := ⟨a, c, rfl, h⟩

variable {P : Program}
theorem run_firstCells {sz m c : Nat} {a : Option Addr} {news : List Value} (hr : Row S w0 η a news) (hl : news.length = m * sz) (hh : Hp S w0 η w) : (Builtin.firstCells sz m (.slice a m c)).run P w = .ok news.toArray w := by
  cases a with
  | none =>
    have : news = [] := by
      cases news with
      | nil => rfl
      | cons x r => obtain ⟨ad, h, _⟩ := hr.ad (by simp); cases h
    subst this
    simp [Builtin.firstCells]
  | some ad =>
    by_cases h0 : news = []
    · subst h0
      have : m * sz = 0 := by simpa using hl.symm
      simp [Builtin.firstCells, loadCells, this, loadCellsFrom]
    · obtain ⟨ad', h1, hsp⟩ := hr.ad (List.length_pos_iff.2 h0)
      cases h1
      simp only [Builtin.firstCells, loadCells]
      rw [run_loadCellsFrom hsp (fun i => news.getD i undef) (m * sz) 0 #[] (fun j _ h2 => ?_)]
      · congr 1
        simp only [Array.empty_append]
        congr 1
        apply List.ext_getElem?
        intro i
        rw [List.getElem?_map]
        by_cases hi : i < m * sz
        · rw [List.getElem?_range' hi]; simp [List.getD_eq_getElem?_getD, hl, hi]
        · simp [hl, hi]
      · have h3 : news[j]? = some (news.getD j undef) := by
          have : j < news.length := by omega
          simp [List.getD_eq_getElem?_getD, this]
        have h4 := (hr.cell j _ h3).cell hh
        have : ad.add j = sAt (some ad) j := by
          obtain ⟨b, o, s⟩ := ad
          simp only at hsp
          subst hsp
          unfold Addr.add sAt; split
          · rename_i h; simp [h]
          · rfl
        rw [this]; exact h4

theorem foldl_set : ∀ (vs : List Value) (cs : Array Value) (o : Nat), o + vs.length ≤ cs.size → vs.zipIdx.foldl (fun cs (c, j) => cs.setIfInBounds (o + j) c) cs = (cs.toList.take o ++ vs ++ cs.toList.drop (o + vs.length)).toArray := by
  intro vs
  induction vs with
  | nil => intro cs o h; simp
  | cons v vs ih =>
    intro cs o h
    simp only [List.length_cons] at h
    have hsh : ∀ (l : List Value) (k : Nat) (c0 : Array Value), List.foldl (fun cs (x : Value × Nat) => cs.setIfInBounds (o + x.2) x.1) c0 (l.zipIdx (k + 1)) = List.foldl (fun cs (x : Value × Nat) => cs.setIfInBounds (o + 1 + x.2) x.1) c0 (l.zipIdx k) := by
      intro l
      induction l with
      | nil => intro k c0; rfl
      | cons u l ihl => intro k c0; simp only [List.zipIdx_cons, List.foldl_cons]; rw [ihl, show o + (k + 1) = o + 1 + k from by omega]
    simp only [List.zipIdx_cons, List.foldl_cons, Nat.add_zero, Nat.zero_add]
    rw [hsh vs 0, ih _ (o + 1) (by simp; omega)]
    congr 1
    have ho : o < cs.toList.length := by simp; omega
    have e1 : (cs.toList.set o v).take (o + 1) = cs.toList.take o ++ [v] := by
      rw [List.set_eq_take_append_cons_drop, if_pos ho, List.take_append, List.length_take, Nat.min_eq_left (Nat.le_of_lt ho)]
      simp [List.take_take]
    have e2 : (cs.toList.set o v).drop (o + 1 + vs.length) = cs.toList.drop (o + (vs.length + 1)) := by
      rw [List.drop_set_of_lt (by omega)]; congr 1; omega
    simp only [Array.toList_setIfInBounds, List.length_cons, e1, e2]
    simp

theorem run_append {t ty e : TypeId} [Und P t (.slice e)] {z : Value} {sz bt : Nat} [Inf P e z sz bt] (hz : z.cells.size = sz) {i n m : Nat} {v x : Value} {xs news : List Value} {seg : Seg} (hh : Hp S w0 η w) (hi : η[i]? = some seg)
    (ho : OSl e sz v n xs seg) (hs : Src S w0 η x m news) (hl : news.length = m * sz) (h1 : ∀ u ∈ news, u.oneCell' = true) (hb : (n + m) * bt ≤ 140737488355328) (hsm : n + m ≤ 4611686018427387904) :
    ∃ v' w' seg', (Builtin.append_ #[t, t] ty #[v, x]).run P w = .ok v' w' ∧ Hp S w0 (η.set i seg') w' ∧ OSl e sz v' (n + m) (xs ++ news) seg' := by
  obtain ⟨a, c, rfl, hr⟩ := hs
  have hfc := run_firstCells (P := P) (c := c) hr hl hh
  have hlen : (xs ++ news).length = (n + m) * sz := by rw [List.length_append, ho.1, hl, Nat.add_mul]
  obtain ⟨inf, hinf, hiz, hisz, hibt⟩ := run_typeInfo (P := P) (t := e) (z := z) (sz := sz) (bt := bt)
  have grow : ∀ (base : Option Addr) (cap : Nat), v = .slice base n cap → cap < n + m → (Builtin.firstCells sz n v).run P w.drew = .ok xs.toArray w.drew →
      ∃ v' w' seg', (Builtin.append_ #[t, t] ty #[v, .slice a m c]).run P w = .ok v' w' ∧ Hp S w0 (η.set i seg') w' ∧ OSl e sz v' (n + m) (xs ++ news) seg' := by
    intro base cap hv hlt hold
    subst hv
    have hfc' : (Builtin.firstCells sz m (.slice a m c)).run P w.drew = .ok news.toArray w.drew := run_firstCells (P := P) (c := c) hr hl (hh.drew (w.drawn + 1))
    have hg := growslice_fits (old := cap) (bytes := bt) hlt hb
    have hq : (Question.appendCap (n + m) cap e).forced = false := rfl
    have hcut : ∃ k, (Question.appendCap (n + m) cap e).cut (w.tape w.drawn (.appendCap (n + m) cap e)) = n + m + k := ⟨_, rfl⟩
    obtain ⟨k, hk⟩ := hcut
    refine ⟨.slice (some ⟨w.heap.size, 0, none⟩) (n + m) (n + m + k), w.drew.alloc (.cells (xs.toArray ++ news.toArray ++ Builtin.zeroCells z.cells k) e (0, 0)), [(w.heap.size, .cells (xs.toArray ++ news.toArray ++ Builtin.zeroCells z.cells k) e (0, 0))], ?_, (hh.drew (w.drawn + 1)).freshI hi _, hlen, .inr ⟨_, _, _, rfl, rfl, by omega, ?_, ?_⟩⟩
    · have h3 : ¬ (n + m ≤ cap) := by omega
      simp only [Builtin.append_, Sem.run_bind, run_underlying (t := t) (d := .slice e), Result.andThen_ok]
      simp [run_underlying (t := t) (d := .slice e), run_sizeOf (t := e) (z := z) (sz := sz) (bt := bt), Builtin.lenOf, h3, hinf, hibt, hq, hk, hold, hfc', run_zeroValue (t := e) (z := z) (sz := sz) (bt := bt), newRow]
      rw [if_neg (by omega), if_neg (by omega)]
      simp [hinf, hold, hfc']
      congr 2
      rw [← Array.append_assoc]
      simp
    · simp [Builtin.zeroCells, ho.1, hl, hz, Nat.add_mul]
    · simp only [Array.toList_append, List.append_assoc]
      rw [← List.append_assoc, ← hlen]
      exact List.take_left
  rcases ho.2 with ⟨rfl, rfl, rfl⟩ | ⟨g, cap, cur, rfl, rfl, hnc, hcs, htk⟩
  · have hx : xs = [] := List.eq_nil_of_length_eq_zero (by simpa using ho.1)
    subst hx
    by_cases hm : m = 0
    · subst hm
      have hn : news = [] := List.eq_nil_of_length_eq_zero (by simpa using hl)
      subst hn
      refine ⟨.slice none 0 0, w, [], ?_, ?_, OSl.nil e sz⟩
      · simp [Builtin.append_, run_underlying (t := t) (d := .slice e), run_sizeOf (t := e) (z := z) (sz := sz) (bt := bt), Builtin.lenOf, hfc]
      · obtain ⟨pre, post, he, hse⟩ := flatten_set_sub (s' := ([] : Seg)) hi
        rw [hse, ← he]; exact hh
    · exact grow none 0 rfl (by omega) (by simp [Builtin.firstCells])
  · by_cases hroom : n + m ≤ cap
    · have hg := (hh.own (g, .cells cur e (0, 0)) (List.mem_flatten.2 ⟨_, List.mem_of_getElem? hi, by simp⟩)).1
      have hfit : n * sz + news.length ≤ cur.size := by rw [hl, hcs, ← Nat.add_mul]; exact Nat.mul_le_mul_right _ hroom
      refine ⟨_, _, [(g, .cells ((cur.toList.take (n * sz) ++ news ++ cur.toList.drop (n * sz + news.length)).toArray) e (0, 0))], ?_, hh.turnI hi _, hlen, .inr ⟨g, cap, _, rfl, rfl, hroom, ?_, ?_⟩⟩
      · have hadd : (⟨g, 0, none⟩ : Addr).add (n * sz) = ⟨g, n * sz, none⟩ := by unfold Addr.add; split <;> simp_all
        have hst := run_storeCells (P := P) (e := e) (b := g) news cur (n * sz) 0 w hg (by simpa using hfit) h1
        simp only [Nat.add_zero] at hst
        rw [foldl_set _ _ _ hfit] at hst
        simp [Builtin.append_, run_underlying (t := t) (d := .slice e), run_sizeOf (t := e) (z := z) (sz := sz) (bt := bt), Builtin.lenOf, hroom, hfc, hadd, hst]
      · simp only [List.size_toArray, List.length_append, List.length_take, List.length_drop, Array.length_toList]
        omega
      · rw [htk, ← hlen]
        exact List.take_left
    · refine grow (some ⟨g, 0, none⟩) cap rfl (by omega) ?_
      have hrow : Row S w0 η (some ⟨g, 0, none⟩) xs := ho.row (List.mem_of_getElem? hi)
      exact run_firstCells hrow ho.1 (hh.drew _)

end
section
variable {F : Fence} {P : Program} {S : Nat → Prop} {w0 : World} {n : Nat} {Q : Exit → Act → World → Prop} {ds : List Deferred} {σ : Env} {η : Heap} {ops : Array Oper} {rest : List Oper} {d : Nat} {ty : TypeId} {pos : String} {af : Array Edge}

/-- append, of a slice that is owned at place i. -/
theorem TL.append (hF : Open F) (i : Nat) {t e : TypeId} [Und P t (.slice e)] {z : Value} {sz bt : Nat} [Inf P e z sz bt] {x y : Operand} {k m : Nat} {v u : Value} {xs news : List Value} {seg : Seg} (hx : ev σ x = some v) (hy : ev σ y = some u)
    (hi : η[i]? = some seg) (ho : OSl e sz v k xs seg) (hs : Src S w0 η u m news) (hz : z.cells.size = sz) (hl : news.length = m * sz) (h1 : ∀ u ∈ news, u.oneCell' = true) (hb : (k + m) * bt ≤ 140737488355328) (hsm : k + m ≤ 4611686018427387904) (hn : Nat.blt d n = true)
    (h : ∀ a cap seg', OSl e sz (.slice a (k + m) cap) (k + m) (xs ++ news) seg' → TL F P S w0 n ops Q rest ds ((d, .slice a (k + m) cap) :: σ) (η.set i seg')) :
    TL F P S w0 n ops Q (⟨some d, .call ⟨.builtin .append, #[x, y], #[t, t]⟩, ty, pos, af, none⟩ :: rest) ds σ η :=
  TL.val hF (by intro c; simp) hn fun a w hk hh => by
    obtain ⟨v', w', seg', hr, hh', ho'⟩ := run_append (P := P) (t := t) (ty := ty) (e := e) (z := z) (sz := sz) (bt := bt) hz hh hi ho hs hl h1 hb hsm
    obtain ⟨a', cap, rfl⟩ := ho'.form
    exact ⟨_, w', _, by simp [execOp, resolve, invoke, builtin, hk.ev hx, hk.ev hy, hr], hh', h _ _ _ ho'⟩

/-- make of a slice whose elements are one cell each. -/
theorem TL.makeSlice (hF : Open F) {t e : TypeId} [Und P t (.slice e)] {z : Value} {bt : Nat} [Inf P e z 1 bt] {x y : Operand} {k : Nat} (hx : ev σ x = some (.int .i64 (k : Int))) (hy : ev σ y = some (.int .i64 (k : Int))) (hz : z.cells = #[z]) (hb : k * bt ≤ 281474976710656) (hk : k ≤ 4611686018427387904) (hn : Nat.blt d n = true)
    (h : ∀ b, TL F P S w0 n ops Q rest ds ((d, .slice (some ⟨b, 0, none⟩) k k) :: σ) ([(b, .cells (List.replicate k z).toArray e (0, 0))] :: η)) :
    TL F P S w0 n ops Q (⟨some d, .makeSlice t x y, ty, pos, af, none⟩ :: rest) ds σ η :=
  TL.val hF (by intro c; simp) hn fun a w hkn hh => by
    obtain ⟨inf, hinf, hiz, hisz, hibt⟩ := run_typeInfo (P := P) (t := e) (z := z) (sz := 1) (bt := bt)
    refine ⟨_, _, _, ?_, hh.alloc _, h _⟩
    have hw : IntKind.i64.wrap (k : Int) = k := wrap_i64 (by omega) (by omega)
    have hb' : ¬ ((281474976710656 : Int) < (bt : Int) * (k : Int)) := by
      have : ((k * bt : Nat) : Int) ≤ 281474976710656 := by omega
      rw [Int.natCast_mul, Int.mul_comm] at this
      omega
    have hcells : ((Array.range k).map fun i => z.cells[i % z.cells.size]!) = (List.replicate k z).toArray := by
      rw [hz]
      apply Array.ext
      · simp
      · intro j h1 h2
        simp [Nat.mod_one]
    by_cases hk0 : k = 0
    · subst hk0
      have hw0 : IntKind.i64.wrap 0 = 0 := by decide
      simp [hw0, execOp, Instr.makeSlice, hkn.ev hx, hkn.ev hy, run_underlying (t := t) (d := .slice e), asInt, asIntOf, hinf, hibt, hw, run_sizeOf (t := e) (z := z) (sz := 1) (bt := bt), newRow]
      have : (Array.map (fun _ => (default : Value)) (Array.range 0)) = #[] := by simp [Array.range]
      rw [this]
    · simp [execOp, Instr.makeSlice, hkn.ev hx, hkn.ev hy, run_underlying (t := t) (d := .slice e), asInt, asIntOf, hinf, hibt, hw, hb', run_sizeOf (t := e) (z := z) (sz := 1) (bt := bt), newRow, run_zeroValue (t := e) (z := z) (sz := 1) (bt := bt), hk0, hcells]
      intro hneg
      omega

/-- A slice expression of a slice. -/
theorem TL.slice (hF : Open F) {t e : TypeId} [Und P t (.slice e)] {z : Value} {sz bt : Nat} [Inf P e z sz bt] {x : Operand} {lo hi : Option Operand} {a : Option Addr} {l c i j : Nat} (hx : ev σ x = some (.slice a l c))
    (hlo : (match lo with | none => i = 0 | some y => ev σ y = some (.int .i64 (i : Int)))) (hhi : (match hi with | none => j = l | some y => ev σ y = some (.int .i64 (j : Int)))) (hij : i ≤ j) (hjc : j ≤ c) (hn : Nat.blt d n = true)
    (h : TL F P S w0 n ops Q rest ds ((d, .slice (if c = i then a else a.map (·.add (i * sz))) (j - i) (c - i)) :: σ) η) : TL F P S w0 n ops Q (⟨some d, .slice t x lo hi none, ty, pos, af, none⟩ :: rest) ds σ η :=
  TL.pure hF (by intro c; simp) hn (fun a w hk _ => by
    have h1 : ((j : Int) ≤ (c : Int)) := by omega
    have h2 : ((i : Int) ≤ (j : Int)) := by omega
    cases lo with
    | none =>
      simp only at hlo; subst hlo
      cases hi with
      | none => simp only at hhi; subst hhi; simp [execOp, Instr.sliceAt, Instr.slice, Instr.sliceBounds, run_underlying (t := t) (d := .slice e), run_sizeOf (t := e) (z := z) (sz := sz) (bt := bt), hk.ev hx]
      | some y =>
        have hy := hk.ev hhi
        simp [execOp, Instr.sliceAt, Instr.slice, Instr.sliceBounds, Instr.sliceBound, asIntOf, run_underlying (t := t) (d := .slice e), run_sizeOf (t := e) (z := z) (sz := sz) (bt := bt), hk.ev hx, hy, h1, hjc]
    | some x2 =>
      have hxx := hk.ev hlo
      cases hi with
      | none =>
        simp only at hhi; subst hhi
        simp [execOp, Instr.sliceAt, Instr.slice, Instr.sliceBounds, Instr.sliceBound, asIntOf, run_underlying (t := t) (d := .slice e), run_sizeOf (t := e) (z := z) (sz := sz) (bt := bt), hk.ev hx, hxx, h2, hij]
      | some y =>
        have hy := hk.ev hhi
        simp [execOp, Instr.sliceAt, Instr.slice, Instr.sliceBounds, Instr.sliceBound, asIntOf, run_underlying (t := t) (d := .slice e), run_sizeOf (t := e) (z := z) (sz := sz) (bt := bt), hk.ev hx, hxx, hy, h1, h2, hij, hjc]) h

/-- The cells of a part of a slice. -/
theorem Row.part {a : Option Addr} {cs : List Value} (h : Row S w0 η a cs) {c i j sz : Nat} (hl : j * sz ≤ cs.length) (hij : i ≤ j) (hc : j ≤ c) : Row S w0 η (if c = i then a else a.map (·.add (i * sz))) ((cs.drop (i * sz)).take ((j - i) * sz)) := by
  by_cases he : c = i
  · have : j - i = 0 := by omega
    rw [if_pos he, this]
    exact ⟨fun hl => by simp at hl, fun i v hi => by simp at hi⟩
  · rw [if_neg he]
    refine ⟨fun hp => ?_, fun k v hk => ?_⟩
    · have : 0 < cs.length := by simp at hp; omega
      obtain ⟨ad, rfl, hsp⟩ := h.ad this
      refine ⟨_, rfl, ?_⟩
      unfold Addr.add; split
      · exact hsp
      · rfl
    · rw [List.getElem?_take] at hk
      split at hk
      · rename_i hkl
        rw [List.getElem?_drop] at hk
        have h1 := h.cell _ v hk
        have : 0 < cs.length := by have := (List.getElem?_eq_some_iff.1 hk).1; omega
        obtain ⟨ad, rfl, hsp⟩ := h.ad this
        have : sAt (Option.map (fun x => x.add (i * sz)) (some ad)) k = sAt (some ad) (i * sz + k) := by
          obtain ⟨b, o, s⟩ := ad
          simp only at hsp; subst hsp
          simp only [sAt, Option.map_some, Option.getD_some, Addr.add]
          split
          · rename_i h0; simp [h0]
          · simp; omega
        rw [this]; exact h1
      · cases hk

/-- What is read of a list of integers. -/
theorem Row.int {a : Option Addr} {xs : List Int} (h : Row S w0 η a (ints xs)) {i : Nat} (hi : i < xs.length) : At S w0 η (sAt a (i * 1)) (.int .i64 xs[i]) := by
  rw [Nat.mul_one]; exact h.cell i _ (by simp [hi])
theorem Row.adi {a : Option Addr} {cs : List Value} (h : Row S w0 η a cs) {i : Nat} (hi : i < cs.length) : ∃ ad, a = some ad ∧ ad.spot = none := h.ad (by omega)
/-- Reading goes on while the owned blocks of a heap are among those of another one. -/
theorem At.up {η' : Heap} {a : Addr} {v : Value} (h : At S w0 η a v) (hs : ∀ seg ∈ η, seg ∈ η') : At S w0 η' a v := by
  cases h with
  | rd h hc => exact .rd h hc
  | own seg h1 cs e fz h2 h3 h4 => exact .own seg (hs seg h1) cs e fz h2 h3 h4
theorem Row.up {η' : Heap} {a : Option Addr} {cs : List Value} (h : Row S w0 η a cs) (hs : ∀ seg ∈ η, seg ∈ η') : Row S w0 η' a cs := ⟨h.ad, fun i v hi => (h.cell i v hi).up hs⟩
/-- What is read of what nobody owns is read in any heap. -/
theorem Row.ro {η' : Heap} {a : Option Addr} {cs : List Value} (h : Row S w0 [] a cs) : Row S w0 η' a cs := h.up (by simp)

end
end Go.Sl
