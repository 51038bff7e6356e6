/- Owned slices that begin behind the start of their block. -/
import Derived.Test.YtdehpaikapbckaaBase13
namespace Go.Sl
/-- An owned slice, from some place of its block on. -/
def OSx (e : TypeId) (sz : Nat) (v : Value) (n : Nat) (xs : List Value) (seg : Seg) : Prop :=
  xs.length = n * sz ∧ ((v = .slice none 0 0 ∧ n = 0 ∧ seg = []) ∨
    ∃ g o cap cur, v = .slice (some ⟨g, o, none⟩) n cap ∧ seg = [(g, .cells cur e (0, 0))] ∧ n ≤ cap ∧ o + cap * sz ≤ cur.size ∧ (cur.toList.drop o).take (n * sz) = xs)
section
variable {P : Program} {S : Nat → Prop} {w0 w : World} {η : Heap}
theorem OSl.x {e : TypeId} {sz n : Nat} {v : Value} {xs : List Value} {seg : Seg} (h : OSl e sz v n xs seg) : OSx e sz v n xs seg := by
  refine ⟨h.1, ?_⟩
  rcases h.2 with h2 | ⟨g, cap, cur, hv, hs, hnc, hcs, ht⟩
  · exact .inl h2
  · exact .inr ⟨g, 0, cap, cur, hv, hs, hnc, by omega, by rw [List.drop_zero]; exact ht⟩
theorem OSx.nil (e : TypeId) (sz : Nat) : OSx e sz (.slice none 0 0) 0 [] [] := ⟨by simp, .inl ⟨rfl, rfl, rfl⟩⟩
theorem OSx.form {e : TypeId} {sz n : Nat} {v : Value} {xs : List Value} {seg : Seg} (h : OSx e sz v n xs seg) : ∃ a cap, v = .slice a n cap := by
  rcases h.2 with ⟨rfl, rfl, _⟩ | ⟨g, o, cap, cur, rfl, _⟩ <;> exact ⟨_, _, rfl⟩
theorem OSx.row {e : TypeId} {sz n : Nat} {a : Option Addr} {l cap : Nat} {xs : List Value} {seg : Seg} (h : OSx e sz (.slice a l cap) n xs seg) (hs : seg ∈ η) : Row S w0 η a xs := by
  rcases h.2 with ⟨hv, hn, _⟩ | ⟨g, o, cap', cur, hv, hsg, hnc, hcs, ht⟩
  · have hx : xs = [] := List.eq_nil_of_length_eq_zero (by have := h.1; rw [hn] at this; simpa using this)
    subst hx
    exact ⟨fun hl => by simp at hl, fun i v hi => by simp at hi⟩
  · simp only [Value.slice.injEq] at hv
    obtain ⟨rfl, _, _⟩ := hv
    refine ⟨fun _ => ⟨_, rfl, rfl⟩, fun i v hi => ?_⟩
    refine .own seg hs cur e (0, 0) (by rw [hsg]; simp [sAt]) ?_ rfl
    rw [← ht, List.getElem?_take] at hi
    split at hi
    · rw [List.getElem?_drop] at hi; simpa [sAt] using hi
    · cases hi
theorem OSx.cut {e : TypeId} {sz n k : Nat} {a : Option Addr} {cap : Nat} {xs : List Value} {seg : Seg} (h : OSx e sz (.slice a n cap) n xs seg) (hk : k ≤ n) : OSx e sz (.slice (if cap = k then a else a.map (·.add (k * sz))) (n - k) (cap - k)) (n - k) (xs.drop (k * sz)) seg := by
  have hlen : (xs.drop (k * sz)).length = (n - k) * sz := by rw [List.length_drop, h.1, Nat.sub_mul]
  refine ⟨hlen, ?_⟩
  rcases h.2 with ⟨hv, hn, hs⟩ | ⟨g, o, cap', cur, hv, hsg, hnc, hcs, ht⟩
  · simp only [Value.slice.injEq] at hv
    obtain ⟨rfl, _, rfl⟩ := hv
    subst hn
    have : k = 0 := by omega
    subst this
    exact .inl ⟨by simp, rfl, hs⟩
  · simp only [Value.slice.injEq] at hv
    obtain ⟨rfl, _, rfl⟩ := hv
    right
    by_cases hck : cap = k
    · refine ⟨g, o, 0, cur, by rw [if_pos hck, hck]; simp, hsg, by omega, by omega, ?_⟩
      have : n - k = 0 := by omega
      have hl2 : xs.length ≤ k * sz := by rw [h.1]; exact Nat.mul_le_mul_right _ (by omega)
      rw [this, List.drop_of_length_le hl2]; simp
    · have hadd : (⟨g, o, none⟩ : Addr).add (k * sz) = ⟨g, o + k * sz, none⟩ := by
        unfold Addr.add; split
        · rename_i h0; simp [h0]
        · rfl
      have hmul : cap * sz = k * sz + (cap - k) * sz := by rw [← Nat.add_mul]; congr 1; omega
      refine ⟨g, o + k * sz, cap - k, cur, by rw [if_neg hck]; simp [hadd], hsg, by omega, by omega, ?_⟩
      rw [← ht, ← List.drop_drop, List.drop_take, ← Nat.sub_mul]
theorem run_appendX {t ty e : TypeId} [Und P t (.slice e)] {z : Value} {sz bt : Nat} [Inf P e z sz bt] (hz : z.cells.size = sz) {i n m : Nat} {v x : Value} {xs news : List Value} {seg : Seg} (hh : Hp S w0 η w) (hi : η[i]? = some seg)
    (ho : OSx e sz v n xs seg) (hs : Src S w0 η x m news) (hl : news.length = m * sz) (h1 : ∀ u ∈ news, u.oneCell' = true) (hb : (n + m) * bt ≤ 140737488355328) (hsm : n + m ≤ 4611686018427387904) :
    ∃ v' w' seg', (Builtin.append_ #[t, t] ty #[v, x]).run P w = .ok v' w' ∧ Hp S w0 (η.set i seg') w' ∧ OSx e sz v' (n + m) (xs ++ news) seg' := by
  obtain ⟨a, c, rfl, hr⟩ := hs
  have hfc := run_firstCells (P := P) (c := c) hr hl hh
  have hlen : (xs ++ news).length = (n + m) * sz := by rw [List.length_append, ho.1, hl, Nat.add_mul]
  obtain ⟨inf, hinf, hiz, hisz, hibt⟩ := run_typeInfo (P := P) (t := e) (z := z) (sz := sz) (bt := bt)
  have grow : ∀ (base : Option Addr) (cap : Nat), v = .slice base n cap → cap < n + m → (Builtin.firstCells sz n v).run P w.drew = .ok xs.toArray w.drew →
      ∃ v' w' seg', (Builtin.append_ #[t, t] ty #[v, .slice a m c]).run P w = .ok v' w' ∧ Hp S w0 (η.set i seg') w' ∧ OSx e sz v' (n + m) (xs ++ news) seg' := by
    intro base cap hv hlt hold
    subst hv
    have hfc' : (Builtin.firstCells sz m (.slice a m c)).run P w.drew = .ok news.toArray w.drew := run_firstCells (P := P) (c := c) hr hl (hh.drew (w.drawn + 1))
    have hg := growslice_fits (old := cap) (bytes := bt) hlt hb
    have hq : (Question.appendCap (n + m) cap e).forced = false := rfl
    have hcut : ∃ k, (Question.appendCap (n + m) cap e).cut (w.tape w.drawn (.appendCap (n + m) cap e)) = n + m + k := ⟨_, rfl⟩
    obtain ⟨k, hk⟩ := hcut
    refine ⟨.slice (some ⟨w.heap.size, 0, none⟩) (n + m) (n + m + k), w.drew.alloc (.cells (xs.toArray ++ news.toArray ++ Builtin.zeroCells z.cells k) e (0, 0)), [(w.heap.size, .cells (xs.toArray ++ news.toArray ++ Builtin.zeroCells z.cells k) e (0, 0))], ?_, (hh.drew (w.drawn + 1)).freshI hi _, hlen, .inr ⟨_, 0, _, _, rfl, rfl, by omega, ?_, ?_⟩⟩
    · have h3 : ¬ (n + m ≤ cap) := by omega
      simp only [Builtin.append_, Sem.run_bind, run_underlying (t := t) (d := .slice e), Result.andThen_ok]
      simp [run_underlying (t := t) (d := .slice e), run_sizeOf (t := e) (z := z) (sz := sz) (bt := bt), Builtin.lenOf, h3, hinf, hibt, hq, hk, hold, hfc', run_zeroValue (t := e) (z := z) (sz := sz) (bt := bt), newRow]
      rw [if_neg (by omega), if_neg (by omega)]
      simp [hinf, hold, hfc']
      congr 2
      rw [← Array.append_assoc]
      simp
    · exact Nat.le_of_eq (by simp [Builtin.zeroCells, ho.1, hl, hz, Nat.add_mul])
    · rw [List.drop_zero]
      simp only [Array.toList_append, List.append_assoc]
      rw [← List.append_assoc, ← hlen]
      exact List.take_left
  rcases ho.2 with ⟨rfl, rfl, rfl⟩ | ⟨g, o, cap, cur, rfl, rfl, hnc, hcs, htk⟩
  · have hx : xs = [] := List.eq_nil_of_length_eq_zero (by simpa using ho.1)
    subst hx
    by_cases hm : m = 0
    · subst hm
      have hn : news = [] := List.eq_nil_of_length_eq_zero (by simpa using hl)
      subst hn
      refine ⟨.slice none 0 0, w, [], ?_, ?_, OSx.nil e sz⟩
      · simp [Builtin.append_, run_underlying (t := t) (d := .slice e), run_sizeOf (t := e) (z := z) (sz := sz) (bt := bt), Builtin.lenOf, hfc]
      · obtain ⟨pre, post, he, hse⟩ := flatten_set_sub (s' := ([] : Seg)) hi
        rw [hse, ← he]; exact hh
    · exact grow none 0 rfl (by omega) (by simp [Builtin.firstCells])
  · by_cases hroom : n + m ≤ cap
    · have hg := (hh.own (g, .cells cur e (0, 0)) (List.mem_flatten.2 ⟨_, List.mem_of_getElem? hi, by simp⟩)).1
      have hmul : (n + m) * sz ≤ cap * sz := Nat.mul_le_mul_right _ hroom
      have hfit : o + n * sz + news.length ≤ cur.size := by rw [hl]; rw [Nat.add_mul] at hmul; omega
      refine ⟨_, _, [(g, .cells ((cur.toList.take (o + n * sz) ++ news ++ cur.toList.drop (o + n * sz + news.length)).toArray) e (0, 0))], ?_, hh.turnI hi _, hlen, .inr ⟨g, o, cap, _, rfl, rfl, hroom, ?_, ?_⟩⟩
      · have hadd : (⟨g, o, none⟩ : Addr).add (n * sz) = ⟨g, o + n * sz, none⟩ := by
          unfold Addr.add; split
          · rename_i h0; simp [h0]
          · rfl
        have hst := run_storeCells (P := P) (e := e) (b := g) news cur (o + n * sz) 0 w hg (by simpa using hfit) h1
        simp only [Nat.add_zero] at hst
        rw [foldl_set _ _ _ hfit] at hst
        simp [Builtin.append_, run_underlying (t := t) (d := .slice e), run_sizeOf (t := e) (z := z) (sz := sz) (bt := bt), Builtin.lenOf, hroom, hfc, hadd, hst]
      · simp only [List.size_toArray, List.length_append, List.length_take, List.length_drop, Array.length_toList]
        omega
      · have hol : o ≤ (cur.toList.take (o + n * sz)).length := by simp; omega
        have e1 : (cur.toList.take (o + n * sz)).drop o = xs := by
          rw [← htk, List.drop_take]; congr 1; omega
        show ((cur.toList.take (o + n * sz) ++ news ++ cur.toList.drop (o + n * sz + news.length)).drop o).take ((n + m) * sz) = xs ++ news
        rw [List.append_assoc, List.drop_append_of_le_length hol, e1, ← List.append_assoc, ← hlen]
        exact List.take_left
    · refine grow (some ⟨g, o, none⟩) cap rfl (by omega) ?_
      have hrow : Row S w0 η (some ⟨g, o, none⟩) xs := ho.row (List.mem_of_getElem? hi)
      exact run_firstCells hrow ho.1 (hh.drew _)

end
section
variable {F : Fence} {P : Program} {S : Nat → Prop} {w0 : World} {n : Nat} {Q : Exit → Act → World → Prop} {ds : List Deferred} {σ : Env} {η : Heap} {ops : Array Oper} {rest : List Oper} {d : Nat} {ty : TypeId} {pos : String} {af : Array Edge}
/-- append, of such a slice that is owned at place i. -/
theorem TL.appendX (hF : Open F) (i : Nat) {t e : TypeId} [Und P t (.slice e)] {z : Value} {sz bt : Nat} [Inf P e z sz bt] {x y : Operand} {k m : Nat} {v u : Value} {xs news : List Value} {seg : Seg} (hx : ev σ x = some v) (hy : ev σ y = some u)
    (hi : η[i]? = some seg) (ho : OSx e sz v k xs seg) (hs : Src S w0 η u m news) (hz : z.cells.size = sz) (hl : news.length = m * sz) (h1 : ∀ u ∈ news, u.oneCell' = true) (hb : (k + m) * bt ≤ 140737488355328) (hsm : k + m ≤ 4611686018427387904) (hn : Nat.blt d n = true)
    (h : ∀ a cap seg', OSx e sz (.slice a (k + m) cap) (k + m) (xs ++ news) seg' → TL F P S w0 n ops Q rest ds ((d, .slice a (k + m) cap) :: σ) (η.set i seg')) :
    TL F P S w0 n ops Q (⟨some d, .call ⟨.builtin .append, #[x, y], #[t, t]⟩, ty, pos, af, none⟩ :: rest) ds σ η :=
  TL.val hF (by intro c; simp) hn fun a w hk hh => by
    obtain ⟨v', w', seg', hr, hh', ho'⟩ := run_appendX (P := P) (t := t) (ty := ty) (e := e) (z := z) (sz := sz) (bt := bt) hz hh hi ho hs hl h1 hb hsm
    obtain ⟨a', cap, rfl⟩ := ho'.form
    exact ⟨_, w', _, by simp [execOp, resolve, Go.invoke, Go.builtin, hk.ev hx, hk.ev hy, hr], hh', h _ _ _ ho'⟩
end
end Go.Sl
