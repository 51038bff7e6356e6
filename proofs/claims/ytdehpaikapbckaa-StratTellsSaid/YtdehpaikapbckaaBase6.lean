/- A range over a function, and calls of yield. -/
import Derived.Test.YtdehpaikapbckaaBase5
namespace Go.Sl

/-- A call of yield: the round goes on (true), or has said 'no more' (false). -/
def YieldOk (P : Program) (l : Nat) (args : List Value) (S : Nat → Prop) (w0 : World) (η : Heap) (R : Bool → Heap → Prop) : Prop :=
  ∀ w, Hp S w0 η w → ∃ fn tmps assign body, (Instr.yield l args.toArray).run P w = .ok (.round l fn tmps assign body) w ∧
    RoundIn Fence.wide 0 P l fn tmps assign body w fun e w' => ∃ b η', e = .returned (.bool b) ∧ Hp S w0 η' w' ∧ R b η'

/-- An iterator: it yields so many arguments, in order, till it is told to stop. -/
def Iter (P : Program) (f : FuncId) (pre post : List Value) (encs : List (List Value)) (S : Nat → Prop) (w0 : World) (Ctx : Heap → Prop) : Prop :=
  ∀ (l : Nat) (J : Nat → Heap → Prop) (X : Heap → Prop) (η : Heap), (∀ i η', J i η' → Ctx η') →
    (∀ i e η', encs[i]? = some e → J i η' → YieldOk P l e S w0 η' fun b η'' => if b then J (i + 1) η'' else X η'') →
    J 0 η → Rt P f (pre ++ .func (.yield l) #[] #[] :: post).toArray S w0 η fun _ η' => J encs.length η' ∨ X η'

/-- Another tail of the heap, at the same rest. -/
def Swap (S : Nat → Prop) (w0 : World) (tl tl' : Heap) (K : Act → World → Prop) (a : Act) (w : World) : Prop :=
  (∃ η, Hp S w0 (η ++ tl) w) ∧ ∀ w2, (∀ η, Hp S w0 (η ++ tl) w → Hp S w0 (η ++ tl') w2) → K a w2

/-- What is asked where a round's body is left. -/
def RQ (S : Nat → Prop) (w0 : World) (I : Nat → Heap → Prop) (IX : Code → Heap → Prop) (i : Nat) (tl : Heap) : Exit → Act → World → Prop
  | .normal, _, w => ∃ η, I (i + 1) η ∧ Hp S w0 (η ++ tl) w
  | .ret, _, w => ∃ η, IX .ret η ∧ Hp S w0 (η ++ tl) w
  | .exit id, _, w => ∃ η, IX (.exit id) η ∧ Hp S w0 (η ++ tl) w
  | .goto t, _, w => ∃ η, IX (.goto t) η ∧ Hp S w0 (η ++ tl) w
  | _, _, _ => False

section
variable {F : Fence} {P : Program} {S : Nat → Prop} {w0 w : World} {n : Nat} {Q : Exit → Act → World → Prop} {ds : List Deferred} {σ : Env} {η : Heap} {ops : Array Oper} {rest : List Oper} {d : Nat} {ty : TypeId} {pos : String} {af : Array Edge}

theorem TQ.swap {tl tl' : Heap} {K : Act → World → Prop} {Q' : Exit → Act → World → Prop} (η1 : Heap) (he : η = η1 ++ tl) (h : TQ S w0 n K ds σ (η1 ++ tl')) : TQ S w0 n (Exit.then (Swap S w0 tl tl' K) Q' .normal) ds σ η :=
  fun a w hk hh => ⟨⟨η1, he ▸ hh⟩, fun w2 hw => h a w2 hk (hw η1 (he ▸ hh))⟩
theorem TQ.rq_n {I : Nat → Heap → Prop} {IX : Code → Heap → Prop} {i : Nat} {tl : Heap} (η1 : Heap) (he : η = η1 ++ tl) (h : I (i + 1) η1) : TQ S w0 n (RQ S w0 I IX i tl .normal) ds σ η := fun _ _ _ hh => ⟨η1, h, he ▸ hh⟩
theorem TQ.rq_r {I : Nat → Heap → Prop} {IX : Code → Heap → Prop} {i : Nat} {tl : Heap} (η1 : Heap) (he : η = η1 ++ tl) (h : IX .ret η1) : TQ S w0 n (RQ S w0 I IX i tl .ret) ds σ η := fun _ _ _ hh => ⟨η1, h, he ▸ hh⟩
theorem TQ.rq_x {I : Nat → Heap → Prop} {IX : Code → Heap → Prop} {i id : Nat} {tl : Heap} (η1 : Heap) (he : η = η1 ++ tl) (h : IX (.exit id) η1) : TQ S w0 n (RQ S w0 I IX i tl (.exit id)) ds σ η := fun _ _ _ hh => ⟨η1, h, he ▸ hh⟩

/-- A call of yield in an iterator's body. -/
theorem TL.yield (hF : F = Fence.wide) {f : Operand} {args : Array Operand} {ats : Array TypeId} {l : Nat} {al : List Value} {R : Bool → Heap → Prop} (hf : ev σ f = some (.func (.yield l) #[] #[])) (ha : evs σ args.toList = some al) (hy : YieldOk P l al S w0 η R) (hn : Nat.blt d n = true)
    (h : ∀ b η', R b η' → TL F P S w0 n ops Q rest ds ((d, .bool b) :: σ) η') : TL F P S w0 n ops Q (⟨some d, .call ⟨.value f, args, ats⟩, ty, pos, af, none⟩ :: rest) ds σ η := by
  subst hF
  refine TL.op open_wide rfl (by intro c; simp) fun a w hk hh => ?_
  obtain ⟨fn, tmps, assign, body, hr, hR⟩ := hy w hh
  have e0 : #[] ++ al.toArray ++ (#[] : Array Value) = al.toArray := by simp
  simp only [execOp, resolve, hk.ev hf, hk.evs ha, Sem.run_bind, Deferred.ofValue, Sem.run_pure, Result.andThen_ok, invoke]
  have e1 : (#[] ++ al.toArray : Array Value) = al.toArray := by simp
  rw [e1, hr]
  refine ⟨fun h => (by simp [Fence.wide] at h), hR.mono ?_⟩
  rintro e w' ⟨b, η', rfl, hh', hr'⟩
  exact h b η' hr' _ _ (hk.put (Nat.le_of_ble_eq_true hn) _) hh'

theorem Hp.rot {A B : Heap} (hh : Hp S w0 (A ++ B) w) : Hp S w0 (B ++ A) w := by
  refine hh.sub (fun p hp => ?_) ?_
  · simp only [List.flatten_append, List.mem_append] at hp ⊢; exact hp.symm
  · have := hh.once
    simp only [List.flatten_append, List.map_append] at this ⊢
    exact (List.perm_append_comm.nodup_iff).1 this

theorem kn_params : ∀ (xs : List (Nat × Value)) (a : Array Value) (σ : Env), (∀ t v, lk σ t = some v → a[t]? = some v) → (∀ p ∈ xs, p.1 < a.size) → ∀ t v, lk (xs.reverse ++ σ) t = some v → (xs.foldl (fun t (x : Nat × Value) => t.setIfInBounds x.1 x.2) a)[t]? = some v := by
  intro xs
  induction xs with
  | nil => intro a σ h _ t v ht; exact h t v (by simpa using ht)
  | cons p r ih =>
    intro a σ h hp t v ht
    simp only [List.reverse_cons, List.append_assoc, List.cons_append, List.nil_append] at ht
    simp only [List.foldl_cons]
    refine ih (a.setIfInBounds p.1 p.2) ((p.1, p.2) :: σ) (fun t v ht => ?_) (fun q hq => by simpa using hp q (by simp [hq])) t v ht
    rw [lk_cons] at ht
    by_cases he : p.1 = t
    · rw [if_pos he] at ht; cases ht; subst he
      rw [Array.getElem?_setIfInBounds_self_of_lt (hp p (by simp))]
    · rw [if_neg he] at ht
      rw [Array.getElem?_setIfInBounds_ne he]; exact h t v ht

theorem foldl_size : ∀ (xs : List (Nat × Value)) (a : Array Value), (xs.foldl (fun t (x : Nat × Value) => t.setIfInBounds x.1 x.2) a).size = a.size
  | [], a => rfl
  | p :: r, a => by simp only [List.foldl_cons]; rw [foldl_size r]; simp

/-- A range over a function. -/
theorem T.rangeFunc {f : FuncId} {fst cap : List Value} {g : Operand} {ps : Array Tmp} {assign body : Code} {encs : List (List Value)} {Ctx : Heap → Prop} [Ent P f]
    (hg : ev σ g = some (.func (.func f) fst.toArray cap.toArray)) (hit : Iter P f fst cap encs S w0 Ctx) (hps : ∀ e ∈ encs, e.length = ps.size) (hpn : ∀ p ∈ ps.toList, p < n)
    (I : Nat → Heap → Prop) (IX : Code → Heap → Prop) (h0 : I 0 η) (hctx : ∀ i η' tl, I i η' → Ctx (η' ++ tl))
    (hbody : ∀ l tl tl' i e η', encs[i]? = some e → I i η' → T (Fence.wide.inRound l) P S w0 n (Exit.then (Swap S w0 tl tl' fun a w => body.wpIn (Fence.wide.inRound l) 0 P (RQ S w0 I IX i tl') a w) (fun _ _ _ => False)) assign [] ((ps.toList.zip e).reverse ++ σ) (η' ++ tl))
    (hdone : ∀ r η', I encs.length η' → TQ S w0 n (Q .normal) ({ target := .collected r, args := #[] } :: ds) σ ([(r, .deferred (some []))] :: η'))
    (hstop : ∀ r c η', IX c η' → T Fence.wide P S w0 n Q c ({ target := .collected r, args := #[] } :: ds) σ ([(r, .deferred (some []))] :: η')) :
    T Fence.wide P S w0 n Q (.rangeFunc g ps assign body) ds σ η := fun a w hk hh => by
  refine wpIn_rangeFunc fun fn hfn => ?_
  let rec' : LoopState → Option Code → Loop := fun st pend => { state := st, pending := pend, fn := fn, tmps := a.tmps, params := ps, assign := assign, body := body, defers := w.heap.size }
  have hh1 := (hh.alloc (.deferred (some []))).alloc (.loop (rec' .ready none))
  have hl : (({ w with heap := w.heap.push (.deferred (some [])) } : World).heap.size) = w.heap.size + 1 := by simp
  rw [hl] at hh1
  obtain ⟨W1, hW1⟩ : ∃ W1 : World, W1 = { heap := (w.heap.push (.deferred (some []))).push (.loop (rec' .ready none)), tape := w.tape, drawn := w.drawn, os := w.os, output := w.output } := ⟨_, rfl⟩
  have hh2 : Hp S w0 (η ++ [[(w.heap.size + 1, .loop (rec' .ready none))], [(w.heap.size, .deferred (some []))]]) W1 := by
    rw [hW1]; exact Hp.rot (A := [[(w.heap.size + 1, .loop (rec' .ready none))], [(w.heap.size, .deferred (some []))]]) hh1
  have hargs : fst.toArray ++ #[.func (.yield (w.heap.size + 1)) #[] #[]] ++ cap.toArray = (fst ++ .func (.yield (w.heap.size + 1)) #[] #[] :: cap).toArray := by simp
  refine ⟨w.heap.size + 1, [{ target := .collected w.heap.size, args := #[] }], W1, ⟨.fn (.func f) cap.toArray, fst.toArray ++ #[.func (.yield (w.heap.size + 1)) #[] #[]]⟩, W1, f, (fst ++ .func (.yield (w.heap.size + 1)) #[] #[] :: cap).toArray, W1, ?_, ?_, fun _ _ => trivial, ?_, fun h => (by simp [Fence.wide] at h), ?_⟩
  · rw [hW1]
    simp only [Instr.enterLoop, show Fence.wide.round = none from rfl, Sem.run_bind, run_newObj, Sem.run_pure, Result.andThen_ok]
    simp only [Array.size_push]
    rfl
  · have hgv := hk.ev hg
    have hm : Array.map a.eval #[Operand.const (.func (.yield (w.heap.size + 1)) #[] #[])] = #[.func (.yield (w.heap.size + 1)) #[] #[]] := by simp [Act.eval]
    simp only [rangeCall, resolve, hgv, hm, Deferred.ofValue, Sem.run_pure]
  · simp only [invoke]
    rw [hargs, Ent.eq]
  · have key := hit (w.heap.size + 1) (fun i η' => ∃ ηu, I i ηu ∧ η' = ηu ++ [[(w.heap.size + 1, .loop (rec' .ready none))], [(w.heap.size, .deferred (some []))]])
      (fun η' => ∃ c ηu, IX c ηu ∧ η' = ηu ++ [[(w.heap.size + 1, .loop (rec' .done (some c)))], [(w.heap.size, .deferred (some []))]]) _
      (by rintro i η' ⟨ηu, hi, rfl⟩; exact hctx i ηu _ hi) ?_ ⟨η, h0, rfl⟩ W1 hh2
    · refine callsIn_open open_wide (key.mono ?_)
      have fin : ∀ (st : LoopState) (pend : Option Code) (ηu : Heap) (w3 : World), st ≠ .busy → Hp S w0 (ηu ++ [[(w.heap.size + 1, .loop (rec' st pend))], [(w.heap.size, .deferred (some []))]]) w3 →
          ∃ w4, (Instr.endLoop (w.heap.size + 1)).run P w3 = .ok pend w4 ∧ Hp S w0 ([(w.heap.size, .deferred (some []))] :: ηu) w4 := by
        intro st pend ηu w3 hst hh3
        have hb := (hh3.own (w.heap.size + 1, .loop (rec' st pend)) (by simp)).1
        have h4 := hh3.turnI (i := ηu.length) (b := w.heap.size + 1) (o := .loop (rec' st pend)) (by simp) (.loop { rec' st pend with state := .exhausted })
        have he : (ηu ++ [[(w.heap.size + 1, Obj.loop (rec' st pend))], [(w.heap.size, .deferred (some []))]]).set ηu.length [(w.heap.size + 1, .loop { rec' st pend with state := .exhausted })] = ηu ++ [[(w.heap.size + 1, .loop { rec' st pend with state := .exhausted })], [(w.heap.size, .deferred (some []))]] := by simp
        rw [he] at h4
        refine ⟨_, run_endLoop hb hst, (Hp.rot h4).sub (fun p hp => ?_) ?_⟩
        · simp only [List.flatten_cons, List.mem_append] at hp
          simp only [List.flatten_append, List.flatten_cons, List.flatten_nil, List.mem_append]
          rcases hp with h | h
          · exact .inl (.inr (.inl h))
          · exact .inr h
        · have := (Hp.rot h4).once
          simp only [List.flatten_append, List.flatten_cons, List.flatten_nil, List.append_nil, List.map_append, List.cons_append, List.nil_append, List.map_cons, List.map_nil] at this ⊢
          exact (List.nodup_cons.1 this).2
      rintro e w3 ⟨v, η', rfl, hh3, (⟨ηu, hi, rfl⟩ | ⟨c, ηu, hx, rfl⟩)⟩
      · obtain ⟨w4, hr, hh4⟩ := fin .ready none ηu w3 (by simp) hh3
        exact ⟨none, w4, hr, hdone _ ηu hi _ _ ⟨hk.size, by simp [hk.defers], hk.slot⟩ hh4⟩
      · obtain ⟨w4, hr, hh4⟩ := fin .done (some c) ηu w3 (by simp) hh3
        exact ⟨some c, w4, hr, hstop _ c ηu hx _ _ ⟨hk.size, by simp [hk.defers], hk.slot⟩ hh4 ⟩
    · rintro i e η' he ⟨ηu, hi, rfl⟩ w3 hh3
      have hb3 := (hh3.own (w.heap.size + 1, .loop (rec' .ready none)) (by simp)).1
      have hlen : e.toArray.size = (rec' .ready none).params.size := by simpa [rec'] using hps e (List.mem_of_getElem? he)
      refine ⟨_, _, _, _, run_yield hb3 hlen, ?_⟩
      have setT : ∀ (o o' : Obj) (η1 : Heap) (w' : World), Hp S w0 (η1 ++ [[(w.heap.size + 1, o)], [(w.heap.size, .deferred (some []))]]) w' → Hp S w0 (η1 ++ [[(w.heap.size + 1, o')], [(w.heap.size, .deferred (some []))]]) (w'.putObj (w.heap.size + 1) o') := by
        intro o o' η1 w' hh'
        have h4 := hh'.turnI (i := η1.length) (b := w.heap.size + 1) (o := o) (by simp) o'
        have he : (η1 ++ [[(w.heap.size + 1, o)], [(w.heap.size, Obj.deferred (some []))]]).set η1.length [(w.heap.size + 1, o')] = η1 ++ [[(w.heap.size + 1, o')], [(w.heap.size, .deferred (some []))]] := by simp
        rwa [he] at h4
      refine roundIn_of_wpIn trivial ?_
      have hb := hbody (w.heap.size + 1) [[(w.heap.size + 1, .loop (rec' .ready none))], [(w.heap.size, .deferred (some []))]] [[(w.heap.size + 1, .loop (rec' .busy none))], [(w.heap.size, .deferred (some []))]] i e ηu he hi
        { tmps := (ps.toList.zip e).foldl (fun t (x : Nat × Value) => t.setIfInBounds x.1 x.2) a.tmps, defers := [] } w3 ⟨by rw [foldl_size]; exact hk.size, rfl, kn_params _ _ _ hk.slot (fun p hp => by
          rw [hk.size]; exact hpn p.1 (List.of_mem_zip hp).1)⟩ hh3
      have hz : (((rec' .ready none).params.zip e.toArray).foldl (fun tmps (x : Nat × Value) => tmps.setIfInBounds x.1 x.2) (rec' .ready none).tmps) = (ps.toList.zip e).foldl (fun t (x : Nat × Value) => t.setIfInBounds x.1 x.2) a.tmps := by
        rw [← Array.foldl_toList]
        simp [rec']
      rw [hz]
      refine wpIn_mono hb ?_
      intro ex a1 w1 hq
      cases ex with
      | normal =>
        obtain ⟨⟨η1, hh4⟩, hq⟩ := hq
        have hb4 := (hh4.own (w.heap.size + 1, .loop (rec' .ready none)) (by simp)).1
        refine ⟨_, run_beginRound hb4 rfl, wpIn_mono (hq _ fun η2 hh5 => setT _ (.loop { rec' .ready none with state := .busy }) η2 w1 hh5) ?_⟩
        have fin : ∀ (jump : Option Code) (η2 : Heap) (w5 : World), Hp S w0 (η2 ++ [[(w.heap.size + 1, .loop (rec' .busy none))], [(w.heap.size, .deferred (some []))]]) w5 →
            (Instr.endRound (w.heap.size + 1) jump).run P w5 = .ok (.bool jump.isNone) (w5.putObj (w.heap.size + 1) (.loop (rec' (if jump.isNone then .ready else .done) jump))) ∧
            Hp S w0 (η2 ++ [[(w.heap.size + 1, .loop (rec' (if jump.isNone then .ready else .done) jump))], [(w.heap.size, .deferred (some []))]]) (w5.putObj (w.heap.size + 1) (.loop (rec' (if jump.isNone then .ready else .done) jump))) := by
          intro jump η2 w5 hh6
          have hb6 := (hh6.own (w.heap.size + 1, .loop (rec' .busy none)) (by simp)).1
          exact ⟨run_endRound jump hb6, setT _ _ η2 w5 hh6⟩
        intro ex2 a2 w5 hq2
        cases ex2 with
        | normal =>
          obtain ⟨η2, hi2, hh6⟩ := hq2
          obtain ⟨hr, hh7⟩ := fin none η2 w5 hh6
          exact ⟨_, _, hr, true, _, rfl, hh7, ⟨η2, hi2, rfl⟩⟩
        | ret =>
          obtain ⟨η2, hi2, hh6⟩ := hq2
          obtain ⟨hr, hh7⟩ := fin (some .ret) η2 w5 hh6
          exact ⟨_, _, hr, false, _, rfl, hh7, .ret, η2, hi2, rfl⟩
        | exit id =>
          obtain ⟨η2, hi2, hh6⟩ := hq2
          obtain ⟨hr, hh7⟩ := fin (some (.exit id)) η2 w5 hh6
          exact ⟨_, _, hr, false, _, rfl, hh7, .exit id, η2, hi2, rfl⟩
        | goto t =>
          obtain ⟨η2, hi2, hh6⟩ := hq2
          obtain ⟨hr, hh7⟩ := fin (some (.goto t)) η2 w5 hh6
          exact ⟨_, _, hr, false, _, rfl, hh7, .goto t, η2, hi2, rfl⟩
        | panic ch => exact hq2.elim
        | outgrown => exact hq2.elim
      | ret => exact hq.elim
      | exit id => exact hq.elim
      | goto t => exact hq.elim
      | panic ch => exact hq.elim
      | outgrown => exact hq.elim

end
end Go.Sl
