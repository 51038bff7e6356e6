/- Several texts in one. -/
import Derived.Test.YtdehpaikapbckaaPa
import Derived.ProofKit
import Derived.Deep.Slices
/- A range over a function, and calls of yield. -/
namespace Go.Sl

/-- A call of yield: the round goes on (true), or has said 'no more' (false). -/
def YieldOk (P : Program) (l : Nat) (args : List Value) (S : Nat → Prop) (w0 : World) (η : Heap) (R : Bool → Heap → Prop) : Prop :=
  ∀ w, Hp S w0 η w → ∃ fn tmps assign body, (Instr.yield l args.toArray).run P w = .ok (.round l fn tmps assign body) w ∧
    RoundIn Fence.wide 0 P l fn tmps assign body w fun e w' => ∃ b η', e = .returned (.bool b) ∧ Hp S w0 η' w' ∧ R b η'

/-- An iterator: it yields so many arguments, in order, till it is told to stop. -/
def Iter (P : Program) (f : FuncId) (pre post : List Value) (encs : List (List Value)) (S : Nat → Prop) (w0 : World) (Ctx : Heap → Prop) : Prop :=
  ∀ (l : Nat) (J : Nat → Heap → Prop) (X : Heap → Prop) (η : Heap), (∀ i η', J i η' → Ctx η') →
    (∀ i e η', encs[i]? = some e → J i η' → YieldOk P l e S w0 η' fun b η'' => if b then J (i + 1) η'' else X η'') →
    J 0 η → Rt P f (pre ++ .func (.yield l) #[] #[] :: post).toArray S w0 η fun _ η' => J encs.length η' ∨ X η'

/-- Another tail of the heap, at the same rest. -/
def Swap (S : Nat → Prop) (w0 : World) (tl tl' : Heap) (K : Act → World → Prop) (a : Act) (w : World) : Prop :=
  (∃ η, Hp S w0 (η ++ tl) w) ∧ ∀ w2, (∀ η, Hp S w0 (η ++ tl) w → Hp S w0 (η ++ tl') w2) → K a w2

/-- What is asked where a round's body is left. -/
def RQ (S : Nat → Prop) (w0 : World) (I : Nat → Heap → Prop) (IX : Code → Heap → Prop) (i : Nat) (tl : Heap) : Exit → Act → World → Prop
  | .normal, _, w => ∃ η, I (i + 1) η ∧ Hp S w0 (η ++ tl) w
  | .ret, _, w => ∃ η, IX .ret η ∧ Hp S w0 (η ++ tl) w
  | .exit id, _, w => ∃ η, IX (.exit id) η ∧ Hp S w0 (η ++ tl) w
  | .goto t, _, w => ∃ η, IX (.goto t) η ∧ Hp S w0 (η ++ tl) w
  | _, _, _ => False

section
variable {F : Fence} {P : Program} {S : Nat → Prop} {w0 w : World} {n : Nat} {Q : Exit → Act → World → Prop} {ds : List Deferred} {σ : Env} {η : Heap} {ops : Array Oper} {rest : List Oper} {d : Nat} {ty : TypeId} {pos : String} {af : Array Edge}

theorem TQ.swap {tl tl' : Heap} {K : Act → World → Prop} {Q' : Exit → Act → World → Prop} (η1 : Heap) (he : η = η1 ++ tl) (h : TQ S w0 n K ds σ (η1 ++ tl')) : TQ S w0 n (Exit.then (Swap S w0 tl tl' K) Q' .normal) ds σ η :=
  fun a _w hk hh => ⟨⟨η1, he ▸ hh⟩, fun w2 hw => h a w2 hk (hw η1 (he ▸ hh))⟩
theorem TQ.rq_n {I : Nat → Heap → Prop} {IX : Code → Heap → Prop} {i : Nat} {tl : Heap} (η1 : Heap) (he : η = η1 ++ tl) (h : I (i + 1) η1) : TQ S w0 n (RQ S w0 I IX i tl .normal) ds σ η := fun _ _ _ hh => ⟨η1, h, he ▸ hh⟩
theorem TQ.rq_r {I : Nat → Heap → Prop} {IX : Code → Heap → Prop} {i : Nat} {tl : Heap} (η1 : Heap) (he : η = η1 ++ tl) (h : IX .ret η1) : TQ S w0 n (RQ S w0 I IX i tl .ret) ds σ η := fun _ _ _ hh => ⟨η1, h, he ▸ hh⟩
theorem TQ.rq_x {I : Nat → Heap → Prop} {IX : Code → Heap → Prop} {i id : Nat} {tl : Heap} (η1 : Heap) (he : η = η1 ++ tl) (h : IX (.exit id) η1) : TQ S w0 n (RQ S w0 I IX i tl (.exit id)) ds σ η := fun _ _ _ hh => ⟨η1, h, he ▸ hh⟩

/-- A call of yield in an iterator's body. -/
theorem TL.yield (hF : F = Fence.wide) {f : Operand} {args : Array Operand} {ats : Array TypeId} {l : Nat} {al : List Value} {R : Bool → Heap → Prop} (hf : ev σ f = some (.func (.yield l) #[] #[])) (ha : evs σ args.toList = some al) (hy : YieldOk P l al S w0 η R) (hn : Nat.blt d n = true)
    (h : ∀ b η', R b η' → TL F P S w0 n ops Q rest ds ((d, .bool b) :: σ) η') : TL F P S w0 n ops Q (⟨some d, .call ⟨.value f, args, ats⟩, ty, pos, af, none⟩ :: rest) ds σ η := by
  subst hF
  refine TL.op open_wide rfl (by intro c; simp) fun a w hk hh => ?_
  obtain ⟨fn, tmps, assign, body, hr, hR⟩ := hy w hh
  have e0 : #[] ++ al.toArray ++ (#[] : Array Value) = al.toArray := by simp
  simp only [execOp, resolve, hk.ev hf, hk.evs ha, Sem.run_bind, Deferred.ofValue, Sem.run_pure, Result.andThen_ok, invoke]
  have e1 : (#[] ++ al.toArray : Array Value) = al.toArray := by simp
  rw [e1, hr]
  refine ⟨fun h => (by simp [Fence.wide] at h), hR.mono ?_⟩
  rintro e w' ⟨b, η', rfl, hh', hr'⟩
  exact h b η' hr' _ _ (hk.put (Nat.le_of_ble_eq_true hn) _) hh'

theorem Hp.rot {A B : Heap} (hh : Hp S w0 (A ++ B) w) : Hp S w0 (B ++ A) w := by
  refine hh.sub (fun p hp => ?_) ?_
  · simp only [List.flatten_append, List.mem_append] at hp ⊢; exact hp.symm
  · have := hh.once
    simp only [List.flatten_append, List.map_append] at this ⊢
    exact (List.perm_append_comm.nodup_iff).1 this

theorem kn_params : ∀ (xs : List (Nat × Value)) (a : Array Value) (σ : Env), (∀ t v, lk σ t = some v → a[t]? = some v) → (∀ p ∈ xs, p.1 < a.size) → ∀ t v, lk (xs.reverse ++ σ) t = some v → (xs.foldl (fun t (x : Nat × Value) => t.setIfInBounds x.1 x.2) a)[t]? = some v := by
  intro xs
  induction xs with
  | nil => intro a σ h _ t v ht; exact h t v (by simpa using ht)
  | cons p r ih =>
    intro a σ h hp t v ht
    simp only [List.reverse_cons, List.append_assoc, List.cons_append, List.nil_append] at ht
    simp only [List.foldl_cons]
    refine ih (a.setIfInBounds p.1 p.2) ((p.1, p.2) :: σ) (fun t v ht => ?_) (fun q hq => by simpa using hp q (by simp [hq])) t v ht
    rw [lk_cons] at ht
    by_cases he : p.1 = t
    · rw [if_pos he] at ht; cases ht; subst he
      rw [Array.getElem?_setIfInBounds_self_of_lt (hp p (by simp))]
    · rw [if_neg he] at ht
      rw [Array.getElem?_setIfInBounds_ne he]; exact h t v ht

theorem foldl_size : ∀ (xs : List (Nat × Value)) (a : Array Value), (xs.foldl (fun t (x : Nat × Value) => t.setIfInBounds x.1 x.2) a).size = a.size
  | [], a => rfl
  | p :: r, a => by simp only [List.foldl_cons]; rw [foldl_size r]; simp

/-- A range over a function. -/
theorem T.rangeFunc {f : FuncId} {fst cap : List Value} {g : Operand} {ps : Array Tmp} {assign body : Code} {encs : List (List Value)} {Ctx : Heap → Prop} [Ent P f]
    (hg : ev σ g = some (.func (.func f) fst.toArray cap.toArray)) (hit : Iter P f fst cap encs S w0 Ctx) (hps : ∀ e ∈ encs, e.length = ps.size) (hpn : ∀ p ∈ ps.toList, p < n)
    (I : Nat → Heap → Prop) (IX : Code → Heap → Prop) (h0 : I 0 η) (hctx : ∀ i η' tl, I i η' → Ctx (η' ++ tl))
    (hbody : ∀ l tl tl' i e η', encs[i]? = some e → I i η' → T (Fence.wide.inRound l) P S w0 n (Exit.then (Swap S w0 tl tl' fun a w => body.wpIn (Fence.wide.inRound l) 0 P (RQ S w0 I IX i tl') a w) (fun _ _ _ => False)) assign [] ((ps.toList.zip e).reverse ++ σ) (η' ++ tl))
    (hdone : ∀ r η', I encs.length η' → TQ S w0 n (Q .normal) ({ target := .collected r, args := #[] } :: ds) σ ([(r, .deferred (some []))] :: η'))
    (hstop : ∀ r c η', IX c η' → T Fence.wide P S w0 n Q c ({ target := .collected r, args := #[] } :: ds) σ ([(r, .deferred (some []))] :: η')) :
    T Fence.wide P S w0 n Q (.rangeFunc g ps assign body) ds σ η := fun a w hk hh => by
  refine wpIn_rangeFunc fun fn hfn => ?_
  let rec' : LoopState → Option Code → Loop := fun st pend => { state := st, pending := pend, fn := fn, tmps := a.tmps, params := ps, assign := assign, body := body, defers := w.heap.size }
  have hh1 := (hh.alloc (.deferred (some []))).alloc (.loop (rec' .ready none))
  have hl : (({ w with heap := w.heap.push (.deferred (some [])) } : World).heap.size) = w.heap.size + 1 := by simp
  rw [hl] at hh1
  obtain ⟨W1, hW1⟩ : ∃ W1 : World, W1 = { heap := (w.heap.push (.deferred (some []))).push (.loop (rec' .ready none)), tape := w.tape, drawn := w.drawn, os := w.os, output := w.output } := ⟨_, rfl⟩
  have hh2 : Hp S w0 (η ++ [[(w.heap.size + 1, .loop (rec' .ready none))], [(w.heap.size, .deferred (some []))]]) W1 := by
    rw [hW1]; exact Hp.rot (A := [[(w.heap.size + 1, .loop (rec' .ready none))], [(w.heap.size, .deferred (some []))]]) hh1
  have hargs : fst.toArray ++ #[.func (.yield (w.heap.size + 1)) #[] #[]] ++ cap.toArray = (fst ++ .func (.yield (w.heap.size + 1)) #[] #[] :: cap).toArray := by simp
  refine ⟨w.heap.size + 1, [{ target := .collected w.heap.size, args := #[] }], W1, ⟨.fn (.func f) cap.toArray, fst.toArray ++ #[.func (.yield (w.heap.size + 1)) #[] #[]]⟩, W1, f, (fst ++ .func (.yield (w.heap.size + 1)) #[] #[] :: cap).toArray, W1, ?_, ?_, fun _ _ => trivial, ?_, fun h => (by simp [Fence.wide] at h), ?_⟩
  · rw [hW1]
    simp only [Instr.enterLoop, show Fence.wide.round = none from rfl, Sem.run_bind, run_newObj, Sem.run_pure, Result.andThen_ok]
    simp only [Array.size_push]
    rfl
  · have hgv := hk.ev hg
    have hm : Array.map a.eval #[Operand.const (.func (.yield (w.heap.size + 1)) #[] #[])] = #[.func (.yield (w.heap.size + 1)) #[] #[]] := by simp [Act.eval]
    simp only [resolve, hgv, hm, Deferred.ofValue, Sem.run_pure]
  · simp only [invoke]
    rw [hargs, Ent.eq]
  · have key := hit (w.heap.size + 1) (fun i η' => ∃ ηu, I i ηu ∧ η' = ηu ++ [[(w.heap.size + 1, .loop (rec' .ready none))], [(w.heap.size, .deferred (some []))]])
      (fun η' => ∃ c ηu, IX c ηu ∧ η' = ηu ++ [[(w.heap.size + 1, .loop (rec' .done (some c)))], [(w.heap.size, .deferred (some []))]]) _
      (by rintro i η' ⟨ηu, hi, rfl⟩; exact hctx i ηu _ hi) ?_ ⟨η, h0, rfl⟩ W1 hh2
    · refine callsIn_open open_wide (key.mono ?_)
      have fin : ∀ (st : LoopState) (pend : Option Code) (ηu : Heap) (w3 : World), st ≠ .busy → Hp S w0 (ηu ++ [[(w.heap.size + 1, .loop (rec' st pend))], [(w.heap.size, .deferred (some []))]]) w3 →
          ∃ w4, (Instr.endLoop (w.heap.size + 1)).run P w3 = .ok pend w4 ∧ Hp S w0 ([(w.heap.size, .deferred (some []))] :: ηu) w4 := by
        intro st pend ηu w3 hst hh3
        have hb := (hh3.own (w.heap.size + 1, .loop (rec' st pend)) (by simp)).1
        have h4 := hh3.turnI (i := ηu.length) (b := w.heap.size + 1) (o := .loop (rec' st pend)) (by simp) (.loop { rec' st pend with state := .exhausted })
        have he : (ηu ++ [[(w.heap.size + 1, Obj.loop (rec' st pend))], [(w.heap.size, .deferred (some []))]]).set ηu.length [(w.heap.size + 1, .loop { rec' st pend with state := .exhausted })] = ηu ++ [[(w.heap.size + 1, .loop { rec' st pend with state := .exhausted })], [(w.heap.size, .deferred (some []))]] := by simp
        rw [he] at h4
        refine ⟨_, run_endLoop hb hst, (Hp.rot h4).sub (fun p hp => ?_) ?_⟩
        · simp only [List.flatten_cons, List.mem_append] at hp
          simp only [List.flatten_append, List.flatten_cons, List.flatten_nil, List.mem_append]
          rcases hp with h | h
          · exact .inl (.inr (.inl h))
          · exact .inr h
        · have := (Hp.rot h4).once
          simp only [List.flatten_cons, List.cons_append, List.nil_append, List.map_cons] at this ⊢
          exact (List.nodup_cons.1 this).2
      rintro e w3 ⟨v, η', rfl, hh3, (⟨ηu, hi, rfl⟩ | ⟨c, ηu, hx, rfl⟩)⟩
      · obtain ⟨w4, hr, hh4⟩ := fin .ready none ηu w3 (by simp) hh3
        exact ⟨none, w4, hr, hdone _ ηu hi _ _ ⟨hk.size, by simp [hk.defers], hk.slot⟩ hh4⟩
      · obtain ⟨w4, hr, hh4⟩ := fin .done (some c) ηu w3 (by simp) hh3
        exact ⟨some c, w4, hr, hstop _ c ηu hx _ _ ⟨hk.size, by simp [hk.defers], hk.slot⟩ hh4 ⟩
    · rintro i e η' he ⟨ηu, hi, rfl⟩ w3 hh3
      have hb3 := (hh3.own (w.heap.size + 1, .loop (rec' .ready none)) (by simp)).1
      have hlen : e.toArray.size = (rec' .ready none).params.size := by simpa [rec'] using hps e (List.mem_of_getElem? he)
      refine ⟨_, _, _, _, run_yield hb3 hlen, ?_⟩
      have setT : ∀ (o o' : Obj) (η1 : Heap) (w' : World), Hp S w0 (η1 ++ [[(w.heap.size + 1, o)], [(w.heap.size, .deferred (some []))]]) w' → Hp S w0 (η1 ++ [[(w.heap.size + 1, o')], [(w.heap.size, .deferred (some []))]]) (w'.putObj (w.heap.size + 1) o') := by
        intro o o' η1 w' hh'
        have h4 := hh'.turnI (i := η1.length) (b := w.heap.size + 1) (o := o) (by simp) o'
        have he : (η1 ++ [[(w.heap.size + 1, o)], [(w.heap.size, Obj.deferred (some []))]]).set η1.length [(w.heap.size + 1, o')] = η1 ++ [[(w.heap.size + 1, o')], [(w.heap.size, .deferred (some []))]] := by simp
        rwa [he] at h4
      refine roundIn_of_wpIn trivial ?_
      have hb := hbody (w.heap.size + 1) [[(w.heap.size + 1, .loop (rec' .ready none))], [(w.heap.size, .deferred (some []))]] [[(w.heap.size + 1, .loop (rec' .busy none))], [(w.heap.size, .deferred (some []))]] i e ηu he hi
        { tmps := (ps.toList.zip e).foldl (fun t (x : Nat × Value) => t.setIfInBounds x.1 x.2) a.tmps, defers := [] } w3 ⟨by rw [foldl_size]; exact hk.size, rfl, kn_params _ _ _ hk.slot (fun p hp => by
          rw [hk.size]; exact hpn p.1 (List.of_mem_zip hp).1)⟩ hh3
      have hz : (((rec' .ready none).params.zip e.toArray).foldl (fun tmps (x : Nat × Value) => tmps.setIfInBounds x.1 x.2) (rec' .ready none).tmps) = (ps.toList.zip e).foldl (fun t (x : Nat × Value) => t.setIfInBounds x.1 x.2) a.tmps := by
        rw [← Array.foldl_toList]
        simp [rec']
      rw [hz]
      refine wpIn_mono hb ?_
      intro ex a1 w1 hq
      cases ex with
      | normal =>
        obtain ⟨⟨η1, hh4⟩, hq⟩ := hq
        have hb4 := (hh4.own (w.heap.size + 1, .loop (rec' .ready none)) (by simp)).1
        refine ⟨_, run_beginRound hb4 rfl, wpIn_mono (hq _ fun η2 hh5 => setT _ (.loop { rec' .ready none with state := .busy }) η2 w1 hh5) ?_⟩
        have fin : ∀ (jump : Option Code) (η2 : Heap) (w5 : World), Hp S w0 (η2 ++ [[(w.heap.size + 1, .loop (rec' .busy none))], [(w.heap.size, .deferred (some []))]]) w5 →
            (Instr.endRound (w.heap.size + 1) jump).run P w5 = .ok (.bool jump.isNone) (w5.putObj (w.heap.size + 1) (.loop (rec' (if jump.isNone then .ready else .done) jump))) ∧
            Hp S w0 (η2 ++ [[(w.heap.size + 1, .loop (rec' (if jump.isNone then .ready else .done) jump))], [(w.heap.size, .deferred (some []))]]) (w5.putObj (w.heap.size + 1) (.loop (rec' (if jump.isNone then .ready else .done) jump))) := by
          intro jump η2 w5 hh6
          have hb6 := (hh6.own (w.heap.size + 1, .loop (rec' .busy none)) (by simp)).1
          exact ⟨run_endRound jump hb6, setT _ _ η2 w5 hh6⟩
        intro ex2 a2 w5 hq2
        cases ex2 with
        | normal =>
          obtain ⟨η2, hi2, hh6⟩ := hq2
          obtain ⟨hr, hh7⟩ := fin none η2 w5 hh6
          exact ⟨_, _, hr, true, _, rfl, hh7, ⟨η2, hi2, rfl⟩⟩
        | ret =>
          obtain ⟨η2, hi2, hh6⟩ := hq2
          obtain ⟨hr, hh7⟩ := fin (some .ret) η2 w5 hh6
          exact ⟨_, _, hr, false, _, rfl, hh7, .ret, η2, hi2, rfl⟩
        | exit id =>
          obtain ⟨η2, hi2, hh6⟩ := hq2
          obtain ⟨hr, hh7⟩ := fin (some (.exit id)) η2 w5 hh6
          exact ⟨_, _, hr, false, _, rfl, hh7, .exit id, η2, hi2, rfl⟩
        | goto t =>
          obtain ⟨η2, hi2, hh6⟩ := hq2
          obtain ⟨hr, hh7⟩ := fin (some (.goto t)) η2 w5 hh6
          exact ⟨_, _, hr, false, _, rfl, hh7, .goto t, η2, hi2, rfl⟩
        | panic ch => exact hq2.elim
        | outgrown => exact hq2.elim
      | ret => exact hq.elim
      | exit id => exact hq.elim
      | goto t => exact hq.elim
      | panic ch => exact hq.elim
      | outgrown => exact hq.elim

end
end Go.Sl
/- Operations whose run is told; panics; calls through an interface. -/
namespace Go.Sl

def evp (σ : Env) : List (Nat × Operand) → Option (List (Nat × Value))
  | [] => some []
  | (i, x) :: r => match ev σ x, evp σ r with
    | some v, some vs => some ((i, v) :: vs)
    | _, _ => none
theorem evp_map {n : Nat} {ds : List Deferred} {σ : Env} {a : Act} (h : Kn n ds σ a) : ∀ (xs : List (Nat × Operand)) (vs : List (Nat × Value)), evp σ xs = some vs → xs.map (fun (i, x) => (i, a.eval x)) = vs
  | [], vs, hx => by simp [evp] at hx; simp [hx]
  | (i, x) :: r, vs, hx => by
    unfold evp at hx
    cases h1 : Sl.ev σ x with
    | none => simp [h1] at hx
    | some v =>
      cases h2 : evp σ r with
      | none => simp [h1, h2] at hx
      | some us =>
        simp [h1, h2] at hx
        subst hx
        simp [h.ev h1, evp_map h r us h2]
theorem Kn.evp {n : Nat} {ds : List Deferred} {σ : Env} {a : Act} (h : Kn n ds σ a) {xs : Array (Nat × Operand)} {vs : List (Nat × Value)} (hx : Sl.evp σ xs.toList = some vs) : xs.map (fun (i, x) => (i, a.eval x)) = vs.toArray := by
  have := evp_map h xs.toList vs hx
  rw [← this]
  cases xs
  exact List.map_toArray

section
variable {F : Fence} {P : Program} {S : Nat → Prop} {w0 w : World} {n : Nat} {Q : Exit → Act → World → Prop} {ds : List Deferred} {σ : Env} {η : Heap} {ops : Array Oper} {rest : List Oper} {d : Nat} {ty : TypeId} {pos : String} {af : Array Edge}

theorem TL.binR (hF : Open F) {op : BinOp} {xt yt : TypeId} {x y : Operand} {v u r : Value} (hx : ev σ x = some v) (hy : ev σ y = some u) (hr : ∀ w, (do eqGuard op xt x y v u; binOp op xt v u : Sem Value).run P w = .ok r w) (hn : Nat.blt d n = true)
    (h : TL F P S w0 n ops Q rest ds ((d, r) :: σ) η) : TL F P S w0 n ops Q (⟨some d, .binOp op xt x y yt, ty, pos, af, none⟩ :: rest) ds σ η :=
  TL.pure hF (by intro c; simp) hn (fun a w hk _ => by
    have := hr w
    simp only [execOp, hk.ev hx, hk.ev hy]
    rw [Sem.run_bind, this]; rfl) h
theorem TL.unR (hF : Open F) {op : UnOp} {xt : TypeId} {x : Operand} {v r : Value} (hx : ev σ x = some v) (hr : ∀ w, (Op.unary op v).run P w = .ok r w) (hn : Nat.blt d n = true)
    (h : TL F P S w0 n ops Q rest ds ((d, r) :: σ) η) : TL F P S w0 n ops Q (⟨some d, .unOp op xt x, ty, pos, af, none⟩ :: rest) ds σ η :=
  TL.pure hF (by intro c; simp) hn (fun a w hk _ => by simp [execOp, hk.ev hx, hr]) h
theorem TL.convertR (hF : Open F) {s t : TypeId} {x : Operand} {v r : Value} (hx : ev σ x = some v) (hr : ∀ w, (convert s t v).run P w = .ok r w) (hn : Nat.blt d n = true)
    (h : TL F P S w0 n ops Q rest ds ((d, r) :: σ) η) : TL F P S w0 n ops Q (⟨some d, .convert s t x, ty, pos, af, none⟩ :: rest) ds σ η :=
  TL.pure hF (by intro c; simp) hn (fun a w hk _ => by simp [execOp, hk.ev hx, hr]) h
theorem TL.makeInterfaceR (hF : Open F) {t : TypeId} {x : Operand} {v r : Value} (hx : ev σ x = some v) (hr : ∀ w, (Instr.makeInterface t v).run P w = .ok r w) (hn : Nat.blt d n = true)
    (h : TL F P S w0 n ops Q rest ds ((d, r) :: σ) η) : TL F P S w0 n ops Q (⟨some d, .makeInterface t x, ty, pos, af, none⟩ :: rest) ds σ η :=
  TL.pure hF (by intro c; simp) hn (fun a w hk _ => by simp [execOp, hk.ev hx, hr]) h
theorem TL.fieldR (hF : Open F) {t : TypeId} {f : Nat} {x : Operand} {v r : Value} (hx : ev σ x = some v) (hr : ∀ w, (Instr.field t v f).run P w = .ok r w) (hn : Nat.blt d n = true)
    (h : TL F P S w0 n ops Q rest ds ((d, r) :: σ) η) : TL F P S w0 n ops Q (⟨some d, .field t x f, ty, pos, af, none⟩ :: rest) ds σ η :=
  TL.pure hF (by intro c; simp) hn (fun a w hk _ => by simp [execOp, hk.ev hx, hr]) h
theorem TL.indexR (hF : Open F) {t : TypeId} {x y : Operand} {v u r : Value} (hx : ev σ x = some v) (hy : ev σ y = some u) (hr : ∀ w, (Instr.index t v u).run P w = .ok r w) (hn : Nat.blt d n = true)
    (h : TL F P S w0 n ops Q rest ds ((d, r) :: σ) η) : TL F P S w0 n ops Q (⟨some d, .index t x y, ty, pos, af, none⟩ :: rest) ds σ η :=
  TL.pure hF (by intro c; simp) hn (fun a w hk _ => by simp [execOp, hk.ev hx, hk.ev hy, hr]) h
theorem TL.typeAssertR (hF : Open F) {xt t : TypeId} {ok : Bool} {x : Operand} {v r : Value} (hx : ev σ x = some v) (hr : ∀ w, (Instr.typeAssert v xt t ok).run P w = .ok r w) (hn : Nat.blt d n = true)
    (h : TL F P S w0 n ops Q rest ds ((d, r) :: σ) η) : TL F P S w0 n ops Q (⟨some d, .typeAssert x xt t ok, ty, pos, af, none⟩ :: rest) ds σ η :=
  TL.pure hF (by intro c; simp) hn (fun a w hk _ => by simp [execOp, hk.ev hx, hr]) h
theorem TL.nilCheck (hF : Open F) {x : Operand} {ad : Addr} (hx : ev σ x = some (.pointer (some ad))) (hn : Nat.blt d n = true)
    (h : TL F P S w0 n ops Q rest ds ((d, .pointer (some ad)) :: σ) η) : TL F P S w0 n ops Q (⟨some d, .nilCheck x, ty, pos, af, none⟩ :: rest) ds σ η :=
  TL.pure hF (by intro c; simp) hn (fun a w hk _ => by simp [execOp, hk.ev hx]) h
theorem TL.build (hF : Open F) {t : TypeId} {ps : Array (Nat × Operand)} {vs : List (Nat × Value)} {r : Value} (hp : evp σ ps.toList = some vs) (hr : ∀ w, (Instr.build t vs.toArray).run P w = .ok r w) (hn : Nat.blt d n = true)
    (h : TL F P S w0 n ops Q rest ds ((d, r) :: σ) η) : TL F P S w0 n ops Q (⟨some d, .build t ps, ty, pos, af, none⟩ :: rest) ds σ η :=
  TL.pure hF (by intro c; simp) hn (fun a w hk _ => by
    have := hr w
    simp only [execOp, hk.evp hp]
    rw [Sem.run_bind, this]; rfl) h
theorem TL.buildSlice (hF : Open F) {t e : TypeId} {k : Nat} {ps : Array (Nat × Operand)} {vs : List (Nat × Value)} {cs : Array Value} (hp : evp σ ps.toList = some vs)
    (hr : ∀ w, (Instr.buildSlice t k vs.toArray).run P w = .ok (.slice (some ⟨w.heap.size, 0, none⟩) k k) { w with heap := w.heap.push (.cells cs e (0, 0)) }) (hn : Nat.blt d n = true)
    (h : ∀ b, TL F P S w0 n ops Q rest ds ((d, .slice (some ⟨b, 0, none⟩) k k) :: σ) ([(b, .cells cs e (0, 0))] :: η)) : TL F P S w0 n ops Q (⟨some d, .buildSlice t k ps, ty, pos, af, none⟩ :: rest) ds σ η :=
  TL.val hF (by intro c; simp) hn fun a w hk hh => ⟨_, _, _, by
    have := hr w
    simp only [execOp, hk.evp hp]
    rw [Sem.run_bind, this]; rfl, hh.alloc _, h _⟩
/-- min and max of two integers; and the other builtins whose run is told. -/
theorem TL.builtinR (hF : Open F) {b : Builtin} {args : Array Operand} {ats : Array TypeId} {vs : List Value} {r : Value} (ha : evs σ args.toList = some vs) (hr : ∀ w cs, (builtin b ats ty cs vs.toArray).run P w = .ok (.value r) w) (hn : Nat.blt d n = true)
    (h : TL F P S w0 n ops Q rest ds ((d, r) :: σ) η) : TL F P S w0 n ops Q (⟨some d, .call ⟨.builtin b, args, ats⟩, ty, pos, af, none⟩ :: rest) ds σ η :=
  TL.pure hF (by intro c; simp) hn (fun a w hk _ => by simp [execOp, resolve, invoke, hk.evs ha, hr]) h

/-- A panic of an interface value. -/
theorem TL.panic (hF : Open F) {dst : Option Nat} {x : Operand} {t : TypeId} {v : Value} (hx : ev σ x = some (.iface t v)) (h : TQ S w0 n (Q (.panic [{ v := .iface t v, recovered := false }])) ds σ η) :
    TL F P S w0 n ops Q (⟨dst, .panic x, ty, pos, af, none⟩ :: rest) ds σ η := TL.op hF rfl (by intro c; simp) fun a w hk hh => by
  simp only [execOp, hk.ev hx, Instr.panic, Sem.run_bind, run_goPanic, Result.andThen_halt, Oper.uponIn]
  exact h a w hk hh

/-- A call through an interface value that the walk knows. -/
theorem TL.invokeG (hF : Open F) {dst : Option Nat} {rv : Operand} {m : String} {args : Array Operand} {ats : Array TypeId} {g : FuncId} {t : TypeId} {x rcv : Value} {vs : List Value} [Ent P g] {R : Value → Heap → Prop} {E : List PanicEntry → Heap → Prop}
    (hrv : ev σ rv = some (.iface t x)) (ha : evs σ args.toList = some vs) (hm : ∀ w, (method (P.types.size + Made.depth) t x m).run P w = .ok (g, rcv) w)
    (hc : RtE P g (rcv :: vs).toArray S w0 η R E) (h : ∀ v η', R v η' → ∀ a w, Kn n ds σ a → Hp S w0 η' w → wpListIn F 0 P ops Q rest (a.put dst v) w) (he : ∀ ch η', E ch η' → TQ S w0 n (Q (.panic ch)) ds σ η') :
    TL F P S w0 n ops Q (⟨dst, .call ⟨.invoke rv m, args, ats⟩, ty, pos, af, none⟩ :: rest) ds σ η := TL.op hF rfl (by intro c; simp) fun a w hk hh => by
  simp only [execOp, resolve, hk.ev hrv, hk.evs ha, Sem.run_bind, Sem.run_pure, Result.andThen_ok, invoke]
  have e1 : ((#[Value.iface t x] ++ vs.toArray)[0]? : Option Value) = some (.iface t x) := by simp
  have e2 : (#[Value.iface t x] ++ vs.toArray).extract 1 (#[Value.iface t x] ++ vs.toArray).size = vs.toArray := by simp
  simp only [e1, e2, callMethod, Sem.run_bind, run_program, Result.andThen_ok, hm]
  have e3 : (#[rcv] ++ vs.toArray) = (rcv :: vs).toArray := by simp
  rw [e3, Ent.eq]
  refine ⟨fun h => (by rw [hF.depth] at h; cases h), callsIn_open hF ((hc w hh).mono ?_)⟩
  rintro e w' (⟨v, η', rfl, hh', hr⟩ | ⟨ch, η', rfl, hh', hr⟩)
  · exact h v η' hr _ _ hk hh'
  · exact he ch η' hr _ _ hk hh'
theorem TL.invokeNE (hF : Open F) {rv : Operand} {m : String} {args : Array Operand} {ats : Array TypeId} {g : FuncId} {t : TypeId} {x rcv : Value} {vs : List Value} [Ent P g] {R : Value → Heap → Prop} {E : List PanicEntry → Heap → Prop}
    (hrv : ev σ rv = some (.iface t x)) (ha : evs σ args.toList = some vs) (hm : ∀ w, (method (P.types.size + Made.depth) t x m).run P w = .ok (g, rcv) w)
    (hc : RtE P g (rcv :: vs).toArray S w0 η R E) (h : ∀ v η', R v η' → TL F P S w0 n ops Q rest ds σ η') (he : ∀ ch η', E ch η' → TQ S w0 n (Q (.panic ch)) ds σ η') :
    TL F P S w0 n ops Q (⟨none, .call ⟨.invoke rv m, args, ats⟩, ty, pos, af, none⟩ :: rest) ds σ η :=
  TL.invokeG hF hrv ha hm hc (fun v η' hr _a _w hk hh => h v η' hr _ _ hk hh) he
theorem TL.invoke (hF : Open F) {rv : Operand} {m : String} {args : Array Operand} {ats : Array TypeId} {g : FuncId} {t : TypeId} {x rcv : Value} {vs : List Value} [Ent P g] {R : Value → Heap → Prop}
    (hrv : ev σ rv = some (.iface t x)) (ha : evs σ args.toList = some vs) (hm : ∀ w, (method (P.types.size + Made.depth) t x m).run P w = .ok (g, rcv) w)
    (hc : Rt P g (rcv :: vs).toArray S w0 η R) (hn : Nat.blt d n = true) (h : ∀ v η', R v η' → TL F P S w0 n ops Q rest ds ((d, v) :: σ) η') :
    TL F P S w0 n ops Q (⟨some d, .call ⟨.invoke rv m, args, ats⟩, ty, pos, af, none⟩ :: rest) ds σ η :=
  TL.invokeG hF hrv ha hm (hc.toE (E := fun _ _ => False)) (fun v η' hr _a _w hk hh => h v η' hr _ _ (hk.put (Nat.le_of_ble_eq_true hn) v) hh) (fun _ _ h => h.elim)

end

/-- Lists of records of k cells each. -/
theorem flat_get {α : Type} (k : Nat) (f : α → List Value) (hf : ∀ x, (f x).length = k) : ∀ (l : List α) (i j : Nat), j < k → (l.flatMap f)[i * k + j]? = (l[i]?).bind fun x => (f x)[j]?
  | [], i, j, hj => by simp
  | x :: r, 0, j, hj => by simp [List.getElem?_append, hf x, hj]
  | x :: r, i + 1, j, hj => by
    have : (i + 1) * k + j = (f x).length + (i * k + j) := by rw [hf x, Nat.add_mul]; omega
    rw [List.flatMap_cons, this, List.getElem?_append_right (by omega), Nat.add_sub_cancel_left, flat_get k f hf r i j hj]
    simp
end Go.Sl
/- Scopes; blocks in another order; maps: look, write, go through; arrays in memory. -/
namespace Go.Sl

theorem stepR_scope {P : Program} {b : Frame} {a : Act} {k : List Item} {cs : List Frame} {w : World} {c : Code} : step P (lone (b.atR a (.code (.scope c) :: k)) cs w) = .next (lone (b.atR a (.code c :: .inScope c :: k)) cs w) :=
  step_lone_go (by simp [stepG, stepG.exec, Frame.atR])
theorem stepR_inScope {P : Program} {b : Frame} {a : Act} {k : List Item} {cs : List Frame} {w : World} {c : Code} : step P (lone (b.atR a (.inScope c :: k)) cs w) = .next (lone (b.atR a k) cs w) :=
  step_lone_go (by simp [stepG, stepG.exec, Frame.atR])
/-- A scope whose ways out are no jumps. -/
def noGoto (Q : Exit → Act → World → Prop) : Exit → Act → World → Prop
  | .goto _, _, _ => False
  | e, a, w => Q e a w
theorem wpIn_scope {F : Fence} {P : Program} {c : Code} {Q : Exit → Act → World → Prop} {a : Act} {w : World} (h : c.wpIn F 0 P (noGoto Q) a w) : (Code.scope c).wpIn F 0 P Q a w := by
  intro b k cs hro hb hr
  have h0 : (lone (b.atR a (.code (.scope c) :: k)) cs w).fenced P F := fenced_calm hb hr rfl
  obtain ⟨e, a₁, w₁, hq, harr⟩ := h b (.inScope c :: k) cs hro hb hr
  cases e with
  | normal => exact ⟨.normal, a₁, w₁, hq, .head h0 stepR_scope (StepsIn.trans harr (.one (fenced_calm hb hr rfl) stepR_inScope))⟩
  | exit id =>
    have hx : exitTo id (.inScope c :: k) = exitTo id k := by simp [exitTo]
    exact ⟨.exit id, a₁, w₁, hq, fun k' hk => .head h0 stepR_scope (harr.1 k' (by rw [hx]; exact hk)),
      fun hr' hk => let ⟨k₁, h1, h2⟩ := harr.2 hr' (by rw [hx]; exact hk); ⟨k₁, h1, .head h0 stepR_scope h2⟩⟩
  | goto l => exact hq.elim
  | ret => exact ⟨_, a₁, w₁, hq, .of_steps (.one h0 stepR_scope) harr⟩
  | panic ch => exact ⟨_, a₁, w₁, hq, .of_steps (.one h0 stepR_scope) harr⟩
  | outgrown => exact ⟨_, a₁, w₁, hq, .of_steps (.one h0 stepR_scope) harr⟩

section
variable {F : Fence} {P : Program} {S : Nat → Prop} {w0 w : World} {n : Nat} {Q : Exit → Act → World → Prop} {ds : List Deferred} {σ : Env} {η : Heap} {ops : Array Oper} {rest : List Oper} {d : Nat} {ty : TypeId} {pos : String} {af : Array Edge}
theorem T.scope {c : Code} (h : T F P S w0 n (noGoto Q) c ds σ η) : T F P S w0 n Q (.scope c) ds σ η := fun a w hk hh => wpIn_scope (h a w hk hh)
theorem TQ.scope_n (h : TQ S w0 n (Q .normal) ds σ η) : TQ S w0 n (noGoto Q .normal) ds σ η := h
theorem TQ.scope_r (h : TQ S w0 n (Q .ret) ds σ η) : TQ S w0 n (noGoto Q .ret) ds σ η := h
theorem TQ.scope_p {ch : List PanicEntry} (h : TQ S w0 n (Q (.panic ch)) ds σ η) : TQ S w0 n (noGoto Q (.panic ch)) ds σ η := h
theorem TQ.scope_x {id : Nat} (h : TQ S w0 n (Q (.exit id)) ds σ η) : TQ S w0 n (noGoto Q (.exit id)) ds σ η := h

theorem Hp.perm {η' : Heap} (hh : Hp S w0 η w) (hp : η'.Perm η) : Hp S w0 η' w := by
  have hf : η'.flatten.Perm η.flatten := hp.flatten
  exact hh.sub (fun p h => hf.mem_iff.1 h) ((hf.map _).nodup_iff.2 hh.once)
theorem TQ.hperm {K : Act → World → Prop} (η' : Heap) (hp : η'.Perm η) (h : TQ S w0 n K ds σ η') : TQ S w0 n K ds σ η := fun a w hk hh => h a w hk (hh.perm hp)
theorem T.hperm {c : Code} (η' : Heap) (hp : η'.Perm η) (h : T F P S w0 n Q c ds σ η') : T F P S w0 n Q c ds σ η := fun a w hk hh => h a w hk (hh.perm hp)
theorem TL.hperm {l : List Oper} (η' : Heap) (hp : η'.Perm η) (h : TL F P S w0 n ops Q l ds σ η') : TL F P S w0 n ops Q l ds σ η := fun a w hk hh => h a w hk (hh.perm hp)

/-! Maps -/
def fidx {α : Type} [DecidableEq α] (k : α) : List α → Option Nat
  | [] => none
  | a :: r => if k = a then some 0 else (fidx k r).map (· + 1)
def mget {α β : Type} [DecidableEq α] (k : α) : List (α × β) → Option β
  | [] => none
  | (a, b) :: r => if k = a then some b else mget k r
def mput {α β : Type} [DecidableEq α] (k : α) (v : β) : List (α × β) → List (α × β)
  | [] => [(k, v)]
  | (a, b) :: r => if k = a then (a, v) :: r else (a, b) :: mput k v r
def mdel {α β : Type} [DecidableEq α] (k : α) : List (α × β) → List (α × β)
  | [] => []
  | (a, b) :: r => if k = a then r else (a, b) :: mdel k r
theorem mget_mput {α β : Type} [DecidableEq α] (k k' : α) (v : β) : ∀ (m : List (α × β)), mget k' (mput k v m) = if k' = k then some v else mget k' m
  | [] => by simp [mput, mget]
  | (a, b) :: r => by
    have := mget_mput k k' v r
    unfold mput
    by_cases h : k = a
    · subst h; by_cases h2 : k' = k <;> simp [h2, mget]
    · simp only [h, if_false, mget, this]
      by_cases h2 : k' = a
      · subst h2; simp [Ne.symm h]
      · simp [h2]
theorem mget_mem {α β : Type} [DecidableEq α] {k : α} {v : β} : ∀ {m : List (α × β)}, mget k m = some v → (k, v) ∈ m
  | (a, b) :: r, h => by
    unfold mget at h
    split at h
    · cases h; subst_vars; simp
    · exact List.mem_cons_of_mem _ (mget_mem h)
theorem mget_none {α β : Type} [DecidableEq α] {k : α} : ∀ {m : List (α × β)}, mget k m = none ↔ ∀ p ∈ m, p.1 ≠ k
  | [] => by simp [mget]
  | (a, b) :: r => by
    unfold mget
    by_cases h : k = a
    · subst h; simp
    · simp [h, mget_none (m := r), Ne.symm h]
theorem mget_of_mem {α β : Type} [DecidableEq α] {k : α} {v : β} : ∀ {m : List (α × β)}, (m.map (·.1)).Nodup → (k, v) ∈ m → mget k m = some v
  | (a, b) :: r, hn, h => by
    simp only [List.map_cons, List.nodup_cons] at hn
    unfold mget
    rcases List.mem_cons.1 h with h | h
    · cases h; simp
    · have : k ≠ a := fun e => hn.1 (by rw [← e]; exact List.mem_map.2 ⟨_, h, rfl⟩)
      simp [this, mget_of_mem hn.2 h]
theorem mput_keys {α β : Type} [DecidableEq α] (k : α) (v : β) : ∀ (m : List (α × β)), (mput k v m).map (·.1) = if (mget k m).isSome then m.map (·.1) else m.map (·.1) ++ [k]
  | [] => by simp [mput, mget]
  | (a, b) :: r => by
    have := mput_keys k v r
    unfold mput mget
    by_cases h : k = a
    · simp [h]
    · simp only [h, if_false, List.map_cons, this]
      split <;> simp
theorem mput_nodup {α β : Type} [DecidableEq α] {k : α} {v : β} {m : List (α × β)} (h : (m.map (·.1)).Nodup) : ((mput k v m).map (·.1)).Nodup := by
  rw [mput_keys]
  cases hg : mget k m with
  | some x => simpa using h
  | none =>
    simp only [Option.isSome_none, Bool.false_eq_true, if_false]
    rw [List.nodup_append]
    refine ⟨h, by simp, ?_⟩
    rintro a ha b hb rfl
    simp only [List.mem_singleton] at hb; subst hb
    obtain ⟨p, hp, rfl⟩ := List.mem_map.1 ha
    exact mget_none.1 hg p hp rfl

/-- What a map of memory holds. -/
structure MObj {α β : Type} (K : α → Value) (V : β → Value) (m : List (α × β)) (es : Array MapEntry) (clock : Nat) : Prop where
  keys : es.toList.map (·.key) = m.map fun p => K p.1
  vals : es.toList.map (·.val) = m.map fun p => V p.2
  nd : (m.map (·.1)).Nodup
  born : (es.toList.map (·.born)).Nodup
  old : ∀ e ∈ es.toList, e.born < clock
theorem MObj.nil {α β : Type} (K : α → Value) (V : β → Value) : MObj K V ([] : List (α × β)) #[] 0 := ⟨by simp, by simp, by simp, by simp, by simp⟩
/-- Keys of a type. -/
class MKey (P : Program) (kt : TypeId) {α : Type} (K : α → Value) [DecidableEq α] : Prop where
  chk : ∀ (k : α) e w, (Instr.checkKey e 10000 kt (K k)).run P w = .ok () w
  find : ∀ (k : α) (es : List MapEntry) (l : List α) w, es.map (·.key) = l.map K → (Instr.findKey kt (K k) es).run P w = .ok ((fidx k l).map fun i => (i, ((es[i]?).map (·.val)).getD undef)) w
  same : ∀ k : α, Instr.sameBits 10000 (K k) (K k) = true

theorem fidx_get {α β : Type} [DecidableEq α] (k : α) : ∀ (m : List (α × β)), (fidx k (m.map (·.1))).bind (fun i => (m[i]?).map (·.2)) = mget k m
  | [] => rfl
  | (a, b) :: r => by
    have := fidx_get k r
    simp only [List.map_cons, fidx, mget]
    split
    · simp
    · rw [← this]
      cases fidx k (r.map (·.1)) <;> simp
theorem fidx_lt {α : Type} [DecidableEq α] {k : α} : ∀ {l : List α} {i : Nat}, fidx k l = some i → l[i]? = some k
  | [], i, h => by simp [fidx] at h
  | a :: r, i, h => by
    simp only [fidx] at h
    split at h
    · cases h; subst_vars; rfl
    · cases hf : fidx k r with
      | none => simp [hf] at h
      | some j => simp [hf] at h; subst h; simpa using fidx_lt hf
theorem mput_at {α β : Type} [DecidableEq α] {k : α} (v : β) : ∀ {m : List (α × β)} {i : Nat}, fidx k (m.map (·.1)) = some i → mput k v m = m.modify i fun p => (p.1, v)
  | [], i, h => by simp [fidx] at h
  | (a, b) :: r, i, h => by
    simp only [List.map_cons, fidx] at h
    unfold mput
    split at h
    · cases h; subst_vars; simp
    · rename_i hne
      cases hf : fidx k (r.map (·.1)) with
      | none => simp [hf] at h
      | some j => simp [hf] at h; subst h; simp [hne, mput_at v hf]
theorem mput_new {α β : Type} [DecidableEq α] {k : α} (v : β) : ∀ {m : List (α × β)}, fidx k (m.map (·.1)) = none → mput k v m = m ++ [(k, v)]
  | [], h => rfl
  | (a, b) :: r, h => by
    simp only [List.map_cons, fidx] at h
    unfold mput
    split at h
    · cases h
    · rename_i hne
      cases hf : fidx k (r.map (·.1)) with
      | none => simp [hne, mput_new v hf]
      | some j => simp [hf] at h
theorem mdel_at {α β : Type} [DecidableEq α] {k : α} : ∀ {m : List (α × β)} {i : Nat}, fidx k (m.map (·.1)) = some i → mdel k m = m.eraseIdx i
  | [], i, h => by simp [fidx] at h
  | (a, b) :: r, i, h => by
    simp only [List.map_cons, fidx] at h
    unfold mdel
    split at h
    · cases h; subst_vars; simp
    · rename_i hne
      cases hf : fidx k (r.map (·.1)) with
      | none => simp [hf] at h
      | some j => simp [hf] at h; subst h; simp [hne, mdel_at hf]
theorem mdel_none {α β : Type} [DecidableEq α] {k : α} : ∀ {m : List (α × β)}, fidx k (m.map (·.1)) = none → mdel k m = m
  | [], h => rfl
  | (a, b) :: r, h => by
    simp only [List.map_cons, fidx] at h
    unfold mdel
    split at h
    · cases h
    · rename_i hne
      cases hf : fidx k (r.map (·.1)) with
      | none => simp [hne, mdel_none hf]
      | some j => simp [hf] at h

theorem find_asking {α : Type} [DecidableEq α] {K : α → Value} {kt : TypeId} (heq : ∀ a b w, (Op.equal kt (K a) (K b)).run P w = .ok (decide (a = b)) w) (k : α) : ∀ (es : List MapEntry) (l : List α) (i : Nat) w, es.map (·.key) = l.map K →
    (Instr.findAsking kt (K k) es i).run P w = .ok ((fidx k l).map fun j => (i + j, ((es[j]?).map (·.val)).getD undef)) w
  | [], l, i, w, h => by
    have : l = [] := by simpa using h.symm
    subst this; simp [Instr.findAsking, fidx]
  | e :: es, [], i, w, h => by simp at h
  | e :: es, a :: l, i, w, h => by
    simp only [List.map_cons, List.cons.injEq] at h
    unfold Instr.findAsking
    simp only [Sem.run_bind, h.1, heq, Result.andThen_ok, fidx]
    by_cases hk : k = a
    · simp [hk]
    · simp only [hk, decide_false, Bool.false_eq_true, if_false]
      rw [find_asking heq k es l (i + 1) w h.2]
      cases fidx k l <;> simp; omega
theorem find_int {kt : TypeId} {kk : IntKind} [Und P kt (.int kk)] (k : Int) (es : List MapEntry) (l : List Int) (w : World) (h : es.map (·.key) = l.map (Value.int kk)) :
    (Instr.findKey kt (.int kk k) es).run P w = .ok ((fidx k l).map fun j => (j, ((es[j]?).map (·.val)).getD undef)) w := by
  have key : ∀ (es : List MapEntry) (l : List Int) (i : Nat), es.map (·.key) = l.map (Value.int kk) → Instr.findNow (.int kk) (.int kk k) es i = some ((fidx k l).map fun j => (i + j, ((es[j]?).map (·.val)).getD undef)) := by
    intro es
    induction es with
    | nil =>
      intro l i h
      have : l = [] := by simpa using h.symm
      subst this; simp [Instr.findNow, fidx]
    | cons e es ih =>
      intro l i h
      cases l with
      | nil => simp at h
      | cons a l =>
        simp only [List.map_cons, List.cons.injEq] at h
        unfold Instr.findNow
        rw [h.1]
        simp only [Instr.sameNow, if_true, fidx]
        by_cases hk : k = a
        · subst hk; simp
        · have : (k == a) = false := by simp [hk]
          simp only [this, hk, if_false]
          rw [ih l (i + 1) h.2]
          cases fidx k l <;> simp; omega
  simp only [Instr.findKey, Sem.run_bind, run_underlying (t := kt) (d := .int kk), Result.andThen_ok]
  rw [key es l 0 h]
  simp
instance mkey_int {kt : TypeId} {kk : IntKind} [Und P kt (.int kk)] : MKey P kt (Value.int kk) where
  chk k e w := by
    unfold Instr.checkKey
    simp only [Sem.run_bind, run_underlying (t := kt) (d := .int kk), Result.andThen_ok]
    rfl
  find k es l w h := find_int k es l w h
  same k := by simp [Instr.sameBits]

theorem run_getMap {b : Nat} {es : Array MapEntry} {clock : Nat} (hb : w.heap[b]? = some (.map es clock)) : (getObj b).run P w = .ok (.map es clock) w := by simp [getObj, Sem.run, hb]
theorem run_setB {b : Nat} {o : Obj} (o' : Obj) (hb : w.heap[b]? = some o) (hm : (∃ es c, o = .map es c) ∨ ∃ m s l c, o = .mapIter m s l c) : (setObj b o').run P w = .ok () (putBlk w b o') := by
  rcases hm with ⟨es, c, rfl⟩ | ⟨m, s, l, c, rfl⟩ <;> simp [setObj, Sem.run, hb, putBlk]
theorem Hp.inMem (hh : Hp S w0 η w) {b : Nat} {o : Obj} (h : [(b, o)] ∈ η) : w.heap[b]? = some o := (hh.own (b, o) (List.mem_flatten.2 ⟨_, h, by simp⟩)).1

theorem MObj.get {α β : Type} [DecidableEq α] {K : α → Value} {V : β → Value} {m : List (α × β)} {es : Array MapEntry} {clock : Nat} (h : MObj K V m es clock) (k : α) : ((fidx k (m.map (·.1))).map fun i => (i, ((es.toList[i]?).map (·.val)).getD undef)) = (fidx k (m.map (·.1))).map fun i => (i, (mget k m).elim undef V) := by
  cases hf : fidx k (m.map (·.1)) with
  | none => rfl
  | some i =>
    have h1 := fidx_get k m
    rw [hf] at h1
    simp only [Option.bind_some] at h1
    have h2 := congrArg (fun l : List Value => l[i]?) h.vals
    simp only [List.getElem?_map] at h2
    cases hm : m[i]? with
    | none =>
      have := fidx_lt hf
      simp [hm] at this
    | some p =>
      simp only [hm, Option.map_some] at h1 h2
      rw [← h1]; simp only [Option.map_some]; rw [h2]; rfl
theorem fidx_mget {α β : Type} [DecidableEq α] {k : α} {m : List (α × β)} : (fidx k (m.map (·.1))).isSome = (mget k m).isSome := by
  have h1 := fidx_get k m
  cases hf : fidx k (m.map (·.1)) with
  | none => rw [hf] at h1; simp at h1; simp [← h1]
  | some i =>
    rw [hf] at h1
    have := fidx_lt hf
    simp only [List.getElem?_map] at this
    cases hm : m[i]? with
    | none => simp [hm] at this
    | some p => simp [hm] at h1; simp [← h1]

/-- A look into a map. -/
theorem TL.lookup (hF : Open F) {t kt et : TypeId} [Und P t (.map kt et)] {z : Value} {sz bt : Nat} [Inf P et z sz bt] {α β : Type} [DecidableEq α] {K : α → Value} [MKey P kt K] (V : β → Value) {m : List (α × β)} {es : Array MapEntry} {clock b : Nat} (k : α)
    {x y : Operand} (hx : ev σ x = some (.map (some b))) (hy : ev σ y = some (K k)) (hb : [(b, .map es clock)] ∈ η) (hm : MObj K V m es clock) (hn : Nat.blt d n = true)
    (h : TL F P S w0 n ops Q rest ds ((d, (mget k m).elim z V) :: σ) η) : TL F P S w0 n ops Q (⟨some d, .lookup t x y false, ty, pos, af, none⟩ :: rest) ds σ η :=
  TL.pure hF (by intro c; simp) hn (fun a w hk hh => by
    have h1 := MKey.find (P := P) (kt := kt) (K := K) k es.toList (m.map (·.1)) w (by rw [hm.keys]; simp)
    rw [hm.get] at h1
    simp only [execOp, hk.ev hx, hk.ev hy, Instr.lookup, Sem.run_bind, run_underlying (t := t) (d := .map kt et), Result.andThen_ok, run_getMap (hh.inMem hb), Sem.run_pure, MKey.chk, h1]
    have h2 := fidx_mget (k := k) (m := m)
    cases hf : fidx k (m.map (·.1)) with
    | none =>
      rw [hf] at h2
      have : mget k m = none := by cases hg : mget k m <;> simp_all
      simp [run_zeroValue (t := et) (z := z) (sz := sz) (bt := bt), this]
    | some i =>
      rw [hf] at h2
      cases hg : mget k m with
      | none => simp [hg] at h2
      | some v => simp) h
theorem TL.lookupOk (hF : Open F) {t kt et : TypeId} [Und P t (.map kt et)] {z : Value} {sz bt : Nat} [Inf P et z sz bt] {α β : Type} [DecidableEq α] {K : α → Value} [MKey P kt K] (V : β → Value) {m : List (α × β)} {es : Array MapEntry} {clock b : Nat} (k : α)
    {x y : Operand} (hx : ev σ x = some (.map (some b))) (hy : ev σ y = some (K k)) (hb : [(b, .map es clock)] ∈ η) (hm : MObj K V m es clock) (hn : Nat.blt d n = true)
    (h : TL F P S w0 n ops Q rest ds ((d, .tuple #[(mget k m).elim z V, .bool (mget k m).isSome]) :: σ) η) : TL F P S w0 n ops Q (⟨some d, .lookup t x y true, ty, pos, af, none⟩ :: rest) ds σ η :=
  TL.pure hF (by intro c; simp) hn (fun a w hk hh => by
    have h1 := MKey.find (P := P) (kt := kt) (K := K) k es.toList (m.map (·.1)) w (by rw [hm.keys]; simp)
    rw [hm.get] at h1
    simp only [execOp, hk.ev hx, hk.ev hy, Instr.lookup, Sem.run_bind, run_underlying (t := t) (d := .map kt et), Result.andThen_ok, run_getMap (hh.inMem hb), Sem.run_pure, MKey.chk, h1]
    have h2 := fidx_mget (k := k) (m := m)
    cases hf : fidx k (m.map (·.1)) with
    | none =>
      rw [hf] at h2
      have : mget k m = none := by cases hg : mget k m <;> simp_all
      simp [run_zeroValue (t := et) (z := z) (sz := sz) (bt := bt), this]
    | some i =>
      rw [hf] at h2
      cases hg : mget k m with
      | none => simp [hg] at h2
      | some v => simp) h

theorem MObj.put {α β : Type} [DecidableEq α] {K : α → Value} {V : β → Value} {m : List (α × β)} {es : Array MapEntry} {clock : Nat} (h : MObj K V m es clock) (k : α) (v : β) :
    (∀ i, fidx k (m.map (·.1)) = some i → MObj K V (mput k v m) (es.modify i fun e => { e with key := K k, val := V v }) clock) ∧ (fidx k (m.map (·.1)) = none → MObj K V (mput k v m) (es.push { key := K k, val := V v, born := clock }) (clock + 1)) := by
  constructor
  · intro i hf
    have hki := fidx_lt hf
    rw [List.getElem?_map] at hki
    have e0 : (es.modify i fun e => { e with key := K k, val := V v }).toList = es.toList.modify i fun e => { e with key := K k, val := V v } := by simp
    rw [mput_at v hf]
    refine ⟨?_, ?_, ?_, ?_, ?_⟩
    · rw [e0]
      apply List.ext_getElem?
      intro j
      have := congrArg (fun l : List Value => l[j]?) h.keys
      simp only [List.getElem?_map, List.getElem?_modify, Option.map_eq_map] at this ⊢
      by_cases hij : i = j
      · subst hij
        cases hm : m[i]? with
        | none => simp [hm] at hki
        | some p =>
          simp only [hm, Option.map_some] at hki this
          cases hes : es.toList[i]? with
          | none => simp [hes] at this
          | some e => simp only [Option.map_some, if_true, Option.some.injEq] at hki ⊢; simp [hki]
      · simp only [hij, if_false, Option.map_id']
        exact this
    · rw [e0]
      apply List.ext_getElem?
      intro j
      have := congrArg (fun l : List Value => l[j]?) h.vals
      simp only [List.getElem?_map, List.getElem?_modify, Option.map_eq_map] at this ⊢
      by_cases hij : i = j
      · subst hij
        cases hm : m[i]? with
        | none => simp [hm] at hki
        | some p =>
          simp only [hm, Option.map_some] at this
          cases hes : es.toList[i]? with
          | none => simp [hes] at this
          | some e => simp
      · simp only [hij, if_false, Option.map_id']
        exact this
    · rw [← mput_at v hf]; exact mput_nodup h.nd
    · rw [e0]
      have : (es.toList.modify i fun e => { e with key := K k, val := V v }).map (·.born) = es.toList.map (·.born) := by
        apply List.ext_getElem?
        intro j
        simp only [List.getElem?_map, List.getElem?_modify, Option.map_eq_map]
        cases es.toList[j]? with
        | none => rfl
        | some e => by_cases hij : i = j <;> simp [hij]
      rw [this]; exact h.born
    · rw [e0]
      intro e he
      obtain ⟨j, hj⟩ := List.mem_iff_getElem?.1 he
      rw [List.getElem?_modify, Option.map_eq_map] at hj
      cases hes : es.toList[j]? with
      | none => simp [hes] at hj
      | some e' =>
        have := h.old e' (List.mem_of_getElem? hes)
        simp only [hes, Option.map_some, Option.some.injEq] at hj
        split at hj <;> (subst hj; exact this)
  · intro hf
    rw [mput_new v hf]
    refine ⟨by simp [h.keys], by simp [h.vals], ?_, ?_, ?_⟩
    · rw [← mput_new v hf]; exact mput_nodup h.nd
    · simp only [Array.toList_push, List.map_append, List.map_cons, List.map_nil]
      rw [List.nodup_append]
      refine ⟨h.born, by simp, ?_⟩
      rintro a ha b hb rfl
      simp only [List.mem_singleton] at hb
      obtain ⟨e, he, rfl⟩ := List.mem_map.1 ha
      have := h.old e he
      omega
    · simp only [Array.toList_push, List.mem_append, List.mem_singleton]
      rintro e (he | rfl)
      · have := h.old e he; omega
      · simp

/-- A write into a map. -/
theorem TL.mapUpdate (hF : Open F) (i : Nat) {t kt et : TypeId} [Und P t (.map kt et)] {α β : Type} [DecidableEq α] {K : α → Value} [MKey P kt K] (V : β → Value) {m : List (α × β)} {es : Array MapEntry} {clock b : Nat} (k : α) (v : β)
    {x y z : Operand} (hx : ev σ x = some (.map (some b))) (hy : ev σ y = some (K k)) (hz : ev σ z = some (V v)) (hi : η[i]? = some [(b, .map es clock)]) (hm : MObj K V m es clock)
    (h : ∀ es' clock', MObj K V (mput k v m) es' clock' → TL F P S w0 n ops Q rest ds σ (η.set i [(b, .map es' clock')])) : TL F P S w0 n ops Q (⟨none, .mapUpdate t x y z, ty, pos, af, none⟩ :: rest) ds σ η :=
  TL.act hF (by intro c; simp) fun a w hk hh => by
    have hb := hh.inMem (List.mem_of_getElem? hi)
    have h1 := MKey.find (P := P) (kt := kt) (K := K) k es.toList (m.map (·.1)) w (by rw [hm.keys]; simp)
    have hput := hm.put k v
    cases hf : fidx k (m.map (·.1)) with
    | none =>
      rw [hf] at h1
      refine ⟨_, _, ?_, hh.turnI hi (.map (es.push { key := K k, val := V v, born := clock }) (clock + 1)), h _ _ (hput.2 hf)⟩
      have h1' : (Instr.findKey kt (K k) es.toList).run P w = .ok none w := h1
      simp [execOp, hk.ev hx, hk.ev hy, hk.ev hz, Instr.mapUpdate, run_underlying (t := t) (d := .map kt et), run_getMap hb, MKey.chk, h1', run_setB _ hb (.inl ⟨_, _, rfl⟩)]
    | some j =>
      rw [hf] at h1
      refine ⟨_, _, ?_, hh.turnI hi (.map (es.modify j fun e => { e with key := K k, val := V v }) clock), h _ _ (hput.1 j hf)⟩
      have hkey : ((es[j]?).map (·.key)).getD (K k) = K k := by
        have h2 := congrArg (fun l : List Value => l[j]?) hm.keys
        have h3 := fidx_lt hf
        simp only [List.getElem?_map] at h2 h3
        cases hmj : m[j]? with
        | none => simp [hmj] at h3
        | some p =>
          simp only [hmj, Option.map_some, Option.some.injEq] at h2 h3
          rw [h3] at h2
          rw [← Array.getElem?_toList, h2]; rfl
      have h1' : (Instr.findKey kt (K k) es.toList).run P w = .ok (some (j, ((es.toList[j]?).map (·.val)).getD undef)) w := h1
      have hst : (Instr.keyThatStays (K k) (K k)).run P w = .ok (K k) w := by simp [Instr.keyThatStays, MKey.same (P := P) (kt := kt) (K := K)]
      simp only [execOp, hk.ev hx, hk.ev hy, hk.ev hz, Instr.mapUpdate, Sem.run_bind, run_underlying (t := t) (d := .map kt et), Result.andThen_ok, run_getMap hb, MKey.chk, h1', hkey, hst, run_setB _ hb (.inl ⟨_, _, rfl⟩), Sem.run_pure]

/-- How far one has gone through a map. -/
def ItOk {α β : Type} (m : List (α × β)) (es : Array MapEntry) (seen : Array Nat) (done : List α) : Prop := ∀ (j : Nat) (e : MapEntry) (p : α × β), es.toList[j]? = some e → m[j]? = some p → (e.born ∈ seen.toList ↔ p.1 ∈ done)
theorem ItOk.start {α β : Type} (m : List (α × β)) (es : Array MapEntry) : ItOk m es #[] [] := fun j e p _ _ => by simp

theorem TL.range (hF : Open F) {t kt et : TypeId} [Und P t (.map kt et)] {x : Operand} {b clock : Nat} {es : Array MapEntry} (hx : ev σ x = some (.map (some b))) (hb : [(b, .map es clock)] ∈ η) (hn : Nat.blt d n = true)
    (h : ∀ c, TL F P S w0 n ops Q rest ds ((d, .pointer (some ⟨c, 0, none⟩)) :: σ) ([(c, .mapIter (some b) clock #[] clock)] :: η)) : TL F P S w0 n ops Q (⟨some d, .range t x, ty, pos, af, none⟩ :: rest) ds σ η :=
  TL.val hF (by intro c; simp) hn fun a w hk hh => ⟨_, _, _, by
    simp [execOp, Instr.range, hk.ev hx, run_underlying (t := t) (d := .map kt et), run_getMap (hh.inMem hb)], hh.alloc _, h _⟩

theorem ItOk.step {α β : Type} {K : α → Value} {V : β → Value} {m : List (α × β)} {es : Array MapEntry} {clock : Nat} (hm : MObj K V m es clock) {seen : Array Nat} {done : List α} (hit : ItOk m es seen done) {j : Nat} {e : MapEntry} {p : α × β} (he : es.toList[j]? = some e) (hp : m[j]? = some p) :
    ItOk m es (seen.push e.born) (p.1 :: done) := fun j' e' p' he' hp' => by
  have h0 := hit j' e' p' he' hp'
  simp only [Array.toList_push, List.mem_append, List.mem_cons, List.not_mem_nil, or_false, h0]
  have hb : e'.born = e.born ↔ j' = j := by
    constructor
    · intro h
      have e1 : (es.toList.map (·.born))[j']? = some e'.born := by simp only [List.getElem?_map, he', Option.map_some]
      have e2 : (es.toList.map (·.born))[j]? = some e.born := by simp only [List.getElem?_map, he, Option.map_some]
      obtain ⟨l1, g1⟩ := List.getElem?_eq_some_iff.1 e1
      obtain ⟨l2, g2⟩ := List.getElem?_eq_some_iff.1 e2
      exact (List.getElem_inj (h₀ := l1) (h₁ := l2) hm.born).1 (g1.trans (h.trans g2.symm))
    · intro h; subst h; rw [he] at he'; cases he'; rfl
  have hk : p'.1 = p.1 ↔ j' = j := by
    constructor
    · intro h
      have e1 : (m.map (·.1))[j']? = some p'.1 := by simp only [List.getElem?_map, hp', Option.map_some]
      have e2 : (m.map (·.1))[j]? = some p.1 := by simp only [List.getElem?_map, hp, Option.map_some]
      obtain ⟨l1, g1⟩ := List.getElem?_eq_some_iff.1 e1
      obtain ⟨l2, g2⟩ := List.getElem?_eq_some_iff.1 e2
      exact (List.getElem_inj (h₀ := l1) (h₁ := l2) hm.nd).1 (g1.trans (h.trans g2.symm))
    · intro h; subst h; rw [hp] at hp'; cases hp'; rfl
  rw [hb, hk]
  exact or_comm

/-- The next entry of a map, in any order. -/
theorem TL.next (hF : Open F) (i : Nat) {α β : Type} {K : α → Value} {V : β → Value} {m : List (α × β)} {es : Array MapEntry} {clock b c : Nat} {seen : Array Nat} {done : List α} {x : Operand} (hx : ev σ x = some (.pointer (some ⟨c, 0, none⟩)))
    (hi : η[i]? = some [(c, .mapIter (some b) clock seen clock)]) (hb : [(b, .map es clock)] ∈ η) (hm : MObj K V m es clock) (hit : ItOk m es seen done) (hn : Nat.blt d n = true)
    (hover : (∀ p ∈ m, p.1 ∈ done) → TL F P S w0 n ops Q rest ds ((d, .tuple #[.bool false]) :: σ) η)
    (hstep : ∀ p seen', p ∈ m → p.1 ∉ done → ItOk m es seen' (p.1 :: done) → (∃ e ∈ es.toList, seen'.back? = some e.born ∧ e.key = K p.1 ∧ e.val = V p.2) → TL F P S w0 n ops Q rest ds ((d, .tuple #[.bool true, K p.1, V p.2]) :: σ) (η.set i [(c, .mapIter (some b) clock seen' clock)])) :
    TL F P S w0 n ops Q (⟨some d, .next x false, ty, pos, af, none⟩ :: rest) ds σ η :=
  TL.op hF rfl (by intro c; simp) fun a w hk hh => by
    have hci := hh.inMem (List.mem_of_getElem? hi)
    have hbm := hh.inMem hb
    have hgi : (getObj c).run P w = .ok (.mapIter (some b) clock seen clock) w := by simp [getObj, Sem.run, hci]
    let left := es.filter fun e : MapEntry => !seen.contains e.born
    have hold : left.filter (fun e : MapEntry => decide (e.born < clock)) = left := by
      apply Array.filter_eq_self.2
      intro e he
      have : e ∈ es := (Array.mem_filter.1 he).1
      simpa using hm.old e (by simpa using this)
    have hnew : left.filter (fun e : MapEntry => decide (clock ≤ e.born)) = #[] := by
      apply Array.filter_eq_empty_iff.2
      intro e he
      have : e ∈ es := (Array.mem_filter.1 he).1
      have := hm.old e (by simpa using this)
      simp; omega
    have hall : (!seen.isEmpty && !es.isEmpty && es.all (fun e : MapEntry => decide (e.born ≥ clock))) = false := by
      cases hes : es.isEmpty with
      | true => simp
      | false =>
        have : es.all (fun e : MapEntry => decide (e.born ≥ clock)) = false := by
          rw [Bool.eq_false_iff]
          intro h
          rw [Array.all_eq_true] at h
          have h0 : 0 < es.size := by
            rcases Nat.eq_zero_or_pos es.size with h0 | h0
            · simp [Array.eq_empty_of_size_eq_zero h0] at hes
            · exact h0
          have h1 := h 0 h0
          have h2 := hm.old es[0] (by simp)
          simp at h1; omega
        simp [this]
    have gen : ∀ cs : Array (Option MapEntry), 0 < cs.size → ∃ k w1, (choose (.mapNext cs.size)).run P w = .ok k w1 ∧ (∃ dr, w1 = { w with drawn := dr }) ∧ k < cs.size := by
      intro cs hpos
      rw [run_choose]
      by_cases hf : (Question.mapNext cs.size).forced = true
      · rw [if_pos hf]; exact ⟨0, w, rfl, ⟨w.drawn, rfl⟩, hpos⟩
      · rw [if_neg hf]; exact ⟨_, _, rfl, ⟨_, rfl⟩, Nat.mod_lt _ hpos⟩
    have hrun := gen ((if left.isEmpty then (#[none] : Array (Option MapEntry)) else #[]) ++ left.map some) (by
      cases hl : left.isEmpty with
      | true => simp; omega
      | false =>
        rcases Nat.eq_zero_or_pos left.size with h0 | h0
        · simp [Array.eq_empty_of_size_eq_zero h0] at hl
        · simp; omega)
    obtain ⟨k, w1, hch, ⟨dr, rfl⟩, hklt⟩ := hrun
    have hh1 := hh.drew dr
    obtain ⟨zz, hnx⟩ : ∃ zz : Sem Value, (Instr.next (.pointer (some ⟨c, 0, none⟩)) false ty).run P w = (match ((if left.isEmpty then (#[none] : Array (Option MapEntry)) else #[]) ++ left.map some)[k]? with
        | some (some e) => (do setObj c (.mapIter (some b) clock (seen.push e.born) clock); Pure.pure (.tuple #[.bool true, e.key, e.val]) : Sem Value)
        | some none => (Pure.pure (.tuple #[.bool false]) : Sem Value)
        | none => zz).run P { w with drawn := dr } := by
      apply Exists.intro
      simp only [Instr.next, Sem.run_bind, hgi, Result.andThen_ok, run_getMap hbm]
      rw [if_neg (by rw [hall]; simp)]
      simp only [Sem.run_bind]
      have e1 : ((es.filter fun e : MapEntry => !seen.contains e.born).filter fun x : MapEntry => decide (x.born < clock)) = left := hold
      have e2 : ((es.filter fun e : MapEntry => !seen.contains e.born).filter fun x : MapEntry => decide (x.born ≥ clock)) = #[] := hnew
      simp only [e1, e2, Array.append_empty]
      rw [hch]
      rfl
    simp only [execOp, hk.ev hx, Sem.run_bind, hnx]
    cases hl : left.isEmpty with
    | true =>
      have hle : left = #[] := by simpa using hl
      have hk0 : k = 0 := by simp [hle] at hklt; omega
      subst hk0
      simp only [hle, if_true, Array.map_empty, Array.append_empty, List.getElem?_toArray, List.getElem?_cons_zero, Sem.run_pure, Result.andThen_ok, Oper.uponIn]
      refine hover (fun p hp => ?_) _ _ (hk.put (Nat.le_of_ble_eq_true hn) _) hh1
      obtain ⟨j, hj⟩ := List.mem_iff_getElem?.1 hp
      have h2 := congrArg (fun l : List Value => l[j]?) hm.keys
      simp only [List.getElem?_map, hj, Option.map_some] at h2
      cases hej : es.toList[j]? with
      | none => simp [hej] at h2
      | some e =>
        refine (hit j e p hej hj).1 ?_
        have : e ∈ es := by have := List.mem_of_getElem? hej; simpa using this
        by_cases hs : e.born ∈ seen.toList
        · exact hs
        · exfalso
          have : e ∈ left := by
            simp only [left, Array.mem_filter]
            refine ⟨this, ?_⟩
            have : e.born ∉ seen := by simpa using hs
            simp [this]
          rw [hle] at this; simp at this
    | false =>
      have hkl : k < left.size := by simp [hl] at hklt; exact hklt
      have hget : ((#[] : Array (Option MapEntry)) ++ left.map some)[k]? = some (some left[k]) := by simp [hkl]
      simp only [Bool.false_eq_true, if_false, hget]
      have hmem : left[k] ∈ left := Array.getElem_mem hkl
      obtain ⟨hes, hns⟩ := Array.mem_filter.1 hmem
      generalize left[k] = e at hes hns
      have hsl : e.born ∉ seen.toList := by
        have : e.born ∉ seen := by simpa using hns
        simpa using this
      have hesl : e ∈ es.toList := by simpa using hes
      obtain ⟨j, hj⟩ := List.mem_iff_getElem?.1 hesl
      have hmj : ∃ p, m[j]? = some p ∧ e.key = K p.1 ∧ e.val = V p.2 := by
        have h2 := congrArg (fun l : List Value => l[j]?) hm.keys
        have h3 := congrArg (fun l : List Value => l[j]?) hm.vals
        simp only [List.getElem?_map, hj, Option.map_some] at h2 h3
        cases hmj : m[j]? with
        | none => simp [hmj] at h2
        | some p => simp [hmj] at h2 h3; exact ⟨p, rfl, h2, h3⟩
      obtain ⟨p, hp, hkey, hval⟩ := hmj
      have hci1 := hh1.inMem (List.mem_of_getElem? hi)
      simp only [Sem.run_bind, run_setB _ hci1 (.inr ⟨_, _, _, _, rfl⟩), Result.andThen_ok, Sem.run_pure, Oper.uponIn, hkey, hval]
      refine hstep p (seen.push e.born) (List.mem_of_getElem? hp) (fun hd => hsl ((hit j e p hj hp).2 hd)) (ItOk.step hm hit hj hp) ⟨e, hesl, by simp, hkey, hval⟩ _ _ (hk.put (Nat.le_of_ble_eq_true hn) _) (hh1.turnI hi _)

/-- The entry to which the last step led. -/
theorem TL.entry (hF : Open F) {α β : Type} {K : α → Value} {V : β → Value} {m : List (α × β)} {es : Array MapEntry} {clock b c : Nat} {seen : Array Nat} {p : α × β} {x : Operand} (hx : ev σ x = some (.pointer (some ⟨c, 0, none⟩)))
    (hi : [(c, .mapIter (some b) clock seen clock)] ∈ η) (hb : [(b, .map es clock)] ∈ η) (hm : MObj K V m es clock) (he : ∃ e ∈ es.toList, seen.back? = some e.born ∧ e.key = K p.1 ∧ e.val = V p.2) (hn : Nat.blt d n = true)
    (h : TL F P S w0 n ops Q rest ds ((d, .tuple #[K p.1, V p.2]) :: σ) η) : TL F P S w0 n ops Q (⟨some d, .entry x, ty, pos, af, none⟩ :: rest) ds σ η :=
  TL.pure hF (by intro c; simp) hn (fun a w hk hh => by
    obtain ⟨e, hes, hback, hkey, hval⟩ := he
    have hgi : (getObj c).run P w = .ok (.mapIter (some b) clock seen clock) w := by simp [getObj, Sem.run, hh.inMem hi]
    have hfind : es.find? (fun x => x.born == e.born) = some e := by
      rw [← Array.find?_toList]
      have hn := hm.born
      revert hn hes
      generalize es.toList = l
      intro hes hn
      induction l with
      | nil => simp at hes
      | cons x r ih =>
        simp only [List.map_cons, List.nodup_cons] at hn
        rcases List.mem_cons.1 hes with rfl | h
        · simp
        · have : x.born ≠ e.born := fun e1 => hn.1 (by rw [e1]; exact List.mem_map.2 ⟨e, h, rfl⟩)
          simp [this, ih h hn.2]
    simp [execOp, Instr.entry, hk.ev hx, hgi, hback, run_getMap (hh.inMem hb), hfind, hkey, hval]) h

/-! Arrays in memory -/
theorem TL.indexAddrA (hF : Open F) {t e : TypeId} {len : Nat} [Und P t (.array len e)] {z : Value} {sz bt : Nat} [Inf P e z sz bt] {x y : Operand} {b o : Nat} {k : IntKind} {i : Int} (hx : ev σ x = some (.pointer (some ⟨b, o, none⟩))) (hy : ev σ y = some (.int k i))
    (h0 : 0 ≤ i) (hl : i < len) (hn : Nat.blt d n = true) (h : TL F P S w0 n ops Q rest ds ((d, .pointer (some ⟨b, o + i.toNat * sz, none⟩)) :: σ) η) : TL F P S w0 n ops Q (⟨some d, .indexAddr t x y, ty, pos, af, none⟩ :: rest) ds σ η := by
  refine TL.pure hF (by intro c; simp) hn (fun a w hk _ => ?_) h
  have hadd : (⟨b, o, none⟩ : Addr).add (i.toNat * sz) = ⟨b, o + i.toNat * sz, none⟩ := by
    unfold Addr.add; split
    · rename_i h; simp [h]
    · rfl
  simp [execOp, hk.ev hx, hk.ev hy, Instr.indexAt, asIntOf, Instr.sureAddr, run_underlying (t := t) (d := .array len e), run_sizeOf (t := e) (z := z) (sz := sz) (bt := bt), h0, hl, hadd]

/-- A call that hands back a known value, and turns nothing. -/
theorem TL.callV (hF : Open F) {f : Operand} {args : Array Operand} {ats : Array TypeId} {g : FuncId} {al : List Value} [Ent P g] {r : Value}
    (hc : Rt P g al.toArray S w0 η (fun v η' => v = r ∧ η' = η)) (ha : callOf σ f args = some (g, al)) (hn : Nat.blt d n = true) (h : TL F P S w0 n ops Q rest ds ((d, r) :: σ) η) :
    TL F P S w0 n ops Q (⟨some d, .call ⟨.value f, args, ats⟩, ty, pos, af, none⟩ :: rest) ds σ η :=
  TL.call hF hc ha hn (fun v η' hr => by obtain ⟨rfl, rfl⟩ := hr; exact h)

/-- A guarded operation whose guard is itself passed over. -/
theorem TL.offU (hF : Open F) {op : Op} {j : Nat} {want : Bool} {oj : Oper} {dj : Nat} (hj : ops[j]? = some oj) (hdj : oj.dst = some dj) (hv : lk σ dj = some undef)
    (hn : Nat.blt d n = true) (h : TL F P S w0 n ops Q rest ds ((d, undef) :: σ) η) : TL F P S w0 n ops Q (⟨some d, op, ty, pos, af, some (j, want)⟩ :: rest) ds σ η := fun a w hk hh => by
  have hy : yielded ops a.tmps j = none := by
    simp [yielded, hj, hdj, hk.slot dj _ hv, undef]
  have hne : ((none : Option Bool) == some want) = false := rfl
  simp only [wpListIn, Region.wanted, hy, hne, Bool.false_eq_true, if_false]
  exact ⟨fun f _ => hF.fn f, h _ _ (hk.put (Nat.le_of_ble_eq_true hn) undef) hh⟩
theorem TL.offUN (hF : Open F) {op : Op} {j : Nat} {want : Bool} {oj : Oper} {dj : Nat} (hj : ops[j]? = some oj) (hdj : oj.dst = some dj) (hv : lk σ dj = some undef)
    (h : TL F P S w0 n ops Q rest ds σ η) : TL F P S w0 n ops Q (⟨none, op, ty, pos, af, some (j, want)⟩ :: rest) ds σ η := fun a w hk hh => by
  have hy : yielded ops a.tmps j = none := by
    simp [yielded, hj, hdj, hk.slot dj _ hv, undef]
  have hne : ((none : Option Bool) == some want) = false := rfl
  simp only [wpListIn, Region.wanted, hy, hne, Bool.false_eq_true, if_false]
  exact ⟨fun f _ => hF.fn f, h _ _ hk hh⟩

/-- 'DR.step', the values as a plain list. -/
theorem DR.stepV {l : List Oper} {vals : List Value} {v : Value} (vs : List Value) (hv : vs = vals ++ [v]) (env : List (Nat × Value × Option Nat)) {o : Oper} {d : Nat} (ho : l[vals.length]? = some o) (hd : o.dst = some d) (he : EnvOk l σ vals vals.length env)
    (hop : ∀ ext : Env, TL F P S w0 n l.toArray (Fin S w0 n ds η ((d, v) :: (envs env ++ ext))) [o] ds (envs env ++ ext) η) (h : DR F P S w0 n l ds σ η Q vs) : DR F P S w0 n l ds σ η Q vals := by
  subst hv; exact DR.step env ho hd he hop h

/-- Room for a block that is not there yet. -/
theorem T.hnil {c : Code} (h : T F P S w0 n Q c ds σ ([] :: η)) : T F P S w0 n Q c ds σ η := fun a w hk hh => h a w hk (hh.sub (by simp) (by simpa using hh.once))
theorem TL.hnil {l : List Oper} (h : TL F P S w0 n ops Q l ds σ ([] :: η)) : TL F P S w0 n ops Q l ds σ η := fun a w hk hh => h a w hk (hh.sub (by simp) (by simpa using hh.once))
theorem TQ.hnil {K : Act → World → Prop} (h : TQ S w0 n K ds σ ([] :: η)) : TQ S w0 n K ds σ η := fun a w hk hh => h a w hk (hh.sub (by simp) (by simpa using hh.once))

theorem upc {s : Seg} : ∀ x ∈ η, x ∈ s :: η := fun _ h => List.mem_cons_of_mem _ h
theorem upa {s : Heap} : ∀ x ∈ η, x ∈ s ++ η := fun _ h => List.mem_append_right _ h
theorem upl {s : Heap} : ∀ x ∈ η, x ∈ η ++ s := fun _ h => List.mem_append_left _ h

theorem TL.max2 (hF : Open F) {x y : Operand} {ats : Array TypeId} {k k' : IntKind} {i j : Int} (hx : ev σ x = some (.int k i)) (hy : ev σ y = some (.int k' j)) (hn : Nat.blt d n = true)
    (h : TL F P S w0 n ops Q rest ds ((d, .int k (max i j)) :: σ) η) : TL F P S w0 n ops Q (⟨some d, .call ⟨.builtin .max, #[x, y], ats⟩, ty, pos, af, none⟩ :: rest) ds σ η :=
  TL.pure hF (by intro c; simp) hn (fun a w hk _ => by
    have e : (if j > i then j else i) = max i j := by rw [Int.max_def]; split <;> split <;> omega
    have e2 : (Builtin.max_ ats ty #[.int k i, .int k' j]).run P w = .ok (.int k (max i j)) w := by rw [← e]; rfl
    simp [execOp, resolve, Go.invoke, Go.builtin, hk.ev hx, hk.ev hy, e2]) h
theorem TL.min2 (hF : Open F) {x y : Operand} {ats : Array TypeId} {k k' : IntKind} {i j : Int} (hx : ev σ x = some (.int k i)) (hy : ev σ y = some (.int k' j)) (hn : Nat.blt d n = true)
    (h : TL F P S w0 n ops Q rest ds ((d, .int k (min i j)) :: σ) η) : TL F P S w0 n ops Q (⟨some d, .call ⟨.builtin .min, #[x, y], ats⟩, ty, pos, af, none⟩ :: rest) ds σ η :=
  TL.pure hF (by intro c; simp) hn (fun a w hk _ => by
    have e : (if j < i then j else i) = min i j := by rw [Int.min_def]; split <;> split <;> omega
    have e2 : (Builtin.min_ ats ty #[.int k i, .int k' j]).run P w = .ok (.int k (min i j)) w := by rw [← e]; rfl
    simp [execOp, resolve, Go.invoke, Go.builtin, hk.ev hx, hk.ev hy, e2]) h

end
end Go.Sl
/- Results in memory; parts of arrays that are written; calls through interfaces that may panic; a copy. -/
namespace Go.Sl
section
variable {F : Fence} {P : Program} {S : Nat → Prop} {w0 w : World} {n : Nat} {Q : Exit → Act → World → Prop} {ds : List Deferred} {σ : Env} {η : Heap} {ops : Array Oper} {rest : List Oper} {d : Nat} {ty : TypeId} {pos : String} {af : Array Edge}

theorem run_loadCells {cs : List Value} {sz b o : Nat} (hl : cs.length = sz) (hv : ∀ i v, cs[i]? = some v → At S w0 η ⟨b, o + i, none⟩ v) (hh : Hp S w0 η w) : (loadCells ⟨b, o, none⟩ sz).run P w = .ok cs.toArray w := by
  unfold loadCells
  rw [run_loadCellsFrom rfl (fun i => cs.getD i undef) sz 0 #[] (fun j _ h2 => by
    have h3 : cs[j]? = some (cs.getD j undef) := by
      have : j < cs.length := by omega
      simp [List.getD_eq_getElem?_getD, this]
    have h4 := (hv j _ h3).cell hh
    have : (⟨b, o, none⟩ : Addr).add j = ⟨b, o + j, none⟩ := by
      unfold Addr.add; split
      · subst_vars; rfl
      · rfl
    rw [this]; exact h4)]
  congr 1
  simp only [Array.empty_append]
  congr 1
  apply List.ext_getElem?
  intro i
  rw [List.getElem?_map]
  by_cases hi : i < sz
  · rw [List.getElem?_range' hi]; simp [List.getD_eq_getElem?_getD, hl, hi]
  · simp [hl, hi]

/-- The end of a function whose one result lies in memory: several cells. -/
theorem TQ.retC {fn : Func} {c : Nat} {ct : TypeId} [Ag P ct true] {z : Value} {sz bt : Nat} [Inf P ct z sz bt] (cs : List Value) {b : Nat} {R : Value → Heap → Prop} (η2 : Heap) (hr : fn.results = #[ResultVar.cell c ct]) (hc : lk σ c = some (.pointer (some ⟨b, 0, none⟩)))
    (hl : cs.length = sz) (hv : ∀ i v, cs[i]? = some v → At S w0 η ⟨b, 0 + i, none⟩ v) (hs : η2.Sublist η) (hR : R (.agg cs.toArray) η2) : TQ S w0 n (bodyPost P fn (post R S w0) .ret) [] σ η := fun a w hk hh => by
  refine ⟨hk.defers, .agg cs.toArray, ?_, _, η2, rfl, hh.seg hs, hR⟩
  have hc2 := hk.slot _ _ hc
  unfold results
  rw [hr]
  simp [Array.getD_eq_getD_getElem?, hc2, asAddr, loadVar, Ag.eq (t := ct) (b := true), run_sizeOf (t := ct) (z := z) (sz := sz) (bt := bt), run_loadCells hl hv hh]
/-- The same: one cell. -/
theorem TQ.retC1 {fn : Func} {c : Nat} {ct : TypeId} [Ag P ct false] {b : Nat} {x : Value} {R : Value → Heap → Prop} (η2 : Heap) (hr : fn.results = #[ResultVar.cell c ct]) (hc : lk σ c = some (.pointer (some ⟨b, 0, none⟩)))
    (hx : At S w0 η ⟨b, 0, none⟩ x) (hs : η2.Sublist η) (hR : R x η2) : TQ S w0 n (bodyPost P fn (post R S w0) .ret) [] σ η := fun a w hk hh => by
  refine ⟨hk.defers, x, ?_, _, η2, rfl, hh.seg hs, hR⟩
  have hc2 := hk.slot _ _ hc
  unfold results
  rw [hr]
  simp [Array.getD_eq_getD_getElem?, hc2, asAddr, run_loadVar1 (hx.cell hh)]

/-- A store of several cells in the midst of a block. -/
theorem TL.storeAs (hF : Open F) {t : TypeId} {z : Value} {sz bt : Nat} [Inf P t z sz bt] {x y : Operand} {b o : Nat} (vs new : List Value) (i : Nat) {cs : List Value} {e : TypeId} (hx : ev σ x = some (.pointer (some ⟨b, o, none⟩))) (hy : ev σ y = some (.agg vs.toArray))
    (hi : η[i]? = some [(b, .cells cs.toArray e (0, 0))]) (hl : vs.length = sz) (hv : ∀ v ∈ vs, v.oneCell' = true) (ho : o + sz ≤ cs.length) (hnew : cs.take o ++ vs ++ cs.drop (o + vs.length) = new) (h : TL F P S w0 n ops Q rest ds σ (η.set i [(b, .cells new.toArray e (0, 0))])) :
    TL F P S w0 n ops Q (⟨none, .store t x y, ty, pos, af, none⟩ :: rest) ds σ η := by
  refine TL.storeAI hF (z := z) (bt := bt) vs i hx hy hi hl hv (by simpa using ho) ?_
  rw [foldl_set vs cs.toArray o (by simp; omega)]
  rw [hnew]; exact h

theorem TL.invokeE (hF : Open F) {rv : Operand} {m : String} {args : Array Operand} {ats : Array TypeId} {g : FuncId} {t : TypeId} {x rcv : Value} {vs : List Value} [Ent P g] {R : Value → Heap → Prop} {E : List PanicEntry → Heap → Prop}
    (hrv : ev σ rv = some (.iface t x)) (ha : evs σ args.toList = some vs) (hm : ∀ w, (method (P.types.size + Made.depth) t x m).run P w = .ok (g, rcv) w)
    (hc : RtE P g (rcv :: vs).toArray S w0 η R E) (hn : Nat.blt d n = true) (h : ∀ v η', R v η' → TL F P S w0 n ops Q rest ds ((d, v) :: σ) η') (he : ∀ ch η', E ch η' → TQ S w0 n (Q (.panic ch)) ds σ η') :
    TL F P S w0 n ops Q (⟨some d, .call ⟨.invoke rv m, args, ats⟩, ty, pos, af, none⟩ :: rest) ds σ η :=
  TL.invokeG hF hrv ha hm hc (fun v η' hr _a _w hk hh => h v η' hr _ _ (hk.put (Nat.le_of_ble_eq_true hn) v) hh) he

/-- A look into a map of booleans. -/
theorem TL.lookupB (hF : Open F) {t kt et : TypeId} [Und P t (.map kt et)] {sz bt : Nat} [Inf P et (.bool false) sz bt] {α : Type} [DecidableEq α] {K : α → Value} [MKey P kt K] {m : List (α × Bool)} {es : Array MapEntry} {clock b : Nat} (k : α)
    {x y : Operand} (hx : ev σ x = some (.map (some b))) (hy : ev σ y = some (K k)) (hb : [(b, .map es clock)] ∈ η) (hm : MObj K Value.bool m es clock) (hn : Nat.blt d n = true)
    (h : TL F P S w0 n ops Q rest ds ((d, .bool ((mget k m).getD false)) :: σ) η) : TL F P S w0 n ops Q (⟨some d, .lookup t x y false, ty, pos, af, none⟩ :: rest) ds σ η :=
  TL.lookup hF Value.bool k hx hy hb hm hn (by
    have e : (mget k m).elim (Value.bool false) Value.bool = .bool ((mget k m).getD false) := by cases mget k m <;> rfl
    rw [e]; exact h)
theorem TL.lookupOkB (hF : Open F) {t kt et : TypeId} [Und P t (.map kt et)] {sz bt : Nat} [Inf P et (.bool false) sz bt] {α : Type} [DecidableEq α] {K : α → Value} [MKey P kt K] {m : List (α × Bool)} {es : Array MapEntry} {clock b : Nat} (k : α)
    {x y : Operand} (hx : ev σ x = some (.map (some b))) (hy : ev σ y = some (K k)) (hb : [(b, .map es clock)] ∈ η) (hm : MObj K Value.bool m es clock) (hn : Nat.blt d n = true)
    (h : TL F P S w0 n ops Q rest ds ((d, .tuple #[.bool ((mget k m).getD false), .bool (mget k m).isSome]) :: σ) η) : TL F P S w0 n ops Q (⟨some d, .lookup t x y true, ty, pos, af, none⟩ :: rest) ds σ η :=
  TL.lookupOk hF Value.bool k hx hy hb hm hn (by
    have e : (mget k m).elim (Value.bool false) Value.bool = .bool ((mget k m).getD false) := by cases mget k m <;> rfl
    rw [e]; exact h)
theorem own_list {b i : Nat} {cs : List Value} {e : TypeId} {fz : Nat × Nat} (h : η[i]? = some [(b, Obj.cells cs.toArray e fz)]) : ∀ j v, cs[j]? = some v → At S w0 η ⟨b, 0 + j, none⟩ v := fun j v hj => by
  rw [Nat.zero_add]; exact At.own' h (by simpa using hj)
/-- A call that goes through, or panics, and turns nothing. -/
theorem TL.callM (hF : Open F) {f : Operand} {args : Array Operand} {ats : Array TypeId} {g : FuncId} {al : List Value} [Ent P g] {A B : Prop} {c0 : List PanicEntry}
    (hc : RtE P g al.toArray S w0 η (fun _ η' => A ∧ η' = η) (fun ch η' => B ∧ ch = c0 ∧ η' = η)) (ha : callOf σ f args = some (g, al)) (hn : Nat.blt d n = true) (h : A → ∀ v, TL F P S w0 n ops Q rest ds ((d, v) :: σ) η) (he : B → TQ S w0 n (Q (.panic c0)) ds σ η) :
    TL F P S w0 n ops Q (⟨some d, .call ⟨.value f, args, ats⟩, ty, pos, af, none⟩ :: rest) ds σ η :=
  TL.callE hF hc ha hn (fun v η' hr => by obtain ⟨h1, rfl⟩ := hr; exact h h1 v) (fun ch η' hr => by obtain ⟨h1, rfl, rfl⟩ := hr; exact he h1)
theorem TL.invokeM (hF : Open F) {rv : Operand} {m : String} {args : Array Operand} {ats : Array TypeId} {g : FuncId} {t : TypeId} {x rcv : Value} {vs : List Value} [Ent P g] {A B : Prop} {c0 : List PanicEntry}
    (hrv : ev σ rv = some (.iface t x)) (ha : evs σ args.toList = some vs) (hm : ∀ w, (method (P.types.size + Made.depth) t x m).run P w = .ok (g, rcv) w)
    (hc : RtE P g (rcv :: vs).toArray S w0 η (fun _ η' => A ∧ η' = η) (fun ch η' => B ∧ ch = c0 ∧ η' = η)) (hn : Nat.blt d n = true) (h : A → ∀ v, TL F P S w0 n ops Q rest ds ((d, v) :: σ) η) (he : B → TQ S w0 n (Q (.panic c0)) ds σ η) :
    TL F P S w0 n ops Q (⟨some d, .call ⟨.invoke rv m, args, ats⟩, ty, pos, af, none⟩ :: rest) ds σ η :=
  TL.invokeE hF hrv ha hm hc hn (fun v η' hr => by obtain ⟨h1, rfl⟩ := hr; exact h h1 v) (fun ch η' hr => by obtain ⟨h1, rfl, rfl⟩ := hr; exact he h1)
end
end Go.Sl
/- Ranges over functions: their ends; loops that leave marks. -/
namespace Go.Sl
section
variable {F : Fence} {P : Program} {S : Nat → Prop} {w0 w : World} {n : Nat} {Q : Exit → Act → World → Prop} {ds : List Deferred} {σ : Env} {η : Heap} {ops : Array Oper} {rest : List Oper} {d : Nat} {ty : TypeId} {pos : String} {af : Array Edge}

theorem TQ.swapT {tl tl' : Heap} {body : Code} {Q' : Exit → Act → World → Prop} (η1 : Heap) (he : η = η1 ++ tl) (h : T F P S w0 n Q body ds σ (η1 ++ tl')) : TQ S w0 n (Exit.then (Swap S w0 tl tl' fun a w => body.wpIn F 0 P Q a w) Q' .normal) ds σ η := TQ.swap η1 he h

theorem own_listM {b : Nat} {cs : List Value} {e : TypeId} {fz : Nat × Nat} (h : [(b, Obj.cells cs.toArray e fz)] ∈ η) : ∀ j v, cs[j]? = some v → At S w0 η ⟨b, 0 + j, none⟩ v := fun j v hj => by
  rw [Nat.zero_add]; exact .own _ h cs.toArray e fz (by simp) (by simpa using hj) rfl

/-- The end of a function behind its marks. -/
theorem TQ.retL0 {fn : Func} (ts : List Nat) (vs : List Value) {v : Value} {R : Value → Heap → Prop} (hr : fn.results = (ts.map ResultVar.tmp).toArray) (hv : lks σ ts = some vs) (he : retVal vs = v) (hR : R v η) :
    TQ S w0 n (bodyPostL P fn (post R S w0) .ret) [] σ η := fun a w hk hh => by
  show Lv P fn a.tmps (post R S w0) a.defers .returning w
  rw [hk.defers]
  exact ⟨v, by rw [results_run hr hk (lks_map hv), retVal_eq, he], v, η, rfl, hh, hR⟩
theorem TQ.retLC1 {fn : Func} {c : Nat} {ct : TypeId} [Ag P ct false] {b : Nat} {x : Value} {R : Value → Heap → Prop} (η2 : Heap) (hr : fn.results = #[ResultVar.cell c ct]) (hc : lk σ c = some (.pointer (some ⟨b, 0, none⟩)))
    (hx : At S w0 η ⟨b, 0, none⟩ x) (hs : η2.Sublist η) (hR : R x η2) : TQ S w0 n (bodyPostL P fn (post R S w0) .ret) [] σ η := fun a w hk hh => by
  show Lv P fn a.tmps (post R S w0) a.defers .returning w
  rw [hk.defers]
  refine ⟨x, ?_, x, η2, rfl, hh.seg hs, hR⟩
  have hc2 := hk.slot _ _ hc
  unfold results
  rw [hr]
  simp [Array.getD_eq_getD_getElem?, hc2, asAddr, run_loadVar1 (hx.cell hh)]

/-- Marks, and their places. -/
def marksH (rs : List Nat) : Heap := rs.map fun r => [(r, .deferred (some []))]
theorem TQ.marks {fn : Func} {R : Value → Heap → Prop} {e : Exit} {dsr : List Deferred} (he : e = .ret ∨ ∃ ch, e = .panic ch) (h : TQ S w0 n (bodyPostL P fn (post R S w0) e) dsr σ η) :
    ∀ rs : List Nat, TQ S w0 n (bodyPostL P fn (post R S w0) e) (marksOf rs ++ dsr) σ (marksH rs ++ η)
  | [] => h
  | _r :: rs => TQ.mark (i := 0) he rfl (TQ.pop (TQ.marks he h rs))

/-- A loop whose rounds leave marks. -/
theorem T.loopD {c : Code} {ι : Type} (J : ι → Prop) (sg : ι → Env) (hp : ι → Heap) (sd : ι → List Deferred) (μ : ι → Nat) (i0 : ι) (h0 : J i0) (hs : Sub (sg i0) σ) (he : η = hp i0) (hd : ds = sd i0)
    (round : ∀ i, J i → T F P S w0 n (Exit.then (fun a w => ∃ j, J j ∧ μ j < μ i ∧ Kn n (sd j) (sg j) a ∧ Hp S w0 (hp j) w) Q) c (sd i) (sg i) (hp i)) :
    T F P S w0 n Q (.loop c) ds σ η := fun a w hk hh => by
  refine wpIn_loopR (fun m a w => ∃ i, J i ∧ μ i = m ∧ Kn n (sd i) (sg i) a ∧ Hp S w0 (hp i) w) ?_ (m := μ i0) ⟨i0, h0, rfl, hd ▸ hk.sub hs, he ▸ hh⟩
  rintro m a w ⟨i, hi, rfl, hk, hh⟩
  refine wpIn_mono (round i hi a w hk hh) ?_
  intro e a' w' hq
  cases e with
  | normal => obtain ⟨j, h1, h2, h3, h4⟩ := hq; exact ⟨_, h2, j, h1, rfl, h3, h4⟩
  | _ => exact hq
theorem TQ.roundD {ι : Type} {J : ι → Prop} {sg : ι → Env} {hp : ι → Heap} {sd : ι → List Deferred} {μ : ι → Nat} {i : ι} (j : ι) (hj : J j) (hm : μ j < μ i) (hs : Sub (sg j) σ) (he : η = hp j) (hd : ds = sd j) :
    TQ S w0 n (Exit.then (fun a w => ∃ j, J j ∧ μ j < μ i ∧ Kn n (sd j) (sg j) a ∧ Hp S w0 (hp j) w) Q .normal) ds σ η := fun _ _ hk hh => ⟨j, hj, hm, hd ▸ hk.sub hs, he ▸ hh⟩
end
end Go.Sl
/- Copies. -/
namespace Go.Sl
section
variable {F : Fence} {P : Program} {S : Nat → Prop} {w0 w : World} {n : Nat} {Q : Exit → Act → World → Prop} {ds : List Deferred} {σ : Env} {η : Heap} {ops : Array Oper} {rest : List Oper} {d : Nat} {ty : TypeId} {pos : String} {af : Array Edge}

/-- A copy, into a part of an owned block. -/
theorem TL.copy (hF : Open F) (i : Nat) {t ts e : TypeId} [Und P t (.slice e)] {z : Value} {sz bt : Nat} [Inf P e z sz bt] {x y : Operand} {g o dl dc m mc k : Nat} {a : Option Addr} {cs : List Value} {e' : TypeId} (news new : List Value) (hx : ev σ x = some (.slice (some ⟨g, o, none⟩) dl dc)) (hy : ev σ y = some (.slice a m mc))
    (hi : η[i]? = some [(g, .cells cs.toArray e' (0, 0))]) (hk : k = min m dl) (hs : Row S w0 η a news) (hl : news.length = k * sz) (h1 : ∀ u ∈ news, u.oneCell' = true) (ho : o + k * sz ≤ cs.length) (hnew : cs.take o ++ news ++ cs.drop (o + k * sz) = new) (hn : Nat.blt d n = true)
    (h : TL F P S w0 n ops Q rest ds ((d, .int .i64 (k : Int)) :: σ) (η.set i [(g, .cells new.toArray e' (0, 0))])) :
    TL F P S w0 n ops Q (⟨some d, .call ⟨.builtin .copy, #[x, y], #[t, ts]⟩, ty, pos, af, none⟩ :: rest) ds σ η :=
  TL.val hF (by intro c; simp) hn fun b w hkn hh => by
    have hg := hh.inMem (List.mem_of_getElem? hi)
    have hfc : (Builtin.firstCells sz k (.slice a m mc)).run P w = .ok news.toArray w := by
      have h0 := run_firstCells (P := P) (m := k) (c := mc) hs hl hh
      cases a <;> exact h0
    have hst := run_storeCells (P := P) (e := e') (b := g) news cs.toArray o 0 w hg (by simp; omega) h1
    simp only [Nat.add_zero] at hst
    rw [foldl_set _ _ _ (by simp; omega)] at hst
    have hnew' : (cs.toArray.toList.take o ++ news ++ cs.toArray.toList.drop (o + news.length)) = new := by rw [hl]; exact hnew
    rw [hnew'] at hst
    refine ⟨.int .i64 (k : Int), _, _, ?_, hh.turnI hi _, h⟩
    have hk' : Nat.min m dl = k := hk.symm
    have e2 : (Builtin.copy_ #[t, ts] ty #[.slice (some ⟨g, o, none⟩) dl dc, .slice a m mc]).run P w = .ok (.int .i64 (k : Int)) (putBlk w g (.cells new.toArray e' (0, 0))) := by
      simp [Builtin.copy_, run_underlying (t := t) (d := .slice e), run_sizeOf (t := e) (z := z) (sz := sz) (bt := bt), Builtin.lenOf, hk', hfc, hst, goInt]
    simp [execOp, resolve, Go.invoke, Go.builtin, hkn.ev hx, hkn.ev hy, e2]
end
end Go.Sl
/- Integers of other kinds: sums, products, bits, shifts, remainders, conversions. -/
namespace Go.Sl
theorem wrap_u {k : IntKind} (hs : k.signed = false) {a : Int} (h0 : 0 ≤ a) (h1 : a < 2 ^ k.bits) : k.wrap a = a := by
  unfold IntKind.wrap
  simp only [hs, Bool.false_and, Bool.false_eq_true, if_false]
  exact Int.emod_eq_of_lt h0 h1
theorem wrap_u64 {a : Int} (h0 : 0 ≤ a) (h1 : a < 18446744073709551616) : IntKind.u64.wrap a = a := wrap_u rfl h0 (by simpa [IntKind.bits] using h1)
section
variable {F : Fence} {P : Program} {S : Nat → Prop} {w0 w : World} {n : Nat} {Q : Exit → Act → World → Prop} {ds : List Deferred} {σ : Env} {η : Heap} {ops : Array Oper} {rest : List Oper} {d : Nat} {ty : TypeId} {pos : String} {af : Array Edge}
theorem TL.addK (hF : Open F) {xt yt : TypeId} {x y : Operand} {k : IntKind} {a b r : Int} (hx : ev σ x = some (.int k a)) (hy : ev σ y = some (.int k b)) (hr : k.wrap (a + b) = r) (hn : Nat.blt d n = true)
    (h : TL F P S w0 n ops Q rest ds ((d, .int k r) :: σ) η) : TL F P S w0 n ops Q (⟨some d, .binOp .add xt x y yt, ty, pos, af, none⟩ :: rest) ds σ η := TL.bin hF hx hy (by simp [intOp, hr]) hn h
theorem TL.subK (hF : Open F) {xt yt : TypeId} {x y : Operand} {k : IntKind} {a b r : Int} (hx : ev σ x = some (.int k a)) (hy : ev σ y = some (.int k b)) (hr : k.wrap (a - b) = r) (hn : Nat.blt d n = true)
    (h : TL F P S w0 n ops Q rest ds ((d, .int k r) :: σ) η) : TL F P S w0 n ops Q (⟨some d, .binOp .sub xt x y yt, ty, pos, af, none⟩ :: rest) ds σ η := TL.bin hF hx hy (by simp [intOp, hr]) hn h
theorem TL.mulK (hF : Open F) {xt yt : TypeId} {x y : Operand} {k : IntKind} {a b r : Int} (hx : ev σ x = some (.int k a)) (hy : ev σ y = some (.int k b)) (hr : k.wrap (a * b) = r) (hn : Nat.blt d n = true)
    (h : TL F P S w0 n ops Q rest ds ((d, .int k r) :: σ) η) : TL F P S w0 n ops Q (⟨some d, .binOp .mul xt x y yt, ty, pos, af, none⟩ :: rest) ds σ η := TL.bin hF hx hy (by simp [intOp, hr]) hn h
theorem TL.convK (hF : Open F) {s t : TypeId} {d1 : TypeDesc} {k k' : IntKind} [Und P s d1] [Und P t (.int k)] {x : Operand} {a r : Int} (hx : ev σ x = some (.int k' a)) (hr : k.wrap a = r) (hn : Nat.blt d n = true)
    (h : TL F P S w0 n ops Q rest ds ((d, .int k r) :: σ) η) : TL F P S w0 n ops Q (⟨some d, .convert s t x, ty, pos, af, none⟩ :: rest) ds σ η :=
  TL.pure hF (by intro c; simp) hn (fun a w hk _ => by simp [execOp, hk.ev hx, convert, run_underlying (t := s) (d := d1), run_underlying (t := t) (d := .int k), Conv.intToInt, hr]) h
theorem and_toNat {b a m : Nat} (ha : a < 2 ^ b) (hm : m < 2 ^ b) : (BitVec.ofInt b (a : Int) &&& BitVec.ofInt b (m : Int)).toNat = a &&& m := by
  rw [BitVec.toNat_and, BitVec.ofInt_natCast, BitVec.ofInt_natCast, BitVec.toNat_ofNat, BitVec.toNat_ofNat, Nat.mod_eq_of_lt ha, Nat.mod_eq_of_lt hm]
theorem TL.andN (hF : Open F) {xt yt : TypeId} {x y : Operand} {k : IntKind} {a m : Nat} (hx : ev σ x = some (.int k (a : Int))) (hy : ev σ y = some (.int k (m : Int))) (hs : k.signed = false) (ha : a < 2 ^ k.bits) (hm : m < 2 ^ k.bits) (hn : Nat.blt d n = true)
    (h : TL F P S w0 n ops Q rest ds ((d, .int k ((a &&& m : Nat) : Int)) :: σ) η) : TL F P S w0 n ops Q (⟨some d, .binOp .and xt x y yt, ty, pos, af, none⟩ :: rest) ds σ η :=
  TL.pure hF (by intro c; simp) hn (fun b w hk _ => by
    have hle : a &&& m ≤ a := Nat.and_le_left
    have hw : k.wrap ((a &&& m : Nat) : Int) = ((a &&& m : Nat) : Int) := wrap_u hs (by omega) (by
      have : ((a &&& m : Nat) : Int) < ((2 ^ k.bits : Nat) : Int) := by omega
      simpa using this)
    have hb : (Op.intBits .and k (a : Int) (m : Int)).run P w = .ok (.int k ((a &&& m : Nat) : Int)) w := by
      unfold Op.intBits
      simp only [and_toNat ha hm, Sem.run_pure, hw]
    simp [execOp, hk.ev hx, hk.ev hy, eqGuard, binOp, hb]) h
theorem TL.shrN (hF : Open F) {xt yt : TypeId} {x y : Operand} {k yk : IntKind} {a s : Nat} (hx : ev σ x = some (.int k (a : Int))) (hy : ev σ y = some (.int yk (s : Int))) (hs : s ≤ k.bits) (hn : Nat.blt d n = true)
    (h : TL F P S w0 n ops Q rest ds ((d, .int k ((a / 2 ^ s : Nat) : Int)) :: σ) η) : TL F P S w0 n ops Q (⟨some d, .binOp .shr xt x y yt, ty, pos, af, none⟩ :: rest) ds σ η :=
  TL.pure hF (by intro c; simp) hn (fun b w hk _ => by
    have hb : (Op.shift .shr k (a : Int) yk (s : Int)).run P w = .ok (.int k ((a / 2 ^ s : Nat) : Int)) w := by
      unfold Op.shift
      rw [if_neg (by omega)]
      have e : min ((s : Int).toNat) k.bits = s := by rw [Int.toNat_natCast]; exact Nat.min_eq_left hs
      simp only [e, Sem.run_pure]
      rw [Int.fdiv_eq_ediv_of_nonneg _ (by exact_mod_cast Nat.zero_le (2 ^ s))]
      congr 2
    simp [execOp, hk.ev hx, hk.ev hy, eqGuard, binOp, hb]) h
theorem TL.remN (hF : Open F) {xt yt : TypeId} {x y : Operand} {k : IntKind} {a b : Nat} (hx : ev σ x = some (.int k (a : Int))) (hy : ev σ y = some (.int k (b : Int))) (hb : 0 < b) (hn : Nat.blt d n = true)
    (h : TL F P S w0 n ops Q rest ds ((d, .int k ((a % b : Nat) : Int)) :: σ) η) : TL F P S w0 n ops Q (⟨some d, .binOp .rem xt x y yt, ty, pos, af, none⟩ :: rest) ds σ η :=
  TL.pure hF (by intro c; simp) hn (fun c w hk _ => by
    have hb' : (Op.intDiv .rem k (a : Int) (b : Int)).run P w = .ok (.int k ((a % b : Nat) : Int)) w := by
      unfold Op.intDiv
      rw [if_neg (by omega)]
      simp only [Sem.run_pure]
      congr 2
    simp [execOp, hk.ev hx, hk.ev hy, eqGuard, binOp, hb']) h
end
end Go.Sl
/- Regions that draw their order, in which some operations write: pure ones are told once, heavy ones in each order that may come. -/
namespace Go.Sl

/-- What is known of the operations: place, value, kind (0: pure; 1: reads the heap; 2: carried out). -/
abbrev VL := List (Nat × Value × Nat)
def vget : VL → Nat → Option Value
  | [], _ => none
  | (i, v, _) :: r, j => bif Nat.beq i j then some v else vget r j
def execV (V : VL) : VL := V.map fun x => (x.1, x.2.1, bif Nat.beq x.2.2 1 then 2 else x.2.2)
theorem vget_cons (i : Nat) (v : Value) (k : Nat) (r : VL) (j : Nat) : vget ((i, v, k) :: r) j = if i = j then some v else vget r j := by
  simp only [vget]
  by_cases h : i = j
  · subst h; simp
  · have : Nat.beq i j = false := by
      cases hb : Nat.beq i j
      · rfl
      · exact absurd (Nat.eq_of_beq_eq_true hb) h
    simp [this, h]
theorem vget_exec : ∀ (V : VL) (j : Nat), vget (execV V) j = vget V j
  | [], _ => rfl
  | (i, v, k) :: r, j => by
    have := vget_exec r j
    show vget ((i, v, _) :: execV r) j = _
    rw [vget_cons, vget_cons, this]
theorem vget_mem : ∀ {V : VL} {j : Nat} {v : Value}, vget V j = some v → ∃ k, (j, v, k) ∈ V
  | (i, u, k) :: r, j, v, h => by
    rw [vget_cons] at h
    by_cases hij : i = j
    · rw [if_pos hij] at h; cases h; subst hij; exact ⟨k, List.mem_cons_self⟩
    · rw [if_neg hij] at h; obtain ⟨k', hk⟩ := vget_mem h; exact ⟨k', List.mem_cons_of_mem _ hk⟩
theorem mem_vget : ∀ {V : VL}, (V.map (·.1)).Nodup → ∀ {j : Nat} {v : Value} {k : Nat}, (j, v, k) ∈ V → vget V j = some v
  | (i, u, k0) :: r, hn, j, v, k, h => by
    simp only [List.map_cons, List.nodup_cons] at hn
    rw [vget_cons]
    rcases List.mem_cons.1 h with h | h
    · cases h; simp
    · have : i ≠ j := fun e => hn.1 (by rw [e]; exact List.mem_map.2 ⟨_, h, rfl⟩)
      rw [if_neg this]; exact mem_vget hn.2 h
def EnvOkV (l : List Oper) (σ : Env) (V : VL) (i : Nat) : List (Nat × Value × Option Nat) → Prop
  | [] => True
  | (t, v, some j) :: r => (waits l i j = true ∧ dstOf l j = some t ∧ vget V j = some v) ∧ EnvOkV l σ V i r
  | (t, v, none) :: r => (lk σ t = some v ∧ clean l i t = true) ∧ EnvOkV l σ V i r
theorem EnvOkV.ext {l : List Oper} {σ : Env} {V V' : VL} {i : Nat} (h : ∀ j v, vget V j = some v → vget V' j = some v) : ∀ {env : List (Nat × Value × Option Nat)}, EnvOkV l σ V i env → EnvOkV l σ V' i env
  | [], _ => trivial
  | (_t, u, some j) :: _r, he => ⟨⟨he.1.1, he.1.2.1, h j u he.1.2.2⟩, EnvOkV.ext h he.2⟩
  | (_t, _u, none) :: _r, he => ⟨he.1, EnvOkV.ext h he.2⟩
def complete (l : List Oper) (m : Nat) (V : VL) (hs : List Nat) : Bool := (List.range m).all fun i => (vget V i).isSome || hs.any (Nat.beq i) || (List.range l.length).any fun j => (vget V j).isNone && (waits l i j || waitsT l l.length i j)
def readersOk (l : List Oper) (V : VL) (h : Nat) : Bool := V.all fun x => !Nat.beq x.2.2 1 || (waits l h x.1 || waitsT l l.length h x.1)
def allEnvV (l : List Oper) (V : VL) (σ : Env) : Env := (V.filterMap fun x => (dstOf l x.1).map fun d => (d, x.2.1)) ++ σ
def dstsOk (l : List Oper) (m : Nat) : Bool := Nat.ble m l.length && distinct ((List.range m).map (dstOf l))

section
variable {F : Fence} {P : Program} {S : Nat → Prop} {w0 w : World} {n : Nat} {Q : Exit → Act → World → Prop} {l : List Oper} {ds : List Deferred} {σ : Env} {η : Heap}
structure InvD (S : Nat → Prop) (w0 : World) (n : Nat) (l : List Oper) (ds : List Deferred) (σ : Env) (V : VL) (η : Heap) (L : Array Bool) (a : Act) (w : World) : Prop where
  size : L.size = l.length
  dom : ∀ i, L[i]? = some true → (vget V i).isSome = true
  done : ∀ i v, (i, v, 2) ∈ V → L[i]? = some true
  down : ∀ k j, waits l k j = true → L[k]? = some true → L[j]? = some true
  tsize : a.tmps.size = n
  defers : a.defers = ds
  old : ∀ t v, lk σ t = some v → (∀ k, L[k]? = some true → dstOf l k ≠ some t) → a.tmps[t]? = some v
  new : ∀ i v d, L[i]? = some true → vget V i = some v → dstOf l i = some d → a.tmps[d]? = some v
  hp : Hp S w0 η w
def QSV (F : Fence) (P : Program) (S : Nat → Prop) (w0 : World) (n : Nat) (l : List Oper) (ds : List Deferred) (σ : Env) (V : VL) (η : Heap) (i : Nat) (v : Value) : Prop :=
  ∃ o d env, l[i]? = some o ∧ o.dst = some d ∧ EnvOkV l σ V i env ∧ ∀ ext : Env, TL F P S w0 n l.toArray (Fin S w0 n ds η ((d, v) :: (envs env ++ ext))) [o] ds (envs env ++ ext) η
theorem QSV.ext {V V' : VL} {i : Nat} {v : Value} (h : ∀ j v, vget V j = some v → vget V' j = some v) (hq : QSV F P S w0 n l ds σ V η i v) : QSV F P S w0 n l ds σ V' η i v := by
  obtain ⟨o, d, env, h1, h2, h3, h4⟩ := hq
  exact ⟨o, d, env, h1, h2, h3.ext h, h4⟩
def DH (F : Fence) (P : Program) (S : Nat → Prop) (w0 : World) (n : Nat) (l : List Oper) (ds : List Deferred) (σ : Env) (Q : Exit → Act → World → Prop) (m : Nat) (V : VL) (η : Heap) : Prop :=
  (V.map (·.1)).Nodup → (∀ i v, (i, v, 0) ∈ V → ∀ η', QSV F P S w0 n l ds σ V η' i v) → (∀ i v, (i, v, 1) ∈ V → QSV F P S w0 n l ds σ V η i v) → (∀ i v k, (i, v, k) ∈ V → i < m ∧ (k = 0 ∨ k = 1 ∨ k = 2)) →
    ∀ f L a w, L.toList.countP (· == false) = f → InvD S w0 n l ds σ V η L a w → wpAnyIn F 0 P .any l.toArray Q f L a w

variable {m : Nat} {V : VL}
theorem DH.quiet {k0 i : Nat} {v : Value} (hk0 : k0 = 0 ∨ k0 = 1) (him : Nat.blt i m = true) (hnew : vget V i = none) (hq0 : k0 = 0 → ∀ η', QSV F P S w0 n l ds σ V η' i v) (hq1 : k0 = 1 → QSV F P S w0 n l ds σ V η i v) (h : DH F P S w0 n l ds σ Q m ((i, v, k0) :: V) η) : DH F P S w0 n l ds σ Q m V η := by
  intro hn h0 h1 hk f L a w hc hi
  have hext : ∀ j u, vget V j = some u → vget ((i, v, k0) :: V) j = some u := by
    intro j u hj
    rw [vget_cons]
    by_cases e : i = j
    · subst e; rw [hnew] at hj; cases hj
    · rw [if_neg e]; exact hj
  have hni : i ∉ V.map (·.1) := by
    intro hm
    obtain ⟨⟨j, u, k⟩, hx, he⟩ := List.mem_map.1 hm
    simp only at he; subst he
    have := mem_vget hn hx
    rw [hnew] at this; cases this
  refine h (List.nodup_cons.2 ⟨hni, hn⟩) ?_ ?_ ?_ f L a w hc ⟨hi.size, ?_, ?_, hi.down, hi.tsize, hi.defers, hi.old, ?_, hi.hp⟩
  · intro j u hm η'
    rcases List.mem_cons.1 hm with e | hm
    · cases e; exact (hq0 rfl η').ext hext
    · exact (h0 j u hm η').ext hext
  · intro j u hm
    rcases List.mem_cons.1 hm with e | hm
    · cases e; exact (hq1 rfl).ext hext
    · exact (h1 j u hm).ext hext
  · intro j u k hm
    rcases List.mem_cons.1 hm with e | hm
    · cases e; exact ⟨Nat.le_of_ble_eq_true him, by rcases hk0 with h | h <;> simp [h]⟩
    · exact hk j u k hm
  · intro j hj
    have := hi.dom j hj
    cases hv : vget V j with
    | none => simp [hv] at this
    | some u => rw [hext j u hv]; rfl
  · intro j u hm
    rcases List.mem_cons.1 hm with e | hm
    · cases e; rcases hk0 with h | h <;> cases h
    · exact hi.done j u hm
  · intro j u d hj hv hd
    rw [vget_cons] at hv
    by_cases e : i = j
    · subst e
      have := hi.dom i hj
      rw [hnew] at this; simp at this
    · rw [if_neg e] at hv; exact hi.new j u d hj hv hd
/-- A pure operation. -/
theorem DH.pure {i : Nat} {v : Value} (env : List (Nat × Value × Option Nat)) {o : Oper} {d : Nat} (ho : l[i]? = some o) (hd : o.dst = some d) (him : Nat.blt i m = true) (hnew : vget V i = none) (he : EnvOkV l σ V i env)
    (hop : ∀ (η : Heap) (ext : Env), TL F P S w0 n l.toArray (Fin S w0 n ds η ((d, v) :: (envs env ++ ext))) [o] ds (envs env ++ ext) η) (h : DH F P S w0 n l ds σ Q m ((i, v, 0) :: V) η) : DH F P S w0 n l ds σ Q m V η :=
  DH.quiet (.inl rfl) him hnew (fun _ η' => ⟨o, d, env, ho, hd, he, hop η'⟩) (fun e => by cases e) h
/-- An operation that reads the heap. -/
theorem DH.read {i : Nat} {v : Value} (env : List (Nat × Value × Option Nat)) {o : Oper} {d : Nat} (ho : l[i]? = some o) (hd : o.dst = some d) (him : Nat.blt i m = true) (hnew : vget V i = none) (he : EnvOkV l σ V i env)
    (hop : ∀ ext : Env, TL F P S w0 n l.toArray (Fin S w0 n ds η ((d, v) :: (envs env ++ ext))) [o] ds (envs env ++ ext) η) (h : DH F P S w0 n l ds σ Q m ((i, v, 1) :: V) η) : DH F P S w0 n l ds σ Q m V η :=
  DH.quiet (.inr rfl) him hnew (fun e => by cases e) (fun _ => ⟨o, d, env, ho, hd, he, hop⟩) h

/-- What is asked behind a heavy operation. -/
def QB (F : Fence) (P : Program) (S : Nat → Prop) (w0 : World) (n : Nat) (l : List Oper) (ds : List Deferred) (σ : Env) (Q : Exit → Act → World → Prop) (m : Nat) (V : VL) (h d : Nat) (σ' : Env) : Exit → Act → World → Prop
  | .normal, a, w => ∃ v η', Kn n ds ((d, v) :: σ') a ∧ Hp S w0 η' w ∧ DH F P S w0 n l ds σ Q m ((h, v, 2) :: execV V) η'
  | e, a, w => Q e a w
theorem TL.finD {h d : Nat} {σ' : Env} {v : Value} {ops : Array Oper} (hd : DH F P S w0 n l ds σ Q m ((h, v, 2) :: execV V) η) : TL F P S w0 n ops (QB F P S w0 n l ds σ Q m V h d σ') [] ds ((d, v) :: σ') η := TL.nil fun _ _ hk hh => ⟨v, η, hk, hh, hd⟩
/-- A heavy operation that may come next. -/
def HB (F : Fence) (P : Program) (S : Nat → Prop) (w0 : World) (n : Nat) (l : List Oper) (ds : List Deferred) (σ : Env) (Q : Exit → Act → World → Prop) (m : Nat) (V : VL) (η : Heap) (h : Nat) : Prop :=
  ∃ o d env, l[h]? = some o ∧ o.dst = some d ∧ Nat.blt h m = true ∧ vget V h = none ∧ EnvOkV l σ V h env ∧ readersOk l V h = true ∧ ∀ ext : Env, TL F P S w0 n l.toArray (QB F P S w0 n l ds σ Q m V h d (envs env ++ ext)) [o] ds (envs env ++ ext) η

theorem InvD.env {L : Array Bool} {a : Act} (hi : InvD S w0 n l ds σ V η L a w) {i : Nat} (hL : L[i]? = some false) (hready : ∀ j, waits l i j = true → L[j]? = some true) :
    ∀ {env : List (Nat × Value × Option Nat)}, EnvOkV l σ V i env → ∀ t v, lk (envs env) t = some v → a.tmps[t]? = some v
  | [], _, t, v, h => by simp [envs, lk] at h
  | (s, u, some j) :: r, he, t, v, h => by
    simp only [envs] at h
    rw [lk_cons] at h
    by_cases hst : s = t
    · rw [if_pos hst] at h
      cases h; subst hst
      exact hi.new j u s (hready j he.1.1) he.1.2.2 he.1.2.1
    · rw [if_neg hst] at h
      exact InvD.env hi hL hready he.2 t v h
  | (s, u, none) :: r, he, t, v, h => by
    simp only [envs] at h
    rw [lk_cons] at h
    by_cases hst : s = t
    · rw [if_pos hst] at h
      cases h; subst hst
      refine hi.old s u he.1.1 fun k hk1 hk2 => ?_
      have hc := he.1.2
      simp only [clean, List.all_eq_true, List.mem_range, Bool.or_eq_true] at hc
      have hkl : k < l.length := by have := (Array.getElem?_eq_some_iff.1 hk1).1; rw [hi.size] at this; exact this
      rcases hc k hkl with (h1 | h1 | h1) | h1
      · rw [hk2] at h1; simp at h1
      · have := hi.down k i h1 hk1
        rw [hL] at this; cases this
      · have := waitsT_done hi.down _ k i (fun i' hi' => hi.down k i' hi' hk1) h1
        rw [hL] at this; cases this
      · have : k = i := Nat.eq_of_beq_eq_true h1
        subst this
        rw [hL] at hk1; cases hk1
    · rw [if_neg hst] at h
      exact InvD.env hi hL hready he.2 t v h

/-- One operation has been carried out. -/
theorem InvD.put {V' : VL} {η' : Heap} {L : Array Bool} {a a' : Act} {w' : World} (hi : InvD S w0 n l ds σ V η L a w) (hq : dstsOk l m = true) {i d : Nat} {v : Value} (him : i < m) (hL : L[i]? = some false) (hready : ∀ j, waits l i j = true → L[j]? = some true)
    (hV : ∀ j u, vget V j = some u → vget V' j = some u) (hV' : ∀ j u, j ≠ i → vget V' j = some u → vget V j = some u) (hvi : vget V' i = some v) (hdom : ∀ j, (vget V j).isSome = true → j < m) (hdi : dstOf l i = some d)
    (hdone : ∀ j u, (j, u, 2) ∈ V' → j = i ∨ L[j]? = some true)
    (hs : a'.tmps.size = n) (hds : a'.defers = ds) (hd : a'.tmps[d]? = some v) (ho : ∀ t u, t ≠ d → a.tmps[t]? = some u → a'.tmps[t]? = some u) (hh : Hp S w0 η' w') : InvD S w0 n l ds σ V' η' (L.setIfInBounds i true) a' w' := by
  have hil := (Array.getElem?_eq_some_iff.1 hL).1
  have hset : ∀ k, (L.setIfInBounds i true)[k]? = some true ↔ k = i ∨ L[k]? = some true := by
    intro k
    rw [Array.getElem?_setIfInBounds]
    by_cases e : i = k
    · subst e; simp [hil]
    · rw [if_neg e]
      constructor
      · exact .inr
      · rintro (h | h)
        · exact absurd h.symm e
        · exact h
  have hq' : quietOk l m = true := hq
  refine ⟨by simp [hi.size], ?_, ?_, ?_, hs, hds, ?_, ?_, hh⟩
  · intro k hk
    rcases (hset k).1 hk with e | hk
    · subst e; rw [hvi]; rfl
    · have := hi.dom k hk
      cases hv : vget V k with
      | none => simp [hv] at this
      | some u => rw [hV k u hv]; rfl
  · intro j u hj
    rcases hdone j u hj with e | h
    · exact (hset j).2 (.inl e)
    · exact (hset j).2 (.inr h)
  · intro k j hw hk
    rcases (hset k).1 hk with e | hk
    · subst e; exact (hset j).2 (.inr (hready j hw))
    · exact (hset j).2 (.inr (hi.down k j hw hk))
  · intro t u ht hno
    have hne : t ≠ d := fun e => hno i ((hset i).2 (.inl rfl)) (by rw [hdi, e])
    exact ho t u hne (hi.old t u ht fun k hk => hno k ((hset k).2 (.inr hk)))
  · intro j u d' hj hv hd'
    rcases (hset j).1 hj with e | hj2
    · subst e
      rw [hvi] at hv; cases hv
      rw [hdi] at hd'; cases hd'
      exact hd
    · have hji : j ≠ i := fun e => by subst e; rw [hL] at hj2; cases hj2
      refine ho d' u (fun e => ?_) (hi.new j u d' hj2 (hV' j u hji hv) hd')
      subst e
      exact hji (dst_ne hq' (hdom j (hi.dom j hj2)) him hd' hdi)

/-- An operation that is carried out from here. -/
theorem run_one {L : Array Bool} {a : Act} {i d : Nat} {o : Oper} {env : List (Nat × Value × Option Nat)} {QO : Env → Exit → Act → World → Prop} (hi : InvD S w0 n l ds σ V η L a w) (hL : L[i]? = some false) (hready : ∀ j, waits l i j = true → L[j]? = some true) (ho : l[i]? = some o) (henv : EnvOkV l σ V i env)
    (hop : ∀ ext : Env, TL F P S w0 n l.toArray (QO (envs env ++ ext)) [o] ds (envs env ++ ext) η) :
    wpOpIn F 0 P l.toArray (QO (envs env ++ fullEnv a)) i (fun a' w' => QO (envs env ++ fullEnv a) .normal a' w') a w ∧ (∀ v a', Kn n ds ((d, v) :: (envs env ++ fullEnv a)) a' → a'.tmps[d]? = some v ∧ ∀ t u, t ≠ d → a.tmps[t]? = some u → a'.tmps[t]? = some u) := by
  have hke : ∀ t v, lk (envs env) t = some v → a.tmps[t]? = some v := hi.env hL hready henv
  have hkn : Kn n ds (envs env ++ fullEnv a) a := ⟨hi.tsize, hi.defers, fun t v htv => by
    rcases lk_append htv with h5 | ⟨_, h5⟩
    · exact hke t v h5
    · exact lk_full a t v h5⟩
  have h6 := hop (fullEnv a) a w hkn hi.hp
  rw [wpListIn_one (i := i) (by simp [ho])] at h6
  refine ⟨wpOpIn_mono (fun a' w' hx => hx) h6, fun v a' hk' => ⟨hk'.slot d _ (by rw [lk_cons, if_pos rfl]), fun t u hne htu => ?_⟩⟩
  refine hk'.slot t u ?_
  rw [lk_cons, if_neg (Ne.symm hne)]
  have hfull : lk (fullEnv a) t = some u := by
    have := lk_full' a.tmps.toList 0 t u (by simpa using htu)
    simpa [fullEnv] using this
  have happ : ∀ (e1 : Env), (∀ v, lk e1 t = some v → v = u) → lk (e1 ++ fullEnv a) t = some u := by
    intro e1
    induction e1 with
    | nil => intro _; exact hfull
    | cons p r ihr =>
      obtain ⟨s, v⟩ := p
      intro hv
      rw [List.cons_append, lk_cons]
      by_cases hst : s = t
      · rw [if_pos hst, hv v (by rw [lk_cons, if_pos hst])]
      · rw [if_neg hst]; exact ihr fun v' hv' => hv v' (by rw [lk_cons, if_neg hst]; exact hv')
  exact happ _ fun v hv => by
    have := hke t v hv
    rw [htu] at this; cases this; rfl

/-- A node: the heavy operations that may come next; at a leaf the tail. -/
theorem DH.node (hs : List Nat) (hd : dagOk l = true) (ht : tailOk l m = true) (hq : dstsOk l m = true) (hcomp : complete l m V hs = true) (hbr : ∀ h ∈ hs, HB F P S w0 n l ds σ Q m V η h)
    (hleaf : (∀ i, i < m → (vget V i).isSome = true) → TL F P S w0 n l.toArray Q (l.drop m) ds (allEnvV l V σ) η) : DH F P S w0 n l ds σ Q m V η := by
  intro hn h0 h1 hk
  have hml : m ≤ l.length := by
    simp only [dstsOk, Bool.and_eq_true] at hq
    exact Nat.le_of_ble_eq_true hq.1
  have hdom : ∀ j, (vget V j).isSome = true → j < m := by
    intro j hj
    cases hv : vget V j with
    | none => simp [hv] at hj
    | some u => obtain ⟨k, hm⟩ := vget_mem hv; exact (hk j u k hm).1
  have last : ∀ (f : Nat) (L : Array Bool) (a : Act) (w : World), L.toList.countP (· == false) = f → InvD S w0 n l ds σ V η L a w → (∀ k, k < m → L[k]? = some true) → wpAnyIn F 0 P .any l.toArray Q f L a w := by
    intro f L a w hc hi hall
    have hsz := hi.size
    have hLq : ∀ k, L[k]? = some true → k < m := fun k hk' => hdom k (hi.dom k hk')
    have hL : ∀ j, j < l.length → L[j]? = some (decide (j < m)) := fun j hj => by
      by_cases h1 : j < m
      · rw [hall j h1]; simp [h1]
      · have hj' : j < L.size := by omega
        have : L[j]? ≠ some true := fun e => h1 (hLq j e)
        simp only [hj', Array.getElem?_eq_getElem] at this ⊢
        cases h4 : L[j] with
        | true => rw [h4] at this; exact absurd rfl this
        | false => simp [h1]
    have hLeq : L.toList = List.replicate m true ++ List.replicate (l.length - m) false := by
      apply List.ext_getElem?
      intro j
      rw [Array.getElem?_toList]
      by_cases hj : j < l.length
      · rw [hL j hj]
        by_cases h1 : j < m
        · rw [List.getElem?_append_left (by simpa using h1)]; simp [h1]
        · rw [List.getElem?_append_right (by simpa using h1)]
          rw [List.getElem?_replicate, List.length_replicate, if_pos (by omega)]
          simp [h1]
      · rw [Array.getElem?_eq_none (by omega), List.getElem?_eq_none (by simp; omega)]
    have hf : m + f = l.length := by
      rw [hLeq] at hc
      simp [List.countP_append, List.countP_replicate] at hc
      omega
    refine any_tail hd ht f m L a w hf (Nat.le_refl _) hsz hL (hleaf (fun i him => hi.dom i (hall i him)) a w ⟨hi.tsize, hi.defers, fun t v htv => ?_⟩ hi.hp)
    have hmem : ∀ t v, (t, v) ∈ (V.filterMap fun x => (dstOf l x.1).map fun d => (d, x.2.1)) → ∃ i, vget V i = some v ∧ dstOf l i = some t := by
      intro t v h
      obtain ⟨⟨i, u, k⟩, h1, h2⟩ := List.mem_filterMap.1 h
      simp only [Option.map_eq_some_iff, Prod.mk.injEq] at h2
      obtain ⟨d, hd, rfl, rfl⟩ := h2
      exact ⟨i, mem_vget hn h1, hd⟩
    rcases lk_append htv with h5 | ⟨h5, h6⟩
    · obtain ⟨i, h3, h4⟩ := hmem t v (lk_mem h5)
      exact hi.new i v t (hall i (hdom i (by rw [h3]; rfl))) h3 h4
    · refine hi.old t v h6 fun k hk1 hk2 => ?_
      have hkv := hi.dom k hk1
      cases hv : vget V k with
      | none => simp [hv] at hkv
      | some u =>
        obtain ⟨kk, hm⟩ := vget_mem hv
        refine lk_none h5 u (List.mem_filterMap.2 ⟨(k, u, kk), hm, by simp [hk2]⟩)
  intro f
  induction f with
  | zero =>
    intro L a w hc hi
    refine last 0 L a w hc hi (fun j hj => ?_)
    have hsz := hi.size
    have hj' : j < L.size := by omega
    rw [List.countP_eq_zero] at hc
    have := hc L[j] (by simp)
    simp at this
    simp [hj', this]
  | succ f ih =>
    intro L a w hc hi
    have hsz := hi.size
    by_cases hall : ∀ k, k < m → L[k]? = some true
    · exact last (f + 1) L a w hc hi hall
    · simp only [Classical.not_forall] at hall
      obtain ⟨j, hj, hjn⟩ := hall
      have hjL : L[j]? = some false := by
        have hj' : j < L.size := by omega
        simp only [hj', Array.getElem?_eq_getElem] at hjn ⊢
        cases h4 : L[j] with
        | true => rw [h4] at hjn; exact absurd rfl hjn
        | false => rfl
      refine ⟨fun he => by
        obtain ⟨i, hi'⟩ := ready_ex hd hsz j hjL
        rw [he] at hi'; simp at hi', fun i hir => ?_⟩
      obtain ⟨hLi, hready⟩ := mem_ready hsz hir
      have hilt := (Array.getElem?_eq_some_iff.1 hLi).1
      have him : i < m := by
        rcases Nat.lt_or_ge i m with h3 | h3
        · exact h3
        · have : L[j]? = some true := by
            simp only [tailOk, List.all_eq_true, List.mem_range, Bool.or_eq_true] at ht
            rcases ht i (by omega) with h4 | h4
            · have : i < m := Nat.le_of_ble_eq_true h4
              omega
            · rcases h4 j (by omega) with h5 | h5
              · exact hready j h5
              · exact waitsT_done hi.down _ i j hready h5
          rw [hjL] at this; cases this
      have hcnt : (L.setIfInBounds i true).toList.countP (· == false) = f := by
        rw [Array.toList_setIfInBounds, List.countP_set (by simpa using hilt)]
        have h7 : L.toList[i]'(by simpa using hilt) = false := by
          have := (Array.getElem?_eq_some_iff.1 hLi).2
          simpa using this
        rw [h7, hc]; simp
      simp only [complete, List.all_eq_true, List.mem_range, Bool.or_eq_true] at hcomp
      rcases hcomp i him with (hv | hv) | hv
      · -- a quiet one
        cases hvi : vget V i with
        | none => simp [hvi] at hv
        | some v =>
          obtain ⟨k, hmem⟩ := vget_mem hvi
          have hqs : QSV F P S w0 n l ds σ V η i v := by
            rcases (hk i v k hmem).2 with e | e | e
            · subst e; exact h0 i v hmem η
            · subst e; exact h1 i v hmem
            · subst e; have := hi.done i v hmem; rw [hLi] at this; cases this
          obtain ⟨o, d, env, ho, hod, henv, hop⟩ := hqs
          have hdi : dstOf l i = some d := by simp [dstOf, ho, hod]
          obtain ⟨hrun, hfr⟩ := run_one (d := d) (QO := fun σ' => Fin S w0 n ds η ((d, v) :: σ')) hi hLi hready ho henv hop
          refine wpOpIn_monoQ (fun a' w' hx => ?_) (fun e a' w' hne hx => by cases e <;> first | exact absurd rfl hne | exact hx.elim) hrun
          obtain ⟨hk', hh'⟩ := (show Kn n ds ((d, v) :: (envs env ++ fullEnv a)) a' ∧ Hp S w0 η w' from hx)
          exact ih _ a' w' hcnt (hi.put hq him hLi hready (fun _ _ h => h) (fun _ _ _ h => h) hvi hdom hdi (fun j u hm => .inr (hi.done j u hm)) hk'.size hk'.defers (hfr v a' hk').1 (hfr v a' hk').2 hh')
      · -- a heavy one
        have hih : i ∈ hs := by
          obtain ⟨x, hx, he⟩ := List.any_eq_true.1 hv
          have : i = x := Nat.eq_of_beq_eq_true he
          rw [this]; exact hx
        obtain ⟨o, d, env, ho, hod, _, hnew, henv, hrd, hop⟩ := hbr i hih
        have hdi : dstOf l i = some d := by simp [dstOf, ho, hod]
        obtain ⟨hrun, hfr⟩ := run_one (d := d) (QO := fun σ' => QB F P S w0 n l ds σ Q m V i d σ') hi hLi hready ho henv hop
        refine wpOpIn_monoQ (fun a' w' hx => ?_) (fun e a' w' hne hx => by cases e <;> first | exact absurd rfl hne | exact hx) hrun
        obtain ⟨v, η', hk', hh', hdh⟩ := (show ∃ v η', Kn n ds ((d, v) :: (envs env ++ fullEnv a)) a' ∧ Hp S w0 η' w' ∧ DH F P S w0 n l ds σ Q m ((i, v, 2) :: execV V) η' from hx)
        have hext : ∀ j u, vget V j = some u → vget ((i, v, 2) :: execV V) j = some u := by
          intro j u hj
          rw [vget_cons, vget_exec]
          by_cases e : i = j
          · subst e; rw [hnew] at hj; cases hj
          · rw [if_neg e]; exact hj
        have hex : ∀ j u k, (j, u, k) ∈ execV V → ∃ k0, (j, u, k0) ∈ V ∧ ((k0 = 1 ∧ k = 2) ∨ (k0 ≠ 1 ∧ k = k0)) := by
          intro j u k hm
          obtain ⟨⟨j0, u0, k0⟩, hx0, he⟩ := List.mem_map.1 hm
          simp only [Prod.mk.injEq] at he
          obtain ⟨rfl, rfl, hke⟩ := he
          refine ⟨k0, hx0, ?_⟩
          by_cases e : k0 = 1
          · subst e; left; exact ⟨rfl, hke.symm⟩
          · right
            have : Nat.beq k0 1 = false := by
              cases hb : Nat.beq k0 1
              · rfl
              · exact absurd (Nat.eq_of_beq_eq_true hb) e
            rw [this] at hke; exact ⟨e, hke.symm⟩
        have hmapf : (execV V).map (·.1) = V.map (·.1) := by simp [execV, Function.comp_def]
        refine hdh ?_ ?_ ?_ ?_ f _ a' w' hcnt (hi.put hq him hLi hready hext ?_ (by rw [vget_cons, if_pos rfl]) hdom hdi ?_ hk'.size hk'.defers (hfr v a' hk').1 (hfr v a' hk').2 hh')
        · rw [List.map_cons, hmapf]
          refine List.nodup_cons.2 ⟨fun hm => ?_, hn⟩
          obtain ⟨⟨j0, u0, k0⟩, hx0, he⟩ := List.mem_map.1 hm
          simp only at he; subst he
          have := mem_vget hn hx0
          rw [hnew] at this; cases this
        · intro j u hm η2
          rcases List.mem_cons.1 hm with e | hm
          · cases e
          · obtain ⟨k0, hx0, h2 | h2⟩ := hex j u 0 hm
            · exact absurd h2.2 (by decide)
            · rw [← h2.2] at hx0; exact (h0 j u hx0 η2).ext hext
        · intro j u hm
          rcases List.mem_cons.1 hm with e | hm
          · cases e
          · obtain ⟨k0, hx0, h2 | h2⟩ := hex j u 1 hm
            · exact absurd h2.2 (by decide)
            · exact absurd h2.2.symm h2.1
        · intro j u k hm
          rcases List.mem_cons.1 hm with e | hm
          · cases e; exact ⟨him, .inr (.inr rfl)⟩
          · obtain ⟨k0, hx0, h2 | h2⟩ := hex j u k hm
            · exact ⟨(hk j u k0 hx0).1, .inr (.inr h2.2)⟩
            · rw [h2.2]; exact hk j u k0 hx0
        · intro j u hji hv2
          rw [vget_cons, if_neg (fun e => hji e.symm), vget_exec] at hv2; exact hv2
        · intro j u hm
          rcases List.mem_cons.1 hm with e | hm
          · cases e; exact .inl rfl
          · obtain ⟨k0, hx0, h2 | h2⟩ := hex j u 2 hm
            · right
              simp only [readersOk, List.all_eq_true] at hrd
              have h3 := hrd (j, u, k0) hx0
              simp only [h2.1, Bool.or_eq_true, Bool.not_eq_true'] at h3
              rcases h3 with h3 | h3 | h3
              · simp at h3
              · exact hready j h3
              · exact waitsT_done hi.down _ i j hready h3
            · right; rw [← h2.2] at hx0; exact hi.done j u hx0
      · -- it waits for what is not known
        exfalso
        simp only [List.any_eq_true, List.mem_range, Bool.and_eq_true, Bool.or_eq_true] at hv
        obtain ⟨j2, hj2, hnone, hw⟩ := hv
        have hLj : L[j2]? = some true := by
          rcases hw with h5 | h5
          · exact hready j2 h5
          · exact waitsT_done hi.down _ i j2 hready h5
        have := hi.dom j2 hLj
        cases hvv : vget V j2 with
        | none => simp [hvv] at this
        | some u => simp [hvv] at hnone
theorem DH.done (pre : Env) (tl : List Oper) (hd : dagOk l = true) (ht : tailOk l m = true) (hq : dstsOk l m = true) (hcomp : complete l m V [] = true) (hp : allEnvV l V σ = pre ++ σ) (hl : l.drop m = tl)
    (h : TL F P S w0 n l.toArray Q tl ds (pre ++ σ) η) : DH F P S w0 n l ds σ Q m V η := DH.node [] hd ht hq hcomp (by simp) (fun _ => by rw [hp, hl]; exact h)
theorem not_all {h : Nat} (hm : Nat.blt h m = true) (hv : vget V h = none) {X : Prop} (ha : ∀ i, i < m → (vget V i).isSome = true) : X := by
  have := ha h (Nat.le_of_ble_eq_true hm)
  rw [hv] at this; simp at this
/-- One heavy operation may come next. -/
theorem DH.heavy (h : Nat) (env : List (Nat × Value × Option Nat)) {o : Oper} {d : Nat} (hd : dagOk l = true) (ht : tailOk l m = true) (hq : dstsOk l m = true) (hcomp : complete l m V [h] = true) (ho : l[h]? = some o) (hod : o.dst = some d) (him : Nat.blt h m = true) (hnew : vget V h = none) (he : EnvOkV l σ V h env) (hrd : readersOk l V h = true)
    (hop : ∀ ext : Env, TL F P S w0 n l.toArray (QB F P S w0 n l ds σ Q m V h d (envs env ++ ext)) [o] ds (envs env ++ ext) η) : DH F P S w0 n l ds σ Q m V η :=
  DH.node [h] hd ht hq hcomp (fun h' hh => by
    have : h' = h := by simpa using hh
    subst this; exact ⟨o, d, env, ho, hod, him, hnew, he, hrd, hop⟩) (fun ha => not_all him hnew ha)
/-- Two heavy operations may come next. -/
theorem DH.heavy2 {h1 h2 : Nat} (hd : dagOk l = true) (ht : tailOk l m = true) (hq : dstsOk l m = true) (hcomp : complete l m V [h1, h2] = true) (b1 : HB F P S w0 n l ds σ Q m V η h1) (b2 : HB F P S w0 n l ds σ Q m V η h2) : DH F P S w0 n l ds σ Q m V η :=
  DH.node [h1, h2] hd ht hq hcomp (fun h' hh => by
    rcases List.mem_cons.1 hh with e | hh
    · subst e; exact b1
    · have : h' = h2 := by simpa using hh
      subst this; exact b2) (fun ha => by obtain ⟨_, _, _, _, _, him, hnew, _⟩ := b1; exact not_all him hnew ha)
theorem T.drawH (m : Nat) {id : Nat} (hm : P.follows .mixedOrders = true) (h : DH F P S w0 n l ds σ Q m [] η) : T F P S w0 n Q (.region id l.toArray true) ds σ η := fun a w hk hh => by
  refine wpIn_region_any hm ?_
  refine h (by simp) (by simp) (by simp) (by simp) _ _ a _ ?_ ?_
  · simp [List.countP_replicate]
  exact ⟨by simp, fun k hk => by simp [Array.getElem?_replicate] at hk, by simp, fun k j _ hk => by simp [Array.getElem?_replicate] at hk, hk.size, hk.defers, fun t v h1 _ => hk.slot t v h1, fun i v d hi => by simp [Array.getElem?_replicate] at hi, hh.drew _⟩
end
end Go.Sl
/- Owned slices that begin behind the start of their block. -/
namespace Go.Sl
/-- An owned slice, from some place of its block on. -/
def OSx (e : TypeId) (sz : Nat) (v : Value) (n : Nat) (xs : List Value) (seg : Seg) : Prop :=
  xs.length = n * sz ∧ ((v = .slice none 0 0 ∧ n = 0 ∧ seg = []) ∨
    ∃ g o cap cur, v = .slice (some ⟨g, o, none⟩) n cap ∧ seg = [(g, .cells cur e (0, 0))] ∧ n ≤ cap ∧ o + cap * sz ≤ cur.size ∧ (cur.toList.drop o).take (n * sz) = xs)
section
variable {P : Program} {S : Nat → Prop} {w0 w : World} {η : Heap}
theorem OSl.x {e : TypeId} {sz n : Nat} {v : Value} {xs : List Value} {seg : Seg} (h : OSl e sz v n xs seg) : OSx e sz v n xs seg := by
  refine ⟨h.1, ?_⟩
  rcases h.2 with h2 | ⟨g, cap, cur, hv, hs, hnc, hcs, ht⟩
  · exact .inl h2
  · exact .inr ⟨g, 0, cap, cur, hv, hs, hnc, by omega, by rw [List.drop_zero]; exact ht⟩
theorem OSx.nil (e : TypeId) (sz : Nat) : OSx e sz (.slice none 0 0) 0 [] [] := ⟨by simp, .inl ⟨rfl, rfl, rfl⟩⟩
theorem OSx.form {e : TypeId} {sz n : Nat} {v : Value} {xs : List Value} {seg : Seg} (h : OSx e sz v n xs seg) : ∃ a cap, v = .slice a n cap := by
  rcases h.2 with ⟨rfl, rfl, _⟩ | ⟨g, o, cap, cur, rfl, _⟩ <;> exact ⟨_, _, rfl⟩
theorem OSx.row {e : TypeId} {sz n : Nat} {a : Option Addr} {l cap : Nat} {xs : List Value} {seg : Seg} (h : OSx e sz (.slice a l cap) n xs seg) (hs : seg ∈ η) : Row S w0 η a xs := by
  rcases h.2 with ⟨hv, hn, _⟩ | ⟨g, o, cap', cur, hv, hsg, hnc, hcs, ht⟩
  · have hx : xs = [] := List.eq_nil_of_length_eq_zero (by have := h.1; rw [hn] at this; simpa using this)
    subst hx
    exact ⟨fun hl => by simp at hl, fun i v hi => by simp at hi⟩
  · simp only [Value.slice.injEq] at hv
    obtain ⟨rfl, _, _⟩ := hv
    refine ⟨fun _ => ⟨_, rfl, rfl⟩, fun i v hi => ?_⟩
    refine .own seg hs cur e (0, 0) (by rw [hsg]; simp [sAt]) ?_ rfl
    rw [← ht, List.getElem?_take] at hi
    split at hi
    · rw [List.getElem?_drop] at hi; simpa [sAt] using hi
    · cases hi
theorem OSx.cut {e : TypeId} {sz n k : Nat} {a : Option Addr} {cap : Nat} {xs : List Value} {seg : Seg} (h : OSx e sz (.slice a n cap) n xs seg) (hk : k ≤ n) : OSx e sz (.slice (if cap = k then a else a.map (·.add (k * sz))) (n - k) (cap - k)) (n - k) (xs.drop (k * sz)) seg := by
  have hlen : (xs.drop (k * sz)).length = (n - k) * sz := by rw [List.length_drop, h.1, Nat.sub_mul]
  refine ⟨hlen, ?_⟩
  rcases h.2 with ⟨hv, hn, hs⟩ | ⟨g, o, cap', cur, hv, hsg, hnc, hcs, ht⟩
  · simp only [Value.slice.injEq] at hv
    obtain ⟨rfl, _, rfl⟩ := hv
    subst hn
    have : k = 0 := by omega
    subst this
    exact .inl ⟨by simp, rfl, hs⟩
  · simp only [Value.slice.injEq] at hv
    obtain ⟨rfl, _, rfl⟩ := hv
    right
    by_cases hck : cap = k
    · refine ⟨g, o, 0, cur, by rw [if_pos hck, hck]; simp, hsg, by omega, by omega, ?_⟩
      have : n - k = 0 := by omega
      have hl2 : xs.length ≤ k * sz := by rw [h.1]; exact Nat.mul_le_mul_right _ (by omega)
      rw [this, List.drop_of_length_le hl2]; simp
    · have hadd : (⟨g, o, none⟩ : Addr).add (k * sz) = ⟨g, o + k * sz, none⟩ := by
        unfold Addr.add; split
        · rename_i h0; simp [h0]
        · rfl
      have hmul : cap * sz = k * sz + (cap - k) * sz := by rw [← Nat.add_mul]; congr 1; omega
      refine ⟨g, o + k * sz, cap - k, cur, by rw [if_neg hck]; simp [hadd], hsg, by omega, by omega, ?_⟩
      rw [← ht, ← List.drop_drop, List.drop_take, ← Nat.sub_mul]
theorem run_appendX {t ty e : TypeId} [Und P t (.slice e)] {z : Value} {sz bt : Nat} [Inf P e z sz bt] (hz : z.cells.size = sz) {i n m : Nat} {v x : Value} {xs news : List Value} {seg : Seg} (hh : Hp S w0 η w) (hi : η[i]? = some seg)
    (ho : OSx e sz v n xs seg) (hs : Src S w0 η x m news) (hl : news.length = m * sz) (h1 : ∀ u ∈ news, u.oneCell' = true) (hb : (n + m) * bt ≤ 140737488355328) (hsm : n + m ≤ 4611686018427387904) :
    ∃ v' w' seg', (Builtin.append_ #[t, t] ty #[v, x]).run P w = .ok v' w' ∧ Hp S w0 (η.set i seg') w' ∧ OSx e sz v' (n + m) (xs ++ news) seg' := by
  obtain ⟨a, c, rfl, hr⟩ := hs
  have hfc := run_firstCells (P := P) (c := c) hr hl hh
  have hlen : (xs ++ news).length = (n + m) * sz := by rw [List.length_append, ho.1, hl, Nat.add_mul]
  obtain ⟨inf, hinf, hiz, hisz, hibt⟩ := run_typeInfo (P := P) (t := e) (z := z) (sz := sz) (bt := bt)
  have grow : ∀ (base : Option Addr) (cap : Nat), v = .slice base n cap → cap < n + m → (Builtin.firstCells sz n v).run P w.drew = .ok xs.toArray w.drew →
      ∃ v' w' seg', (Builtin.append_ #[t, t] ty #[v, .slice a m c]).run P w = .ok v' w' ∧ Hp S w0 (η.set i seg') w' ∧ OSx e sz v' (n + m) (xs ++ news) seg' := by
    intro base cap hv hlt hold
    subst hv
    have hfc' : (Builtin.firstCells sz m (.slice a m c)).run P w.drew = .ok news.toArray w.drew := run_firstCells (P := P) (c := c) hr hl (hh.drew (w.drawn + 1))
    have hg := growslice_fits (old := cap) (bytes := bt) hlt hb
    have hq : (Question.appendCap (n + m) cap e).forced = false := rfl
    have hcut : ∃ k, (Question.appendCap (n + m) cap e).cut (w.tape w.drawn (.appendCap (n + m) cap e)) = n + m + k := ⟨_, rfl⟩
    obtain ⟨k, hk⟩ := hcut
    refine ⟨.slice (some ⟨w.heap.size, 0, none⟩) (n + m) (n + m + k), w.drew.alloc (.cells (xs.toArray ++ news.toArray ++ Builtin.zeroCells z.cells k) e (0, 0)), [(w.heap.size, .cells (xs.toArray ++ news.toArray ++ Builtin.zeroCells z.cells k) e (0, 0))], ?_, (hh.drew (w.drawn + 1)).freshI hi _, hlen, .inr ⟨_, 0, _, _, rfl, rfl, by omega, ?_, ?_⟩⟩
    · have h3 : ¬ (n + m ≤ cap) := by omega
      simp only [Builtin.append_]
      simp [run_underlying (t := t) (d := .slice e), run_sizeOf (t := e) (z := z) (sz := sz) (bt := bt), Builtin.lenOf, h3, hinf, hibt, hq, hk, hold, hfc', run_zeroValue (t := e) (z := z) (sz := sz) (bt := bt), newRow]
      rw [if_neg (by omega), if_neg (by omega)]
      simp
      congr 2
      rw [← Array.append_assoc]
      simp
    · exact Nat.le_of_eq (by simp [Builtin.zeroCells, ho.1, hl, hz, Nat.add_mul])
    · rw [List.drop_zero]
      simp only [Array.toList_append, List.append_assoc]
      rw [← List.append_assoc, ← hlen]
      exact List.take_left
  rcases ho.2 with ⟨rfl, rfl, rfl⟩ | ⟨g, o, cap, cur, rfl, rfl, hnc, hcs, htk⟩
  · have hx : xs = [] := List.eq_nil_of_length_eq_zero (by simpa using ho.1)
    subst hx
    by_cases hm : m = 0
    · subst hm
      have hn : news = [] := List.eq_nil_of_length_eq_zero (by simpa using hl)
      subst hn
      refine ⟨.slice none 0 0, w, [], ?_, ?_, OSx.nil e sz⟩
      · simp [Builtin.append_, run_underlying (t := t) (d := .slice e), run_sizeOf (t := e) (z := z) (sz := sz) (bt := bt), Builtin.lenOf, hfc]
      · obtain ⟨pre, post, he, hse⟩ := flatten_set_sub (s' := ([] : Seg)) hi
        rw [hse, ← he]; exact hh
    · exact grow none 0 rfl (by omega) (by simp [Builtin.firstCells])
  · by_cases hroom : n + m ≤ cap
    · have hg := (hh.own (g, .cells cur e (0, 0)) (List.mem_flatten.2 ⟨_, List.mem_of_getElem? hi, by simp⟩)).1
      have hmul : (n + m) * sz ≤ cap * sz := Nat.mul_le_mul_right _ hroom
      have hfit : o + n * sz + news.length ≤ cur.size := by rw [hl]; rw [Nat.add_mul] at hmul; omega
      refine ⟨_, _, [(g, .cells ((cur.toList.take (o + n * sz) ++ news ++ cur.toList.drop (o + n * sz + news.length)).toArray) e (0, 0))], ?_, hh.turnI hi _, hlen, .inr ⟨g, o, cap, _, rfl, rfl, hroom, ?_, ?_⟩⟩
      · have hadd : (⟨g, o, none⟩ : Addr).add (n * sz) = ⟨g, o + n * sz, none⟩ := by
          unfold Addr.add; split
          · rename_i h0; simp [h0]
          · rfl
        have hst := run_storeCells (P := P) (e := e) (b := g) news cur (o + n * sz) 0 w hg (by simpa using hfit) h1
        simp only [Nat.add_zero] at hst
        rw [foldl_set _ _ _ hfit] at hst
        simp [Builtin.append_, run_underlying (t := t) (d := .slice e), run_sizeOf (t := e) (z := z) (sz := sz) (bt := bt), Builtin.lenOf, hroom, hfc, hadd, hst]
      · simp only [List.size_toArray, List.length_append, List.length_take, List.length_drop, Array.length_toList]
        omega
      · have hol : o ≤ (cur.toList.take (o + n * sz)).length := by simp; omega
        have e1 : (cur.toList.take (o + n * sz)).drop o = xs := by
          rw [← htk, List.drop_take]; congr 1; omega
        show ((cur.toList.take (o + n * sz) ++ news ++ cur.toList.drop (o + n * sz + news.length)).drop o).take ((n + m) * sz) = xs ++ news
        rw [List.append_assoc, List.drop_append_of_le_length hol, e1, ← List.append_assoc, ← hlen]
        exact List.take_left
    · refine grow (some ⟨g, o, none⟩) cap rfl (by omega) ?_
      have hrow : Row S w0 η (some ⟨g, o, none⟩) xs := ho.row (List.mem_of_getElem? hi)
      exact run_firstCells hrow ho.1 (hh.drew _)

end
section
variable {F : Fence} {P : Program} {S : Nat → Prop} {w0 : World} {n : Nat} {Q : Exit → Act → World → Prop} {ds : List Deferred} {σ : Env} {η : Heap} {ops : Array Oper} {rest : List Oper} {d : Nat} {ty : TypeId} {pos : String} {af : Array Edge}
/-- append, of such a slice that is owned at place i. -/
theorem TL.appendX (hF : Open F) (i : Nat) {t e : TypeId} [Und P t (.slice e)] {z : Value} {sz bt : Nat} [Inf P e z sz bt] {x y : Operand} {k m : Nat} {v u : Value} {xs news : List Value} {seg : Seg} (hx : ev σ x = some v) (hy : ev σ y = some u)
    (hi : η[i]? = some seg) (ho : OSx e sz v k xs seg) (hs : Src S w0 η u m news) (hz : z.cells.size = sz) (hl : news.length = m * sz) (h1 : ∀ u ∈ news, u.oneCell' = true) (hb : (k + m) * bt ≤ 140737488355328) (hsm : k + m ≤ 4611686018427387904) (hn : Nat.blt d n = true)
    (h : ∀ a cap seg', OSx e sz (.slice a (k + m) cap) (k + m) (xs ++ news) seg' → TL F P S w0 n ops Q rest ds ((d, .slice a (k + m) cap) :: σ) (η.set i seg')) :
    TL F P S w0 n ops Q (⟨some d, .call ⟨.builtin .append, #[x, y], #[t, t]⟩, ty, pos, af, none⟩ :: rest) ds σ η :=
  TL.val hF (by intro c; simp) hn fun a w hk hh => by
    obtain ⟨v', w', seg', hr, hh', ho'⟩ := run_appendX (P := P) (t := t) (ty := ty) (e := e) (z := z) (sz := sz) (bt := bt) hz hh hi ho hs hl h1 hb hsm
    obtain ⟨a', cap, rfl⟩ := ho'.form
    exact ⟨_, w', _, by simp [execOp, resolve, Go.invoke, Go.builtin, hk.ev hx, hk.ev hy, hr], hh', h _ _ _ ho'⟩
end
end Go.Sl
/- Blocks that are from now on only read; what arguments hold; the frame of a law. -/
namespace Go.Sl
section
variable {F : Fence} {P : Program} {S : Nat → Prop} {w0 w : World} {n : Nat} {Q : Exit → Act → World → Prop} {ds : List Deferred} {σ : Env} {η : Heap} {ops : Array Oper}
/-- From one view of memory to the next one, in which some owned blocks are only read. -/
structure Frz (S S' : Nat → Prop) (w0 w1 : World) (ηr : Heap) : Prop where
  back : ∀ η' w', Hp S' w1 η' w' → Hp S w0 (ηr ++ η') w'
  get : ∀ a v, At S w0 ηr a v → At S' w1 [] a v

theorem frz_mk {ηr : Heap} (hh : Hp S w0 (ηr ++ η) w) : Frz S (fun k => S k ∨ k ∈ ηr.flatten.map (·.1)) w0 w ηr ∧ Hp (fun k => S k ∨ k ∈ ηr.flatten.map (·.1)) w η w := by
  have hon := hh.once
  rw [List.flatten_append, List.map_append, List.nodup_append] at hon
  obtain ⟨n1, n2, n3⟩ := hon
  refine ⟨⟨fun η' w' h => ?_, fun a v h => ?_⟩, ?_⟩
  · refine ⟨h.os.trans hh.os, h.tape.trans hh.tape, h.output.trans hh.output, Nat.le_trans hh.size h.size, fun k hk => ⟨(hh.same k hk).1, ((h.same k (.inl hk)).2).trans (hh.same k hk).2⟩, fun p hp => ?_, ?_⟩
    · rw [List.flatten_append, List.mem_append] at hp
      rcases hp with hp | hp
      · have h1 := hh.own p (by rw [List.flatten_append, List.mem_append]; exact .inl hp)
        exact ⟨((h.same p.1 (.inr (List.mem_map.2 ⟨p, hp, rfl⟩))).2).trans h1.1, h1.2⟩
      · have h1 := h.own p hp
        exact ⟨h1.1, fun hs => h1.2 (.inl hs)⟩
    · rw [List.flatten_append, List.map_append, List.nodup_append]
      refine ⟨n1, h.once, fun a ha b hb hab => ?_⟩
      subst hab
      obtain ⟨p, hp, rfl⟩ := List.mem_map.1 hb
      exact (h.own p hp).2 (.inr ha)
  · cases h with
    | rd h hc =>
      refine .rd (.inl h) ?_
      have := (hh.same _ h).2
      simp only [World.cell?, this] at hc ⊢
      exact hc
    | own seg hs cs e fz hp hc hsp =>
      have hm : (a.block, Obj.cells cs e fz) ∈ ηr.flatten := List.mem_flatten.2 ⟨seg, hs, hp⟩
      have h1 := (hh.own _ (by rw [List.flatten_append, List.mem_append]; exact .inl hm)).1
      refine .rd (.inr (List.mem_map.2 ⟨_, hm, rfl⟩)) ?_
      simp only at h1
      simp [World.cell?, h1, hsp, hc]
  · refine ⟨rfl, rfl, rfl, Nat.le_refl _, fun k hk => ⟨?_, rfl⟩, fun p hp => ⟨(hh.own p (by rw [List.flatten_append, List.mem_append]; exact .inr hp)).1, ?_⟩, n2⟩
    · rcases hk with hk | hk
      · exact Nat.lt_of_lt_of_le (hh.same k hk).1 hh.size
      · obtain ⟨p, hp, rfl⟩ := List.mem_map.1 hk
        exact hh.lt (by rw [List.flatten_append, List.mem_append]; exact .inl hp)
    · rintro (hs | hs)
      · exact (hh.own p (by rw [List.flatten_append, List.mem_append]; exact .inr hp)).2 hs
      · exact n3 _ hs _ (List.mem_map.2 ⟨p, hp, rfl⟩) rfl
/-- From here on the blocks of ηr are only read. -/
theorem T.freeze {c : Code} (ηr : Heap) {η2 : Heap} (he : η = ηr ++ η2) (h : ∀ S' w1, Frz S S' w0 w1 ηr → T F P S' w1 n Q c ds σ η2) : T F P S w0 n Q c ds σ η := fun a w hk hh => by
  subst he
  obtain ⟨hz, h2⟩ := frz_mk hh
  exact h _ _ hz a w hk h2
theorem TL.freeze {l : List Oper} (ηr : Heap) {η2 : Heap} (he : η = ηr ++ η2) (h : ∀ S' w1, Frz S S' w0 w1 ηr → TL F P S' w1 n ops Q l ds σ η2) : TL F P S w0 n ops Q l ds σ η := fun a w hk hh => by
  subst he
  obtain ⟨hz, h2⟩ := frz_mk hh
  exact h _ _ hz a w hk h2
theorem Frz.old {S' : Nat → Prop} {w1 : World} {ηr : Heap} (hz : Frz S S' w0 w1 ηr) {a : Addr} {v : Value} (h : At S w0 [] a v) : At S' w1 [] a v := hz.get a v (h.up (by simp))
theorem Row.frz {S' : Nat → Prop} {w1 : World} {ηr : Heap} {a : Option Addr} {cs : List Value} (h : Row S w0 ηr a cs) (hz : Frz S S' w0 w1 ηr) : Row S' w1 [] a cs := ⟨h.ad, fun i v hi => hz.get _ _ (h.cell i v hi)⟩
theorem Row.old {S' : Nat → Prop} {w1 : World} {ηr : Heap} {a : Option Addr} {cs : List Value} (h : Row S w0 [] a cs) (hz : Frz S S' w0 w1 ηr) : Row S' w1 [] a cs := ⟨h.ad, fun i v hi => hz.old (h.cell i v hi)⟩
/-- The view at the start of a function, and how one comes back to it. -/
def Back (S S' : Nat → Prop) (w0 w1 : World) : Prop := ∀ η' w', Hp S' w1 η' w' → ∃ η2, Hp S w0 η2 w'
theorem Back.refl (S : Nat → Prop) (w0 : World) : Back S S w0 w0 := fun η' _ h => ⟨η', h⟩
theorem Back.frz {S' S2 : Nat → Prop} {w1 w2 : World} {ηr : Heap} (h : Back S S' w0 w1) (hz : Frz S' S2 w1 w2 ηr) : Back S S2 w0 w2 := fun _ _ h2 => h _ _ (hz.back _ _ h2)
/-- The end of a function whose result says nothing of memory. -/
theorem TQ.retsF {fn : Func} {S' : Nat → Prop} {w1 : World} (ts : List Nat) (vs : List Value) {v : Value} {R : Value → Heap → Prop} (hb : Back S S' w0 w1) (hr : fn.results = (ts.map ResultVar.tmp).toArray) (hv : lks σ ts = some vs) (he : retVal vs = v) (hR : ∀ η, R v η) :
    TQ S' w1 n (bodyPost P fn (post R S w0) .ret) [] σ η := fun a w hk hh => by
  obtain ⟨η2, h2⟩ := hb _ _ hh
  refine ⟨hk.defers, v, ?_, v, η2, rfl, h2, hR _⟩
  rw [results_run hr hk (lks_map hv), retVal_eq, he]
theorem TQ.retLF {fn : Func} {S' : Nat → Prop} {w1 : World} (ts : List Nat) (vs : List Value) {v : Value} {R : Value → Heap → Prop} (hb : Back S S' w0 w1) (hr : fn.results = (ts.map ResultVar.tmp).toArray) (hv : lks σ ts = some vs) (he : retVal vs = v) (hR : ∀ η, R v η) :
    TQ S' w1 n (bodyPostL P fn (post R S w0) .ret) [] σ η := fun a w hk hh => by
  show Lv P fn a.tmps (post R S w0) a.defers .returning w
  rw [hk.defers]
  obtain ⟨η2, h2⟩ := hb _ _ hh
  exact ⟨v, by rw [results_run hr hk (lks_map hv), retVal_eq, he], v, η2, rfl, h2, hR _⟩
end

/-! What arguments hold -/
section
open Go.ChangeShapes Go.WideShapes Go.Deep Go.RowKit
variable {H : Type} {enc : TypeId × Value → H} {P : Program} {W : World}
abbrev Old (W : World) : Nat → Prop := (· < W.heap.size)
theorem cell_lt {a : Addr} {v : Value} (h : W.cell? a = some v) : a.block < W.heap.size ∧ a.spot = none := by
  unfold World.cell? at h
  split at h
  · rename_i c e fz hb
    refine ⟨(Array.getElem?_eq_some_iff.1 hb).1, ?_⟩
    cases hs : a.spot with
    | none => rfl
    | some x => simp [hs] at h
  · cases h
theorem add_spot (a : Addr) (i : Nat) : (a.add i).spot = none → a.spot = none ∨ 0 < i := by
  intro h
  unfold Addr.add at h
  split at h
  · exact .inl h
  · rename_i hi; exact .inr (by omega)
/-- A slice that is read: its cells, and what each element reads as. -/
theorem slice_read {t e : TypeId} (ht : P.underlying t = some (.slice e)) (hc : 0 < P.cellsOf e) {fuel : Nat} {v : Value} {x : DataW H × List MemPlace} (h : DataW.trod enc P W 0 (fun _ => true) true fuel t [v] = some x) :
    ∃ (a : Option Addr) (len cap n : Nat) (cs : List Value), v = .slice a len cap ∧ len ≤ cap ∧ cap ≤ maxLen ∧ cs.length = len * P.cellsOf e ∧ Row (Old W) W [] a cs ∧
      ∀ i, i < len → ∃ y, DataW.trod enc P W 0 (fun _ => true) true n e ((cs.drop (i * P.cellsOf e)).take (P.cellsOf e)) = some y := by
  rcases open_slice ht h with ⟨hv, _⟩ | ⟨a, len, cap, m, n, D, Pl, hcs, _, hl, hm, hmm, _, hi⟩
  · have : v = .slice none 0 0 := by simpa using hv
    subst this
    exact ⟨none, 0, 0, 0, [], rfl, Nat.le_refl _, Nat.zero_le _, by simp, ⟨fun h => by simp at h, fun i v h => by simp at h⟩, fun i hi => by omega⟩
  · have : v = .slice (some a) len cap := by simpa using hcs
    subst this
    simp only [if_true] at hmm
    have hx : ∀ i, i < len → ∃ cs', W.cells? 0 (a.add (i * P.cellsOf e)) (P.cellsOf e) = some cs' ∧ DataW.trod enc P W 0 (fun _ => true) true n e cs' = some (D i, Pl i) := fun i h => hi i (by omega)
    obtain ⟨C, hC⟩ := choose_lt (α := List Value) hx
    have hlen : ∀ i, i < len → (C i).length = P.cellsOf e := fun i h => (World.cells?_some (hC i h).1).2.1
    have hcell : ∀ i j, i < len → j < P.cellsOf e → W.cell? (a.add (i * P.cellsOf e + j)) = (C i)[j]? := fun i j h1 h2 => by
      have := (World.cells?_some (hC i h1).1).2.2 j h2
      rwa [Go.Deep.add_add] at this
    let f : Nat → List Value := fun i => if i < len then C i else List.replicate (P.cellsOf e) undef
    have hf : ∀ i, (f i).length = P.cellsOf e := fun i => by
      simp only [f]; split
      · exact hlen i (by assumption)
      · simp
    have hget : ∀ i j, i < len → j < P.cellsOf e → ((List.range len).flatMap f)[i * P.cellsOf e + j]? = (C i)[j]? := fun i j h1 h2 => by
      rw [flat_get _ f hf _ i j h2]
      simp [h1, f]
    have htot : ((List.range len).flatMap f).length = len * P.cellsOf e := by
      rw [List.length_flatMap]
      have : (List.range len).map (fun i => (f i).length) = List.replicate len (P.cellsOf e) := by
        apply List.ext_getElem
        · simp
        · intro i h1 h2; simp [hf]
      rw [this, List.sum_replicate_nat]
    have hsp : 0 < len → a.spot = none ∧ a.block < W.heap.size := fun h0 => by
      have h1 := hcell 0 0 h0 hc
      have h2 : (C 0)[0]? = some ((C 0)[0]'(by rw [hlen 0 h0]; exact hc)) := List.getElem?_eq_getElem _
      rw [h2] at h1
      have h3 := cell_lt h1
      simpa [Addr.add] using h3.symm
    have hadd : a.spot = none → ∀ k, a.add k = sAt (some a) k := fun hs k => by
      obtain ⟨b, o, s⟩ := a
      simp only at hs; subst hs
      unfold Addr.add sAt; split
      · rename_i h; simp [h]
      · rfl
    refine ⟨some a, len, cap, n, (List.range len).flatMap f, rfl, hl, hm, htot, ⟨fun h0 => ?_, fun k v hk => ?_⟩, fun i hil => ⟨(D i, Pl i), ?_⟩⟩
    · rw [htot] at h0
      exact ⟨a, rfl, (hsp (Nat.pos_of_mul_pos_right h0)).1⟩
    · have hkl := (List.getElem?_eq_some_iff.1 hk).1
      rw [htot] at hkl
      have h1 : k / P.cellsOf e < len := by rw [Nat.div_lt_iff_lt_mul hc]; exact hkl
      have h2 : k % P.cellsOf e < P.cellsOf e := Nat.mod_lt _ hc
      have h3 : k / P.cellsOf e * P.cellsOf e + k % P.cellsOf e = k := Nat.div_add_mod' k (P.cellsOf e)
      have h4 := hget _ _ h1 h2
      rw [h3, hk] at h4
      have h5 := hcell _ _ h1 h2
      rw [h3, ← h4] at h5
      obtain ⟨hs, hbl⟩ := hsp (Nat.lt_of_le_of_lt (Nat.zero_le _) h1)
      rw [hadd hs] at h5
      exact .rd hbl h5
    · have e1 : (((List.range len).flatMap f).drop (i * P.cellsOf e)).take (P.cellsOf e) = C i := by
        apply List.ext_getElem?
        intro j
        rw [List.getElem?_take]
        by_cases hj : j < P.cellsOf e
        · rw [if_pos hj, List.getElem?_drop, hget i j hil hj]
        · rw [if_neg hj, List.getElem?_eq_none (by rw [hlen i hil]; omega)]
      rw [e1]; exact (hC i hil).2
/-- A slice of integers. -/
theorem ints_read {t e : TypeId} {k : IntKind} (ht : P.underlying t = some (.slice e)) (he : P.underlying e = some (.int k)) (hc : P.cellsOf e = 1) {fuel : Nat} {v : Value} {x : DataW H × List MemPlace} (h : DataW.trod enc P W 0 (fun _ => true) true fuel t [v] = some x) :
    ∃ (a : Option Addr) (xs : List Int) (cap : Nat), v = .slice a xs.length cap ∧ xs.length ≤ maxLen ∧ Row (Old W) W [] a (xs.map (Value.int k)) ∧ ∀ i ∈ xs, (Lit.int k i).wf = true := by
  obtain ⟨a, len, cap, n, cs, rfl, hl, hm, hlen, hrow, hel⟩ := slice_read ht (by omega) h
  rw [hc] at hlen hel
  rw [Nat.mul_one] at hlen
  have hx : ∀ i, i < len → ∃ z : Int, cs[i]? = some (.int k z) ∧ (Lit.int k z).wf = true := fun i hi => by
    obtain ⟨y, hy⟩ := hel i hi
    obtain ⟨z, h1, _, h3⟩ := DataW.trod_int he hy
    refine ⟨z, ?_, h3⟩
    have : ((cs.drop (i * 1)).take 1)[0]? = some (.int k z) := by rw [h1]; rfl
    simpa using this
  obtain ⟨f, hf⟩ := choose_lt (α := Int) hx
  have e : cs = ((List.range len).map f).map (Value.int k) := by
    apply List.ext_getElem?
    intro i
    by_cases hi : i < len
    · rw [(hf i hi).1]; simp [hi]
    · rw [List.getElem?_eq_none (by omega)]; simp [hi]
  refine ⟨a, (List.range len).map f, cap, by simp, by simp; omega, by rw [← e]; exact hrow, fun z hz => ?_⟩
  obtain ⟨i, hi, rfl⟩ := List.mem_map.1 hz
  exact (hf i (by simpa using hi)).2
theorem wf_i64 {z : Int} (h : (Lit.int .i64 z).wf = true) : -9223372036854775808 ≤ z ∧ z ≤ 9223372036854775807 := by
  simp only [Lit.wf, Bool.and_eq_true, decide_eq_true_eq] at h; exact h
theorem wf_u16 {z : Int} (h : (Lit.int .u16 z).wf = true) : 0 ≤ z ∧ z ≤ 65535 := by
  simp only [Lit.wf, Bool.and_eq_true, decide_eq_true_eq] at h; exact h
theorem wf_u8 {z : Int} (h : (Lit.int .u8 z).wf = true) : 0 ≤ z ∧ z ≤ 255 := by
  simp only [Lit.wf, Bool.and_eq_true, decide_eq_true_eq] at h; exact h
theorem wf_u64 {z : Int} (h : (Lit.int .u64 z).wf = true) : 0 ≤ z ∧ z ≤ 18446744073709551615 := by
  simp only [Lit.wf, Bool.and_eq_true, decide_eq_true_eq] at h; exact h
theorem wf_u32 {z : Int} (h : (Lit.int .u32 z).wf = true) : 0 ≤ z ∧ z ≤ 4294967295 := by
  simp only [Lit.wf, Bool.and_eq_true, decide_eq_true_eq] at h; exact h

/-- A struct that is read: what its fields read as. -/
theorem struct_read {t : TypeId} {l : List (TypeId × Nat)} (hs : (match P.underlying t with | some (.struct fs) => some (fs.toList.map fun f => (f.type, f.offset)) | _ => none) = some l) {fuel : Nat} {cs : List Value} {x : DataW H × List MemPlace} (h : DataW.trod enc P W 0 (fun _ => true) true fuel t cs = some x) :
    ∃ n : Nat, cs.length = P.cellsOf t ∧ ∀ (i : Nat) (ty : TypeId) (off : Nat), l[i]? = some (ty, off) → ∃ y, DataW.trod enc P W 0 (fun _ => true) true n ty ((cs.drop off).take (P.cellsOf ty)) = some y := by
  cases hu : P.underlying t with
  | none => rw [hu] at hs; cases hs
  | some d =>
    cases d with
    | struct fs =>
      rw [hu] at hs
      simp only [Option.some.injEq] at hs
      subst hs
      obtain ⟨xs, n, _, _, hl, hxl, hf⟩ := DataW.trod_struct hu h
      refine ⟨n, hl, fun i ty off hi => ?_⟩
      rw [List.getElem?_map] at hi
      cases hfi : fs.toList[i]? with
      | none => rw [hfi] at hi; cases hi
      | some f =>
        rw [hfi] at hi
        simp only [Option.map_some, Option.some.injEq, Prod.mk.injEq] at hi
        obtain ⟨rfl, rfl⟩ := hi
        have hfi2 : fs[i]? = some f := by simpa using hfi
        have hil : i < xs.length := by rw [hxl]; exact (Array.getElem?_eq_some_iff.1 hfi2).1
        exact ⟨xs[i], by rw [hf i f hfi2]; exact List.getElem?_eq_getElem hil⟩
    | _ => rw [hu] at hs; cases hs
/-- The cells of a slice, element by element. -/
theorem list_read {α : Type} {c : Nat} {Q : α → Prop} (f : α → List Value) : ∀ {len : Nat} {cs : List Value}, cs.length = len * c → (∀ i, i < len → ∃ x, (cs.drop (i * c)).take c = f x ∧ Q x) → ∃ l : List α, l.length = len ∧ cs = l.flatMap f ∧ ∀ x ∈ l, Q x
  | 0, cs, hl, _ => ⟨[], rfl, by simpa using hl, by simp⟩
  | len + 1, cs, hl, h => by
    obtain ⟨x, hx, hq⟩ := h 0 (by omega)
    rw [Nat.add_mul, Nat.one_mul] at hl
    obtain ⟨l, h1, h2, h3⟩ := list_read (c := c) (Q := Q) (len := len) (cs := cs.drop c) f (by rw [List.length_drop]; omega) (fun i hi => by
      obtain ⟨y, hy, hqy⟩ := h (i + 1) (by omega)
      refine ⟨y, ?_, hqy⟩
      rw [List.drop_drop, ← hy, Nat.add_mul, Nat.one_mul, Nat.add_comm])
    refine ⟨x :: l, by simp [h1], ?_, fun y hy => ?_⟩
    · rw [List.flatMap_cons, ← h2, ← hx]
      simp
    · rcases List.mem_cons.1 hy with rfl | hy
      · exact hq
      · exact h3 y hy
theorem slice_form {t e : TypeId} (ht : P.underlying t = some (.slice e)) {fuel : Nat} {cs : List Value} {x : DataW H × List MemPlace} (h : DataW.trod enc P W 0 (fun _ => true) true fuel t cs = some x) : ∃ a l c, cs = [.slice a l c] := by
  rcases open_slice ht h with ⟨hv, _⟩ | ⟨a, len, cap, m, n, D, Pl, hcs, _⟩
  · exact ⟨_, _, _, hv⟩
  · exact ⟨_, _, _, hcs⟩

/-! The frame of a law: it answers true, and of what was there nothing has turned. -/
theorem calls_true {f : FuncId} {args : Array Value} (h : Rt P f args (Old W) W [] fun v _ => v = .bool true) : Calls P f args W fun e W' => e = .returned (.bool true) ∧ Below W.heap.size W W' :=
  (h W (Hp.start W)).mono fun _ _ ⟨v, _, h1, h2, h3⟩ => ⟨by rw [h1, h3], h2.below⟩
theorem trodAll_below (hl : laidOutB P = true) {W' : World} (hb : Below W.heap.size W W') : ∀ {ts : List TypeId} {vs : List Value} {ds : List (DataW H)} {ps : List MemPlace}, (∀ t ∈ ts, P.readableRec t = true ∧ t < P.types.size) → (∀ x ∈ ps, x.block < W.heap.size) →
    DataW.TrodAll enc P W 0 (fun _ => true) true ts vs ds ps → DataW.TrodAll enc P W' 0 (fun b => decide (b < W.heap.size)) true ts vs ds ps
  | [], vs, ds, ps, _, _, h => by
    obtain ⟨rfl, rfl, rfl⟩ := trodAll_nil h
    exact h
  | t :: ts, vs, ds, ps, hr, hlt, h => by
    obtain ⟨v, vs', d, ds', p, q, rfl, rfl, rfl, h1, h2⟩ := trodAll_cons h
    have ht := hr t List.mem_cons_self
    exact ⟨p, q, Below.trod hl ht.1 ht.2 h1 hb (fun x hx => hlt x (by simp [hx])), trodAll_below hl hb (fun t h => hr t (List.mem_cons_of_mem _ h)) (fun x hx => hlt x (by simp [hx])) h2, rfl⟩
theorem law_post {f : Func} {s : ChangeSpec} (hl : laidOutB P = true) (hv : s.vars = []) (bt : TypeId) (hrt : f.resultTypes = #[bt]) (hbt : P.underlying bt = some .bool) {W' : World} {args : Array Value} {ds gs : List (DataW H)} {before : List MemPlace}
    (hW : DataW.Whole enc P f.params.toList s.vars false W args.toList ds gs before) (hfn : s.fn H ds = { results := [.lit (.bool true)], args := ds }) (hr : ∀ t ∈ f.params.toList, P.readableRec t = true ∧ t < P.types.size) (hb : Below W.heap.size W W') :
    s.post enc P f false true false false W args (.bool true) W' := by
  have hlt := fun p hp => hW.lt p hp
  have hW2 := hW
  obtain ⟨p, q, h1, h2, rfl, _, _⟩ := hW
  rw [hv] at h2
  obtain ⟨rfl, rfl⟩ := trodVars_none h2
  have e : s.fn H (ds ++ []) = { results := [.lit (.bool true)], args := ds } := by rw [List.append_nil]; exact hfn
  refine ⟨ds, [], _, [], p, [], hW2, ?_, ?_, ?_, hb.frame _, fun h => by cases h⟩
  · rw [e, hrt]
    exact trodAll_mk1 (shut_bool hbt true)
  · rw [e]
    exact trodAll_below hl hb hr (fun x hx => hlt x (by simp [hx])) h1
  · rw [e, hv]; rfl
end
end Go.Sl
/- Some of the owned blocks, in whatever order; three operations that may come next; ends of a part. -/
namespace Go.Sl
section
variable {F : Fence} {P : Program} {S : Nat → Prop} {w0 w : World} {n : Nat} {Q : Exit → Act → World → Prop} {ds : List Deferred} {σ : Env} {η : Heap} {ops : Array Oper}
def distinctN : List Nat → Bool
  | [] => true
  | x :: r => r.all (fun y => !Nat.beq x y) && distinctN r
def pickOk (idx : List Nat) (m : Nat) : Bool := distinctN idx && idx.all fun i => Nat.blt i m
def pickL (idx : List Nat) (pre : Heap) : Heap := idx.map fun i => pre.getD i []
theorem distinctN_spec : ∀ {l : List Nat}, distinctN l = true → l.Pairwise (· ≠ ·)
  | [], _ => List.Pairwise.nil
  | x :: r, h => by
    simp only [distinctN, Bool.and_eq_true, List.all_eq_true] at h
    refine List.pairwise_cons.2 ⟨fun y hy e => ?_, distinctN_spec h.2⟩
    have := h.1 y hy
    rw [e] at this; simp at this
theorem Hp.pick {pre tail : Heap} (idx : List Nat) (ho : pickOk idx pre.length = true) (hh : Hp S w0 (pre ++ tail) w) : Hp S w0 (pickL idx pre ++ tail) w := by
  simp only [pickOk, Bool.and_eq_true, List.all_eq_true] at ho
  have hd := distinctN_spec ho.1
  have hlt : ∀ i ∈ idx, i < pre.length := fun i hi => Nat.le_of_ble_eq_true (ho.2 i hi)
  have hget : ∀ i, i < pre.length → pre.getD i [] ∈ pre := fun i hi => by
    rw [List.getD_eq_getElem?_getD, List.getElem?_eq_getElem hi]; exact List.getElem_mem hi
  have hmem : ∀ s ∈ pickL idx pre, s ∈ pre := fun s hs => by
    obtain ⟨i, hi, rfl⟩ := List.mem_map.1 hs
    exact hget i (hlt i hi)
  refine hh.sub (fun p hp => ?_) ?_
  · obtain ⟨s, hs, hps⟩ := List.mem_flatten.1 hp
    refine List.mem_flatten.2 ⟨s, ?_, hps⟩
    rcases List.mem_append.1 hs with h | h
    · exact List.mem_append_left _ (hmem s h)
    · exact List.mem_append_right _ h
  · have hon := hh.once
    rw [List.map_flatten, List.map_append] at hon ⊢
    rw [List.Nodup, List.pairwise_flatten, List.pairwise_append] at hon ⊢
    obtain ⟨h1, h2, h3, h4⟩ := hon
    refine ⟨fun l hl => h1 l ?_, ?_, h3, fun a ha b hb => h4 a ?_ b hb⟩
    · rcases List.mem_append.1 hl with h | h
      · obtain ⟨s, hs, rfl⟩ := List.mem_map.1 h
        exact List.mem_append_left _ (List.mem_map.2 ⟨s, hmem s hs, rfl⟩)
      · exact List.mem_append_right _ h
    · unfold pickL
      rw [List.map_map, List.pairwise_map]
      refine hd.imp_of_mem fun {i j} hi hj hne => ?_
      rw [List.pairwise_map, List.pairwise_iff_getElem] at h2
      have hi' := hlt i hi
      have hj' := hlt j hj
      have e1 : pre.getD i [] = pre[i] := by rw [List.getD_eq_getElem?_getD, List.getElem?_eq_getElem hi']; rfl
      have e2 : pre.getD j [] = pre[j] := by rw [List.getD_eq_getElem?_getD, List.getElem?_eq_getElem hj']; rfl
      simp only [Function.comp_apply, e1, e2]
      rcases Nat.lt_or_gt_of_ne hne with h | h
      · exact h2 i j hi' hj' h
      · exact fun x hx y hy e => h2 j i hj' hi' h y hy x hx e.symm
    · obtain ⟨s, hs, rfl⟩ := List.mem_map.1 ha
      exact List.mem_map.2 ⟨s, hmem s hs, rfl⟩
/-- Some of the first blocks, in this order. -/
theorem TQ.pick {K : Act → World → Prop} (idx : List Nat) (pre : Heap) {tail η' : Heap} (he : η = pre ++ tail) (ho : pickOk idx pre.length = true) (hp : pickL idx pre ++ tail = η') (h : TQ S w0 n K ds σ η') : TQ S w0 n K ds σ η := fun a w hk hh => by
  subst he; subst hp; exact h a w hk (hh.pick idx ho)
theorem T.pick {c : Code} (idx : List Nat) (pre : Heap) {tail η' : Heap} (he : η = pre ++ tail) (ho : pickOk idx pre.length = true) (hp : pickL idx pre ++ tail = η') (h : T F P S w0 n Q c ds σ η') : T F P S w0 n Q c ds σ η := fun a w hk hh => by
  subst he; subst hp; exact h a w hk (hh.pick idx ho)
theorem TL.pick' {l : List Oper} (idx : List Nat) (pre : Heap) {tail η' : Heap} (he : η = pre ++ tail) (ho : pickOk idx pre.length = true) (hp : pickL idx pre ++ tail = η') (h : TL F P S w0 n ops Q l ds σ η') : TL F P S w0 n ops Q l ds σ η := fun a w hk hh => by
  subst he; subst hp; exact h a w hk (hh.pick idx ho)
/-- The same heap, in other words. -/
theorem TQ.heap {K : Act → World → Prop} {η' : Heap} (he : η = η') (h : TQ S w0 n K ds σ η') : TQ S w0 n K ds σ η := he ▸ h
theorem T.heap {c : Code} {η' : Heap} (he : η = η') (h : T F P S w0 n Q c ds σ η') : T F P S w0 n Q c ds σ η := he ▸ h
theorem TL.heap {l : List Oper} {η' : Heap} (he : η = η') (h : TL F P S w0 n ops Q l ds σ η') : TL F P S w0 n ops Q l ds σ η := he ▸ h
/-- Three heavy operations may come next. -/
theorem DH.heavy3 {l : List Oper} {m : Nat} {V : VL} {h1 h2 h3 : Nat} (hd : dagOk l = true) (ht : tailOk l m = true) (hq : dstsOk l m = true) (hcomp : complete l m V [h1, h2, h3] = true) (b1 : HB F P S w0 n l ds σ Q m V η h1) (b2 : HB F P S w0 n l ds σ Q m V η h2) (b3 : HB F P S w0 n l ds σ Q m V η h3) : DH F P S w0 n l ds σ Q m V η :=
  DH.node [h1, h2, h3] hd ht hq hcomp (fun h' hh => by
    rcases List.mem_cons.1 hh with e | hh
    · subst e; exact b1
    · rcases List.mem_cons.1 hh with e | hh
      · subst e; exact b2
      · have : h' = h3 := by simpa using hh
        subst this; exact b3) (fun ha => by obtain ⟨_, _, _, _, _, him, hnew, _⟩ := b1; exact not_all him hnew ha)
/-- An owned slice that is not empty: its block; and a cell of it that is written. -/
theorem OSl.ex {e : TypeId} {sz k : Nat} {v : Value} {xs : List Value} {seg : Seg} (h : OSl e sz v k xs seg) (hk : 0 < k) : ∃ g cap cur, v = .slice (some ⟨g, 0, none⟩) k cap ∧ seg = [(g, .cells cur e (0, 0))] ∧ k * sz ≤ cur.size := by
  rcases h.2 with ⟨_, h0, _⟩ | ⟨g, cap, cur, hv, hs, hc, hz, _⟩
  · omega
  · exact ⟨g, cap, cur, hv, hs, by rw [hz]; exact Nat.mul_le_mul_right _ hc⟩
theorem OSl.put {e : TypeId} {sz k g cap j : Nat} {cur : Array Value} {xs : List Value} {u : Value} (h : OSl e sz (.slice (some ⟨g, 0, none⟩) k cap) k xs [(g, .cells cur e (0, 0))]) : OSl e sz (.slice (some ⟨g, 0, none⟩) k cap) k (xs.set j u) [(g, .cells (cur.setIfInBounds j u) e (0, 0))] := by
  refine ⟨by rw [List.length_set]; exact h.1, ?_⟩
  rcases h.2 with ⟨h0, _⟩ | ⟨g', cap', cur', hv, hs, hc, hz, ht⟩
  · cases h0
  · simp only [Value.slice.injEq, Option.some.injEq, Addr.mk.injEq, and_true, true_and] at hv
    obtain ⟨rfl, rfl⟩ := hv
    simp only [List.cons.injEq, Prod.mk.injEq, Obj.cells.injEq, true_and, and_true] at hs
    subst hs
    refine .inr ⟨g, cap, _, rfl, rfl, hc, by simpa using hz, ?_⟩
    rw [Array.toList_setIfInBounds, List.take_set, ht]
theorem cut0' (a : Option Addr) (c sz : Nat) : (if c = 0 then a else a.map (·.add (0 * sz))) = a := by
  split
  · rfl
  · rw [Nat.zero_mul]
    cases a with
    | none => rfl
    | some x => simp [Addr.add]
/-- A division of naturals. -/
theorem TL.quoN (hF : Open F) {rest : List Oper} {d : Nat} {ty : TypeId} {pos : String} {af : Array Edge} {xt yt : TypeId} {x y : Operand} {k : IntKind} {a b : Nat} (hx : ev σ x = some (.int k (a : Int))) (hy : ev σ y = some (.int k (b : Int))) (hb : 0 < b) (hk : k.wrap ((a / b : Nat) : Int) = ((a / b : Nat) : Int)) (hn : Nat.blt d n = true)
    (h : TL F P S w0 n ops Q rest ds ((d, .int k ((a / b : Nat) : Int)) :: σ) η) : TL F P S w0 n ops Q (⟨some d, .binOp .quo xt x y yt, ty, pos, af, none⟩ :: rest) ds σ η :=
  TL.pure hF (by intro c; simp) hn (fun c w hk2 _ => by
    have hb' : (Op.intDiv .quo k (a : Int) (b : Int)).run P w = .ok (.int k ((a / b : Nat) : Int)) w := by
      unfold Op.intDiv
      rw [if_neg (by omega)]
      simp only [Sem.run_pure]
      have e : Int.tdiv (a : Int) (b : Int) = ((a / b : Nat) : Int) := by simp
      first | rw [e, hk] | (simp only [e]; rw [hk]) | simp [e, hk]
    simp [execOp, hk2.ev hx, hk2.ev hy, eqGuard, binOp, hb']) h
end
section
open Go.ChangeShapes Go.WideShapes Go.Deep Go.RowKit
variable {H : Type} {enc : TypeId × Value → H} {P : Program} {W : World}
/-- A slice of integers that are not negative. -/
theorem nats_read {t e : TypeId} {k : IntKind} (B : Nat) (hB : ∀ z, (Lit.int k z).wf = true → 0 ≤ z ∧ z < (B : Int)) (ht : P.underlying t = some (.slice e)) (he : P.underlying e = some (.int k)) (hc : P.cellsOf e = 1) {fuel : Nat} {v : Value} {x : DataW H × List MemPlace} (h : DataW.trod enc P W 0 (fun _ => true) true fuel t [v] = some x) :
    ∃ (a : Option Addr) (xs : List Nat) (cap : Nat), v = .slice a xs.length cap ∧ xs.length ≤ cap ∧ xs.length < 2 ^ 63 ∧ Row (Old W) W [] a (xs.map fun (n : Nat) => .int k (n : Int)) ∧ ∀ n ∈ xs, n < B := by
  obtain ⟨a, len, cap, n, cs, rfl, hl, hm, hlen, hrow, hel⟩ := slice_read ht (by omega) h
  rw [hc] at hlen hel
  obtain ⟨l, h1, h2, h3⟩ := list_read (c := 1) (Q := fun n : Nat => n < B) (fun (n : Nat) => [Value.int k (n : Int)]) hlen (fun i hi => by
    obtain ⟨y, hy⟩ := hel i hi
    obtain ⟨z, h1, _, h3⟩ := DataW.trod_int he hy
    have := hB z h3
    exact ⟨z.toNat, by rw [h1, Int.toNat_of_nonneg this.1], by omega⟩)
  subst h1
  refine ⟨a, l, cap, rfl, hl, by unfold maxLen at hm; omega, ?_, h3⟩
  have e : (l.map fun (n : Nat) => Value.int k (n : Int)) = cs := by rw [h2, List.map_eq_flatMap]
  rw [e]; exact hrow
theorem b16 (z : Int) (h : (Lit.int .u16 z).wf = true) : 0 ≤ z ∧ z < ((65536 : Nat) : Int) := by have := wf_u16 h; omega
theorem b8 (z : Int) (h : (Lit.int .u8 z).wf = true) : 0 ≤ z ∧ z < ((256 : Nat) : Int) := by have := wf_u8 h; omega
end
end Go.Sl
