/- Deferred functions that recover; a range over a function; calls of yield. -/
import Derived.Test.YtdehpaikapbckaaBase4
import Derived.Recover
namespace Go.Sl

section
variable {F : Fence} {P : Program} {S : Nat → Prop} {w0 w : World} {n : Nat} {Q : Exit → Act → World → Prop} {ds : List Deferred} {σ : Env} {η : Heap} {ops : Array Oper} {rest : List Oper} {d : Nat} {ty : TypeId} {pos : String} {af : Array Edge}

/-- A defer statement of a function that the walk knows. -/
theorem TL.defer (hF : Open F) (hr : F.round = none) {f : Operand} {fn : Fn} {fst cap : Array Value} {ats : Array TypeId} (hf : ev σ f = some (.func fn fst cap)) (h : TL F P S w0 n ops Q rest ({ target := .fn fn cap, args := fst } :: ds) σ η) :
    TL F P S w0 n ops Q (⟨none, .defer ⟨.value f, #[], ats⟩, ty, pos, af, none⟩ :: rest) ds σ η := fun a w hk hh => by
  simp only [wpListIn, Region.wanted, if_true, Oper.wpIn]
  refine ⟨fun f _ => hF.fn f, ?_⟩
  rw [hr, Oper.semAt_none]
  simp only [execOp, resolve, hk.ev hf, Sem.run_bind, Deferred.ofValue, Sem.run_pure, Result.andThen_ok, Oper.uponIn]
  refine h _ _ ⟨hk.size, ?_, hk.slot⟩ hh
  simp [Act.put, hk.defers]

/-! How a frame leaves: deferred calls and marks -/
/-- 'Leaves' with marks. -/
def Lv (P : Program) (fn : Func) (tmps : Array Value) (R : Ending → World → Prop) : List Deferred → FrameMode → World → Prop
  | [], u, w => Leaves P fn tmps R [] u w
  | d :: ds, u, w => u ≠ .run ∧
      ((∃ r w', d.target = .collected r ∧ (Instr.takeDeferred r).run P w = .ok [] w' ∧ Lv P fn tmps R ds u w') ∨
       (∃ fv cap f args, d.target = .fn fv cap ∧ (invoke d.target d.args).run P w = .ok (.enter f args) w ∧
        CallsD P f args u w fun
          | .returned _, u', w' => Lv P fn tmps R ds (settle u') w'
          | .panicked chain, u', w' => Lv P fn tmps R ds (raised u' chain) w'
          | .outgrown, _, w' => R .outgrown w'))
theorem lv_steps {fn : Func} {tmps : Array Value} {R : Ending → World → Prop} : ∀ (ds : List Deferred) (u : FrameMode) (w : World) (fr : Frame)
    (cs : List Frame), fr.mode = u → fr.defers = ds → fr.tmps = tmps → P.funcs[fr.fn]? = some fn → fr.kind = .normal → Lv P fn tmps R ds u w →
    ∃ e w' fr', R e w' ∧ Comes P (lone fr cs w) (lone fr' cs w') e ∧ fr'.fn = fr.fn ∧ fr'.leaving P w' e := by
  intro ds
  induction ds with
  | nil => exact fun u w fr cs hu hd ht hf hk h => leaves_steps [] u w fr cs hu hd ht hf hk h
  | cons d ds ih =>
    intro u w fr cs hu hd ht hf hk h
    obtain ⟨hrun, h⟩ := h
    rcases h with ⟨r, w', htar, htake, hrest⟩ | ⟨fv, cap, f, args, htar, hinv, hcall⟩
    · have h1 := step_collected (cs := cs) (hu ▸ hrun) hd htar htake
      obtain ⟨e', w'', fr', hR', hs', hfn', hl'⟩ := ih u w' { fr with defers := [] ++ ds } cs hu rfl ht hf hk hrest
      exact ⟨e', w'', fr', hR', Comes.of_steps (.one h1) hs', hfn', hl'⟩
    · have h1 := step_defer (cs := cs) (hu ▸ hrun) hd htar hinv
      obtain ⟨e, u', w', frX, hR, hsteps, hkX, hgo⟩ := hcall { fr with defers := ds } cs hu
      cases e with
      | outgrown => exact ⟨.outgrown, w', fr, hR, Outgrown.of_steps (.one h1) hsteps, rfl, trivial⟩
      | returned v =>
        have h2 := step_going_returned (c := { { fr with defers := ds } with mode := u' }) (cs := cs) hkX hgo
        obtain ⟨e', w'', fr', hR', hs', hfn', hl'⟩ := ih (settle u') w' { { { fr with defers := ds } with mode := u' } with mode := settle u' } cs rfl rfl ht hf hk hR
        exact ⟨e', w'', fr', hR', Comes.of_steps (.head h1 (Steps.trans hsteps (.one h2))) hs', hfn', hl'⟩
      | panicked chain =>
        have h2 := step_going_panicked (c := { { fr with defers := ds } with mode := u' }) (cs := cs) hgo
        obtain ⟨e', w'', fr', hR', hs', hfn', hl'⟩ := ih (raised u' chain) w' { { { fr with defers := ds } with mode := u' } with mode := raised u' chain } cs rfl rfl ht hf hk hR
        exact ⟨e', w'', fr', hR', Comes.of_steps (.head h1 (Steps.trans hsteps (.one h2))) hs', hfn', hl'⟩
def bodyPostL (P : Program) (fn : Func) (R : Ending → World → Prop) : Exit → Act → World → Prop
  | .normal, a, w | .ret, a, w => Lv P fn a.tmps R a.defers .returning w
  | .panic chain, a, w => Lv P fn a.tmps R a.defers (.panicking chain) w
  | .outgrown, _, w => R .outgrown w
  | _, _, _ => False
theorem calls_of_wpL {f : FuncId} {fn : Func} {c : Code} {args : Array Value} {R : Ending → World → Prop} (hf : P.funcs[f]? = some fn) (hb : fn.body = some c)
    (h : c.wp P (bodyPostL P fn R) { tmps := args ++ Array.replicate (fn.ntmps - args.size) undef, defers := [] } w) : Calls P f args w R := by
  intro cs
  let b : Frame := { (default : Frame) with fn := f, kind := .normal }
  have henter : Frame.enter P f args .normal =
      b.at { tmps := args ++ Array.replicate (fn.ntmps - args.size) undef, defers := [] } [.code c] := by
    simp [Frame.enter, Frame.at, hf, hb, b]
  obtain ⟨e, a', w', hq, harr⟩ := h b [] cs
  rw [← henter] at harr
  cases e with
  | normal =>
    obtain ⟨e', w'', fr', hR, hs, hfn, hl⟩ := lv_steps a'.defers .returning w' { b.at a' [] with mode := .returning } cs rfl rfl rfl hf rfl hq
    exact ⟨e', w'', fr', hR, Comes.of_steps (Steps.trans harr (.one step_end)) hs, hfn, hl⟩
  | ret =>
    obtain ⟨todo, hs₀⟩ := harr
    obtain ⟨e', w'', fr', hR, hs, hfn, hl⟩ := lv_steps a'.defers .returning w' { b.at a' todo with mode := .returning } cs rfl rfl rfl hf rfl hq
    exact ⟨e', w'', fr', hR, Comes.of_steps hs₀ hs, hfn, hl⟩
  | panic chain =>
    obtain ⟨todo, hs₀⟩ := harr
    obtain ⟨e', w'', fr', hR, hs, hfn, hl⟩ := lv_steps a'.defers (.panicking chain) w' { b.at a' todo with mode := .panicking chain } cs rfl rfl rfl hf rfl hq
    exact ⟨e', w'', fr', hR, Comes.of_steps hs₀ hs, hfn, hl⟩
  | exit id => exact hq.elim
  | goto l => exact hq.elim
  | outgrown => exact ⟨.outgrown, w', b, hq, harr.resolve_left (by simp [b]), rfl, trivial⟩

/-- The entry of a function with deferred calls or marks. -/
theorem Rt.ofL {g : FuncId} {fn : Func} {c : Code} {args : List Value} {R : Value → Heap → Prop} (hf : P.funcs[g]? = some fn) (hb : fn.body = some c) (hm : Nat.ble args.length fn.ntmps = true)
    (h : T Fence.wide P S w0 fn.ntmps (bodyPostL P fn (post R S w0)) c [] (envOf args) η) : Rt P g args.toArray S w0 η R := fun w hh =>
  calls_of_wpL hf hb (wpIn_wide.1 (h _ w (kn_start (Nat.le_of_ble_eq_true hm)) hh))

/-- A deferred closure that recovers and hands what it got to 'stopped' (function k), with the captured place of the error. -/
structure StopC (P : Program) (g k : FuncId) : Prop where
  ex : ∃ fn id t1 t2 p1 p2 a1 a2 ats ra, P.funcs[g]? = some fn ∧ fn.body = some (.region id #[⟨some 1, .call ⟨.builtin .recover, #[], ra⟩, t1, p1, a1, none⟩, ⟨some 2, .call ⟨.value (.func k), #[.tmp 1, .tmp 0], ats⟩, t2, p2, a2, none⟩] false) ∧ fn.ntmps = 3 ∧ fn.results = #[]


theorem StopC.go {g k : FuncId} (hc : StopC P g k) [Ent P k] {u u1 : FrameMode} {ptr v : Value} {R : Value → Heap → Prop} (hu : (u = .returning ∧ v = .nilIface ∧ u1 = .returning) ∨ (u = .panicking [{ v, recovered := false }] ∧ u1 = .panicking [{ v, recovered := true }]))
    (hs : Rt P k #[v, ptr] S w0 η R) (hh : Hp S w0 η w) : CallsD P g #[ptr] u w fun e u' w' => ∃ x y η', e = .returned x ∧ u' = u1 ∧ Hp S w0 η' w' ∧ R y η' := by
  obtain ⟨fn, id, t1, t2, p1, p2, a1, a2, ats, ra, hf, hb, hn, hr⟩ := hc.ex
  refine callsD_of_wpS hf hb fun c₀ cs hu0 => wpS_region ?_
  have hrange : List.range 2 = [0, 1] := rfl
  have hrec : (match recoverD (c₀ :: cs) with | some (v, cs') => (v, cs') | none => (.nilIface, c₀ :: cs)) = (v, { c₀ with mode := u1 } :: cs) := by
    rcases hu with ⟨rfl, rfl, rfl⟩ | ⟨rfl, rfl⟩
    · cases c₀; simp only at hu0; subst hu0; rfl
    · cases c₀; simp only at hu0; subst hu0; rfl
  have key : ∀ (cs' : List Frame), cs' = { c₀ with mode := u1 } :: cs → wpOpsS P #[⟨some 1, .call ⟨.builtin .recover, #[], ra⟩, t1, p1, a1, none⟩, ⟨some 2, .call ⟨.value (.func k), #[.tmp 1, .tmp 0], ats⟩, t2, p2, a2, none⟩]
      (bodyPostS P fn c₀ cs fun e u' w' => ∃ x y η', e = .returned x ∧ u' = u1 ∧ Hp S w0 η' w' ∧ R y η') [1] { tmps := #[ptr, v, undef], defers := [] } cs' w := by
    intro cs' hcs
    subst hcs
    simp only [wpOpsS, List.getElem?_toArray, List.getElem?_cons_succ, List.getElem?_cons_zero, Region.wanted, if_true]
    simp only [execOp, resolve, Act.eval, Sem.run_bind, Deferred.ofValue, Sem.run_pure, Result.andThen_ok, invoke, Oper.upon]
    have e0 : (#[] ++ Array.map { tmps := #[ptr, v, undef], defers := [] : Act }.eval #[.tmp 1, .tmp 0] ++ #[]) = #[v, ptr] := by simp [Act.eval]
    rw [e0, Ent.eq]
    refine (hs w hh).mono ?_
    rintro e w' ⟨y, η', rfl, hh', hr'⟩
    refine ⟨rfl, u1, rfl, .tuple #[], ?_, .tuple #[], y, η', rfl, rfl, hh', hr'⟩
    simp [results, hr]
  have h1 := fun cs' h => key cs' h
  simp only [List.size_toArray, List.length_cons, List.length_nil, hrange, hn]
  have e2 : (#[ptr] ++ Array.replicate (3 - (0 + 1)) undef) = #[ptr, undef, undef] := by simp [Array.replicate_succ]
  rw [e2]
  unfold wpOpsS
  simp only [List.getElem?_toArray, List.getElem?_cons_zero, Region.wanted, if_true]
  have e3 : (execOp { tmps := #[ptr, undef, undef], defers := [] : Act }.eval ⟨some 1, .call ⟨.builtin .recover, #[], ra⟩, t1, p1, a1, none⟩).run P w = .ok .recover w := by
    simp [execOp, resolve, invoke, builtin]
  rw [e3]
  simp only [Act.put]
  have e4 : ∀ x : Value, (#[ptr, undef, undef] : Array Value).setIfInBounds 1 x = #[ptr, x, undef] := fun x => by simp
  cases hrc : recoverD (c₀ :: cs) with
  | none =>
    simp only [hrc, Prod.mk.injEq] at hrec
    simp only [e4, hrec.1]
    exact h1 _ hrec.2
  | some r =>
    obtain ⟨v', cs'⟩ := r
    simp only [hrc, Prod.mk.injEq] at hrec
    simp only [e4, hrec.1]
    exact h1 _ hrec.2

/-- The end of a function with one deferred closure of this kind (and marks ahead of it): results in slots, at last the error in its place. -/
def marksOf (rs : List Nat) : List Deferred := rs.map fun r => { target := .collected r, args := #[] }

theorem results_cell {fn : Func} {ts : List Nat} {vs : List Value} {c : Nat} {ct : TypeId} [Ag P ct false] {b : Nat} {x : Value} (hr : fn.results = (ts.map ResultVar.tmp ++ [ResultVar.cell c ct]).toArray) {a : Act} (hk : Kn n ds σ a) (hv : lks σ ts = some vs) (hc : lk σ c = some (.pointer (some ⟨b, 0, none⟩))) (hx : w.cell? ⟨b, 0, none⟩ = some x) :
    (results fn a.tmps).run P w = .ok (retVal (vs ++ [x])) w := by
  have key : ∀ (f : ResultVar → Sem Value), (∀ t, f (.tmp t) = pure (a.tmps.getD t undef)) → (f (.cell c ct)).run P w = .ok x w → ∀ (ts : List Nat) (vs : List Value), ts.map (lk σ) = vs.map some → ((ts.map ResultVar.tmp ++ [ResultVar.cell c ct]).mapM f).run P w = .ok (vs ++ [x]) w := by
    intro f hf hfc ts
    induction ts with
    | nil => intro vs hv; cases vs <;> simp_all
    | cons t ts ih =>
      intro vs hv
      cases vs with
      | nil => simp at hv
      | cons v vs =>
        simp only [List.map_cons, List.cons.injEq] at hv
        have h1 := hk.slot _ _ hv.1
        have h2 := ih vs hv.2
        simp only [List.map_cons, List.cons_append, List.mapM_cons, Sem.run_bind, hf, Sem.run_pure, Result.andThen_ok, h2]
        simp [Array.getD_eq_getD_getElem?, h1]
  unfold results
  rw [hr, Array.mapM_eq_mapM_toList]
  simp only [Sem.run_bind, Sem.run_map]
  have hc2 := hk.slot _ _ hc
  rw [key _ (fun t => rfl) (by simp [Array.getD_eq_getD_getElem?, hc2, asAddr, run_loadVar1 hx]) ts vs (lks_map hv)]
  simp only [Result.andThen_ok, Sem.run_pure]
  exact congrArg (fun z => Result.ok z w) (retVal_eq _)


theorem invoke_closure {g : FuncId} [Ent P g] (cap : Array Value) : (invoke (.fn (.func g) cap) #[]).run P w = .ok (.enter g cap) w := by
  simp [invoke, Ent.eq]

theorem lv_end {fn : Func} {ts : List Nat} {vs : List Value} {c b : Nat} {ct : TypeId} [Ag P ct false] {x : Value} {R : Value → Heap → Prop} {g k : FuncId} [Ent P g] [Ent P k] (hc : StopC P g k) {u u1 : FrameMode} {v : Value} {η1 : Heap}
    (hu : (u = .returning ∧ v = .nilIface ∧ u1 = .returning) ∨ (u = .panicking [{ v, recovered := false }] ∧ u1 = .panicking [{ v, recovered := true }]))
    (hs : Rt P k #[v, .pointer (some ⟨b, 0, none⟩)] S w0 η fun _ η' => η' = η1) (hr : fn.results = (ts.map ResultVar.tmp ++ [ResultVar.cell c ct]).toArray) {a : Act} (hk : Kn n ds σ a) (hv : lks σ ts = some vs) (hcl : lk σ c = some (.pointer (some ⟨b, 0, none⟩)))
    (hx : At S w0 η1 ⟨b, 0, none⟩ x) (hR : R (retVal (vs ++ [x])) η1) (hh : Hp S w0 η w) : Lv P fn a.tmps (post R S w0) [{ target := .fn (.func g) #[.pointer (some ⟨b, 0, none⟩)], args := #[] }] u w := by
  refine ⟨by rcases hu with ⟨rfl, _⟩ | ⟨rfl, _⟩ <;> simp, .inr ⟨_, _, g, _, rfl, invoke_closure _, ?_⟩⟩
  refine (hc.go hu hs hh).mono ?_
  rintro e u' w' ⟨y, z, η', rfl, rfl, hh', rfl⟩
  have hset : settle u' = .returning := by rcases hu with ⟨_, _, rfl⟩ | ⟨_, rfl⟩ <;> rfl
  show Lv P fn a.tmps (post R S w0) [] (settle u') w'
  rw [hset]
  exact ⟨_, results_cell hr hk hv hcl (hx.cell hh'), _, _, rfl, hh', hR⟩

/-- The end: the function returns. -/
theorem TQ.retL {fn : Func} (ts : List Nat) (vs : List Value) {c b : Nat} {ct : TypeId} [Ag P ct false] {x : Value} {R : Value → Heap → Prop} {g k : FuncId} [Ent P g] [Ent P k] (hc : StopC P g k)
    (hs : Rt P k #[.nilIface, .pointer (some ⟨b, 0, none⟩)] S w0 η fun _ η' => η' = η) (hr : fn.results = (ts.map ResultVar.tmp ++ [ResultVar.cell c ct]).toArray) (hv : lks σ ts = some vs) (hcl : lk σ c = some (.pointer (some ⟨b, 0, none⟩)))
    (hx : At S w0 η ⟨b, 0, none⟩ x) (hR : R (retVal (vs ++ [x])) η) : TQ S w0 n (bodyPostL P fn (post R S w0) .ret) [{ target := .fn (.func g) #[.pointer (some ⟨b, 0, none⟩)], args := #[] }] σ η := fun a w hk hh => by
  show Lv P fn a.tmps (post R S w0) a.defers .returning w
  rw [hk.defers]
  exact lv_end hc (.inl ⟨rfl, rfl, rfl⟩) hs hr hk hv hcl hx hR hh
/-- The end: a panic that is recovered. -/
theorem TQ.panL {fn : Func} (ts : List Nat) (vs : List Value) {c b : Nat} {ct : TypeId} [Ag P ct false] {x v : Value} {R : Value → Heap → Prop} {g k : FuncId} [Ent P g] [Ent P k] (hc : StopC P g k) {η1 : Heap}
    (hs : Rt P k #[v, .pointer (some ⟨b, 0, none⟩)] S w0 η fun _ η' => η' = η1) (hr : fn.results = (ts.map ResultVar.tmp ++ [ResultVar.cell c ct]).toArray) (hv : lks σ ts = some vs) (hcl : lk σ c = some (.pointer (some ⟨b, 0, none⟩)))
    (hx : At S w0 η1 ⟨b, 0, none⟩ x) (hR : R (retVal (vs ++ [x])) η1) : TQ S w0 n (bodyPostL P fn (post R S w0) (.panic [{ v, recovered := false }])) [{ target := .fn (.func g) #[.pointer (some ⟨b, 0, none⟩)], args := #[] }] σ η := fun a w hk hh => by
  show Lv P fn a.tmps (post R S w0) a.defers (.panicking [{ v, recovered := false }]) w
  rw [hk.defers]
  exact lv_end hc (.inr ⟨rfl, rfl⟩) hs hr hk hv hcl hx hR hh
/-- A mark ahead of them. -/
theorem TQ.mark {fn : Func} {R : Value → Heap → Prop} {e : Exit} {r i : Nat} {dsr : List Deferred} (he : e = .ret ∨ ∃ ch, e = .panic ch) (hi : η[i]? = some [(r, .deferred (some []))])
    (h : TQ S w0 n (bodyPostL P fn (post R S w0) e) dsr σ (η.set i [(r, .deferred none)])) : TQ S w0 n (bodyPostL P fn (post R S w0) e) ({ target := .collected r, args := #[] } :: dsr) σ η := fun a w hk hh => by
  have hb := (hh.own (r, .deferred (some [])) (List.mem_flatten.2 ⟨_, List.mem_of_getElem? hi, by simp⟩)).1
  have htk : (Instr.takeDeferred r).run P w = .ok [] (putBlk w r (.deferred none)) := by
    simp only at hb
    simp [Instr.takeDeferred, getObj, setObj, Sem.run, Sem.bind, bind, hb, putBlk]
  have h2 := h { a with defers := dsr } _ ⟨hk.size, rfl, hk.slot⟩ (hh.turnI hi (.deferred none))
  rcases he with rfl | ⟨ch, rfl⟩
  · show Lv P fn a.tmps (post R S w0) a.defers .returning w
    rw [hk.defers]
    exact ⟨by simp, .inl ⟨r, _, rfl, htk, h2⟩⟩
  · show Lv P fn a.tmps (post R S w0) a.defers (.panicking ch) w
    rw [hk.defers]
    exact ⟨by simp, .inl ⟨r, _, rfl, htk, h2⟩⟩
theorem TQ.normL {fn : Func} {R : Ending → World → Prop} (h : TQ S w0 n (bodyPostL P fn R .ret) ds σ η) : TQ S w0 n (bodyPostL P fn R .normal) ds σ η := h

end
end Go.Sl
