/- Results in memory; parts of arrays that are written; calls through interfaces that may panic; a copy. -/
import Derived.Test.YtdehpaikapbckaaBase8
namespace Go.Sl
section
variable {F : Fence} {P : Program} {S : Nat → Prop} {w0 w : World} {n : Nat} {Q : Exit → Act → World → Prop} {ds : List Deferred} {σ : Env} {η : Heap} {ops : Array Oper} {rest : List Oper} {d : Nat} {ty : TypeId} {pos : String} {af : Array Edge}

theorem run_loadCells {cs : List Value} {sz b o : Nat} (hl : cs.length = sz) (hv : ∀ i v, cs[i]? = some v → At S w0 η ⟨b, o + i, none⟩ v) (hh : Hp S w0 η w) : (loadCells ⟨b, o, none⟩ sz).run P w = .ok cs.toArray w := by
  unfold loadCells
  rw [run_loadCellsFrom rfl (fun i => cs.getD i undef) sz 0 #[] (fun j _ h2 => by
    have h3 : cs[j]? = some (cs.getD j undef) := by
      have : j < cs.length := by omega
      simp [List.getD_eq_getElem?_getD, this]
    have h4 := (hv j _ h3).cell hh
    have : (⟨b, o, none⟩ : Addr).add j = ⟨b, o + j, none⟩ := by
      unfold Addr.add; split
      · subst_vars; rfl
      · rfl
    rw [this]; exact h4)]
  congr 1
  simp only [Array.empty_append]
  congr 1
  apply List.ext_getElem?
  intro i
  rw [List.getElem?_map]
  by_cases hi : i < sz
  · rw [List.getElem?_range' hi]; simp [List.getD_eq_getElem?_getD, hl, hi]
  · simp [hl, hi]

/-- The end of a function whose one result lies in memory: several cells. -/
theorem TQ.retC {fn : Func} {c : Nat} {ct : TypeId} [Ag P ct true] {z : Value} {sz bt : Nat} [Inf P ct z sz bt] (cs : List Value) {b : Nat} {R : Value → Heap → Prop} (η2 : Heap) (hr : fn.results = #[ResultVar.cell c ct]) (hc : lk σ c = some (.pointer (some ⟨b, 0, none⟩)))
    (hl : cs.length = sz) (hv : ∀ i v, cs[i]? = some v → At S w0 η ⟨b, 0 + i, none⟩ v) (hs : η2.Sublist η) (hR : R (.agg cs.toArray) η2) : TQ S w0 n (bodyPost P fn (post R S w0) .ret) [] σ η := fun a w hk hh => by
  refine ⟨hk.defers, .agg cs.toArray, ?_, _, η2, rfl, hh.seg hs, hR⟩
  have hc2 := hk.slot _ _ hc
  unfold results
  rw [hr]
  simp [Array.getD_eq_getD_getElem?, hc2, asAddr, loadVar, Ag.eq (t := ct) (b := true), run_sizeOf (t := ct) (z := z) (sz := sz) (bt := bt), run_loadCells hl hv hh]
/-- The same: one cell. -/
theorem TQ.retC1 {fn : Func} {c : Nat} {ct : TypeId} [Ag P ct false] {b : Nat} {x : Value} {R : Value → Heap → Prop} (η2 : Heap) (hr : fn.results = #[ResultVar.cell c ct]) (hc : lk σ c = some (.pointer (some ⟨b, 0, none⟩)))
    (hx : At S w0 η ⟨b, 0, none⟩ x) (hs : η2.Sublist η) (hR : R x η2) : TQ S w0 n (bodyPost P fn (post R S w0) .ret) [] σ η := fun a w hk hh => by
  refine ⟨hk.defers, x, ?_, _, η2, rfl, hh.seg hs, hR⟩
  have hc2 := hk.slot _ _ hc
  unfold results
  rw [hr]
  simp [Array.getD_eq_getD_getElem?, hc2, asAddr, run_loadVar1 (hx.cell hh)]

/-- A store of several cells in the midst of a block. -/
theorem TL.storeAs (hF : Open F) {t : TypeId} {z : Value} {sz bt : Nat} [Inf P t z sz bt] {x y : Operand} {b o : Nat} (vs new : List Value) (i : Nat) {cs : List Value} {e : TypeId} (hx : ev σ x = some (.pointer (some ⟨b, o, none⟩))) (hy : ev σ y = some (.agg vs.toArray))
    (hi : η[i]? = some [(b, .cells cs.toArray e (0, 0))]) (hl : vs.length = sz) (hv : ∀ v ∈ vs, v.oneCell' = true) (ho : o + sz ≤ cs.length) (hnew : cs.take o ++ vs ++ cs.drop (o + vs.length) = new) (h : TL F P S w0 n ops Q rest ds σ (η.set i [(b, .cells new.toArray e (0, 0))])) :
    TL F P S w0 n ops Q (⟨none, .store t x y, ty, pos, af, none⟩ :: rest) ds σ η := by
  refine TL.storeAI hF (z := z) (bt := bt) vs i hx hy hi hl hv (by simpa using ho) ?_
  rw [foldl_set vs cs.toArray o (by simp; omega)]
  rw [hnew]; exact h

theorem TL.invokeE (hF : Open F) {rv : Operand} {m : String} {args : Array Operand} {ats : Array TypeId} {g : FuncId} {t : TypeId} {x rcv : Value} {vs : List Value} [Ent P g] {R : Value → Heap → Prop} {E : List PanicEntry → Heap → Prop}
    (hrv : ev σ rv = some (.iface t x)) (ha : evs σ args.toList = some vs) (hm : ∀ w, (method (P.types.size + Made.depth) t x m).run P w = .ok (g, rcv) w)
    (hc : RtE P g (rcv :: vs).toArray S w0 η R E) (hn : Nat.blt d n = true) (h : ∀ v η', R v η' → TL F P S w0 n ops Q rest ds ((d, v) :: σ) η') (he : ∀ ch η', E ch η' → TQ S w0 n (Q (.panic ch)) ds σ η') :
    TL F P S w0 n ops Q (⟨some d, .call ⟨.invoke rv m, args, ats⟩, ty, pos, af, none⟩ :: rest) ds σ η :=
  TL.invokeG hF hrv ha hm hc (fun v η' hr a w hk hh => h v η' hr _ _ (hk.put (Nat.le_of_ble_eq_true hn) v) hh) he

/-- A look into a map of booleans. -/
theorem TL.lookupB (hF : Open F) {t kt et : TypeId} [Und P t (.map kt et)] {sz bt : Nat} [Inf P et (.bool false) sz bt] {α : Type} [DecidableEq α] {K : α → Value} [MKey P kt K] {m : List (α × Bool)} {es : Array MapEntry} {clock b : Nat} (k : α)
    {x y : Operand} (hx : ev σ x = some (.map (some b))) (hy : ev σ y = some (K k)) (hb : [(b, .map es clock)] ∈ η) (hm : MObj K Value.bool m es clock) (hn : Nat.blt d n = true)
    (h : TL F P S w0 n ops Q rest ds ((d, .bool ((mget k m).getD false)) :: σ) η) : TL F P S w0 n ops Q (⟨some d, .lookup t x y false, ty, pos, af, none⟩ :: rest) ds σ η :=
  TL.lookup hF Value.bool k hx hy hb hm hn (by
    have e : (mget k m).elim (Value.bool false) Value.bool = .bool ((mget k m).getD false) := by cases mget k m <;> rfl
    rw [e]; exact h)
theorem TL.lookupOkB (hF : Open F) {t kt et : TypeId} [Und P t (.map kt et)] {sz bt : Nat} [Inf P et (.bool false) sz bt] {α : Type} [DecidableEq α] {K : α → Value} [MKey P kt K] {m : List (α × Bool)} {es : Array MapEntry} {clock b : Nat} (k : α)
    {x y : Operand} (hx : ev σ x = some (.map (some b))) (hy : ev σ y = some (K k)) (hb : [(b, .map es clock)] ∈ η) (hm : MObj K Value.bool m es clock) (hn : Nat.blt d n = true)
    (h : TL F P S w0 n ops Q rest ds ((d, .tuple #[.bool ((mget k m).getD false), .bool (mget k m).isSome]) :: σ) η) : TL F P S w0 n ops Q (⟨some d, .lookup t x y true, ty, pos, af, none⟩ :: rest) ds σ η :=
  TL.lookupOk hF Value.bool k hx hy hb hm hn (by
    have e : (mget k m).elim (Value.bool false) Value.bool = .bool ((mget k m).getD false) := by cases mget k m <;> rfl
    rw [e]; exact h)
theorem own_list {b i : Nat} {cs : List Value} {e : TypeId} {fz : Nat × Nat} (h : η[i]? = some [(b, Obj.cells cs.toArray e fz)]) : ∀ j v, cs[j]? = some v → At S w0 η ⟨b, 0 + j, none⟩ v := fun j v hj => by
  rw [Nat.zero_add]; exact At.own' h (by simpa using hj)
/-- A call that goes through, or panics, and turns nothing. -/
theorem TL.callM (hF : Open F) {f : Operand} {args : Array Operand} {ats : Array TypeId} {g : FuncId} {al : List Value} [Ent P g] {A B : Prop} {c0 : List PanicEntry}
    (hc : RtE P g al.toArray S w0 η (fun _ η' => A ∧ η' = η) (fun ch η' => B ∧ ch = c0 ∧ η' = η)) (ha : callOf σ f args = some (g, al)) (hn : Nat.blt d n = true) (h : A → ∀ v, TL F P S w0 n ops Q rest ds ((d, v) :: σ) η) (he : B → TQ S w0 n (Q (.panic c0)) ds σ η) :
    TL F P S w0 n ops Q (⟨some d, .call ⟨.value f, args, ats⟩, ty, pos, af, none⟩ :: rest) ds σ η :=
  TL.callE hF hc ha hn (fun v η' hr => by obtain ⟨h1, rfl⟩ := hr; exact h h1 v) (fun ch η' hr => by obtain ⟨h1, rfl, rfl⟩ := hr; exact he h1)
theorem TL.invokeM (hF : Open F) {rv : Operand} {m : String} {args : Array Operand} {ats : Array TypeId} {g : FuncId} {t : TypeId} {x rcv : Value} {vs : List Value} [Ent P g] {A B : Prop} {c0 : List PanicEntry}
    (hrv : ev σ rv = some (.iface t x)) (ha : evs σ args.toList = some vs) (hm : ∀ w, (method (P.types.size + Made.depth) t x m).run P w = .ok (g, rcv) w)
    (hc : RtE P g (rcv :: vs).toArray S w0 η (fun _ η' => A ∧ η' = η) (fun ch η' => B ∧ ch = c0 ∧ η' = η)) (hn : Nat.blt d n = true) (h : A → ∀ v, TL F P S w0 n ops Q rest ds ((d, v) :: σ) η) (he : B → TQ S w0 n (Q (.panic c0)) ds σ η) :
    TL F P S w0 n ops Q (⟨some d, .call ⟨.invoke rv m, args, ats⟩, ty, pos, af, none⟩ :: rest) ds σ η :=
  TL.invokeE hF hrv ha hm hc hn (fun v η' hr => by obtain ⟨h1, rfl⟩ := hr; exact h h1 v) (fun ch η' hr => by obtain ⟨h1, rfl, rfl⟩ := hr; exact he h1)
end
end Go.Sl
