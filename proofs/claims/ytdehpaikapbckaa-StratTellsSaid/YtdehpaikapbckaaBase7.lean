/- Operations whose run is told; panics; calls through an interface. -/
import Derived.Test.YtdehpaikapbckaaBase6
namespace Go.Sl

def evp (σ : Env) : List (Nat × Operand) → Option (List (Nat × Value))
  | [] => some []
  | (i, x) :: r => match ev σ x, evp σ r with
    | some v, some vs => some ((i, v) :: vs)
    | _, _ => none
theorem evp_map {n : Nat} {ds : List Deferred} {σ : Env} {a : Act} (h : Kn n ds σ a) : ∀ (xs : List (Nat × Operand)) (vs : List (Nat × Value)), evp σ xs = some vs → xs.map (fun (i, x) => (i, a.eval x)) = vs
  | [], vs, hx => by simp [evp] at hx; simp [hx]
  | (i, x) :: r, vs, hx => by
    unfold evp at hx
    cases h1 : Sl.ev σ x with
    | none => simp [h1] at hx
    | some v =>
      cases h2 : evp σ r with
      | none => simp [h1, h2] at hx
      | some us =>
        simp [h1, h2] at hx
        subst hx
        simp [h.ev h1, evp_map h r us h2]
theorem Kn.evp {n : Nat} {ds : List Deferred} {σ : Env} {a : Act} (h : Kn n ds σ a) {xs : Array (Nat × Operand)} {vs : List (Nat × Value)} (hx : Sl.evp σ xs.toList = some vs) : xs.map (fun (i, x) => (i, a.eval x)) = vs.toArray := by
  have := evp_map h xs.toList vs hx
  rw [← this]
  cases xs
  exact List.map_toArray

section
variable {F : Fence} {P : Program} {S : Nat → Prop} {w0 w : World} {n : Nat} {Q : Exit → Act → World → Prop} {ds : List Deferred} {σ : Env} {η : Heap} {ops : Array Oper} {rest : List Oper} {d : Nat} {ty : TypeId} {pos : String} {af : Array Edge}

theorem TL.binR (hF : Open F) {op : BinOp} {xt yt : TypeId} {x y : Operand} {v u r : Value} (hx : ev σ x = some v) (hy : ev σ y = some u) (hr : ∀ w, (do eqGuard op xt x y v u; binOp op xt v u : Sem Value).run P w = .ok r w) (hn : Nat.blt d n = true)
    (h : TL F P S w0 n ops Q rest ds ((d, r) :: σ) η) : TL F P S w0 n ops Q (⟨some d, .binOp op xt x y yt, ty, pos, af, none⟩ :: rest) ds σ η :=
  TL.pure hF (by intro c; simp) hn (fun a w hk _ => by
    have := hr w
    simp only [execOp, hk.ev hx, hk.ev hy]
    rw [Sem.run_bind, this]; rfl) h
theorem TL.unR (hF : Open F) {op : UnOp} {xt : TypeId} {x : Operand} {v r : Value} (hx : ev σ x = some v) (hr : ∀ w, (Op.unary op v).run P w = .ok r w) (hn : Nat.blt d n = true)
    (h : TL F P S w0 n ops Q rest ds ((d, r) :: σ) η) : TL F P S w0 n ops Q (⟨some d, .unOp op xt x, ty, pos, af, none⟩ :: rest) ds σ η :=
  TL.pure hF (by intro c; simp) hn (fun a w hk _ => by simp [execOp, hk.ev hx, hr]) h
theorem TL.convertR (hF : Open F) {s t : TypeId} {x : Operand} {v r : Value} (hx : ev σ x = some v) (hr : ∀ w, (convert s t v).run P w = .ok r w) (hn : Nat.blt d n = true)
    (h : TL F P S w0 n ops Q rest ds ((d, r) :: σ) η) : TL F P S w0 n ops Q (⟨some d, .convert s t x, ty, pos, af, none⟩ :: rest) ds σ η :=
  TL.pure hF (by intro c; simp) hn (fun a w hk _ => by simp [execOp, hk.ev hx, hr]) h
theorem TL.makeInterfaceR (hF : Open F) {t : TypeId} {x : Operand} {v r : Value} (hx : ev σ x = some v) (hr : ∀ w, (Instr.makeInterface t v).run P w = .ok r w) (hn : Nat.blt d n = true)
    (h : TL F P S w0 n ops Q rest ds ((d, r) :: σ) η) : TL F P S w0 n ops Q (⟨some d, .makeInterface t x, ty, pos, af, none⟩ :: rest) ds σ η :=
  TL.pure hF (by intro c; simp) hn (fun a w hk _ => by simp [execOp, hk.ev hx, hr]) h
theorem TL.fieldR (hF : Open F) {t : TypeId} {f : Nat} {x : Operand} {v r : Value} (hx : ev σ x = some v) (hr : ∀ w, (Instr.field t v f).run P w = .ok r w) (hn : Nat.blt d n = true)
    (h : TL F P S w0 n ops Q rest ds ((d, r) :: σ) η) : TL F P S w0 n ops Q (⟨some d, .field t x f, ty, pos, af, none⟩ :: rest) ds σ η :=
  TL.pure hF (by intro c; simp) hn (fun a w hk _ => by simp [execOp, hk.ev hx, hr]) h
theorem TL.indexR (hF : Open F) {t : TypeId} {x y : Operand} {v u r : Value} (hx : ev σ x = some v) (hy : ev σ y = some u) (hr : ∀ w, (Instr.index t v u).run P w = .ok r w) (hn : Nat.blt d n = true)
    (h : TL F P S w0 n ops Q rest ds ((d, r) :: σ) η) : TL F P S w0 n ops Q (⟨some d, .index t x y, ty, pos, af, none⟩ :: rest) ds σ η :=
  TL.pure hF (by intro c; simp) hn (fun a w hk _ => by simp [execOp, hk.ev hx, hk.ev hy, hr]) h
theorem TL.typeAssertR (hF : Open F) {xt t : TypeId} {ok : Bool} {x : Operand} {v r : Value} (hx : ev σ x = some v) (hr : ∀ w, (Instr.typeAssert v xt t ok).run P w = .ok r w) (hn : Nat.blt d n = true)
    (h : TL F P S w0 n ops Q rest ds ((d, r) :: σ) η) : TL F P S w0 n ops Q (⟨some d, .typeAssert x xt t ok, ty, pos, af, none⟩ :: rest) ds σ η :=
  TL.pure hF (by intro c; simp) hn (fun a w hk _ => by simp [execOp, hk.ev hx, hr]) h
theorem TL.nilCheck (hF : Open F) {x : Operand} {ad : Addr} (hx : ev σ x = some (.pointer (some ad))) (hn : Nat.blt d n = true)
    (h : TL F P S w0 n ops Q rest ds ((d, .pointer (some ad)) :: σ) η) : TL F P S w0 n ops Q (⟨some d, .nilCheck x, ty, pos, af, none⟩ :: rest) ds σ η :=
  TL.pure hF (by intro c; simp) hn (fun a w hk _ => by simp [execOp, hk.ev hx]) h
theorem TL.build (hF : Open F) {t : TypeId} {ps : Array (Nat × Operand)} {vs : List (Nat × Value)} {r : Value} (hp : evp σ ps.toList = some vs) (hr : ∀ w, (Instr.build t vs.toArray).run P w = .ok r w) (hn : Nat.blt d n = true)
    (h : TL F P S w0 n ops Q rest ds ((d, r) :: σ) η) : TL F P S w0 n ops Q (⟨some d, .build t ps, ty, pos, af, none⟩ :: rest) ds σ η :=
  TL.pure hF (by intro c; simp) hn (fun a w hk _ => by
    have := hr w
    simp only [execOp, hk.evp hp]
    rw [Sem.run_bind, this]; rfl) h
theorem TL.buildSlice (hF : Open F) {t e : TypeId} {k : Nat} {ps : Array (Nat × Operand)} {vs : List (Nat × Value)} {cs : Array Value} (hp : evp σ ps.toList = some vs)
    (hr : ∀ w, (Instr.buildSlice t k vs.toArray).run P w = .ok (.slice (some ⟨w.heap.size, 0, none⟩) k k) { w with heap := w.heap.push (.cells cs e (0, 0)) }) (hn : Nat.blt d n = true)
    (h : ∀ b, TL F P S w0 n ops Q rest ds ((d, .slice (some ⟨b, 0, none⟩) k k) :: σ) ([(b, .cells cs e (0, 0))] :: η)) : TL F P S w0 n ops Q (⟨some d, .buildSlice t k ps, ty, pos, af, none⟩ :: rest) ds σ η :=
  TL.val hF (by intro c; simp) hn fun a w hk hh => ⟨_, _, _, by
    have := hr w
    simp only [execOp, hk.evp hp]
    rw [Sem.run_bind, this]; rfl, hh.alloc _, h _⟩
/-- min and max of two integers; and the other builtins whose run is told. -/
theorem TL.builtinR (hF : Open F) {b : Builtin} {args : Array Operand} {ats : Array TypeId} {vs : List Value} {r : Value} (ha : evs σ args.toList = some vs) (hr : ∀ w cs, (builtin b ats ty cs vs.toArray).run P w = .ok (.value r) w) (hn : Nat.blt d n = true)
    (h : TL F P S w0 n ops Q rest ds ((d, r) :: σ) η) : TL F P S w0 n ops Q (⟨some d, .call ⟨.builtin b, args, ats⟩, ty, pos, af, none⟩ :: rest) ds σ η :=
  TL.pure hF (by intro c; simp) hn (fun a w hk _ => by simp [execOp, resolve, invoke, hk.evs ha, hr]) h

/-- A panic of an interface value. -/
theorem TL.panic (hF : Open F) {dst : Option Nat} {x : Operand} {t : TypeId} {v : Value} (hx : ev σ x = some (.iface t v)) (h : TQ S w0 n (Q (.panic [{ v := .iface t v, recovered := false }])) ds σ η) :
    TL F P S w0 n ops Q (⟨dst, .panic x, ty, pos, af, none⟩ :: rest) ds σ η := TL.op hF rfl (by intro c; simp) fun a w hk hh => by
  simp only [execOp, hk.ev hx, Instr.panic, Sem.run_bind, run_goPanic, Result.andThen_halt, Oper.uponIn]
  exact h a w hk hh

/-- A call through an interface value that the walk knows. -/
theorem TL.invokeG (hF : Open F) {dst : Option Nat} {rv : Operand} {m : String} {args : Array Operand} {ats : Array TypeId} {g : FuncId} {t : TypeId} {x rcv : Value} {vs : List Value} [Ent P g] {R : Value → Heap → Prop} {E : List PanicEntry → Heap → Prop}
    (hrv : ev σ rv = some (.iface t x)) (ha : evs σ args.toList = some vs) (hm : ∀ w, (method (P.types.size + Made.depth) t x m).run P w = .ok (g, rcv) w)
    (hc : RtE P g (rcv :: vs).toArray S w0 η R E) (h : ∀ v η', R v η' → ∀ a w, Kn n ds σ a → Hp S w0 η' w → wpListIn F 0 P ops Q rest (a.put dst v) w) (he : ∀ ch η', E ch η' → TQ S w0 n (Q (.panic ch)) ds σ η') :
    TL F P S w0 n ops Q (⟨dst, .call ⟨.invoke rv m, args, ats⟩, ty, pos, af, none⟩ :: rest) ds σ η := TL.op hF rfl (by intro c; simp) fun a w hk hh => by
  simp only [execOp, resolve, hk.ev hrv, hk.evs ha, Sem.run_bind, Sem.run_pure, Result.andThen_ok, invoke]
  have e1 : ((#[Value.iface t x] ++ vs.toArray)[0]? : Option Value) = some (.iface t x) := by simp
  have e2 : (#[Value.iface t x] ++ vs.toArray).extract 1 (#[Value.iface t x] ++ vs.toArray).size = vs.toArray := by simp
  simp only [e1, e2, callMethod, Sem.run_bind, run_program, Result.andThen_ok, hm]
  have e3 : (#[rcv] ++ vs.toArray) = (rcv :: vs).toArray := by simp
  rw [e3, Ent.eq]
  refine ⟨fun h => (by rw [hF.depth] at h; cases h), callsIn_open hF ((hc w hh).mono ?_)⟩
  rintro e w' (⟨v, η', rfl, hh', hr⟩ | ⟨ch, η', rfl, hh', hr⟩)
  · exact h v η' hr _ _ hk hh'
  · exact he ch η' hr _ _ hk hh'
theorem TL.invokeNE (hF : Open F) {rv : Operand} {m : String} {args : Array Operand} {ats : Array TypeId} {g : FuncId} {t : TypeId} {x rcv : Value} {vs : List Value} [Ent P g] {R : Value → Heap → Prop} {E : List PanicEntry → Heap → Prop}
    (hrv : ev σ rv = some (.iface t x)) (ha : evs σ args.toList = some vs) (hm : ∀ w, (method (P.types.size + Made.depth) t x m).run P w = .ok (g, rcv) w)
    (hc : RtE P g (rcv :: vs).toArray S w0 η R E) (h : ∀ v η', R v η' → TL F P S w0 n ops Q rest ds σ η') (he : ∀ ch η', E ch η' → TQ S w0 n (Q (.panic ch)) ds σ η') :
    TL F P S w0 n ops Q (⟨none, .call ⟨.invoke rv m, args, ats⟩, ty, pos, af, none⟩ :: rest) ds σ η :=
  TL.invokeG hF hrv ha hm hc (fun v η' hr a w hk hh => h v η' hr _ _ hk hh) he
theorem TL.invoke (hF : Open F) {rv : Operand} {m : String} {args : Array Operand} {ats : Array TypeId} {g : FuncId} {t : TypeId} {x rcv : Value} {vs : List Value} [Ent P g] {R : Value → Heap → Prop}
    (hrv : ev σ rv = some (.iface t x)) (ha : evs σ args.toList = some vs) (hm : ∀ w, (method (P.types.size + Made.depth) t x m).run P w = .ok (g, rcv) w)
    (hc : Rt P g (rcv :: vs).toArray S w0 η R) (hn : Nat.blt d n = true) (h : ∀ v η', R v η' → TL F P S w0 n ops Q rest ds ((d, v) :: σ) η') :
    TL F P S w0 n ops Q (⟨some d, .call ⟨.invoke rv m, args, ats⟩, ty, pos, af, none⟩ :: rest) ds σ η :=
  TL.invokeG hF hrv ha hm (hc.toE (E := fun _ _ => False)) (fun v η' hr a w hk hh => h v η' hr _ _ (hk.put (Nat.le_of_ble_eq_true hn) v) hh) (fun _ _ h => h.elim)

end

/-- Lists of records of k cells each. -/
theorem flat_get {α : Type} (k : Nat) (f : α → List Value) (hf : ∀ x, (f x).length = k) : ∀ (l : List α) (i j : Nat), j < k → (l.flatMap f)[i * k + j]? = (l[i]?).bind fun x => (f x)[j]?
  | [], i, j, hj => by simp
  | x :: r, 0, j, hj => by simp [List.getElem?_append, hf x, hj]
  | x :: r, i + 1, j, hj => by
    have : (i + 1) * k + j = (f x).length + (i * k + j) := by rw [hf x, Nat.add_mul]; omega
    rw [List.flatMap_cons, this, List.getElem?_append_right (by omega), Nat.add_sub_cancel_left, flat_get k f hf r i j hj]
    simp
end Go.Sl
