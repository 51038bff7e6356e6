/- The judgement of this seat's walks: what is known of slots, which blocks are owned, and the rules on control. -/
import Derived.TacticsIn
import Derived.RangeFuncLeaves
import Derived.RangeFuncCalls
import Derived.RecoverIn
import Derived.Laws.Sem
import Derived.IntWalk
namespace Go.Sl

/-- A fence that lets everything in; a round of a range over a function, or none. -/
def FR (ro : Option Nat) : Fence := { Fence.wide with round := ro }

abbrev Env := List (Nat × Value)
abbrev Seg := List (Nat × Obj)
abbrev Heap := List Seg

/-- The value of a slot, as far as it is known. -/
def lk : Env → Nat → Option Value
  | [], _ => none
  | (s, v) :: r, t => bif Nat.beq s t then some v else lk r t

def ev (σ : Env) : Operand → Option Value
  | .tmp t => lk σ t
  | .const v => some v
  | .global g => some (.pointer (some ⟨g, 0, none⟩))
  | .func f => some (.func (.func f) #[] #[])

/-- The slots hold what is known; there are n of them; the deferred calls. -/
structure Kn (n : Nat) (ds : List Deferred) (σ : Env) (a : Act) : Prop where
  size : a.tmps.size = n
  defers : a.defers = ds
  slot : ∀ t v, lk σ t = some v → a.tmps[t]? = some v

theorem lk_cons (s : Nat) (v : Value) (r : Env) (t : Nat) : lk ((s, v) :: r) t = if s = t then some v else lk r t := by
  simp only [lk]
  by_cases h : s = t
  · subst h; simp
  · have : Nat.beq s t = false := by
      cases hb : Nat.beq s t
      · rfl
      · exact absurd (Nat.eq_of_beq_eq_true hb) h
    simp [this, h]

theorem Kn.ev {n : Nat} {ds : List Deferred} {σ : Env} {a : Act} (h : Kn n ds σ a) {x : Operand} {v : Value} (hx : Sl.ev σ x = some v) : a.eval x = v := by
  cases x with
  | tmp t =>
    have := h.slot t v hx
    simp [Act.eval, this, Array.getD_eq_getD_getElem?]
  | const u => simpa [Sl.ev, Act.eval] using hx
  | global g => simpa [Sl.ev, Act.eval] using hx
  | func f => simpa [Sl.ev, Act.eval] using hx

theorem Kn.put {n : Nat} {ds : List Deferred} {σ : Env} {a : Act} (h : Kn n ds σ a) {d : Nat} (hd : d < n) (v : Value) : Kn n ds ((d, v) :: σ) (a.put (some d) v) := by
  refine ⟨by simp [Act.put, h.size], by simp [Act.put, h.defers], fun t u ht => ?_⟩
  rw [lk_cons] at ht
  by_cases hdt : d = t
  · subst hdt
    simp at ht
    subst ht
    simp only [Act.put]
    rw [Array.getElem?_setIfInBounds_self_of_lt (by rw [h.size]; exact hd)]
  · rw [if_neg hdt] at ht
    simp only [Act.put]
    rw [Array.getElem?_setIfInBounds_ne hdt]
    exact h.slot t u ht

theorem Kn.putNone {n : Nat} {ds : List Deferred} {σ : Env} {a : Act} (h : Kn n ds σ a) (v : Value) : Kn n ds σ (a.put none v) := h

def evs (σ : Env) : List Operand → Option (List Value)
  | [] => some []
  | x :: r => match ev σ x, evs σ r with
    | some v, some vs => some (v :: vs)
    | _, _ => none
theorem evs_map {n : Nat} {ds : List Deferred} {σ : Env} {a : Act} (h : Kn n ds σ a) : ∀ (xs : List Operand) (vs : List Value), evs σ xs = some vs → xs.map a.eval = vs
  | [], vs, hx => by simp [evs] at hx; simp [hx]
  | x :: r, vs, hx => by
    unfold evs at hx
    cases h1 : Sl.ev σ x with
    | none => simp [h1] at hx
    | some v =>
      cases h2 : evs σ r with
      | none => simp [h1, h2] at hx
      | some us =>
        simp [h1, h2] at hx
        subst hx
        simp [h.ev h1, evs_map h r us h2]
theorem Kn.evs {n : Nat} {ds : List Deferred} {σ : Env} {a : Act} (h : Kn n ds σ a) {xs : Array Operand} {vs : List Value} (hx : Sl.evs σ xs.toList = some vs) : xs.map a.eval = vs.toArray := by
  have := evs_map h xs.toList vs hx
  rw [← this]
  cases xs
  exact List.map_toArray

/-- What is known of some slots is known of fewer. -/
def Sub : Env → Env → Prop
  | [], _ => True
  | (t, v) :: r, σ => lk σ t = some v ∧ Sub r σ

theorem Sub.get : ∀ {σ' σ : Env}, Sub σ' σ → ∀ t v, lk σ' t = some v → lk σ t = some v
  | [], _, _, t, v, h => by simp [lk] at h
  | (s, u) :: r, σ, h, t, v, hl => by
    rw [lk_cons] at hl
    by_cases hst : s = t
    · subst hst; simp at hl; subst hl; exact h.1
    · rw [if_neg hst] at hl; exact Sub.get h.2 t v hl

theorem Kn.sub {n : Nat} {ds : List Deferred} {σ σ' : Env} {a : Act} (h : Kn n ds σ a) (hs : Sub σ' σ) : Kn n ds σ' a :=
  ⟨h.size, h.defers, fun t v ht => h.slot t v (hs.get t v ht)⟩

/-- The heap: nothing of S has turned since w0; the owned blocks, each once, none of S, are as said. -/
structure Hp (S : Nat → Prop) (w0 : World) (η : Heap) (w : World) : Prop where
  os : w.os = w0.os
  tape : w.tape = w0.tape
  output : w.output = w0.output
  size : w0.heap.size ≤ w.heap.size
  same : ∀ k, S k → k < w0.heap.size ∧ w.heap[k]? = w0.heap[k]?
  own : ∀ p ∈ η.flatten, w.heap[p.1]? = some p.2 ∧ ¬ S p.1
  once : (η.flatten.map (·.1)).Nodup

/-- The judgement. -/
def T (F : Fence) (P : Program) (S : Nat → Prop) (w0 : World) (n : Nat) (Q : Exit → Act → World → Prop) (c : Code) (ds : List Deferred) (σ : Env) (η : Heap) : Prop :=
  ∀ a w, Kn n ds σ a → Hp S w0 η w → c.wpIn F 0 P Q a w

/-- A way out. -/
def TQ (S : Nat → Prop) (w0 : World) (n : Nat) (K : Act → World → Prop) (ds : List Deferred) (σ : Env) (η : Heap) : Prop :=
  ∀ a w, Kn n ds σ a → Hp S w0 η w → K a w

/-- A list of operations. -/
def TL (F : Fence) (P : Program) (S : Nat → Prop) (w0 : World) (n : Nat) (ops : Array Oper) (Q : Exit → Act → World → Prop) (l : List Oper) (ds : List Deferred) (σ : Env) (η : Heap) : Prop :=
  ∀ a w, Kn n ds σ a → Hp S w0 η w → wpListIn F 0 P ops Q l a w

section
variable {F : Fence} {P : Program} {S : Nat → Prop} {w0 : World} {n : Nat} {Q : Exit → Act → World → Prop} {ds : List Deferred} {σ : Env} {η : Heap}

theorem T.skip (h : TQ S w0 n (Q .normal) ds σ η) : T F P S w0 n Q .skip ds σ η := fun a w hk hh => wpIn_skip (h a w hk hh)
theorem T.label {l : Nat} (h : TQ S w0 n (Q .normal) ds σ η) : T F P S w0 n Q (.label l) ds σ η := fun a w hk hh => wpIn_label (h a w hk hh)
theorem T.exit {id : Nat} (h : TQ S w0 n (Q (.exit id)) ds σ η) : T F P S w0 n Q (.exit id) ds σ η := fun a w hk hh => wpIn_exit (h a w hk hh)
theorem T.ret (h : TQ S w0 n (Q .ret) ds σ η) : T F P S w0 n Q .ret ds σ η := fun a w hk hh => wpIn_ret (h a w hk hh)
theorem T.seq {x y : Code} (h : T F P S w0 n (Exit.then (fun a w => y.wpIn F 0 P Q a w) Q) x ds σ η) : T F P S w0 n Q (.seq x y) ds σ η :=
  fun a w hk hh => wpIn_seq (h a w hk hh)
theorem T.block {id : Nat} {c : Code} (h : T F P S w0 n (Exit.inBlock id Q) c ds σ η) : T F P S w0 n Q (.block id c) ds σ η :=
  fun a w hk hh => wpIn_block (h a w hk hh)
theorem T.cond {c : Operand} {x y : Code} (b : Bool) (hc : ev σ c = some (.bool b)) (ht : b = true → T F P S w0 n Q x ds σ η) (hf : b = false → T F P S w0 n Q y ds σ η) :
    T F P S w0 n Q (.cond c x y) ds σ η := fun a w hk hh => by
  cases b
  · exact wpIn_cond_false (hk.ev hc) (hf rfl a w hk hh)
  · exact wpIn_cond_true (hk.ev hc) (ht rfl a w hk hh)
theorem T.cond_t {c : Operand} {x y : Code} {b : Bool} (hc : ev σ c = some (.bool b)) (hb : b = true) (ht : T F P S w0 n Q x ds σ η) :
    T F P S w0 n Q (.cond c x y) ds σ η := T.cond b hc (fun _ => ht) (fun h => by rw [hb] at h; cases h)
theorem T.cond_f {c : Operand} {x y : Code} {b : Bool} (hc : ev σ c = some (.bool b)) (hb : b = false) (hf : T F P S w0 n Q y ds σ η) :
    T F P S w0 n Q (.cond c x y) ds σ η := T.cond b hc (fun h => by rw [hb] at h; cases h) (fun _ => hf)
theorem T.cond_d {c : Operand} {x y : Code} {p : Prop} [Decidable p] (hc : ev σ c = some (.bool (decide p))) (ht : p → T F P S w0 n Q x ds σ η) (hf : ¬ p → T F P S w0 n Q y ds σ η) :
    T F P S w0 n Q (.cond c x y) ds σ η := T.cond _ hc (fun h => ht (of_decide_eq_true h)) (fun h => hf (of_decide_eq_false h))
theorem T.mono {c : Code} {Q' : Exit → Act → World → Prop} (h : T F P S w0 n Q c ds σ η) (hq : ∀ e a w, Q e a w → Q' e a w) : T F P S w0 n Q' c ds σ η :=
  fun a w hk hh => wpIn_mono (h a w hk hh) hq
theorem T.sub {c : Code} {σ' : Env} (hs : Sub σ' σ) (h : T F P S w0 n Q c ds σ' η) : T F P S w0 n Q c ds σ η := fun a w hk hh => h a w (hk.sub hs) hh
theorem TQ.sub {K : Act → World → Prop} {σ' : Env} (hs : Sub σ' σ) (h : TQ S w0 n K ds σ' η) : TQ S w0 n K ds σ η := fun a w hk hh => h a w (hk.sub hs) hh

/-- An assertion where ways meet: the first part leads to it, the rest goes on from it. -/
theorem T.cut {x y : Code} {ι : Type} (J : ι → Prop) (sg : ι → Env) (hp : ι → Heap)
    (h1 : T F P S w0 n (Exit.then (fun a w => ∃ i, J i ∧ Kn n ds (sg i) a ∧ Hp S w0 (hp i) w) Q) x ds σ η) (h2 : ∀ i, J i → T F P S w0 n Q y ds (sg i) (hp i)) :
    T F P S w0 n Q (.seq x y) ds σ η := fun a w hk hh => by
  refine wpIn_seq (wpIn_mono (h1 a w hk hh) ?_)
  intro e a' w' hq
  cases e with
  | normal => obtain ⟨i, hj, hk', hh'⟩ := hq; exact h2 i hj a' w' hk' hh'
  | _ => exact hq

theorem TQ.cut {ι : Type} {J : ι → Prop} {sg : ι → Env} {hp : ι → Heap} (i : ι) (hj : J i) (hs : Sub (sg i) σ) (he : η = hp i) :
    TQ S w0 n (Exit.then (fun a w => ∃ i, J i ∧ Kn n ds (sg i) a ∧ Hp S w0 (hp i) w) Q .normal) ds σ η := fun _ _ hk hh => ⟨i, hj, hk.sub hs, he ▸ hh⟩

/-- A loop, by a number that each round lowers. -/
theorem wpIn_loopR {F : Fence} {m0 : Nat} {P : Program} {c : Code} {Q : Exit → Act → World → Prop} (I : Nat → Act → World → Prop)
    (round : ∀ m a w, I m a w → c.wpIn F m0 P (Exit.then (fun a' w' => ∃ m', m' < m ∧ I m' a' w') Q) a w) {m : Nat} {a : Act} {w : World} (h₀ : I m a w) : (Code.loop c).wpIn F m0 P Q a w := by
  intro b k cs hro hb hr
  have key : ∀ j a w, I j a w →
      ∃ e a' w', Q e a' w' ∧ ArrivesIn (Machine.fenced P F) P (lone (b.atR a (.code c :: .inLoop c :: k)) cs w) b k cs e a' w' := by
    intro j
    induction j using Nat.strongRecOn with
    | _ j ih =>
      intro a w hI
      obtain ⟨e, a₁, w₁, hq, harr⟩ := round j a w hI b (.inLoop c :: k) cs hro hb hr
      cases e with
      | normal =>
        obtain ⟨m', hlt, hI₁⟩ := hq
        obtain ⟨e₂, a₂, w₂, hq₂, harr₂⟩ := ih m' hlt a₁ w₁ hI₁
        exact ⟨e₂, a₂, w₂, hq₂, .of_steps (StepsIn.trans harr (.one (fenced_calm hb hr rfl) stepR_inLoop)) harr₂⟩
      | exit id => exact ⟨_, a₁, w₁, hq, .pass (x := .inLoop c) rfl (fun _ _ => .inl (by simp)) harr⟩
      | goto l => exact ⟨_, a₁, w₁, hq, .pass (x := .inLoop c) rfl (fun _ _ => .inl (by simp)) harr⟩
      | ret => exact ⟨_, a₁, w₁, hq, .pass (x := .inLoop c) rfl (fun _ _ => .inl (by simp)) harr⟩
      | panic ch => exact ⟨_, a₁, w₁, hq, .pass (x := .inLoop c) rfl (fun _ _ => .inl (by simp)) harr⟩
      | outgrown => exact ⟨_, a₁, w₁, hq, .pass (x := .inLoop c) rfl (fun _ _ => .inl (by simp)) harr⟩
  obtain ⟨e, a', w', hq, harr⟩ := key _ a w h₀
  exact ⟨e, a', w', hq, .of_steps (.one (fenced_calm hb hr rfl) stepR_loop) harr⟩

/-- A loop. -/
theorem T.loop {c : Code} {ι : Type} (J : ι → Prop) (sg : ι → Env) (hp : ι → Heap) (μ : ι → Nat) (i0 : ι) (h0 : J i0) (hs : Sub (sg i0) σ) (he : η = hp i0)
    (round : ∀ i, J i → T F P S w0 n (Exit.then (fun a w => ∃ j, J j ∧ μ j < μ i ∧ Kn n ds (sg j) a ∧ Hp S w0 (hp j) w) Q) c ds (sg i) (hp i)) :
    T F P S w0 n Q (.loop c) ds σ η := fun a w hk hh => by
  refine wpIn_loopR (fun m a w => ∃ i, J i ∧ μ i = m ∧ Kn n ds (sg i) a ∧ Hp S w0 (hp i) w) ?_ (m := μ i0) ⟨i0, h0, rfl, hk.sub hs, he ▸ hh⟩
  rintro m a w ⟨i, hi, rfl, hk, hh⟩
  refine wpIn_mono (round i hi a w hk hh) ?_
  intro e a' w' hq
  cases e with
  | normal => obtain ⟨j, h1, h2, h3, h4⟩ := hq; exact ⟨_, h2, j, h1, rfl, h3, h4⟩
  | _ => exact hq

/-- The end of a round of a loop. -/
theorem TQ.round {ι : Type} {J : ι → Prop} {sg : ι → Env} {hp : ι → Heap} {μ : ι → Nat} {i : ι} (j : ι) (hj : J j) (hm : μ j < μ i) (hs : Sub (sg j) σ) (he : η = hp j) :
    TQ S w0 n (Exit.then (fun a w => ∃ j, J j ∧ μ j < μ i ∧ Kn n ds (sg j) a ∧ Hp S w0 (hp j) w) Q .normal) ds σ η := fun _ _ hk hh => ⟨j, hj, hm, hk.sub hs, he ▸ hh⟩

theorem TQ.then_n {y : Code} (h : T F P S w0 n Q y ds σ η) : TQ S w0 n (Exit.then (fun a w => y.wpIn F 0 P Q a w) Q .normal) ds σ η := h
theorem TQ.then_x {K : Act → World → Prop} {id : Nat} (h : TQ S w0 n (Q (.exit id)) ds σ η) : TQ S w0 n (Exit.then K Q (.exit id)) ds σ η := h
theorem TQ.then_r {K : Act → World → Prop} (h : TQ S w0 n (Q .ret) ds σ η) : TQ S w0 n (Exit.then K Q .ret) ds σ η := h
theorem TQ.then_p {K : Act → World → Prop} {ch : List PanicEntry} (h : TQ S w0 n (Q (.panic ch)) ds σ η) : TQ S w0 n (Exit.then K Q (.panic ch)) ds σ η := h
theorem TQ.block_n {id : Nat} (h : TQ S w0 n (Q .normal) ds σ η) : TQ S w0 n (Exit.inBlock id Q .normal) ds σ η := h
theorem TQ.block_r {id : Nat} (h : TQ S w0 n (Q .ret) ds σ η) : TQ S w0 n (Exit.inBlock id Q .ret) ds σ η := h
theorem TQ.block_p {id : Nat} {ch : List PanicEntry} (h : TQ S w0 n (Q (.panic ch)) ds σ η) : TQ S w0 n (Exit.inBlock id Q (.panic ch)) ds σ η := h
theorem TQ.block_x {id : Nat} (h : TQ S w0 n (Q .normal) ds σ η) : TQ S w0 n (Exit.inBlock id Q (.exit id)) ds σ η := fun a w hk hh => by
  show if id = id then Q .normal a w else Q (.exit id) a w
  rw [if_pos rfl]; exact h a w hk hh
theorem TQ.block_o {id id' : Nat} (hne : Nat.beq id' id = false) (h : TQ S w0 n (Q (.exit id')) ds σ η) : TQ S w0 n (Exit.inBlock id Q (.exit id')) ds σ η := fun a w hk hh => by
  show if id' = id then Q .normal a w else Q (.exit id') a w
  have : id' ≠ id := fun e => by subst e; simp at hne
  rw [if_neg this]; exact h a w hk hh

/-! Operations -/
theorem TL.nil {ops : Array Oper} (h : TQ S w0 n (Q .normal) ds σ η) : TL F P S w0 n ops Q [] ds σ η := fun a w hk hh => wpListIn_nil (h a w hk hh)
theorem T.region {id : Nat} {l : List Oper} (h : TL F P S w0 n l.toArray Q l ds σ η) : T F P S w0 n Q (.region id l.toArray false) ds σ η := fun a w hk hh => wpIn_region_lit (h a w hk hh)
end

/-- Everything may be entered; there is room. -/
structure Open (F : Fence) : Prop where
  fn : ∀ f, F.fn f
  depth : F.depth = none
  alive : F.alive = false

theorem open_wide : Open Fence.wide := ⟨fun _ => trivial, rfl, rfl⟩
theorem open_round (l : Nat) : Open (Fence.wide.inRound l) := ⟨fun _ => trivial, rfl, rfl⟩

section
variable {F : Fence} {P : Program} {S : Nat → Prop} {w0 : World} {n : Nat} {Q : Exit → Act → World → Prop} {ds : List Deferred} {σ : Env} {η : Heap} {ops : Array Oper} {rest : List Oper}

/-- An operation of no defer statement, as everywhere. -/
theorem TL.op (hF : Open F) {o : Oper} (hg : o.guard = none) (hd : ∀ c, o.op ≠ .defer c)
    (h : ∀ a w, Kn n ds σ a → Hp S w0 η w → o.uponIn F 0 P a (wpListIn F 0 P ops Q rest) Q ((execOp a.eval o).run P w)) : TL F P S w0 n ops Q (o :: rest) ds σ η := fun a w hk hh => by
  simp only [wpListIn, Region.wanted, hg, if_true, Oper.wpIn]
  exact ⟨fun f _ => hF.fn f, by rw [Oper.semAt_eq _ _ _ hd]; exact h a w hk hh⟩

/-- An operation that hands a value to a slot. -/
theorem TL.val (hF : Open F) {d : Nat} {op : Op} {ty : TypeId} {pos : String} {af : Array Edge} (hd : ∀ c, op ≠ .defer c) (hn : Nat.blt d n = true)
    (h : ∀ a w, Kn n ds σ a → Hp S w0 η w → ∃ v w' η', (execOp a.eval ⟨some d, op, ty, pos, af, none⟩).run P w = .ok (.value v) w' ∧ Hp S w0 η' w' ∧ TL F P S w0 n ops Q rest ds ((d, v) :: σ) η') :
    TL F P S w0 n ops Q (⟨some d, op, ty, pos, af, none⟩ :: rest) ds σ η := TL.op hF rfl hd fun a w hk hh => by
  obtain ⟨v, w', η', hr, hh', ht⟩ := h a w hk hh
  rw [hr]
  exact ht _ _ (hk.put (Nat.le_of_ble_eq_true hn) v) hh'

/-- The same where the heap is as it was. -/
theorem TL.pure (hF : Open F) {d : Nat} {op : Op} {ty : TypeId} {pos : String} {af : Array Edge} {v : Value} (hd : ∀ c, op ≠ .defer c) (hn : Nat.blt d n = true)
    (h : ∀ a w, Kn n ds σ a → Hp S w0 η w → (execOp a.eval ⟨some d, op, ty, pos, af, none⟩).run P w = .ok (.value v) w) (ht : TL F P S w0 n ops Q rest ds ((d, v) :: σ) η) :
    TL F P S w0 n ops Q (⟨some d, op, ty, pos, af, none⟩ :: rest) ds σ η := TL.val hF hd hn fun a w hk hh => ⟨v, w, η, h a w hk hh, hh, ht⟩

/-- An operation that writes. -/
theorem TL.act (hF : Open F) {op : Op} {ty : TypeId} {pos : String} {af : Array Edge} (hd : ∀ c, op ≠ .defer c)
    (h : ∀ a w, Kn n ds σ a → Hp S w0 η w → ∃ w' η', (execOp a.eval ⟨none, op, ty, pos, af, none⟩).run P w = .ok .skip w' ∧ Hp S w0 η' w' ∧ TL F P S w0 n ops Q rest ds σ η') :
    TL F P S w0 n ops Q (⟨none, op, ty, pos, af, none⟩ :: rest) ds σ η := TL.op hF rfl hd fun a w hk hh => by
  obtain ⟨w', η', hr, hh', ht⟩ := h a w hk hh
  rw [hr]
  exact ht _ _ hk hh'

/-- A guarded operation: carried out. -/
theorem TL.on {d : Option Nat} {op : Op} {ty : TypeId} {pos : String} {af : Array Edge} {j : Nat} {want b : Bool} {oj : Oper} {dj : Nat} (hj : ops[j]? = some oj) (hdj : oj.dst = some dj) (hv : lk σ dj = some (.bool b)) (hb : b = want)
    (h : TL F P S w0 n ops Q (⟨d, op, ty, pos, af, none⟩ :: rest) ds σ η) : TL F P S w0 n ops Q (⟨d, op, ty, pos, af, some (j, want)⟩ :: rest) ds σ η := fun a w hk hh => by
  subst hb
  have hy : yielded ops a.tmps j = some b := by
    simp [yielded, hj, hdj, hk.slot dj _ hv]
  have := h a w hk hh
  simp only [wpListIn, Region.wanted, hy, beq_self_eq_true, if_true] at this ⊢
  exact this

/-- A guarded operation: passed over. -/
theorem TL.off (hF : Open F) {d : Nat} {op : Op} {ty : TypeId} {pos : String} {af : Array Edge} {j : Nat} {want b : Bool} {oj : Oper} {dj : Nat} (hj : ops[j]? = some oj) (hdj : oj.dst = some dj) (hv : lk σ dj = some (.bool b)) (hb : b = !want)
    (hn : Nat.blt d n = true) (h : TL F P S w0 n ops Q rest ds ((d, undef) :: σ) η) : TL F P S w0 n ops Q (⟨some d, op, ty, pos, af, some (j, want)⟩ :: rest) ds σ η := fun a w hk hh => by
  have hy : yielded ops a.tmps j = some b := by
    simp [yielded, hj, hdj, hk.slot dj _ hv]
  have hne : (some b == some want) = false := by subst hb; cases want <;> rfl
  simp only [wpListIn, Region.wanted, hy, hne, Bool.false_eq_true, if_false]
  exact ⟨fun f _ => hF.fn f, h _ _ (hk.put (Nat.le_of_ble_eq_true hn) undef) hh⟩

theorem TL.offN (hF : Open F) {op : Op} {ty : TypeId} {pos : String} {af : Array Edge} {j : Nat} {want b : Bool} {oj : Oper} {dj : Nat} (hj : ops[j]? = some oj) (hdj : oj.dst = some dj) (hv : lk σ dj = some (.bool b)) (hb : b = !want)
    (h : TL F P S w0 n ops Q rest ds σ η) : TL F P S w0 n ops Q (⟨none, op, ty, pos, af, some (j, want)⟩ :: rest) ds σ η := fun a w hk hh => by
  have hy : yielded ops a.tmps j = some b := by
    simp [yielded, hj, hdj, hk.slot dj _ hv]
  have hne : (some b == some want) = false := by subst hb; cases want <;> rfl
  simp only [wpListIn, Region.wanted, hy, hne, Bool.false_eq_true, if_false]
  exact ⟨fun f _ => hF.fn f, h _ _ hk hh⟩

/-! The operations on values -/
variable {d : Nat} {ty : TypeId} {pos : String} {af : Array Edge}
theorem TL.move (hF : Open F) {x : Operand} {v : Value} (hx : ev σ x = some v) (hn : Nat.blt d n = true) (h : TL F P S w0 n ops Q rest ds ((d, v) :: σ) η) :
    TL F P S w0 n ops Q (⟨some d, .move x, ty, pos, af, none⟩ :: rest) ds σ η :=
  TL.pure hF (by intro c; simp) hn (fun a w hk _ => by simp [execOp, hk.ev hx]) h
theorem TL.assign (hF : Open F) {x : Operand} {v : Value} (hx : ev σ x = some v) (hn : Nat.blt d n = true) (h : TL F P S w0 n ops Q rest ds ((d, v) :: σ) η) :
    TL F P S w0 n ops Q (⟨some d, .assign x, ty, pos, af, none⟩ :: rest) ds σ η :=
  TL.pure hF (by intro c; simp) hn (fun a w hk _ => by simp [execOp, hk.ev hx]) h
theorem TL.pickT (hF : Open F) {c x y : Operand} {b : Bool} {v : Value} (hc : ev σ c = some (.bool b)) (hb : b = true) (hx : ev σ x = some v) (hn : Nat.blt d n = true) (h : TL F P S w0 n ops Q rest ds ((d, v) :: σ) η) :
    TL F P S w0 n ops Q (⟨some d, .pick c x y, ty, pos, af, none⟩ :: rest) ds σ η :=
  TL.pure hF (by intro c; simp) hn (fun a w hk _ => by subst hb; simp [execOp, hk.ev hc, hk.ev hx, asBool]) h
theorem TL.pickF (hF : Open F) {c x y : Operand} {b : Bool} {v : Value} (hc : ev σ c = some (.bool b)) (hb : b = false) (hx : ev σ y = some v) (hn : Nat.blt d n = true) (h : TL F P S w0 n ops Q rest ds ((d, v) :: σ) η) :
    TL F P S w0 n ops Q (⟨some d, .pick c x y, ty, pos, af, none⟩ :: rest) ds σ η :=
  TL.pure hF (by intro c; simp) hn (fun a w hk _ => by subst hb; simp [execOp, hk.ev hc, hk.ev hx, asBool]) h
theorem TL.pick (hF : Open F) {c x y : Operand} {b : Bool} {v : Value} (hc : ev σ c = some (.bool b)) (hx : ev σ (bif b then x else y) = some v) (hn : Nat.blt d n = true) (h : TL F P S w0 n ops Q rest ds ((d, v) :: σ) η) :
    TL F P S w0 n ops Q (⟨some d, .pick c x y, ty, pos, af, none⟩ :: rest) ds σ η :=
  TL.pure hF (by intro c; simp) hn (fun a w hk _ => by
    have := hk.ev hx
    cases b <;> simp_all [execOp, hk.ev hc, asBool]) h

/-- Two integers. -/
def intOp : BinOp → IntKind → Int → Int → Option Value
  | .add, k, a, b => some (.int k (k.wrap (a + b)))
  | .sub, k, a, b => some (.int k (k.wrap (a - b)))
  | .mul, k, a, b => some (.int k (k.wrap (a * b)))
  | .eql, _, a, b => some (.bool (decide (a = b)))
  | .neq, _, a, b => some (.bool (decide (a ≠ b)))
  | .lss, _, a, b => some (.bool (decide (a < b)))
  | .leq, _, a, b => some (.bool (decide (a ≤ b)))
  | .gtr, _, a, b => some (.bool (decide (b < a)))
  | .geq, _, a, b => some (.bool (decide (b ≤ a)))
  | _, _, _, _ => none

theorem TL.bin (hF : Open F) {op : BinOp} {xt yt : TypeId} {x y : Operand} {k : IntKind} {a b : Int} {v : Value} (hx : ev σ x = some (.int k a)) (hy : ev σ y = some (.int k b)) (ho : intOp op k a b = some v) (hn : Nat.blt d n = true)
    (h : TL F P S w0 n ops Q rest ds ((d, v) :: σ) η) : TL F P S w0 n ops Q (⟨some d, .binOp op xt x y yt, ty, pos, af, none⟩ :: rest) ds σ η :=
  TL.pure hF (by intro c; simp) hn (fun a w hk _ => by
    cases op <;> simp [intOp] at ho <;> subst ho <;>
      simp [execOp, hk.ev hx, hk.ev hy, eqGuard, binOp, Op.intArith, Op.intCmp, BEq.beq, bne]) h

theorem wrap_i64 {a : Int} (h1 : -9223372036854775808 ≤ a) (h2 : a ≤ 9223372036854775807) : IntKind.i64.wrap a = a := IntWalk.i64_in a ⟨h1, h2⟩

/-- A sum that fits. -/
theorem TL.add (hF : Open F) {xt yt : TypeId} {x y : Operand} {a b : Int} (hx : ev σ x = some (.int .i64 a)) (hy : ev σ y = some (.int .i64 b)) (h1 : -9223372036854775808 ≤ a + b) (h2 : a + b ≤ 9223372036854775807) (hn : Nat.blt d n = true)
    (h : TL F P S w0 n ops Q rest ds ((d, .int .i64 (a + b)) :: σ) η) : TL F P S w0 n ops Q (⟨some d, .binOp .add xt x y yt, ty, pos, af, none⟩ :: rest) ds σ η :=
  TL.bin hF hx hy (by simp [intOp, wrap_i64 h1 h2]) hn h
theorem TL.sub (hF : Open F) {xt yt : TypeId} {x y : Operand} {a b : Int} (hx : ev σ x = some (.int .i64 a)) (hy : ev σ y = some (.int .i64 b)) (h1 : -9223372036854775808 ≤ a - b) (h2 : a - b ≤ 9223372036854775807) (hn : Nat.blt d n = true)
    (h : TL F P S w0 n ops Q rest ds ((d, .int .i64 (a - b)) :: σ) η) : TL F P S w0 n ops Q (⟨some d, .binOp .sub xt x y yt, ty, pos, af, none⟩ :: rest) ds σ η :=
  TL.bin hF hx hy (by simp [intOp, wrap_i64 h1 h2]) hn h
theorem TL.mul (hF : Open F) {xt yt : TypeId} {x y : Operand} {a b : Int} (hx : ev σ x = some (.int .i64 a)) (hy : ev σ y = some (.int .i64 b)) (h1 : -9223372036854775808 ≤ a * b) (h2 : a * b ≤ 9223372036854775807) (hn : Nat.blt d n = true)
    (h : TL F P S w0 n ops Q rest ds ((d, .int .i64 (a * b)) :: σ) η) : TL F P S w0 n ops Q (⟨some d, .binOp .mul xt x y yt, ty, pos, af, none⟩ :: rest) ds σ η :=
  TL.bin hF hx hy (by simp [intOp, wrap_i64 h1 h2]) hn h
/-- Two bools. -/
theorem TL.not (hF : Open F) {xt : TypeId} {x : Operand} {b : Bool} (hx : ev σ x = some (.bool b)) (hn : Nat.blt d n = true)
    (h : TL F P S w0 n ops Q rest ds ((d, .bool (!b)) :: σ) η) : TL F P S w0 n ops Q (⟨some d, .unOp .not xt x, ty, pos, af, none⟩ :: rest) ds σ η :=
  TL.pure hF (by intro c; simp) hn (fun a w hk _ => by simp [execOp, hk.ev hx, Op.unary]) h
theorem TL.extract (hF : Open F) {x : Operand} {vs : Array Value} {i : Nat} {v : Value} (hx : ev σ x = some (.tuple vs)) (hi : vs[i]? = some v) (hn : Nat.blt d n = true)
    (h : TL F P S w0 n ops Q rest ds ((d, v) :: σ) η) : TL F P S w0 n ops Q (⟨some d, .extract x i, ty, pos, af, none⟩ :: rest) ds σ η :=
  TL.pure hF (by intro c; simp) hn (fun a w hk _ => by simp [execOp, hk.ev hx, Instr.extract, hi]) h
theorem TL.makeFunc (hF : Open F) {fn : Fn} {first cap : Array Operand} {fv cv : List Value} (h1 : evs σ first.toList = some fv) (h2 : evs σ cap.toList = some cv) (hn : Nat.blt d n = true)
    (h : TL F P S w0 n ops Q rest ds ((d, .func fn fv.toArray cv.toArray) :: σ) η) : TL F P S w0 n ops Q (⟨some d, .makeFunc fn first cap, ty, pos, af, none⟩ :: rest) ds σ η :=
  TL.pure hF (by intro c; simp) hn (fun a w hk _ => by
    simp [execOp, Instr.makeFunc, hk.evs h1, hk.evs h2]) h

/-! A guard that is not decided -/
theorem TL.gs {p : Prop} [Decidable p] {l : List Oper} (hd : p → TL F P S w0 n ops Q l ds σ η) (hf : ¬ p → TL F P S w0 n ops Q l ds σ η) : TL F P S w0 n ops Q l ds σ η := by
  by_cases h : p
  · exact hd h
  · exact hf h
theorem TL.gd {p : Prop} [Decidable p] {l : List Oper} {t : Nat} (_ : lk σ t = some (.bool (decide p))) (hd : p → TL F P S w0 n ops Q l ds σ η) (hf : ¬ p → TL F P S w0 n ops Q l ds σ η) : TL F P S w0 n ops Q l ds σ η := TL.gs hd hf
theorem TL.gb {b : Bool} {l : List Oper} {t : Nat} (_ : lk σ t = some (.bool b)) (hd : b = true → TL F P S w0 n ops Q l ds σ η) (hf : b = false → TL F P S w0 n ops Q l ds σ η) : TL F P S w0 n ops Q l ds σ η := by
  cases b
  · exact hf rfl
  · exact hd rfl
end
end Go.Sl
