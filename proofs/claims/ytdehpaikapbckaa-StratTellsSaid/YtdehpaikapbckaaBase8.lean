/- Scopes; blocks in another order; maps: look, write, go through; arrays in memory. -/
import Derived.Test.YtdehpaikapbckaaBase7
namespace Go.Sl

theorem stepR_scope {P : Program} {b : Frame} {a : Act} {k : List Item} {cs : List Frame} {w : World} {c : Code} : step P (lone (b.atR a (.code (.scope c) :: k)) cs w) = .next (lone (b.atR a (.code c :: .inScope c :: k)) cs w) :=
  step_lone_go (by simp [stepG, stepG.exec, Frame.atR])
theorem stepR_inScope {P : Program} {b : Frame} {a : Act} {k : List Item} {cs : List Frame} {w : World} {c : Code} : step P (lone (b.atR a (.inScope c :: k)) cs w) = .next (lone (b.atR a k) cs w) :=
  step_lone_go (by simp [stepG, stepG.exec, Frame.atR])
/-- A scope whose ways out are no jumps. -/
def noGoto (Q : Exit → Act → World → Prop) : Exit → Act → World → Prop
  | .goto _, _, _ => False
  | e, a, w => Q e a w
theorem wpIn_scope {F : Fence} {P : Program} {c : Code} {Q : Exit → Act → World → Prop} {a : Act} {w : World} (h : c.wpIn F 0 P (noGoto Q) a w) : (Code.scope c).wpIn F 0 P Q a w := by
  intro b k cs hro hb hr
  have h0 : (lone (b.atR a (.code (.scope c) :: k)) cs w).fenced P F := fenced_calm hb hr rfl
  obtain ⟨e, a₁, w₁, hq, harr⟩ := h b (.inScope c :: k) cs hro hb hr
  cases e with
  | normal => exact ⟨.normal, a₁, w₁, hq, .head h0 stepR_scope (StepsIn.trans harr (.one (fenced_calm hb hr rfl) stepR_inScope))⟩
  | exit id =>
    have hx : exitTo id (.inScope c :: k) = exitTo id k := by simp [exitTo]
    exact ⟨.exit id, a₁, w₁, hq, fun k' hk => .head h0 stepR_scope (harr.1 k' (by rw [hx]; exact hk)),
      fun hr' hk => let ⟨k₁, h1, h2⟩ := harr.2 hr' (by rw [hx]; exact hk); ⟨k₁, h1, .head h0 stepR_scope h2⟩⟩
  | goto l => exact hq.elim
  | ret => exact ⟨_, a₁, w₁, hq, .of_steps (.one h0 stepR_scope) harr⟩
  | panic ch => exact ⟨_, a₁, w₁, hq, .of_steps (.one h0 stepR_scope) harr⟩
  | outgrown => exact ⟨_, a₁, w₁, hq, .of_steps (.one h0 stepR_scope) harr⟩

section
variable {F : Fence} {P : Program} {S : Nat → Prop} {w0 w : World} {n : Nat} {Q : Exit → Act → World → Prop} {ds : List Deferred} {σ : Env} {η : Heap} {ops : Array Oper} {rest : List Oper} {d : Nat} {ty : TypeId} {pos : String} {af : Array Edge}
theorem T.scope {c : Code} (h : T F P S w0 n (noGoto Q) c ds σ η) : T F P S w0 n Q (.scope c) ds σ η := fun a w hk hh => wpIn_scope (h a w hk hh)
theorem TQ.scope_n (h : TQ S w0 n (Q .normal) ds σ η) : TQ S w0 n (noGoto Q .normal) ds σ η := h
theorem TQ.scope_r (h : TQ S w0 n (Q .ret) ds σ η) : TQ S w0 n (noGoto Q .ret) ds σ η := h
theorem TQ.scope_p {ch : List PanicEntry} (h : TQ S w0 n (Q (.panic ch)) ds σ η) : TQ S w0 n (noGoto Q (.panic ch)) ds σ η := h
theorem TQ.scope_x {id : Nat} (h : TQ S w0 n (Q (.exit id)) ds σ η) : TQ S w0 n (noGoto Q (.exit id)) ds σ η := h

theorem Hp.perm {η' : Heap} (hh : Hp S w0 η w) (hp : η'.Perm η) : Hp S w0 η' w := by
  have hf : η'.flatten.Perm η.flatten := hp.flatten
  exact hh.sub (fun p h => hf.mem_iff.1 h) ((hf.map _).nodup_iff.2 hh.once)
theorem TQ.hperm {K : Act → World → Prop} (η' : Heap) (hp : η'.Perm η) (h : TQ S w0 n K ds σ η') : TQ S w0 n K ds σ η := fun a w hk hh => h a w hk (hh.perm hp)
theorem T.hperm {c : Code} (η' : Heap) (hp : η'.Perm η) (h : T F P S w0 n Q c ds σ η') : T F P S w0 n Q c ds σ η := fun a w hk hh => h a w hk (hh.perm hp)
theorem TL.hperm {l : List Oper} (η' : Heap) (hp : η'.Perm η) (h : TL F P S w0 n ops Q l ds σ η') : TL F P S w0 n ops Q l ds σ η := fun a w hk hh => h a w hk (hh.perm hp)

/-! Maps -/
def fidx {α : Type} [DecidableEq α] (k : α) : List α → Option Nat
  | [] => none
  | a :: r => if k = a then some 0 else (fidx k r).map (· + 1)
def mget {α β : Type} [DecidableEq α] (k : α) : List (α × β) → Option β
  | [] => none
  | (a, b) :: r => if k = a then some b else mget k r
def mput {α β : Type} [DecidableEq α] (k : α) (v : β) : List (α × β) → List (α × β)
  | [] => [(k, v)]
  | (a, b) :: r => if k = a then (a, v) :: r else (a, b) :: mput k v r
def mdel {α β : Type} [DecidableEq α] (k : α) : List (α × β) → List (α × β)
  | [] => []
  | (a, b) :: r => if k = a then r else (a, b) :: mdel k r
theorem mget_mput {α β : Type} [DecidableEq α] (k k' : α) (v : β) : ∀ (m : List (α × β)), mget k' (mput k v m) = if k' = k then some v else mget k' m
  | [] => by simp [mput, mget]
  | (a, b) :: r => by
    have := mget_mput k k' v r
    unfold mput
    by_cases h : k = a
    · subst h; by_cases h2 : k' = k <;> simp [h2, mget]
    · simp only [h, if_false, mget, this]
      by_cases h2 : k' = a
      · subst h2; simp [Ne.symm h]
      · simp [h2]
theorem mget_mem {α β : Type} [DecidableEq α] {k : α} {v : β} : ∀ {m : List (α × β)}, mget k m = some v → (k, v) ∈ m
  | (a, b) :: r, h => by
    unfold mget at h
    split at h
    · cases h; subst_vars; simp
    · exact List.mem_cons_of_mem _ (mget_mem h)
theorem mget_none {α β : Type} [DecidableEq α] {k : α} : ∀ {m : List (α × β)}, mget k m = none ↔ ∀ p ∈ m, p.1 ≠ k
  | [] => by simp [mget]
  | (a, b) :: r => by
    unfold mget
    by_cases h : k = a
    · subst h; simp
    · simp [h, mget_none (m := r), Ne.symm h]
theorem mget_of_mem {α β : Type} [DecidableEq α] {k : α} {v : β} : ∀ {m : List (α × β)}, (m.map (·.1)).Nodup → (k, v) ∈ m → mget k m = some v
  | (a, b) :: r, hn, h => by
    simp only [List.map_cons, List.nodup_cons] at hn
    unfold mget
    rcases List.mem_cons.1 h with h | h
    · cases h; simp
    · have : k ≠ a := fun e => hn.1 (by rw [← e]; exact List.mem_map.2 ⟨_, h, rfl⟩)
      simp [this, mget_of_mem hn.2 h]
theorem mput_keys {α β : Type} [DecidableEq α] (k : α) (v : β) : ∀ (m : List (α × β)), (mput k v m).map (·.1) = if (mget k m).isSome then m.map (·.1) else m.map (·.1) ++ [k]
  | [] => by simp [mput, mget]
  | (a, b) :: r => by
    have := mput_keys k v r
    unfold mput mget
    by_cases h : k = a
    · simp [h]
    · simp only [h, if_false, List.map_cons, this]
      split <;> simp
theorem mput_nodup {α β : Type} [DecidableEq α] {k : α} {v : β} {m : List (α × β)} (h : (m.map (·.1)).Nodup) : ((mput k v m).map (·.1)).Nodup := by
  rw [mput_keys]
  cases hg : mget k m with
  | some x => simpa using h
  | none =>
    simp only [Option.isSome_none, Bool.false_eq_true, if_false]
    rw [List.nodup_append]
    refine ⟨h, by simp, ?_⟩
    rintro a ha b hb rfl
    simp only [List.mem_singleton] at hb; subst hb
    obtain ⟨p, hp, rfl⟩ := List.mem_map.1 ha
    exact mget_none.1 hg p hp rfl

/-- What a map of memory holds. -/
structure MObj {α β : Type} (K : α → Value) (V : β → Value) (m : List (α × β)) (es : Array MapEntry) (clock : Nat) : Prop where
  keys : es.toList.map (·.key) = m.map fun p => K p.1
  vals : es.toList.map (·.val) = m.map fun p => V p.2
  nd : (m.map (·.1)).Nodup
  born : (es.toList.map (·.born)).Nodup
  old : ∀ e ∈ es.toList, e.born < clock
theorem MObj.nil {α β : Type} (K : α → Value) (V : β → Value) : MObj K V ([] : List (α × β)) #[] 0 := ⟨by simp, by simp, by simp, by simp, by simp⟩
/-- Keys of a type. -/
class MKey (P : Program) (kt : TypeId) {α : Type} (K : α → Value) [DecidableEq α] : Prop where
  chk : ∀ (k : α) e w, (Instr.checkKey e 10000 kt (K k)).run P w = .ok () w
  find : ∀ (k : α) (es : List MapEntry) (l : List α) w, es.map (·.key) = l.map K → (Instr.findKey kt (K k) es).run P w = .ok ((fidx k l).map fun i => (i, ((es[i]?).map (·.val)).getD undef)) w
  same : ∀ k : α, Instr.sameBits 10000 (K k) (K k) = true

theorem fidx_get {α β : Type} [DecidableEq α] (k : α) : ∀ (m : List (α × β)), (fidx k (m.map (·.1))).bind (fun i => (m[i]?).map (·.2)) = mget k m
  | [] => rfl
  | (a, b) :: r => by
    have := fidx_get k r
    simp only [List.map_cons, fidx, mget]
    split
    · simp
    · rw [← this]
      cases fidx k (r.map (·.1)) <;> simp
theorem fidx_lt {α : Type} [DecidableEq α] {k : α} : ∀ {l : List α} {i : Nat}, fidx k l = some i → l[i]? = some k
  | [], i, h => by simp [fidx] at h
  | a :: r, i, h => by
    simp only [fidx] at h
    split at h
    · cases h; subst_vars; rfl
    · cases hf : fidx k r with
      | none => simp [hf] at h
      | some j => simp [hf] at h; subst h; simpa using fidx_lt hf
theorem mput_at {α β : Type} [DecidableEq α] {k : α} (v : β) : ∀ {m : List (α × β)} {i : Nat}, fidx k (m.map (·.1)) = some i → mput k v m = m.modify i fun p => (p.1, v)
  | [], i, h => by simp [fidx] at h
  | (a, b) :: r, i, h => by
    simp only [List.map_cons, fidx] at h
    unfold mput
    split at h
    · cases h; subst_vars; simp
    · rename_i hne
      cases hf : fidx k (r.map (·.1)) with
      | none => simp [hf] at h
      | some j => simp [hf] at h; subst h; simp [hne, mput_at v hf]
theorem mput_new {α β : Type} [DecidableEq α] {k : α} (v : β) : ∀ {m : List (α × β)}, fidx k (m.map (·.1)) = none → mput k v m = m ++ [(k, v)]
  | [], h => rfl
  | (a, b) :: r, h => by
    simp only [List.map_cons, fidx] at h
    unfold mput
    split at h
    · cases h
    · rename_i hne
      cases hf : fidx k (r.map (·.1)) with
      | none => simp [hne, mput_new v hf]
      | some j => simp [hf] at h
theorem mdel_at {α β : Type} [DecidableEq α] {k : α} : ∀ {m : List (α × β)} {i : Nat}, fidx k (m.map (·.1)) = some i → mdel k m = m.eraseIdx i
  | [], i, h => by simp [fidx] at h
  | (a, b) :: r, i, h => by
    simp only [List.map_cons, fidx] at h
    unfold mdel
    split at h
    · cases h; subst_vars; simp
    · rename_i hne
      cases hf : fidx k (r.map (·.1)) with
      | none => simp [hf] at h
      | some j => simp [hf] at h; subst h; simp [hne, mdel_at hf]
theorem mdel_none {α β : Type} [DecidableEq α] {k : α} : ∀ {m : List (α × β)}, fidx k (m.map (·.1)) = none → mdel k m = m
  | [], h => rfl
  | (a, b) :: r, h => by
    simp only [List.map_cons, fidx] at h
    unfold mdel
    split at h
    · cases h
    · rename_i hne
      cases hf : fidx k (r.map (·.1)) with
      | none => simp [hne, mdel_none hf]
      | some j => simp [hf] at h

theorem find_asking {α : Type} [DecidableEq α] {K : α → Value} {kt : TypeId} (heq : ∀ a b w, (Op.equal kt (K a) (K b)).run P w = .ok (decide (a = b)) w) (k : α) : ∀ (es : List MapEntry) (l : List α) (i : Nat) w, es.map (·.key) = l.map K →
    (Instr.findAsking kt (K k) es i).run P w = .ok ((fidx k l).map fun j => (i + j, ((es[j]?).map (·.val)).getD undef)) w
  | [], l, i, w, h => by
    have : l = [] := by simpa using h.symm
    subst this; simp [Instr.findAsking, fidx]
  | e :: es, [], i, w, h => by simp at h
  | e :: es, a :: l, i, w, h => by
    simp only [List.map_cons, List.cons.injEq] at h
    unfold Instr.findAsking
    simp only [Sem.run_bind, h.1, heq, Result.andThen_ok, fidx]
    by_cases hk : k = a
    · simp [hk]
    · simp only [hk, decide_false, Bool.false_eq_true, if_false]
      rw [find_asking heq k es l (i + 1) w h.2]
      cases fidx k l <;> simp; omega
theorem find_int {kt : TypeId} {kk : IntKind} [Und P kt (.int kk)] (k : Int) (es : List MapEntry) (l : List Int) (w : World) (h : es.map (·.key) = l.map (Value.int kk)) :
    (Instr.findKey kt (.int kk k) es).run P w = .ok ((fidx k l).map fun j => (j, ((es[j]?).map (·.val)).getD undef)) w := by
  have key : ∀ (es : List MapEntry) (l : List Int) (i : Nat), es.map (·.key) = l.map (Value.int kk) → Instr.findNow (.int kk) (.int kk k) es i = some ((fidx k l).map fun j => (i + j, ((es[j]?).map (·.val)).getD undef)) := by
    intro es
    induction es with
    | nil =>
      intro l i h
      have : l = [] := by simpa using h.symm
      subst this; simp [Instr.findNow, fidx]
    | cons e es ih =>
      intro l i h
      cases l with
      | nil => simp at h
      | cons a l =>
        simp only [List.map_cons, List.cons.injEq] at h
        unfold Instr.findNow
        rw [h.1]
        simp only [Instr.sameNow, if_true, fidx]
        by_cases hk : k = a
        · subst hk; simp
        · have : (k == a) = false := by simp [hk]
          simp only [this, hk, if_false]
          rw [ih l (i + 1) h.2]
          cases fidx k l <;> simp; omega
  simp only [Instr.findKey, Sem.run_bind, run_underlying (t := kt) (d := .int kk), Result.andThen_ok]
  rw [key es l 0 h]
  simp
instance mkey_int {kt : TypeId} {kk : IntKind} [Und P kt (.int kk)] : MKey P kt (Value.int kk) where
  chk k e w := by
    unfold Instr.checkKey
    simp only [Sem.run_bind, run_underlying (t := kt) (d := .int kk), Result.andThen_ok]
    rfl
  find k es l w h := find_int k es l w h
  same k := by simp [Instr.sameBits]

theorem run_getMap {b : Nat} {es : Array MapEntry} {clock : Nat} (hb : w.heap[b]? = some (.map es clock)) : (getObj b).run P w = .ok (.map es clock) w := by simp [getObj, Sem.run, hb]
theorem run_setB {b : Nat} {o : Obj} (o' : Obj) (hb : w.heap[b]? = some o) (hm : (∃ es c, o = .map es c) ∨ ∃ m s l c, o = .mapIter m s l c) : (setObj b o').run P w = .ok () (putBlk w b o') := by
  rcases hm with ⟨es, c, rfl⟩ | ⟨m, s, l, c, rfl⟩ <;> simp [setObj, Sem.run, hb, putBlk]
theorem Hp.inMem (hh : Hp S w0 η w) {b : Nat} {o : Obj} (h : [(b, o)] ∈ η) : w.heap[b]? = some o := (hh.own (b, o) (List.mem_flatten.2 ⟨_, h, by simp⟩)).1

theorem MObj.get {α β : Type} [DecidableEq α] {K : α → Value} {V : β → Value} {m : List (α × β)} {es : Array MapEntry} {clock : Nat} (h : MObj K V m es clock) (k : α) : ((fidx k (m.map (·.1))).map fun i => (i, ((es.toList[i]?).map (·.val)).getD undef)) = (fidx k (m.map (·.1))).map fun i => (i, (mget k m).elim undef V) := by
  cases hf : fidx k (m.map (·.1)) with
  | none => rfl
  | some i =>
    have h1 := fidx_get k m
    rw [hf] at h1
    simp only [Option.bind_some] at h1
    have h2 := congrArg (fun l : List Value => l[i]?) h.vals
    simp only [List.getElem?_map] at h2
    cases hm : m[i]? with
    | none =>
      have := fidx_lt hf
      simp [hm] at this
    | some p =>
      simp only [hm, Option.map_some] at h1 h2
      rw [← h1]; simp only [Option.map_some]; rw [h2]; rfl
theorem fidx_mget {α β : Type} [DecidableEq α] {k : α} {m : List (α × β)} : (fidx k (m.map (·.1))).isSome = (mget k m).isSome := by
  have h1 := fidx_get k m
  cases hf : fidx k (m.map (·.1)) with
  | none => rw [hf] at h1; simp at h1; simp [← h1]
  | some i =>
    rw [hf] at h1
    have := fidx_lt hf
    simp only [List.getElem?_map] at this
    cases hm : m[i]? with
    | none => simp [hm] at this
    | some p => simp [hm] at h1; simp [← h1]

/-- A look into a map. -/
theorem TL.lookup (hF : Open F) {t kt et : TypeId} [Und P t (.map kt et)] {z : Value} {sz bt : Nat} [Inf P et z sz bt] {α β : Type} [DecidableEq α] {K : α → Value} [MKey P kt K] (V : β → Value) {m : List (α × β)} {es : Array MapEntry} {clock b : Nat} (k : α)
    {x y : Operand} (hx : ev σ x = some (.map (some b))) (hy : ev σ y = some (K k)) (hb : [(b, .map es clock)] ∈ η) (hm : MObj K V m es clock) (hn : Nat.blt d n = true)
    (h : TL F P S w0 n ops Q rest ds ((d, (mget k m).elim z V) :: σ) η) : TL F P S w0 n ops Q (⟨some d, .lookup t x y false, ty, pos, af, none⟩ :: rest) ds σ η :=
  TL.pure hF (by intro c; simp) hn (fun a w hk hh => by
    have h1 := MKey.find (P := P) (kt := kt) (K := K) k es.toList (m.map (·.1)) w (by rw [hm.keys]; simp)
    rw [hm.get] at h1
    simp only [execOp, hk.ev hx, hk.ev hy, Instr.lookup, Sem.run_bind, run_underlying (t := t) (d := .map kt et), Result.andThen_ok, run_getMap (hh.inMem hb), Sem.run_pure, MKey.chk, h1]
    have h2 := fidx_mget (k := k) (m := m)
    cases hf : fidx k (m.map (·.1)) with
    | none =>
      rw [hf] at h2
      have : mget k m = none := by cases hg : mget k m <;> simp_all
      simp [run_zeroValue (t := et) (z := z) (sz := sz) (bt := bt), this]
    | some i =>
      rw [hf] at h2
      cases hg : mget k m with
      | none => simp [hg] at h2
      | some v => simp) h
theorem TL.lookupOk (hF : Open F) {t kt et : TypeId} [Und P t (.map kt et)] {z : Value} {sz bt : Nat} [Inf P et z sz bt] {α β : Type} [DecidableEq α] {K : α → Value} [MKey P kt K] (V : β → Value) {m : List (α × β)} {es : Array MapEntry} {clock b : Nat} (k : α)
    {x y : Operand} (hx : ev σ x = some (.map (some b))) (hy : ev σ y = some (K k)) (hb : [(b, .map es clock)] ∈ η) (hm : MObj K V m es clock) (hn : Nat.blt d n = true)
    (h : TL F P S w0 n ops Q rest ds ((d, .tuple #[(mget k m).elim z V, .bool (mget k m).isSome]) :: σ) η) : TL F P S w0 n ops Q (⟨some d, .lookup t x y true, ty, pos, af, none⟩ :: rest) ds σ η :=
  TL.pure hF (by intro c; simp) hn (fun a w hk hh => by
    have h1 := MKey.find (P := P) (kt := kt) (K := K) k es.toList (m.map (·.1)) w (by rw [hm.keys]; simp)
    rw [hm.get] at h1
    simp only [execOp, hk.ev hx, hk.ev hy, Instr.lookup, Sem.run_bind, run_underlying (t := t) (d := .map kt et), Result.andThen_ok, run_getMap (hh.inMem hb), Sem.run_pure, MKey.chk, h1]
    have h2 := fidx_mget (k := k) (m := m)
    cases hf : fidx k (m.map (·.1)) with
    | none =>
      rw [hf] at h2
      have : mget k m = none := by cases hg : mget k m <;> simp_all
      simp [run_zeroValue (t := et) (z := z) (sz := sz) (bt := bt), this]
    | some i =>
      rw [hf] at h2
      cases hg : mget k m with
      | none => simp [hg] at h2
      | some v => simp) h

theorem MObj.put {α β : Type} [DecidableEq α] {K : α → Value} {V : β → Value} {m : List (α × β)} {es : Array MapEntry} {clock : Nat} (h : MObj K V m es clock) (k : α) (v : β) :
    (∀ i, fidx k (m.map (·.1)) = some i → MObj K V (mput k v m) (es.modify i fun e => { e with key := K k, val := V v }) clock) ∧ (fidx k (m.map (·.1)) = none → MObj K V (mput k v m) (es.push { key := K k, val := V v, born := clock }) (clock + 1)) := by
  constructor
  · intro i hf
    have hki := fidx_lt hf
    rw [List.getElem?_map] at hki
    have e0 : (es.modify i fun e => { e with key := K k, val := V v }).toList = es.toList.modify i fun e => { e with key := K k, val := V v } := by simp
    rw [mput_at v hf]
    refine ⟨?_, ?_, ?_, ?_, ?_⟩
    · rw [e0]
      apply List.ext_getElem?
      intro j
      have := congrArg (fun l : List Value => l[j]?) h.keys
      simp only [List.getElem?_map, List.getElem?_modify, Option.map_eq_map] at this ⊢
      by_cases hij : i = j
      · subst hij
        cases hm : m[i]? with
        | none => simp [hm] at hki
        | some p =>
          simp only [hm, Option.map_some] at hki this
          cases hes : es.toList[i]? with
          | none => simp [hes] at this
          | some e => simp only [Option.map_some, if_true, Option.some.injEq] at hki ⊢; simp [hki]
      · simp only [hij, if_false, Option.map_id', id]
        exact this
    · rw [e0]
      apply List.ext_getElem?
      intro j
      have := congrArg (fun l : List Value => l[j]?) h.vals
      simp only [List.getElem?_map, List.getElem?_modify, Option.map_eq_map] at this ⊢
      by_cases hij : i = j
      · subst hij
        cases hm : m[i]? with
        | none => simp [hm] at hki
        | some p =>
          simp only [hm, Option.map_some] at this
          cases hes : es.toList[i]? with
          | none => simp [hes] at this
          | some e => simp
      · simp only [hij, if_false, Option.map_id', id]
        exact this
    · rw [← mput_at v hf]; exact mput_nodup h.nd
    · rw [e0]
      have : (es.toList.modify i fun e => { e with key := K k, val := V v }).map (·.born) = es.toList.map (·.born) := by
        apply List.ext_getElem?
        intro j
        simp only [List.getElem?_map, List.getElem?_modify, Option.map_eq_map]
        cases es.toList[j]? with
        | none => rfl
        | some e => by_cases hij : i = j <;> simp [hij]
      rw [this]; exact h.born
    · rw [e0]
      intro e he
      obtain ⟨j, hj⟩ := List.mem_iff_getElem?.1 he
      rw [List.getElem?_modify, Option.map_eq_map] at hj
      cases hes : es.toList[j]? with
      | none => simp [hes] at hj
      | some e' =>
        have := h.old e' (List.mem_of_getElem? hes)
        simp only [hes, Option.map_some, Option.some.injEq] at hj
        split at hj <;> (subst hj; exact this)
  · intro hf
    rw [mput_new v hf]
    refine ⟨by simp [h.keys], by simp [h.vals], ?_, ?_, ?_⟩
    · rw [← mput_new v hf]; exact mput_nodup h.nd
    · simp only [Array.toList_push, List.map_append, List.map_cons, List.map_nil]
      rw [List.nodup_append]
      refine ⟨h.born, by simp, ?_⟩
      rintro a ha b hb rfl
      simp only [List.mem_singleton] at hb
      obtain ⟨e, he, rfl⟩ := List.mem_map.1 ha
      have := h.old e he
      omega
    · simp only [Array.toList_push, List.mem_append, List.mem_singleton]
      rintro e (he | rfl)
      · have := h.old e he; omega
      · simp

/-- A write into a map. -/
theorem TL.mapUpdate (hF : Open F) (i : Nat) {t kt et : TypeId} [Und P t (.map kt et)] {α β : Type} [DecidableEq α] {K : α → Value} [MKey P kt K] (V : β → Value) {m : List (α × β)} {es : Array MapEntry} {clock b : Nat} (k : α) (v : β)
    {x y z : Operand} (hx : ev σ x = some (.map (some b))) (hy : ev σ y = some (K k)) (hz : ev σ z = some (V v)) (hi : η[i]? = some [(b, .map es clock)]) (hm : MObj K V m es clock)
    (h : ∀ es' clock', MObj K V (mput k v m) es' clock' → TL F P S w0 n ops Q rest ds σ (η.set i [(b, .map es' clock')])) : TL F P S w0 n ops Q (⟨none, .mapUpdate t x y z, ty, pos, af, none⟩ :: rest) ds σ η :=
  TL.act hF (by intro c; simp) fun a w hk hh => by
    have hb := hh.inMem (List.mem_of_getElem? hi)
    have h1 := MKey.find (P := P) (kt := kt) (K := K) k es.toList (m.map (·.1)) w (by rw [hm.keys]; simp)
    have hput := hm.put k v
    cases hf : fidx k (m.map (·.1)) with
    | none =>
      rw [hf] at h1
      refine ⟨_, _, ?_, hh.turnI hi (.map (es.push { key := K k, val := V v, born := clock }) (clock + 1)), h _ _ (hput.2 hf)⟩
      have h1' : (Instr.findKey kt (K k) es.toList).run P w = .ok none w := h1
      simp [execOp, hk.ev hx, hk.ev hy, hk.ev hz, Instr.mapUpdate, run_underlying (t := t) (d := .map kt et), run_getMap hb, MKey.chk, h1', run_setB _ hb (.inl ⟨_, _, rfl⟩)]
    | some j =>
      rw [hf] at h1
      refine ⟨_, _, ?_, hh.turnI hi (.map (es.modify j fun e => { e with key := K k, val := V v }) clock), h _ _ (hput.1 j hf)⟩
      have hkey : ((es[j]?).map (·.key)).getD (K k) = K k := by
        have h2 := congrArg (fun l : List Value => l[j]?) hm.keys
        have h3 := fidx_lt hf
        simp only [List.getElem?_map] at h2 h3
        cases hmj : m[j]? with
        | none => simp [hmj] at h3
        | some p =>
          simp only [hmj, Option.map_some, Option.some.injEq] at h2 h3
          rw [h3] at h2
          rw [← Array.getElem?_toList, h2]; rfl
      have h1' : (Instr.findKey kt (K k) es.toList).run P w = .ok (some (j, ((es.toList[j]?).map (·.val)).getD undef)) w := h1
      have hst : (Instr.keyThatStays (K k) (K k)).run P w = .ok (K k) w := by simp [Instr.keyThatStays, MKey.same (P := P) (kt := kt) (K := K)]
      simp only [execOp, hk.ev hx, hk.ev hy, hk.ev hz, Instr.mapUpdate, Sem.run_bind, run_underlying (t := t) (d := .map kt et), Result.andThen_ok, run_getMap hb, MKey.chk, h1', hkey, hst, run_setB _ hb (.inl ⟨_, _, rfl⟩), Sem.run_pure]

/-- How far one has gone through a map. -/
def ItOk {α β : Type} (m : List (α × β)) (es : Array MapEntry) (seen : Array Nat) (done : List α) : Prop := ∀ (j : Nat) (e : MapEntry) (p : α × β), es.toList[j]? = some e → m[j]? = some p → (e.born ∈ seen.toList ↔ p.1 ∈ done)
theorem ItOk.start {α β : Type} (m : List (α × β)) (es : Array MapEntry) : ItOk m es #[] [] := fun j e p _ _ => by simp

theorem TL.range (hF : Open F) {t kt et : TypeId} [Und P t (.map kt et)] {x : Operand} {b clock : Nat} {es : Array MapEntry} (hx : ev σ x = some (.map (some b))) (hb : [(b, .map es clock)] ∈ η) (hn : Nat.blt d n = true)
    (h : ∀ c, TL F P S w0 n ops Q rest ds ((d, .pointer (some ⟨c, 0, none⟩)) :: σ) ([(c, .mapIter (some b) clock #[] clock)] :: η)) : TL F P S w0 n ops Q (⟨some d, .range t x, ty, pos, af, none⟩ :: rest) ds σ η :=
  TL.val hF (by intro c; simp) hn fun a w hk hh => ⟨_, _, _, by
    simp [execOp, Instr.range, hk.ev hx, run_underlying (t := t) (d := .map kt et), run_getMap (hh.inMem hb)], hh.alloc _, h _⟩

theorem ItOk.step {α β : Type} {K : α → Value} {V : β → Value} {m : List (α × β)} {es : Array MapEntry} {clock : Nat} (hm : MObj K V m es clock) {seen : Array Nat} {done : List α} (hit : ItOk m es seen done) {j : Nat} {e : MapEntry} {p : α × β} (he : es.toList[j]? = some e) (hp : m[j]? = some p) :
    ItOk m es (seen.push e.born) (p.1 :: done) := fun j' e' p' he' hp' => by
  have h0 := hit j' e' p' he' hp'
  simp only [Array.toList_push, List.mem_append, List.mem_cons, List.not_mem_nil, or_false, h0]
  have hb : e'.born = e.born ↔ j' = j := by
    constructor
    · intro h
      have e1 : (es.toList.map (·.born))[j']? = some e'.born := by simp only [List.getElem?_map, he', Option.map_some]
      have e2 : (es.toList.map (·.born))[j]? = some e.born := by simp only [List.getElem?_map, he, Option.map_some]
      obtain ⟨l1, g1⟩ := List.getElem?_eq_some_iff.1 e1
      obtain ⟨l2, g2⟩ := List.getElem?_eq_some_iff.1 e2
      exact (List.getElem_inj (h₀ := l1) (h₁ := l2) hm.born).1 (g1.trans (h.trans g2.symm))
    · intro h; subst h; rw [he] at he'; cases he'; rfl
  have hk : p'.1 = p.1 ↔ j' = j := by
    constructor
    · intro h
      have e1 : (m.map (·.1))[j']? = some p'.1 := by simp only [List.getElem?_map, hp', Option.map_some]
      have e2 : (m.map (·.1))[j]? = some p.1 := by simp only [List.getElem?_map, hp, Option.map_some]
      obtain ⟨l1, g1⟩ := List.getElem?_eq_some_iff.1 e1
      obtain ⟨l2, g2⟩ := List.getElem?_eq_some_iff.1 e2
      exact (List.getElem_inj (h₀ := l1) (h₁ := l2) hm.nd).1 (g1.trans (h.trans g2.symm))
    · intro h; subst h; rw [hp] at hp'; cases hp'; rfl
  rw [hb, hk]
  exact or_comm

/-- The next entry of a map, in any order. -/
theorem TL.next (hF : Open F) (i : Nat) {α β : Type} {K : α → Value} {V : β → Value} {m : List (α × β)} {es : Array MapEntry} {clock b c : Nat} {seen : Array Nat} {done : List α} {x : Operand} (hx : ev σ x = some (.pointer (some ⟨c, 0, none⟩)))
    (hi : η[i]? = some [(c, .mapIter (some b) clock seen clock)]) (hb : [(b, .map es clock)] ∈ η) (hm : MObj K V m es clock) (hit : ItOk m es seen done) (hn : Nat.blt d n = true)
    (hover : (∀ p ∈ m, p.1 ∈ done) → TL F P S w0 n ops Q rest ds ((d, .tuple #[.bool false]) :: σ) η)
    (hstep : ∀ p seen', p ∈ m → p.1 ∉ done → ItOk m es seen' (p.1 :: done) → (∃ e ∈ es.toList, seen'.back? = some e.born ∧ e.key = K p.1 ∧ e.val = V p.2) → TL F P S w0 n ops Q rest ds ((d, .tuple #[.bool true, K p.1, V p.2]) :: σ) (η.set i [(c, .mapIter (some b) clock seen' clock)])) :
    TL F P S w0 n ops Q (⟨some d, .next x false, ty, pos, af, none⟩ :: rest) ds σ η :=
  TL.op hF rfl (by intro c; simp) fun a w hk hh => by
    have hci := hh.inMem (List.mem_of_getElem? hi)
    have hbm := hh.inMem hb
    have hgi : (getObj c).run P w = .ok (.mapIter (some b) clock seen clock) w := by simp [getObj, Sem.run, hci]
    let left := es.filter fun e : MapEntry => !seen.contains e.born
    have hold : left.filter (fun e : MapEntry => decide (e.born < clock)) = left := by
      apply Array.filter_eq_self.2
      intro e he
      have : e ∈ es := (Array.mem_filter.1 he).1
      simpa using hm.old e (by simpa using this)
    have hnew : left.filter (fun e : MapEntry => decide (clock ≤ e.born)) = #[] := by
      apply Array.filter_eq_empty_iff.2
      intro e he
      have : e ∈ es := (Array.mem_filter.1 he).1
      have := hm.old e (by simpa using this)
      simp; omega
    have hall : (!seen.isEmpty && !es.isEmpty && es.all (fun e : MapEntry => decide (e.born ≥ clock))) = false := by
      cases hes : es.isEmpty with
      | true => simp
      | false =>
        have : es.all (fun e : MapEntry => decide (e.born ≥ clock)) = false := by
          rw [Bool.eq_false_iff]
          intro h
          rw [Array.all_eq_true] at h
          have h0 : 0 < es.size := by
            rcases Nat.eq_zero_or_pos es.size with h0 | h0
            · simp [Array.eq_empty_of_size_eq_zero h0] at hes
            · exact h0
          have h1 := h 0 h0
          have h2 := hm.old es[0] (by simp)
          simp at h1; omega
        simp [this]
    have gen : ∀ cs : Array (Option MapEntry), 0 < cs.size → ∃ k w1, (choose (.mapNext cs.size)).run P w = .ok k w1 ∧ (∃ dr, w1 = { w with drawn := dr }) ∧ k < cs.size := by
      intro cs hpos
      rw [run_choose]
      by_cases hf : (Question.mapNext cs.size).forced = true
      · rw [if_pos hf]; exact ⟨0, w, rfl, ⟨w.drawn, rfl⟩, hpos⟩
      · rw [if_neg hf]; exact ⟨_, _, rfl, ⟨_, rfl⟩, Nat.mod_lt _ hpos⟩
    have hrun := gen ((if left.isEmpty then (#[none] : Array (Option MapEntry)) else #[]) ++ left.map some) (by
      cases hl : left.isEmpty with
      | true => simp; omega
      | false =>
        rcases Nat.eq_zero_or_pos left.size with h0 | h0
        · simp [Array.eq_empty_of_size_eq_zero h0] at hl
        · simp; omega)
    obtain ⟨k, w1, hch, ⟨dr, rfl⟩, hklt⟩ := hrun
    have hh1 := hh.drew dr
    have hnx : (Instr.next (.pointer (some ⟨c, 0, none⟩)) false ty).run P w = (match ((if left.isEmpty then (#[none] : Array (Option MapEntry)) else #[]) ++ left.map some)[k]? with
        | some (some e) => (do setObj c (.mapIter (some b) clock (seen.push e.born) clock); Pure.pure (.tuple #[.bool true, e.key, e.val]) : Sem Value)
        | some none => (Pure.pure (.tuple #[.bool false]) : Sem Value)
        | none => (stuck "Next: no such candidate" : Sem Value)).run P { w with drawn := dr } := by
      simp only [Instr.next, Sem.run_bind, hgi, Result.andThen_ok, run_getMap hbm]
      rw [if_neg (by rw [hall]; simp)]
      simp only [Sem.run_bind, Sem.run_pure, Result.andThen_ok]
      have e1 : ((es.filter fun e : MapEntry => !seen.contains e.born).filter fun x : MapEntry => decide (x.born < clock)) = left := hold
      have e2 : ((es.filter fun e : MapEntry => !seen.contains e.born).filter fun x : MapEntry => decide (x.born ≥ clock)) = #[] := hnew
      simp only [e1, e2, Array.append_empty]
      rw [hch]
      rfl
    simp only [execOp, hk.ev hx, Sem.run_bind, hnx]
    cases hl : left.isEmpty with
    | true =>
      have hle : left = #[] := by simpa using hl
      have hk0 : k = 0 := by simp [hle] at hklt; omega
      subst hk0
      simp only [hle, Array.isEmpty_empty, if_true, Array.map_empty, Array.append_empty, List.getElem?_toArray, List.getElem?_cons_zero, Sem.run_pure, Result.andThen_ok, Oper.uponIn]
      refine hover (fun p hp => ?_) _ _ (hk.put (Nat.le_of_ble_eq_true hn) _) hh1
      obtain ⟨j, hj⟩ := List.mem_iff_getElem?.1 hp
      have h2 := congrArg (fun l : List Value => l[j]?) hm.keys
      simp only [List.getElem?_map, hj, Option.map_some] at h2
      cases hej : es.toList[j]? with
      | none => simp [hej] at h2
      | some e =>
        refine (hit j e p hej hj).1 ?_
        have : e ∈ es := by have := List.mem_of_getElem? hej; simpa using this
        by_cases hs : e.born ∈ seen.toList
        · exact hs
        · exfalso
          have : e ∈ left := by
            simp only [left, Array.mem_filter]
            refine ⟨this, ?_⟩
            have : e.born ∉ seen := by simpa using hs
            simp [this]
          rw [hle] at this; simp at this
    | false =>
      have hkl : k < left.size := by simp [hl] at hklt; exact hklt
      have hget : ((#[] : Array (Option MapEntry)) ++ left.map some)[k]? = some (some left[k]) := by simp [hkl]
      simp only [hl, Bool.false_eq_true, if_false, hget]
      have hmem : left[k] ∈ left := Array.getElem_mem hkl
      obtain ⟨hes, hns⟩ := Array.mem_filter.1 hmem
      generalize left[k] = e at hes hns
      have hsl : e.born ∉ seen.toList := by
        have : e.born ∉ seen := by simpa using hns
        simpa using this
      have hesl : e ∈ es.toList := by simpa using hes
      obtain ⟨j, hj⟩ := List.mem_iff_getElem?.1 hesl
      have hmj : ∃ p, m[j]? = some p ∧ e.key = K p.1 ∧ e.val = V p.2 := by
        have h2 := congrArg (fun l : List Value => l[j]?) hm.keys
        have h3 := congrArg (fun l : List Value => l[j]?) hm.vals
        simp only [List.getElem?_map, hj, Option.map_some] at h2 h3
        cases hmj : m[j]? with
        | none => simp [hmj] at h2
        | some p => simp [hmj] at h2 h3; exact ⟨p, rfl, h2, h3⟩
      obtain ⟨p, hp, hkey, hval⟩ := hmj
      have hci1 := hh1.inMem (List.mem_of_getElem? hi)
      simp only [Sem.run_bind, run_setB _ hci1 (.inr ⟨_, _, _, _, rfl⟩), Result.andThen_ok, Sem.run_pure, Oper.uponIn, hkey, hval]
      refine hstep p (seen.push e.born) (List.mem_of_getElem? hp) (fun hd => hsl ((hit j e p hj hp).2 hd)) (ItOk.step hm hit hj hp) ⟨e, hesl, by simp, hkey, hval⟩ _ _ (hk.put (Nat.le_of_ble_eq_true hn) _) (hh1.turnI hi _)

/-- The entry to which the last step led. -/
theorem TL.entry (hF : Open F) {α β : Type} {K : α → Value} {V : β → Value} {m : List (α × β)} {es : Array MapEntry} {clock b c : Nat} {seen : Array Nat} {p : α × β} {x : Operand} (hx : ev σ x = some (.pointer (some ⟨c, 0, none⟩)))
    (hi : [(c, .mapIter (some b) clock seen clock)] ∈ η) (hb : [(b, .map es clock)] ∈ η) (hm : MObj K V m es clock) (he : ∃ e ∈ es.toList, seen.back? = some e.born ∧ e.key = K p.1 ∧ e.val = V p.2) (hn : Nat.blt d n = true)
    (h : TL F P S w0 n ops Q rest ds ((d, .tuple #[K p.1, V p.2]) :: σ) η) : TL F P S w0 n ops Q (⟨some d, .entry x, ty, pos, af, none⟩ :: rest) ds σ η :=
  TL.pure hF (by intro c; simp) hn (fun a w hk hh => by
    obtain ⟨e, hes, hback, hkey, hval⟩ := he
    have hgi : (getObj c).run P w = .ok (.mapIter (some b) clock seen clock) w := by simp [getObj, Sem.run, hh.inMem hi]
    have hfind : es.find? (fun x => x.born == e.born) = some e := by
      rw [← Array.find?_toList]
      have hn := hm.born
      revert hn hes
      generalize es.toList = l
      intro hes hn
      induction l with
      | nil => simp at hes
      | cons x r ih =>
        simp only [List.map_cons, List.nodup_cons] at hn
        rcases List.mem_cons.1 hes with rfl | h
        · simp
        · have : x.born ≠ e.born := fun e1 => hn.1 (by rw [e1]; exact List.mem_map.2 ⟨e, h, rfl⟩)
          simp [this, ih h hn.2]
    simp [execOp, Instr.entry, hk.ev hx, hgi, hback, run_getMap (hh.inMem hb), hfind, hkey, hval]) h

/-! Arrays in memory -/
theorem TL.indexAddrA (hF : Open F) {t e : TypeId} {len : Nat} [Und P t (.array len e)] {z : Value} {sz bt : Nat} [Inf P e z sz bt] {x y : Operand} {b o : Nat} {k : IntKind} {i : Int} (hx : ev σ x = some (.pointer (some ⟨b, o, none⟩))) (hy : ev σ y = some (.int k i))
    (h0 : 0 ≤ i) (hl : i < len) (hn : Nat.blt d n = true) (h : TL F P S w0 n ops Q rest ds ((d, .pointer (some ⟨b, o + i.toNat * sz, none⟩)) :: σ) η) : TL F P S w0 n ops Q (⟨some d, .indexAddr t x y, ty, pos, af, none⟩ :: rest) ds σ η := by
  refine TL.pure hF (by intro c; simp) hn (fun a w hk _ => ?_) h
  have hadd : (⟨b, o, none⟩ : Addr).add (i.toNat * sz) = ⟨b, o + i.toNat * sz, none⟩ := by
    unfold Addr.add; split
    · rename_i h; simp [h]
    · rfl
  simp [execOp, hk.ev hx, hk.ev hy, Instr.indexAt, asIntOf, Instr.sureAddr, run_underlying (t := t) (d := .array len e), run_sizeOf (t := e) (z := z) (sz := sz) (bt := bt), h0, hl, hadd]

/-- A call that hands back a known value, and turns nothing. -/
theorem TL.callV (hF : Open F) {f : Operand} {args : Array Operand} {ats : Array TypeId} {g : FuncId} {al : List Value} [Ent P g] {r : Value}
    (hc : Rt P g al.toArray S w0 η (fun v η' => v = r ∧ η' = η)) (ha : callOf σ f args = some (g, al)) (hn : Nat.blt d n = true) (h : TL F P S w0 n ops Q rest ds ((d, r) :: σ) η) :
    TL F P S w0 n ops Q (⟨some d, .call ⟨.value f, args, ats⟩, ty, pos, af, none⟩ :: rest) ds σ η :=
  TL.call hF hc ha hn (fun v η' hr => by obtain ⟨rfl, rfl⟩ := hr; exact h)

/-- A guarded operation whose guard is itself passed over. -/
theorem TL.offU (hF : Open F) {op : Op} {j : Nat} {want : Bool} {oj : Oper} {dj : Nat} (hj : ops[j]? = some oj) (hdj : oj.dst = some dj) (hv : lk σ dj = some undef)
    (hn : Nat.blt d n = true) (h : TL F P S w0 n ops Q rest ds ((d, undef) :: σ) η) : TL F P S w0 n ops Q (⟨some d, op, ty, pos, af, some (j, want)⟩ :: rest) ds σ η := fun a w hk hh => by
  have hy : yielded ops a.tmps j = none := by
    simp [yielded, hj, hdj, hk.slot dj _ hv, undef]
  have hne : ((none : Option Bool) == some want) = false := rfl
  simp only [wpListIn, Region.wanted, hy, hne, Bool.false_eq_true, if_false]
  exact ⟨fun f _ => hF.fn f, h _ _ (hk.put (Nat.le_of_ble_eq_true hn) undef) hh⟩
theorem TL.offUN (hF : Open F) {op : Op} {j : Nat} {want : Bool} {oj : Oper} {dj : Nat} (hj : ops[j]? = some oj) (hdj : oj.dst = some dj) (hv : lk σ dj = some undef)
    (h : TL F P S w0 n ops Q rest ds σ η) : TL F P S w0 n ops Q (⟨none, op, ty, pos, af, some (j, want)⟩ :: rest) ds σ η := fun a w hk hh => by
  have hy : yielded ops a.tmps j = none := by
    simp [yielded, hj, hdj, hk.slot dj _ hv, undef]
  have hne : ((none : Option Bool) == some want) = false := rfl
  simp only [wpListIn, Region.wanted, hy, hne, Bool.false_eq_true, if_false]
  exact ⟨fun f _ => hF.fn f, h _ _ hk hh⟩

/-- 'DR.step', the values as a plain list. -/
theorem DR.stepV {l : List Oper} {vals : List Value} {v : Value} (vs : List Value) (hv : vs = vals ++ [v]) (env : List (Nat × Value × Option Nat)) {o : Oper} {d : Nat} (ho : l[vals.length]? = some o) (hd : o.dst = some d) (he : EnvOk l σ vals vals.length env)
    (hop : ∀ ext : Env, TL F P S w0 n l.toArray (Fin S w0 n ds η ((d, v) :: (envs env ++ ext))) [o] ds (envs env ++ ext) η) (h : DR F P S w0 n l ds σ η Q vs) : DR F P S w0 n l ds σ η Q vals := by
  subst hv; exact DR.step env ho hd he hop h

/-- Room for a block that is not there yet. -/
theorem T.hnil {c : Code} (h : T F P S w0 n Q c ds σ ([] :: η)) : T F P S w0 n Q c ds σ η := fun a w hk hh => h a w hk (hh.sub (by simp) (by simpa using hh.once))
theorem TL.hnil {l : List Oper} (h : TL F P S w0 n ops Q l ds σ ([] :: η)) : TL F P S w0 n ops Q l ds σ η := fun a w hk hh => h a w hk (hh.sub (by simp) (by simpa using hh.once))
theorem TQ.hnil {K : Act → World → Prop} (h : TQ S w0 n K ds σ ([] :: η)) : TQ S w0 n K ds σ η := fun a w hk hh => h a w hk (hh.sub (by simp) (by simpa using hh.once))

theorem upc {s : Seg} : ∀ x ∈ η, x ∈ s :: η := fun _ h => List.mem_cons_of_mem _ h
theorem upa {s : Heap} : ∀ x ∈ η, x ∈ s ++ η := fun _ h => List.mem_append_right _ h
theorem upl {s : Heap} : ∀ x ∈ η, x ∈ η ++ s := fun _ h => List.mem_append_left _ h

theorem TL.max2 (hF : Open F) {x y : Operand} {ats : Array TypeId} {k k' : IntKind} {i j : Int} (hx : ev σ x = some (.int k i)) (hy : ev σ y = some (.int k' j)) (hn : Nat.blt d n = true)
    (h : TL F P S w0 n ops Q rest ds ((d, .int k (max i j)) :: σ) η) : TL F P S w0 n ops Q (⟨some d, .call ⟨.builtin .max, #[x, y], ats⟩, ty, pos, af, none⟩ :: rest) ds σ η :=
  TL.pure hF (by intro c; simp) hn (fun a w hk _ => by
    have e : (if j > i then j else i) = max i j := by rw [Int.max_def]; split <;> split <;> omega
    have e2 : (Builtin.max_ ats ty #[.int k i, .int k' j]).run P w = .ok (.int k (max i j)) w := by rw [← e]; rfl
    simp [execOp, resolve, Go.invoke, Go.builtin, hk.ev hx, hk.ev hy, e2]) h
theorem TL.min2 (hF : Open F) {x y : Operand} {ats : Array TypeId} {k k' : IntKind} {i j : Int} (hx : ev σ x = some (.int k i)) (hy : ev σ y = some (.int k' j)) (hn : Nat.blt d n = true)
    (h : TL F P S w0 n ops Q rest ds ((d, .int k (min i j)) :: σ) η) : TL F P S w0 n ops Q (⟨some d, .call ⟨.builtin .min, #[x, y], ats⟩, ty, pos, af, none⟩ :: rest) ds σ η :=
  TL.pure hF (by intro c; simp) hn (fun a w hk _ => by
    have e : (if j < i then j else i) = min i j := by rw [Int.min_def]; split <;> split <;> omega
    have e2 : (Builtin.min_ ats ty #[.int k i, .int k' j]).run P w = .ok (.int k (min i j)) w := by rw [← e]; rfl
    simp [execOp, resolve, Go.invoke, Go.builtin, hk.ev hx, hk.ev hy, e2]) h

end
end Go.Sl
