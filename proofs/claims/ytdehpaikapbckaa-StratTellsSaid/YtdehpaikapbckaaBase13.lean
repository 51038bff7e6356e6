/- Regions that draw their order, in which some operations write: pure ones are told once, heavy ones in each order that may come. -/
import Derived.Test.YtdehpaikapbckaaBase12
namespace Go.Sl

/-- What is known of the operations: place, value, kind (0: pure; 1: reads the heap; 2: carried out). -/
abbrev VL := List (Nat × Value × Nat)
def vget : VL → Nat → Option Value
  | [], _ => none
  | (i, v, _) :: r, j => bif Nat.beq i j then some v else vget r j
def execV (V : VL) : VL := V.map fun x => (x.1, x.2.1, bif Nat.beq x.2.2 1 then 2 else x.2.2)
theorem vget_cons (i : Nat) (v : Value) (k : Nat) (r : VL) (j : Nat) : vget ((i, v, k) :: r) j = if i = j then some v else vget r j := by
  simp only [vget]
  by_cases h : i = j
  · subst h; simp
  · have : Nat.beq i j = false := by
      cases hb : Nat.beq i j
      · rfl
      · exact absurd (Nat.eq_of_beq_eq_true hb) h
    simp [this, h]
theorem vget_exec : ∀ (V : VL) (j : Nat), vget (execV V) j = vget V j
  | [], _ => rfl
  | (i, v, k) :: r, j => by
    have := vget_exec r j
    show vget ((i, v, _) :: execV r) j = _
    rw [vget_cons, vget_cons, this]
theorem vget_mem : ∀ {V : VL} {j : Nat} {v : Value}, vget V j = some v → ∃ k, (j, v, k) ∈ V
  | (i, u, k) :: r, j, v, h => by
    rw [vget_cons] at h
    by_cases hij : i = j
    · rw [if_pos hij] at h; cases h; subst hij; exact ⟨k, List.mem_cons_self⟩
    · rw [if_neg hij] at h; obtain ⟨k', hk⟩ := vget_mem h; exact ⟨k', List.mem_cons_of_mem _ hk⟩
theorem mem_vget : ∀ {V : VL}, (V.map (·.1)).Nodup → ∀ {j : Nat} {v : Value} {k : Nat}, (j, v, k) ∈ V → vget V j = some v
  | (i, u, k0) :: r, hn, j, v, k, h => by
    simp only [List.map_cons, List.nodup_cons] at hn
    rw [vget_cons]
    rcases List.mem_cons.1 h with h | h
    · cases h; simp
    · have : i ≠ j := fun e => hn.1 (by rw [e]; exact List.mem_map.2 ⟨_, h, rfl⟩)
      rw [if_neg this]; exact mem_vget hn.2 h
def EnvOkV (l : List Oper) (σ : Env) (V : VL) (i : Nat) : List (Nat × Value × Option Nat) → Prop
  | [] => True
  | (t, v, some j) :: r => (waits l i j = true ∧ dstOf l j = some t ∧ vget V j = some v) ∧ EnvOkV l σ V i r
  | (t, v, none) :: r => (lk σ t = some v ∧ clean l i t = true) ∧ EnvOkV l σ V i r
theorem EnvOkV.ext {l : List Oper} {σ : Env} {V V' : VL} {i : Nat} (h : ∀ j v, vget V j = some v → vget V' j = some v) : ∀ {env : List (Nat × Value × Option Nat)}, EnvOkV l σ V i env → EnvOkV l σ V' i env
  | [], _ => trivial
  | (t, u, some j) :: r, he => ⟨⟨he.1.1, he.1.2.1, h j u he.1.2.2⟩, EnvOkV.ext h he.2⟩
  | (t, u, none) :: r, he => ⟨he.1, EnvOkV.ext h he.2⟩
def complete (l : List Oper) (m : Nat) (V : VL) (hs : List Nat) : Bool := (List.range m).all fun i => (vget V i).isSome || hs.any (Nat.beq i) || (List.range l.length).any fun j => (vget V j).isNone && (waits l i j || waitsT l l.length i j)
def readersOk (l : List Oper) (V : VL) (h : Nat) : Bool := V.all fun x => !Nat.beq x.2.2 1 || (waits l h x.1 || waitsT l l.length h x.1)
def allEnvV (l : List Oper) (V : VL) (σ : Env) : Env := (V.filterMap fun x => (dstOf l x.1).map fun d => (d, x.2.1)) ++ σ
def dstsOk (l : List Oper) (m : Nat) : Bool := Nat.ble m l.length && distinct ((List.range m).map (dstOf l))

section
variable {F : Fence} {P : Program} {S : Nat → Prop} {w0 w : World} {n : Nat} {Q : Exit → Act → World → Prop} {l : List Oper} {ds : List Deferred} {σ : Env} {η : Heap}
structure InvD (S : Nat → Prop) (w0 : World) (n : Nat) (l : List Oper) (ds : List Deferred) (σ : Env) (V : VL) (η : Heap) (L : Array Bool) (a : Act) (w : World) : Prop where
  size : L.size = l.length
  dom : ∀ i, L[i]? = some true → (vget V i).isSome = true
  done : ∀ i v, (i, v, 2) ∈ V → L[i]? = some true
  down : ∀ k j, waits l k j = true → L[k]? = some true → L[j]? = some true
  tsize : a.tmps.size = n
  defers : a.defers = ds
  old : ∀ t v, lk σ t = some v → (∀ k, L[k]? = some true → dstOf l k ≠ some t) → a.tmps[t]? = some v
  new : ∀ i v d, L[i]? = some true → vget V i = some v → dstOf l i = some d → a.tmps[d]? = some v
  hp : Hp S w0 η w
def QSV (F : Fence) (P : Program) (S : Nat → Prop) (w0 : World) (n : Nat) (l : List Oper) (ds : List Deferred) (σ : Env) (V : VL) (η : Heap) (i : Nat) (v : Value) : Prop :=
  ∃ o d env, l[i]? = some o ∧ o.dst = some d ∧ EnvOkV l σ V i env ∧ ∀ ext : Env, TL F P S w0 n l.toArray (Fin S w0 n ds η ((d, v) :: (envs env ++ ext))) [o] ds (envs env ++ ext) η
theorem QSV.ext {V V' : VL} {i : Nat} {v : Value} (h : ∀ j v, vget V j = some v → vget V' j = some v) (hq : QSV F P S w0 n l ds σ V η i v) : QSV F P S w0 n l ds σ V' η i v := by
  obtain ⟨o, d, env, h1, h2, h3, h4⟩ := hq
  exact ⟨o, d, env, h1, h2, h3.ext h, h4⟩
def DH (F : Fence) (P : Program) (S : Nat → Prop) (w0 : World) (n : Nat) (l : List Oper) (ds : List Deferred) (σ : Env) (Q : Exit → Act → World → Prop) (m : Nat) (V : VL) (η : Heap) : Prop :=
  (V.map (·.1)).Nodup → (∀ i v, (i, v, 0) ∈ V → ∀ η', QSV F P S w0 n l ds σ V η' i v) → (∀ i v, (i, v, 1) ∈ V → QSV F P S w0 n l ds σ V η i v) → (∀ i v k, (i, v, k) ∈ V → i < m ∧ (k = 0 ∨ k = 1 ∨ k = 2)) →
    ∀ f L a w, L.toList.countP (· == false) = f → InvD S w0 n l ds σ V η L a w → wpAnyIn F 0 P .any l.toArray Q f L a w

variable {m : Nat} {V : VL}
theorem DH.quiet {k0 i : Nat} {v : Value} (hk0 : k0 = 0 ∨ k0 = 1) (him : Nat.blt i m = true) (hnew : vget V i = none) (hq0 : k0 = 0 → ∀ η', QSV F P S w0 n l ds σ V η' i v) (hq1 : k0 = 1 → QSV F P S w0 n l ds σ V η i v) (h : DH F P S w0 n l ds σ Q m ((i, v, k0) :: V) η) : DH F P S w0 n l ds σ Q m V η := by
  intro hn h0 h1 hk f L a w hc hi
  have hext : ∀ j u, vget V j = some u → vget ((i, v, k0) :: V) j = some u := by
    intro j u hj
    rw [vget_cons]
    by_cases e : i = j
    · subst e; rw [hnew] at hj; cases hj
    · rw [if_neg e]; exact hj
  have hni : i ∉ V.map (·.1) := by
    intro hm
    obtain ⟨⟨j, u, k⟩, hx, he⟩ := List.mem_map.1 hm
    simp only at he; subst he
    have := mem_vget hn hx
    rw [hnew] at this; cases this
  refine h (List.nodup_cons.2 ⟨hni, hn⟩) ?_ ?_ ?_ f L a w hc ⟨hi.size, ?_, ?_, hi.down, hi.tsize, hi.defers, hi.old, ?_, hi.hp⟩
  · intro j u hm η'
    rcases List.mem_cons.1 hm with e | hm
    · cases e; exact (hq0 rfl η').ext hext
    · exact (h0 j u hm η').ext hext
  · intro j u hm
    rcases List.mem_cons.1 hm with e | hm
    · cases e; exact (hq1 rfl).ext hext
    · exact (h1 j u hm).ext hext
  · intro j u k hm
    rcases List.mem_cons.1 hm with e | hm
    · cases e; exact ⟨Nat.le_of_ble_eq_true him, by rcases hk0 with h | h <;> simp [h]⟩
    · exact hk j u k hm
  · intro j hj
    have := hi.dom j hj
    cases hv : vget V j with
    | none => simp [hv] at this
    | some u => rw [hext j u hv]; rfl
  · intro j u hm
    rcases List.mem_cons.1 hm with e | hm
    · cases e; rcases hk0 with h | h <;> cases h
    · exact hi.done j u hm
  · intro j u d hj hv hd
    rw [vget_cons] at hv
    by_cases e : i = j
    · subst e
      have := hi.dom i hj
      rw [hnew] at this; simp at this
    · rw [if_neg e] at hv; exact hi.new j u d hj hv hd
/-- A pure operation. -/
theorem DH.pure {i : Nat} {v : Value} (env : List (Nat × Value × Option Nat)) {o : Oper} {d : Nat} (ho : l[i]? = some o) (hd : o.dst = some d) (him : Nat.blt i m = true) (hnew : vget V i = none) (he : EnvOkV l σ V i env)
    (hop : ∀ (η : Heap) (ext : Env), TL F P S w0 n l.toArray (Fin S w0 n ds η ((d, v) :: (envs env ++ ext))) [o] ds (envs env ++ ext) η) (h : DH F P S w0 n l ds σ Q m ((i, v, 0) :: V) η) : DH F P S w0 n l ds σ Q m V η :=
  DH.quiet (.inl rfl) him hnew (fun _ η' => ⟨o, d, env, ho, hd, he, hop η'⟩) (fun e => by cases e) h
/-- An operation that reads the heap. -/
theorem DH.read {i : Nat} {v : Value} (env : List (Nat × Value × Option Nat)) {o : Oper} {d : Nat} (ho : l[i]? = some o) (hd : o.dst = some d) (him : Nat.blt i m = true) (hnew : vget V i = none) (he : EnvOkV l σ V i env)
    (hop : ∀ ext : Env, TL F P S w0 n l.toArray (Fin S w0 n ds η ((d, v) :: (envs env ++ ext))) [o] ds (envs env ++ ext) η) (h : DH F P S w0 n l ds σ Q m ((i, v, 1) :: V) η) : DH F P S w0 n l ds σ Q m V η :=
  DH.quiet (.inr rfl) him hnew (fun e => by cases e) (fun _ => ⟨o, d, env, ho, hd, he, hop⟩) h

/-- What is asked behind a heavy operation. -/
def QB (F : Fence) (P : Program) (S : Nat → Prop) (w0 : World) (n : Nat) (l : List Oper) (ds : List Deferred) (σ : Env) (Q : Exit → Act → World → Prop) (m : Nat) (V : VL) (h d : Nat) (σ' : Env) : Exit → Act → World → Prop
  | .normal, a, w => ∃ v η', Kn n ds ((d, v) :: σ') a ∧ Hp S w0 η' w ∧ DH F P S w0 n l ds σ Q m ((h, v, 2) :: execV V) η'
  | e, a, w => Q e a w
theorem TL.finD {h d : Nat} {σ' : Env} {v : Value} {ops : Array Oper} (hd : DH F P S w0 n l ds σ Q m ((h, v, 2) :: execV V) η) : TL F P S w0 n ops (QB F P S w0 n l ds σ Q m V h d σ') [] ds ((d, v) :: σ') η := TL.nil fun _ _ hk hh => ⟨v, η, hk, hh, hd⟩
/-- A heavy operation that may come next. -/
def HB (F : Fence) (P : Program) (S : Nat → Prop) (w0 : World) (n : Nat) (l : List Oper) (ds : List Deferred) (σ : Env) (Q : Exit → Act → World → Prop) (m : Nat) (V : VL) (η : Heap) (h : Nat) : Prop :=
  ∃ o d env, l[h]? = some o ∧ o.dst = some d ∧ Nat.blt h m = true ∧ vget V h = none ∧ EnvOkV l σ V h env ∧ readersOk l V h = true ∧ ∀ ext : Env, TL F P S w0 n l.toArray (QB F P S w0 n l ds σ Q m V h d (envs env ++ ext)) [o] ds (envs env ++ ext) η

theorem InvD.env {L : Array Bool} {a : Act} (hi : InvD S w0 n l ds σ V η L a w) {i : Nat} (hL : L[i]? = some false) (hready : ∀ j, waits l i j = true → L[j]? = some true) :
    ∀ {env : List (Nat × Value × Option Nat)}, EnvOkV l σ V i env → ∀ t v, lk (envs env) t = some v → a.tmps[t]? = some v
  | [], _, t, v, h => by simp [envs, lk] at h
  | (s, u, some j) :: r, he, t, v, h => by
    simp only [envs] at h
    rw [lk_cons] at h
    by_cases hst : s = t
    · rw [if_pos hst] at h
      cases h; subst hst
      exact hi.new j u s (hready j he.1.1) he.1.2.2 he.1.2.1
    · rw [if_neg hst] at h
      exact InvD.env hi hL hready he.2 t v h
  | (s, u, none) :: r, he, t, v, h => by
    simp only [envs] at h
    rw [lk_cons] at h
    by_cases hst : s = t
    · rw [if_pos hst] at h
      cases h; subst hst
      refine hi.old s u he.1.1 fun k hk1 hk2 => ?_
      have hc := he.1.2
      simp only [clean, List.all_eq_true, List.mem_range, Bool.or_eq_true] at hc
      have hkl : k < l.length := by have := (Array.getElem?_eq_some_iff.1 hk1).1; rw [hi.size] at this; exact this
      rcases hc k hkl with (h1 | h1 | h1) | h1
      · rw [hk2] at h1; simp at h1
      · have := hi.down k i h1 hk1
        rw [hL] at this; cases this
      · have := waitsT_done hi.down _ k i (fun i' hi' => hi.down k i' hi' hk1) h1
        rw [hL] at this; cases this
      · have : k = i := Nat.eq_of_beq_eq_true h1
        subst this
        rw [hL] at hk1; cases hk1
    · rw [if_neg hst] at h
      exact InvD.env hi hL hready he.2 t v h

/-- One operation has been carried out. -/
theorem InvD.put {V' : VL} {η' : Heap} {L : Array Bool} {a a' : Act} {w' : World} (hi : InvD S w0 n l ds σ V η L a w) (hq : dstsOk l m = true) {i d : Nat} {v : Value} (him : i < m) (hL : L[i]? = some false) (hready : ∀ j, waits l i j = true → L[j]? = some true)
    (hV : ∀ j u, vget V j = some u → vget V' j = some u) (hV' : ∀ j u, j ≠ i → vget V' j = some u → vget V j = some u) (hvi : vget V' i = some v) (hdom : ∀ j, (vget V j).isSome = true → j < m) (hdi : dstOf l i = some d)
    (hdone : ∀ j u, (j, u, 2) ∈ V' → j = i ∨ L[j]? = some true)
    (hs : a'.tmps.size = n) (hds : a'.defers = ds) (hd : a'.tmps[d]? = some v) (ho : ∀ t u, t ≠ d → a.tmps[t]? = some u → a'.tmps[t]? = some u) (hh : Hp S w0 η' w') : InvD S w0 n l ds σ V' η' (L.setIfInBounds i true) a' w' := by
  have hil := (Array.getElem?_eq_some_iff.1 hL).1
  have hset : ∀ k, (L.setIfInBounds i true)[k]? = some true ↔ k = i ∨ L[k]? = some true := by
    intro k
    rw [Array.getElem?_setIfInBounds]
    by_cases e : i = k
    · subst e; simp [hil]
    · rw [if_neg e]
      constructor
      · exact .inr
      · rintro (h | h)
        · exact absurd h.symm e
        · exact h
  have hq' : quietOk l m = true := hq
  refine ⟨by simp [hi.size], ?_, ?_, ?_, hs, hds, ?_, ?_, hh⟩
  · intro k hk
    rcases (hset k).1 hk with e | hk
    · subst e; rw [hvi]; rfl
    · have := hi.dom k hk
      cases hv : vget V k with
      | none => simp [hv] at this
      | some u => rw [hV k u hv]; rfl
  · intro j u hj
    rcases hdone j u hj with e | h
    · exact (hset j).2 (.inl e)
    · exact (hset j).2 (.inr h)
  · intro k j hw hk
    rcases (hset k).1 hk with e | hk
    · subst e; exact (hset j).2 (.inr (hready j hw))
    · exact (hset j).2 (.inr (hi.down k j hw hk))
  · intro t u ht hno
    have hne : t ≠ d := fun e => hno i ((hset i).2 (.inl rfl)) (by rw [hdi, e])
    exact ho t u hne (hi.old t u ht fun k hk => hno k ((hset k).2 (.inr hk)))
  · intro j u d' hj hv hd'
    rcases (hset j).1 hj with e | hj2
    · subst e
      rw [hvi] at hv; cases hv
      rw [hdi] at hd'; cases hd'
      exact hd
    · have hji : j ≠ i := fun e => by subst e; rw [hL] at hj2; cases hj2
      refine ho d' u (fun e => ?_) (hi.new j u d' hj2 (hV' j u hji hv) hd')
      subst e
      exact hji (dst_ne hq' (hdom j (hi.dom j hj2)) him hd' hdi)

/-- An operation that is carried out from here. -/
theorem run_one {L : Array Bool} {a : Act} {i d : Nat} {o : Oper} {env : List (Nat × Value × Option Nat)} {QO : Env → Exit → Act → World → Prop} (hi : InvD S w0 n l ds σ V η L a w) (hL : L[i]? = some false) (hready : ∀ j, waits l i j = true → L[j]? = some true) (ho : l[i]? = some o) (henv : EnvOkV l σ V i env)
    (hop : ∀ ext : Env, TL F P S w0 n l.toArray (QO (envs env ++ ext)) [o] ds (envs env ++ ext) η) :
    wpOpIn F 0 P l.toArray (QO (envs env ++ fullEnv a)) i (fun a' w' => QO (envs env ++ fullEnv a) .normal a' w') a w ∧ (∀ v a', Kn n ds ((d, v) :: (envs env ++ fullEnv a)) a' → a'.tmps[d]? = some v ∧ ∀ t u, t ≠ d → a.tmps[t]? = some u → a'.tmps[t]? = some u) := by
  have hke : ∀ t v, lk (envs env) t = some v → a.tmps[t]? = some v := hi.env hL hready henv
  have hkn : Kn n ds (envs env ++ fullEnv a) a := ⟨hi.tsize, hi.defers, fun t v htv => by
    rcases lk_append htv with h5 | ⟨_, h5⟩
    · exact hke t v h5
    · exact lk_full a t v h5⟩
  have h6 := hop (fullEnv a) a w hkn hi.hp
  rw [wpListIn_one (i := i) (by simp [ho])] at h6
  refine ⟨wpOpIn_mono (fun a' w' hx => hx) h6, fun v a' hk' => ⟨hk'.slot d _ (by rw [lk_cons, if_pos rfl]), fun t u hne htu => ?_⟩⟩
  refine hk'.slot t u ?_
  rw [lk_cons, if_neg (Ne.symm hne)]
  have hfull : lk (fullEnv a) t = some u := by
    have := lk_full' a.tmps.toList 0 t u (by simpa using htu)
    simpa [fullEnv] using this
  have happ : ∀ (e1 : Env), (∀ v, lk e1 t = some v → v = u) → lk (e1 ++ fullEnv a) t = some u := by
    intro e1
    induction e1 with
    | nil => intro _; exact hfull
    | cons p r ihr =>
      obtain ⟨s, v⟩ := p
      intro hv
      rw [List.cons_append, lk_cons]
      by_cases hst : s = t
      · rw [if_pos hst, hv v (by rw [lk_cons, if_pos hst])]
      · rw [if_neg hst]; exact ihr fun v' hv' => hv v' (by rw [lk_cons, if_neg hst]; exact hv')
  exact happ _ fun v hv => by
    have := hke t v hv
    rw [htu] at this; cases this; rfl

/-- A node: the heavy operations that may come next; at a leaf the tail. -/
theorem DH.node (hs : List Nat) (hd : dagOk l = true) (ht : tailOk l m = true) (hq : dstsOk l m = true) (hcomp : complete l m V hs = true) (hbr : ∀ h ∈ hs, HB F P S w0 n l ds σ Q m V η h)
    (hleaf : (∀ i, i < m → (vget V i).isSome = true) → TL F P S w0 n l.toArray Q (l.drop m) ds (allEnvV l V σ) η) : DH F P S w0 n l ds σ Q m V η := by
  intro hn h0 h1 hk
  have hml : m ≤ l.length := by
    simp only [dstsOk, Bool.and_eq_true] at hq
    exact Nat.le_of_ble_eq_true hq.1
  have hdom : ∀ j, (vget V j).isSome = true → j < m := by
    intro j hj
    cases hv : vget V j with
    | none => simp [hv] at hj
    | some u => obtain ⟨k, hm⟩ := vget_mem hv; exact (hk j u k hm).1
  have last : ∀ (f : Nat) (L : Array Bool) (a : Act) (w : World), L.toList.countP (· == false) = f → InvD S w0 n l ds σ V η L a w → (∀ k, k < m → L[k]? = some true) → wpAnyIn F 0 P .any l.toArray Q f L a w := by
    intro f L a w hc hi hall
    have hsz := hi.size
    have hLq : ∀ k, L[k]? = some true → k < m := fun k hk' => hdom k (hi.dom k hk')
    have hL : ∀ j, j < l.length → L[j]? = some (decide (j < m)) := fun j hj => by
      by_cases h1 : j < m
      · rw [hall j h1]; simp [h1]
      · have hj' : j < L.size := by omega
        have : L[j]? ≠ some true := fun e => h1 (hLq j e)
        simp only [hj', Array.getElem?_eq_getElem] at this ⊢
        cases h4 : L[j] with
        | true => rw [h4] at this; exact absurd rfl this
        | false => simp [h1]
    have hLeq : L.toList = List.replicate m true ++ List.replicate (l.length - m) false := by
      apply List.ext_getElem?
      intro j
      rw [Array.getElem?_toList]
      by_cases hj : j < l.length
      · rw [hL j hj]
        by_cases h1 : j < m
        · rw [List.getElem?_append_left (by simpa using h1)]; simp [h1]
        · rw [List.getElem?_append_right (by simpa using h1)]
          rw [List.getElem?_replicate, List.length_replicate, if_pos (by omega)]
          simp [h1]
      · rw [Array.getElem?_eq_none (by omega), List.getElem?_eq_none (by simp; omega)]
    have hf : m + f = l.length := by
      rw [hLeq] at hc
      simp [List.countP_append, List.countP_replicate] at hc
      omega
    refine any_tail hd ht f m L a w hf (Nat.le_refl _) hsz hL (hleaf (fun i him => hi.dom i (hall i him)) a w ⟨hi.tsize, hi.defers, fun t v htv => ?_⟩ hi.hp)
    have hmem : ∀ t v, (t, v) ∈ (V.filterMap fun x => (dstOf l x.1).map fun d => (d, x.2.1)) → ∃ i, vget V i = some v ∧ dstOf l i = some t := by
      intro t v h
      obtain ⟨⟨i, u, k⟩, h1, h2⟩ := List.mem_filterMap.1 h
      simp only [Option.map_eq_some_iff, Prod.mk.injEq] at h2
      obtain ⟨d, hd, rfl, rfl⟩ := h2
      exact ⟨i, mem_vget hn h1, hd⟩
    rcases lk_append htv with h5 | ⟨h5, h6⟩
    · obtain ⟨i, h3, h4⟩ := hmem t v (lk_mem h5)
      exact hi.new i v t (hall i (hdom i (by rw [h3]; rfl))) h3 h4
    · refine hi.old t v h6 fun k hk1 hk2 => ?_
      have hkv := hi.dom k hk1
      cases hv : vget V k with
      | none => simp [hv] at hkv
      | some u =>
        obtain ⟨kk, hm⟩ := vget_mem hv
        refine lk_none h5 u (List.mem_filterMap.2 ⟨(k, u, kk), hm, by simp [hk2]⟩)
  intro f
  induction f with
  | zero =>
    intro L a w hc hi
    refine last 0 L a w hc hi (fun j hj => ?_)
    have hsz := hi.size
    have hj' : j < L.size := by omega
    rw [List.countP_eq_zero] at hc
    have := hc L[j] (by simp)
    simp at this
    simp [hj', this]
  | succ f ih =>
    intro L a w hc hi
    have hsz := hi.size
    by_cases hall : ∀ k, k < m → L[k]? = some true
    · exact last (f + 1) L a w hc hi hall
    · simp only [Classical.not_forall] at hall
      obtain ⟨j, hj, hjn⟩ := hall
      have hjL : L[j]? = some false := by
        have hj' : j < L.size := by omega
        simp only [hj', Array.getElem?_eq_getElem] at hjn ⊢
        cases h4 : L[j] with
        | true => rw [h4] at hjn; exact absurd rfl hjn
        | false => rfl
      refine ⟨fun he => by
        obtain ⟨i, hi'⟩ := ready_ex hd hsz j hjL
        rw [he] at hi'; simp at hi', fun i hir => ?_⟩
      obtain ⟨hLi, hready⟩ := mem_ready hsz hir
      have hilt := (Array.getElem?_eq_some_iff.1 hLi).1
      have him : i < m := by
        rcases Nat.lt_or_ge i m with h3 | h3
        · exact h3
        · have : L[j]? = some true := by
            simp only [tailOk, List.all_eq_true, List.mem_range, Bool.or_eq_true] at ht
            rcases ht i (by omega) with h4 | h4
            · have : i < m := Nat.le_of_ble_eq_true h4
              omega
            · rcases h4 j (by omega) with h5 | h5
              · exact hready j h5
              · exact waitsT_done hi.down _ i j hready h5
          rw [hjL] at this; cases this
      have hcnt : (L.setIfInBounds i true).toList.countP (· == false) = f := by
        rw [Array.toList_setIfInBounds, List.countP_set (by simpa using hilt)]
        have h7 : L.toList[i]'(by simpa using hilt) = false := by
          have := (Array.getElem?_eq_some_iff.1 hLi).2
          simpa using this
        rw [h7, hc]; simp
      simp only [complete, List.all_eq_true, List.mem_range, Bool.or_eq_true] at hcomp
      rcases hcomp i him with (hv | hv) | hv
      · -- a quiet one
        cases hvi : vget V i with
        | none => simp [hvi] at hv
        | some v =>
          obtain ⟨k, hmem⟩ := vget_mem hvi
          have hqs : QSV F P S w0 n l ds σ V η i v := by
            rcases (hk i v k hmem).2 with e | e | e
            · subst e; exact h0 i v hmem η
            · subst e; exact h1 i v hmem
            · subst e; have := hi.done i v hmem; rw [hLi] at this; cases this
          obtain ⟨o, d, env, ho, hod, henv, hop⟩ := hqs
          have hdi : dstOf l i = some d := by simp [dstOf, ho, hod]
          obtain ⟨hrun, hfr⟩ := run_one (d := d) (QO := fun σ' => Fin S w0 n ds η ((d, v) :: σ')) hi hLi hready ho henv hop
          refine wpOpIn_monoQ (fun a' w' hx => ?_) (fun e a' w' hne hx => by cases e <;> first | exact absurd rfl hne | exact hx.elim) hrun
          obtain ⟨hk', hh'⟩ := (show Kn n ds ((d, v) :: (envs env ++ fullEnv a)) a' ∧ Hp S w0 η w' from hx)
          exact ih _ a' w' hcnt (hi.put hq him hLi hready (fun _ _ h => h) (fun _ _ _ h => h) hvi hdom hdi (fun j u hm => .inr (hi.done j u hm)) hk'.size hk'.defers (hfr v a' hk').1 (hfr v a' hk').2 hh')
      · -- a heavy one
        have hih : i ∈ hs := by
          obtain ⟨x, hx, he⟩ := List.any_eq_true.1 hv
          have : i = x := Nat.eq_of_beq_eq_true he
          rw [this]; exact hx
        obtain ⟨o, d, env, ho, hod, _, hnew, henv, hrd, hop⟩ := hbr i hih
        have hdi : dstOf l i = some d := by simp [dstOf, ho, hod]
        obtain ⟨hrun, hfr⟩ := run_one (d := d) (QO := fun σ' => QB F P S w0 n l ds σ Q m V i d σ') hi hLi hready ho henv hop
        refine wpOpIn_monoQ (fun a' w' hx => ?_) (fun e a' w' hne hx => by cases e <;> first | exact absurd rfl hne | exact hx) hrun
        obtain ⟨v, η', hk', hh', hdh⟩ := (show ∃ v η', Kn n ds ((d, v) :: (envs env ++ fullEnv a)) a' ∧ Hp S w0 η' w' ∧ DH F P S w0 n l ds σ Q m ((i, v, 2) :: execV V) η' from hx)
        have hext : ∀ j u, vget V j = some u → vget ((i, v, 2) :: execV V) j = some u := by
          intro j u hj
          rw [vget_cons, vget_exec]
          by_cases e : i = j
          · subst e; rw [hnew] at hj; cases hj
          · rw [if_neg e]; exact hj
        have hex : ∀ j u k, (j, u, k) ∈ execV V → ∃ k0, (j, u, k0) ∈ V ∧ ((k0 = 1 ∧ k = 2) ∨ (k0 ≠ 1 ∧ k = k0)) := by
          intro j u k hm
          obtain ⟨⟨j0, u0, k0⟩, hx0, he⟩ := List.mem_map.1 hm
          simp only [Prod.mk.injEq] at he
          obtain ⟨rfl, rfl, hke⟩ := he
          refine ⟨k0, hx0, ?_⟩
          by_cases e : k0 = 1
          · subst e; left; exact ⟨rfl, hke.symm⟩
          · right
            have : Nat.beq k0 1 = false := by
              cases hb : Nat.beq k0 1
              · rfl
              · exact absurd (Nat.eq_of_beq_eq_true hb) e
            rw [this] at hke; exact ⟨e, hke.symm⟩
        have hmapf : (execV V).map (·.1) = V.map (·.1) := by simp [execV, Function.comp_def]
        refine hdh ?_ ?_ ?_ ?_ f _ a' w' hcnt (hi.put hq him hLi hready hext ?_ (by rw [vget_cons, if_pos rfl]) hdom hdi ?_ hk'.size hk'.defers (hfr v a' hk').1 (hfr v a' hk').2 hh')
        · rw [List.map_cons, hmapf]
          refine List.nodup_cons.2 ⟨fun hm => ?_, hn⟩
          obtain ⟨⟨j0, u0, k0⟩, hx0, he⟩ := List.mem_map.1 hm
          simp only at he; subst he
          have := mem_vget hn hx0
          rw [hnew] at this; cases this
        · intro j u hm η2
          rcases List.mem_cons.1 hm with e | hm
          · cases e
          · obtain ⟨k0, hx0, h2 | h2⟩ := hex j u 0 hm
            · exact absurd h2.2 (by decide)
            · rw [← h2.2] at hx0; exact (h0 j u hx0 η2).ext hext
        · intro j u hm
          rcases List.mem_cons.1 hm with e | hm
          · cases e
          · obtain ⟨k0, hx0, h2 | h2⟩ := hex j u 1 hm
            · exact absurd h2.2 (by decide)
            · exact absurd h2.2.symm h2.1
        · intro j u k hm
          rcases List.mem_cons.1 hm with e | hm
          · cases e; exact ⟨him, .inr (.inr rfl)⟩
          · obtain ⟨k0, hx0, h2 | h2⟩ := hex j u k hm
            · exact ⟨(hk j u k0 hx0).1, .inr (.inr h2.2)⟩
            · rw [h2.2]; exact hk j u k0 hx0
        · intro j u hji hv2
          rw [vget_cons, if_neg (fun e => hji e.symm), vget_exec] at hv2; exact hv2
        · intro j u hm
          rcases List.mem_cons.1 hm with e | hm
          · cases e; exact .inl rfl
          · obtain ⟨k0, hx0, h2 | h2⟩ := hex j u 2 hm
            · right
              simp only [readersOk, List.all_eq_true] at hrd
              have h3 := hrd (j, u, k0) hx0
              simp only [h2.1, Bool.or_eq_true, Bool.not_eq_true'] at h3
              rcases h3 with h3 | h3 | h3
              · simp at h3
              · exact hready j h3
              · exact waitsT_done hi.down _ i j hready h3
            · right; rw [← h2.2] at hx0; exact hi.done j u hx0
      · -- it waits for what is not known
        exfalso
        simp only [List.any_eq_true, List.mem_range, Bool.and_eq_true, Bool.or_eq_true] at hv
        obtain ⟨j2, hj2, hnone, hw⟩ := hv
        have hLj : L[j2]? = some true := by
          rcases hw with h5 | h5
          · exact hready j2 h5
          · exact waitsT_done hi.down _ i j2 hready h5
        have := hi.dom j2 hLj
        cases hvv : vget V j2 with
        | none => simp [hvv] at this
        | some u => simp [hvv] at hnone
theorem DH.done (pre : Env) (tl : List Oper) (hd : dagOk l = true) (ht : tailOk l m = true) (hq : dstsOk l m = true) (hcomp : complete l m V [] = true) (hp : allEnvV l V σ = pre ++ σ) (hl : l.drop m = tl)
    (h : TL F P S w0 n l.toArray Q tl ds (pre ++ σ) η) : DH F P S w0 n l ds σ Q m V η := DH.node [] hd ht hq hcomp (by simp) (fun _ => by rw [hp, hl]; exact h)
theorem not_all {h : Nat} (hm : Nat.blt h m = true) (hv : vget V h = none) {X : Prop} (ha : ∀ i, i < m → (vget V i).isSome = true) : X := by
  have := ha h (Nat.le_of_ble_eq_true hm)
  rw [hv] at this; simp at this
/-- One heavy operation may come next. -/
theorem DH.heavy (h : Nat) (env : List (Nat × Value × Option Nat)) {o : Oper} {d : Nat} (hd : dagOk l = true) (ht : tailOk l m = true) (hq : dstsOk l m = true) (hcomp : complete l m V [h] = true) (ho : l[h]? = some o) (hod : o.dst = some d) (him : Nat.blt h m = true) (hnew : vget V h = none) (he : EnvOkV l σ V h env) (hrd : readersOk l V h = true)
    (hop : ∀ ext : Env, TL F P S w0 n l.toArray (QB F P S w0 n l ds σ Q m V h d (envs env ++ ext)) [o] ds (envs env ++ ext) η) : DH F P S w0 n l ds σ Q m V η :=
  DH.node [h] hd ht hq hcomp (fun h' hh => by
    have : h' = h := by simpa using hh
    subst this; exact ⟨o, d, env, ho, hod, him, hnew, he, hrd, hop⟩) (fun ha => not_all him hnew ha)
/-- Two heavy operations may come next. -/
theorem DH.heavy2 {h1 h2 : Nat} (hd : dagOk l = true) (ht : tailOk l m = true) (hq : dstsOk l m = true) (hcomp : complete l m V [h1, h2] = true) (b1 : HB F P S w0 n l ds σ Q m V η h1) (b2 : HB F P S w0 n l ds σ Q m V η h2) : DH F P S w0 n l ds σ Q m V η :=
  DH.node [h1, h2] hd ht hq hcomp (fun h' hh => by
    rcases List.mem_cons.1 hh with e | hh
    · subst e; exact b1
    · have : h' = h2 := by simpa using hh
      subst this; exact b2) (fun ha => by obtain ⟨_, _, _, _, _, him, hnew, _⟩ := b1; exact not_all him hnew ha)
theorem T.drawH (m : Nat) {id : Nat} (hm : P.follows .mixedOrders = true) (h : DH F P S w0 n l ds σ Q m [] η) : T F P S w0 n Q (.region id l.toArray true) ds σ η := fun a w hk hh => by
  refine wpIn_region_any hm ?_
  refine h (by simp) (by simp) (by simp) (by simp) _ _ a _ ?_ ?_
  · simp [List.countP_replicate]
  exact ⟨by simp, fun k hk => by simp [Array.getElem?_replicate] at hk, by simp, fun k j _ hk => by simp [Array.getElem?_replicate] at hk, hk.size, hk.defers, fun t v h1 _ => hk.slot t v h1, fun i v d hi => by simp [Array.getElem?_replicate] at hi, hh.drew _⟩
end
end Go.Sl
