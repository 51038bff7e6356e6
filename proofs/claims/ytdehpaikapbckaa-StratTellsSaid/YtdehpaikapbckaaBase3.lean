/- Regions that draw their order: operations that only reach their own slots, in whatever order, and a tail behind all of them. -/
import Derived.Test.YtdehpaikapbckaaBase2
import Derived.OrdersIn
namespace Go.Sl

def dstOf (l : List Oper) (i : Nat) : Option Nat := (l[i]?).bind (·.dst)
/-- Operation k waits for operation i. -/
def waits (l : List Oper) (k i : Nat) : Bool := (l[k]?).any fun o => o.after.toList.any fun e => Region.binds .any e && Nat.beq e.on i
/-- What it waits for itself, and through others. -/
def dirs (l : List Oper) (k : Nat) : List Nat := match l[k]? with | some o => o.after.toList.filterMap fun e => if Region.binds .any e then some e.on else none | none => []
def waitsT (l : List Oper) : Nat → Nat → Nat → Bool
  | 0, _, _ => false
  | f + 1, k, j => (dirs l k).any fun i => Nat.beq i j || waitsT l f i j
/-- No operation but those that wait for i writes slot t. -/
def clean (l : List Oper) (i t : Nat) : Bool := (List.range l.length).all fun k => (match dstOf l k with | some d => !Nat.beq d t | none => true) || (waits l k i || waitsT l l.length k i) || Nat.beq k i

/-- Where what an operation looks at comes from: another operation that it waits for, or from before. -/
def EnvOk (l : List Oper) (σ : Env) (vals : List Value) (i : Nat) : List (Nat × Value × Option Nat) → Prop
  | [] => True
  | (t, v, some j) :: r => (waits l i j = true ∧ dstOf l j = some t ∧ vals[j]? = some v) ∧ EnvOk l σ vals i r
  | (t, v, none) :: r => (lk σ t = some v ∧ clean l i t = true) ∧ EnvOk l σ vals i r
def envs : List (Nat × Value × Option Nat) → Env
  | [] => []
  | (t, v, _) :: r => (t, v) :: envs r

/-- What is asked behind one of these operations. -/
def Fin (S : Nat → Prop) (w0 : World) (n : Nat) (ds : List Deferred) (η : Heap) (σ' : Env) : Exit → Act → World → Prop
  | .normal, a, w => Kn n ds σ' a ∧ Hp S w0 η w
  | _, _, _ => False

section
variable (F : Fence) (P : Program) (S : Nat → Prop) (w0 : World) (n : Nat) (l : List Oper) (ds : List Deferred) (σ : Env) (η : Heap)

/-- One of these operations: it hands v to its slot, whatever else is known. -/
def QS (vals : List Value) (i : Nat) (v : Value) : Prop :=
  ∃ o d env, l[i]? = some o ∧ o.dst = some d ∧ EnvOk l σ vals i env ∧ ∀ ext : Env, TL F P S w0 n l.toArray (Fin S w0 n ds η ((d, v) :: (envs env ++ ext))) [o] ds (envs env ++ ext) η

def DR (Q : Exit → Act → World → Prop) (vals : List Value) : Prop :=
  (∀ i v, vals[i]? = some v → QS F P S w0 n l ds σ η vals i v) → ∀ a w, Kn n ds σ a → Hp S w0 η w → ∀ id, (Code.region id l.toArray true).wpIn F 0 P Q a w

end
section
variable {F : Fence} {P : Program} {S : Nat → Prop} {w0 : World} {n : Nat} {l : List Oper} {ds : List Deferred} {σ : Env} {η : Heap} {Q : Exit → Act → World → Prop}

theorem EnvOk.append {vals : List Value} {i : Nat} (v : Value) : ∀ {env : List (Nat × Value × Option Nat)}, EnvOk l σ vals i env → EnvOk l σ (vals ++ [v]) i env
  | [], _ => trivial
  | (t, u, some j) :: r, h => ⟨⟨h.1.1, h.1.2.1, by
      have := h.1.2.2
      rw [List.getElem?_append_left (List.getElem?_eq_some_iff.1 this).1]; exact this⟩, EnvOk.append v h.2⟩
  | (t, u, none) :: r, h => ⟨h.1, EnvOk.append v h.2⟩

theorem DR.step {vals : List Value} {v : Value} (env : List (Nat × Value × Option Nat)) {o : Oper} {d : Nat} (ho : l[vals.length]? = some o) (hd : o.dst = some d) (he : EnvOk l σ vals vals.length env)
    (hop : ∀ ext : Env, TL F P S w0 n l.toArray (Fin S w0 n ds η ((d, v) :: (envs env ++ ext))) [o] ds (envs env ++ ext) η) (h : DR F P S w0 n l ds σ η Q (vals ++ [v])) : DR F P S w0 n l ds σ η Q vals := fun hq => h fun i u hi => by
  by_cases hlt : i < vals.length
  · rw [List.getElem?_append_left hlt] at hi
    obtain ⟨o', d', env', h1, h2, h3, h4⟩ := hq i u hi
    exact ⟨o', d', env', h1, h2, h3.append v, h4⟩
  · have hi' : i = vals.length := by
      have := (List.getElem?_eq_some_iff.1 hi).1
      simp at this; omega
    subst hi'
    simp at hi
    subst hi
    exact ⟨o, d, env, ho, hd, he.append _, hop⟩

theorem T.draw {id : Nat} (h : DR F P S w0 n l ds σ η Q []) : T F P S w0 n Q (.region id l.toArray true) ds σ η :=
  fun a w hk hh => h (fun i v hi => by simp at hi) a w hk hh id

theorem Fin.mk {σ' : Env} {a : Act} {w : World} (hk : Kn n ds σ' a) (hh : Hp S w0 η w) : Fin S w0 n ds η σ' .normal a w := ⟨hk, hh⟩
theorem TL.fin {σ' : Env} {ops : Array Oper} : TL F P S w0 n ops (Fin S w0 n ds η σ') [] ds σ' η := TL.nil fun _ _ hk hh => ⟨hk, hh⟩

/-- What is known when the operations of L have been carried out. -/
structure KL (n : Nat) (ds : List Deferred) (l : List Oper) (σ : Env) (vals : List Value) (L : Array Bool) (a : Act) : Prop where
  size : a.tmps.size = n
  defers : a.defers = ds
  old : ∀ t v, lk σ t = some v → (∀ k, L[k]? = some true → dstOf l k ≠ some t) → a.tmps[t]? = some v
  new : ∀ i v d, L[i]? = some true → vals[i]? = some v → dstOf l i = some d → a.tmps[d]? = some v

def fullEnv (a : Act) : Env := a.tmps.toList.zipIdx.map fun (v, i) => (i, v)
theorem lk_full (a : Act) (t : Nat) (v : Value) : lk (fullEnv a) t = some v → a.tmps[t]? = some v := by
  intro h
  obtain ⟨j, h1, h2⟩ := lk_envOf a.tmps.toList 0 t v h
  simpa [h1] using h2
theorem lk_full' (l : List Value) : ∀ (k t : Nat) (v : Value), l[t]? = some v → lk ((l.zipIdx k).map fun (v, i) => (i, v)) (k + t) = some v := by
  induction l with
  | nil => intro k t v h; simp at h
  | cons u r ih =>
    intro k t v h
    simp only [List.zipIdx_cons, List.map_cons]
    rw [lk_cons]
    cases t with
    | zero => simp at h; simp [h]
    | succ t =>
      rw [if_neg (by omega)]
      have := ih (k + 1) t v (by simpa using h)
      rwa [show k + 1 + t = k + (t + 1) from by omega] at this
theorem lk_append {σ1 σ2 : Env} {t : Nat} {v : Value} : lk (σ1 ++ σ2) t = some v → lk σ1 t = some v ∨ (lk σ1 t = none ∧ lk σ2 t = some v) := by
  induction σ1 with
  | nil => intro h; exact .inr ⟨rfl, h⟩
  | cons p r ih =>
    obtain ⟨s, u⟩ := p
    intro h
    rw [List.cons_append, lk_cons] at h
    rw [lk_cons]
    by_cases hs : s = t
    · rw [if_pos hs] at h ⊢; exact .inl h
    · rw [if_neg hs] at h ⊢; exact ih h

theorem dirs_waits {k i : Nat} (h : i ∈ dirs l k) : waits l k i = true := by
  unfold dirs at h
  cases hk : l[k]? with
  | none => simp [hk] at h
  | some o =>
    simp only [hk, List.mem_filterMap] at h
    obtain ⟨e, he, h2⟩ := h
    split at h2
    · rename_i hb
      unfold waits
      rw [hk]
      simp only [Option.any_some, List.any_eq_true, Bool.and_eq_true]
      exact ⟨e, he, hb, by cases h2; simp⟩
    · cases h2
theorem waitsT_done {L : Array Bool} (hdag : ∀ k j, waits l k j = true → L[k]? = some true → L[j]? = some true) : ∀ (f k j : Nat), (∀ i, waits l k i = true → L[i]? = some true) → waitsT l f k j = true → L[j]? = some true
  | 0, k, j, _, h => by simp [waitsT] at h
  | f + 1, k, j, hr, h => by
    simp only [waitsT, List.any_eq_true, Bool.or_eq_true] at h
    obtain ⟨i, hi, h | h⟩ := h
    · have : i = j := Nat.eq_of_beq_eq_true h
      subst this; exact hr i (dirs_waits hi)
    · exact waitsT_done hdag f i j (fun i' hi' => hdag i i' hi' (hr i (dirs_waits hi))) h

theorem KL.env {vals : List Value} {L : Array Bool} {a : Act} (hk : KL n ds l σ vals L a) {i : Nat} (hi : L[i]? = some false) (hdag : ∀ k j, waits l k j = true → L[k]? = some true → L[j]? = some true) (hready : ∀ j, waits l i j = true → L[j]? = some true) :
    ∀ {env : List (Nat × Value × Option Nat)}, EnvOk l σ vals i env → ∀ t v, lk (envs env) t = some v → a.tmps[t]? = some v
  | [], _, t, v, h => by simp [envs, lk] at h
  | (s, u, some j) :: r, he, t, v, h => by
    simp only [envs] at h
    rw [lk_cons] at h
    by_cases hst : s = t
    · rw [if_pos hst] at h
      cases h; subst hst
      exact hk.new j u s (hready j he.1.1) he.1.2.2 he.1.2.1
    · rw [if_neg hst] at h
      exact KL.env hk hi hdag hready he.2 t v h
  | (s, u, none) :: r, he, t, v, h => by
    simp only [envs] at h
    rw [lk_cons] at h
    by_cases hst : s = t
    · rw [if_pos hst] at h
      cases h; subst hst
      refine hk.old s u he.1.1 fun k hk1 hk2 => ?_
      have hc := he.1.2
      simp only [clean, List.all_eq_true, List.mem_range, Bool.or_eq_true] at hc
      have hkl : k < l.length := by
        unfold dstOf at hk2
        rcases Nat.lt_or_ge k l.length with h1 | h1
        · exact h1
        · simp [List.getElem?_eq_none h1] at hk2
      rcases hc k hkl with (h1 | h1 | h1) | h1
      · rw [hk2] at h1; simp at h1
      · have := hdag k i h1 hk1
        rw [hi] at this; cases this
      · have := waitsT_done hdag _ k i (fun i' hi' => hdag k i' hi' hk1) h1
        rw [hi] at this; cases this
      · have : k = i := Nat.eq_of_beq_eq_true h1
        subst this
        rw [hi] at hk1; cases hk1
    · rw [if_neg hst] at h
      exact KL.env hk hi hdag hready he.2 t v h


/-- The checks on a region's edges. -/
def dagOk (l : List Oper) : Bool := (List.range l.length).all fun k => (l[k]?).any fun o => o.after.toList.all fun e => !Region.binds .any e || Nat.blt e.on k
def tailOk (l : List Oper) (m : Nat) : Bool := (List.range l.length).all fun k => Nat.blt k m || (List.range k).all fun j => waits l k j || waitsT l l.length k j
def distinct : List (Option Nat) → Bool
  | [] => true
  | x :: r => r.all (fun y => match x, y with | some a, some b => !Nat.beq a b | none, none => false | _, _ => true) && distinct r
def quietOk (l : List Oper) (m : Nat) : Bool := Nat.ble m l.length && distinct ((List.range m).map (dstOf l))
def allEnv (l : List Oper) (vals : List Value) (σ : Env) : Env := (vals.zipIdx.filterMap fun (v, i) => (dstOf l i).map fun d => (d, v)).reverse ++ σ

theorem distinct_spec : ∀ {xs : List (Option Nat)}, distinct xs = true → xs.Nodup
  | [], _ => List.nodup_nil
  | x :: r, h => by
    simp only [distinct, Bool.and_eq_true, List.all_eq_true] at h
    refine List.nodup_cons.2 ⟨fun hm => ?_, distinct_spec h.2⟩
    have := h.1 x hm
    cases x <;> simp at this
theorem dst_ne {m i j d : Nat} (hq : quietOk l m = true) (hi : i < m) (hj : j < m) (h1 : dstOf l i = some d) (h2 : dstOf l j = some d) : i = j := by
  simp only [quietOk, Bool.and_eq_true] at hq
  have hn := distinct_spec hq.2
  have e1 : ((List.range m).map (dstOf l))[i]? = some (some d) := by simp [hi, h1]
  have e2 : ((List.range m).map (dstOf l))[j]? = some (some d) := by simp [hj, h2]
  have hl1 := (List.getElem?_eq_some_iff.1 e1)
  have hl2 := (List.getElem?_eq_some_iff.1 e2)
  exact (List.getElem_inj (xs := (List.range m).map (dstOf l)) hn (h₀ := hl1.1) (h₁ := hl2.1)).1 (hl1.2.trans hl2.2.symm)
theorem waits_iff {k j : Nat} : waits l k j = true ↔ ∃ o, l[k]? = some o ∧ ∃ e ∈ o.after, Region.binds .any e = true ∧ e.on = j := by
  unfold waits
  cases h : l[k]? with
  | none => simp
  | some o =>
    simp only [Option.any_some, Option.some.injEq, exists_eq_left', List.any_eq_true, Bool.and_eq_true, Array.mem_toList_iff]
    constructor
    · rintro ⟨e, he, h1, h2⟩; exact ⟨e, he, h1, Nat.eq_of_beq_eq_true h2⟩
    · rintro ⟨e, he, h1, rfl⟩; exact ⟨e, he, h1, by simp⟩
theorem waits_lt (hd : dagOk l = true) {k j : Nat} (h : waits l k j = true) : j < k ∧ k < l.length := by
  obtain ⟨o, ho, e, he, hb, rfl⟩ := waits_iff.1 h
  have hk := (List.getElem?_eq_some_iff.1 ho).1
  simp only [dagOk, List.all_eq_true, List.mem_range] at hd
  have := hd k hk
  simp only [ho, Option.any_some, List.all_eq_true, Array.mem_toList_iff, Bool.or_eq_true, Bool.not_eq_true'] at this
  rcases this e he with h1 | h1
  · rw [hb] at h1; cases h1
  · exact ⟨Nat.le_of_ble_eq_true h1, hk⟩

/-- Which operations are ready. -/
theorem mem_ready {L : Array Bool} (hL : L.size = l.length) {i : Nat} (h : i ∈ Region.ready .any l.toArray L) : L[i]? = some false ∧ ∀ j, waits l i j = true → L[j]? = some true := by
  simp only [Region.ready, List.mem_filter, List.mem_range, List.size_toArray, Bool.and_eq_true, Bool.not_eq_true'] at h
  obtain ⟨hi, h1, h2⟩ := h
  refine ⟨?_, fun j hj => ?_⟩
  · have : i < L.size := by omega
    simp [Array.getD_eq_getD_getElem?, this] at h1
    simp [this, h1]
  · obtain ⟨o, ho, e, he, hb, rfl⟩ := waits_iff.1 hj
    simp only [List.getElem?_toArray, ho, Option.map_some, Option.getD_some, Array.all_eq_true', Bool.or_eq_true, Bool.not_eq_true'] at h2
    rcases h2 e he with h3 | h3
    · rw [hb] at h3; cases h3
    · rw [Array.getD_eq_getD_getElem?] at h3
      cases h4 : L[e.on]? with
      | none => simp [h4] at h3
      | some b => simp [h4] at h3; rw [h3]
theorem ready_mem {L : Array Bool} (hL : L.size = l.length) {i : Nat} (h1 : L[i]? = some false) (h2 : ∀ j, waits l i j = true → L[j]? = some true) : i ∈ Region.ready .any l.toArray L := by
  have hi : i < L.size := (Array.getElem?_eq_some_iff.1 h1).1
  simp only [Region.ready, List.mem_filter, List.mem_range, List.size_toArray, Bool.and_eq_true, Bool.not_eq_true']
  refine ⟨by omega, by simp [Array.getD_eq_getD_getElem?, h1], ?_⟩
  have hl : i < l.length := by omega
  simp only [List.getElem?_toArray, List.getElem?_eq_getElem hl, Option.map_some, Option.getD_some, Array.all_eq_true', Bool.or_eq_true, Bool.not_eq_true']
  intro e he
  cases hb : Region.binds .any e with
  | false => exact .inl rfl
  | true =>
    right
    have := h2 e.on (waits_iff.2 ⟨_, List.getElem?_eq_getElem hl, e, he, hb, rfl⟩)
    rw [Array.getD_eq_getD_getElem?, this]; rfl

theorem wpOpIn_monoQ {ops : Array Oper} {Q Q' : Exit → Act → World → Prop} {i : Nat} {a : Act} {w : World} {K K' : Act → World → Prop} (h : ∀ a w, K a w → K' a w) (hq : ∀ e a w, e ≠ .normal → Q e a w → Q' e a w)
    (hh : wpOpIn F 0 P ops Q i K a w) : wpOpIn F 0 P ops Q' i K' a w := by
  have hlet : LetsOut Q → LetsOut Q' := fun ⟨a, w, hx⟩ => ⟨a, w, hq _ _ _ (by simp) hx⟩
  unfold wpOpIn at *
  split
  · exact h _ _ (by simpa [*] using hh)
  · rename_i o ho
    simp only [ho] at hh
    split
    · rename_i hw
      simp only [hw, if_true] at hh
      unfold Oper.wpIn at *
      refine ⟨hh.1, ?_⟩
      have hh := hh.2
      generalize (o.semAt F.round a.eval).run P w = r at *
      cases r with
      | ok x w' =>
        cases x <;> simp only [Oper.uponIn] at hh ⊢ <;>
          first
            | exact h _ _ hh
            | exact ⟨hh.1, CallsIn.mono hh.2 (fun e w'' he => by cases e <;> first | exact h _ _ he | exact hq _ _ _ (by simp) he | exact hlet he)⟩
            | exact ⟨hh.1, RowsIn.mono hh.2 (fun _ _ he => h _ _ he)⟩
            | exact ⟨hh.1, RoundIn.mono hh.2 (fun e w'' he => by cases e <;> first | exact h _ _ he | exact hq _ _ _ (by simp) he | exact hlet he)⟩
      | halt x w' => cases x <;> simp only [Oper.uponIn] at hh ⊢ <;> first | exact hq _ _ _ (by simp) hh | exact hh
    · rename_i hw; simp only [hw] at hh; exact ⟨hh.1, h _ _ hh.2⟩

theorem wpListIn_one {ops : Array Oper} {i : Nat} {o : Oper} {rest : List Oper} (ho : ops[i]? = some o) {a : Act} {w : World} : wpListIn F 0 P ops Q (o :: rest) a w = wpOpIn F 0 P ops Q i (wpListIn F 0 P ops Q rest) a w := by
  simp only [wpListIn, wpOpIn, ho]

/-- The tail: in order. -/
theorem any_tail {m : Nat} (hd : dagOk l = true) (ht : tailOk l m = true) : ∀ (f k : Nat) (L : Array Bool) (a : Act) (w : World), k + f = l.length → m ≤ k → L.size = l.length → (∀ j, j < l.length → L[j]? = some (decide (j < k))) →
    wpListIn F 0 P l.toArray Q (l.drop k) a w → wpAnyIn F 0 P .any l.toArray Q f L a w
  | 0, k, L, a, w, hf, hm, hs, hL, h => by
    have hr : Region.ready .any l.toArray L = [] := by
      rw [List.eq_nil_iff_forall_not_mem]
      intro i hi
      have h1 := (mem_ready hs hi).1
      have hlt := (Array.getElem?_eq_some_iff.1 h1).1
      rw [hL i (by omega)] at h1
      simp at h1; omega
    refine ⟨hr, ?_⟩
    rw [List.drop_of_length_le (by omega)] at h
    exact h
  | f + 1, k, L, a, w, hf, hm, hs, hL, h => by
    have hk : k < l.length := by omega
    have hkr : k ∈ Region.ready .any l.toArray L := ready_mem hs (by rw [hL k hk]; simp) fun j hj => by
      have := waits_lt hd hj
      rw [hL j (by omega)]; simp [this.1]
    refine ⟨fun he => by rw [he] at hkr; simp at hkr, fun i hi => ?_⟩
    obtain ⟨h1, h2⟩ := mem_ready hs hi
    have hilt := (Array.getElem?_eq_some_iff.1 h1).1
    have hik : i = k := by
      rw [hL i (by omega)] at h1
      simp at h1
      rcases Nat.lt_or_ge k i with h3 | h3
      · have hdag : ∀ k' j, waits l k' j = true → L[k']? = some true → L[j]? = some true := fun k' j hw hk' => by
          have hlt := waits_lt hd hw
          have hj : j < l.length := by omega
          rw [hL k' hlt.2] at hk'
          rw [hL j hj]
          simp at hk' ⊢; omega
        have : L[k]? = some true := by
          simp only [tailOk, List.all_eq_true, List.mem_range, Bool.or_eq_true] at ht
          rcases ht i (by omega) with h4 | h4
          · have : i < m := Nat.le_of_ble_eq_true h4
            omega
          · rcases h4 k h3 with h5 | h5
            · exact h2 k h5
            · exact waitsT_done hdag _ i k h2 h5
        rw [hL k hk] at this; simp at this
      · omega
    subst hik
    rw [← List.getElem_cons_drop (h := hk)] at h
    rw [wpListIn_one (i := i) (by simp [hk])] at h
    refine wpOpIn_mono (fun a w hx => ?_) h
    refine any_tail hd ht f (i + 1) _ a w (by omega) (by omega) (by simp [hs]) (fun j hj => ?_) hx
    rw [Array.getElem?_setIfInBounds]
    by_cases hij : i = j
    · subst hij; simp; omega
    · rw [if_neg hij, hL j hj]
      congr 1
      simp; omega

theorem KL.put {vals : List Value} {L : Array Bool} {a a' : Act} {i d : Nat} {v : Value} (hk : KL n ds l σ vals L a) (hq : quietOk l vals.length = true) (hLq : ∀ k, L[k]? = some true → k < vals.length) (hi : vals[i]? = some v) (hdi : dstOf l i = some d) (hLs : i < L.size)
    (hs : a'.tmps.size = n) (hds : a'.defers = ds) (hd : a'.tmps[d]? = some v) (ho : ∀ t u, t ≠ d → a.tmps[t]? = some u → a'.tmps[t]? = some u) : KL n ds l σ vals (L.setIfInBounds i true) a' := by
  have hiv := (List.getElem?_eq_some_iff.1 hi).1
  refine ⟨hs, hds, fun t u ht hno => ?_, fun j u d' hj hv hd' => ?_⟩
  · have hne : t ≠ d := fun e => hno i (by rw [Array.getElem?_setIfInBounds]; simp [hLs]) (by rw [hdi, e])
    refine ho t u hne (hk.old t u ht fun k hk1 => hno k ?_)
    rw [Array.getElem?_setIfInBounds]
    by_cases hik : i = k
    · subst hik; simp [hLs]
    · rw [if_neg hik]; exact hk1
  · by_cases hij : i = j
    · subst hij
      rw [hi] at hv; cases hv
      rw [hdi] at hd'; cases hd'
      exact hd
    · rw [Array.getElem?_setIfInBounds, if_neg hij] at hj
      refine ho d' u (fun e => ?_) (hk.new j u d' hj hv hd')
      subst e
      exact hij (dst_ne hq hiv (hLq j hj) hdi hd')

theorem lk_mem : ∀ {σ : Env} {t : Nat} {v : Value}, lk σ t = some v → (t, v) ∈ σ
  | [], t, v, h => by simp [lk] at h
  | (s, u) :: r, t, v, h => by
    rw [lk_cons] at h
    by_cases hs : s = t
    · rw [if_pos hs] at h; cases h; subst hs; simp
    · rw [if_neg hs] at h; exact List.mem_cons_of_mem _ (lk_mem h)
theorem lk_none : ∀ {σ : Env} {t : Nat}, lk σ t = none → ∀ v, (t, v) ∉ σ
  | [], t, h, v, hm => by simp at hm
  | (s, u) :: r, t, h, v, hm => by
    rw [lk_cons] at h
    by_cases hs : s = t
    · rw [if_pos hs] at h; cases h
    · rw [if_neg hs] at h
      rcases List.mem_cons.1 hm with h1 | h1
      · cases h1; exact hs rfl
      · exact lk_none h v h1

theorem KL.all {vals : List Value} {L : Array Bool} {a : Act} (hk : KL n ds l σ vals L a) (hLq : ∀ k, L[k]? = some true → k < vals.length) (hall : ∀ k, k < vals.length → L[k]? = some true) : Kn n ds (allEnv l vals σ) a := by
  refine ⟨hk.size, hk.defers, fun t v htv => ?_⟩
  have hmem : ∀ t v, (t, v) ∈ (vals.zipIdx.filterMap fun (v, i) => (dstOf l i).map fun d => (d, v)).reverse ↔ ∃ i, vals[i]? = some v ∧ dstOf l i = some t := by
    intro t v
    rw [List.mem_reverse, List.mem_filterMap]
    constructor
    · rintro ⟨⟨u, i⟩, h1, h2⟩
      simp only [Option.map_eq_some_iff, Prod.mk.injEq] at h2
      obtain ⟨d, hd, rfl, rfl⟩ := h2
      have := List.mem_zipIdx_iff_getElem?.1 h1
      exact ⟨i, this, hd⟩
    · rintro ⟨i, h1, h2⟩
      exact ⟨(v, i), List.mem_zipIdx_iff_getElem?.2 h1, by simp [h2]⟩
  rcases lk_append htv with h1 | ⟨h1, h2⟩
  · obtain ⟨i, h3, h4⟩ := (hmem t v).1 (lk_mem h1)
    exact hk.new i v t (hall i (List.getElem?_eq_some_iff.1 h3).1) h3 h4
  · refine hk.old t v h2 fun k hk1 hk2 => ?_
    have hkv := hLq k hk1
    exact lk_none h1 (vals[k]) ((hmem t _).2 ⟨k, by simp [hkv], hk2⟩)

theorem ready_ex (hd : dagOk l = true) {L : Array Bool} (hs : L.size = l.length) : ∀ j : Nat, L[j]? = some false → ∃ i, i ∈ Region.ready .any l.toArray L := by
  intro j
  induction j using Nat.strongRecOn with
  | _ j ih =>
    intro hj
    by_cases h : ∀ k, waits l j k = true → L[k]? = some true
    · exact ⟨j, ready_mem hs hj h⟩
    · simp only [Classical.not_forall] at h
      obtain ⟨k, h1, h2⟩ := h
      have h3 := waits_lt hd h1
      have hk : k < L.size := by omega
      refine ih k h3.1 ?_
      simp only [hk, Array.getElem?_eq_getElem] at h2 ⊢
      cases h4 : L[k] with
      | true => rw [h4] at h2; exact absurd rfl h2
      | false => rfl

theorem DR.end {vals : List Value} (hm : P.follows .mixedOrders = true) (hd : dagOk l = true) (ht : tailOk l vals.length = true) (hq : quietOk l vals.length = true)
    (h : TL F P S w0 n l.toArray Q (l.drop vals.length) ds (allEnv l vals σ) η) : DR F P S w0 n l ds σ η Q vals := by
  intro hqs a w hk hh id
  refine wpIn_region_any hm ?_
  have hml : vals.length ≤ l.length := by
    simp only [quietOk, Bool.and_eq_true] at hq
    exact Nat.le_of_ble_eq_true hq.1
  have main : ∀ (f : Nat) (L : Array Bool) (a : Act) (w : World), L.size = l.length → L.toList.countP (· == false) = f → (∀ k, L[k]? = some true → k < vals.length) → (∀ k j, waits l k j = true → L[k]? = some true → L[j]? = some true) →
      KL n ds l σ vals L a → Hp S w0 η w → wpAnyIn F 0 P .any l.toArray Q f L a w := by
    have last : ∀ (f : Nat) (L : Array Bool) (a : Act) (w : World), L.size = l.length → L.toList.countP (· == false) = f → (∀ k, L[k]? = some true → k < vals.length) → (∀ k, k < vals.length → L[k]? = some true) →
        KL n ds l σ vals L a → Hp S w0 η w → wpAnyIn F 0 P .any l.toArray Q f L a w := by
      intro f L a w hs hc hLq hall hkl hh
      have hL : ∀ j, j < l.length → L[j]? = some (decide (j < vals.length)) := fun j hj => by
        by_cases h1 : j < vals.length
        · rw [hall j h1]; simp [h1]
        · have hj' : j < L.size := by omega
          have : L[j]? ≠ some true := fun e => h1 (hLq j e)
          simp only [hj', Array.getElem?_eq_getElem] at this ⊢
          cases h4 : L[j] with
          | true => rw [h4] at this; exact absurd rfl this
          | false => simp [h1]
      have hLeq : L.toList = List.replicate vals.length true ++ List.replicate (l.length - vals.length) false := by
        apply List.ext_getElem?
        intro j
        rw [Array.getElem?_toList]
        by_cases hj : j < l.length
        · rw [hL j hj]
          by_cases h1 : j < vals.length
          · rw [List.getElem?_append_left (by simpa using h1)]; simp [h1]
          · rw [List.getElem?_append_right (by simpa using h1)]
            rw [List.getElem?_replicate, List.length_replicate, if_pos (by omega)]
            simp [h1]
        · rw [Array.getElem?_eq_none (by omega), List.getElem?_eq_none (by simp; omega)]
      have hf : vals.length + f = l.length := by
        rw [hLeq] at hc
        simp [List.countP_append, List.countP_replicate] at hc
        omega
      exact any_tail hd ht f vals.length L a w hf (Nat.le_refl _) hs hL (h a w (hkl.all hLq hall) hh)
    intro f
    induction f with
    | zero =>
      intro L a w hs hc hLq hdown hkl hh
      refine last 0 L a w hs hc hLq (fun j hj => ?_) hkl hh
      have hj' : j < L.size := by omega
      rw [List.countP_eq_zero] at hc
      have := hc L[j] (by simp)
      simp at this
      simp [hj', this]
    | succ f ih =>
      intro L a w hs hc hLq hdown hkl hh
      by_cases hall : ∀ k, k < vals.length → L[k]? = some true
      · exact last (f + 1) L a w hs hc hLq hall hkl hh
      · simp only [Classical.not_forall] at hall
        obtain ⟨j, hj, hjn⟩ := hall
        have hjL : L[j]? = some false := by
          have hj' : j < L.size := by omega
          simp only [hj', Array.getElem?_eq_getElem] at hjn ⊢
          cases h4 : L[j] with
          | true => rw [h4] at hjn; exact absurd rfl hjn
          | false => rfl
        refine ⟨fun he => by
          obtain ⟨i, hi⟩ := ready_ex hd hs j hjL
          rw [he] at hi; simp at hi, fun i hi => ?_⟩
        obtain ⟨h1, h2⟩ := mem_ready hs hi
        have hilt := (Array.getElem?_eq_some_iff.1 h1).1
        have him : i < vals.length := by
          rcases Nat.lt_or_ge i vals.length with h3 | h3
          · exact h3
          · have : L[j]? = some true := by
              simp only [tailOk, List.all_eq_true, List.mem_range, Bool.or_eq_true] at ht
              rcases ht i (by omega) with h4 | h4
              · have : i < vals.length := Nat.le_of_ble_eq_true h4
                omega
              · rcases h4 j (by omega) with h5 | h5
                · exact h2 j h5
                · exact waitsT_done hdown _ i j h2 h5
            rw [hjL] at this; cases this
        have hvi : vals[i]? = some vals[i] := by simp [him]
        obtain ⟨o, d, env, ho, hod, henv, hop⟩ := hqs i _ hvi
        have hdi : dstOf l i = some d := by simp [dstOf, ho, hod]
        have hke : ∀ t v, lk (envs env) t = some v → a.tmps[t]? = some v := hkl.env h1 hdown h2 henv
        have hkn : Kn n ds (envs env ++ fullEnv a) a := ⟨hkl.size, hkl.defers, fun t v htv => by
          rcases lk_append htv with h5 | ⟨_, h5⟩
          · exact hke t v h5
          · exact lk_full a t v h5⟩
        have h6 := hop (fullEnv a) a w hkn hh
        rw [wpListIn_one (i := i) (by simp [ho])] at h6
        refine wpOpIn_monoQ (fun a' w' hx => ?_) (fun e a' w' hne hx => by cases e <;> first | exact absurd rfl hne | exact hx.elim) h6
        obtain ⟨hk', hh'⟩ := (show Kn n ds ((d, vals[i]) :: (envs env ++ fullEnv a)) a' ∧ Hp S w0 η w' from hx)
        have hd1 : a'.tmps[d]? = some vals[i] := hk'.slot d _ (by rw [lk_cons, if_pos rfl])
        have ho1 : ∀ t u, t ≠ d → a.tmps[t]? = some u → a'.tmps[t]? = some u := fun t u hne htu => by
          refine hk'.slot t u ?_
          rw [lk_cons, if_neg (Ne.symm hne)]
          have hfull : lk (fullEnv a) t = some u := by
            have := lk_full' a.tmps.toList 0 t u (by simpa using htu)
            simpa [fullEnv] using this
          have happ : ∀ (e1 : Env), (∀ v, lk e1 t = some v → v = u) → lk (e1 ++ fullEnv a) t = some u := by
            intro e1
            induction e1 with
            | nil => intro _; exact hfull
            | cons p r ihr =>
              obtain ⟨s, v⟩ := p
              intro hv
              rw [List.cons_append, lk_cons]
              by_cases hst : s = t
              · rw [if_pos hst, hv v (by rw [lk_cons, if_pos hst])]
              · rw [if_neg hst]; exact ihr fun v' hv' => hv v' (by rw [lk_cons, if_neg hst]; exact hv')
          exact happ _ fun v hv => by
            have := hke t v hv
            rw [htu] at this; cases this; rfl
        refine ih _ a' w' (by simp [hs]) ?_ ?_ ?_ (hkl.put hq hLq hvi hdi hilt hk'.size hk'.defers hd1 ho1) hh'
        · rw [Array.toList_setIfInBounds, List.countP_set (by simpa using hilt)]
          have h7 : L.toList[i]'(by simpa using hilt) = false := by
            have := (Array.getElem?_eq_some_iff.1 h1).2
            simpa using this
          rw [h7, hc]; simp
        · intro k hk1
          rw [Array.getElem?_setIfInBounds] at hk1
          by_cases hik : i = k
          · subst hik; exact him
          · rw [if_neg hik] at hk1; exact hLq k hk1
        · intro k j' hw hk1
          rw [Array.getElem?_setIfInBounds] at hk1 ⊢
          by_cases hij : i = j'
          · subst hij; simp [hilt]
          · rw [if_neg hij]
            by_cases hik : i = k
            · subst hik; exact h2 j' hw
            · rw [if_neg hik] at hk1; exact hdown k j' hw hk1
  refine main _ _ _ _ (by simp) (by simp [List.countP_replicate]) (fun k hk => by simp [Array.getElem?_replicate] at hk) (fun k j _ hk => by simp [Array.getElem?_replicate] at hk) ⟨hk.size, hk.defers, fun t v h1 _ => hk.slot t v h1, fun i v d hi => by simp [Array.getElem?_replicate] at hi⟩ ⟨hh.os, hh.tape, hh.output, hh.size, hh.same, hh.own, hh.once⟩

theorem DR.done (pre : Env) (tl : List Oper) {vals : List Value} (hm : P.follows .mixedOrders = true) (hd : dagOk l = true) (ht : tailOk l vals.length = true) (hq : quietOk l vals.length = true) (hp : allEnv l vals σ = pre ++ σ) (hl : l.drop vals.length = tl)
    (h : TL F P S w0 n l.toArray Q tl ds (pre ++ σ) η) : DR F P S w0 n l ds σ η Q vals := DR.end hm hd ht hq (by rw [hp, hl]; exact h)

end
end Go.Sl
