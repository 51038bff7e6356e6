/- Several texts in one. -/
import Derived.TacticsIn
import Derived.RangeFuncLeaves
import Derived.RangeFuncCalls
import Derived.RecoverIn
import Derived.Laws.Sem
import Derived.IntWalk
import Derived.Laws.World
import Derived.Below
import Derived.Test.YtdiacobmhkmljaaDoorProg
import Derived.KernelRfl
import Derived.OrdersIn
import Derived.Laws.Append
import Derived.Recover
/- The judgement of this seat's walks: what is known of slots, which blocks are owned, and the rules on control. -/
namespace Go.Sl

/-- A fence that lets everything in; a round of a range over a function, or none. -/
def FR (ro:Option Nat):Fence:={ Fence.wide with round:=ro }

abbrev Env:=List (Nat × Value)
abbrev Seg:=List (Nat × Obj)
abbrev Heap:=List Seg

/-- The value of a slot, as far as it is known. -/
def lk:Env→Nat→Option Value
  | [],_=>none
  | (s,v)::r,t=>bif Nat.beq s t then some v else lk r t

def ev (σ:Env):Operand→Option Value
  | .tmp t=>lk σ t
  | .const v=>some v
  | .global g=>some (.pointer (some ⟨g,0,none⟩))
  | .func f=>some (.func (.func f) #[] #[])

/-- The slots hold what is known; there are n of them; the deferred calls. -/
structure Kn (n:Nat) (ds:List Deferred) (σ:Env) (a:Act):Prop where
  size:a.tmps.size=n
  defers:a.defers=ds
  slot:∀ t v,lk σ t=some v→a.tmps[t]?=some v

theorem lk_cons (s:Nat) (v:Value) (r:Env) (t:Nat):lk ((s,v)::r) t=if s=t then some v else lk r t:=by
  simp only [lk]
  by_cases h:s=t
  · subst h; simp
  · have:Nat.beq s t=false:=by
      cases hb:Nat.beq s t
      · rfl
      · exact absurd (Nat.eq_of_beq_eq_true hb) h
    simp [this,h]

theorem Kn.ev {n:Nat} {ds:List Deferred} {σ:Env} {a:Act} (h:Kn n ds σ a) {x:Operand} {v:Value} (hx:Sl.ev σ x=some v):a.eval x=v:=by
  cases x with
  | tmp t =>
    have:=h.slot t v hx
    simp [Act.eval,this,Array.getD_eq_getD_getElem?]
  | const u=>simpa [Sl.ev,Act.eval] using hx
  | global g=>simpa [Sl.ev,Act.eval] using hx
  | func f=>simpa [Sl.ev,Act.eval] using hx

theorem Kn.put {n:Nat} {ds:List Deferred} {σ:Env} {a:Act} (h:Kn n ds σ a) {d:Nat} (hd:d<n) (v:Value):Kn n ds ((d,v)::σ) (a.put (some d) v):=by
  refine ⟨by simp [Act.put,h.size],by simp [Act.put,h.defers],fun t u ht=>?_⟩
  rw [lk_cons] at ht
  by_cases hdt:d=t
  · subst hdt
    simp at ht
    subst ht
    simp only [Act.put]
    rw [Array.getElem?_setIfInBounds_self_of_lt (by rw [h.size]; exact hd)]
  · rw [if_neg hdt] at ht
    simp only [Act.put]
    rw [Array.getElem?_setIfInBounds_ne hdt]
    exact h.slot t u ht

def evs (σ:Env):List Operand→Option (List Value)
  | []=>some []
  | x::r=>match ev σ x,evs σ r with
    | some v,some vs=>some (v::vs)
    | _,_=>none
theorem evs_map {n:Nat} {ds:List Deferred} {σ:Env} {a:Act} (h:Kn n ds σ a):∀ (xs:List Operand) (vs:List Value),evs σ xs=some vs→xs.map a.eval=vs
  | [],vs,hx=>by simp [evs] at hx; simp [hx]
  | x::r,vs,hx=>by
    unfold evs at hx
    cases h1:Sl.ev σ x with
    | none=>simp [h1] at hx
    | some v =>
      cases h2:evs σ r with
      | none=>simp [h1,h2] at hx
      | some us =>
        simp [h1,h2] at hx
        subst hx
        simp [h.ev h1,evs_map h r us h2]
theorem Kn.evs {n:Nat} {ds:List Deferred} {σ:Env} {a:Act} (h:Kn n ds σ a) {xs:Array Operand} {vs:List Value} (hx:Sl.evs σ xs.toList=some vs):xs.map a.eval=vs.toArray:=by
  have:=evs_map h xs.toList vs hx
  rw [← this]
  cases xs
  exact List.map_toArray

/-- What is known of some slots is known of fewer. -/
def Sub:Env→Env→Prop
  | [],_=>True
  | (t,v)::r,σ=>lk σ t=some v∧Sub r σ

theorem Sub.get:∀ {σ' σ:Env},Sub σ' σ→∀ t v,lk σ' t=some v→lk σ t=some v
  | [],_,_,t,v,h=>by simp [lk] at h
  | (s,u)::r,σ,h,t,v,hl=>by
    rw [lk_cons] at hl
    by_cases hst:s=t
    · subst hst; simp at hl; subst hl; exact h.1
    · rw [if_neg hst] at hl; exact Sub.get h.2 t v hl

theorem Kn.sub {n:Nat} {ds:List Deferred} {σ σ':Env} {a:Act} (h:Kn n ds σ a) (hs:Sub σ' σ):Kn n ds σ' a :=
  ⟨h.size,h.defers,fun t v ht=>h.slot t v (hs.get t v ht)⟩

/-- The heap: nothing of S has turned since w0; the owned blocks, each once, none of S, are as said. -/
structure Hp (S:Nat→Prop) (w0:World) (η:Heap) (w:World):Prop where
  os:w.os=w0.os
  tape:w.tape=w0.tape
  output:w.output=w0.output
  drawn:w0.drawn≤w.drawn
  size:w0.heap.size≤w.heap.size
  same:∀ k,S k→k<w0.heap.size∧w.heap[k]?=w0.heap[k]?
  own:∀ p∈η.flatten,w.heap[p.1]?=some p.2∧¬ S p.1
  once:(η.flatten.map (·.1)).Nodup

/-- The judgement. -/
def T (F:Fence) (P:Program) (S:Nat→Prop) (w0:World) (n:Nat) (Q:Exit→Act→World→Prop) (c:Code) (ds:List Deferred) (σ:Env) (η:Heap):Prop :=
  ∀ a w,Kn n ds σ a→Hp S w0 η w→c.wpIn F 0 P Q a w

/-- A way out. -/
def TQ (S:Nat→Prop) (w0:World) (n:Nat) (K:Act→World→Prop) (ds:List Deferred) (σ:Env) (η:Heap):Prop :=
  ∀ a w,Kn n ds σ a→Hp S w0 η w→K a w

/-- A list of operations. -/
def TL (F:Fence) (P:Program) (S:Nat→Prop) (w0:World) (n:Nat) (ops:Array Oper) (Q:Exit→Act→World→Prop) (l:List Oper) (ds:List Deferred) (σ:Env) (η:Heap):Prop :=
  ∀ a w,Kn n ds σ a→Hp S w0 η w→wpListIn F 0 P ops Q l a w

section
variable {F:Fence} {P:Program} {S:Nat→Prop} {w0:World} {n:Nat} {Q:Exit→Act→World→Prop} {ds:List Deferred} {σ:Env} {η:Heap}

theorem T.skip (h:TQ S w0 n (Q .normal) ds σ η):T F P S w0 n Q .skip ds σ η:=fun a w hk hh=>wpIn_skip (h a w hk hh)
theorem T.label {l:Nat} (h:TQ S w0 n (Q .normal) ds σ η):T F P S w0 n Q (.label l) ds σ η:=fun a w hk hh=>wpIn_label (h a w hk hh)
theorem T.exit {id:Nat} (h:TQ S w0 n (Q (.exit id)) ds σ η):T F P S w0 n Q (.exit id) ds σ η:=fun a w hk hh=>wpIn_exit (h a w hk hh)
theorem T.ret (h:TQ S w0 n (Q .ret) ds σ η):T F P S w0 n Q .ret ds σ η:=fun a w hk hh=>wpIn_ret (h a w hk hh)
theorem T.seq {x y:Code} (h:T F P S w0 n (Exit.then (fun a w=>y.wpIn F 0 P Q a w) Q) x ds σ η):T F P S w0 n Q (.seq x y) ds σ η :=
  fun a w hk hh=>wpIn_seq (h a w hk hh)
theorem T.block {id:Nat} {c:Code} (h:T F P S w0 n (Exit.inBlock id Q) c ds σ η):T F P S w0 n Q (.block id c) ds σ η :=
  fun a w hk hh=>wpIn_block (h a w hk hh)
theorem T.cond {c : Operand} {x y : Code} (b : Bool) (hc : ev σ c = some (.bool b)) (ht : b = true → T F P S w0 n Q x ds σ η) (hf : b = false → T F P S w0 n Q y ds σ η) :
    T F P S w0 n Q (.cond c x y) ds σ η:=fun a w hk hh=>by
  cases b
  · exact wpIn_cond_false (hk.ev hc) (hf rfl a w hk hh)
  · exact wpIn_cond_true (hk.ev hc) (ht rfl a w hk hh)
theorem T.cond_t {c : Operand} {x y : Code} {b : Bool} (hc : ev σ c = some (.bool b)) (hb : b = true) (ht : T F P S w0 n Q x ds σ η) :
    T F P S w0 n Q (.cond c x y) ds σ η:=T.cond b hc (fun _=>ht) (fun h=>by rw [hb] at h; cases h)
theorem T.cond_f {c : Operand} {x y : Code} {b : Bool} (hc : ev σ c = some (.bool b)) (hb : b = false) (hf : T F P S w0 n Q y ds σ η) :
    T F P S w0 n Q (.cond c x y) ds σ η:=T.cond b hc (fun h=>by rw [hb] at h; cases h) (fun _=>hf)
theorem T.cond_d {c : Operand} {x y : Code} {p : Prop} [Decidable p] (hc : ev σ c = some (.bool (decide p))) (ht : p → T F P S w0 n Q x ds σ η) (hf : ¬ p → T F P S w0 n Q y ds σ η) :
    T F P S w0 n Q (.cond c x y) ds σ η:=T.cond _ hc (fun h=>ht (of_decide_eq_true h)) (fun h=>hf (of_decide_eq_false h))
/-- An assertion where ways meet: the first part leads to it, the rest goes on from it. -/
theorem T.cut {x y : Code} {ι : Type} (J : ι → Prop) (sg : ι → Env) (hp : ι → Heap)
    (h1:T F P S w0 n (Exit.then (fun a w=>∃ i,J i∧Kn n ds (sg i) a∧Hp S w0 (hp i) w) Q) x ds σ η) (h2:∀ i,J i→T F P S w0 n Q y ds (sg i) (hp i)) :
    T F P S w0 n Q (.seq x y) ds σ η:=fun a w hk hh=>by
  refine wpIn_seq (wpIn_mono (h1 a w hk hh) ?_)
  intro e a' w' hq
  cases e with
  | normal=>obtain ⟨i,hj,hk',hh'⟩:=hq; exact h2 i hj a' w' hk' hh'
  | _=>exact hq

theorem TQ.cut {ι : Type} {J : ι → Prop} {sg : ι → Env} {hp : ι → Heap} (i : ι) (hj : J i) (hs : Sub (sg i) σ) (he : η = hp i) :
    TQ S w0 n (Exit.then (fun a w=>∃ i,J i∧Kn n ds (sg i) a∧Hp S w0 (hp i) w) Q .normal) ds σ η:=fun _ _ hk hh=>⟨i,hj,hk.sub hs,he ▸ hh⟩

/-- A loop, by a number that each round lowers. -/
theorem wpIn_loopR {F : Fence} {m0 : Nat} {P : Program} {c : Code} {Q : Exit → Act → World → Prop} (I : Nat → Act → World → Prop)
    (round:∀ m a w,I m a w→c.wpIn F m0 P (Exit.then (fun a' w'=>∃ m',m'<m∧I m' a' w') Q) a w) {m:Nat} {a:Act} {w:World} (h₀:I m a w):(Code.loop c).wpIn F m0 P Q a w:=by
  intro b k cs hro hb hr
  have key : ∀ j a w, I j a w →
      ∃ e a' w',Q e a' w'∧ArrivesIn (Machine.fenced P F) P (lone (b.atR a (.code c::.inLoop c::k)) cs w) b k cs e a' w':=by
    intro j
    induction j using Nat.strongRecOn with
    | _ j ih =>
      intro a w hI
      obtain ⟨e,a₁,w₁,hq,harr⟩:=round j a w hI b (.inLoop c::k) cs hro hb hr
      cases e with
      | normal =>
        obtain ⟨m',hlt,hI₁⟩:=hq
        obtain ⟨e₂,a₂,w₂,hq₂,harr₂⟩:=ih m' hlt a₁ w₁ hI₁
        exact ⟨e₂,a₂,w₂,hq₂,.of_steps (StepsIn.trans harr (.one (fenced_calm hb hr rfl) stepR_inLoop)) harr₂⟩
      | exit id=>exact ⟨_,a₁,w₁,hq,.pass (x:=.inLoop c) rfl (fun _ _=>.inl (by simp)) harr⟩
      | goto l=>exact ⟨_,a₁,w₁,hq,.pass (x:=.inLoop c) rfl (fun _ _=>.inl (by simp)) harr⟩
      | ret=>exact ⟨_,a₁,w₁,hq,.pass (x:=.inLoop c) rfl (fun _ _=>.inl (by simp)) harr⟩
      | panic ch=>exact ⟨_,a₁,w₁,hq,.pass (x:=.inLoop c) rfl (fun _ _=>.inl (by simp)) harr⟩
      | outgrown=>exact ⟨_,a₁,w₁,hq,.pass (x:=.inLoop c) rfl (fun _ _=>.inl (by simp)) harr⟩
  obtain ⟨e,a',w',hq,harr⟩:=key _ a w h₀
  exact ⟨e,a',w',hq,.of_steps (.one (fenced_calm hb hr rfl) stepR_loop) harr⟩

/-- A loop. -/
theorem T.loop {c : Code} {ι : Type} (J : ι → Prop) (sg : ι → Env) (hp : ι → Heap) (μ : ι → Nat) (i0 : ι) (h0 : J i0) (hs : Sub (sg i0) σ) (he : η = hp i0)
    (round:∀ i,J i→T F P S w0 n (Exit.then (fun a w=>∃ j,J j∧μ j<μ i∧Kn n ds (sg j) a∧Hp S w0 (hp j) w) Q) c ds (sg i) (hp i)) :
    T F P S w0 n Q (.loop c) ds σ η:=fun a w hk hh=>by
  refine wpIn_loopR (fun m a w=>∃ i,J i∧μ i=m∧Kn n ds (sg i) a∧Hp S w0 (hp i) w) ?_ (m:=μ i0) ⟨i0,h0,rfl,hk.sub hs,he ▸ hh⟩
  rintro m a w ⟨i,hi,rfl,hk,hh⟩
  refine wpIn_mono (round i hi a w hk hh) ?_
  intro e a' w' hq
  cases e with
  | normal=>obtain ⟨j,h1,h2,h3,h4⟩:=hq; exact ⟨_,h2,j,h1,rfl,h3,h4⟩
  | _=>exact hq

/-- The end of a round of a loop. -/
theorem TQ.round {ι : Type} {J : ι → Prop} {sg : ι → Env} {hp : ι → Heap} {μ : ι → Nat} {i : ι} (j : ι) (hj : J j) (hm : μ j < μ i) (hs : Sub (sg j) σ) (he : η = hp j) :
    TQ S w0 n (Exit.then (fun a w=>∃ j,J j∧μ j<μ i∧Kn n ds (sg j) a∧Hp S w0 (hp j) w) Q .normal) ds σ η:=fun _ _ hk hh=>⟨j,hj,hm,hk.sub hs,he ▸ hh⟩

theorem TQ.then_n {y:Code} (h:T F P S w0 n Q y ds σ η):TQ S w0 n (Exit.then (fun a w=>y.wpIn F 0 P Q a w) Q .normal) ds σ η:=h
theorem TQ.then_x {K:Act→World→Prop} {id:Nat} (h:TQ S w0 n (Q (.exit id)) ds σ η):TQ S w0 n (Exit.then K Q (.exit id)) ds σ η:=h
theorem TQ.then_r {K:Act→World→Prop} (h:TQ S w0 n (Q .ret) ds σ η):TQ S w0 n (Exit.then K Q .ret) ds σ η:=h
theorem TQ.block_n {id:Nat} (h:TQ S w0 n (Q .normal) ds σ η):TQ S w0 n (Exit.inBlock id Q .normal) ds σ η:=h
theorem TQ.block_r {id:Nat} (h:TQ S w0 n (Q .ret) ds σ η):TQ S w0 n (Exit.inBlock id Q .ret) ds σ η:=h
theorem TQ.block_x {id:Nat} (h:TQ S w0 n (Q .normal) ds σ η):TQ S w0 n (Exit.inBlock id Q (.exit id)) ds σ η:=fun a w hk hh=>by
  show if id=id then Q .normal a w else Q (.exit id) a w
  rw [if_pos rfl]; exact h a w hk hh
theorem TQ.block_o {id id':Nat} (hne:Nat.beq id' id=false) (h:TQ S w0 n (Q (.exit id')) ds σ η):TQ S w0 n (Exit.inBlock id Q (.exit id')) ds σ η:=fun a w hk hh=>by
  show if id'=id then Q .normal a w else Q (.exit id') a w
  have:id'≠id:=fun e=>by subst e; simp at hne
  rw [if_neg this]; exact h a w hk hh

/-! Operations -/
theorem TL.nil {ops:Array Oper} (h:TQ S w0 n (Q .normal) ds σ η):TL F P S w0 n ops Q [] ds σ η:=fun a w hk hh=>wpListIn_nil (h a w hk hh)
theorem T.region {id:Nat} {l:List Oper} (h:TL F P S w0 n l.toArray Q l ds σ η):T F P S w0 n Q (.region id l.toArray false) ds σ η:=fun a w hk hh=>wpIn_region_lit (h a w hk hh)
end

/-- Everything may be entered; there is room. -/
structure Open (F:Fence):Prop where
  fn:∀ f,F.fn f
  depth:F.depth=none
  alive:F.alive=false

theorem open_wide:Open Fence.wide:=⟨fun _=>trivial,rfl,rfl⟩
theorem open_round (l:Nat):Open (Fence.wide.inRound l):=⟨fun _=>trivial,rfl,rfl⟩

section
variable {F:Fence} {P:Program} {S:Nat→Prop} {w0:World} {n:Nat} {Q:Exit→Act→World→Prop} {ds:List Deferred} {σ:Env} {η:Heap} {ops:Array Oper} {rest:List Oper}

/-- An operation of no defer statement, as everywhere. -/
theorem TL.op (hF : Open F) {o : Oper} (hg : o.guard = none) (hd : ∀ c, o.op ≠ .defer c)
    (h:∀ a w,Kn n ds σ a→Hp S w0 η w→o.uponIn F 0 P a (wpListIn F 0 P ops Q rest) Q ((execOp a.eval o).run P w)):TL F P S w0 n ops Q (o::rest) ds σ η:=fun a w hk hh=>by
  simp only [wpListIn,Region.wanted,hg,if_true,Oper.wpIn]
  exact ⟨fun f _=>hF.fn f,by rw [Oper.semAt_eq _ _ _ hd]; exact h a w hk hh⟩

/-- An operation that hands a value to a slot. -/
theorem TL.val (hF : Open F) {d : Nat} {op : Op} {ty : TypeId} {pos : String} {af : Array Edge} (hd : ∀ c, op ≠ .defer c) (hn : Nat.blt d n = true)
    (h:∀ a w,Kn n ds σ a→Hp S w0 η w→∃ v w' η',(execOp a.eval ⟨some d,op,ty,pos,af,none⟩).run P w = .ok (.value v) w'∧Hp S w0 η' w'∧TL F P S w0 n ops Q rest ds ((d,v)::σ) η') :
    TL F P S w0 n ops Q (⟨some d,op,ty,pos,af,none⟩::rest) ds σ η:=TL.op hF rfl hd fun a w hk hh=>by
  obtain ⟨v,w',η',hr,hh',ht⟩:=h a w hk hh
  rw [hr]
  exact ht _ _ (hk.put (Nat.le_of_ble_eq_true hn) v) hh'

/-- The same where the heap is as it was. -/
theorem TL.pure (hF : Open F) {d : Nat} {op : Op} {ty : TypeId} {pos : String} {af : Array Edge} {v : Value} (hd : ∀ c, op ≠ .defer c) (hn : Nat.blt d n = true)
    (h:∀ a w,Kn n ds σ a→Hp S w0 η w→(execOp a.eval ⟨some d,op,ty,pos,af,none⟩).run P w = .ok (.value v) w) (ht:TL F P S w0 n ops Q rest ds ((d,v)::σ) η) :
    TL F P S w0 n ops Q (⟨some d,op,ty,pos,af,none⟩::rest) ds σ η:=TL.val hF hd hn fun a w hk hh=>⟨v,w,η,h a w hk hh,hh,ht⟩

/-- An operation that writes. -/
theorem TL.act (hF : Open F) {op : Op} {ty : TypeId} {pos : String} {af : Array Edge} (hd : ∀ c, op ≠ .defer c)
    (h:∀ a w,Kn n ds σ a→Hp S w0 η w→∃ w' η',(execOp a.eval ⟨none,op,ty,pos,af,none⟩).run P w = .ok .skip w'∧Hp S w0 η' w'∧TL F P S w0 n ops Q rest ds σ η') :
    TL F P S w0 n ops Q (⟨none,op,ty,pos,af,none⟩::rest) ds σ η:=TL.op hF rfl hd fun a w hk hh=>by
  obtain ⟨w',η',hr,hh',ht⟩:=h a w hk hh
  rw [hr]
  exact ht _ _ hk hh'

/-- A guarded operation: carried out. -/
theorem TL.on {d : Option Nat} {op : Op} {ty : TypeId} {pos : String} {af : Array Edge} {j : Nat} {want b : Bool} {oj : Oper} {dj : Nat} (hj : ops[j]? = some oj) (hdj : oj.dst = some dj) (hv : lk σ dj = some (.bool b)) (hb : b = want)
    (h:TL F P S w0 n ops Q (⟨d,op,ty,pos,af,none⟩::rest) ds σ η):TL F P S w0 n ops Q (⟨d,op,ty,pos,af,some (j,want)⟩::rest) ds σ η:=fun a w hk hh=>by
  subst hb
  have hy:yielded ops a.tmps j=some b:=by
    simp [yielded,hj,hdj,hk.slot dj _ hv]
  have:=h a w hk hh
  simp only [wpListIn,Region.wanted,hy,beq_self_eq_true,if_true] at this ⊢
  exact this

/-- A guarded operation: passed over. -/
theorem TL.off (hF : Open F) {d : Nat} {op : Op} {ty : TypeId} {pos : String} {af : Array Edge} {j : Nat} {want b : Bool} {oj : Oper} {dj : Nat} (hj : ops[j]? = some oj) (hdj : oj.dst = some dj) (hv : lk σ dj = some (.bool b)) (hb : b = !want)
    (hn:Nat.blt d n=true) (h:TL F P S w0 n ops Q rest ds ((d,undef)::σ) η):TL F P S w0 n ops Q (⟨some d,op,ty,pos,af,some (j,want)⟩::rest) ds σ η:=fun a w hk hh=>by
  have hy:yielded ops a.tmps j=some b:=by
    simp [yielded,hj,hdj,hk.slot dj _ hv]
  have hne:(some b == some want)=false:=by subst hb; cases want <;> rfl
  simp only [wpListIn,Region.wanted,hy,hne,Bool.false_eq_true,if_false]
  exact ⟨fun f _=>hF.fn f,h _ _ (hk.put (Nat.le_of_ble_eq_true hn) undef) hh⟩

/-! The operations on values -/
variable {d:Nat} {ty:TypeId} {pos:String} {af:Array Edge}
theorem TL.move (hF : Open F) {x : Operand} {v : Value} (hx : ev σ x = some v) (hn : Nat.blt d n = true) (h : TL F P S w0 n ops Q rest ds ((d, v) :: σ) η) :
    TL F P S w0 n ops Q (⟨some d,.move x,ty,pos,af,none⟩::rest) ds σ η :=
  TL.pure hF (by intro c; simp) hn (fun a w hk _=>by simp [execOp,hk.ev hx]) h
theorem TL.assign (hF : Open F) {x : Operand} {v : Value} (hx : ev σ x = some v) (hn : Nat.blt d n = true) (h : TL F P S w0 n ops Q rest ds ((d, v) :: σ) η) :
    TL F P S w0 n ops Q (⟨some d,.assign x,ty,pos,af,none⟩::rest) ds σ η :=
  TL.pure hF (by intro c; simp) hn (fun a w hk _=>by simp [execOp,hk.ev hx]) h
theorem TL.pickT (hF : Open F) {c x y : Operand} {b : Bool} {v : Value} (hc : ev σ c = some (.bool b)) (hb : b = true) (hx : ev σ x = some v) (hn : Nat.blt d n = true) (h : TL F P S w0 n ops Q rest ds ((d, v) :: σ) η) :
    TL F P S w0 n ops Q (⟨some d,.pick c x y,ty,pos,af,none⟩::rest) ds σ η :=
  TL.pure hF (by intro c; simp) hn (fun a w hk _=>by subst hb; simp [execOp,hk.ev hc,hk.ev hx,asBool]) h
theorem TL.pickF (hF : Open F) {c x y : Operand} {b : Bool} {v : Value} (hc : ev σ c = some (.bool b)) (hb : b = false) (hx : ev σ y = some v) (hn : Nat.blt d n = true) (h : TL F P S w0 n ops Q rest ds ((d, v) :: σ) η) :
    TL F P S w0 n ops Q (⟨some d,.pick c x y,ty,pos,af,none⟩::rest) ds σ η :=
  TL.pure hF (by intro c; simp) hn (fun a w hk _=>by subst hb; simp [execOp,hk.ev hc,hk.ev hx,asBool]) h
/-- Two integers. -/
def intOp:BinOp→IntKind→Int→Int→Option Value
  | .add,k,a,b=>some (.int k (k.wrap (a+b)))
  | .sub,k,a,b=>some (.int k (k.wrap (a - b)))
  | .mul,k,a,b=>some (.int k (k.wrap (a*b)))
  | .eql,_,a,b=>some (.bool (decide (a=b)))
  | .neq,_,a,b=>some (.bool (decide (a≠b)))
  | .lss,_,a,b=>some (.bool (decide (a<b)))
  | .leq,_,a,b=>some (.bool (decide (a≤b)))
  | .gtr,_,a,b=>some (.bool (decide (b<a)))
  | .geq,_,a,b=>some (.bool (decide (b≤a)))
  | _,_,_,_=>none

theorem TL.bin (hF : Open F) {op : BinOp} {xt yt : TypeId} {x y : Operand} {k : IntKind} {a b : Int} {v : Value} (hx : ev σ x = some (.int k a)) (hy : ev σ y = some (.int k b)) (ho : intOp op k a b = some v) (hn : Nat.blt d n = true)
    (h:TL F P S w0 n ops Q rest ds ((d,v)::σ) η):TL F P S w0 n ops Q (⟨some d,.binOp op xt x y yt,ty,pos,af,none⟩::rest) ds σ η :=
  TL.pure hF (by intro c; simp) hn (fun a w hk _=>by
    cases op <;> simp [intOp] at ho <;> subst ho <;>
      simp [execOp,hk.ev hx,hk.ev hy,eqGuard,binOp,Op.intArith,Op.intCmp,BEq.beq,bne]) h

theorem wrap_i64 {a:Int} (h1 : -9223372036854775808≤a) (h2:a≤9223372036854775807):IntKind.i64.wrap a=a:=IntWalk.i64_in a ⟨h1,h2⟩

/-- A sum that fits. -/
theorem TL.add (hF : Open F) {xt yt : TypeId} {x y : Operand} {a b : Int} (hx : ev σ x = some (.int .i64 a)) (hy : ev σ y = some (.int .i64 b)) (h1 : -9223372036854775808 ≤ a + b) (h2 : a + b ≤ 9223372036854775807) (hn : Nat.blt d n = true)
    (h:TL F P S w0 n ops Q rest ds ((d,.int .i64 (a+b))::σ) η):TL F P S w0 n ops Q (⟨some d,.binOp .add xt x y yt,ty,pos,af,none⟩::rest) ds σ η :=
  TL.bin hF hx hy (by simp [intOp,wrap_i64 h1 h2]) hn h
theorem TL.sub (hF : Open F) {xt yt : TypeId} {x y : Operand} {a b : Int} (hx : ev σ x = some (.int .i64 a)) (hy : ev σ y = some (.int .i64 b)) (h1 : -9223372036854775808 ≤ a - b) (h2 : a - b ≤ 9223372036854775807) (hn : Nat.blt d n = true)
    (h:TL F P S w0 n ops Q rest ds ((d,.int .i64 (a - b))::σ) η):TL F P S w0 n ops Q (⟨some d,.binOp .sub xt x y yt,ty,pos,af,none⟩::rest) ds σ η :=
  TL.bin hF hx hy (by simp [intOp,wrap_i64 h1 h2]) hn h
theorem TL.mul (hF : Open F) {xt yt : TypeId} {x y : Operand} {a b : Int} (hx : ev σ x = some (.int .i64 a)) (hy : ev σ y = some (.int .i64 b)) (h1 : -9223372036854775808 ≤ a * b) (h2 : a * b ≤ 9223372036854775807) (hn : Nat.blt d n = true)
    (h:TL F P S w0 n ops Q rest ds ((d,.int .i64 (a*b))::σ) η):TL F P S w0 n ops Q (⟨some d,.binOp .mul xt x y yt,ty,pos,af,none⟩::rest) ds σ η :=
  TL.bin hF hx hy (by simp [intOp,wrap_i64 h1 h2]) hn h
/-- Two bools. -/
theorem TL.not (hF : Open F) {xt : TypeId} {x : Operand} {b : Bool} (hx : ev σ x = some (.bool b)) (hn : Nat.blt d n = true)
    (h:TL F P S w0 n ops Q rest ds ((d,.bool (!b))::σ) η):TL F P S w0 n ops Q (⟨some d,.unOp .not xt x,ty,pos,af,none⟩::rest) ds σ η :=
  TL.pure hF (by intro c; simp) hn (fun a w hk _=>by simp [execOp,hk.ev hx,Op.unary]) h
theorem TL.extract (hF : Open F) {x : Operand} {vs : Array Value} {i : Nat} {v : Value} (hx : ev σ x = some (.tuple vs)) (hi : vs[i]? = some v) (hn : Nat.blt d n = true)
    (h:TL F P S w0 n ops Q rest ds ((d,v)::σ) η):TL F P S w0 n ops Q (⟨some d,.extract x i,ty,pos,af,none⟩::rest) ds σ η :=
  TL.pure hF (by intro c; simp) hn (fun a w hk _=>by simp [execOp,hk.ev hx,Instr.extract,hi]) h
theorem TL.makeFunc (hF : Open F) {fn : Fn} {first cap : Array Operand} {fv cv : List Value} (h1 : evs σ first.toList = some fv) (h2 : evs σ cap.toList = some cv) (hn : Nat.blt d n = true)
    (h:TL F P S w0 n ops Q rest ds ((d,.func fn fv.toArray cv.toArray)::σ) η):TL F P S w0 n ops Q (⟨some d,.makeFunc fn first cap,ty,pos,af,none⟩::rest) ds σ η :=
  TL.pure hF (by intro c; simp) hn (fun a w hk _=>by
    simp [execOp,Instr.makeFunc,hk.evs h1,hk.evs h2]) h

/-! A guard that is not decided -/
theorem TL.gs {p:Prop} [Decidable p] {l:List Oper} (hd:p→TL F P S w0 n ops Q l ds σ η) (hf:¬ p→TL F P S w0 n ops Q l ds σ η):TL F P S w0 n ops Q l ds σ η:=by
  by_cases h:p
  · exact hd h
  · exact hf h
theorem TL.gd {p:Prop} [Decidable p] {l:List Oper} {t:Nat} (_:lk σ t=some (.bool (decide p))) (hd:p→TL F P S w0 n ops Q l ds σ η) (hf:¬ p→TL F P S w0 n ops Q l ds σ η):TL F P S w0 n ops Q l ds σ η:=TL.gs hd hf
theorem TL.gb {b:Bool} {l:List Oper} {t:Nat} (_:lk σ t=some (.bool b)) (hd:b=true→TL F P S w0 n ops Q l ds σ η) (hf:b=false→TL F P S w0 n ops Q l ds σ η):TL F P S w0 n ops Q l ds σ η:=by
  cases b
  · exact hf rfl
  · exact hd rfl
end
end Go.Sl
/- Memory, calls, the entry and the end of a function. -/
namespace Go.Sl

class Und (P:Program) (t:TypeId) (d:outParam TypeDesc):Prop where
  eq:P.underlying t=some d
class Inf (P:Program) (t:TypeId) (z:outParam Value) (sz bt:outParam Nat):Prop where
  eq':(P.info? t).map (fun i=>(i.zero,i.size,i.bytes))=some (some z,sz,bt)
theorem Inf.eq {P:Program} {t:TypeId} {z:Value} {sz bt:Nat} (h:Inf P t z sz bt):∃ i,P.info? t=some i∧i.zero=some z∧i.size=sz∧i.bytes=bt:=by
  have:=h.eq'
  cases hi:P.info? t with
  | none=>simp [hi] at this
  | some i=>simp [hi] at this; exact ⟨i,rfl,this.1,this.2.1,this.2.2⟩
class Ag (P:Program) (t:TypeId) (b:outParam Bool):Prop where
  eq:∀ w,(isAgg t).run P w = .ok b w
/-- A function with a body is entered. -/
class Ent (P:Program) (g:FuncId):Prop where
  eq:∀ args w,(callFunc g args).run P w = .ok (.enter g args) w
/-- The address of a field. -/
class FdA (P:Program) (s:TypeId) (f:Nat) (off:outParam Nat):Prop where
  eq:∀ b o w,(Instr.fieldAt s (.pointer (some ⟨b,o,none⟩)) f).run P w = .ok (.pointer (some ⟨b,o+off,none⟩)) w

theorem run_underlying {P:Program} {t:TypeId} {d:TypeDesc} [h:Und P t d] (w:World):(underlying t).run P w = .ok d w:=by simp [underlying,h.eq]
theorem run_sizeOf {P:Program} {t:TypeId} {z:Value} {sz bt:Nat} [h:Inf P t z sz bt] (w:World):(sizeOf t).run P w = .ok sz w:=by
  obtain ⟨i,h1,h2,h3,h4⟩:=h.eq; simp [sizeOf,typeInfo,h1,h3]
theorem run_zeroValue {P:Program} {t:TypeId} {z:Value} {sz bt:Nat} [h:Inf P t z sz bt] (w:World):(zeroValue t).run P w = .ok z w:=by
  obtain ⟨i,h1,h2,h3,h4⟩:=h.eq; simp [zeroValue,typeInfo,h1,h2]
theorem run_typeInfo {P:Program} {t:TypeId} {z:Value} {sz bt:Nat} [h:Inf P t z sz bt]:∃ i:TypeInfo,(∀ w,(typeInfo t).run P w = .ok i w)∧i.zero=some z∧i.size=sz∧i.bytes=bt:=by
  obtain ⟨i,h1,h2,h3,h4⟩:=h.eq; exact ⟨i,fun w=>by simp [typeInfo,h1],h2,h3,h4⟩

/-- An address holds a value. -/
inductive At (S:Nat→Prop) (w0:World) (η:Heap) (a:Addr) (v:Value):Prop
  | rd (h:S a.block) (hc:w0.cell? a=some v)
  | own (seg:Seg) (hs:seg∈η) (cs:Array Value) (e:TypeId) (fz:Nat × Nat) (hp:(a.block,Obj.cells cs e fz)∈seg) (hc:cs[a.off]?=some v) (hsp:a.spot=none)

variable {S:Nat→Prop} {w0:World} {η:Heap} {w:World}

theorem At.cell {a:Addr} {v:Value} (h:At S w0 η a v) (hh:Hp S w0 η w):w.cell? a=some v:=by
  cases h with
  | rd h hc =>
    have:=(hh.same _ h).2
    simp only [World.cell?,this] at hc ⊢
    exact hc
  | own seg hs cs e fz hp hc hsp =>
    have:=(hh.own _ (List.mem_flatten.2 ⟨seg,hs,hp⟩)).1
    simp only at this
    simp [World.cell?,this,hsp,hc]

theorem At.own' {i:Nat} {b:Nat} {cs:Array Value} {e:TypeId} {fz:Nat × Nat} {off:Nat} {v:Value} (hi:η[i]?=some [(b,.cells cs e fz)]) (hc:cs[off]?=some v):At S w0 η ⟨b,off,none⟩ v :=
  .own _ (List.mem_of_getElem? hi) cs e fz (by simp) hc rfl

theorem Hp.lt (hh:Hp S w0 η w) {p:Nat × Obj} (h:p∈η.flatten):p.1<w.heap.size:=(Array.getElem?_eq_some_iff.1 (hh.own p h).1).1

/-- A new block. -/
theorem Hp.alloc (hh:Hp S w0 η w) (o:Obj):Hp S w0 ([(w.heap.size,o)]::η) { w with heap:=w.heap.push o }:=by
  refine ⟨hh.os,hh.tape,hh.output,hh.drawn,by simp; have:=hh.size; omega,fun k hk=>?_,fun p hp=>?_,?_⟩
  · have h1:=hh.same k hk
    refine ⟨h1.1,?_⟩
    rw [Array.getElem?_push,if_neg (by have:=hh.size; omega)]
    exact h1.2
  · simp only [List.flatten_cons,List.mem_append,List.mem_singleton] at hp
    rcases hp with rfl | hp
    · exact ⟨by simp,fun hs=>by have:=(hh.same _ hs).1; have:=hh.size; simp only at *; omega⟩
    · have h1:=hh.lt hp
      have h2:=hh.own p hp
      refine ⟨?_,h2.2⟩
      rw [Array.getElem?_push,if_neg (by omega)]
      exact h2.1
  · simp only [List.flatten_cons,List.map_append,List.map_cons,List.map_nil]
    rw [List.cons_append,List.nil_append,List.nodup_cons]
    refine ⟨fun hm=>?_,hh.once⟩
    obtain ⟨p,hp,he⟩:=List.mem_map.1 hm
    have:=hh.lt hp
    omega

/-- The world behind a turn of one block. -/
def putBlk (w:World) (b:Nat) (o:Obj):World:={ w with heap:=w.heap.setIfInBounds b o }

/-- A turn of the one block of a segment. -/
theorem Hp.turn {pre post:Heap} {b:Nat} {o:Obj} (hh:Hp S w0 (pre++[(b,o)]::post) w) (o':Obj):Hp S w0 (pre++[(b,o')]::post) (putBlk w b o'):=by
  have hb:(b,o)∈(pre++[(b,o)]::post).flatten:=by simp
  have hlt:=hh.lt hb
  have hns:=(hh.own _ hb).2
  have hon:=hh.once
  simp only [List.flatten_append,List.flatten_cons,List.map_append,List.map_cons,List.cons_append,List.nil_append] at hon
  have hnd:=List.nodup_append.1 hon
  have hnd2:=List.nodup_cons.1 hnd.2.1
  refine ⟨hh.os,hh.tape,hh.output,hh.drawn,by simp [putBlk]; exact hh.size,fun k hk=>?_,fun p hp=>?_,?_⟩
  · have h1:=hh.same k hk
    refine ⟨h1.1,?_⟩
    have hne:b≠k:=fun e=>hns (by simpa [e] using hk)
    simp only [putBlk]
    rw [Array.getElem?_setIfInBounds_ne hne]
    exact h1.2
  · simp only [List.flatten_append,List.flatten_cons,List.mem_append,List.mem_singleton] at hp
    have key:∀ q:Nat × Obj,q∈(pre++[(b,o)]::post).flatten→q.1≠b→(putBlk w b o').heap[q.1]?=some q.2∧¬ S q.1:=fun q hq hne=>by
      have h2:=hh.own q hq
      refine ⟨?_,h2.2⟩
      simp only [putBlk]
      rw [Array.getElem?_setIfInBounds_ne (Ne.symm hne)]
      exact h2.1
    rcases hp with hp | rfl | hp
    · refine key p (by simp only [List.flatten_append,List.mem_append]; exact .inl hp) fun e=>?_
      exact hnd.2.2 p.1 (List.mem_map.2 ⟨p,hp,rfl⟩) b (by simp) e
    · exact ⟨by simp [putBlk,hlt],hns⟩
    · refine key p (by simp only [List.flatten_append,List.flatten_cons,List.mem_append]; exact .inr (.inr hp)) fun e=>?_
      exact hnd2.1 (List.mem_map.2 ⟨p,hp,e⟩)
  · simpa using hh.once

/-- Facts on what nobody owns, after owned blocks have been given up. -/
theorem Hp.weaken {η':Heap} (hh:Hp S w0 η w) (hs:η'.flatten.Sublist η.flatten):Hp S w0 η' w :=
  ⟨hh.os,hh.tape,hh.output,hh.drawn,hh.size,hh.same,fun p hp=>hh.own p (hs.subset hp),hh.once.sublist (hs.map _)⟩

theorem flat_sub:∀ {η' η:Heap},η'.Sublist η→η'.flatten.Sublist η.flatten:=by
  intro η' η hs
  induction hs with
  | slnil=>exact List.Sublist.refl _
  | cons a _ ih=>exact ih.trans (by simp)
  | cons_cons a _ ih=>simp only [List.flatten_cons]; exact List.Sublist.append (List.Sublist.refl _) ih
theorem Hp.seg {η':Heap} (hh:Hp S w0 η w) (hs:η'.Sublist η):Hp S w0 η' w:=hh.weaken (flat_sub hs)
theorem Hp.start (w:World):Hp (· < w.heap.size) w [] w:=⟨rfl,rfl,rfl,Nat.le_refl _,Nat.le_refl _,fun k hk=>⟨hk,rfl⟩,by simp,by simp⟩
theorem Hp.below {w w':World} {η:Heap} (hh:Hp (· < w.heap.size) w η w'):RowKit.Below w.heap.size w w' :=
  ⟨hh.os,hh.tape,hh.output,hh.size,fun k hk=>(hh.same k hk).2⟩

section
variable {F:Fence} {P:Program} {n:Nat} {Q:Exit→Act→World→Prop} {ds:List Deferred} {σ:Env} {ops:Array Oper} {rest:List Oper} {d:Nat} {ty:TypeId} {pos:String} {af:Array Edge}

theorem run_loadVar1 {t:TypeId} [Ag P t false] {a:Addr} {v:Value} (h:w.cell? a=some v):(loadVar t a).run P w = .ok v w:=by
  simp [loadVar,Ag.eq (t:=t) (b:=false),h]

theorem TL.load (hF : Open F) {t : TypeId} [Ag P t false] {x : Operand} {a : Addr} {v : Value} (hx : ev σ x = some (.pointer (some a))) (hv : At S w0 η a v) (hn : Nat.blt d n = true)
    (h:TL F P S w0 n ops Q rest ds ((d,v)::σ) η):TL F P S w0 n ops Q (⟨some d,.load t x,ty,pos,af,none⟩::rest) ds σ η :=
  TL.pure hF (by intro c; simp) hn (fun a w hk hh=>by simp [execOp,hk.ev hx,Instr.loadAt,Instr.sureAddr,run_loadVar1 (hv.cell hh)]) h

theorem run_loadCellsFrom {a : Addr} (hsp : a.spot = none) (f : Nat → Value) : ∀ (m i : Nat) (acc : Array Value), (∀ j, i ≤ j → j < i + m → w.cell? (a.add j) = some (f j)) →
    (loadCellsFrom a i m acc).run P w = .ok (acc++((List.range' i m).map f).toArray) w
  | 0,i,acc,_=>by simp [loadCellsFrom]
  | m+1,i,acc,h=>by
    have h0:=h i (Nat.le_refl _) (by omega)
    simp only [loadCellsFrom,Sem.run_bind,run_load,h0,Result.andThen_ok]
    rw [run_loadCellsFrom hsp f m (i+1) _ (fun j h1 h2=>h j (by omega) (by omega))]
    simp [List.range'_succ]

theorem TL.loadA (hF : Open F) {t : TypeId} [Ag P t true] {z : Value} {sz bt : Nat} [Inf P t z sz bt] {x : Operand} {b o : Nat} (cs : List Value) (hx : ev σ x = some (.pointer (some ⟨b, o, none⟩))) (hl : cs.length = sz)
    (hv:∀ i v,cs[i]?=some v→At S w0 η ⟨b,o+i,none⟩ v) (hn:Nat.blt d n=true)
    (h:TL F P S w0 n ops Q rest ds ((d,.agg cs.toArray)::σ) η):TL F P S w0 n ops Q (⟨some d,.load t x,ty,pos,af,none⟩::rest) ds σ η :=
  TL.pure hF (by intro c; simp) hn (fun a w hk hh=>by
    have key:(loadCells ⟨b,o,none⟩ sz).run P w = .ok cs.toArray w:=by
      unfold loadCells
      rw [run_loadCellsFrom rfl (fun i=>cs.getD i undef) sz 0 #[] (fun j _ h2=>by
        have h3:cs[j]?=some (cs.getD j undef):=by
          have:j<cs.length:=by omega
          simp [List.getD_eq_getElem?_getD,this]
        have h4:=(hv j _ h3).cell hh
        have:(⟨b,o,none⟩:Addr).add j=⟨b,o+j,none⟩:=by
          unfold Addr.add; split
          · subst_vars; rfl
          · rfl
        rw [this]; exact h4)]
      congr 1
      simp only [Array.empty_append]
      congr 1
      apply List.ext_getElem?
      intro i
      rw [List.getElem?_map]
      by_cases hi:i<sz
      · rw [List.getElem?_range' hi]; simp [List.getD_eq_getElem?_getD,hl,hi]
      · simp [hl,hi]
    simp [execOp,hk.ev hx,Instr.loadAt,Instr.sureAddr,loadVar,Ag.eq (t:=t) (b:=true),run_sizeOf (z:=z) (sz:=sz) (bt:=bt),key]) h

theorem run_storeCells {e : TypeId} {b : Nat} : ∀ (vs : List Value) (cs : Array Value) (o i : Nat) (w : World), w.heap[b]? = some (.cells cs e (0, 0)) → o + i + vs.length ≤ cs.size → (∀ v ∈ vs, v.oneCell' = true) →
    (storeCells ⟨b,o,none⟩ vs i).run P w = .ok () (putBlk w b (.cells (vs.zipIdx.foldl (fun cs (c,j)=>cs.setIfInBounds (o+i+j) c) cs) e (0,0)))
  | [],cs,o,i,w,hb,_,_=>by
    have hlt:=(Array.getElem?_eq_some_iff.1 hb).1
    have he:=(Array.getElem?_eq_some_iff.1 hb).2
    simp only [storeCells,Sem.run_pure,List.zipIdx_nil,List.foldl_nil,putBlk]
    congr 1
    cases w; simp only at hlt he ⊢
    congr 1
    apply Array.ext
    · simp
    · intro j h1 h2
      by_cases hj:b=j
      · subst hj; simp [he]
      · rw [Array.getElem_setIfInBounds_ne (by simpa using h2) hj]
  | v::vs,cs,o,i,w,hb,hl,ho=>by
    have hlt:=(Array.getElem?_eq_some_iff.1 hb).1
    simp only [List.length_cons] at hl
    have ha:(⟨b,o,none⟩:Addr).add i=⟨b,o+i,none⟩:=by
      unfold Addr.add; split
      · subst_vars; rfl
      · rfl
    have hc:w.cell? ⟨b,o+i,none⟩=some (cs[o+i]'(by omega)):=by
      simp only [World.cell?,hb]
      simp
    have hf:w.frozen? ⟨b,o+i,none⟩=false:=by simp [World.frozen?,hb]
    have hset:w.setCell ⟨b,o+i,none⟩ v=putBlk w b (.cells (cs.setIfInBounds (o+i) v) e (0,0)):=by
      obtain ⟨hlt',he'⟩:=Array.getElem?_eq_some_iff.1 hb
      simp only [World.setCell,putBlk]
      congr 1
      apply Array.ext
      · simp
      · intro j h1 h2
        by_cases hj:b=j
        · subst hj; rw [Array.getElem_modify,if_pos rfl]; simp [he']
        · rw [Array.getElem_modify,if_neg hj,Array.getElem_setIfInBounds_ne _ hj]
    simp only [storeCells,Sem.run_bind,ha]
    rw [run_store _ _ _ _ _ (ho v (by simp))]
    simp only [hc,hf,Bool.false_eq_true,if_false,Result.andThen_ok,hset]
    rw [run_storeCells (e:=e) vs (cs.setIfInBounds (o+i) v) o (i+1) _ (by simp [putBlk,hlt]) (by simp; omega) (fun u hu=>ho u (by simp [hu]))]
    congr 1
    simp only [putBlk,Array.setIfInBounds_setIfInBounds]
    congr 3
    simp only [List.zipIdx_cons,List.foldl_cons,Nat.add_zero,Nat.zero_add]
    have:∀ (l:List Value) (k:Nat) (c0:Array Value),List.foldl (fun cs (x:Value × Nat)=>cs.setIfInBounds (o+(i+1)+x.2) x.1) c0 (l.zipIdx k)=List.foldl (fun cs (x:Value × Nat)=>cs.setIfInBounds (o+i+x.2) x.1) c0 (l.zipIdx (k+1)):=by
      intro l
      induction l with
      | nil=>intro k c0; rfl
      | cons u l ih=>intro k c0; simp only [List.zipIdx_cons,List.foldl_cons]; rw [ih,show o+(i+1)+k=o+i+(k+1) from by omega]
    exact this vs 0 _

/-- A store of one cell. -/
theorem TL.store (hF : Open F) {t : TypeId} {z : Value} {bt : Nat} [Inf P t z 1 bt] {x y : Operand} {b o : Nat} {v : Value} {pre post : Heap} {cs : Array Value} {e : TypeId} (hx : ev σ x = some (.pointer (some ⟨b, o, none⟩))) (hy : ev σ y = some v)
    (hv:v.oneCell'=true) (he:η=pre++[(b,.cells cs e (0,0))]::post) (ho:o<cs.size) (h:TL F P S w0 n ops Q rest ds σ (pre++[(b,.cells (cs.setIfInBounds o v) e (0,0))]::post)) :
    TL F P S w0 n ops Q (⟨none,.store t x y,ty,pos,af,none⟩::rest) ds σ η :=
  TL.act hF (by intro c; simp) fun a w hk hh=>by
    subst he
    have hb:=(hh.own (b,.cells cs e (0,0)) (by simp)).1
    have hcs:v.cells = #[v]:=by cases v <;> simp_all [Value.oneCell',Value.cells]
    refine ⟨_,_,?_,hh.turn (.cells (cs.setIfInBounds o v) e (0,0)),h⟩
    simp only [execOp,hk.ev hx,hk.ev hy,Instr.storeAt,Instr.sureAddr,storeVar,hcs,Sem.run_bind,Sem.run_pure,Result.andThen_ok,run_sizeOf (z:=z) (sz:=1) (bt:=bt)]
    simp only [List.size_toArray,List.length_cons,List.length_nil,Nat.zero_add,ne_eq,not_true_eq_false,if_false]
    rw [run_storeCells [v] cs o 0 w hb (by simp; omega) (by simp [hv])]
    simp

/-- A store of several cells. -/
theorem TL.storeA (hF : Open F) {t : TypeId} {z : Value} {sz bt : Nat} [Inf P t z sz bt] {x y : Operand} {b o : Nat} {vs : List Value} {pre post : Heap} {cs : Array Value} {e : TypeId} (hx : ev σ x = some (.pointer (some ⟨b, o, none⟩))) (hy : ev σ y = some (.agg vs.toArray))
    (hl:vs.length=sz) (hv:∀ v∈vs,v.oneCell'=true) (he:η=pre++[(b,.cells cs e (0,0))]::post) (ho:o+sz≤cs.size) (h:TL F P S w0 n ops Q rest ds σ (pre++[(b,.cells (vs.zipIdx.foldl (fun cs (c,j)=>cs.setIfInBounds (o+j) c) cs) e (0,0))]::post)) :
    TL F P S w0 n ops Q (⟨none,.store t x y,ty,pos,af,none⟩::rest) ds σ η :=
  TL.act hF (by intro c; simp) fun a w hk hh=>by
    subst he
    have hb:=(hh.own (b,.cells cs e (0,0)) (by simp)).1
    refine ⟨_,_,?_,hh.turn (.cells (vs.zipIdx.foldl (fun cs (c,j)=>cs.setIfInBounds (o+j) c) cs) e (0,0)),h⟩
    simp only [execOp,hk.ev hx,hk.ev hy,Instr.storeAt,Instr.sureAddr,storeVar,Value.cells,Sem.run_bind,Sem.run_pure,Result.andThen_ok,run_sizeOf (z:=z) (sz:=sz) (bt:=bt)]
    simp only [List.size_toArray,hl,ne_eq,not_true_eq_false,if_false]
    rw [run_storeCells vs cs o 0 w hb (by simp; omega) hv]
    simp

/-- A store of one cell, by the place of its block among the owned ones. -/
theorem TL.storeI (hF : Open F) {t : TypeId} {z : Value} {bt : Nat} [Inf P t z 1 bt] {x y : Operand} {b o : Nat} {v : Value} (i : Nat) {cs : Array Value} {e : TypeId} (hx : ev σ x = some (.pointer (some ⟨b, o, none⟩))) (hy : ev σ y = some v)
    (hi:η[i]?=some [(b,.cells cs e (0,0))]) (hv:v.oneCell'=true) (ho:o<cs.size) (h:TL F P S w0 n ops Q rest ds σ (η.set i [(b,.cells (cs.setIfInBounds o v) e (0,0))])) :
    TL F P S w0 n ops Q (⟨none,.store t x y,ty,pos,af,none⟩::rest) ds σ η:=by
  obtain ⟨hlt,he⟩:=List.getElem?_eq_some_iff.1 hi
  refine TL.store hF (z:=z) (bt:=bt) hx hy hv (pre:=η.take i) (post:=η.drop (i+1)) (cs:=cs) (e:=e) ?_ ho ?_
  · rw [← he,List.getElem_cons_drop,List.take_append_drop]
  · rwa [List.set_eq_take_append_cons_drop,if_pos hlt] at h
theorem TL.storeAI (hF : Open F) {t : TypeId} {z : Value} {sz bt : Nat} [Inf P t z sz bt] {x y : Operand} {b o : Nat} (vs : List Value) (i : Nat) {cs : Array Value} {e : TypeId} (hx : ev σ x = some (.pointer (some ⟨b, o, none⟩))) (hy : ev σ y = some (.agg vs.toArray))
    (hi:η[i]?=some [(b,.cells cs e (0,0))]) (hl:vs.length=sz) (hv:∀ v∈vs,v.oneCell'=true) (ho:o+sz≤cs.size) (h:TL F P S w0 n ops Q rest ds σ (η.set i [(b,.cells (vs.zipIdx.foldl (fun cs (c,j)=>cs.setIfInBounds (o+j) c) cs) e (0,0))])) :
    TL F P S w0 n ops Q (⟨none,.store t x y,ty,pos,af,none⟩::rest) ds σ η:=by
  obtain ⟨hlt,he⟩:=List.getElem?_eq_some_iff.1 hi
  refine TL.storeA hF (z:=z) (bt:=bt) hx hy hl hv (pre:=η.take i) (post:=η.drop (i+1)) (cs:=cs) (e:=e) ?_ ho ?_
  · rw [← he,List.getElem_cons_drop,List.take_append_drop]
  · rwa [List.set_eq_take_append_cons_drop,if_pos hlt] at h

/-- A new variable. -/
theorem TL.alloc (hF : Open F) {e : TypeId} {z : Value} {sz bt : Nat} [Inf P e z sz bt] (hn : Nat.blt d n = true)
    (h:∀ b,TL F P S w0 n ops Q rest ds ((d,.pointer (some ⟨b,0,none⟩))::σ) ([(b,.cells z.cells e (0,0))]::η)):TL F P S w0 n ops Q (⟨some d,.alloc e,ty,pos,af,none⟩::rest) ds σ η :=
  TL.val hF (by intro c; simp) hn fun a w hk hh=>⟨_,_,_,by
    simp [execOp,Instr.alloc,run_zeroValue (z:=z) (sz:=sz) (bt:=bt),newVar,newRow],hh.alloc _,h _⟩
theorem TL.box (hF : Open F) {e : TypeId} {x : Operand} {v : Value} (hx : ev σ x = some v) (hn : Nat.blt d n = true)
    (h:∀ b,TL F P S w0 n ops Q rest ds ((d,.pointer (some ⟨b,0,none⟩))::σ) ([(b,.cells v.cells e (0,0))]::η)):TL F P S w0 n ops Q (⟨some d,.box e x,ty,pos,af,none⟩::rest) ds σ η :=
  TL.val hF (by intro c; simp) hn fun a w hk hh=>⟨_,_,_,by
    simp [execOp,hk.ev hx,Instr.box,newVar,newRow],hh.alloc _,h _⟩
theorem TL.makeMap (hF : Open F) {t : TypeId} (hn : Nat.blt d n = true)
    (h:∀ b,TL F P S w0 n ops Q rest ds ((d,.map (some b))::σ) ([(b,.map #[] 0)]::η)):TL F P S w0 n ops Q (⟨some d,.makeMap t none,ty,pos,af,none⟩::rest) ds σ η :=
  TL.val hF (by intro c; simp) hn fun a w hk hh=>⟨_,_,_,by
    simp [execOp,Instr.makeMap],hh.alloc _,h _⟩
theorem TL.fieldAddr (hF : Open F) {s : TypeId} {f off : Nat} [hfd : FdA P s f off] {x : Operand} {b o : Nat} (hx : ev σ x = some (.pointer (some ⟨b, o, none⟩))) (hn : Nat.blt d n = true)
    (h:TL F P S w0 n ops Q rest ds ((d,.pointer (some ⟨b,o+off,none⟩))::σ) η):TL F P S w0 n ops Q (⟨some d,.fieldAddr s x f,ty,pos,af,none⟩::rest) ds σ η :=
  TL.pure hF (by intro c; simp) hn (fun a w hk _=>by simp [execOp,hk.ev hx,hfd.eq]) h
theorem TL.len (hF : Open F) {t e : TypeId} [Und P t (.slice e)] {x : Operand} {a : Option Addr} {l c : Nat} (hx : ev σ x = some (.slice a l c)) (hn : Nat.blt d n = true)
    (h:TL F P S w0 n ops Q rest ds ((d,.int .i64 (l:Int))::σ) η):TL F P S w0 n ops Q (⟨some d,.call ⟨.builtin .len,#[x],#[t]⟩,ty,pos,af,none⟩::rest) ds σ η :=
  TL.pure hF (by intro c; simp) hn (fun a w hk _=>by
    simp [execOp,resolve,invoke,builtin,Builtin.len_,hk.ev hx,run_underlying (t:=t) (d:=.slice e),goInt]) h
/-- The address of an element. -/
def sAt (a:Option Addr) (k:Nat):Addr:=⟨(a.getD default).block,(a.getD default).off+k,none⟩
theorem TL.indexAddr (hF : Open F) {t e : TypeId} [Und P t (.slice e)] {z : Value} {sz bt : Nat} [Inf P e z sz bt] {x y : Operand} {a : Option Addr} {l c : Nat} {k : IntKind} {i : Int} (hx : ev σ x = some (.slice a l c)) (hy : ev σ y = some (.int k i))
    (ha:∃ ad,a=some ad∧ad.spot=none) (h0:0≤i) (hl:i<l) (hn:Nat.blt d n=true)
    (h:TL F P S w0 n ops Q rest ds ((d,.pointer (some (sAt a (i.toNat*sz))))::σ) η):TL F P S w0 n ops Q (⟨some d,.indexAddr t x y,ty,pos,af,none⟩::rest) ds σ η:=by
  obtain ⟨ad,rfl,hsp⟩:=ha
  refine TL.pure hF (by intro c; simp) hn (fun a w hk _=>?_) h
  have hadd:ad.add (i.toNat*sz)=sAt (some ad) (i.toNat*sz):=by
    obtain ⟨b,o,s⟩:=ad
    simp only at hsp
    subst hsp
    unfold Addr.add sAt; split
    · rename_i h; simp [h]
    · rfl
  simp [execOp,hk.ev hx,hk.ev hy,Instr.indexAt,asIntOf,run_underlying (t:=t) (d:=.slice e),run_sizeOf (t:=e) (z:=z) (sz:=sz) (bt:=bt),h0,hl,hadd]

/-! Functions -/
/-- A function's contract: it returns. -/
def Rt (P:Program) (g:FuncId) (args:Array Value) (S:Nat→Prop) (w0:World) (η:Heap) (R:Value→Heap→Prop):Prop :=
  ∀ w,Hp S w0 η w→Calls P g args w fun e w'=>∃ v η',e = .returned v∧Hp S w0 η' w'∧R v η'
/-- It returns, or panics. -/
def RtE (P:Program) (g:FuncId) (args:Array Value) (S:Nat→Prop) (w0:World) (η:Heap) (R:Value→Heap→Prop) (E:List PanicEntry→Heap→Prop):Prop :=
  ∀ w,Hp S w0 η w→Calls P g args w fun e w'=>(∃ v η',e = .returned v∧Hp S w0 η' w'∧R v η')∨(∃ ch η',e = .panicked ch∧Hp S w0 η' w'∧E ch η')

theorem Rt.mono {g:FuncId} {args:Array Value} {R R':Value→Heap→Prop} (h:Rt P g args S w0 η R) (hr:∀ v η',R v η'→R' v η'):Rt P g args S w0 η R' :=
  fun w hh=>(h w hh).mono fun _e _w' ⟨v,η',h1,h2,h3⟩=>⟨v,η',h1,h2,hr _ _ h3⟩
theorem Rt.toE {g:FuncId} {args:Array Value} {R:Value→Heap→Prop} {E:List PanicEntry→Heap→Prop} (h:Rt P g args S w0 η R):RtE P g args S w0 η R E :=
  fun w hh=>(h w hh).mono fun _e _w' ⟨v,η',h1,h2,h3⟩=>.inl ⟨v,η',h1,h2,h3⟩
theorem callsIn_open {F:Fence} (hF:Open F) {m:Nat} {f:FuncId} {args:Array Value} {R:Ending→World→Prop} (h:Calls P f args w R):CallsIn F m P f args w R:=by
  have hI:∀ mm,Machine.fenced P F mm:=fun mm g _=>⟨fun h=>(by rw [hF.alive] at h; cases h),.inl (hF.fn _),fun _ _=>hF.fn _,fun _ h=>(by rw [hF.depth] at h; cases h)⟩
  refine ⟨hF.fn f,fun cs _=>?_⟩
  obtain ⟨e,w',fr,r,s,x⟩:=h cs
  refine ⟨e,w',fr,r,?_,x⟩
  cases e with
  | returned v=>exact (StepsIn.of_steps s).mono fun mm _=>hI mm
  | panicked ch=>exact (StepsIn.of_steps s).mono fun mm _=>hI mm
  | outgrown=>exact s

/-- The function that a call enters, and its arguments. -/
def callOf (σ:Env) (f:Operand) (args:Array Operand):Option (FuncId × List Value) :=
  match ev σ f,evs σ args.toList with
  | some (.func (.func g) fst cap),some vs=>some (g,fst.toList++vs++cap.toList)
  | _,_=>none
theorem callOf_spec {f : Operand} {args : Array Operand} {g : FuncId} {al : List Value} (h : callOf σ f args = some (g, al)) :
    ∃ fst cap vs,ev σ f=some (.func (.func g) fst cap)∧evs σ args.toList=some vs∧al.toArray=fst++vs.toArray++cap:=by
  unfold callOf at h
  split at h
  · rename_i g' fst cap vs h1 h2
    simp at h
    obtain ⟨rfl,rfl⟩:=h
    exact ⟨fst,cap,vs,h1,h2,by simp⟩
  · cases h

theorem TL.callG (hF : Open F) {dst : Option Nat} {f : Operand} {args : Array Operand} {ats : Array TypeId} {g : FuncId} {al : List Value} [Ent P g] {R : Value → Heap → Prop} {E : List PanicEntry → Heap → Prop}
    (hc:RtE P g al.toArray S w0 η R E) (ha:callOf σ f args=some (g,al)) (h:∀ v η',R v η'→∀ a w,Kn n ds σ a→Hp S w0 η' w→wpListIn F 0 P ops Q rest (a.put dst v) w) (he:∀ ch η',E ch η'→TQ S w0 n (Q (.panic ch)) ds σ η') :
    TL F P S w0 n ops Q (⟨dst,.call ⟨.value f,args,ats⟩,ty,pos,af,none⟩::rest) ds σ η:=TL.op hF rfl (by intro c; simp) fun a w hk hh=>by
  obtain ⟨fst,cap,vs,h1,h2,h3⟩:=callOf_spec ha
  simp only [execOp,resolve,hk.ev h1,hk.evs h2,Sem.run_bind,Deferred.ofValue,Sem.run_pure,Result.andThen_ok,invoke,Ent.eq,Oper.uponIn]
  refine ⟨fun h=>(by rw [hF.depth] at h; cases h),?_⟩
  rw [← h3]
  refine callsIn_open hF ((hc w hh).mono ?_)
  rintro e w' (⟨v,η',rfl,hh',hr⟩ | ⟨ch,η',rfl,hh',hr⟩)
  · exact h v η' hr _ _ hk hh'
  · exact he ch η' hr _ _ hk hh'
/-- A call of a function value that the walk knows. -/
theorem TL.callE (hF : Open F) {f : Operand} {args : Array Operand} {ats : Array TypeId} {g : FuncId} {al : List Value} [Ent P g] {R : Value → Heap → Prop} {E : List PanicEntry → Heap → Prop}
    (hc:RtE P g al.toArray S w0 η R E) (ha:callOf σ f args=some (g,al)) (hn:Nat.blt d n=true) (h:∀ v η',R v η'→TL F P S w0 n ops Q rest ds ((d,v)::σ) η') (he:∀ ch η',E ch η'→TQ S w0 n (Q (.panic ch)) ds σ η') :
    TL F P S w0 n ops Q (⟨some d,.call ⟨.value f,args,ats⟩,ty,pos,af,none⟩::rest) ds σ η :=
  TL.callG hF hc ha (fun v η' hr _a _w hk hh=>h v η' hr _ _ (hk.put (Nat.le_of_ble_eq_true hn) v) hh) he
theorem TL.call (hF : Open F) {f : Operand} {args : Array Operand} {ats : Array TypeId} {g : FuncId} {al : List Value} [Ent P g] {R : Value → Heap → Prop}
    (hc:Rt P g al.toArray S w0 η R) (ha:callOf σ f args=some (g,al)) (hn:Nat.blt d n=true) (h:∀ v η',R v η'→TL F P S w0 n ops Q rest ds ((d,v)::σ) η') :
    TL F P S w0 n ops Q (⟨some d,.call ⟨.value f,args,ats⟩,ty,pos,af,none⟩::rest) ds σ η :=
  TL.callE hF (hc.toE (E:=fun _ _=>False)) ha hn h (fun _ _ h=>h.elim)
/-! The entry of a function, and its end -/
def envOf (args:List Value):Env:=args.zipIdx.map fun (v,i)=>(i,v)
theorem lk_envOf:∀ (args:List Value) (k t:Nat) (v:Value),lk ((args.zipIdx k).map fun (v,i)=>(i,v)) t=some v→∃ j,t=k+j∧args[j]?=some v
  | [],k,t,v,h=>by simp [lk] at h
  | u::r,k,t,v,h=>by
    simp only [List.zipIdx_cons,List.map_cons] at h
    rw [lk_cons] at h
    by_cases hk:k=t
    · rw [if_pos hk] at h
      exact ⟨0,by omega,by simpa using h⟩
    · rw [if_neg hk] at h
      obtain ⟨j,h1,h2⟩:=lk_envOf r (k+1) t v h
      exact ⟨j+1,by omega,by simpa using h2⟩

def post (R:Value→Heap→Prop) (S:Nat→Prop) (w0:World):Ending→World→Prop:=fun e w'=>∃ v η',e = .returned v∧Hp S w0 η' w'∧R v η'
def postE (R:Value→Heap→Prop) (E:List PanicEntry→Heap→Prop) (S:Nat→Prop) (w0:World):Ending→World→Prop :=
  fun e w'=>(∃ v η',e = .returned v∧Hp S w0 η' w'∧R v η')∨(∃ ch η',e = .panicked ch∧Hp S w0 η' w'∧E ch η')

theorem kn_start {args:List Value} {m:Nat} (hm:args.length≤m):Kn m [] (envOf args) { tmps:=args.toArray++Array.replicate (m - args.toArray.size) undef,defers:=[] }:=by
  refine ⟨by simp; omega,rfl,fun t v h=>?_⟩
  obtain ⟨j,h1,h2⟩:=lk_envOf args 0 t v h
  have hj:j<args.length:=(List.getElem?_eq_some_iff.1 h2).1
  rw [Array.getElem?_append_left (by simp; omega)]
  simpa [h1] using h2

theorem Rt.of {g : FuncId} {fn : Func} {c : Code} {args : List Value} {R : Value → Heap → Prop} (hf : P.funcs[g]? = some fn) (hb : fn.body = some c) (hm : Nat.ble args.length fn.ntmps = true)
    (h:T Fence.wide P S w0 fn.ntmps (bodyPost P fn (post R S w0)) c [] (envOf args) η):Rt P g args.toArray S w0 η R:=fun w hh =>
  calls_of_wp hf hb (wpIn_wide.1 (h _ w (kn_start (Nat.le_of_ble_eq_true hm)) hh))
theorem results_run {fn : Func} {ts : List Nat} {vs : List Value} (hr : fn.results = (ts.map ResultVar.tmp).toArray) {a : Act} (hk : Kn n ds σ a) (hv : ts.map (lk σ) = vs.map some) (w : World) :
    (results fn a.tmps).run P w = .ok (if h:vs.toArray.size=1 then vs.toArray[0] else .tuple vs.toArray) w:=by
  have key:∀ (f:ResultVar→Sem Value),(∀ t,f (.tmp t)=pure (a.tmps.getD t undef))→∀ (ts:List Nat) (vs:List Value),ts.map (lk σ)=vs.map some→((ts.map ResultVar.tmp).mapM f).run P w = .ok vs w:=by
    intro f hf ts
    induction ts with
    | nil=>intro vs hv; cases vs <;> simp_all
    | cons t ts ih =>
      intro vs hv
      cases vs with
      | nil=>simp at hv
      | cons v vs =>
        simp only [List.map_cons,List.cons.injEq] at hv
        have h1:=hk.slot _ _ hv.1
        have h2:=ih vs hv.2
        simp only [List.map_cons,List.mapM_cons,Sem.run_bind,hf,Sem.run_pure,Result.andThen_ok,h2]
        simp [Array.getD_eq_getD_getElem?,h1]
  unfold results
  rw [hr,Array.mapM_eq_mapM_toList]
  simp only [Sem.run_bind,Sem.run_map]
  rw [key _ (fun t=>rfl) ts vs hv]
  simp only [Result.andThen_ok,Sem.run_pure]

def lks (σ:Env):List Nat→Option (List Value)
  | []=>some []
  | t::r=>match lk σ t,lks σ r with
    | some v,some vs=>some (v::vs)
    | _,_=>none
theorem lks_map {σ:Env}:∀ {ts:List Nat} {vs:List Value},lks σ ts=some vs→ts.map (lk σ)=vs.map some
  | [],vs,h=>by simp [lks] at h; simp [h]
  | t::r,vs,h=>by
    unfold lks at h
    cases h1:lk σ t with
    | none=>simp [h1] at h
    | some v =>
      cases h2:lks σ r with
      | none=>simp [h1,h2] at h
      | some us=>simp [h1,h2] at h; subst h; simp [h1,lks_map h2]
def retVal:List Value→Value
  | [u]=>u
  | vs=>.tuple vs.toArray
theorem retVal_eq (vs:List Value):(if h:vs.toArray.size=1 then vs.toArray[0] else .tuple vs.toArray)=retVal vs:=by
  match vs with
  | []=>simp [retVal]
  | [u]=>simp [retVal]
  | u1::u2::us=>simp [retVal]

/-- The end of a function: so many results. -/
theorem TQ.rets {fn : Func} (ts : List Nat) (vs : List Value) {v : Value} {R : Value → Heap → Prop} (hr : fn.results = (ts.map ResultVar.tmp).toArray) (hv : lks σ ts = some vs) (he : retVal vs = v) (hR : R v η) :
    TQ S w0 n (bodyPost P fn (post R S w0) .ret) [] σ η:=fun a w hk hh=>by
  refine ⟨hk.defers,v,?_,v,η,rfl,hh,hR⟩
  rw [results_run hr hk (lks_map hv),retVal_eq,he]
theorem TQ.norm {fn:Func} {R:Ending→World→Prop} (h:TQ S w0 n (bodyPost P fn R .ret) ds σ η):TQ S w0 n (bodyPost P fn R .normal) ds σ η:=h
/-! Owned blocks that are given up -/
theorem TQ.pop {K:Act→World→Prop} {s:Seg} (h:TQ S w0 n K ds σ η):TQ S w0 n K ds σ (s::η):=fun a w hk hh=>h a w hk (hh.seg (List.sublist_cons_self _ _))
theorem TQ.hsub {K:Act→World→Prop} (η':Heap) (hs:η'.Sublist η) (h:TQ S w0 n K ds σ η'):TQ S w0 n K ds σ η:=fun a w hk hh=>h a w hk (hh.seg hs)
theorem T.hsub {c:Code} (η':Heap) (hs:η'.Sublist η) (h:T F P S w0 n Q c ds σ η'):T F P S w0 n Q c ds σ η:=fun a w hk hh=>h a w hk (hh.seg hs)
theorem TL.hsub {l:List Oper} (η':Heap) (hs:η'.Sublist η) (h:TL F P S w0 n ops Q l ds σ η'):TL F P S w0 n ops Q l ds σ η:=fun a w hk hh=>h a w hk (hh.seg hs)
end
end Go.Sl
/- What this seat's program says of its types and functions (by program). -/
namespace Go.Proofs.YtdiacobmhkmljaaDoor
open Go.Sl

instance :Ag Tryd.prog 1 false:=⟨fun w=>by simp [isAgg,underlying,Tryd.underlying1]⟩
instance :Inf Tryd.prog 1 .nilFunc 1 8:=⟨by kernel_rfl⟩
instance :Und Tryd.prog 2 (.int .i64):=⟨Tryd.underlying2⟩
instance :Ag Tryd.prog 2 false:=⟨fun w=>by simp [isAgg,underlying,Tryd.underlying2]⟩
instance :Inf Tryd.prog 2 (.int .i64 0) 1 8:=⟨by kernel_rfl⟩
instance :Und Tryd.prog 3 (.int .i64):=⟨Tryd.underlying3⟩
instance :Ag Tryd.prog 3 false:=⟨fun w=>by simp [isAgg,underlying,Tryd.underlying3]⟩
instance :Inf Tryd.prog 3 (.int .i64 0) 1 8:=⟨by kernel_rfl⟩
instance :Und Tryd.prog 4 .bool:=⟨Tryd.underlying4⟩
instance :Ag Tryd.prog 4 false:=⟨fun w=>by simp [isAgg,underlying,Tryd.underlying4]⟩
instance :Inf Tryd.prog 4 (.bool false) 1 1:=⟨by kernel_rfl⟩
instance :Und Tryd.prog 5 (.int .u8):=⟨Tryd.underlying5⟩
instance :Ag Tryd.prog 5 false:=⟨fun w=>by simp [isAgg,underlying,Tryd.underlying5]⟩
instance :Inf Tryd.prog 5 (.int .u8 0) 1 1:=⟨by kernel_rfl⟩
instance :Ag Tryd.prog 7 true:=⟨fun w=>by simp [isAgg,underlying,Tryd.underlying7]⟩
instance :Inf Tryd.prog 7 (.agg #[(.int .i64 0),(.int .i64 0),(.bool false),(.int .u8 0)]) 4 24:=⟨by kernel_rfl⟩
instance :FdA Tryd.prog 7 0 0:=⟨fun b o w=>by kernel_rfl⟩
instance :FdA Tryd.prog 7 1 1:=⟨fun b o w=>by kernel_rfl⟩
instance :FdA Tryd.prog 7 2 2:=⟨fun b o w=>by kernel_rfl⟩
instance :FdA Tryd.prog 7 3 3:=⟨fun b o w=>by kernel_rfl⟩
instance :Ag Tryd.prog 9 false:=⟨fun w=>by simp [isAgg,underlying,Tryd.underlying9]⟩
instance :Und Tryd.prog 12 (.int .u64):=⟨Tryd.underlying12⟩
instance :Ag Tryd.prog 12 false:=⟨fun w=>by simp [isAgg,underlying,Tryd.underlying12]⟩
instance :Inf Tryd.prog 12 (.int .u64 0) 1 8:=⟨by kernel_rfl⟩
instance :Ag Tryd.prog 13 true:=⟨fun w=>by simp [isAgg,underlying,Tryd.underlying13]⟩
instance :FdA Tryd.prog 13 0 0:=⟨fun b o w=>by kernel_rfl⟩
instance :FdA Tryd.prog 13 1 1:=⟨fun b o w=>by kernel_rfl⟩
instance :Ag Tryd.prog 18 true:=⟨fun w=>by simp [isAgg,underlying,Tryd.underlying18]⟩
instance :Inf Tryd.prog 18 (.agg #[(.pointer none)]) 1 8:=⟨by kernel_rfl⟩
instance :FdA Tryd.prog 18 0 0:=⟨fun b o w=>by kernel_rfl⟩
instance :Ag Tryd.prog 20 false:=⟨fun w=>by simp [isAgg,underlying,Tryd.underlying20]⟩
instance :Inf Tryd.prog 20 .nilIface 1 16:=⟨by kernel_rfl⟩
instance :Und Tryd.prog 21 (.int .i32):=⟨Tryd.underlying21⟩
instance :Ag Tryd.prog 21 false:=⟨fun w=>by simp [isAgg,underlying,Tryd.underlying21]⟩
instance :Inf Tryd.prog 21 (.int .i32 0) 1 4:=⟨by kernel_rfl⟩
instance :Und Tryd.prog 22 (.slice 3):=⟨Tryd.underlying22⟩
instance :Ag Tryd.prog 22 false:=⟨fun w=>by simp [isAgg,underlying,Tryd.underlying22]⟩
instance :Inf Tryd.prog 22 (.slice none 0 0) 1 24:=⟨by kernel_rfl⟩
instance :Und Tryd.prog 23 (.slice 72):=⟨Tryd.underlying23⟩
instance :Ag Tryd.prog 23 false:=⟨fun w=>by simp [isAgg,underlying,Tryd.underlying23]⟩
instance :Inf Tryd.prog 23 (.slice none 0 0) 1 24:=⟨by kernel_rfl⟩
instance :Ag Tryd.prog 24 true:=⟨fun w=>by simp [isAgg,underlying,Tryd.underlying24]⟩
instance :Inf Tryd.prog 24 (.agg #[(.int .i64 0),(.int .i64 0)]) 2 16:=⟨by kernel_rfl⟩
instance :FdA Tryd.prog 24 0 0:=⟨fun b o w=>by kernel_rfl⟩
instance :FdA Tryd.prog 24 1 1:=⟨fun b o w=>by kernel_rfl⟩
instance :Ag Tryd.prog 25 true:=⟨fun w=>by simp [isAgg,underlying,Tryd.underlying25]⟩
instance :Inf Tryd.prog 25 (.agg #[(.int .i64 0),(.int .i64 0)]) 2 16:=⟨by kernel_rfl⟩
instance :FdA Tryd.prog 25 0 0:=⟨fun b o w=>by kernel_rfl⟩
instance :FdA Tryd.prog 25 1 1:=⟨fun b o w=>by kernel_rfl⟩
instance :Ag Tryd.prog 27 false:=⟨fun w=>by simp [isAgg,underlying,Tryd.underlying27]⟩
instance :Inf Tryd.prog 27 .nilFunc 1 8:=⟨by kernel_rfl⟩
instance :Und Tryd.prog 28 (.slice 38):=⟨Tryd.underlying28⟩
instance :Ag Tryd.prog 28 false:=⟨fun w=>by simp [isAgg,underlying,Tryd.underlying28]⟩
instance :Inf Tryd.prog 28 (.slice none 0 0) 1 24:=⟨by kernel_rfl⟩
instance :Ag Tryd.prog 29 false:=⟨fun w=>by simp [isAgg,underlying,Tryd.underlying29]⟩
instance :Inf Tryd.prog 29 .nilFunc 1 8:=⟨by kernel_rfl⟩
instance :Und Tryd.prog 30 (.slice 48):=⟨Tryd.underlying30⟩
instance :Ag Tryd.prog 30 false:=⟨fun w=>by simp [isAgg,underlying,Tryd.underlying30]⟩
instance :Inf Tryd.prog 30 (.slice none 0 0) 1 24:=⟨by kernel_rfl⟩
instance :Und Tryd.prog 31 (.int .i64):=⟨Tryd.underlying31⟩
instance :Ag Tryd.prog 31 false:=⟨fun w=>by simp [isAgg,underlying,Tryd.underlying31]⟩
instance :Inf Tryd.prog 31 (.int .i64 0) 1 8:=⟨by kernel_rfl⟩
instance :Ag Tryd.prog 33 false:=⟨fun w=>by simp [isAgg,underlying,Tryd.underlying33]⟩
instance :Inf Tryd.prog 33 .nilFunc 1 8:=⟨by kernel_rfl⟩
instance :Und Tryd.prog 34 (.slice 43):=⟨Tryd.underlying34⟩
instance :Ag Tryd.prog 34 false:=⟨fun w=>by simp [isAgg,underlying,Tryd.underlying34]⟩
instance :Inf Tryd.prog 34 (.slice none 0 0) 1 24:=⟨by kernel_rfl⟩
instance :Ag Tryd.prog 36 false:=⟨fun w=>by simp [isAgg,underlying,Tryd.underlying36]⟩
instance :Inf Tryd.prog 36 .nilFunc 1 8:=⟨by kernel_rfl⟩
instance :Ag Tryd.prog 37 false:=⟨fun w=>by simp [isAgg,underlying,Tryd.underlying37]⟩
instance :Inf Tryd.prog 37 .nilFunc 1 8:=⟨by kernel_rfl⟩
instance :Und Tryd.prog 38 (.slice 60):=⟨Tryd.underlying38⟩
instance :Ag Tryd.prog 38 false:=⟨fun w=>by simp [isAgg,underlying,Tryd.underlying38]⟩
instance :Inf Tryd.prog 38 (.slice none 0 0) 1 24:=⟨by kernel_rfl⟩
instance :Ag Tryd.prog 40 false:=⟨fun w=>by simp [isAgg,underlying,Tryd.underlying40]⟩
instance :Inf Tryd.prog 40 .nilFunc 1 8:=⟨by kernel_rfl⟩
instance :Und Tryd.prog 41 (.slice 56):=⟨Tryd.underlying41⟩
instance :Ag Tryd.prog 41 false:=⟨fun w=>by simp [isAgg,underlying,Tryd.underlying41]⟩
instance :Inf Tryd.prog 41 (.slice none 0 0) 1 24:=⟨by kernel_rfl⟩
instance :Ag Tryd.prog 42 true:=⟨fun w=>by simp [isAgg,underlying,Tryd.underlying42]⟩
instance :Inf Tryd.prog 42 (.agg #[(.int .i64 0),(.int .i64 0),(.int .i64 0),(.slice none 0 0)]) 4 48:=⟨by kernel_rfl⟩
instance :FdA Tryd.prog 42 0 0:=⟨fun b o w=>by kernel_rfl⟩
instance :FdA Tryd.prog 42 1 2:=⟨fun b o w=>by kernel_rfl⟩
instance :FdA Tryd.prog 42 2 3:=⟨fun b o w=>by kernel_rfl⟩
instance :Ag Tryd.prog 43 true:=⟨fun w=>by simp [isAgg,underlying,Tryd.underlying43]⟩
instance :Inf Tryd.prog 43 (.agg #[(.int .i64 0),(.int .i64 0),(.int .i64 0),(.slice none 0 0)]) 4 48:=⟨by kernel_rfl⟩
instance :FdA Tryd.prog 43 0 0:=⟨fun b o w=>by kernel_rfl⟩
instance :FdA Tryd.prog 43 1 2:=⟨fun b o w=>by kernel_rfl⟩
instance :FdA Tryd.prog 43 2 3:=⟨fun b o w=>by kernel_rfl⟩
instance :Ag Tryd.prog 45 false:=⟨fun w=>by simp [isAgg,underlying,Tryd.underlying45]⟩
instance :Inf Tryd.prog 45 .nilFunc 1 8:=⟨by kernel_rfl⟩
instance :Und Tryd.prog 46 (.slice 25):=⟨Tryd.underlying46⟩
instance :Ag Tryd.prog 46 false:=⟨fun w=>by simp [isAgg,underlying,Tryd.underlying46]⟩
instance :Inf Tryd.prog 46 (.slice none 0 0) 1 24:=⟨by kernel_rfl⟩
instance :Ag Tryd.prog 47 true:=⟨fun w=>by simp [isAgg,underlying,Tryd.underlying47]⟩
instance :Inf Tryd.prog 47 (.agg #[(.int .i64 0),(.slice none 0 0),(.slice none 0 0),(.slice none 0 0),(.slice none 0 0)]) 5 104:=⟨by kernel_rfl⟩
instance :FdA Tryd.prog 47 0 0:=⟨fun b o w=>by kernel_rfl⟩
instance :FdA Tryd.prog 47 1 1:=⟨fun b o w=>by kernel_rfl⟩
instance :FdA Tryd.prog 47 2 2:=⟨fun b o w=>by kernel_rfl⟩
instance :FdA Tryd.prog 47 3 3:=⟨fun b o w=>by kernel_rfl⟩
instance :FdA Tryd.prog 47 4 4:=⟨fun b o w=>by kernel_rfl⟩
instance :Ag Tryd.prog 48 true:=⟨fun w=>by simp [isAgg,underlying,Tryd.underlying48]⟩
instance :Inf Tryd.prog 48 (.agg #[(.int .i64 0),(.slice none 0 0),(.slice none 0 0),(.slice none 0 0),(.slice none 0 0)]) 5 104:=⟨by kernel_rfl⟩
instance :FdA Tryd.prog 48 0 0:=⟨fun b o w=>by kernel_rfl⟩
instance :FdA Tryd.prog 48 1 1:=⟨fun b o w=>by kernel_rfl⟩
instance :FdA Tryd.prog 48 2 2:=⟨fun b o w=>by kernel_rfl⟩
instance :FdA Tryd.prog 48 3 3:=⟨fun b o w=>by kernel_rfl⟩
instance :FdA Tryd.prog 48 4 4:=⟨fun b o w=>by kernel_rfl⟩
instance :Ag Tryd.prog 49 false:=⟨fun w=>by simp [isAgg,underlying,Tryd.underlying49]⟩
instance :Inf Tryd.prog 49 .nilFunc 1 8:=⟨by kernel_rfl⟩
instance :Ag Tryd.prog 50 false:=⟨fun w=>by simp [isAgg,underlying,Tryd.underlying50]⟩
instance :Inf Tryd.prog 50 .nilFunc 1 8:=⟨by kernel_rfl⟩
instance :Ag Tryd.prog 51 false:=⟨fun w=>by simp [isAgg,underlying,Tryd.underlying51]⟩
instance :Inf Tryd.prog 51 .nilFunc 1 8:=⟨by kernel_rfl⟩
instance :Ag Tryd.prog 53 false:=⟨fun w=>by simp [isAgg,underlying,Tryd.underlying53]⟩
instance :Inf Tryd.prog 53 .nilFunc 1 8:=⟨by kernel_rfl⟩
instance :Ag Tryd.prog 54 false:=⟨fun w=>by simp [isAgg,underlying,Tryd.underlying54]⟩
instance :Inf Tryd.prog 54 .nilFunc 1 8:=⟨by kernel_rfl⟩
instance :Ag Tryd.prog 55 true:=⟨fun w=>by simp [isAgg,underlying,Tryd.underlying55]⟩
instance :Inf Tryd.prog 55 (.agg #[(.bool false),(.int .i64 0),(.int .i64 0),(.int .i64 0),(.int .i64 0)]) 5 40:=⟨by kernel_rfl⟩
instance :FdA Tryd.prog 55 0 0:=⟨fun b o w=>by kernel_rfl⟩
instance :FdA Tryd.prog 55 1 1:=⟨fun b o w=>by kernel_rfl⟩
instance :FdA Tryd.prog 55 2 2:=⟨fun b o w=>by kernel_rfl⟩
instance :FdA Tryd.prog 55 3 4:=⟨fun b o w=>by kernel_rfl⟩
instance :Ag Tryd.prog 56 true:=⟨fun w=>by simp [isAgg,underlying,Tryd.underlying56]⟩
instance :Inf Tryd.prog 56 (.agg #[(.bool false),(.int .i64 0),(.int .i64 0),(.int .i64 0),(.int .i64 0)]) 5 40:=⟨by kernel_rfl⟩
instance :FdA Tryd.prog 56 0 0:=⟨fun b o w=>by kernel_rfl⟩
instance :FdA Tryd.prog 56 1 1:=⟨fun b o w=>by kernel_rfl⟩
instance :FdA Tryd.prog 56 2 2:=⟨fun b o w=>by kernel_rfl⟩
instance :FdA Tryd.prog 56 3 4:=⟨fun b o w=>by kernel_rfl⟩
instance :Ag Tryd.prog 57 false:=⟨fun w=>by simp [isAgg,underlying,Tryd.underlying57]⟩
instance :Inf Tryd.prog 57 .nilFunc 1 8:=⟨by kernel_rfl⟩
instance :Ag Tryd.prog 58 false:=⟨fun w=>by simp [isAgg,underlying,Tryd.underlying58]⟩
instance :Inf Tryd.prog 58 .nilFunc 1 8:=⟨by kernel_rfl⟩
instance :Ag Tryd.prog 59 true:=⟨fun w=>by simp [isAgg,underlying,Tryd.underlying59]⟩
instance :Inf Tryd.prog 59 (.agg #[(.int .i64 0),(.int .i64 0)]) 2 16:=⟨by kernel_rfl⟩
instance :FdA Tryd.prog 59 0 0:=⟨fun b o w=>by kernel_rfl⟩
instance :FdA Tryd.prog 59 1 1:=⟨fun b o w=>by kernel_rfl⟩
instance :Ag Tryd.prog 60 true:=⟨fun w=>by simp [isAgg,underlying,Tryd.underlying60]⟩
instance :Inf Tryd.prog 60 (.agg #[(.int .i64 0),(.int .i64 0)]) 2 16:=⟨by kernel_rfl⟩
instance :FdA Tryd.prog 60 0 0:=⟨fun b o w=>by kernel_rfl⟩
instance :FdA Tryd.prog 60 1 1:=⟨fun b o w=>by kernel_rfl⟩
instance :Ag Tryd.prog 61 false:=⟨fun w=>by simp [isAgg,underlying,Tryd.underlying61]⟩
instance :Inf Tryd.prog 61 .nilFunc 1 8:=⟨by kernel_rfl⟩
instance :Ag Tryd.prog 62 false:=⟨fun w=>by simp [isAgg,underlying,Tryd.underlying62]⟩
instance :Inf Tryd.prog 62 .nilFunc 1 8:=⟨by kernel_rfl⟩
instance :Ag Tryd.prog 63 false:=⟨fun w=>by simp [isAgg,underlying,Tryd.underlying63]⟩
instance :Inf Tryd.prog 63 .nilFunc 1 8:=⟨by kernel_rfl⟩
instance :Ag Tryd.prog 64 false:=⟨fun w=>by simp [isAgg,underlying,Tryd.underlying64]⟩
instance :Inf Tryd.prog 64 .nilFunc 1 8:=⟨by kernel_rfl⟩
instance :Ag Tryd.prog 65 false:=⟨fun w=>by simp [isAgg,underlying,Tryd.underlying65]⟩
instance :Inf Tryd.prog 65 .nilFunc 1 8:=⟨by kernel_rfl⟩
instance :Ag Tryd.prog 66 false:=⟨fun w=>by simp [isAgg,underlying,Tryd.underlying66]⟩
instance :Inf Tryd.prog 66 .nilFunc 1 8:=⟨by kernel_rfl⟩
instance :Ag Tryd.prog 67 false:=⟨fun w=>by simp [isAgg,underlying,Tryd.underlying67]⟩
instance :Inf Tryd.prog 67 .nilFunc 1 8:=⟨by kernel_rfl⟩
instance :Ag Tryd.prog 68 false:=⟨fun w=>by simp [isAgg,underlying,Tryd.underlying68]⟩
instance :Inf Tryd.prog 68 .nilFunc 1 8:=⟨by kernel_rfl⟩
instance :Ag Tryd.prog 69 false:=⟨fun w=>by simp [isAgg,underlying,Tryd.underlying69]⟩
instance :Inf Tryd.prog 69 .nilFunc 1 8:=⟨by kernel_rfl⟩
instance :Ag Tryd.prog 70 false:=⟨fun w=>by simp [isAgg,underlying,Tryd.underlying70]⟩
instance :Inf Tryd.prog 70 .nilFunc 1 8:=⟨by kernel_rfl⟩
instance :Ag Tryd.prog 71 true:=⟨fun w=>by simp [isAgg,underlying,Tryd.underlying71]⟩
instance :Inf Tryd.prog 71 (.agg #[(.int .i64 0),(.int .i64 0),(.slice none 0 0)]) 3 40:=⟨by kernel_rfl⟩
instance :FdA Tryd.prog 71 0 0:=⟨fun b o w=>by kernel_rfl⟩
instance :FdA Tryd.prog 71 1 1:=⟨fun b o w=>by kernel_rfl⟩
instance :FdA Tryd.prog 71 2 2:=⟨fun b o w=>by kernel_rfl⟩
instance :Ag Tryd.prog 72 true:=⟨fun w=>by simp [isAgg,underlying,Tryd.underlying72]⟩
instance :Inf Tryd.prog 72 (.agg #[(.int .i64 0),(.int .i64 0),(.slice none 0 0)]) 3 40:=⟨by kernel_rfl⟩
instance :FdA Tryd.prog 72 0 0:=⟨fun b o w=>by kernel_rfl⟩
instance :FdA Tryd.prog 72 1 1:=⟨fun b o w=>by kernel_rfl⟩
instance :FdA Tryd.prog 72 2 2:=⟨fun b o w=>by kernel_rfl⟩
instance :Ag Tryd.prog 73 false:=⟨fun w=>by simp [isAgg,underlying,Tryd.underlying73]⟩
instance :Inf Tryd.prog 73 .nilFunc 1 8:=⟨by kernel_rfl⟩
instance :Und Tryd.prog 74 (.slice 23):=⟨Tryd.underlying74⟩
instance :Ag Tryd.prog 74 false:=⟨fun w=>by simp [isAgg,underlying,Tryd.underlying74]⟩
instance :Inf Tryd.prog 74 (.slice none 0 0) 1 24:=⟨by kernel_rfl⟩
instance :Ag Tryd.prog 75 false:=⟨fun w=>by simp [isAgg,underlying,Tryd.underlying75]⟩
instance :Inf Tryd.prog 75 .nilFunc 1 8:=⟨by kernel_rfl⟩
instance :Ag Tryd.prog 76 false:=⟨fun w=>by simp [isAgg,underlying,Tryd.underlying76]⟩
instance :Inf Tryd.prog 76 .nilFunc 1 8:=⟨by kernel_rfl⟩
instance :Ag Tryd.prog 77 true:=⟨fun w=>by simp [isAgg,underlying,Tryd.underlying77]⟩
instance :Inf Tryd.prog 77 (.agg #[(.int .i64 0),(.int .i64 0),(.slice none 0 0),(.int .i64 0)]) 4 48:=⟨by kernel_rfl⟩
instance :FdA Tryd.prog 77 0 0:=⟨fun b o w=>by kernel_rfl⟩
instance :FdA Tryd.prog 77 1 3:=⟨fun b o w=>by kernel_rfl⟩
instance :Ag Tryd.prog 78 true:=⟨fun w=>by simp [isAgg,underlying,Tryd.underlying78]⟩
instance :Inf Tryd.prog 78 (.agg #[(.int .i64 0),(.int .i64 0),(.slice none 0 0),(.int .i64 0)]) 4 48:=⟨by kernel_rfl⟩
instance :FdA Tryd.prog 78 0 0:=⟨fun b o w=>by kernel_rfl⟩
instance :FdA Tryd.prog 78 1 3:=⟨fun b o w=>by kernel_rfl⟩
instance :Ag Tryd.prog 79 false:=⟨fun w=>by simp [isAgg,underlying,Tryd.underlying79]⟩
instance :Inf Tryd.prog 79 .nilFunc 1 8:=⟨by kernel_rfl⟩
instance :Ag Tryd.prog 80 false:=⟨fun w=>by simp [isAgg,underlying,Tryd.underlying80]⟩
instance :Inf Tryd.prog 80 .nilFunc 1 8:=⟨by kernel_rfl⟩
instance :Ag Tryd.prog 81 false:=⟨fun w=>by simp [isAgg,underlying,Tryd.underlying81]⟩
instance :Inf Tryd.prog 81 .nilFunc 1 8:=⟨by kernel_rfl⟩
instance :Und Tryd.prog 82 (.pointer 93):=⟨Tryd.underlying82⟩
instance :Ag Tryd.prog 82 false:=⟨fun w=>by simp [isAgg,underlying,Tryd.underlying82]⟩
instance :Inf Tryd.prog 82 (.pointer none) 1 8:=⟨by kernel_rfl⟩
instance :Ag Tryd.prog 84 false:=⟨fun w=>by simp [isAgg,underlying,Tryd.underlying84]⟩
instance :Inf Tryd.prog 84 .nilFunc 1 8:=⟨by kernel_rfl⟩
instance :Ag Tryd.prog 85 false:=⟨fun w=>by simp [isAgg,underlying,Tryd.underlying85]⟩
instance :Inf Tryd.prog 85 .nilFunc 1 8:=⟨by kernel_rfl⟩
instance :Ag Tryd.prog 86 false:=⟨fun w=>by simp [isAgg,underlying,Tryd.underlying86]⟩
instance :Inf Tryd.prog 86 .nilFunc 1 8:=⟨by kernel_rfl⟩
instance :Ag Tryd.prog 87 true:=⟨fun w=>by simp [isAgg,underlying,Tryd.underlying87]⟩
instance :Inf Tryd.prog 87 (.agg #[(.int .i64 0),(.int .i64 0),(.int .i64 0),(.slice none 0 0),(.pointer none)]) 5 56:=⟨by kernel_rfl⟩
instance :FdA Tryd.prog 87 0 0:=⟨fun b o w=>by kernel_rfl⟩
instance :FdA Tryd.prog 87 1 4:=⟨fun b o w=>by kernel_rfl⟩
instance :Ag Tryd.prog 88 true:=⟨fun w=>by simp [isAgg,underlying,Tryd.underlying88]⟩
instance :Inf Tryd.prog 88 (.agg #[(.int .i64 0),(.int .i64 0),(.int .i64 0),(.slice none 0 0),(.pointer none)]) 5 56:=⟨by kernel_rfl⟩
instance :FdA Tryd.prog 88 0 0:=⟨fun b o w=>by kernel_rfl⟩
instance :FdA Tryd.prog 88 1 4:=⟨fun b o w=>by kernel_rfl⟩
instance :Und Tryd.prog 89 (.pointer 88):=⟨Tryd.underlying89⟩
instance :Ag Tryd.prog 89 false:=⟨fun w=>by simp [isAgg,underlying,Tryd.underlying89]⟩
instance :Inf Tryd.prog 89 (.pointer none) 1 8:=⟨by kernel_rfl⟩
instance :Und Tryd.prog 90 (.map 25 89):=⟨Tryd.underlying90⟩
instance :Ag Tryd.prog 90 false:=⟨fun w=>by simp [isAgg,underlying,Tryd.underlying90]⟩
instance :Inf Tryd.prog 90 (.map none) 1 8:=⟨by kernel_rfl⟩
instance :Ag Tryd.prog 91 false:=⟨fun w=>by simp [isAgg,underlying,Tryd.underlying91]⟩
instance :Inf Tryd.prog 91 .nilFunc 1 8:=⟨by kernel_rfl⟩
instance :Ag Tryd.prog 92 true:=⟨fun w=>by simp [isAgg,underlying,Tryd.underlying92]⟩
instance :Inf Tryd.prog 92 (.agg #[(.slice none 0 0),(.slice none 0 0),(.map none),.nilFunc]) 4 64:=⟨by kernel_rfl⟩
instance :FdA Tryd.prog 92 0 0:=⟨fun b o w=>by kernel_rfl⟩
instance :FdA Tryd.prog 92 1 1:=⟨fun b o w=>by kernel_rfl⟩
instance :FdA Tryd.prog 92 2 2:=⟨fun b o w=>by kernel_rfl⟩
instance :FdA Tryd.prog 92 3 3:=⟨fun b o w=>by kernel_rfl⟩
instance :Ag Tryd.prog 93 true:=⟨fun w=>by simp [isAgg,underlying,Tryd.underlying93]⟩
instance :Inf Tryd.prog 93 (.agg #[(.slice none 0 0),(.slice none 0 0),(.map none),.nilFunc]) 4 64:=⟨by kernel_rfl⟩
instance :FdA Tryd.prog 93 0 0:=⟨fun b o w=>by kernel_rfl⟩
instance :FdA Tryd.prog 93 1 1:=⟨fun b o w=>by kernel_rfl⟩
instance :FdA Tryd.prog 93 2 2:=⟨fun b o w=>by kernel_rfl⟩
instance :FdA Tryd.prog 93 3 3:=⟨fun b o w=>by kernel_rfl⟩
instance :Ag Tryd.prog 94 false:=⟨fun w=>by simp [isAgg,underlying,Tryd.underlying94]⟩
instance :Inf Tryd.prog 94 .nilFunc 1 8:=⟨by kernel_rfl⟩
instance :Ag Tryd.prog 95 false:=⟨fun w=>by simp [isAgg,underlying,Tryd.underlying95]⟩
instance :Inf Tryd.prog 95 .nilFunc 1 8:=⟨by kernel_rfl⟩
instance :Ag Tryd.prog 96 true:=⟨fun w=>by simp [isAgg,underlying,Tryd.underlying96]⟩
instance :Inf Tryd.prog 96 (.agg #[.nilFunc]) 1 8:=⟨by kernel_rfl⟩
instance :FdA Tryd.prog 96 0 0:=⟨fun b o w=>by kernel_rfl⟩
instance :Ag Tryd.prog 97 true:=⟨fun w=>by simp [isAgg,underlying,Tryd.underlying97]⟩
instance :Inf Tryd.prog 97 (.agg #[.nilFunc]) 1 8:=⟨by kernel_rfl⟩
instance :FdA Tryd.prog 97 0 0:=⟨fun b o w=>by kernel_rfl⟩
instance :Ag Tryd.prog 98 false:=⟨fun w=>by simp [isAgg,underlying,Tryd.underlying98]⟩
instance :Inf Tryd.prog 98 .nilFunc 1 8:=⟨by kernel_rfl⟩
instance :Ag Tryd.prog 99 false:=⟨fun w=>by simp [isAgg,underlying,Tryd.underlying99]⟩
instance :Inf Tryd.prog 99 .nilFunc 1 8:=⟨by kernel_rfl⟩
instance :Ag Tryd.prog 100 false:=⟨fun w=>by simp [isAgg,underlying,Tryd.underlying100]⟩
instance :Inf Tryd.prog 100 .nilFunc 1 8:=⟨by kernel_rfl⟩
instance :Ag Tryd.prog 101 false:=⟨fun w=>by simp [isAgg,underlying,Tryd.underlying101]⟩
instance :Inf Tryd.prog 101 .nilFunc 1 8:=⟨by kernel_rfl⟩
instance :Und Tryd.prog 102 (.map 3 4):=⟨Tryd.underlying102⟩
instance :Ag Tryd.prog 102 false:=⟨fun w=>by simp [isAgg,underlying,Tryd.underlying102]⟩
instance :Inf Tryd.prog 102 (.map none) 1 8:=⟨by kernel_rfl⟩
instance :Ag Tryd.prog 103 false:=⟨fun w=>by simp [isAgg,underlying,Tryd.underlying103]⟩
instance :Inf Tryd.prog 103 .nilFunc 1 8:=⟨by kernel_rfl⟩
instance :Ag Tryd.prog 104 true:=⟨fun w=>by simp [isAgg,underlying,Tryd.underlying104]⟩
instance :Inf Tryd.prog 104 (.agg #[.nilFunc]) 1 8:=⟨by kernel_rfl⟩
instance :FdA Tryd.prog 104 0 0:=⟨fun b o w=>by kernel_rfl⟩
instance :Ag Tryd.prog 105 true:=⟨fun w=>by simp [isAgg,underlying,Tryd.underlying105]⟩
instance :Inf Tryd.prog 105 (.agg #[.nilFunc]) 1 8:=⟨by kernel_rfl⟩
instance :FdA Tryd.prog 105 0 0:=⟨fun b o w=>by kernel_rfl⟩
instance :Ag Tryd.prog 106 false:=⟨fun w=>by simp [isAgg,underlying,Tryd.underlying106]⟩
instance :Inf Tryd.prog 106 .nilFunc 1 8:=⟨by kernel_rfl⟩
instance :Ag Tryd.prog 107 false:=⟨fun w=>by simp [isAgg,underlying,Tryd.underlying107]⟩
instance :Inf Tryd.prog 107 .nilFunc 1 8:=⟨by kernel_rfl⟩
instance :Ag Tryd.prog 108 false:=⟨fun w=>by simp [isAgg,underlying,Tryd.underlying108]⟩
instance :Inf Tryd.prog 108 .nilFunc 1 8:=⟨by kernel_rfl⟩
instance :Ag Tryd.prog 109 false:=⟨fun w=>by simp [isAgg,underlying,Tryd.underlying109]⟩
instance :Inf Tryd.prog 109 .nilFunc 1 8:=⟨by kernel_rfl⟩
instance :Ag Tryd.prog 110 false:=⟨fun w=>by simp [isAgg,underlying,Tryd.underlying110]⟩
instance :Inf Tryd.prog 110 .nilFunc 1 8:=⟨by kernel_rfl⟩
instance :Ag Tryd.prog 111 false:=⟨fun w=>by simp [isAgg,underlying,Tryd.underlying111]⟩
instance :Inf Tryd.prog 111 .nilFunc 1 8:=⟨by kernel_rfl⟩
instance :Und Tryd.prog 112 (.pointer 3):=⟨Tryd.underlying112⟩
instance :Ag Tryd.prog 112 false:=⟨fun w=>by simp [isAgg,underlying,Tryd.underlying112]⟩
instance :Inf Tryd.prog 112 (.pointer none) 1 8:=⟨by kernel_rfl⟩
instance :Und Tryd.prog 113 (.slice 22):=⟨Tryd.underlying113⟩
instance :Ag Tryd.prog 113 false:=⟨fun w=>by simp [isAgg,underlying,Tryd.underlying113]⟩
instance :Inf Tryd.prog 113 (.slice none 0 0) 1 24:=⟨by kernel_rfl⟩
instance :Und Tryd.prog 115 (.int .i64):=⟨Tryd.underlying115⟩
instance :Ag Tryd.prog 115 false:=⟨fun w=>by simp [isAgg,underlying,Tryd.underlying115]⟩
instance :Inf Tryd.prog 115 (.int .i64 0) 1 8:=⟨by kernel_rfl⟩
instance :Ag Tryd.prog 116 false:=⟨fun w=>by simp [isAgg,underlying,Tryd.underlying116]⟩
instance :Inf Tryd.prog 116 .nilFunc 1 8:=⟨by kernel_rfl⟩
instance :Ag Tryd.prog 117 false:=⟨fun w=>by simp [isAgg,underlying,Tryd.underlying117]⟩
instance :Inf Tryd.prog 117 .nilFunc 1 8:=⟨by kernel_rfl⟩
instance :Ag Tryd.prog 118 false:=⟨fun w=>by simp [isAgg,underlying,Tryd.underlying118]⟩
instance :Inf Tryd.prog 118 .nilFunc 1 8:=⟨by kernel_rfl⟩
instance :Ag Tryd.prog 119 false:=⟨fun w=>by simp [isAgg,underlying,Tryd.underlying119]⟩
instance :Inf Tryd.prog 119 .nilFunc 1 8:=⟨by kernel_rfl⟩
instance :Ag Tryd.prog 120 false:=⟨fun w=>by simp [isAgg,underlying,Tryd.underlying120]⟩
instance :Inf Tryd.prog 120 .nilFunc 1 8:=⟨by kernel_rfl⟩
instance :Ag Tryd.prog 121 false:=⟨fun w=>by simp [isAgg,underlying,Tryd.underlying121]⟩
instance :Inf Tryd.prog 121 .nilFunc 1 8:=⟨by kernel_rfl⟩
instance :Und Tryd.prog 122 (.slice 46):=⟨Tryd.underlying122⟩
instance :Ag Tryd.prog 122 false:=⟨fun w=>by simp [isAgg,underlying,Tryd.underlying122]⟩
instance :Inf Tryd.prog 122 (.slice none 0 0) 1 24:=⟨by kernel_rfl⟩
instance :Ag Tryd.prog 123 false:=⟨fun w=>by simp [isAgg,underlying,Tryd.underlying123]⟩
instance :Inf Tryd.prog 123 .nilFunc 1 8:=⟨by kernel_rfl⟩
instance :Ag Tryd.prog 124 false:=⟨fun w=>by simp [isAgg,underlying,Tryd.underlying124]⟩
instance :Inf Tryd.prog 124 .nilFunc 1 8:=⟨by kernel_rfl⟩
instance :Ag Tryd.prog 125 false:=⟨fun w=>by simp [isAgg,underlying,Tryd.underlying125]⟩
instance :Inf Tryd.prog 125 .nilFunc 1 8:=⟨by kernel_rfl⟩
instance :Und Tryd.prog 126 (.array 7 3):=⟨Tryd.underlying126⟩
instance :Ag Tryd.prog 126 true:=⟨fun w=>by simp [isAgg,underlying,Tryd.underlying126]⟩
instance :Inf Tryd.prog 126 (.agg #[(.int .i64 0),(.int .i64 0),(.int .i64 0),(.int .i64 0),(.int .i64 0),(.int .i64 0),(.int .i64 0)]) 7 56:=⟨by kernel_rfl⟩
instance :Und Tryd.prog 127 (.array 2 115):=⟨Tryd.underlying127⟩
instance :Ag Tryd.prog 127 true:=⟨fun w=>by simp [isAgg,underlying,Tryd.underlying127]⟩
instance :Inf Tryd.prog 127 (.agg #[(.int .i64 0),(.int .i64 0)]) 2 16:=⟨by kernel_rfl⟩
instance :Ag Tryd.prog 128 false:=⟨fun w=>by simp [isAgg,underlying,Tryd.underlying128]⟩
instance :Inf Tryd.prog 128 .nilFunc 1 8:=⟨by kernel_rfl⟩
instance :Ag Tryd.prog 129 true:=⟨fun w=>by simp [isAgg,underlying,Tryd.underlying129]⟩
instance :Inf Tryd.prog 129 (.agg #[(.int .i64 0),(.int .i64 0)]) 2 16:=⟨by kernel_rfl⟩
instance :FdA Tryd.prog 129 0 0:=⟨fun b o w=>by kernel_rfl⟩
instance :FdA Tryd.prog 129 1 1:=⟨fun b o w=>by kernel_rfl⟩
instance :Ag Tryd.prog 130 true:=⟨fun w=>by simp [isAgg,underlying,Tryd.underlying130]⟩
instance :Inf Tryd.prog 130 (.agg #[(.int .i64 0),(.int .i64 0)]) 2 16:=⟨by kernel_rfl⟩
instance :FdA Tryd.prog 130 0 0:=⟨fun b o w=>by kernel_rfl⟩
instance :FdA Tryd.prog 130 1 1:=⟨fun b o w=>by kernel_rfl⟩
instance :Ag Tryd.prog 131 false:=⟨fun w=>by simp [isAgg,underlying,Tryd.underlying131]⟩
instance :Inf Tryd.prog 131 .nilFunc 1 8:=⟨by kernel_rfl⟩
instance :Ag Tryd.prog 132 false:=⟨fun w=>by simp [isAgg,underlying,Tryd.underlying132]⟩
instance :Inf Tryd.prog 132 .nilFunc 1 8:=⟨by kernel_rfl⟩
instance :Und Tryd.prog 133 (.array 10 132):=⟨Tryd.underlying133⟩
instance :Ag Tryd.prog 133 true:=⟨fun w=>by simp [isAgg,underlying,Tryd.underlying133]⟩
instance :Inf Tryd.prog 133 (.agg #[.nilFunc,.nilFunc,.nilFunc,.nilFunc,.nilFunc,.nilFunc,.nilFunc,.nilFunc,.nilFunc,.nilFunc]) 10 80:=⟨by kernel_rfl⟩
instance :Ag Tryd.prog 134 true:=⟨fun w=>by simp [isAgg,underlying,Tryd.underlying134]⟩
instance :Inf Tryd.prog 134 (.agg #[(.int .i64 0),(.int .i64 0),(.int .i64 0)]) 3 24:=⟨by kernel_rfl⟩
instance :FdA Tryd.prog 134 0 0:=⟨fun b o w=>by kernel_rfl⟩
instance :FdA Tryd.prog 134 1 2:=⟨fun b o w=>by kernel_rfl⟩
instance :Ag Tryd.prog 135 true:=⟨fun w=>by simp [isAgg,underlying,Tryd.underlying135]⟩
instance :Inf Tryd.prog 135 (.agg #[(.int .i64 0),(.int .i64 0),(.int .i64 0)]) 3 24:=⟨by kernel_rfl⟩
instance :FdA Tryd.prog 135 0 0:=⟨fun b o w=>by kernel_rfl⟩
instance :FdA Tryd.prog 135 1 2:=⟨fun b o w=>by kernel_rfl⟩
instance :Ag Tryd.prog 136 false:=⟨fun w=>by simp [isAgg,underlying,Tryd.underlying136]⟩
instance :Inf Tryd.prog 136 .nilFunc 1 8:=⟨by kernel_rfl⟩
instance :Ag Tryd.prog 137 false:=⟨fun w=>by simp [isAgg,underlying,Tryd.underlying137]⟩
instance :Inf Tryd.prog 137 .nilFunc 1 8:=⟨by kernel_rfl⟩
instance :Ag Tryd.prog 138 false:=⟨fun w=>by simp [isAgg,underlying,Tryd.underlying138]⟩
instance :Inf Tryd.prog 138 .nilFunc 1 8:=⟨by kernel_rfl⟩
instance :Und Tryd.prog 139 (.array 2 56):=⟨Tryd.underlying139⟩
instance :Ag Tryd.prog 139 true:=⟨fun w=>by simp [isAgg,underlying,Tryd.underlying139]⟩
instance :Inf Tryd.prog 139 (.agg #[(.bool false),(.int .i64 0),(.int .i64 0),(.int .i64 0),(.int .i64 0),(.bool false),(.int .i64 0),(.int .i64 0),(.int .i64 0),(.int .i64 0)]) 10 80:=⟨by kernel_rfl⟩
instance :Ag Tryd.prog 140 false:=⟨fun w=>by simp [isAgg,underlying,Tryd.underlying140]⟩
instance :Inf Tryd.prog 140 .nilFunc 1 8:=⟨by kernel_rfl⟩
instance :Ag Tryd.prog 141 false:=⟨fun w=>by simp [isAgg,underlying,Tryd.underlying141]⟩
instance :Inf Tryd.prog 141 .nilFunc 1 8:=⟨by kernel_rfl⟩
instance :Ag Tryd.prog 142 false:=⟨fun w=>by simp [isAgg,underlying,Tryd.underlying142]⟩
instance :Inf Tryd.prog 142 .nilFunc 1 8:=⟨by kernel_rfl⟩
instance :Ag Tryd.prog 143 false:=⟨fun w=>by simp [isAgg,underlying,Tryd.underlying143]⟩
instance :Inf Tryd.prog 143 .nilFunc 1 8:=⟨by kernel_rfl⟩
instance :Und Tryd.prog 144 (.int .u64):=⟨Tryd.underlying144⟩
instance :Ag Tryd.prog 144 false:=⟨fun w=>by simp [isAgg,underlying,Tryd.underlying144]⟩
instance :Inf Tryd.prog 144 (.int .u64 0) 1 8:=⟨by kernel_rfl⟩
instance :Ag Tryd.prog 145 false:=⟨fun w=>by simp [isAgg,underlying,Tryd.underlying145]⟩
instance :Inf Tryd.prog 145 .nilFunc 1 8:=⟨by kernel_rfl⟩
instance :Ag Tryd.prog 146 false:=⟨fun w=>by simp [isAgg,underlying,Tryd.underlying146]⟩
instance :Inf Tryd.prog 146 .nilIface 1 16:=⟨by kernel_rfl⟩
instance :Ag Tryd.prog 147 false:=⟨fun w=>by simp [isAgg,underlying,Tryd.underlying147]⟩
instance :Inf Tryd.prog 147 .nilIface 1 16:=⟨by kernel_rfl⟩
instance :Ag Tryd.prog 148 false:=⟨fun w=>by simp [isAgg,underlying,Tryd.underlying148]⟩
instance :Inf Tryd.prog 148 .nilFunc 1 8:=⟨by kernel_rfl⟩
instance :Ag Tryd.prog 149 false:=⟨fun w=>by simp [isAgg,underlying,Tryd.underlying149]⟩
instance :Inf Tryd.prog 149 .nilFunc 1 8:=⟨by kernel_rfl⟩
instance :Ag Tryd.prog 150 false:=⟨fun w=>by simp [isAgg,underlying,Tryd.underlying150]⟩
instance :Inf Tryd.prog 150 .nilFunc 1 8:=⟨by kernel_rfl⟩
instance :Und Tryd.prog 151 (.int .i64):=⟨Tryd.underlying151⟩
instance :Ag Tryd.prog 151 false:=⟨fun w=>by simp [isAgg,underlying,Tryd.underlying151]⟩
instance :Inf Tryd.prog 151 (.int .i64 0) 1 8:=⟨by kernel_rfl⟩
instance :Ag Tryd.prog 153 false:=⟨fun w=>by simp [isAgg,underlying,Tryd.underlying153]⟩
instance :Inf Tryd.prog 153 .nilFunc 1 8:=⟨by kernel_rfl⟩
instance :Ag Tryd.prog 154 false:=⟨fun w=>by simp [isAgg,underlying,Tryd.underlying154]⟩
instance :Inf Tryd.prog 154 .nilFunc 1 8:=⟨by kernel_rfl⟩
instance :Ag Tryd.prog 155 false:=⟨fun w=>by simp [isAgg,underlying,Tryd.underlying155]⟩
instance :Inf Tryd.prog 155 .nilFunc 1 8:=⟨by kernel_rfl⟩
instance :Ag Tryd.prog 157 false:=⟨fun w=>by simp [isAgg,underlying,Tryd.underlying157]⟩
instance :Inf Tryd.prog 157 .nilFunc 1 8:=⟨by kernel_rfl⟩
instance :Ag Tryd.prog 158 false:=⟨fun w=>by simp [isAgg,underlying,Tryd.underlying158]⟩
instance :Inf Tryd.prog 158 .nilFunc 1 8:=⟨by kernel_rfl⟩
instance :Und Tryd.prog 159 (.int .u32):=⟨Tryd.underlying159⟩
instance :Ag Tryd.prog 159 false:=⟨fun w=>by simp [isAgg,underlying,Tryd.underlying159]⟩
instance :Inf Tryd.prog 159 (.int .u32 0) 1 4:=⟨by kernel_rfl⟩
instance :Ag Tryd.prog 160 false:=⟨fun w=>by simp [isAgg,underlying,Tryd.underlying160]⟩
instance :Inf Tryd.prog 160 .nilFunc 1 8:=⟨by kernel_rfl⟩
instance :Und Tryd.prog 161 (.int .u64):=⟨Tryd.underlying161⟩
instance :Ag Tryd.prog 161 false:=⟨fun w=>by simp [isAgg,underlying,Tryd.underlying161]⟩
instance :Inf Tryd.prog 161 (.int .u64 0) 1 8:=⟨by kernel_rfl⟩
instance :Ag Tryd.prog 162 false:=⟨fun w=>by simp [isAgg,underlying,Tryd.underlying162]⟩
instance :Inf Tryd.prog 162 .nilFunc 1 8:=⟨by kernel_rfl⟩
instance :Ag Tryd.prog 163 false:=⟨fun w=>by simp [isAgg,underlying,Tryd.underlying163]⟩
instance :Inf Tryd.prog 163 .nilFunc 1 8:=⟨by kernel_rfl⟩
instance :Ag Tryd.prog 164 false:=⟨fun w=>by simp [isAgg,underlying,Tryd.underlying164]⟩
instance :Inf Tryd.prog 164 .nilFunc 1 8:=⟨by kernel_rfl⟩
instance :Ag Tryd.prog 165 false:=⟨fun w=>by simp [isAgg,underlying,Tryd.underlying165]⟩
instance :Inf Tryd.prog 165 .nilFunc 1 8:=⟨by kernel_rfl⟩
instance :Ag Tryd.prog 166 false:=⟨fun w=>by simp [isAgg,underlying,Tryd.underlying166]⟩
instance :Inf Tryd.prog 166 .nilFunc 1 8:=⟨by kernel_rfl⟩
instance :Und Tryd.prog 167 (.int .u64):=⟨Tryd.underlying167⟩
instance :Ag Tryd.prog 167 false:=⟨fun w=>by simp [isAgg,underlying,Tryd.underlying167]⟩
instance :Inf Tryd.prog 167 (.int .u64 0) 1 8:=⟨by kernel_rfl⟩
instance :Ag Tryd.prog 168 false:=⟨fun w=>by simp [isAgg,underlying,Tryd.underlying168]⟩
instance :Inf Tryd.prog 168 .nilFunc 1 8:=⟨by kernel_rfl⟩
instance :Ag Tryd.prog 169 false:=⟨fun w=>by simp [isAgg,underlying,Tryd.underlying169]⟩
instance :Inf Tryd.prog 169 .nilFunc 1 8:=⟨by kernel_rfl⟩
instance :Ag Tryd.prog 170 false:=⟨fun w=>by simp [isAgg,underlying,Tryd.underlying170]⟩
instance :Inf Tryd.prog 170 .nilFunc 1 8:=⟨by kernel_rfl⟩
instance :Ag Tryd.prog 171 false:=⟨fun w=>by simp [isAgg,underlying,Tryd.underlying171]⟩
instance :Inf Tryd.prog 171 .nilFunc 1 8:=⟨by kernel_rfl⟩
instance :Ag Tryd.prog 172 false:=⟨fun w=>by simp [isAgg,underlying,Tryd.underlying172]⟩
instance :Inf Tryd.prog 172 .nilFunc 1 8:=⟨by kernel_rfl⟩
instance :Ag Tryd.prog 173 false:=⟨fun w=>by simp [isAgg,underlying,Tryd.underlying173]⟩
instance :Inf Tryd.prog 173 .nilFunc 1 8:=⟨by kernel_rfl⟩
instance :Und Tryd.prog 174 (.pointer 167):=⟨Tryd.underlying174⟩
instance :Ag Tryd.prog 174 false:=⟨fun w=>by simp [isAgg,underlying,Tryd.underlying174]⟩
instance :Inf Tryd.prog 174 (.pointer none) 1 8:=⟨by kernel_rfl⟩
instance :Ag Tryd.prog 176 false:=⟨fun w=>by simp [isAgg,underlying,Tryd.underlying176]⟩
instance :Inf Tryd.prog 176 .nilFunc 1 8:=⟨by kernel_rfl⟩
instance :Ag Tryd.prog 177 false:=⟨fun w=>by simp [isAgg,underlying,Tryd.underlying177]⟩
instance :Inf Tryd.prog 177 .nilFunc 1 8:=⟨by kernel_rfl⟩
instance :Ag Tryd.prog 178 false:=⟨fun w=>by simp [isAgg,underlying,Tryd.underlying178]⟩
instance :Inf Tryd.prog 178 .nilFunc 1 8:=⟨by kernel_rfl⟩
instance :Ag Tryd.prog 179 true:=⟨fun w=>by simp [isAgg,underlying,Tryd.underlying179]⟩
instance :FdA Tryd.prog 179 0 0:=⟨fun b o w=>by kernel_rfl⟩
instance :FdA Tryd.prog 179 1 1:=⟨fun b o w=>by kernel_rfl⟩
instance :FdA Tryd.prog 179 2 2:=⟨fun b o w=>by kernel_rfl⟩
instance :FdA Tryd.prog 179 3 3:=⟨fun b o w=>by kernel_rfl⟩
instance :Und Tryd.prog 181 (.array 0 16):=⟨Tryd.underlying181⟩
instance :Ag Tryd.prog 181 true:=⟨fun w=>by simp [isAgg,underlying,Tryd.underlying181]⟩
instance :Inf Tryd.prog 181 (.agg #[]) 0 0:=⟨by kernel_rfl⟩
instance :Ag Tryd.prog 182 true:=⟨fun w=>by simp [isAgg,underlying,Tryd.underlying182]⟩
instance :Inf Tryd.prog 182 (.agg #[]) 0 0:=⟨by kernel_rfl⟩
instance :Ag Tryd.prog 184 false:=⟨fun w=>by simp [isAgg,underlying,Tryd.underlying184]⟩
instance :Inf Tryd.prog 184 .nilFunc 1 8:=⟨by kernel_rfl⟩
instance :Ag Tryd.prog 187 false:=⟨fun w=>by simp [isAgg,underlying,Tryd.underlying187]⟩
instance :Inf Tryd.prog 187 .nilFunc 1 8:=⟨by kernel_rfl⟩
instance :Und Tryd.prog 188 (.pointer 5):=⟨Tryd.underlying188⟩
instance :Ag Tryd.prog 188 false:=⟨fun w=>by simp [isAgg,underlying,Tryd.underlying188]⟩
instance :Inf Tryd.prog 188 (.pointer none) 1 8:=⟨by kernel_rfl⟩
instance :Ag Tryd.prog 191 true:=⟨fun w=>by simp [isAgg,underlying,Tryd.underlying191]⟩
instance :Inf Tryd.prog 191 (.agg #[(.int .u64 0),(.int .u64 0),(.int .u32 0),(.int .u8 0),(.int .u8 0),(.int .u8 0),(.int .u8 0),.nilFunc,(.pointer none),(.int .i32 0),(.int .i32 0)]) 11 48:=⟨by kernel_rfl⟩
instance :FdA Tryd.prog 191 0 0:=⟨fun b o w=>by kernel_rfl⟩
instance :FdA Tryd.prog 191 1 1:=⟨fun b o w=>by kernel_rfl⟩
instance :FdA Tryd.prog 191 2 2:=⟨fun b o w=>by kernel_rfl⟩
instance :FdA Tryd.prog 191 3 3:=⟨fun b o w=>by kernel_rfl⟩
instance :FdA Tryd.prog 191 4 4:=⟨fun b o w=>by kernel_rfl⟩
instance :FdA Tryd.prog 191 5 5:=⟨fun b o w=>by kernel_rfl⟩
instance :FdA Tryd.prog 191 6 6:=⟨fun b o w=>by kernel_rfl⟩
instance :FdA Tryd.prog 191 7 7:=⟨fun b o w=>by kernel_rfl⟩
instance :FdA Tryd.prog 191 8 8:=⟨fun b o w=>by kernel_rfl⟩
instance :FdA Tryd.prog 191 9 9:=⟨fun b o w=>by kernel_rfl⟩
instance :FdA Tryd.prog 191 10 10:=⟨fun b o w=>by kernel_rfl⟩
instance :Inf Tryd.prog 193 (.pointer none) 1 8:=⟨by kernel_rfl⟩
instance :Ent Tryd.prog 3:=⟨fun args w=>by kernel_rfl⟩
instance :Ent Tryd.prog 4:=⟨fun args w=>by kernel_rfl⟩
instance :Ent Tryd.prog 5:=⟨fun args w=>by kernel_rfl⟩
instance :Ent Tryd.prog 6:=⟨fun args w=>by kernel_rfl⟩
instance :Ent Tryd.prog 7:=⟨fun args w=>by kernel_rfl⟩
instance :Ent Tryd.prog 8:=⟨fun args w=>by kernel_rfl⟩
instance :Ent Tryd.prog 9:=⟨fun args w=>by kernel_rfl⟩
instance :Ent Tryd.prog 10:=⟨fun args w=>by kernel_rfl⟩
instance :Ent Tryd.prog 11:=⟨fun args w=>by kernel_rfl⟩
instance :Ent Tryd.prog 12:=⟨fun args w=>by kernel_rfl⟩
instance :Ent Tryd.prog 13:=⟨fun args w=>by kernel_rfl⟩
instance :Ent Tryd.prog 14:=⟨fun args w=>by kernel_rfl⟩
instance :Ent Tryd.prog 15:=⟨fun args w=>by kernel_rfl⟩
instance :Ent Tryd.prog 16:=⟨fun args w=>by kernel_rfl⟩
instance :Ent Tryd.prog 17:=⟨fun args w=>by kernel_rfl⟩
instance :Ent Tryd.prog 18:=⟨fun args w=>by kernel_rfl⟩
instance :Ent Tryd.prog 19:=⟨fun args w=>by kernel_rfl⟩
instance :Ent Tryd.prog 20:=⟨fun args w=>by kernel_rfl⟩
instance :Ent Tryd.prog 21:=⟨fun args w=>by kernel_rfl⟩
instance :Ent Tryd.prog 22:=⟨fun args w=>by kernel_rfl⟩
instance :Ent Tryd.prog 23:=⟨fun args w=>by kernel_rfl⟩
instance :Ent Tryd.prog 24:=⟨fun args w=>by kernel_rfl⟩
instance :Ent Tryd.prog 25:=⟨fun args w=>by kernel_rfl⟩
instance :Ent Tryd.prog 26:=⟨fun args w=>by kernel_rfl⟩
instance :Ent Tryd.prog 27:=⟨fun args w=>by kernel_rfl⟩
instance :Ent Tryd.prog 28:=⟨fun args w=>by kernel_rfl⟩
instance :Ent Tryd.prog 29:=⟨fun args w=>by kernel_rfl⟩
instance :Ent Tryd.prog 30:=⟨fun args w=>by kernel_rfl⟩
instance :Ent Tryd.prog 31:=⟨fun args w=>by kernel_rfl⟩
instance :Ent Tryd.prog 32:=⟨fun args w=>by kernel_rfl⟩
instance :Ent Tryd.prog 33:=⟨fun args w=>by kernel_rfl⟩
instance :Ent Tryd.prog 34:=⟨fun args w=>by kernel_rfl⟩
instance :Ent Tryd.prog 35:=⟨fun args w=>by kernel_rfl⟩
instance :Ent Tryd.prog 36:=⟨fun args w=>by kernel_rfl⟩
instance :Ent Tryd.prog 37:=⟨fun args w=>by kernel_rfl⟩
instance :Ent Tryd.prog 38:=⟨fun args w=>by kernel_rfl⟩
instance :Ent Tryd.prog 39:=⟨fun args w=>by kernel_rfl⟩
instance :Ent Tryd.prog 40:=⟨fun args w=>by kernel_rfl⟩
instance :Ent Tryd.prog 41:=⟨fun args w=>by kernel_rfl⟩
instance :Ent Tryd.prog 42:=⟨fun args w=>by kernel_rfl⟩
instance :Ent Tryd.prog 43:=⟨fun args w=>by kernel_rfl⟩
instance :Ent Tryd.prog 44:=⟨fun args w=>by kernel_rfl⟩
instance :Ent Tryd.prog 45:=⟨fun args w=>by kernel_rfl⟩
instance :Ent Tryd.prog 46:=⟨fun args w=>by kernel_rfl⟩
instance :Ent Tryd.prog 47:=⟨fun args w=>by kernel_rfl⟩
instance :Ent Tryd.prog 48:=⟨fun args w=>by kernel_rfl⟩
instance :Ent Tryd.prog 49:=⟨fun args w=>by kernel_rfl⟩
instance :Ent Tryd.prog 50:=⟨fun args w=>by kernel_rfl⟩
instance :Ent Tryd.prog 51:=⟨fun args w=>by kernel_rfl⟩
instance :Ent Tryd.prog 52:=⟨fun args w=>by kernel_rfl⟩
instance :Ent Tryd.prog 53:=⟨fun args w=>by kernel_rfl⟩
instance :Ent Tryd.prog 54:=⟨fun args w=>by kernel_rfl⟩
instance :Ent Tryd.prog 55:=⟨fun args w=>by kernel_rfl⟩
instance :Ent Tryd.prog 56:=⟨fun args w=>by kernel_rfl⟩
instance :Ent Tryd.prog 57:=⟨fun args w=>by kernel_rfl⟩
instance :Ent Tryd.prog 58:=⟨fun args w=>by kernel_rfl⟩
instance :Ent Tryd.prog 59:=⟨fun args w=>by kernel_rfl⟩
instance :Ent Tryd.prog 60:=⟨fun args w=>by kernel_rfl⟩
instance :Ent Tryd.prog 61:=⟨fun args w=>by kernel_rfl⟩
instance :Ent Tryd.prog 62:=⟨fun args w=>by kernel_rfl⟩
instance :Ent Tryd.prog 63:=⟨fun args w=>by kernel_rfl⟩
instance :Ent Tryd.prog 64:=⟨fun args w=>by kernel_rfl⟩
instance :Ent Tryd.prog 65:=⟨fun args w=>by kernel_rfl⟩
instance :Ent Tryd.prog 66:=⟨fun args w=>by kernel_rfl⟩
instance :Ent Tryd.prog 67:=⟨fun args w=>by kernel_rfl⟩
instance :Ent Tryd.prog 68:=⟨fun args w=>by kernel_rfl⟩
instance :Ent Tryd.prog 69:=⟨fun args w=>by kernel_rfl⟩
instance :Ent Tryd.prog 70:=⟨fun args w=>by kernel_rfl⟩
instance :Ent Tryd.prog 71:=⟨fun args w=>by kernel_rfl⟩
instance :Ent Tryd.prog 72:=⟨fun args w=>by kernel_rfl⟩
instance :Ent Tryd.prog 73:=⟨fun args w=>by kernel_rfl⟩
instance :Ent Tryd.prog 74:=⟨fun args w=>by kernel_rfl⟩
instance :Ent Tryd.prog 75:=⟨fun args w=>by kernel_rfl⟩
instance :Ent Tryd.prog 76:=⟨fun args w=>by kernel_rfl⟩
instance :Ent Tryd.prog 77:=⟨fun args w=>by kernel_rfl⟩
instance :Ent Tryd.prog 78:=⟨fun args w=>by kernel_rfl⟩
instance :Ent Tryd.prog 79:=⟨fun args w=>by kernel_rfl⟩
instance :Ent Tryd.prog 80:=⟨fun args w=>by kernel_rfl⟩
instance :Ent Tryd.prog 81:=⟨fun args w=>by kernel_rfl⟩
instance :Ent Tryd.prog 82:=⟨fun args w=>by kernel_rfl⟩
instance :Ent Tryd.prog 83:=⟨fun args w=>by kernel_rfl⟩
instance :Ent Tryd.prog 84:=⟨fun args w=>by kernel_rfl⟩
instance :Ent Tryd.prog 85:=⟨fun args w=>by kernel_rfl⟩
instance :Ent Tryd.prog 86:=⟨fun args w=>by kernel_rfl⟩
instance :Ent Tryd.prog 87:=⟨fun args w=>by kernel_rfl⟩
instance :Ent Tryd.prog 88:=⟨fun args w=>by kernel_rfl⟩
instance :Ent Tryd.prog 89:=⟨fun args w=>by kernel_rfl⟩
instance :Ent Tryd.prog 90:=⟨fun args w=>by kernel_rfl⟩
instance :Ent Tryd.prog 91:=⟨fun args w=>by kernel_rfl⟩
instance :Ent Tryd.prog 92:=⟨fun args w=>by kernel_rfl⟩
instance :Ent Tryd.prog 93:=⟨fun args w=>by kernel_rfl⟩
instance :Ent Tryd.prog 94:=⟨fun args w=>by kernel_rfl⟩
instance :Ent Tryd.prog 95:=⟨fun args w=>by kernel_rfl⟩
instance :Ent Tryd.prog 96:=⟨fun args w=>by kernel_rfl⟩
instance :Ent Tryd.prog 97:=⟨fun args w=>by kernel_rfl⟩
instance :Ent Tryd.prog 98:=⟨fun args w=>by kernel_rfl⟩
instance :Ent Tryd.prog 99:=⟨fun args w=>by kernel_rfl⟩
instance :Ent Tryd.prog 100:=⟨fun args w=>by kernel_rfl⟩
instance :Ent Tryd.prog 116:=⟨fun args w=>by kernel_rfl⟩
instance :Ent Tryd.prog 117:=⟨fun args w=>by kernel_rfl⟩
instance :Ent Tryd.prog 118:=⟨fun args w=>by kernel_rfl⟩
instance :Ent Tryd.prog 120:=⟨fun args w=>by kernel_rfl⟩
instance :Ent Tryd.prog 121:=⟨fun args w=>by kernel_rfl⟩
instance :Ent Tryd.prog 122:=⟨fun args w=>by kernel_rfl⟩
instance :Ent Tryd.prog 123:=⟨fun args w=>by kernel_rfl⟩
instance :Ent Tryd.prog 124:=⟨fun args w=>by kernel_rfl⟩
instance :Ent Tryd.prog 125:=⟨fun args w=>by kernel_rfl⟩
instance :Ent Tryd.prog 126:=⟨fun args w=>by kernel_rfl⟩
instance :Ent Tryd.prog 127:=⟨fun args w=>by kernel_rfl⟩
instance :Ent Tryd.prog 128:=⟨fun args w=>by kernel_rfl⟩
instance :Ent Tryd.prog 133:=⟨fun args w=>by kernel_rfl⟩
end Go.Proofs.YtdiacobmhkmljaaDoor
/- Regions that draw their order: operations that only reach their own slots, in whatever order, and a tail behind all of them. -/
namespace Go.Sl

def dstOf (l:List Oper) (i:Nat):Option Nat:=(l[i]?).bind (·.dst)
/-- Operation k waits for operation i. -/
def waits (l:List Oper) (k i:Nat):Bool:=(l[k]?).any fun o=>o.after.toList.any fun e=>Region.binds .any e && Nat.beq e.on i
/-- What it waits for itself, and through others. -/
def dirs (l:List Oper) (k:Nat):List Nat:=match l[k]? with | some o=>o.after.toList.filterMap fun e=>if Region.binds .any e then some e.on else none | none=>[]
def waitsT (l:List Oper):Nat→Nat→Nat→Bool
  | 0,_,_=>false
  | f+1,k,j=>(dirs l k).any fun i=>Nat.beq i j || waitsT l f i j
/-- No operation but those that wait for i writes slot t. -/
def clean (l:List Oper) (i t:Nat):Bool:=(List.range l.length).all fun k=>(match dstOf l k with | some d=>!Nat.beq d t | none=>true) || (waits l k i || waitsT l l.length k i) || Nat.beq k i

/-- Where what an operation looks at comes from: another operation that it waits for, or from before. -/
def EnvOk (l:List Oper) (σ:Env) (vals:List Value) (i:Nat):List (Nat × Value × Option Nat)→Prop
  | []=>True
  | (t,v,some j)::r=>(waits l i j=true∧dstOf l j=some t∧vals[j]?=some v)∧EnvOk l σ vals i r
  | (t,v,none)::r=>(lk σ t=some v∧clean l i t=true)∧EnvOk l σ vals i r
def envs:List (Nat × Value × Option Nat)→Env
  | []=>[]
  | (t,v,_)::r=>(t,v)::envs r

/-- What is asked behind one of these operations. -/
def Fin (S:Nat→Prop) (w0:World) (n:Nat) (ds:List Deferred) (η:Heap) (σ':Env):Exit→Act→World→Prop
  | .normal,a,w=>Kn n ds σ' a∧Hp S w0 η w
  | _,_,_=>False

section
variable (F:Fence) (P:Program) (S:Nat→Prop) (w0:World) (n:Nat) (l:List Oper) (ds:List Deferred) (σ:Env) (η:Heap)

/-- One of these operations: it hands v to its slot, whatever else is known. -/
def QS (vals:List Value) (i:Nat) (v:Value):Prop :=
  ∃ o d env,l[i]?=some o∧o.dst=some d∧EnvOk l σ vals i env∧∀ ext:Env,TL F P S w0 n l.toArray (Fin S w0 n ds η ((d,v)::(envs env++ext))) [o] ds (envs env++ext) η

def DR (Q:Exit→Act→World→Prop) (vals:List Value):Prop :=
  (∀ i v,vals[i]?=some v→QS F P S w0 n l ds σ η vals i v)→∀ a w,Kn n ds σ a→Hp S w0 η w→∀ id,(Code.region id l.toArray true).wpIn F 0 P Q a w

end
section
variable {F:Fence} {P:Program} {S:Nat→Prop} {w0:World} {n:Nat} {l:List Oper} {ds:List Deferred} {σ:Env} {η:Heap} {Q:Exit→Act→World→Prop}

theorem EnvOk.append {vals:List Value} {i:Nat} (v:Value):∀ {env:List (Nat × Value × Option Nat)},EnvOk l σ vals i env→EnvOk l σ (vals++[v]) i env
  | [],_=>trivial
  | (t,u,some j)::r,h=>⟨⟨h.1.1,h.1.2.1,by
      have:=h.1.2.2
      rw [List.getElem?_append_left (List.getElem?_eq_some_iff.1 this).1]; exact this⟩,EnvOk.append v h.2⟩
  | (t,u,none)::r,h=>⟨h.1,EnvOk.append v h.2⟩

theorem DR.step {vals : List Value} {v : Value} (env : List (Nat × Value × Option Nat)) {o : Oper} {d : Nat} (ho : l[vals.length]? = some o) (hd : o.dst = some d) (he : EnvOk l σ vals vals.length env)
    (hop:∀ ext:Env,TL F P S w0 n l.toArray (Fin S w0 n ds η ((d,v)::(envs env++ext))) [o] ds (envs env++ext) η) (h:DR F P S w0 n l ds σ η Q (vals++[v])):DR F P S w0 n l ds σ η Q vals:=fun hq=>h fun i u hi=>by
  by_cases hlt:i<vals.length
  · rw [List.getElem?_append_left hlt] at hi
    obtain ⟨o',d',env',h1,h2,h3,h4⟩:=hq i u hi
    exact ⟨o',d',env',h1,h2,h3.append v,h4⟩
  · have hi':i=vals.length:=by
      have:=(List.getElem?_eq_some_iff.1 hi).1
      simp at this; omega
    subst hi'
    simp at hi
    subst hi
    exact ⟨o,d,env,ho,hd,he.append _,hop⟩

theorem T.draw {id:Nat} (h:DR F P S w0 n l ds σ η Q []):T F P S w0 n Q (.region id l.toArray true) ds σ η :=
  fun a w hk hh=>h (fun i v hi=>by simp at hi) a w hk hh id

theorem TL.fin {σ':Env} {ops:Array Oper}:TL F P S w0 n ops (Fin S w0 n ds η σ') [] ds σ' η:=TL.nil fun _ _ hk hh=>⟨hk,hh⟩

/-- What is known when the operations of L have been carried out. -/
structure KL (n:Nat) (ds:List Deferred) (l:List Oper) (σ:Env) (vals:List Value) (L:Array Bool) (a:Act):Prop where
  size:a.tmps.size=n
  defers:a.defers=ds
  old:∀ t v,lk σ t=some v→(∀ k,L[k]?=some true→dstOf l k≠some t)→a.tmps[t]?=some v
  new:∀ i v d,L[i]?=some true→vals[i]?=some v→dstOf l i=some d→a.tmps[d]?=some v

def fullEnv (a:Act):Env:=a.tmps.toList.zipIdx.map fun (v,i)=>(i,v)
theorem lk_full (a:Act) (t:Nat) (v:Value):lk (fullEnv a) t=some v→a.tmps[t]?=some v:=by
  intro h
  obtain ⟨j,h1,h2⟩:=lk_envOf a.tmps.toList 0 t v h
  simpa [h1] using h2
theorem lk_full' (l:List Value):∀ (k t:Nat) (v:Value),l[t]?=some v→lk ((l.zipIdx k).map fun (v,i)=>(i,v)) (k+t)=some v:=by
  induction l with
  | nil=>intro k t v h; simp at h
  | cons u r ih =>
    intro k t v h
    simp only [List.zipIdx_cons,List.map_cons]
    rw [lk_cons]
    cases t with
    | zero=>simp at h; simp [h]
    | succ t =>
      rw [if_neg (by omega)]
      have:=ih (k+1) t v (by simpa using h)
      rwa [show k+1+t=k+(t+1) from by omega] at this
theorem lk_append {σ1 σ2:Env} {t:Nat} {v:Value}:lk (σ1++σ2) t=some v→lk σ1 t=some v∨(lk σ1 t=none∧lk σ2 t=some v):=by
  induction σ1 with
  | nil=>intro h; exact .inr ⟨rfl,h⟩
  | cons p r ih =>
    obtain ⟨s,u⟩:=p
    intro h
    rw [List.cons_append,lk_cons] at h
    rw [lk_cons]
    by_cases hs:s=t
    · rw [if_pos hs] at h ⊢; exact .inl h
    · rw [if_neg hs] at h ⊢; exact ih h

theorem dirs_waits {k i:Nat} (h:i∈dirs l k):waits l k i=true:=by
  unfold dirs at h
  cases hk:l[k]? with
  | none=>simp [hk] at h
  | some o =>
    simp only [hk,List.mem_filterMap] at h
    obtain ⟨e,he,h2⟩:=h
    split at h2
    · rename_i hb
      unfold waits
      rw [hk]
      simp only [Option.any_some,List.any_eq_true,Bool.and_eq_true]
      exact ⟨e,he,hb,by cases h2; simp⟩
    · cases h2
theorem waitsT_done {L:Array Bool} (hdag:∀ k j,waits l k j=true→L[k]?=some true→L[j]?=some true):∀ (f k j:Nat),(∀ i,waits l k i=true→L[i]?=some true)→waitsT l f k j=true→L[j]?=some true
  | 0,k,j,_,h=>by simp [waitsT] at h
  | f+1,k,j,hr,h=>by
    simp only [waitsT,List.any_eq_true,Bool.or_eq_true] at h
    obtain ⟨i,hi,h | h⟩:=h
    · have:i=j:=Nat.eq_of_beq_eq_true h
      subst this; exact hr i (dirs_waits hi)
    · exact waitsT_done hdag f i j (fun i' hi'=>hdag i i' hi' (hr i (dirs_waits hi))) h

theorem KL.env {vals : List Value} {L : Array Bool} {a : Act} (hk : KL n ds l σ vals L a) {i : Nat} (hi : L[i]? = some false) (hdag : ∀ k j, waits l k j = true → L[k]? = some true → L[j]? = some true) (hready : ∀ j, waits l i j = true → L[j]? = some true) :
    ∀ {env:List (Nat × Value × Option Nat)},EnvOk l σ vals i env→∀ t v,lk (envs env) t=some v→a.tmps[t]?=some v
  | [],_,t,v,h=>by simp [envs,lk] at h
  | (s,u,some j)::r,he,t,v,h=>by
    simp only [envs] at h
    rw [lk_cons] at h
    by_cases hst:s=t
    · rw [if_pos hst] at h
      cases h; subst hst
      exact hk.new j u s (hready j he.1.1) he.1.2.2 he.1.2.1
    · rw [if_neg hst] at h
      exact KL.env hk hi hdag hready he.2 t v h
  | (s,u,none)::r,he,t,v,h=>by
    simp only [envs] at h
    rw [lk_cons] at h
    by_cases hst:s=t
    · rw [if_pos hst] at h
      cases h; subst hst
      refine hk.old s u he.1.1 fun k hk1 hk2=>?_
      have hc:=he.1.2
      simp only [clean,List.all_eq_true,List.mem_range,Bool.or_eq_true] at hc
      have hkl:k<l.length:=by
        unfold dstOf at hk2
        rcases Nat.lt_or_ge k l.length with h1 | h1
        · exact h1
        · simp [List.getElem?_eq_none h1] at hk2
      rcases hc k hkl with (h1 | h1 | h1) | h1
      · rw [hk2] at h1; simp at h1
      · have:=hdag k i h1 hk1
        rw [hi] at this; cases this
      · have:=waitsT_done hdag _ k i (fun i' hi'=>hdag k i' hi' hk1) h1
        rw [hi] at this; cases this
      · have:k=i:=Nat.eq_of_beq_eq_true h1
        subst this
        rw [hi] at hk1; cases hk1
    · rw [if_neg hst] at h
      exact KL.env hk hi hdag hready he.2 t v h


/-- The checks on a region's edges. -/
def dagOk (l:List Oper):Bool:=(List.range l.length).all fun k=>(l[k]?).any fun o=>o.after.toList.all fun e=>!Region.binds .any e || Nat.blt e.on k
def tailOk (l:List Oper) (m:Nat):Bool:=(List.range l.length).all fun k=>Nat.blt k m || (List.range k).all fun j=>waits l k j || waitsT l l.length k j
def distinct:List (Option Nat)→Bool
  | []=>true
  | x::r=>r.all (fun y=>match x,y with | some a,some b=>!Nat.beq a b | _,_=>true) && distinct r
def quietOk (l:List Oper) (m:Nat):Bool:=Nat.ble m l.length && distinct ((List.range m).map (dstOf l))
def allEnv (l:List Oper) (vals:List Value) (σ:Env):Env:=(vals.zipIdx.filterMap fun (v,i)=>(dstOf l i).map fun d=>(d,v)).reverse++σ

theorem distinct_spec:∀ {xs:List (Option Nat)},distinct xs=true→∀ (i j a:Nat),xs[i]?=some (some a)→xs[j]?=some (some a)→i=j
  | [],_,i,_,_,h1,_=>by simp at h1
  | _::_,_,0,0,_,_,_=>rfl
  | x::r,h,0,j+1,a,h1,h2=>by
    simp only [distinct,Bool.and_eq_true,List.all_eq_true] at h
    simp only [List.getElem?_cons_zero,Option.some.injEq] at h1
    simp only [List.getElem?_cons_succ] at h2
    subst h1
    have:=h.1 _ (List.mem_of_getElem? h2)
    simp at this
  | x::r,h,i+1,0,a,h1,h2=>by
    simp only [distinct,Bool.and_eq_true,List.all_eq_true] at h
    simp only [List.getElem?_cons_zero,Option.some.injEq] at h2
    simp only [List.getElem?_cons_succ] at h1
    subst h2
    have:=h.1 _ (List.mem_of_getElem? h1)
    simp at this
  | x::r,h,i+1,j+1,a,h1,h2=>by
    simp only [distinct,Bool.and_eq_true,List.all_eq_true] at h
    simp only [List.getElem?_cons_succ] at h1 h2
    rw [distinct_spec h.2 i j a h1 h2]
theorem dst_ne {m i j d:Nat} (hq:quietOk l m=true) (hi:i<m) (hj:j<m) (h1:dstOf l i=some d) (h2:dstOf l j=some d):i=j:=by
  simp only [quietOk,Bool.and_eq_true] at hq
  exact distinct_spec hq.2 i j d (by simp [hi,h1]) (by simp [hj,h2])
theorem waits_iff {k j:Nat}:waits l k j=true↔∃ o,l[k]?=some o∧∃ e∈o.after,Region.binds .any e=true∧e.on=j:=by
  unfold waits
  cases h:l[k]? with
  | none=>simp
  | some o =>
    simp only [Option.any_some,Option.some.injEq,exists_eq_left',List.any_eq_true,Bool.and_eq_true,Array.mem_toList_iff]
    constructor
    · rintro ⟨e,he,h1,h2⟩; exact ⟨e,he,h1,Nat.eq_of_beq_eq_true h2⟩
    · rintro ⟨e,he,h1,rfl⟩; exact ⟨e,he,h1,by simp⟩
theorem waits_lt (hd:dagOk l=true) {k j:Nat} (h:waits l k j=true):j<k∧k<l.length:=by
  obtain ⟨o,ho,e,he,hb,rfl⟩:=waits_iff.1 h
  have hk:=(List.getElem?_eq_some_iff.1 ho).1
  simp only [dagOk,List.all_eq_true,List.mem_range] at hd
  have:=hd k hk
  simp only [ho,Option.any_some,List.all_eq_true,Array.mem_toList_iff,Bool.or_eq_true,Bool.not_eq_true'] at this
  rcases this e he with h1 | h1
  · rw [hb] at h1; cases h1
  · exact ⟨Nat.le_of_ble_eq_true h1,hk⟩

/-- Which operations are ready. -/
theorem mem_ready {L:Array Bool} (hL:L.size=l.length) {i:Nat} (h:i∈Region.ready .any l.toArray L):L[i]?=some false∧∀ j,waits l i j=true→L[j]?=some true:=by
  simp only [Region.ready,List.mem_filter,List.mem_range,List.size_toArray,Bool.and_eq_true,Bool.not_eq_true'] at h
  obtain ⟨hi,h1,h2⟩:=h
  refine ⟨?_,fun j hj=>?_⟩
  · have:i<L.size:=by omega
    simp [Array.getD_eq_getD_getElem?,this] at h1
    simp [this,h1]
  · obtain ⟨o,ho,e,he,hb,rfl⟩:=waits_iff.1 hj
    simp only [List.getElem?_toArray,ho,Option.map_some,Option.getD_some,Array.all_eq_true',Bool.or_eq_true,Bool.not_eq_true'] at h2
    rcases h2 e he with h3 | h3
    · rw [hb] at h3; cases h3
    · rw [Array.getD_eq_getD_getElem?] at h3
      cases h4:L[e.on]? with
      | none=>simp [h4] at h3
      | some b=>simp [h4] at h3; rw [h3]
theorem ready_mem {L:Array Bool} (hL:L.size=l.length) {i:Nat} (h1:L[i]?=some false) (h2:∀ j,waits l i j=true→L[j]?=some true):i∈Region.ready .any l.toArray L:=by
  have hi:i<L.size:=(Array.getElem?_eq_some_iff.1 h1).1
  simp only [Region.ready,List.mem_filter,List.mem_range,List.size_toArray,Bool.and_eq_true,Bool.not_eq_true']
  refine ⟨by omega,by simp [Array.getD_eq_getD_getElem?,h1],?_⟩
  have hl:i<l.length:=by omega
  simp only [List.getElem?_toArray,List.getElem?_eq_getElem hl,Option.map_some,Option.getD_some,Array.all_eq_true',Bool.or_eq_true,Bool.not_eq_true']
  intro e he
  cases hb:Region.binds .any e with
  | false=>exact .inl rfl
  | true =>
    right
    have:=h2 e.on (waits_iff.2 ⟨_,List.getElem?_eq_getElem hl,e,he,hb,rfl⟩)
    rw [Array.getD_eq_getD_getElem?,this]; rfl

theorem wpOpIn_monoQ {ops : Array Oper} {Q Q' : Exit → Act → World → Prop} {i : Nat} {a : Act} {w : World} {K K' : Act → World → Prop} (h : ∀ a w, K a w → K' a w) (hq : ∀ e a w, e ≠ .normal → Q e a w → Q' e a w)
    (hh:wpOpIn F 0 P ops Q i K a w):wpOpIn F 0 P ops Q' i K' a w:=by
  have hlet:LetsOut Q→LetsOut Q':=fun ⟨a,w,hx⟩=>⟨a,w,hq _ _ _ (by simp) hx⟩
  unfold wpOpIn at *
  split
  · exact h _ _ (by simpa [*] using hh)
  · rename_i o ho
    simp only [ho] at hh
    split
    · rename_i hw
      simp only [hw,if_true] at hh
      unfold Oper.wpIn at *
      refine ⟨hh.1,?_⟩
      have hh:=hh.2
      generalize (o.semAt F.round a.eval).run P w=r at *
      cases r with
      | ok x w' =>
        cases x <;> simp only [Oper.uponIn] at hh ⊢ <;>
          first
            | exact h _ _ hh
            | exact ⟨hh.1,CallsIn.mono hh.2 (fun e w'' he=>by cases e <;> first | exact h _ _ he | exact hq _ _ _ (by simp) he | exact hlet he)⟩
            | exact ⟨hh.1,RowsIn.mono hh.2 (fun _ _ he=>h _ _ he)⟩
            | exact ⟨hh.1,RoundIn.mono hh.2 (fun e w'' he=>by cases e <;> first | exact h _ _ he | exact hq _ _ _ (by simp) he | exact hlet he)⟩
      | halt x w'=>cases x <;> simp only [Oper.uponIn] at hh ⊢ <;> first | exact hq _ _ _ (by simp) hh | exact hh
    · rename_i hw; simp only [hw] at hh; exact ⟨hh.1,h _ _ hh.2⟩

theorem wpListIn_one {ops:Array Oper} {i:Nat} {o:Oper} {rest:List Oper} (ho:ops[i]?=some o) {a:Act} {w:World}:wpListIn F 0 P ops Q (o::rest) a w=wpOpIn F 0 P ops Q i (wpListIn F 0 P ops Q rest) a w:=by
  simp only [wpListIn,wpOpIn,ho]

/-- The tail: in order. -/
theorem any_tail {m : Nat} (hd : dagOk l = true) (ht : tailOk l m = true) : ∀ (f k : Nat) (L : Array Bool) (a : Act) (w : World), k + f = l.length → m ≤ k → L.size = l.length → (∀ j, j < l.length → L[j]? = some (decide (j < k))) →
    wpListIn F 0 P l.toArray Q (l.drop k) a w→wpAnyIn F 0 P .any l.toArray Q f L a w
  | 0,k,L,a,w,hf,hm,hs,hL,h=>by
    have hr:Region.ready .any l.toArray L=[]:=by
      rw [List.eq_nil_iff_forall_not_mem]
      intro i hi
      have h1:=(mem_ready hs hi).1
      have hlt:=(Array.getElem?_eq_some_iff.1 h1).1
      rw [hL i (by omega)] at h1
      simp at h1; omega
    refine ⟨hr,?_⟩
    rw [List.drop_of_length_le (by omega)] at h
    exact h
  | f+1,k,L,a,w,hf,hm,hs,hL,h=>by
    have hk:k<l.length:=by omega
    have hkr:k∈Region.ready .any l.toArray L:=ready_mem hs (by rw [hL k hk]; simp) fun j hj=>by
      have:=waits_lt hd hj
      rw [hL j (by omega)]; simp [this.1]
    refine ⟨fun he=>by rw [he] at hkr; simp at hkr,fun i hi=>?_⟩
    obtain ⟨h1,h2⟩:=mem_ready hs hi
    have hilt:=(Array.getElem?_eq_some_iff.1 h1).1
    have hik:i=k:=by
      rw [hL i (by omega)] at h1
      simp at h1
      rcases Nat.lt_or_ge k i with h3 | h3
      · have hdag:∀ k' j,waits l k' j=true→L[k']?=some true→L[j]?=some true:=fun k' j hw hk'=>by
          have hlt:=waits_lt hd hw
          have hj:j<l.length:=by omega
          rw [hL k' hlt.2] at hk'
          rw [hL j hj]
          simp at hk' ⊢; omega
        have:L[k]?=some true:=by
          simp only [tailOk,List.all_eq_true,List.mem_range,Bool.or_eq_true] at ht
          rcases ht i (by omega) with h4 | h4
          · have:i<m:=Nat.le_of_ble_eq_true h4
            omega
          · rcases h4 k h3 with h5 | h5
            · exact h2 k h5
            · exact waitsT_done hdag _ i k h2 h5
        rw [hL k hk] at this; simp at this
      · omega
    subst hik
    rw [← List.getElem_cons_drop (h:=hk)] at h
    rw [wpListIn_one (i:=i) (by simp [hk])] at h
    refine wpOpIn_mono (fun a w hx=>?_) h
    refine any_tail hd ht f (i+1) _ a w (by omega) (by omega) (by simp [hs]) (fun j hj=>?_) hx
    rw [Array.getElem?_setIfInBounds]
    by_cases hij:i=j
    · subst hij; simp; omega
    · rw [if_neg hij,hL j hj]
      congr 1
      simp; omega

theorem KL.put {vals : List Value} {L : Array Bool} {a a' : Act} {i d : Nat} {v : Value} (hk : KL n ds l σ vals L a) (hq : quietOk l vals.length = true) (hLq : ∀ k, L[k]? = some true → k < vals.length) (hi : vals[i]? = some v) (hdi : dstOf l i = some d) (hLs : i < L.size)
    (hs:a'.tmps.size=n) (hds:a'.defers=ds) (hd:a'.tmps[d]?=some v) (ho:∀ t u,t≠d→a.tmps[t]?=some u→a'.tmps[t]?=some u):KL n ds l σ vals (L.setIfInBounds i true) a':=by
  have hiv:=(List.getElem?_eq_some_iff.1 hi).1
  refine ⟨hs,hds,fun t u ht hno=>?_,fun j u d' hj hv hd'=>?_⟩
  · have hne:t≠d:=fun e=>hno i (by rw [Array.getElem?_setIfInBounds]; simp [hLs]) (by rw [hdi,e])
    refine ho t u hne (hk.old t u ht fun k hk1=>hno k ?_)
    rw [Array.getElem?_setIfInBounds]
    by_cases hik:i=k
    · subst hik; simp [hLs]
    · rw [if_neg hik]; exact hk1
  · by_cases hij:i=j
    · subst hij
      rw [hi] at hv; cases hv
      rw [hdi] at hd'; cases hd'
      exact hd
    · rw [Array.getElem?_setIfInBounds,if_neg hij] at hj
      refine ho d' u (fun e=>?_) (hk.new j u d' hj hv hd')
      subst e
      exact hij (dst_ne hq hiv (hLq j hj) hdi hd')

theorem lk_mem:∀ {σ:Env} {t:Nat} {v:Value},lk σ t=some v→(t,v)∈σ
  | [],t,v,h=>by simp [lk] at h
  | (s,u)::r,t,v,h=>by
    rw [lk_cons] at h
    by_cases hs:s=t
    · rw [if_pos hs] at h; cases h; subst hs; simp
    · rw [if_neg hs] at h; exact List.mem_cons_of_mem _ (lk_mem h)
theorem lk_none:∀ {σ:Env} {t:Nat},lk σ t=none→∀ v,(t,v) ∉ σ
  | [],t,h,v,hm=>by simp at hm
  | (s,u)::r,t,h,v,hm=>by
    rw [lk_cons] at h
    by_cases hs:s=t
    · rw [if_pos hs] at h; cases h
    · rw [if_neg hs] at h
      rcases List.mem_cons.1 hm with h1 | h1
      · cases h1; exact hs rfl
      · exact lk_none h v h1

theorem KL.all {vals:List Value} {L:Array Bool} {a:Act} (hk:KL n ds l σ vals L a) (hLq:∀ k,L[k]?=some true→k<vals.length) (hall:∀ k,k<vals.length→L[k]?=some true):Kn n ds (allEnv l vals σ) a:=by
  refine ⟨hk.size,hk.defers,fun t v htv=>?_⟩
  have hmem:∀ t v,(t,v)∈(vals.zipIdx.filterMap fun (v,i)=>(dstOf l i).map fun d=>(d,v)).reverse↔∃ i,vals[i]?=some v∧dstOf l i=some t:=by
    intro t v
    rw [List.mem_reverse,List.mem_filterMap]
    constructor
    · rintro ⟨⟨u,i⟩,h1,h2⟩
      simp only [Option.map_eq_some_iff,Prod.mk.injEq] at h2
      obtain ⟨d,hd,rfl,rfl⟩:=h2
      have:=List.mem_zipIdx_iff_getElem?.1 h1
      exact ⟨i,this,hd⟩
    · rintro ⟨i,h1,h2⟩
      exact ⟨(v,i),List.mem_zipIdx_iff_getElem?.2 h1,by simp [h2]⟩
  rcases lk_append htv with h1 | ⟨h1,h2⟩
  · obtain ⟨i,h3,h4⟩:=(hmem t v).1 (lk_mem h1)
    exact hk.new i v t (hall i (List.getElem?_eq_some_iff.1 h3).1) h3 h4
  · refine hk.old t v h2 fun k hk1 hk2=>?_
    have hkv:=hLq k hk1
    exact lk_none h1 (vals[k]) ((hmem t _).2 ⟨k,by simp [hkv],hk2⟩)

theorem ready_ex (hd:dagOk l=true) {L:Array Bool} (hs:L.size=l.length):∀ j:Nat,L[j]?=some false→∃ i,i∈Region.ready .any l.toArray L:=by
  intro j
  induction j using Nat.strongRecOn with
  | _ j ih =>
    intro hj
    by_cases h:∀ k,waits l j k=true→L[k]?=some true
    · exact ⟨j,ready_mem hs hj h⟩
    · simp only [Classical.not_forall] at h
      obtain ⟨k,h1,h2⟩:=h
      have h3:=waits_lt hd h1
      have hk:k<L.size:=by omega
      refine ih k h3.1 ?_
      simp only [hk,Array.getElem?_eq_getElem] at h2 ⊢
      cases h4:L[k] with
      | true=>rw [h4] at h2; exact absurd rfl h2
      | false=>rfl

theorem DR.end {vals : List Value} (hm : P.follows .mixedOrders = true) (hd : dagOk l = true) (ht : tailOk l vals.length = true) (hq : quietOk l vals.length = true)
    (h:TL F P S w0 n l.toArray Q (l.drop vals.length) ds (allEnv l vals σ) η):DR F P S w0 n l ds σ η Q vals:=by
  intro hqs a w hk hh id
  refine wpIn_region_any hm ?_
  have hml:vals.length≤l.length:=by
    simp only [quietOk,Bool.and_eq_true] at hq
    exact Nat.le_of_ble_eq_true hq.1
  have main : ∀ (f : Nat) (L : Array Bool) (a : Act) (w : World), L.size = l.length → L.toList.countP (· == false) = f → (∀ k, L[k]? = some true → k < vals.length) → (∀ k j, waits l k j = true → L[k]? = some true → L[j]? = some true) →
      KL n ds l σ vals L a→Hp S w0 η w→wpAnyIn F 0 P .any l.toArray Q f L a w:=by
    have last : ∀ (f : Nat) (L : Array Bool) (a : Act) (w : World), L.size = l.length → L.toList.countP (· == false) = f → (∀ k, L[k]? = some true → k < vals.length) → (∀ k, k < vals.length → L[k]? = some true) →
        KL n ds l σ vals L a→Hp S w0 η w→wpAnyIn F 0 P .any l.toArray Q f L a w:=by
      intro f L a w hs hc hLq hall hkl hh
      have hL:∀ j,j<l.length→L[j]?=some (decide (j<vals.length)):=fun j hj=>by
        by_cases h1:j<vals.length
        · rw [hall j h1]; simp [h1]
        · have hj':j<L.size:=by omega
          have:L[j]?≠some true:=fun e=>h1 (hLq j e)
          simp only [hj',Array.getElem?_eq_getElem] at this ⊢
          cases h4:L[j] with
          | true=>rw [h4] at this; exact absurd rfl this
          | false=>simp [h1]
      have hLeq:L.toList=List.replicate vals.length true++List.replicate (l.length - vals.length) false:=by
        apply List.ext_getElem?
        intro j
        rw [Array.getElem?_toList]
        by_cases hj:j<l.length
        · rw [hL j hj]
          by_cases h1:j<vals.length
          · rw [List.getElem?_append_left (by simpa using h1)]; simp [h1]
          · rw [List.getElem?_append_right (by simpa using h1)]
            rw [List.getElem?_replicate,List.length_replicate,if_pos (by omega)]
            simp [h1]
        · rw [Array.getElem?_eq_none (by omega),List.getElem?_eq_none (by simp; omega)]
      have hf:vals.length+f=l.length:=by
        rw [hLeq] at hc
        simp [List.countP_append,List.countP_replicate] at hc
        omega
      exact any_tail hd ht f vals.length L a w hf (Nat.le_refl _) hs hL (h a w (hkl.all hLq hall) hh)
    intro f
    induction f with
    | zero =>
      intro L a w hs hc hLq hdown hkl hh
      refine last 0 L a w hs hc hLq (fun j hj=>?_) hkl hh
      have hj':j<L.size:=by omega
      rw [List.countP_eq_zero] at hc
      have:=hc L[j] (by simp)
      simp at this
      simp [hj',this]
    | succ f ih =>
      intro L a w hs hc hLq hdown hkl hh
      by_cases hall:∀ k,k<vals.length→L[k]?=some true
      · exact last (f+1) L a w hs hc hLq hall hkl hh
      · simp only [Classical.not_forall] at hall
        obtain ⟨j,hj,hjn⟩:=hall
        have hjL:L[j]?=some false:=by
          have hj':j<L.size:=by omega
          simp only [hj',Array.getElem?_eq_getElem] at hjn ⊢
          cases h4:L[j] with
          | true=>rw [h4] at hjn; exact absurd rfl hjn
          | false=>rfl
        refine ⟨fun he=>by
          obtain ⟨i,hi⟩:=ready_ex hd hs j hjL
          rw [he] at hi; simp at hi,fun i hi=>?_⟩
        obtain ⟨h1,h2⟩:=mem_ready hs hi
        have hilt:=(Array.getElem?_eq_some_iff.1 h1).1
        have him:i<vals.length:=by
          rcases Nat.lt_or_ge i vals.length with h3 | h3
          · exact h3
          · have:L[j]?=some true:=by
              simp only [tailOk,List.all_eq_true,List.mem_range,Bool.or_eq_true] at ht
              rcases ht i (by omega) with h4 | h4
              · have:i<vals.length:=Nat.le_of_ble_eq_true h4
                omega
              · rcases h4 j (by omega) with h5 | h5
                · exact h2 j h5
                · exact waitsT_done hdown _ i j h2 h5
            rw [hjL] at this; cases this
        have hvi:vals[i]?=some vals[i]:=by simp [him]
        obtain ⟨o,d,env,ho,hod,henv,hop⟩:=hqs i _ hvi
        have hdi:dstOf l i=some d:=by simp [dstOf,ho,hod]
        have hke:∀ t v,lk (envs env) t=some v→a.tmps[t]?=some v:=hkl.env h1 hdown h2 henv
        have hkn:Kn n ds (envs env++fullEnv a) a:=⟨hkl.size,hkl.defers,fun t v htv=>by
          rcases lk_append htv with h5 | ⟨_,h5⟩
          · exact hke t v h5
          · exact lk_full a t v h5⟩
        have h6:=hop (fullEnv a) a w hkn hh
        rw [wpListIn_one (i:=i) (by simp [ho])] at h6
        refine wpOpIn_monoQ (fun a' w' hx=>?_) (fun e a' w' hne hx=>by cases e <;> first | exact absurd rfl hne | exact hx.elim) h6
        obtain ⟨hk',hh'⟩:=(show Kn n ds ((d,vals[i])::(envs env++fullEnv a)) a'∧Hp S w0 η w' from hx)
        have hd1:a'.tmps[d]?=some vals[i]:=hk'.slot d _ (by rw [lk_cons,if_pos rfl])
        have ho1:∀ t u,t≠d→a.tmps[t]?=some u→a'.tmps[t]?=some u:=fun t u hne htu=>by
          refine hk'.slot t u ?_
          rw [lk_cons,if_neg (Ne.symm hne)]
          have hfull:lk (fullEnv a) t=some u:=by
            have:=lk_full' a.tmps.toList 0 t u (by simpa using htu)
            simpa [fullEnv] using this
          have happ:∀ (e1:Env),(∀ v,lk e1 t=some v→v=u)→lk (e1++fullEnv a) t=some u:=by
            intro e1
            induction e1 with
            | nil=>intro _; exact hfull
            | cons p r ihr =>
              obtain ⟨s,v⟩:=p
              intro hv
              rw [List.cons_append,lk_cons]
              by_cases hst:s=t
              · rw [if_pos hst,hv v (by rw [lk_cons,if_pos hst])]
              · rw [if_neg hst]; exact ihr fun v' hv'=>hv v' (by rw [lk_cons,if_neg hst]; exact hv')
          exact happ _ fun v hv=>by
            have:=hke t v hv
            rw [htu] at this; cases this; rfl
        refine ih _ a' w' (by simp [hs]) ?_ ?_ ?_ (hkl.put hq hLq hvi hdi hilt hk'.size hk'.defers hd1 ho1) hh'
        · rw [Array.toList_setIfInBounds,List.countP_set (by simpa using hilt)]
          have h7:L.toList[i]'(by simpa using hilt)=false:=by
            have:=(Array.getElem?_eq_some_iff.1 h1).2
            simpa using this
          rw [h7,hc]; simp
        · intro k hk1
          rw [Array.getElem?_setIfInBounds] at hk1
          by_cases hik:i=k
          · subst hik; exact him
          · rw [if_neg hik] at hk1; exact hLq k hk1
        · intro k j' hw hk1
          rw [Array.getElem?_setIfInBounds] at hk1 ⊢
          by_cases hij:i=j'
          · subst hij; simp [hilt]
          · rw [if_neg hij]
            by_cases hik:i=k
            · subst hik; exact h2 j' hw
            · rw [if_neg hik] at hk1; exact hdown k j' hw hk1
  refine main _ _ _ _ (by simp) (by simp [List.countP_replicate]) (fun k hk=>by simp [Array.getElem?_replicate] at hk) (fun k j _ hk=>by simp [Array.getElem?_replicate] at hk) ⟨hk.size,hk.defers,fun t v h1 _=>hk.slot t v h1,fun i v d hi=>by simp [Array.getElem?_replicate] at hi⟩ ⟨hh.os,hh.tape,hh.output,Nat.le_succ_of_le hh.drawn,hh.size,hh.same,hh.own,hh.once⟩

theorem DR.done (pre : Env) (tl : List Oper) {vals : List Value} (hm : P.follows .mixedOrders = true) (hd : dagOk l = true) (ht : tailOk l vals.length = true) (hq : quietOk l vals.length = true) (hp : allEnv l vals σ = pre ++ σ) (hl : l.drop vals.length = tl)
    (h:TL F P S w0 n l.toArray Q tl ds (pre++σ) η):DR F P S w0 n l ds σ η Q vals:=DR.end hm hd ht hq (by rw [hp,hl]; exact h)

end
end Go.Sl
/- Slices: those that are read, those that are owned; append, make, slice expressions. -/
namespace Go.Sl

/-- The cells of a slice. -/
structure Row (S:Nat→Prop) (w0:World) (η:Heap) (a:Option Addr) (cs:List Value):Prop where
  ad:0<cs.length→∃ ad,a=some ad∧ad.spot=none
  cell:∀ i v,cs[i]?=some v→At S w0 η (sAt a i) v
abbrev ints (xs:List Int):List Value:=xs.map (Value.int .i64)

/-- An owned slice. -/
def OSl (e:TypeId) (sz:Nat) (v:Value) (n:Nat) (xs:List Value) (seg:Seg):Prop :=
  xs.length=n*sz∧((v = .slice none 0 0∧n=0∧seg=[]) ∨
    ∃ g cap cur,v = .slice (some ⟨g,0,none⟩) n cap∧seg=[(g,.cells cur e (0,0))]∧n≤cap∧cur.size=cap*sz∧cur.toList.take (n*sz)=xs)

section
variable {S:Nat→Prop} {w0 w:World} {η:Heap}

theorem Hp.sub {η':Heap} (hh:Hp S w0 η w) (hs:∀ p∈η'.flatten,p∈η.flatten) (hn:(η'.flatten.map (·.1)).Nodup):Hp S w0 η' w :=
  ⟨hh.os,hh.tape,hh.output,hh.drawn,hh.size,hh.same,fun p hp=>hh.own p (hs p hp),hn⟩
theorem Hp.drew (hh:Hp S w0 η w) (k:Nat) (hk:w.drawn≤k:=by first | exact Nat.le_succ _ | simp):Hp S w0 η { w with drawn:=k }:=⟨hh.os,hh.tape,hh.output,Nat.le_trans hh.drawn hk,hh.size,hh.same,hh.own,hh.once⟩
theorem Hp.turnI {i b:Nat} {o:Obj} (hh:Hp S w0 η w) (hi:η[i]?=some [(b,o)]) (o':Obj):Hp S w0 (η.set i [(b,o')]) (putBlk w b o'):=by
  obtain ⟨hlt,he⟩:=List.getElem?_eq_some_iff.1 hi
  have:η=η.take i++[(b,o)]::η.drop (i+1):=by rw [← he,List.getElem_cons_drop,List.take_append_drop]
  rw [this] at hh
  have h2:=hh.turn o'
  rwa [List.set_eq_take_append_cons_drop,if_pos hlt]
theorem flatten_set_sub {i:Nat} {s s':Seg} (hi:η[i]?=some s):∃ pre post:Heap,η=pre++s::post∧η.set i s'=pre++s'::post:=by
  obtain ⟨hlt,he⟩:=List.getElem?_eq_some_iff.1 hi
  refine ⟨η.take i,η.drop (i+1),?_,?_⟩
  · rw [← he,List.getElem_cons_drop,List.take_append_drop]
  · rw [List.set_eq_take_append_cons_drop,if_pos hlt]
theorem nodup_set {pre post:Heap} {s:Seg} {b:Nat} {o:Obj} (h:((([(b,o)]:Seg)::(pre++s::post)).flatten.map (·.1)).Nodup):((pre++[(b,o)]::post).flatten.map (·.1)).Nodup:=by
  have hp:((pre++[(b,o)]::post).flatten.map (·.1)).Perm (((([(b,o)]:Seg)::(pre++post)).flatten).map (·.1)):=by
    refine List.Perm.map _ ?_
    simp only [List.flatten_append,List.flatten_cons,List.cons_append,List.nil_append]
    exact List.perm_middle
  rw [hp.nodup_iff]
  refine List.Nodup.sublist (List.Sublist.map _ ?_) h
  simp only [List.flatten_append,List.flatten_cons,List.cons_append,List.nil_append]
  exact List.Sublist.cons_cons _ (List.Sublist.append (List.Sublist.refl _) (List.sublist_append_right _ _))
theorem Hp.freshI {i:Nat} {s:Seg} (hh:Hp S w0 η w) (hi:η[i]?=some s) (o:Obj):Hp S w0 (η.set i [(w.heap.size,o)]) { w with heap:=w.heap.push o }:=by
  obtain ⟨pre,post,he,hs⟩:=flatten_set_sub (s':=[(w.heap.size,o)]) hi
  have h2:=hh.alloc o
  rw [he] at h2
  rw [hs]
  refine h2.sub (fun p hp=>?_) (nodup_set h2.once)
  simp only [List.flatten_append,List.flatten_cons,List.mem_append] at hp ⊢
  rcases hp with h | h | h
  · exact .inr (.inl h)
  · exact .inl h
  · exact .inr (.inr (.inr h))

theorem OSl.nil (e:TypeId) (sz:Nat):OSl e sz (.slice none 0 0) 0 [] []:=⟨by simp,.inl ⟨rfl,rfl,rfl⟩⟩
theorem OSl.form {e:TypeId} {sz n:Nat} {v:Value} {xs:List Value} {seg:Seg} (h:OSl e sz v n xs seg):∃ a cap,v = .slice a n cap:=by
  rcases h.2 with ⟨rfl,rfl,_⟩ | ⟨g,cap,cur,rfl,_⟩ <;> exact ⟨_,_,rfl⟩
theorem OSl.row {e:TypeId} {sz n:Nat} {a:Option Addr} {l cap:Nat} {xs:List Value} {seg:Seg} (h:OSl e sz (.slice a l cap) n xs seg) (hs:seg∈η):Row S w0 η a xs:=by
  rcases h.2 with ⟨hv,hn,_⟩ | ⟨g,cap',cur,hv,hsg,hnc,hcs,ht⟩
  · have hx:xs=[]:=List.eq_nil_of_length_eq_zero (by have:=h.1; rw [hn] at this; simpa using this)
    subst hx
    exact ⟨fun hl=>by simp at hl,fun i v hi=>by simp at hi⟩
  · simp only [Value.slice.injEq] at hv
    obtain ⟨rfl,_,_⟩:=hv
    refine ⟨fun _=>⟨_,rfl,rfl⟩,fun i v hi=>?_⟩
    refine .own seg hs cur e (0,0) (by rw [hsg]; simp [sAt]) ?_ rfl
    rw [← ht,List.getElem?_take] at hi
    split at hi
    · simpa [sAt] using hi
    · cases hi

/-- What an append takes. -/
def Src (S:Nat→Prop) (w0:World) (η:Heap) (v:Value) (m:Nat) (news:List Value):Prop:=∃ a c,v = .slice a m c∧Row S w0 η a news
theorem Row.src {a:Option Addr} {m c:Nat} {news:List Value} (h:Row S w0 η a news):Src S w0 η (.slice a m c) m news:=⟨a,c,rfl,h⟩

variable {P:Program}
theorem run_firstCells {sz m c:Nat} {a:Option Addr} {news:List Value} (hr:Row S w0 η a news) (hl:news.length=m*sz) (hh:Hp S w0 η w):(Builtin.firstCells sz m (.slice a m c)).run P w = .ok news.toArray w:=by
  cases a with
  | none =>
    have:news=[]:=by
      cases news with
      | nil=>rfl
      | cons x r=>obtain ⟨ad,h,_⟩:=hr.ad (by simp); cases h
    subst this
    simp [Builtin.firstCells]
  | some ad =>
    by_cases h0:news=[]
    · subst h0
      have:m*sz=0:=by simpa using hl.symm
      simp [Builtin.firstCells,loadCells,this,loadCellsFrom]
    · obtain ⟨ad',h1,hsp⟩:=hr.ad (List.length_pos_iff.2 h0)
      cases h1
      simp only [Builtin.firstCells,loadCells]
      rw [run_loadCellsFrom hsp (fun i=>news.getD i undef) (m*sz) 0 #[] (fun j _ h2=>?_)]
      · congr 1
        simp only [Array.empty_append]
        congr 1
        apply List.ext_getElem?
        intro i
        rw [List.getElem?_map]
        by_cases hi:i<m*sz
        · rw [List.getElem?_range' hi]; simp [List.getD_eq_getElem?_getD,hl,hi]
        · simp [hl,hi]
      · have h3:news[j]?=some (news.getD j undef):=by
          have:j<news.length:=by omega
          simp [List.getD_eq_getElem?_getD,this]
        have h4:=(hr.cell j _ h3).cell hh
        have:ad.add j=sAt (some ad) j:=by
          obtain ⟨b,o,s⟩:=ad
          simp only at hsp
          subst hsp
          unfold Addr.add sAt; split
          · rename_i h; simp [h]
          · rfl
        rw [this]; exact h4

theorem foldl_set:∀ (vs:List Value) (cs:Array Value) (o:Nat),o+vs.length≤cs.size→vs.zipIdx.foldl (fun cs (c,j)=>cs.setIfInBounds (o+j) c) cs=(cs.toList.take o++vs++cs.toList.drop (o+vs.length)).toArray:=by
  intro vs
  induction vs with
  | nil=>intro cs o h; simp
  | cons v vs ih =>
    intro cs o h
    simp only [List.length_cons] at h
    have hsh:∀ (l:List Value) (k:Nat) (c0:Array Value),List.foldl (fun cs (x:Value × Nat)=>cs.setIfInBounds (o+x.2) x.1) c0 (l.zipIdx (k+1))=List.foldl (fun cs (x:Value × Nat)=>cs.setIfInBounds (o+1+x.2) x.1) c0 (l.zipIdx k):=by
      intro l
      induction l with
      | nil=>intro k c0; rfl
      | cons u l ihl=>intro k c0; simp only [List.zipIdx_cons,List.foldl_cons]; rw [ihl,show o+(k+1)=o+1+k from by omega]
    simp only [List.zipIdx_cons,List.foldl_cons,Nat.add_zero,Nat.zero_add]
    rw [hsh vs 0,ih _ (o+1) (by simp; omega)]
    congr 1
    have ho:o<cs.toList.length:=by simp; omega
    have e1:(cs.toList.set o v).take (o+1)=cs.toList.take o++[v]:=by
      rw [List.set_eq_take_append_cons_drop,if_pos ho,List.take_append,List.length_take,Nat.min_eq_left (Nat.le_of_lt ho)]
      simp [List.take_take]
    have e2:(cs.toList.set o v).drop (o+1+vs.length)=cs.toList.drop (o+(vs.length+1)):=by
      rw [List.drop_set_of_lt (by omega)]; congr 1; omega
    simp only [Array.toList_setIfInBounds,List.length_cons,e1,e2]
    simp

theorem run_append {t ty e : TypeId} [Und P t (.slice e)] {z : Value} {sz bt : Nat} [Inf P e z sz bt] (hz : z.cells.size = sz) {i n m : Nat} {v x : Value} {xs news : List Value} {seg : Seg} (hh : Hp S w0 η w) (hi : η[i]? = some seg)
    (ho:OSl e sz v n xs seg) (hs:Src S w0 η x m news) (hl:news.length=m*sz) (h1:∀ u∈news,u.oneCell'=true) (hb:(n+m)*bt≤140737488355328) (hsm:n+m≤4611686018427387904) :
    ∃ v' w' seg',(Builtin.append_ #[t,t] ty #[v,x]).run P w = .ok v' w'∧Hp S w0 (η.set i seg') w'∧OSl e sz v' (n+m) (xs++news) seg':=by
  obtain ⟨a,c,rfl,hr⟩:=hs
  have hfc:=run_firstCells (P:=P) (c:=c) hr hl hh
  have hlen:(xs++news).length=(n+m)*sz:=by rw [List.length_append,ho.1,hl,Nat.add_mul]
  obtain ⟨inf,hinf,hiz,hisz,hibt⟩:=run_typeInfo (P:=P) (t:=e) (z:=z) (sz:=sz) (bt:=bt)
  have grow : ∀ (base : Option Addr) (cap : Nat), v = .slice base n cap → cap < n + m → (Builtin.firstCells sz n v).run P w.drew = .ok xs.toArray w.drew →
      ∃ v' w' seg',(Builtin.append_ #[t,t] ty #[v,.slice a m c]).run P w = .ok v' w'∧Hp S w0 (η.set i seg') w'∧OSl e sz v' (n+m) (xs++news) seg':=by
    intro base cap hv hlt hold
    subst hv
    have hfc':(Builtin.firstCells sz m (.slice a m c)).run P w.drew = .ok news.toArray w.drew:=run_firstCells (P:=P) (c:=c) hr hl (hh.drew (w.drawn+1))
    have hg:=growslice_fits (old:=cap) (bytes:=bt) hlt hb
    have hq:(Question.appendCap (n+m) cap e).forced=false:=rfl
    have hcut:∃ k,(Question.appendCap (n+m) cap e).cut (w.tape w.drawn (.appendCap (n+m) cap e))=n+m+k:=⟨_,rfl⟩
    obtain ⟨k,hk⟩:=hcut
    refine ⟨.slice (some ⟨w.heap.size,0,none⟩) (n+m) (n+m+k),w.drew.alloc (.cells (xs.toArray++news.toArray++Builtin.zeroCells z.cells k) e (0,0)),[(w.heap.size,.cells (xs.toArray++news.toArray++Builtin.zeroCells z.cells k) e (0,0))],?_,(hh.drew (w.drawn+1)).freshI hi _,hlen,.inr ⟨_,_,_,rfl,rfl,by omega,?_,?_⟩⟩
    · have h3:¬ (n+m≤cap):=by omega
      simp only [Builtin.append_]
      simp [run_underlying (t:=t) (d:=.slice e),run_sizeOf (t:=e) (z:=z) (sz:=sz) (bt:=bt),Builtin.lenOf,h3,hinf,hibt,hq,hk,hold,hfc',run_zeroValue (t:=e) (z:=z) (sz:=sz) (bt:=bt),newRow]
      rw [if_neg (by omega),if_neg (by omega)]
      simp
      congr 2
      rw [← Array.append_assoc]
      simp
    · simp [Builtin.zeroCells,ho.1,hl,hz,Nat.add_mul]
    · simp only [Array.toList_append,List.append_assoc]
      rw [← List.append_assoc,← hlen]
      exact List.take_left
  rcases ho.2 with ⟨rfl,rfl,rfl⟩ | ⟨g,cap,cur,rfl,rfl,hnc,hcs,htk⟩
  · have hx:xs=[]:=List.eq_nil_of_length_eq_zero (by simpa using ho.1)
    subst hx
    by_cases hm:m=0
    · subst hm
      have hn:news=[]:=List.eq_nil_of_length_eq_zero (by simpa using hl)
      subst hn
      refine ⟨.slice none 0 0,w,[],?_,?_,OSl.nil e sz⟩
      · simp [Builtin.append_,run_underlying (t:=t) (d:=.slice e),run_sizeOf (t:=e) (z:=z) (sz:=sz) (bt:=bt),Builtin.lenOf,hfc]
      · obtain ⟨pre,post,he,hse⟩:=flatten_set_sub (s':=([]:Seg)) hi
        rw [hse,← he]; exact hh
    · exact grow none 0 rfl (by omega) (by simp [Builtin.firstCells])
  · by_cases hroom:n+m≤cap
    · have hg:=(hh.own (g,.cells cur e (0,0)) (List.mem_flatten.2 ⟨_,List.mem_of_getElem? hi,by simp⟩)).1
      have hfit:n*sz+news.length≤cur.size:=by rw [hl,hcs,← Nat.add_mul]; exact Nat.mul_le_mul_right _ hroom
      refine ⟨_,_,[(g,.cells ((cur.toList.take (n*sz)++news++cur.toList.drop (n*sz+news.length)).toArray) e (0,0))],?_,hh.turnI hi _,hlen,.inr ⟨g,cap,_,rfl,rfl,hroom,?_,?_⟩⟩
      · have hadd:(⟨g,0,none⟩:Addr).add (n*sz)=⟨g,n*sz,none⟩:=by unfold Addr.add; split <;> simp_all
        have hst:=run_storeCells (P:=P) (e:=e) (b:=g) news cur (n*sz) 0 w hg (by simpa using hfit) h1
        simp only [Nat.add_zero] at hst
        rw [foldl_set _ _ _ hfit] at hst
        simp [Builtin.append_,run_underlying (t:=t) (d:=.slice e),run_sizeOf (t:=e) (z:=z) (sz:=sz) (bt:=bt),Builtin.lenOf,hroom,hfc,hadd,hst]
      · simp only [List.size_toArray,List.length_append,List.length_take,List.length_drop,Array.length_toList]
        omega
      · rw [htk,← hlen]
        exact List.take_left
    · refine grow (some ⟨g,0,none⟩) cap rfl (by omega) ?_
      have hrow:Row S w0 η (some ⟨g,0,none⟩) xs:=ho.row (List.mem_of_getElem? hi)
      exact run_firstCells hrow ho.1 (hh.drew _)

end
section
variable {F:Fence} {P:Program} {S:Nat→Prop} {w0:World} {n:Nat} {Q:Exit→Act→World→Prop} {ds:List Deferred} {σ:Env} {η:Heap} {ops:Array Oper} {rest:List Oper} {d:Nat} {ty:TypeId} {pos:String} {af:Array Edge}

/-- append, of a slice that is owned at place i. -/
theorem TL.append (hF : Open F) (i : Nat) {t e : TypeId} [Und P t (.slice e)] {z : Value} {sz bt : Nat} [Inf P e z sz bt] {x y : Operand} {k m : Nat} {v u : Value} {xs news : List Value} {seg : Seg} (hx : ev σ x = some v) (hy : ev σ y = some u)
    (hi:η[i]?=some seg) (ho:OSl e sz v k xs seg) (hs:Src S w0 η u m news) (hz:z.cells.size=sz) (hl:news.length=m*sz) (h1:∀ u∈news,u.oneCell'=true) (hb:(k+m)*bt≤140737488355328) (hsm:k+m≤4611686018427387904) (hn:Nat.blt d n=true)
    (h:∀ a cap seg',OSl e sz (.slice a (k+m) cap) (k+m) (xs++news) seg'→TL F P S w0 n ops Q rest ds ((d,.slice a (k+m) cap)::σ) (η.set i seg')) :
    TL F P S w0 n ops Q (⟨some d,.call ⟨.builtin .append,#[x,y],#[t,t]⟩,ty,pos,af,none⟩::rest) ds σ η :=
  TL.val hF (by intro c; simp) hn fun a w hk hh=>by
    obtain ⟨v',w',seg',hr,hh',ho'⟩:=run_append (P:=P) (t:=t) (ty:=ty) (e:=e) (z:=z) (sz:=sz) (bt:=bt) hz hh hi ho hs hl h1 hb hsm
    obtain ⟨a',cap,rfl⟩:=ho'.form
    exact ⟨_,w',_,by simp [execOp,resolve,invoke,builtin,hk.ev hx,hk.ev hy,hr],hh',h _ _ _ ho'⟩

/-- make of a slice whose elements are one cell each. -/
theorem TL.makeSlice (hF : Open F) {t e : TypeId} [Und P t (.slice e)] {z : Value} {bt : Nat} [Inf P e z 1 bt] {x y : Operand} {k : Nat} (hx : ev σ x = some (.int .i64 (k : Int))) (hy : ev σ y = some (.int .i64 (k : Int))) (hz : z.cells = #[z]) (hb : k * bt ≤ 281474976710656) (hk : k ≤ 4611686018427387904) (hn : Nat.blt d n = true)
    (h:∀ b,TL F P S w0 n ops Q rest ds ((d,.slice (some ⟨b,0,none⟩) k k)::σ) ([(b,.cells (List.replicate k z).toArray e (0,0))]::η)) :
    TL F P S w0 n ops Q (⟨some d,.makeSlice t x y,ty,pos,af,none⟩::rest) ds σ η :=
  TL.val hF (by intro c; simp) hn fun a w hkn hh=>by
    obtain ⟨inf,hinf,hiz,hisz,hibt⟩:=run_typeInfo (P:=P) (t:=e) (z:=z) (sz:=1) (bt:=bt)
    refine ⟨_,_,_,?_,hh.alloc _,h _⟩
    have hw:IntKind.i64.wrap (k:Int)=k:=wrap_i64 (by omega) (by omega)
    have hb':¬ ((281474976710656:Int)<(bt:Int)*(k:Int)):=by
      have:((k*bt:Nat):Int)≤281474976710656:=by omega
      rw [Int.natCast_mul,Int.mul_comm] at this
      omega
    have hcells:((Array.range k).map fun i=>z.cells[i % z.cells.size]!)=(List.replicate k z).toArray:=by
      rw [hz]
      apply Array.ext
      · simp
      · intro j h1 h2
        simp [Nat.mod_one]
    by_cases hk0:k=0
    · subst hk0
      have hw0:IntKind.i64.wrap 0=0:=by decide
      simp [hw0,execOp,Instr.makeSlice,hkn.ev hx,hkn.ev hy,run_underlying (t:=t) (d:=.slice e),asInt,asIntOf,hinf,run_sizeOf (t:=e) (z:=z) (sz:=1) (bt:=bt),newRow]
      have:(Array.map (fun _=>(default:Value)) (Array.range 0)) = #[]:=by simp [Array.range]
      rw [this]
    · simp [execOp,Instr.makeSlice,hkn.ev hx,hkn.ev hy,run_underlying (t:=t) (d:=.slice e),asInt,asIntOf,hinf,hibt,hw,hb',run_sizeOf (t:=e) (z:=z) (sz:=1) (bt:=bt),newRow,run_zeroValue (t:=e) (z:=z) (sz:=1) (bt:=bt),hk0,hcells]
      intro hneg
      omega

/-- A slice expression of a slice. -/
theorem TL.slice (hF : Open F) {t e : TypeId} [Und P t (.slice e)] {z : Value} {sz bt : Nat} [Inf P e z sz bt] {x : Operand} {lo hi : Option Operand} {a : Option Addr} {l c i j : Nat} (hx : ev σ x = some (.slice a l c))
    (hlo:(match lo with | none=>i=0 | some y=>ev σ y=some (.int .i64 (i:Int)))) (hhi:(match hi with | none=>j=l | some y=>ev σ y=some (.int .i64 (j:Int)))) (hij:i≤j) (hjc:j≤c) (hn:Nat.blt d n=true)
    (h:TL F P S w0 n ops Q rest ds ((d,.slice (if c=i then a else a.map (·.add (i*sz))) (j - i) (c - i))::σ) η):TL F P S w0 n ops Q (⟨some d,.slice t x lo hi none,ty,pos,af,none⟩::rest) ds σ η :=
  TL.pure hF (by intro c; simp) hn (fun a w hk _=>by
    have h1:((j:Int)≤(c:Int)):=by omega
    have h2:((i:Int)≤(j:Int)):=by omega
    cases lo with
    | none =>
      simp only at hlo; subst hlo
      cases hi with
      | none=>simp only at hhi; subst hhi; simp [execOp,Instr.sliceAt,Instr.slice,Instr.sliceBounds,run_underlying (t:=t) (d:=.slice e),run_sizeOf (t:=e) (z:=z) (sz:=sz) (bt:=bt),hk.ev hx]
      | some y =>
        have hy:=hk.ev hhi
        simp [execOp,Instr.sliceAt,Instr.slice,Instr.sliceBounds,Instr.sliceBound,asIntOf,run_underlying (t:=t) (d:=.slice e),run_sizeOf (t:=e) (z:=z) (sz:=sz) (bt:=bt),hk.ev hx,hy,hjc]
    | some x2 =>
      have hxx:=hk.ev hlo
      cases hi with
      | none =>
        simp only at hhi; subst hhi
        simp [execOp,Instr.sliceAt,Instr.slice,Instr.sliceBounds,Instr.sliceBound,asIntOf,run_underlying (t:=t) (d:=.slice e),run_sizeOf (t:=e) (z:=z) (sz:=sz) (bt:=bt),hk.ev hx,hxx,hij]
      | some y =>
        have hy:=hk.ev hhi
        simp [execOp,Instr.sliceAt,Instr.slice,Instr.sliceBounds,Instr.sliceBound,asIntOf,run_underlying (t:=t) (d:=.slice e),run_sizeOf (t:=e) (z:=z) (sz:=sz) (bt:=bt),hk.ev hx,hxx,hy,hij,hjc]) h

/-- What is read of a list of integers. -/
theorem Row.int {a:Option Addr} {xs:List Int} (h:Row S w0 η a (ints xs)) {i:Nat} (hi:i<xs.length):At S w0 η (sAt a (i*1)) (.int .i64 xs[i]):=by
  rw [Nat.mul_one]; exact h.cell i _ (by simp [hi])
theorem Row.adi {a:Option Addr} {cs:List Value} (h:Row S w0 η a cs) {i:Nat} (hi:i<cs.length):∃ ad,a=some ad∧ad.spot=none:=h.ad (by omega)
/-- Reading goes on while the owned blocks of a heap are among those of another one. -/
theorem At.up {η':Heap} {a:Addr} {v:Value} (h:At S w0 η a v) (hs:∀ seg∈η,seg∈η'):At S w0 η' a v:=by
  cases h with
  | rd h hc=>exact .rd h hc
  | own seg h1 cs e fz h2 h3 h4=>exact .own seg (hs seg h1) cs e fz h2 h3 h4
theorem Row.up {η':Heap} {a:Option Addr} {cs:List Value} (h:Row S w0 η a cs) (hs:∀ seg∈η,seg∈η'):Row S w0 η' a cs:=⟨h.ad,fun i v hi=>(h.cell i v hi).up hs⟩
/-- What is read of what nobody owns is read in any heap. -/
theorem Row.ro {η':Heap} {a:Option Addr} {cs:List Value} (h:Row S w0 [] a cs):Row S w0 η' a cs:=h.up (by simp)

end
end Go.Sl
/- Deferred functions that recover; a range over a function; calls of yield. -/
namespace Go.Sl

section
variable {F:Fence} {P:Program} {S:Nat→Prop} {w0 w:World} {n:Nat} {Q:Exit→Act→World→Prop} {ds:List Deferred} {σ:Env} {η:Heap} {ops:Array Oper} {rest:List Oper} {d:Nat} {ty:TypeId} {pos:String} {af:Array Edge}

/-! How a frame leaves: deferred calls and marks -/
/-- 'Leaves' with marks. -/
def Lv (P:Program) (fn:Func) (tmps:Array Value) (R:Ending→World→Prop):List Deferred→FrameMode→World→Prop
  | [],u,w=>Leaves P fn tmps R [] u w
  | d :: ds, u, w => u ≠ .run ∧
      ((∃ r w',d.target = .collected r∧(Instr.takeDeferred r).run P w = .ok [] w'∧Lv P fn tmps R ds u w') ∨
       (∃ fv cap f args,d.target = .fn fv cap∧(invoke d.target d.args).run P w = .ok (.enter f args) w ∧
        CallsD P f args u w fun
          | .returned _,u',w'=>Lv P fn tmps R ds (settle u') w'
          | .panicked chain,u',w'=>Lv P fn tmps R ds (raised u' chain) w'
          | .outgrown,_,w'=>R .outgrown w'))
theorem lv_steps {fn : Func} {tmps : Array Value} {R : Ending → World → Prop} : ∀ (ds : List Deferred) (u : FrameMode) (w : World) (fr : Frame)
    (cs:List Frame),fr.mode=u→fr.defers=ds→fr.tmps=tmps→P.funcs[fr.fn]?=some fn→fr.kind = .normal→Lv P fn tmps R ds u w →
    ∃ e w' fr',R e w'∧Comes P (lone fr cs w) (lone fr' cs w') e∧fr'.fn=fr.fn∧fr'.leaving P w' e:=by
  intro ds
  induction ds with
  | nil=>exact fun u w fr cs hu hd ht hf hk h=>leaves_steps [] u w fr cs hu hd ht hf hk h
  | cons d ds ih =>
    intro u w fr cs hu hd ht hf hk h
    obtain ⟨hrun,h⟩:=h
    rcases h with ⟨r,w',htar,htake,hrest⟩ | ⟨fv,cap,f,args,htar,hinv,hcall⟩
    · have h1:=step_collected (cs:=cs) (hu ▸ hrun) hd htar htake
      obtain ⟨e',w'',fr',hR',hs',hfn',hl'⟩:=ih u w' { fr with defers:=[]++ds } cs hu rfl ht hf hk hrest
      exact ⟨e',w'',fr',hR',Comes.of_steps (.one h1) hs',hfn',hl'⟩
    · have h1:=step_defer (cs:=cs) (hu ▸ hrun) hd htar hinv
      obtain ⟨e,u',w',frX,hR,hsteps,hkX,hgo⟩:=hcall { fr with defers:=ds } cs hu
      cases e with
      | outgrown=>exact ⟨.outgrown,w',fr,hR,Outgrown.of_steps (.one h1) hsteps,rfl,trivial⟩
      | returned v =>
        have h2:=step_going_returned (c:={ { fr with defers:=ds } with mode:=u' }) (cs:=cs) hkX hgo
        obtain ⟨e',w'',fr',hR',hs',hfn',hl'⟩:=ih (settle u') w' { { { fr with defers:=ds } with mode:=u' } with mode:=settle u' } cs rfl rfl ht hf hk hR
        exact ⟨e',w'',fr',hR',Comes.of_steps (.head h1 (Steps.trans hsteps (.one h2))) hs',hfn',hl'⟩
      | panicked chain =>
        have h2:=step_going_panicked (c:={ { fr with defers:=ds } with mode:=u' }) (cs:=cs) hgo
        obtain ⟨e',w'',fr',hR',hs',hfn',hl'⟩:=ih (raised u' chain) w' { { { fr with defers:=ds } with mode:=u' } with mode:=raised u' chain } cs rfl rfl ht hf hk hR
        exact ⟨e',w'',fr',hR',Comes.of_steps (.head h1 (Steps.trans hsteps (.one h2))) hs',hfn',hl'⟩
def bodyPostL (P:Program) (fn:Func) (R:Ending→World→Prop):Exit→Act→World→Prop
  | .normal,a,w | .ret,a,w=>Lv P fn a.tmps R a.defers .returning w
  | .panic chain,a,w=>Lv P fn a.tmps R a.defers (.panicking chain) w
  | .outgrown,_,w=>R .outgrown w
  | _,_,_=>False
theorem calls_of_wpL {f : FuncId} {fn : Func} {c : Code} {args : Array Value} {R : Ending → World → Prop} (hf : P.funcs[f]? = some fn) (hb : fn.body = some c)
    (h:c.wp P (bodyPostL P fn R) { tmps:=args++Array.replicate (fn.ntmps - args.size) undef,defers:=[] } w):Calls P f args w R:=by
  intro cs
  let b:Frame:={ (default:Frame) with fn:=f,kind:=.normal }
  have henter : Frame.enter P f args .normal =
      b.at { tmps:=args++Array.replicate (fn.ntmps - args.size) undef,defers:=[] } [.code c]:=by
    simp [Frame.enter,Frame.at,hf,hb,b]
  obtain ⟨e,a',w',hq,harr⟩:=h b [] cs
  rw [← henter] at harr
  cases e with
  | normal =>
    obtain ⟨e',w'',fr',hR,hs,hfn,hl⟩:=lv_steps a'.defers .returning w' { b.at a' [] with mode:=.returning } cs rfl rfl rfl hf rfl hq
    exact ⟨e',w'',fr',hR,Comes.of_steps (Steps.trans harr (.one step_end)) hs,hfn,hl⟩
  | ret =>
    obtain ⟨todo,hs₀⟩:=harr
    obtain ⟨e',w'',fr',hR,hs,hfn,hl⟩:=lv_steps a'.defers .returning w' { b.at a' todo with mode:=.returning } cs rfl rfl rfl hf rfl hq
    exact ⟨e',w'',fr',hR,Comes.of_steps hs₀ hs,hfn,hl⟩
  | panic chain =>
    obtain ⟨todo,hs₀⟩:=harr
    obtain ⟨e',w'',fr',hR,hs,hfn,hl⟩:=lv_steps a'.defers (.panicking chain) w' { b.at a' todo with mode:=.panicking chain } cs rfl rfl rfl hf rfl hq
    exact ⟨e',w'',fr',hR,Comes.of_steps hs₀ hs,hfn,hl⟩
  | exit id=>exact hq.elim
  | goto l=>exact hq.elim
  | outgrown=>exact ⟨.outgrown,w',b,hq,harr.resolve_left (by simp [b]),rfl,trivial⟩

/-- The entry of a function with deferred calls or marks. -/
theorem Rt.ofL {g : FuncId} {fn : Func} {c : Code} {args : List Value} {R : Value → Heap → Prop} (hf : P.funcs[g]? = some fn) (hb : fn.body = some c) (hm : Nat.ble args.length fn.ntmps = true)
    (h:T Fence.wide P S w0 fn.ntmps (bodyPostL P fn (post R S w0)) c [] (envOf args) η):Rt P g args.toArray S w0 η R:=fun w hh =>
  calls_of_wpL hf hb (wpIn_wide.1 (h _ w (kn_start (Nat.le_of_ble_eq_true hm)) hh))

/-- A deferred closure that recovers and hands what it got to 'stopped' (function k), with the captured place of the error. -/
structure StopC (P:Program) (g k:FuncId):Prop where
  ex:∃ fn id t1 t2 p1 p2 a1 a2 ats ra,P.funcs[g]?=some fn∧fn.body=some (.region id #[⟨some 1,.call ⟨.builtin .recover,#[],ra⟩,t1,p1,a1,none⟩,⟨some 2,.call ⟨.value (.func k),#[.tmp 1,.tmp 0],ats⟩,t2,p2,a2,none⟩] false)∧fn.ntmps=3∧fn.results = #[]


/-- The end of a function with one deferred closure of this kind (and marks ahead of it): results in slots, at last the error in its place. -/
def marksOf (rs:List Nat):List Deferred:=rs.map fun r=>{ target:=.collected r,args:=#[] }

/-- A mark ahead of them. -/
theorem TQ.mark {fn : Func} {R : Value → Heap → Prop} {e : Exit} {r i : Nat} {dsr : List Deferred} (he : e = .ret ∨ ∃ ch, e = .panic ch) (hi : η[i]? = some [(r, .deferred (some []))])
    (h:TQ S w0 n (bodyPostL P fn (post R S w0) e) dsr σ (η.set i [(r,.deferred none)])):TQ S w0 n (bodyPostL P fn (post R S w0) e) ({ target:=.collected r,args:=#[] }::dsr) σ η:=fun a w hk hh=>by
  have hb:=(hh.own (r,.deferred (some [])) (List.mem_flatten.2 ⟨_,List.mem_of_getElem? hi,by simp⟩)).1
  have htk:(Instr.takeDeferred r).run P w = .ok [] (putBlk w r (.deferred none)):=by
    simp only at hb
    simp [Instr.takeDeferred,getObj,setObj,Sem.run,Sem.bind,bind,hb,putBlk]
  have h2:=h { a with defers:=dsr } _ ⟨hk.size,rfl,hk.slot⟩ (hh.turnI hi (.deferred none))
  rcases he with rfl | ⟨ch,rfl⟩
  · show Lv P fn a.tmps (post R S w0) a.defers .returning w
    rw [hk.defers]
    exact ⟨by simp,.inl ⟨r,_,rfl,htk,h2⟩⟩
  · show Lv P fn a.tmps (post R S w0) a.defers (.panicking ch) w
    rw [hk.defers]
    exact ⟨by simp,.inl ⟨r,_,rfl,htk,h2⟩⟩
end
end Go.Sl
/- A range over a function, and calls of yield. -/
namespace Go.Sl

/-- A call of yield: the round goes on (true), or has said 'no more' (false). -/
def YieldOk (P:Program) (l:Nat) (args:List Value) (S:Nat→Prop) (w0:World) (η:Heap) (R:Bool→Heap→Prop):Prop :=
  ∀ w,Hp S w0 η w→∃ fn tmps assign body,(Instr.yield l args.toArray).run P w = .ok (.round l fn tmps assign body) w ∧
    RoundIn Fence.wide 0 P l fn tmps assign body w fun e w'=>∃ b η',e = .returned (.bool b)∧Hp S w0 η' w'∧R b η'

/-- An iterator: it yields so many arguments, in order, till it is told to stop. -/
def Iter (P:Program) (f:FuncId) (pre post:List Value) (encs:List (List Value)) (S:Nat→Prop) (w0:World) (Ctx:Heap→Prop):Prop :=
  ∀ (l:Nat) (J:Nat→Heap→Prop) (X:Heap→Prop) (η:Heap),(∀ i η',J i η'→Ctx η') →
    (∀ i e η',encs[i]?=some e→J i η'→YieldOk P l e S w0 η' fun b η''=>if b then J (i+1) η'' else X η'') →
    J 0 η→Rt P f (pre++.func (.yield l) #[] #[]::post).toArray S w0 η fun _ η'=>J encs.length η'∨X η'

/-- Another tail of the heap, at the same rest. -/
def Swap (S:Nat→Prop) (w0:World) (tl tl':Heap) (K:Act→World→Prop) (a:Act) (w:World):Prop :=
  (∃ η,Hp S w0 (η++tl) w)∧∀ w2,(∀ η,Hp S w0 (η++tl) w→Hp S w0 (η++tl') w2)→K a w2

/-- What is asked where a round's body is left. -/
def RQ (S:Nat→Prop) (w0:World) (I:Nat→Heap→Prop) (IX:Code→Heap→Prop) (i:Nat) (tl:Heap):Exit→Act→World→Prop
  | .normal,_,w=>∃ η,I (i+1) η∧Hp S w0 (η++tl) w
  | .ret,_,w=>∃ η,IX .ret η∧Hp S w0 (η++tl) w
  | .exit id,_,w=>∃ η,IX (.exit id) η∧Hp S w0 (η++tl) w
  | .goto t,_,w=>∃ η,IX (.goto t) η∧Hp S w0 (η++tl) w
  | _,_,_=>False

section
variable {F:Fence} {P:Program} {S:Nat→Prop} {w0 w:World} {n:Nat} {Q:Exit→Act→World→Prop} {ds:List Deferred} {σ:Env} {η:Heap} {ops:Array Oper} {rest:List Oper} {d:Nat} {ty:TypeId} {pos:String} {af:Array Edge}

theorem TQ.swap {tl tl':Heap} {K:Act→World→Prop} {Q':Exit→Act→World→Prop} (η1:Heap) (he:η=η1++tl) (h:TQ S w0 n K ds σ (η1++tl')):TQ S w0 n (Exit.then (Swap S w0 tl tl' K) Q' .normal) ds σ η :=
  fun a _w hk hh=>⟨⟨η1,he ▸ hh⟩,fun w2 hw=>h a w2 hk (hw η1 (he ▸ hh))⟩
theorem TQ.rq_n {I:Nat→Heap→Prop} {IX:Code→Heap→Prop} {i:Nat} {tl:Heap} (η1:Heap) (he:η=η1++tl) (h:I (i+1) η1):TQ S w0 n (RQ S w0 I IX i tl .normal) ds σ η:=fun _ _ _ hh=>⟨η1,h,he ▸ hh⟩
theorem TQ.rq_x {I:Nat→Heap→Prop} {IX:Code→Heap→Prop} {i id:Nat} {tl:Heap} (η1:Heap) (he:η=η1++tl) (h:IX (.exit id) η1):TQ S w0 n (RQ S w0 I IX i tl (.exit id)) ds σ η:=fun _ _ _ hh=>⟨η1,h,he ▸ hh⟩

/-- A call of yield in an iterator's body. -/
theorem TL.yield (hF : F = Fence.wide) {f : Operand} {args : Array Operand} {ats : Array TypeId} {l : Nat} {al : List Value} {R : Bool → Heap → Prop} (hf : ev σ f = some (.func (.yield l) #[] #[])) (ha : evs σ args.toList = some al) (hy : YieldOk P l al S w0 η R) (hn : Nat.blt d n = true)
    (h:∀ b η',R b η'→TL F P S w0 n ops Q rest ds ((d,.bool b)::σ) η'):TL F P S w0 n ops Q (⟨some d,.call ⟨.value f,args,ats⟩,ty,pos,af,none⟩::rest) ds σ η:=by
  subst hF
  refine TL.op open_wide rfl (by intro c; simp) fun a w hk hh=>?_
  obtain ⟨fn,tmps,assign,body,hr,hR⟩:=hy w hh
  have e0 : #[]++al.toArray++(#[]:Array Value)=al.toArray:=by simp
  simp only [execOp,resolve,hk.ev hf,hk.evs ha,Sem.run_bind,Deferred.ofValue,Sem.run_pure,Result.andThen_ok,invoke]
  have e1:(#[]++al.toArray:Array Value)=al.toArray:=by simp
  rw [e1,hr]
  refine ⟨fun h=>(by simp [Fence.wide] at h),hR.mono ?_⟩
  rintro e w' ⟨b,η',rfl,hh',hr'⟩
  exact h b η' hr' _ _ (hk.put (Nat.le_of_ble_eq_true hn) _) hh'

theorem Hp.rot {A B:Heap} (hh:Hp S w0 (A++B) w):Hp S w0 (B++A) w:=by
  refine hh.sub (fun p hp=>?_) ?_
  · simp only [List.flatten_append,List.mem_append] at hp ⊢; exact hp.symm
  · have:=hh.once
    simp only [List.flatten_append,List.map_append] at this ⊢
    exact (List.perm_append_comm.nodup_iff).1 this

theorem kn_params:∀ (xs:List (Nat × Value)) (a:Array Value) (σ:Env),(∀ t v,lk σ t=some v→a[t]?=some v)→(∀ p∈xs,p.1<a.size)→∀ t v,lk (xs.reverse++σ) t=some v→(xs.foldl (fun t (x:Nat × Value)=>t.setIfInBounds x.1 x.2) a)[t]?=some v:=by
  intro xs
  induction xs with
  | nil=>intro a σ h _ t v ht; exact h t v (by simpa using ht)
  | cons p r ih =>
    intro a σ h hp t v ht
    simp only [List.reverse_cons,List.append_assoc,List.cons_append,List.nil_append] at ht
    simp only [List.foldl_cons]
    refine ih (a.setIfInBounds p.1 p.2) ((p.1,p.2)::σ) (fun t v ht=>?_) (fun q hq=>by simpa using hp q (by simp [hq])) t v ht
    rw [lk_cons] at ht
    by_cases he:p.1=t
    · rw [if_pos he] at ht; cases ht; subst he
      rw [Array.getElem?_setIfInBounds_self_of_lt (hp p (by simp))]
    · rw [if_neg he] at ht
      rw [Array.getElem?_setIfInBounds_ne he]; exact h t v ht

theorem foldl_size:∀ (xs:List (Nat × Value)) (a:Array Value),(xs.foldl (fun t (x:Nat × Value)=>t.setIfInBounds x.1 x.2) a).size=a.size
  | [],a=>rfl
  | p::r,a=>by simp only [List.foldl_cons]; rw [foldl_size r]; simp

/-- A range over a function. -/
theorem T.rangeFunc {f : FuncId} {fst cap : List Value} {g : Operand} {ps : Array Tmp} {assign body : Code} {encs : List (List Value)} {Ctx : Heap → Prop} [Ent P f]
    (hg:ev σ g=some (.func (.func f) fst.toArray cap.toArray)) (hit:Iter P f fst cap encs S w0 Ctx) (hps:∀ e∈encs,e.length=ps.size) (hpn:∀ p∈ps.toList,p<n)
    (I:Nat→Heap→Prop) (IX:Code→Heap→Prop) (h0:I 0 η) (hctx:∀ i η' tl,I i η'→Ctx (η'++tl))
    (hbody:∀ l tl tl' i e η',encs[i]?=some e→I i η'→T (Fence.wide.inRound l) P S w0 n (Exit.then (Swap S w0 tl tl' fun a w=>body.wpIn (Fence.wide.inRound l) 0 P (RQ S w0 I IX i tl') a w) (fun _ _ _=>False)) assign [] ((ps.toList.zip e).reverse++σ) (η'++tl))
    (hdone:∀ r η',I encs.length η'→TQ S w0 n (Q .normal) ({ target:=.collected r,args:=#[] }::ds) σ ([(r,.deferred (some []))]::η'))
    (hstop:∀ r c η',IX c η'→T Fence.wide P S w0 n Q c ({ target:=.collected r,args:=#[] }::ds) σ ([(r,.deferred (some []))]::η')) :
    T Fence.wide P S w0 n Q (.rangeFunc g ps assign body) ds σ η:=fun a w hk hh=>by
  refine wpIn_rangeFunc fun fn hfn=>?_
  let rec':LoopState→Option Code→Loop:=fun st pend=>{ state:=st,pending:=pend,fn:=fn,tmps:=a.tmps,params:=ps,assign:=assign,body:=body,defers:=w.heap.size }
  have hh1:=(hh.alloc (.deferred (some []))).alloc (.loop (rec' .ready none))
  have hl:(({ w with heap:=w.heap.push (.deferred (some [])) }:World).heap.size)=w.heap.size+1:=by simp
  rw [hl] at hh1
  obtain ⟨W1,hW1⟩:∃ W1:World,W1={ heap:=(w.heap.push (.deferred (some []))).push (.loop (rec' .ready none)),tape:=w.tape,drawn:=w.drawn,os:=w.os,output:=w.output }:=⟨_,rfl⟩
  have hh2:Hp S w0 (η++[[(w.heap.size+1,.loop (rec' .ready none))],[(w.heap.size,.deferred (some []))]]) W1:=by
    rw [hW1]; exact Hp.rot (A:=[[(w.heap.size+1,.loop (rec' .ready none))],[(w.heap.size,.deferred (some []))]]) hh1
  have hargs:fst.toArray++#[.func (.yield (w.heap.size+1)) #[] #[]]++cap.toArray=(fst++.func (.yield (w.heap.size+1)) #[] #[]::cap).toArray:=by simp
  refine ⟨w.heap.size+1,[{ target:=.collected w.heap.size,args:=#[] }],W1,⟨.fn (.func f) cap.toArray,fst.toArray++#[.func (.yield (w.heap.size+1)) #[] #[]]⟩,W1,f,(fst++.func (.yield (w.heap.size+1)) #[] #[]::cap).toArray,W1,?_,?_,fun _ _=>trivial,?_,fun h=>(by simp [Fence.wide] at h),?_⟩
  · rw [hW1]
    simp only [Instr.enterLoop,show Fence.wide.round=none from rfl,Sem.run_bind,run_newObj,Sem.run_pure,Result.andThen_ok]
    simp only [Array.size_push]
    rfl
  · have hgv:=hk.ev hg
    have hm:Array.map a.eval #[Operand.const (.func (.yield (w.heap.size+1)) #[] #[])] = #[.func (.yield (w.heap.size+1)) #[] #[]]:=by simp [Act.eval]
    simp only [resolve,hgv,hm,Deferred.ofValue,Sem.run_pure]
  · simp only [invoke]
    rw [hargs,Ent.eq]
  · have key := hit (w.heap.size + 1) (fun i η' => ∃ ηu, I i ηu ∧ η' = ηu ++ [[(w.heap.size + 1, .loop (rec' .ready none))], [(w.heap.size, .deferred (some []))]])
      (fun η'=>∃ c ηu,IX c ηu∧η'=ηu++[[(w.heap.size+1,.loop (rec' .done (some c)))],[(w.heap.size,.deferred (some []))]]) _
      (by rintro i η' ⟨ηu,hi,rfl⟩; exact hctx i ηu _ hi) ?_ ⟨η,h0,rfl⟩ W1 hh2
    · refine callsIn_open open_wide (key.mono ?_)
      have fin : ∀ (st : LoopState) (pend : Option Code) (ηu : Heap) (w3 : World), st ≠ .busy → Hp S w0 (ηu ++ [[(w.heap.size + 1, .loop (rec' st pend))], [(w.heap.size, .deferred (some []))]]) w3 →
          ∃ w4,(Instr.endLoop (w.heap.size+1)).run P w3 = .ok pend w4∧Hp S w0 ([(w.heap.size,.deferred (some []))]::ηu) w4:=by
        intro st pend ηu w3 hst hh3
        have hb:=(hh3.own (w.heap.size+1,.loop (rec' st pend)) (by simp)).1
        have h4:=hh3.turnI (i:=ηu.length) (b:=w.heap.size+1) (o:=.loop (rec' st pend)) (by simp) (.loop { rec' st pend with state:=.exhausted })
        have he:(ηu++[[(w.heap.size+1,Obj.loop (rec' st pend))],[(w.heap.size,.deferred (some []))]]).set ηu.length [(w.heap.size+1,.loop { rec' st pend with state:=.exhausted })]=ηu++[[(w.heap.size+1,.loop { rec' st pend with state:=.exhausted })],[(w.heap.size,.deferred (some []))]]:=by simp
        rw [he] at h4
        refine ⟨_,run_endLoop hb hst,(Hp.rot h4).sub (fun p hp=>?_) ?_⟩
        · simp only [List.flatten_cons,List.mem_append] at hp
          simp only [List.flatten_append,List.flatten_cons,List.flatten_nil,List.mem_append]
          rcases hp with h | h
          · exact .inl (.inr (.inl h))
          · exact .inr h
        · have:=(Hp.rot h4).once
          simp only [List.flatten_cons,List.cons_append,List.nil_append,List.map_cons] at this ⊢
          exact (List.nodup_cons.1 this).2
      rintro e w3 ⟨v,η',rfl,hh3,(⟨ηu,hi,rfl⟩ | ⟨c,ηu,hx,rfl⟩)⟩
      · obtain ⟨w4,hr,hh4⟩:=fin .ready none ηu w3 (by simp) hh3
        exact ⟨none,w4,hr,hdone _ ηu hi _ _ ⟨hk.size,by simp [hk.defers],hk.slot⟩ hh4⟩
      · obtain ⟨w4,hr,hh4⟩:=fin .done (some c) ηu w3 (by simp) hh3
        exact ⟨some c,w4,hr,hstop _ c ηu hx _ _ ⟨hk.size,by simp [hk.defers],hk.slot⟩ hh4 ⟩
    · rintro i e η' he ⟨ηu,hi,rfl⟩ w3 hh3
      have hb3:=(hh3.own (w.heap.size+1,.loop (rec' .ready none)) (by simp)).1
      have hlen:e.toArray.size=(rec' .ready none).params.size:=by simpa [rec'] using hps e (List.mem_of_getElem? he)
      refine ⟨_,_,_,_,run_yield hb3 hlen,?_⟩
      have setT:∀ (o o':Obj) (η1:Heap) (w':World),Hp S w0 (η1++[[(w.heap.size+1,o)],[(w.heap.size,.deferred (some []))]]) w'→Hp S w0 (η1++[[(w.heap.size+1,o')],[(w.heap.size,.deferred (some []))]]) (w'.putObj (w.heap.size+1) o'):=by
        intro o o' η1 w' hh'
        have h4:=hh'.turnI (i:=η1.length) (b:=w.heap.size+1) (o:=o) (by simp) o'
        have he:(η1++[[(w.heap.size+1,o)],[(w.heap.size,Obj.deferred (some []))]]).set η1.length [(w.heap.size+1,o')]=η1++[[(w.heap.size+1,o')],[(w.heap.size,.deferred (some []))]]:=by simp
        rwa [he] at h4
      refine roundIn_of_wpIn trivial ?_
      have hb:=hbody (w.heap.size+1) [[(w.heap.size+1,.loop (rec' .ready none))],[(w.heap.size,.deferred (some []))]] [[(w.heap.size+1,.loop (rec' .busy none))],[(w.heap.size,.deferred (some []))]] i e ηu he hi
        { tmps:=(ps.toList.zip e).foldl (fun t (x:Nat × Value)=>t.setIfInBounds x.1 x.2) a.tmps,defers:=[] } w3 ⟨by rw [foldl_size]; exact hk.size,rfl,kn_params _ _ _ hk.slot (fun p hp=>by
          rw [hk.size]; exact hpn p.1 (List.of_mem_zip hp).1)⟩ hh3
      have hz:(((rec' .ready none).params.zip e.toArray).foldl (fun tmps (x:Nat × Value)=>tmps.setIfInBounds x.1 x.2) (rec' .ready none).tmps)=(ps.toList.zip e).foldl (fun t (x:Nat × Value)=>t.setIfInBounds x.1 x.2) a.tmps:=by
        rw [← Array.foldl_toList]
        simp [rec']
      rw [hz]
      refine wpIn_mono hb ?_
      intro ex a1 w1 hq
      cases ex with
      | normal =>
        obtain ⟨⟨η1,hh4⟩,hq⟩:=hq
        have hb4:=(hh4.own (w.heap.size+1,.loop (rec' .ready none)) (by simp)).1
        refine ⟨_,run_beginRound hb4 rfl,wpIn_mono (hq _ fun η2 hh5=>setT _ (.loop { rec' .ready none with state:=.busy }) η2 w1 hh5) ?_⟩
        have fin : ∀ (jump : Option Code) (η2 : Heap) (w5 : World), Hp S w0 (η2 ++ [[(w.heap.size + 1, .loop (rec' .busy none))], [(w.heap.size, .deferred (some []))]]) w5 →
            (Instr.endRound (w.heap.size+1) jump).run P w5 = .ok (.bool jump.isNone) (w5.putObj (w.heap.size+1) (.loop (rec' (if jump.isNone then .ready else .done) jump))) ∧
            Hp S w0 (η2++[[(w.heap.size+1,.loop (rec' (if jump.isNone then .ready else .done) jump))],[(w.heap.size,.deferred (some []))]]) (w5.putObj (w.heap.size+1) (.loop (rec' (if jump.isNone then .ready else .done) jump))):=by
          intro jump η2 w5 hh6
          have hb6:=(hh6.own (w.heap.size+1,.loop (rec' .busy none)) (by simp)).1
          exact ⟨run_endRound jump hb6,setT _ _ η2 w5 hh6⟩
        intro ex2 a2 w5 hq2
        cases ex2 with
        | normal =>
          obtain ⟨η2,hi2,hh6⟩:=hq2
          obtain ⟨hr,hh7⟩:=fin none η2 w5 hh6
          exact ⟨_,_,hr,true,_,rfl,hh7,⟨η2,hi2,rfl⟩⟩
        | ret =>
          obtain ⟨η2,hi2,hh6⟩:=hq2
          obtain ⟨hr,hh7⟩:=fin (some .ret) η2 w5 hh6
          exact ⟨_,_,hr,false,_,rfl,hh7,.ret,η2,hi2,rfl⟩
        | exit id =>
          obtain ⟨η2,hi2,hh6⟩:=hq2
          obtain ⟨hr,hh7⟩:=fin (some (.exit id)) η2 w5 hh6
          exact ⟨_,_,hr,false,_,rfl,hh7,.exit id,η2,hi2,rfl⟩
        | goto t =>
          obtain ⟨η2,hi2,hh6⟩:=hq2
          obtain ⟨hr,hh7⟩:=fin (some (.goto t)) η2 w5 hh6
          exact ⟨_,_,hr,false,_,rfl,hh7,.goto t,η2,hi2,rfl⟩
        | panic ch=>exact hq2.elim
        | outgrown=>exact hq2.elim
      | ret=>exact hq.elim
      | exit id=>exact hq.elim
      | goto t=>exact hq.elim
      | panic ch=>exact hq.elim
      | outgrown=>exact hq.elim

end
end Go.Sl
/- Operations whose run is told; panics; calls through an interface. -/
namespace Go.Sl

def evp (σ:Env):List (Nat × Operand)→Option (List (Nat × Value))
  | []=>some []
  | (i,x)::r=>match ev σ x,evp σ r with
    | some v,some vs=>some ((i,v)::vs)
    | _,_=>none
theorem evp_map {n:Nat} {ds:List Deferred} {σ:Env} {a:Act} (h:Kn n ds σ a):∀ (xs:List (Nat × Operand)) (vs:List (Nat × Value)),evp σ xs=some vs→xs.map (fun (i,x)=>(i,a.eval x))=vs
  | [],vs,hx=>by simp [evp] at hx; simp [hx]
  | (i,x)::r,vs,hx=>by
    unfold evp at hx
    cases h1:Sl.ev σ x with
    | none=>simp [h1] at hx
    | some v =>
      cases h2:evp σ r with
      | none=>simp [h1,h2] at hx
      | some us =>
        simp [h1,h2] at hx
        subst hx
        simp [h.ev h1,evp_map h r us h2]
theorem Kn.evp {n:Nat} {ds:List Deferred} {σ:Env} {a:Act} (h:Kn n ds σ a) {xs:Array (Nat × Operand)} {vs:List (Nat × Value)} (hx:Sl.evp σ xs.toList=some vs):xs.map (fun (i,x)=>(i,a.eval x))=vs.toArray:=by
  have:=evp_map h xs.toList vs hx
  rw [← this]
  cases xs
  exact List.map_toArray

section
variable {F:Fence} {P:Program} {S:Nat→Prop} {w0 w:World} {n:Nat} {Q:Exit→Act→World→Prop} {ds:List Deferred} {σ:Env} {η:Heap} {ops:Array Oper} {rest:List Oper} {d:Nat} {ty:TypeId} {pos:String} {af:Array Edge}

theorem TL.binR (hF : Open F) {op : BinOp} {xt yt : TypeId} {x y : Operand} {v u r : Value} (hx : ev σ x = some v) (hy : ev σ y = some u) (hr : ∀ w, (do eqGuard op xt x y v u; binOp op xt v u : Sem Value).run P w = .ok r w) (hn : Nat.blt d n = true)
    (h:TL F P S w0 n ops Q rest ds ((d,r)::σ) η):TL F P S w0 n ops Q (⟨some d,.binOp op xt x y yt,ty,pos,af,none⟩::rest) ds σ η :=
  TL.pure hF (by intro c; simp) hn (fun a w hk _=>by
    have:=hr w
    simp only [execOp,hk.ev hx,hk.ev hy]
    rw [Sem.run_bind,this]; rfl) h
theorem TL.makeInterfaceR (hF : Open F) {t : TypeId} {x : Operand} {v r : Value} (hx : ev σ x = some v) (hr : ∀ w, (Instr.makeInterface t v).run P w = .ok r w) (hn : Nat.blt d n = true)
    (h:TL F P S w0 n ops Q rest ds ((d,r)::σ) η):TL F P S w0 n ops Q (⟨some d,.makeInterface t x,ty,pos,af,none⟩::rest) ds σ η :=
  TL.pure hF (by intro c; simp) hn (fun a w hk _=>by simp [execOp,hk.ev hx,hr]) h
theorem TL.nilCheck (hF : Open F) {x : Operand} {ad : Addr} (hx : ev σ x = some (.pointer (some ad))) (hn : Nat.blt d n = true)
    (h:TL F P S w0 n ops Q rest ds ((d,.pointer (some ad))::σ) η):TL F P S w0 n ops Q (⟨some d,.nilCheck x,ty,pos,af,none⟩::rest) ds σ η :=
  TL.pure hF (by intro c; simp) hn (fun a w hk _=>by simp [execOp,hk.ev hx]) h
theorem TL.build (hF : Open F) {t : TypeId} {ps : Array (Nat × Operand)} {vs : List (Nat × Value)} {r : Value} (hp : evp σ ps.toList = some vs) (hr : ∀ w, (Instr.build t vs.toArray).run P w = .ok r w) (hn : Nat.blt d n = true)
    (h:TL F P S w0 n ops Q rest ds ((d,r)::σ) η):TL F P S w0 n ops Q (⟨some d,.build t ps,ty,pos,af,none⟩::rest) ds σ η :=
  TL.pure hF (by intro c; simp) hn (fun a w hk _=>by
    have:=hr w
    simp only [execOp,hk.evp hp]
    rw [Sem.run_bind,this]; rfl) h
theorem TL.buildSlice (hF : Open F) {t e : TypeId} {k : Nat} {ps : Array (Nat × Operand)} {vs : List (Nat × Value)} {cs : Array Value} (hp : evp σ ps.toList = some vs)
    (hr:∀ w,(Instr.buildSlice t k vs.toArray).run P w = .ok (.slice (some ⟨w.heap.size,0,none⟩) k k) { w with heap:=w.heap.push (.cells cs e (0,0)) }) (hn:Nat.blt d n=true)
    (h:∀ b,TL F P S w0 n ops Q rest ds ((d,.slice (some ⟨b,0,none⟩) k k)::σ) ([(b,.cells cs e (0,0))]::η)):TL F P S w0 n ops Q (⟨some d,.buildSlice t k ps,ty,pos,af,none⟩::rest) ds σ η :=
  TL.val hF (by intro c; simp) hn fun a w hk hh=>⟨_,_,_,by
    have:=hr w
    simp only [execOp,hk.evp hp]
    rw [Sem.run_bind,this]; rfl,hh.alloc _,h _⟩
/-- A call through an interface value that the walk knows. -/
theorem TL.invokeG (hF : Open F) {dst : Option Nat} {rv : Operand} {m : String} {args : Array Operand} {ats : Array TypeId} {g : FuncId} {t : TypeId} {x rcv : Value} {vs : List Value} [Ent P g] {R : Value → Heap → Prop} {E : List PanicEntry → Heap → Prop}
    (hrv:ev σ rv=some (.iface t x)) (ha:evs σ args.toList=some vs) (hm:∀ w,(method (P.types.size+Made.depth) t x m).run P w = .ok (g,rcv) w)
    (hc:RtE P g (rcv::vs).toArray S w0 η R E) (h:∀ v η',R v η'→∀ a w,Kn n ds σ a→Hp S w0 η' w→wpListIn F 0 P ops Q rest (a.put dst v) w) (he:∀ ch η',E ch η'→TQ S w0 n (Q (.panic ch)) ds σ η') :
    TL F P S w0 n ops Q (⟨dst,.call ⟨.invoke rv m,args,ats⟩,ty,pos,af,none⟩::rest) ds σ η:=TL.op hF rfl (by intro c; simp) fun a w hk hh=>by
  simp only [execOp,resolve,hk.ev hrv,hk.evs ha,Sem.run_bind,Sem.run_pure,Result.andThen_ok,invoke]
  have e1:((#[Value.iface t x]++vs.toArray)[0]?:Option Value)=some (.iface t x):=by simp
  have e2:(#[Value.iface t x]++vs.toArray).extract 1 (#[Value.iface t x]++vs.toArray).size=vs.toArray:=by simp
  simp only [e1,e2,callMethod,Sem.run_bind,run_program,Result.andThen_ok,hm]
  have e3:(#[rcv]++vs.toArray)=(rcv::vs).toArray:=by simp
  rw [e3,Ent.eq]
  refine ⟨fun h=>(by rw [hF.depth] at h; cases h),callsIn_open hF ((hc w hh).mono ?_)⟩
  rintro e w' (⟨v,η',rfl,hh',hr⟩ | ⟨ch,η',rfl,hh',hr⟩)
  · exact h v η' hr _ _ hk hh'
  · exact he ch η' hr _ _ hk hh'
theorem TL.invoke (hF : Open F) {rv : Operand} {m : String} {args : Array Operand} {ats : Array TypeId} {g : FuncId} {t : TypeId} {x rcv : Value} {vs : List Value} [Ent P g] {R : Value → Heap → Prop}
    (hrv:ev σ rv=some (.iface t x)) (ha:evs σ args.toList=some vs) (hm:∀ w,(method (P.types.size+Made.depth) t x m).run P w = .ok (g,rcv) w)
    (hc:Rt P g (rcv::vs).toArray S w0 η R) (hn:Nat.blt d n=true) (h:∀ v η',R v η'→TL F P S w0 n ops Q rest ds ((d,v)::σ) η') :
    TL F P S w0 n ops Q (⟨some d,.call ⟨.invoke rv m,args,ats⟩,ty,pos,af,none⟩::rest) ds σ η :=
  TL.invokeG hF hrv ha hm (hc.toE (E:=fun _ _=>False)) (fun v η' hr _a _w hk hh=>h v η' hr _ _ (hk.put (Nat.le_of_ble_eq_true hn) v) hh) (fun _ _ h=>h.elim)

end

/-- Lists of records of k cells each. -/
theorem flat_get {α:Type} (k:Nat) (f:α→List Value) (hf:∀ x,(f x).length=k):∀ (l:List α) (i j:Nat),j<k→(l.flatMap f)[i*k+j]?=(l[i]?).bind fun x=>(f x)[j]?
  | [],i,j,hj=>by simp
  | x::r,0,j,hj=>by simp [List.getElem?_append,hf x,hj]
  | x::r,i+1,j,hj=>by
    have:(i+1)*k+j=(f x).length+(i*k+j):=by rw [hf x,Nat.add_mul]; omega
    rw [List.flatMap_cons,this,List.getElem?_append_right (by omega),Nat.add_sub_cancel_left,flat_get k f hf r i j hj]
    simp
end Go.Sl
/- Scopes; blocks in another order; maps: look, write, go through; arrays in memory. -/
namespace Go.Sl

theorem stepR_scope {P:Program} {b:Frame} {a:Act} {k:List Item} {cs:List Frame} {w:World} {c:Code}:step P (lone (b.atR a (.code (.scope c)::k)) cs w) = .next (lone (b.atR a (.code c::.inScope c::k)) cs w) :=
  step_lone_go (by simp [stepG,stepG.exec,Frame.atR])
theorem stepR_inScope {P:Program} {b:Frame} {a:Act} {k:List Item} {cs:List Frame} {w:World} {c:Code}:step P (lone (b.atR a (.inScope c::k)) cs w) = .next (lone (b.atR a k) cs w) :=
  step_lone_go (by simp [stepG,stepG.exec,Frame.atR])
/-- A scope whose ways out are no jumps. -/
def noGoto (Q:Exit→Act→World→Prop):Exit→Act→World→Prop
  | .goto _,_,_=>False
  | e,a,w=>Q e a w
theorem wpIn_scope {F:Fence} {P:Program} {c:Code} {Q:Exit→Act→World→Prop} {a:Act} {w:World} (h:c.wpIn F 0 P (noGoto Q) a w):(Code.scope c).wpIn F 0 P Q a w:=by
  intro b k cs hro hb hr
  have h0:(lone (b.atR a (.code (.scope c)::k)) cs w).fenced P F:=fenced_calm hb hr rfl
  obtain ⟨e,a₁,w₁,hq,harr⟩:=h b (.inScope c::k) cs hro hb hr
  cases e with
  | normal=>exact ⟨.normal,a₁,w₁,hq,.head h0 stepR_scope (StepsIn.trans harr (.one (fenced_calm hb hr rfl) stepR_inScope))⟩
  | exit id =>
    have hx:exitTo id (.inScope c::k)=exitTo id k:=by simp [exitTo]
    exact ⟨.exit id,a₁,w₁,hq,fun k' hk=>.head h0 stepR_scope (harr.1 k' (by rw [hx]; exact hk)),
      fun hr' hk=>let ⟨k₁,h1,h2⟩:=harr.2 hr' (by rw [hx]; exact hk); ⟨k₁,h1,.head h0 stepR_scope h2⟩⟩
  | goto l=>exact hq.elim
  | ret=>exact ⟨_,a₁,w₁,hq,.of_steps (.one h0 stepR_scope) harr⟩
  | panic ch=>exact ⟨_,a₁,w₁,hq,.of_steps (.one h0 stepR_scope) harr⟩
  | outgrown=>exact ⟨_,a₁,w₁,hq,.of_steps (.one h0 stepR_scope) harr⟩

section
variable {F:Fence} {P:Program} {S:Nat→Prop} {w0 w:World} {n:Nat} {Q:Exit→Act→World→Prop} {ds:List Deferred} {σ:Env} {η:Heap} {ops:Array Oper} {rest:List Oper} {d:Nat} {ty:TypeId} {pos:String} {af:Array Edge}
theorem T.scope {c:Code} (h:T F P S w0 n (noGoto Q) c ds σ η):T F P S w0 n Q (.scope c) ds σ η:=fun a w hk hh=>wpIn_scope (h a w hk hh)
theorem TQ.scope_r (h:TQ S w0 n (Q .ret) ds σ η):TQ S w0 n (noGoto Q .ret) ds σ η:=h
theorem Hp.perm {η':Heap} (hh:Hp S w0 η w) (hp:η'.Perm η):Hp S w0 η' w:=by
  have hf:η'.flatten.Perm η.flatten:=hp.flatten
  exact hh.sub (fun p h=>hf.mem_iff.1 h) ((hf.map _).nodup_iff.2 hh.once)
theorem TQ.hperm {K:Act→World→Prop} (η':Heap) (hp:η'.Perm η) (h:TQ S w0 n K ds σ η'):TQ S w0 n K ds σ η:=fun a w hk hh=>h a w hk (hh.perm hp)
theorem TL.hperm {l:List Oper} (η':Heap) (hp:η'.Perm η) (h:TL F P S w0 n ops Q l ds σ η'):TL F P S w0 n ops Q l ds σ η:=fun a w hk hh=>h a w hk (hh.perm hp)

/-! Maps -/
def fidx {α:Type} [DecidableEq α] (k:α):List α→Option Nat
  | []=>none
  | a::r=>if k=a then some 0 else (fidx k r).map (· + 1)
def mget {α β:Type} [DecidableEq α] (k:α):List (α × β)→Option β
  | []=>none
  | (a,b)::r=>if k=a then some b else mget k r
def mput {α β:Type} [DecidableEq α] (k:α) (v:β):List (α × β)→List (α × β)
  | []=>[(k,v)]
  | (a,b)::r=>if k=a then (a,v)::r else (a,b)::mput k v r
def mdel {α β:Type} [DecidableEq α] (k:α):List (α × β)→List (α × β)
  | []=>[]
  | (a,b)::r=>if k=a then r else (a,b)::mdel k r
theorem mget_mem {α β:Type} [DecidableEq α] {k:α} {v:β}:∀ {m:List (α × β)},mget k m=some v→(k,v)∈m
  | (a,b)::r,h=>by
    unfold mget at h
    split at h
    · cases h; subst_vars; simp
    · exact List.mem_cons_of_mem _ (mget_mem h)
theorem mget_none {α β:Type} [DecidableEq α] {k:α}:∀ {m:List (α × β)},mget k m=none↔∀ p∈m,p.1≠k
  | []=>by simp [mget]
  | (a,b)::r=>by
    unfold mget
    by_cases h:k=a
    · subst h; simp
    · simp [h,mget_none (m:=r),Ne.symm h]
theorem mput_keys {α β:Type} [DecidableEq α] (k:α) (v:β):∀ (m:List (α × β)),(mput k v m).map (·.1)=if (mget k m).isSome then m.map (·.1) else m.map (·.1)++[k]
  | []=>by simp [mput,mget]
  | (a,b)::r=>by
    have:=mput_keys k v r
    unfold mput mget
    by_cases h:k=a
    · simp [h]
    · simp only [h,if_false,List.map_cons,this]
      split <;> simp
theorem mput_nodup {α β:Type} [DecidableEq α] {k:α} {v:β} {m:List (α × β)} (h:(m.map (·.1)).Nodup):((mput k v m).map (·.1)).Nodup:=by
  rw [mput_keys]
  cases hg:mget k m with
  | some x=>simpa using h
  | none =>
    simp only [Option.isSome_none,Bool.false_eq_true,if_false]
    rw [List.nodup_append]
    refine ⟨h,by simp,?_⟩
    rintro a ha b hb rfl
    simp only [List.mem_singleton] at hb; subst hb
    obtain ⟨p,hp,rfl⟩:=List.mem_map.1 ha
    exact mget_none.1 hg p hp rfl

/-- What a map of memory holds. -/
structure MObj {α β:Type} (K:α→Value) (V:β→Value) (m:List (α × β)) (es:Array MapEntry) (clock:Nat):Prop where
  keys:es.toList.map (·.key)=m.map fun p=>K p.1
  vals:es.toList.map (·.val)=m.map fun p=>V p.2
  nd:(m.map (·.1)).Nodup
  born:(es.toList.map (·.born)).Nodup
  old:∀ e∈es.toList,e.born<clock
theorem MObj.nil {α β:Type} (K:α→Value) (V:β→Value):MObj K V ([]:List (α × β)) #[] 0:=⟨by simp,by simp,by simp,by simp,by simp⟩
/-- Keys of a type. -/
class MKey (P:Program) (kt:TypeId) {α:Type} (K:α→Value) [DecidableEq α]:Prop where
  chk:∀ (k:α) e w,(Instr.checkKey e 10000 kt (K k)).run P w = .ok () w
  find:∀ (k:α) (es:List MapEntry) (l:List α) w,es.map (·.key)=l.map K→(Instr.findKey kt (K k) es).run P w = .ok ((fidx k l).map fun i=>(i,((es[i]?).map (·.val)).getD undef)) w
  same:∀ k:α,Instr.sameBits 10000 (K k) (K k)=true

theorem fidx_get {α β:Type} [DecidableEq α] (k:α):∀ (m:List (α × β)),(fidx k (m.map (·.1))).bind (fun i=>(m[i]?).map (·.2))=mget k m
  | []=>rfl
  | (a,b)::r=>by
    have:=fidx_get k r
    simp only [List.map_cons,fidx,mget]
    split
    · simp
    · rw [← this]
      cases fidx k (r.map (·.1)) <;> simp
theorem fidx_lt {α:Type} [DecidableEq α] {k:α}:∀ {l:List α} {i:Nat},fidx k l=some i→l[i]?=some k
  | [],i,h=>by simp [fidx] at h
  | a::r,i,h=>by
    simp only [fidx] at h
    split at h
    · cases h; subst_vars; rfl
    · cases hf:fidx k r with
      | none=>simp [hf] at h
      | some j=>simp [hf] at h; subst h; simpa using fidx_lt hf
theorem mput_at {α β:Type} [DecidableEq α] {k:α} (v:β):∀ {m:List (α × β)} {i:Nat},fidx k (m.map (·.1))=some i→mput k v m=m.modify i fun p=>(p.1,v)
  | [],i,h=>by simp [fidx] at h
  | (a,b)::r,i,h=>by
    simp only [List.map_cons,fidx] at h
    unfold mput
    split at h
    · cases h; subst_vars; simp
    · rename_i hne
      cases hf:fidx k (r.map (·.1)) with
      | none=>simp [hf] at h
      | some j=>simp [hf] at h; subst h; simp [hne,mput_at v hf]
theorem mput_new {α β:Type} [DecidableEq α] {k:α} (v:β):∀ {m:List (α × β)},fidx k (m.map (·.1))=none→mput k v m=m++[(k,v)]
  | [],h=>rfl
  | (a,b)::r,h=>by
    simp only [List.map_cons,fidx] at h
    unfold mput
    split at h
    · cases h
    · rename_i hne
      cases hf:fidx k (r.map (·.1)) with
      | none=>simp [hne,mput_new v hf]
      | some j=>simp [hf] at h
theorem find_asking {α : Type} [DecidableEq α] {K : α → Value} {kt : TypeId} (heq : ∀ a b w, (Op.equal kt (K a) (K b)).run P w = .ok (decide (a = b)) w) (k : α) : ∀ (es : List MapEntry) (l : List α) (i : Nat) w, es.map (·.key) = l.map K →
    (Instr.findAsking kt (K k) es i).run P w = .ok ((fidx k l).map fun j=>(i+j,((es[j]?).map (·.val)).getD undef)) w
  | [],l,i,w,h=>by
    have:l=[]:=by simpa using h.symm
    subst this; simp [Instr.findAsking,fidx]
  | e::es,[],i,w,h=>by simp at h
  | e::es,a::l,i,w,h=>by
    simp only [List.map_cons,List.cons.injEq] at h
    unfold Instr.findAsking
    simp only [Sem.run_bind,h.1,heq,Result.andThen_ok,fidx]
    by_cases hk:k=a
    · simp [hk]
    · simp only [hk,decide_false,Bool.false_eq_true,if_false]
      rw [find_asking heq k es l (i+1) w h.2]
      cases fidx k l <;> simp; omega
theorem find_int {kt : TypeId} {kk : IntKind} [Und P kt (.int kk)] (k : Int) (es : List MapEntry) (l : List Int) (w : World) (h : es.map (·.key) = l.map (Value.int kk)) :
    (Instr.findKey kt (.int kk k) es).run P w = .ok ((fidx k l).map fun j=>(j,((es[j]?).map (·.val)).getD undef)) w:=by
  have key:∀ (es:List MapEntry) (l:List Int) (i:Nat),es.map (·.key)=l.map (Value.int kk)→Instr.findNow (.int kk) (.int kk k) es i=some ((fidx k l).map fun j=>(i+j,((es[j]?).map (·.val)).getD undef)):=by
    intro es
    induction es with
    | nil =>
      intro l i h
      have:l=[]:=by simpa using h.symm
      subst this; simp [Instr.findNow,fidx]
    | cons e es ih =>
      intro l i h
      cases l with
      | nil=>simp at h
      | cons a l =>
        simp only [List.map_cons,List.cons.injEq] at h
        unfold Instr.findNow
        rw [h.1]
        simp only [Instr.sameNow,if_true,fidx]
        by_cases hk:k=a
        · subst hk; simp
        · have:(k == a)=false:=by simp [hk]
          simp only [this,hk,if_false]
          rw [ih l (i+1) h.2]
          cases fidx k l <;> simp; omega
  simp only [Instr.findKey,Sem.run_bind,run_underlying (t:=kt) (d:=.int kk),Result.andThen_ok]
  rw [key es l 0 h]
  simp
instance mkey_int {kt:TypeId} {kk:IntKind} [Und P kt (.int kk)]:MKey P kt (Value.int kk) where
  chk k e w:=by
    unfold Instr.checkKey
    simp only [Sem.run_bind,run_underlying (t:=kt) (d:=.int kk),Result.andThen_ok]
    rfl
  find k es l w h:=find_int k es l w h
  same k:=by simp [Instr.sameBits]

theorem run_getMap {b:Nat} {es:Array MapEntry} {clock:Nat} (hb:w.heap[b]?=some (.map es clock)):(getObj b).run P w = .ok (.map es clock) w:=by simp [getObj,Sem.run,hb]
theorem run_setB {b:Nat} {o:Obj} (o':Obj) (hb:w.heap[b]?=some o) (hm:(∃ es c,o = .map es c)∨∃ m s l c,o = .mapIter m s l c):(setObj b o').run P w = .ok () (putBlk w b o'):=by
  rcases hm with ⟨es,c,rfl⟩ | ⟨m,s,l,c,rfl⟩ <;> simp [setObj,Sem.run,hb,putBlk]
theorem Hp.inMem (hh:Hp S w0 η w) {b:Nat} {o:Obj} (h:[(b,o)]∈η):w.heap[b]?=some o:=(hh.own (b,o) (List.mem_flatten.2 ⟨_,h,by simp⟩)).1

theorem MObj.get {α β:Type} [DecidableEq α] {K:α→Value} {V:β→Value} {m:List (α × β)} {es:Array MapEntry} {clock:Nat} (h:MObj K V m es clock) (k:α):((fidx k (m.map (·.1))).map fun i=>(i,((es.toList[i]?).map (·.val)).getD undef))=(fidx k (m.map (·.1))).map fun i=>(i,(mget k m).elim undef V):=by
  cases hf:fidx k (m.map (·.1)) with
  | none=>rfl
  | some i =>
    have h1:=fidx_get k m
    rw [hf] at h1
    simp only [Option.bind_some] at h1
    have h2:=congrArg (fun l:List Value=>l[i]?) h.vals
    simp only [List.getElem?_map] at h2
    cases hm:m[i]? with
    | none =>
      have:=fidx_lt hf
      simp [hm] at this
    | some p =>
      simp only [hm,Option.map_some] at h1 h2
      rw [← h1]; simp only [Option.map_some]; rw [h2]; rfl
theorem fidx_mget {α β:Type} [DecidableEq α] {k:α} {m:List (α × β)}:(fidx k (m.map (·.1))).isSome=(mget k m).isSome:=by
  have h1:=fidx_get k m
  cases hf:fidx k (m.map (·.1)) with
  | none=>rw [hf] at h1; simp at h1; simp [← h1]
  | some i =>
    rw [hf] at h1
    have:=fidx_lt hf
    simp only [List.getElem?_map] at this
    cases hm:m[i]? with
    | none=>simp [hm] at this
    | some p=>simp [hm] at h1; simp [← h1]

/-- A look into a map. -/
theorem TL.lookup (hF : Open F) {t kt et : TypeId} [Und P t (.map kt et)] {z : Value} {sz bt : Nat} [Inf P et z sz bt] {α β : Type} [DecidableEq α] {K : α → Value} [MKey P kt K] (V : β → Value) {m : List (α × β)} {es : Array MapEntry} {clock b : Nat} (k : α)
    {x y:Operand} (hx:ev σ x=some (.map (some b))) (hy:ev σ y=some (K k)) (hb:[(b,.map es clock)]∈η) (hm:MObj K V m es clock) (hn:Nat.blt d n=true)
    (h:TL F P S w0 n ops Q rest ds ((d,(mget k m).elim z V)::σ) η):TL F P S w0 n ops Q (⟨some d,.lookup t x y false,ty,pos,af,none⟩::rest) ds σ η :=
  TL.pure hF (by intro c; simp) hn (fun a w hk hh=>by
    have h1:=MKey.find (P:=P) (kt:=kt) (K:=K) k es.toList (m.map (·.1)) w (by rw [hm.keys]; simp)
    rw [hm.get] at h1
    simp only [execOp,hk.ev hx,hk.ev hy,Instr.lookup,Sem.run_bind,run_underlying (t:=t) (d:=.map kt et),Result.andThen_ok,run_getMap (hh.inMem hb),Sem.run_pure,MKey.chk,h1]
    have h2:=fidx_mget (k:=k) (m:=m)
    cases hf:fidx k (m.map (·.1)) with
    | none =>
      rw [hf] at h2
      have:mget k m=none:=by cases hg:mget k m <;> simp_all
      simp [run_zeroValue (t:=et) (z:=z) (sz:=sz) (bt:=bt),this]
    | some i =>
      rw [hf] at h2
      cases hg:mget k m with
      | none=>simp [hg] at h2
      | some v=>simp) h
theorem TL.lookupOk (hF : Open F) {t kt et : TypeId} [Und P t (.map kt et)] {z : Value} {sz bt : Nat} [Inf P et z sz bt] {α β : Type} [DecidableEq α] {K : α → Value} [MKey P kt K] (V : β → Value) {m : List (α × β)} {es : Array MapEntry} {clock b : Nat} (k : α)
    {x y:Operand} (hx:ev σ x=some (.map (some b))) (hy:ev σ y=some (K k)) (hb:[(b,.map es clock)]∈η) (hm:MObj K V m es clock) (hn:Nat.blt d n=true)
    (h:TL F P S w0 n ops Q rest ds ((d,.tuple #[(mget k m).elim z V,.bool (mget k m).isSome])::σ) η):TL F P S w0 n ops Q (⟨some d,.lookup t x y true,ty,pos,af,none⟩::rest) ds σ η :=
  TL.pure hF (by intro c; simp) hn (fun a w hk hh=>by
    have h1:=MKey.find (P:=P) (kt:=kt) (K:=K) k es.toList (m.map (·.1)) w (by rw [hm.keys]; simp)
    rw [hm.get] at h1
    simp only [execOp,hk.ev hx,hk.ev hy,Instr.lookup,Sem.run_bind,run_underlying (t:=t) (d:=.map kt et),Result.andThen_ok,run_getMap (hh.inMem hb),Sem.run_pure,MKey.chk,h1]
    have h2:=fidx_mget (k:=k) (m:=m)
    cases hf:fidx k (m.map (·.1)) with
    | none =>
      rw [hf] at h2
      have:mget k m=none:=by cases hg:mget k m <;> simp_all
      simp [run_zeroValue (t:=et) (z:=z) (sz:=sz) (bt:=bt),this]
    | some i =>
      rw [hf] at h2
      cases hg:mget k m with
      | none=>simp [hg] at h2
      | some v=>simp) h

theorem MObj.put {α β : Type} [DecidableEq α] {K : α → Value} {V : β → Value} {m : List (α × β)} {es : Array MapEntry} {clock : Nat} (h : MObj K V m es clock) (k : α) (v : β) :
    (∀ i,fidx k (m.map (·.1))=some i→MObj K V (mput k v m) (es.modify i fun e=>{ e with key:=K k,val:=V v }) clock)∧(fidx k (m.map (·.1))=none→MObj K V (mput k v m) (es.push { key:=K k,val:=V v,born:=clock }) (clock+1)):=by
  constructor
  · intro i hf
    have hki:=fidx_lt hf
    rw [List.getElem?_map] at hki
    have e0:(es.modify i fun e=>{ e with key:=K k,val:=V v }).toList=es.toList.modify i fun e=>{ e with key:=K k,val:=V v }:=by simp
    rw [mput_at v hf]
    refine ⟨?_,?_,?_,?_,?_⟩
    · rw [e0]
      apply List.ext_getElem?
      intro j
      have:=congrArg (fun l:List Value=>l[j]?) h.keys
      simp only [List.getElem?_map,List.getElem?_modify,Option.map_eq_map] at this ⊢
      by_cases hij:i=j
      · subst hij
        cases hm:m[i]? with
        | none=>simp [hm] at hki
        | some p =>
          simp only [hm,Option.map_some] at hki this
          cases hes:es.toList[i]? with
          | none=>simp [hes] at this
          | some e=>simp only [Option.map_some,if_true,Option.some.injEq] at hki ⊢; simp [hki]
      · simp only [hij,if_false,Option.map_id']
        exact this
    · rw [e0]
      apply List.ext_getElem?
      intro j
      have:=congrArg (fun l:List Value=>l[j]?) h.vals
      simp only [List.getElem?_map,List.getElem?_modify,Option.map_eq_map] at this ⊢
      by_cases hij:i=j
      · subst hij
        cases hm:m[i]? with
        | none=>simp [hm] at hki
        | some p =>
          simp only [hm,Option.map_some] at this
          cases hes:es.toList[i]? with
          | none=>simp [hes] at this
          | some e=>simp
      · simp only [hij,if_false,Option.map_id']
        exact this
    · rw [← mput_at v hf]; exact mput_nodup h.nd
    · rw [e0]
      have:(es.toList.modify i fun e=>{ e with key:=K k,val:=V v }).map (·.born)=es.toList.map (·.born):=by
        apply List.ext_getElem?
        intro j
        simp only [List.getElem?_map,List.getElem?_modify,Option.map_eq_map]
        cases es.toList[j]? with
        | none=>rfl
        | some e=>by_cases hij:i=j <;> simp [hij]
      rw [this]; exact h.born
    · rw [e0]
      intro e he
      obtain ⟨j,hj⟩:=List.mem_iff_getElem?.1 he
      rw [List.getElem?_modify,Option.map_eq_map] at hj
      cases hes:es.toList[j]? with
      | none=>simp [hes] at hj
      | some e' =>
        have:=h.old e' (List.mem_of_getElem? hes)
        simp only [hes,Option.map_some,Option.some.injEq] at hj
        split at hj <;> (subst hj; exact this)
  · intro hf
    rw [mput_new v hf]
    refine ⟨by simp [h.keys],by simp [h.vals],?_,?_,?_⟩
    · rw [← mput_new v hf]; exact mput_nodup h.nd
    · simp only [Array.toList_push,List.map_append,List.map_cons,List.map_nil]
      rw [List.nodup_append]
      refine ⟨h.born,by simp,?_⟩
      rintro a ha b hb rfl
      simp only [List.mem_singleton] at hb
      obtain ⟨e,he,rfl⟩:=List.mem_map.1 ha
      have:=h.old e he
      omega
    · simp only [Array.toList_push,List.mem_append,List.mem_singleton]
      rintro e (he | rfl)
      · have:=h.old e he; omega
      · simp

/-- A write into a map. -/
theorem TL.mapUpdate (hF : Open F) (i : Nat) {t kt et : TypeId} [Und P t (.map kt et)] {α β : Type} [DecidableEq α] {K : α → Value} [MKey P kt K] (V : β → Value) {m : List (α × β)} {es : Array MapEntry} {clock b : Nat} (k : α) (v : β)
    {x y z:Operand} (hx:ev σ x=some (.map (some b))) (hy:ev σ y=some (K k)) (hz:ev σ z=some (V v)) (hi:η[i]?=some [(b,.map es clock)]) (hm:MObj K V m es clock)
    (h:∀ es' clock',MObj K V (mput k v m) es' clock'→TL F P S w0 n ops Q rest ds σ (η.set i [(b,.map es' clock')])):TL F P S w0 n ops Q (⟨none,.mapUpdate t x y z,ty,pos,af,none⟩::rest) ds σ η :=
  TL.act hF (by intro c; simp) fun a w hk hh=>by
    have hb:=hh.inMem (List.mem_of_getElem? hi)
    have h1:=MKey.find (P:=P) (kt:=kt) (K:=K) k es.toList (m.map (·.1)) w (by rw [hm.keys]; simp)
    have hput:=hm.put k v
    cases hf:fidx k (m.map (·.1)) with
    | none =>
      rw [hf] at h1
      refine ⟨_,_,?_,hh.turnI hi (.map (es.push { key:=K k,val:=V v,born:=clock }) (clock+1)),h _ _ (hput.2 hf)⟩
      have h1':(Instr.findKey kt (K k) es.toList).run P w = .ok none w:=h1
      simp [execOp,hk.ev hx,hk.ev hy,hk.ev hz,Instr.mapUpdate,run_underlying (t:=t) (d:=.map kt et),run_getMap hb,MKey.chk,h1',run_setB _ hb (.inl ⟨_,_,rfl⟩)]
    | some j =>
      rw [hf] at h1
      refine ⟨_,_,?_,hh.turnI hi (.map (es.modify j fun e=>{ e with key:=K k,val:=V v }) clock),h _ _ (hput.1 j hf)⟩
      have hkey:((es[j]?).map (·.key)).getD (K k)=K k:=by
        have h2:=congrArg (fun l:List Value=>l[j]?) hm.keys
        have h3:=fidx_lt hf
        simp only [List.getElem?_map] at h2 h3
        cases hmj:m[j]? with
        | none=>simp [hmj] at h3
        | some p =>
          simp only [hmj,Option.map_some,Option.some.injEq] at h2 h3
          rw [h3] at h2
          rw [← Array.getElem?_toList,h2]; rfl
      have h1':(Instr.findKey kt (K k) es.toList).run P w = .ok (some (j,((es.toList[j]?).map (·.val)).getD undef)) w:=h1
      have hst:(Instr.keyThatStays (K k) (K k)).run P w = .ok (K k) w:=by simp [Instr.keyThatStays,MKey.same (P:=P) (kt:=kt) (K:=K)]
      simp only [execOp,hk.ev hx,hk.ev hy,hk.ev hz,Instr.mapUpdate,Sem.run_bind,run_underlying (t:=t) (d:=.map kt et),Result.andThen_ok,run_getMap hb,MKey.chk,h1',hkey,hst,run_setB _ hb (.inl ⟨_,_,rfl⟩),Sem.run_pure]

/-- How far one has gone through a map. -/
def ItOk {α β:Type} (m:List (α × β)) (es:Array MapEntry) (seen:Array Nat) (done:List α):Prop:=∀ (j:Nat) (e:MapEntry) (p:α × β),es.toList[j]?=some e→m[j]?=some p→(e.born∈seen.toList↔p.1∈done)
theorem ItOk.start {α β:Type} (m:List (α × β)) (es:Array MapEntry):ItOk m es #[] []:=fun j e p _ _=>by simp

theorem TL.range (hF : Open F) {t kt et : TypeId} [Und P t (.map kt et)] {x : Operand} {b clock : Nat} {es : Array MapEntry} (hx : ev σ x = some (.map (some b))) (hb : [(b, .map es clock)] ∈ η) (hn : Nat.blt d n = true)
    (h:∀ c,TL F P S w0 n ops Q rest ds ((d,.pointer (some ⟨c,0,none⟩))::σ) ([(c,.mapIter (some b) clock #[] clock)]::η)):TL F P S w0 n ops Q (⟨some d,.range t x,ty,pos,af,none⟩::rest) ds σ η :=
  TL.val hF (by intro c; simp) hn fun a w hk hh=>⟨_,_,_,by
    simp [execOp,Instr.range,hk.ev hx,run_underlying (t:=t) (d:=.map kt et),run_getMap (hh.inMem hb)],hh.alloc _,h _⟩

theorem ItOk.step {α β : Type} {K : α → Value} {V : β → Value} {m : List (α × β)} {es : Array MapEntry} {clock : Nat} (hm : MObj K V m es clock) {seen : Array Nat} {done : List α} (hit : ItOk m es seen done) {j : Nat} {e : MapEntry} {p : α × β} (he : es.toList[j]? = some e) (hp : m[j]? = some p) :
    ItOk m es (seen.push e.born) (p.1::done):=fun j' e' p' he' hp'=>by
  have h0:=hit j' e' p' he' hp'
  simp only [Array.toList_push,List.mem_append,List.mem_cons,List.not_mem_nil,or_false,h0]
  have hb:e'.born=e.born↔j'=j:=by
    constructor
    · intro h
      have e1:(es.toList.map (·.born))[j']?=some e'.born:=by simp only [List.getElem?_map,he',Option.map_some]
      have e2:(es.toList.map (·.born))[j]?=some e.born:=by simp only [List.getElem?_map,he,Option.map_some]
      obtain ⟨l1,g1⟩:=List.getElem?_eq_some_iff.1 e1
      obtain ⟨l2,g2⟩:=List.getElem?_eq_some_iff.1 e2
      exact (List.getElem_inj (h₀:=l1) (h₁:=l2) hm.born).1 (g1.trans (h.trans g2.symm))
    · intro h; subst h; rw [he] at he'; cases he'; rfl
  have hk:p'.1=p.1↔j'=j:=by
    constructor
    · intro h
      have e1:(m.map (·.1))[j']?=some p'.1:=by simp only [List.getElem?_map,hp',Option.map_some]
      have e2:(m.map (·.1))[j]?=some p.1:=by simp only [List.getElem?_map,hp,Option.map_some]
      obtain ⟨l1,g1⟩:=List.getElem?_eq_some_iff.1 e1
      obtain ⟨l2,g2⟩:=List.getElem?_eq_some_iff.1 e2
      exact (List.getElem_inj (h₀:=l1) (h₁:=l2) hm.nd).1 (g1.trans (h.trans g2.symm))
    · intro h; subst h; rw [hp] at hp'; cases hp'; rfl
  rw [hb,hk]
  exact or_comm

/-- The next entry of a map, in any order. -/
theorem TL.next (hF : Open F) (i : Nat) {α β : Type} {K : α → Value} {V : β → Value} {m : List (α × β)} {es : Array MapEntry} {clock b c : Nat} {seen : Array Nat} {done : List α} {x : Operand} (hx : ev σ x = some (.pointer (some ⟨c, 0, none⟩)))
    (hi:η[i]?=some [(c,.mapIter (some b) clock seen clock)]) (hb:[(b,.map es clock)]∈η) (hm:MObj K V m es clock) (hit:ItOk m es seen done) (hn:Nat.blt d n=true)
    (hover:(∀ p∈m,p.1∈done)→TL F P S w0 n ops Q rest ds ((d,.tuple #[.bool false])::σ) η)
    (hstep:∀ p seen',p∈m→p.1 ∉ done→ItOk m es seen' (p.1::done)→(∃ e∈es.toList,seen'.back?=some e.born∧e.key=K p.1∧e.val=V p.2)→TL F P S w0 n ops Q rest ds ((d,.tuple #[.bool true,K p.1,V p.2])::σ) (η.set i [(c,.mapIter (some b) clock seen' clock)])) :
    TL F P S w0 n ops Q (⟨some d,.next x false,ty,pos,af,none⟩::rest) ds σ η :=
  TL.op hF rfl (by intro c; simp) fun a w hk hh=>by
    have hci:=hh.inMem (List.mem_of_getElem? hi)
    have hbm:=hh.inMem hb
    have hgi:(getObj c).run P w = .ok (.mapIter (some b) clock seen clock) w:=by simp [getObj,Sem.run,hci]
    let left:=es.filter fun e:MapEntry=>!seen.contains e.born
    have hold:left.filter (fun e:MapEntry=>decide (e.born<clock))=left:=by
      apply Array.filter_eq_self.2
      intro e he
      have:e∈es:=(Array.mem_filter.1 he).1
      simpa using hm.old e (by simpa using this)
    have hnew:left.filter (fun e:MapEntry=>decide (clock≤e.born)) = #[]:=by
      apply Array.filter_eq_empty_iff.2
      intro e he
      have:e∈es:=(Array.mem_filter.1 he).1
      have:=hm.old e (by simpa using this)
      simp; omega
    have hall:(!seen.isEmpty && !es.isEmpty && es.all (fun e:MapEntry=>decide (e.born≥clock)))=false:=by
      cases hes:es.isEmpty with
      | true=>simp
      | false =>
        have:es.all (fun e:MapEntry=>decide (e.born≥clock))=false:=by
          rw [Bool.eq_false_iff]
          intro h
          rw [Array.all_eq_true] at h
          have h0:0<es.size:=by
            rcases Nat.eq_zero_or_pos es.size with h0 | h0
            · simp [Array.eq_empty_of_size_eq_zero h0] at hes
            · exact h0
          have h1:=h 0 h0
          have h2:=hm.old es[0] (by simp)
          simp at h1; omega
        simp [this]
    have gen:∀ cs:Array (Option MapEntry),0<cs.size→∃ k w1,(choose (.mapNext cs.size)).run P w = .ok k w1∧(∃ dr,w.drawn≤dr∧w1={ w with drawn:=dr })∧k<cs.size:=by
      intro cs hpos
      rw [run_choose]
      by_cases hf:(Question.mapNext cs.size).forced=true
      · rw [if_pos hf]; exact ⟨0,w,rfl,⟨w.drawn,Nat.le_refl _,rfl⟩,hpos⟩
      · rw [if_neg hf]; exact ⟨_,_,rfl,⟨_,Nat.le_succ _,rfl⟩,Nat.mod_lt _ hpos⟩
    have hrun:=gen ((if left.isEmpty then (#[none]:Array (Option MapEntry)) else #[])++left.map some) (by
      cases hl:left.isEmpty with
      | true=>simp; omega
      | false =>
        rcases Nat.eq_zero_or_pos left.size with h0 | h0
        · simp [Array.eq_empty_of_size_eq_zero h0] at hl
        · simp; omega)
    obtain ⟨k,w1,hch,⟨dr,hdr,rfl⟩,hklt⟩:=hrun
    have hh1:=hh.drew dr hdr
    obtain ⟨zz, hnx⟩ : ∃ zz : Sem Value, (Instr.next (.pointer (some ⟨c, 0, none⟩)) false ty).run P w = (match ((if left.isEmpty then (#[none] : Array (Option MapEntry)) else #[]) ++ left.map some)[k]? with
        | some (some e)=>(do setObj c (.mapIter (some b) clock (seen.push e.born) clock); Pure.pure (.tuple #[.bool true,e.key,e.val]):Sem Value)
        | some none=>(Pure.pure (.tuple #[.bool false]):Sem Value)
        | none=>zz).run P { w with drawn:=dr }:=by
      apply Exists.intro
      simp only [Instr.next,Sem.run_bind,hgi,Result.andThen_ok,run_getMap hbm]
      rw [if_neg (by rw [hall]; simp)]
      simp only [Sem.run_bind]
      have e1:((es.filter fun e:MapEntry=>!seen.contains e.born).filter fun x:MapEntry=>decide (x.born<clock))=left:=hold
      have e2:((es.filter fun e:MapEntry=>!seen.contains e.born).filter fun x:MapEntry=>decide (x.born≥clock)) = #[]:=hnew
      simp only [e1,e2,Array.append_empty]
      rw [hch]
      rfl
    simp only [execOp,hk.ev hx,Sem.run_bind,hnx]
    cases hl:left.isEmpty with
    | true =>
      have hle:left = #[]:=by simpa using hl
      have hk0:k=0:=by simp [hle] at hklt; omega
      subst hk0
      simp only [hle,if_true,Array.map_empty,Array.append_empty,List.getElem?_toArray,List.getElem?_cons_zero,Sem.run_pure,Result.andThen_ok,Oper.uponIn]
      refine hover (fun p hp=>?_) _ _ (hk.put (Nat.le_of_ble_eq_true hn) _) hh1
      obtain ⟨j,hj⟩:=List.mem_iff_getElem?.1 hp
      have h2:=congrArg (fun l:List Value=>l[j]?) hm.keys
      simp only [List.getElem?_map,hj,Option.map_some] at h2
      cases hej:es.toList[j]? with
      | none=>simp [hej] at h2
      | some e =>
        refine (hit j e p hej hj).1 ?_
        have:e∈es:=by have:=List.mem_of_getElem? hej; simpa using this
        by_cases hs:e.born∈seen.toList
        · exact hs
        · exfalso
          have:e∈left:=by
            simp only [left,Array.mem_filter]
            refine ⟨this,?_⟩
            have:e.born ∉ seen:=by simpa using hs
            simp [this]
          rw [hle] at this; simp at this
    | false =>
      have hkl:k<left.size:=by simp [hl] at hklt; exact hklt
      have hget:((#[]:Array (Option MapEntry))++left.map some)[k]?=some (some left[k]):=by simp [hkl]
      simp only [Bool.false_eq_true,if_false,hget]
      have hmem:left[k]∈left:=Array.getElem_mem hkl
      obtain ⟨hes,hns⟩:=Array.mem_filter.1 hmem
      generalize left[k]=e at hes hns
      have hsl:e.born ∉ seen.toList:=by
        have:e.born ∉ seen:=by simpa using hns
        simpa using this
      have hesl:e∈es.toList:=by simpa using hes
      obtain ⟨j,hj⟩:=List.mem_iff_getElem?.1 hesl
      have hmj:∃ p,m[j]?=some p∧e.key=K p.1∧e.val=V p.2:=by
        have h2:=congrArg (fun l:List Value=>l[j]?) hm.keys
        have h3:=congrArg (fun l:List Value=>l[j]?) hm.vals
        simp only [List.getElem?_map,hj,Option.map_some] at h2 h3
        cases hmj:m[j]? with
        | none=>simp [hmj] at h2
        | some p=>simp [hmj] at h2 h3; exact ⟨p,rfl,h2,h3⟩
      obtain ⟨p,hp,hkey,hval⟩:=hmj
      have hci1:=hh1.inMem (List.mem_of_getElem? hi)
      simp only [Sem.run_bind,run_setB _ hci1 (.inr ⟨_,_,_,_,rfl⟩),Result.andThen_ok,Sem.run_pure,Oper.uponIn,hkey,hval]
      refine hstep p (seen.push e.born) (List.mem_of_getElem? hp) (fun hd=>hsl ((hit j e p hj hp).2 hd)) (ItOk.step hm hit hj hp) ⟨e,hesl,by simp,hkey,hval⟩ _ _ (hk.put (Nat.le_of_ble_eq_true hn) _) (hh1.turnI hi _)

/-- The entry to which the last step led. -/
theorem TL.entry (hF : Open F) {α β : Type} {K : α → Value} {V : β → Value} {m : List (α × β)} {es : Array MapEntry} {clock b c : Nat} {seen : Array Nat} {p : α × β} {x : Operand} (hx : ev σ x = some (.pointer (some ⟨c, 0, none⟩)))
    (hi:[(c,.mapIter (some b) clock seen clock)]∈η) (hb:[(b,.map es clock)]∈η) (hm:MObj K V m es clock) (he:∃ e∈es.toList,seen.back?=some e.born∧e.key=K p.1∧e.val=V p.2) (hn:Nat.blt d n=true)
    (h:TL F P S w0 n ops Q rest ds ((d,.tuple #[K p.1,V p.2])::σ) η):TL F P S w0 n ops Q (⟨some d,.entry x,ty,pos,af,none⟩::rest) ds σ η :=
  TL.pure hF (by intro c; simp) hn (fun a w hk hh=>by
    obtain ⟨e,hes,hback,hkey,hval⟩:=he
    have hgi:(getObj c).run P w = .ok (.mapIter (some b) clock seen clock) w:=by simp [getObj,Sem.run,hh.inMem hi]
    have hfind:es.find? (fun x=>x.born == e.born)=some e:=by
      rw [← Array.find?_toList]
      have hn:=hm.born
      revert hn hes
      generalize es.toList=l
      intro hes hn
      induction l with
      | nil=>simp at hes
      | cons x r ih =>
        simp only [List.map_cons,List.nodup_cons] at hn
        rcases List.mem_cons.1 hes with rfl | h
        · simp
        · have:x.born≠e.born:=fun e1=>hn.1 (by rw [e1]; exact List.mem_map.2 ⟨e,h,rfl⟩)
          simp [this,ih h hn.2]
    simp [execOp,Instr.entry,hk.ev hx,hgi,hback,run_getMap (hh.inMem hb),hfind,hkey,hval]) h

/-! Arrays in memory -/
theorem TL.indexAddrA (hF : Open F) {t e : TypeId} {len : Nat} [Und P t (.array len e)] {z : Value} {sz bt : Nat} [Inf P e z sz bt] {x y : Operand} {b o : Nat} {k : IntKind} {i : Int} (hx : ev σ x = some (.pointer (some ⟨b, o, none⟩))) (hy : ev σ y = some (.int k i))
    (h0:0≤i) (hl:i<len) (hn:Nat.blt d n=true) (h:TL F P S w0 n ops Q rest ds ((d,.pointer (some ⟨b,o+i.toNat*sz,none⟩))::σ) η):TL F P S w0 n ops Q (⟨some d,.indexAddr t x y,ty,pos,af,none⟩::rest) ds σ η:=by
  refine TL.pure hF (by intro c; simp) hn (fun a w hk _=>?_) h
  have hadd:(⟨b,o,none⟩:Addr).add (i.toNat*sz)=⟨b,o+i.toNat*sz,none⟩:=by
    unfold Addr.add; split
    · rename_i h; simp [h]
    · rfl
  simp [execOp,hk.ev hx,hk.ev hy,Instr.indexAt,asIntOf,Instr.sureAddr,run_underlying (t:=t) (d:=.array len e),run_sizeOf (t:=e) (z:=z) (sz:=sz) (bt:=bt),h0,hl,hadd]

/-- A call that hands back a known value, and turns nothing. -/
theorem TL.callV (hF : Open F) {f : Operand} {args : Array Operand} {ats : Array TypeId} {g : FuncId} {al : List Value} [Ent P g] {r : Value}
    (hc:Rt P g al.toArray S w0 η (fun v η'=>v=r∧η'=η)) (ha:callOf σ f args=some (g,al)) (hn:Nat.blt d n=true) (h:TL F P S w0 n ops Q rest ds ((d,r)::σ) η) :
    TL F P S w0 n ops Q (⟨some d,.call ⟨.value f,args,ats⟩,ty,pos,af,none⟩::rest) ds σ η :=
  TL.call hF hc ha hn (fun v η' hr=>by obtain ⟨rfl,rfl⟩:=hr; exact h)

/-- 'DR.step', the values as a plain list. -/
theorem DR.stepV {l : List Oper} {vals : List Value} {v : Value} (vs : List Value) (hv : vs = vals ++ [v]) (env : List (Nat × Value × Option Nat)) {o : Oper} {d : Nat} (ho : l[vals.length]? = some o) (hd : o.dst = some d) (he : EnvOk l σ vals vals.length env)
    (hop:∀ ext:Env,TL F P S w0 n l.toArray (Fin S w0 n ds η ((d,v)::(envs env++ext))) [o] ds (envs env++ext) η) (h:DR F P S w0 n l ds σ η Q vs):DR F P S w0 n l ds σ η Q vals:=by
  subst hv; exact DR.step env ho hd he hop h

/-- Room for a block that is not there yet. -/
theorem T.hnil {c:Code} (h:T F P S w0 n Q c ds σ ([]::η)):T F P S w0 n Q c ds σ η:=fun a w hk hh=>h a w hk (hh.sub (by simp) (by simpa using hh.once))
theorem TL.hnil {l:List Oper} (h:TL F P S w0 n ops Q l ds σ ([]::η)):TL F P S w0 n ops Q l ds σ η:=fun a w hk hh=>h a w hk (hh.sub (by simp) (by simpa using hh.once))
theorem TQ.hnil {K:Act→World→Prop} (h:TQ S w0 n K ds σ ([]::η)):TQ S w0 n K ds σ η:=fun a w hk hh=>h a w hk (hh.sub (by simp) (by simpa using hh.once))

theorem upc {s:Seg}:∀ x∈η,x∈s::η:=fun _ h=>List.mem_cons_of_mem _ h
theorem upl {s:Heap}:∀ x∈η,x∈η++s:=fun _ h=>List.mem_append_left _ h

theorem TL.max2 (hF : Open F) {x y : Operand} {ats : Array TypeId} {k k' : IntKind} {i j : Int} (hx : ev σ x = some (.int k i)) (hy : ev σ y = some (.int k' j)) (hn : Nat.blt d n = true)
    (h:TL F P S w0 n ops Q rest ds ((d,.int k (max i j))::σ) η):TL F P S w0 n ops Q (⟨some d,.call ⟨.builtin .max,#[x,y],ats⟩,ty,pos,af,none⟩::rest) ds σ η :=
  TL.pure hF (by intro c; simp) hn (fun a w hk _=>by
    have e:(if j>i then j else i)=max i j:=by rw [Int.max_def]; split <;> split <;> omega
    have e2:(Builtin.max_ ats ty #[.int k i,.int k' j]).run P w = .ok (.int k (max i j)) w:=by rw [← e]; rfl
    simp [execOp,resolve,Go.invoke,Go.builtin,hk.ev hx,hk.ev hy,e2]) h
theorem TL.min2 (hF : Open F) {x y : Operand} {ats : Array TypeId} {k k' : IntKind} {i j : Int} (hx : ev σ x = some (.int k i)) (hy : ev σ y = some (.int k' j)) (hn : Nat.blt d n = true)
    (h:TL F P S w0 n ops Q rest ds ((d,.int k (min i j))::σ) η):TL F P S w0 n ops Q (⟨some d,.call ⟨.builtin .min,#[x,y],ats⟩,ty,pos,af,none⟩::rest) ds σ η :=
  TL.pure hF (by intro c; simp) hn (fun a w hk _=>by
    have e:(if j<i then j else i)=min i j:=by rw [Int.min_def]; split <;> split <;> omega
    have e2:(Builtin.min_ ats ty #[.int k i,.int k' j]).run P w = .ok (.int k (min i j)) w:=by rw [← e]; rfl
    simp [execOp,resolve,Go.invoke,Go.builtin,hk.ev hx,hk.ev hy,e2]) h

end
end Go.Sl
