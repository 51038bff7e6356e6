/- Several texts in one. -/
import Derived.Test.YtdiacobmhkmljaaDoorKa
import Derived.ProofKit
import Derived.Deep.Slices
import Derived.Laws.StructEq
import Derived.Shelf.SlSortCmp.NoneTotal
/- Results in memory; parts of arrays that are written; calls through interfaces that may panic; a copy. -/
namespace Go.Sl
section
variable {F:Fence} {P:Program} {S:Nat→Prop} {w0 w:World} {n:Nat} {Q:Exit→Act→World→Prop} {ds:List Deferred} {σ:Env} {η:Heap} {ops:Array Oper} {rest:List Oper} {d:Nat} {ty:TypeId} {pos:String} {af:Array Edge}

theorem run_loadCells {cs:List Value} {sz b o:Nat} (hl:cs.length=sz) (hv:∀ i v,cs[i]?=some v→At S w0 η ⟨b,o+i,none⟩ v) (hh:Hp S w0 η w):(loadCells ⟨b,o,none⟩ sz).run P w = .ok cs.toArray w:=by
  unfold loadCells
  rw [run_loadCellsFrom rfl (fun i=>cs.getD i undef) sz 0 #[] (fun j _ h2=>by
    have h3:cs[j]?=some (cs.getD j undef):=by
      have:j<cs.length:=by omega
      simp [List.getD_eq_getElem?_getD,this]
    have h4:=(hv j _ h3).cell hh
    have:(⟨b,o,none⟩:Addr).add j=⟨b,o+j,none⟩:=by
      unfold Addr.add; split
      · subst_vars; rfl
      · rfl
    rw [this]; exact h4)]
  congr 1
  simp only [Array.empty_append]
  congr 1
  apply List.ext_getElem?
  intro i
  rw [List.getElem?_map]
  by_cases hi:i<sz
  · rw [List.getElem?_range' hi]; simp [List.getD_eq_getElem?_getD,hl,hi]
  · simp [hl,hi]

/-- The end of a function whose one result lies in memory: several cells. -/
theorem TQ.retC {fn : Func} {c : Nat} {ct : TypeId} [Ag P ct true] {z : Value} {sz bt : Nat} [Inf P ct z sz bt] (cs : List Value) {b : Nat} {R : Value → Heap → Prop} (η2 : Heap) (hr : fn.results = #[ResultVar.cell c ct]) (hc : lk σ c = some (.pointer (some ⟨b, 0, none⟩)))
    (hl:cs.length=sz) (hv:∀ i v,cs[i]?=some v→At S w0 η ⟨b,0+i,none⟩ v) (hs:η2.Sublist η) (hR:R (.agg cs.toArray) η2):TQ S w0 n (bodyPost P fn (post R S w0) .ret) [] σ η:=fun a w hk hh=>by
  refine ⟨hk.defers,.agg cs.toArray,?_,_,η2,rfl,hh.seg hs,hR⟩
  have hc2:=hk.slot _ _ hc
  unfold results
  rw [hr]
  simp [Array.getD_eq_getD_getElem?,hc2,asAddr,loadVar,Ag.eq (t:=ct) (b:=true),run_sizeOf (t:=ct) (z:=z) (sz:=sz) (bt:=bt),run_loadCells hl hv hh]
/-- A store of several cells in the midst of a block. -/
theorem TL.storeAs (hF : Open F) {t : TypeId} {z : Value} {sz bt : Nat} [Inf P t z sz bt] {x y : Operand} {b o : Nat} (vs new : List Value) (i : Nat) {cs : List Value} {e : TypeId} (hx : ev σ x = some (.pointer (some ⟨b, o, none⟩))) (hy : ev σ y = some (.agg vs.toArray))
    (hi:η[i]?=some [(b,.cells cs.toArray e (0,0))]) (hl:vs.length=sz) (hv:∀ v∈vs,v.oneCell'=true) (ho:o+sz≤cs.length) (hnew:cs.take o++vs++cs.drop (o+vs.length)=new) (h:TL F P S w0 n ops Q rest ds σ (η.set i [(b,.cells new.toArray e (0,0))])) :
    TL F P S w0 n ops Q (⟨none,.store t x y,ty,pos,af,none⟩::rest) ds σ η:=by
  refine TL.storeAI hF (z:=z) (bt:=bt) vs i hx hy hi hl hv (by simpa using ho) ?_
  rw [foldl_set vs cs.toArray o (by simp; omega)]
  rw [hnew]; exact h

theorem own_list {b i:Nat} {cs:List Value} {e:TypeId} {fz:Nat × Nat} (h:η[i]?=some [(b,Obj.cells cs.toArray e fz)]):∀ j v,cs[j]?=some v→At S w0 η ⟨b,0+j,none⟩ v:=fun j v hj=>by
  rw [Nat.zero_add]; exact At.own' h (by simpa using hj)
end
end Go.Sl
/- Ranges over functions: their ends; loops that leave marks. -/
namespace Go.Sl
section
variable {F:Fence} {P:Program} {S:Nat→Prop} {w0 w:World} {n:Nat} {Q:Exit→Act→World→Prop} {ds:List Deferred} {σ:Env} {η:Heap} {ops:Array Oper} {rest:List Oper} {d:Nat} {ty:TypeId} {pos:String} {af:Array Edge}

theorem TQ.swapT {tl tl':Heap} {body:Code} {Q':Exit→Act→World→Prop} (η1:Heap) (he:η=η1++tl) (h:T F P S w0 n Q body ds σ (η1++tl')):TQ S w0 n (Exit.then (Swap S w0 tl tl' fun a w=>body.wpIn F 0 P Q a w) Q' .normal) ds σ η:=TQ.swap η1 he h

theorem own_listM {b:Nat} {cs:List Value} {e:TypeId} {fz:Nat × Nat} (h:[(b,Obj.cells cs.toArray e fz)]∈η):∀ j v,cs[j]?=some v→At S w0 η ⟨b,0+j,none⟩ v:=fun j v hj=>by
  rw [Nat.zero_add]; exact .own _ h cs.toArray e fz (by simp) (by simpa using hj) rfl

/-- The end of a function behind its marks. -/
theorem TQ.retL0 {fn : Func} (ts : List Nat) (vs : List Value) {v : Value} {R : Value → Heap → Prop} (hr : fn.results = (ts.map ResultVar.tmp).toArray) (hv : lks σ ts = some vs) (he : retVal vs = v) (hR : R v η) :
    TQ S w0 n (bodyPostL P fn (post R S w0) .ret) [] σ η:=fun a w hk hh=>by
  show Lv P fn a.tmps (post R S w0) a.defers .returning w
  rw [hk.defers]
  exact ⟨v,by rw [results_run hr hk (lks_map hv),retVal_eq,he],v,η,rfl,hh,hR⟩
theorem TQ.retLC1 {fn : Func} {c : Nat} {ct : TypeId} [Ag P ct false] {b : Nat} {x : Value} {R : Value → Heap → Prop} (η2 : Heap) (hr : fn.results = #[ResultVar.cell c ct]) (hc : lk σ c = some (.pointer (some ⟨b, 0, none⟩)))
    (hx:At S w0 η ⟨b,0,none⟩ x) (hs:η2.Sublist η) (hR:R x η2):TQ S w0 n (bodyPostL P fn (post R S w0) .ret) [] σ η:=fun a w hk hh=>by
  show Lv P fn a.tmps (post R S w0) a.defers .returning w
  rw [hk.defers]
  refine ⟨x,?_,x,η2,rfl,hh.seg hs,hR⟩
  have hc2:=hk.slot _ _ hc
  unfold results
  rw [hr]
  simp [Array.getD_eq_getD_getElem?,hc2,asAddr,run_loadVar1 (hx.cell hh)]

/-- Marks, and their places. -/
def marksH (rs:List Nat):Heap:=rs.map fun r=>[(r,.deferred (some []))]
end
end Go.Sl
/- Copies. -/
namespace Go.Sl
section
variable {F:Fence} {P:Program} {S:Nat→Prop} {w0 w:World} {n:Nat} {Q:Exit→Act→World→Prop} {ds:List Deferred} {σ:Env} {η:Heap} {ops:Array Oper} {rest:List Oper} {d:Nat} {ty:TypeId} {pos:String} {af:Array Edge}

/-- A copy, into a part of an owned block. -/
theorem TL.copy (hF : Open F) (i : Nat) {t ts e : TypeId} [Und P t (.slice e)] {z : Value} {sz bt : Nat} [Inf P e z sz bt] {x y : Operand} {g o dl dc m mc k : Nat} {a : Option Addr} {cs : List Value} {e' : TypeId} (news new : List Value) (hx : ev σ x = some (.slice (some ⟨g, o, none⟩) dl dc)) (hy : ev σ y = some (.slice a m mc))
    (hi:η[i]?=some [(g,.cells cs.toArray e' (0,0))]) (hk:k=min m dl) (hs:Row S w0 η a news) (hl:news.length=k*sz) (h1:∀ u∈news,u.oneCell'=true) (ho:o+k*sz≤cs.length) (hnew:cs.take o++news++cs.drop (o+k*sz)=new) (hn:Nat.blt d n=true)
    (h:TL F P S w0 n ops Q rest ds ((d,.int .i64 (k:Int))::σ) (η.set i [(g,.cells new.toArray e' (0,0))])) :
    TL F P S w0 n ops Q (⟨some d,.call ⟨.builtin .copy,#[x,y],#[t,ts]⟩,ty,pos,af,none⟩::rest) ds σ η :=
  TL.val hF (by intro c; simp) hn fun b w hkn hh=>by
    have hg:=hh.inMem (List.mem_of_getElem? hi)
    have hfc:(Builtin.firstCells sz k (.slice a m mc)).run P w = .ok news.toArray w:=by
      have h0:=run_firstCells (P:=P) (m:=k) (c:=mc) hs hl hh
      cases a <;> exact h0
    have hst:=run_storeCells (P:=P) (e:=e') (b:=g) news cs.toArray o 0 w hg (by simp; omega) h1
    simp only [Nat.add_zero] at hst
    rw [foldl_set _ _ _ (by simp; omega)] at hst
    have hnew':(cs.toArray.toList.take o++news++cs.toArray.toList.drop (o+news.length))=new:=by rw [hl]; exact hnew
    rw [hnew'] at hst
    refine ⟨.int .i64 (k:Int),_,_,?_,hh.turnI hi _,h⟩
    have hk':Nat.min m dl=k:=hk.symm
    have e2:(Builtin.copy_ #[t,ts] ty #[.slice (some ⟨g,o,none⟩) dl dc,.slice a m mc]).run P w = .ok (.int .i64 (k:Int)) (putBlk w g (.cells new.toArray e' (0,0))):=by
      simp [Builtin.copy_,run_underlying (t:=t) (d:=.slice e),run_sizeOf (t:=e) (z:=z) (sz:=sz) (bt:=bt),Builtin.lenOf,hk',hfc,hst,goInt]
    simp [execOp,resolve,Go.invoke,Go.builtin,hkn.ev hx,hkn.ev hy,e2]
end
end Go.Sl
/- Integers of other kinds: sums, products, bits, shifts, remainders, conversions. -/
namespace Go.Sl
section
variable {F:Fence} {P:Program} {S:Nat→Prop} {w0 w:World} {n:Nat} {Q:Exit→Act→World→Prop} {ds:List Deferred} {σ:Env} {η:Heap} {ops:Array Oper} {rest:List Oper} {d:Nat} {ty:TypeId} {pos:String} {af:Array Edge}
theorem TL.convK (hF : Open F) {s t : TypeId} {d1 : TypeDesc} {k k' : IntKind} [Und P s d1] [Und P t (.int k)] {x : Operand} {a r : Int} (hx : ev σ x = some (.int k' a)) (hr : k.wrap a = r) (hn : Nat.blt d n = true)
    (h:TL F P S w0 n ops Q rest ds ((d,.int k r)::σ) η):TL F P S w0 n ops Q (⟨some d,.convert s t x,ty,pos,af,none⟩::rest) ds σ η :=
  TL.pure hF (by intro c; simp) hn (fun a w hk _=>by simp [execOp,hk.ev hx,convert,run_underlying (t:=s) (d:=d1),run_underlying (t:=t) (d:=.int k),Conv.intToInt,hr]) h
end
end Go.Sl
/- Regions that draw their order, in which some operations write: pure ones are told once, heavy ones in each order that may come. -/
namespace Go.Sl

/-- What is known of the operations: place, value, kind (0: pure; 1: reads the heap; 2: carried out). -/
abbrev VL:=List (Nat × Value × Nat)
def vget:VL→Nat→Option Value
  | [],_=>none
  | (i,v,_)::r,j=>bif Nat.beq i j then some v else vget r j
def execV (V:VL):VL:=V.map fun x=>(x.1,x.2.1,bif Nat.beq x.2.2 1 then 2 else x.2.2)
theorem vget_cons (i:Nat) (v:Value) (k:Nat) (r:VL) (j:Nat):vget ((i,v,k)::r) j=if i=j then some v else vget r j:=by
  simp only [vget]
  by_cases h:i=j
  · subst h; simp
  · have:Nat.beq i j=false:=by
      cases hb:Nat.beq i j
      · rfl
      · exact absurd (Nat.eq_of_beq_eq_true hb) h
    simp [this,h]
theorem vget_exec:∀ (V:VL) (j:Nat),vget (execV V) j=vget V j
  | [],_=>rfl
  | (i,v,k)::r,j=>by
    have:=vget_exec r j
    show vget ((i,v,_)::execV r) j=_
    rw [vget_cons,vget_cons,this]
theorem vget_mem:∀ {V:VL} {j:Nat} {v:Value},vget V j=some v→∃ k,(j,v,k)∈V
  | (i,u,k)::r,j,v,h=>by
    rw [vget_cons] at h
    by_cases hij:i=j
    · rw [if_pos hij] at h; cases h; subst hij; exact ⟨k,List.mem_cons_self⟩
    · rw [if_neg hij] at h; obtain ⟨k',hk⟩:=vget_mem h; exact ⟨k',List.mem_cons_of_mem _ hk⟩
theorem mem_vget:∀ {V:VL},(V.map (·.1)).Nodup→∀ {j:Nat} {v:Value} {k:Nat},(j,v,k)∈V→vget V j=some v
  | (i,u,k0)::r,hn,j,v,k,h=>by
    simp only [List.map_cons,List.nodup_cons] at hn
    rw [vget_cons]
    rcases List.mem_cons.1 h with h | h
    · cases h; simp
    · have:i≠j:=fun e=>hn.1 (by rw [e]; exact List.mem_map.2 ⟨_,h,rfl⟩)
      rw [if_neg this]; exact mem_vget hn.2 h
def EnvOkV (l:List Oper) (σ:Env) (V:VL) (i:Nat):List (Nat × Value × Option Nat)→Prop
  | []=>True
  | (t,v,some j)::r=>(waits l i j=true∧dstOf l j=some t∧vget V j=some v)∧EnvOkV l σ V i r
  | (t,v,none)::r=>(lk σ t=some v∧clean l i t=true)∧EnvOkV l σ V i r
theorem EnvOkV.ext {l:List Oper} {σ:Env} {V V':VL} {i:Nat} (h:∀ j v,vget V j=some v→vget V' j=some v):∀ {env:List (Nat × Value × Option Nat)},EnvOkV l σ V i env→EnvOkV l σ V' i env
  | [],_=>trivial
  | (_t,u,some j)::_r,he=>⟨⟨he.1.1,he.1.2.1,h j u he.1.2.2⟩,EnvOkV.ext h he.2⟩
  | (_t,_u,none)::_r,he=>⟨he.1,EnvOkV.ext h he.2⟩
def complete (l:List Oper) (m:Nat) (V:VL) (hs:List Nat):Bool:=(List.range m).all fun i=>(vget V i).isSome || hs.any (Nat.beq i) || (List.range l.length).any fun j=>(vget V j).isNone && (waits l i j || waitsT l l.length i j)
def readersOk (l:List Oper) (V:VL) (h:Nat):Bool:=V.all fun x=>!Nat.beq x.2.2 1 || (waits l h x.1 || waitsT l l.length h x.1)
def allEnvV (l:List Oper) (V:VL) (σ:Env):Env:=(V.filterMap fun x=>(dstOf l x.1).map fun d=>(d,x.2.1))++σ
def dstsOk (l:List Oper) (m:Nat):Bool:=Nat.ble m l.length && distinct ((List.range m).map (dstOf l))

section
variable {F:Fence} {P:Program} {S:Nat→Prop} {w0 w:World} {n:Nat} {Q:Exit→Act→World→Prop} {l:List Oper} {ds:List Deferred} {σ:Env} {η:Heap}
structure InvD (S:Nat→Prop) (w0:World) (n:Nat) (l:List Oper) (ds:List Deferred) (σ:Env) (V:VL) (η:Heap) (L:Array Bool) (a:Act) (w:World):Prop where
  size:L.size=l.length
  dom:∀ i,L[i]?=some true→(vget V i).isSome=true
  done:∀ i v,(i,v,2)∈V→L[i]?=some true
  down:∀ k j,waits l k j=true→L[k]?=some true→L[j]?=some true
  tsize:a.tmps.size=n
  defers:a.defers=ds
  old:∀ t v,lk σ t=some v→(∀ k,L[k]?=some true→dstOf l k≠some t)→a.tmps[t]?=some v
  new:∀ i v d,L[i]?=some true→vget V i=some v→dstOf l i=some d→a.tmps[d]?=some v
  hp:Hp S w0 η w
def QSV (F:Fence) (P:Program) (S:Nat→Prop) (w0:World) (n:Nat) (l:List Oper) (ds:List Deferred) (σ:Env) (V:VL) (η:Heap) (i:Nat) (v:Value):Prop :=
  ∃ o d env,l[i]?=some o∧o.dst=some d∧EnvOkV l σ V i env∧∀ ext:Env,TL F P S w0 n l.toArray (Fin S w0 n ds η ((d,v)::(envs env++ext))) [o] ds (envs env++ext) η
theorem QSV.ext {V V':VL} {i:Nat} {v:Value} (h:∀ j v,vget V j=some v→vget V' j=some v) (hq:QSV F P S w0 n l ds σ V η i v):QSV F P S w0 n l ds σ V' η i v:=by
  obtain ⟨o,d,env,h1,h2,h3,h4⟩:=hq
  exact ⟨o,d,env,h1,h2,h3.ext h,h4⟩
def DH (F:Fence) (P:Program) (S:Nat→Prop) (w0:World) (n:Nat) (l:List Oper) (ds:List Deferred) (σ:Env) (Q:Exit→Act→World→Prop) (m:Nat) (V:VL) (η:Heap):Prop :=
  (V.map (·.1)).Nodup→(∀ i v,(i,v,0)∈V→∀ η',QSV F P S w0 n l ds σ V η' i v)→(∀ i v,(i,v,1)∈V→QSV F P S w0 n l ds σ V η i v)→(∀ i v k,(i,v,k)∈V→i<m∧(k=0∨k=1∨k=2)) →
    ∀ f L a w,L.toList.countP (· == false)=f→InvD S w0 n l ds σ V η L a w→wpAnyIn F 0 P .any l.toArray Q f L a w

variable {m:Nat} {V:VL}
theorem DH.quiet {k0 i:Nat} {v:Value} (hk0:k0=0∨k0=1) (him:Nat.blt i m=true) (hnew:vget V i=none) (hq0:k0=0→∀ η',QSV F P S w0 n l ds σ V η' i v) (hq1:k0=1→QSV F P S w0 n l ds σ V η i v) (h:DH F P S w0 n l ds σ Q m ((i,v,k0)::V) η):DH F P S w0 n l ds σ Q m V η:=by
  intro hn h0 h1 hk f L a w hc hi
  have hext:∀ j u,vget V j=some u→vget ((i,v,k0)::V) j=some u:=by
    intro j u hj
    rw [vget_cons]
    by_cases e:i=j
    · subst e; rw [hnew] at hj; cases hj
    · rw [if_neg e]; exact hj
  have hni:i ∉ V.map (·.1):=by
    intro hm
    obtain ⟨⟨j,u,k⟩,hx,he⟩:=List.mem_map.1 hm
    simp only at he; subst he
    have:=mem_vget hn hx
    rw [hnew] at this; cases this
  refine h (List.nodup_cons.2 ⟨hni,hn⟩) ?_ ?_ ?_ f L a w hc ⟨hi.size,?_,?_,hi.down,hi.tsize,hi.defers,hi.old,?_,hi.hp⟩
  · intro j u hm η'
    rcases List.mem_cons.1 hm with e | hm
    · cases e; exact (hq0 rfl η').ext hext
    · exact (h0 j u hm η').ext hext
  · intro j u hm
    rcases List.mem_cons.1 hm with e | hm
    · cases e; exact (hq1 rfl).ext hext
    · exact (h1 j u hm).ext hext
  · intro j u k hm
    rcases List.mem_cons.1 hm with e | hm
    · cases e; exact ⟨Nat.le_of_ble_eq_true him,by rcases hk0 with h | h <;> simp [h]⟩
    · exact hk j u k hm
  · intro j hj
    have:=hi.dom j hj
    cases hv:vget V j with
    | none=>simp [hv] at this
    | some u=>rw [hext j u hv]; rfl
  · intro j u hm
    rcases List.mem_cons.1 hm with e | hm
    · cases e; rcases hk0 with h | h <;> cases h
    · exact hi.done j u hm
  · intro j u d hj hv hd
    rw [vget_cons] at hv
    by_cases e:i=j
    · subst e
      have:=hi.dom i hj
      rw [hnew] at this; simp at this
    · rw [if_neg e] at hv; exact hi.new j u d hj hv hd
/-- A pure operation. -/
theorem DH.pure {i : Nat} {v : Value} (env : List (Nat × Value × Option Nat)) {o : Oper} {d : Nat} (ho : l[i]? = some o) (hd : o.dst = some d) (him : Nat.blt i m = true) (hnew : vget V i = none) (he : EnvOkV l σ V i env)
    (hop:∀ (η:Heap) (ext:Env),TL F P S w0 n l.toArray (Fin S w0 n ds η ((d,v)::(envs env++ext))) [o] ds (envs env++ext) η) (h:DH F P S w0 n l ds σ Q m ((i,v,0)::V) η):DH F P S w0 n l ds σ Q m V η :=
  DH.quiet (.inl rfl) him hnew (fun _ η'=>⟨o,d,env,ho,hd,he,hop η'⟩) (fun e=>by cases e) h
/-- An operation that reads the heap. -/
theorem DH.read {i : Nat} {v : Value} (env : List (Nat × Value × Option Nat)) {o : Oper} {d : Nat} (ho : l[i]? = some o) (hd : o.dst = some d) (him : Nat.blt i m = true) (hnew : vget V i = none) (he : EnvOkV l σ V i env)
    (hop:∀ ext:Env,TL F P S w0 n l.toArray (Fin S w0 n ds η ((d,v)::(envs env++ext))) [o] ds (envs env++ext) η) (h:DH F P S w0 n l ds σ Q m ((i,v,1)::V) η):DH F P S w0 n l ds σ Q m V η :=
  DH.quiet (.inr rfl) him hnew (fun e=>by cases e) (fun _=>⟨o,d,env,ho,hd,he,hop⟩) h

/-- What is asked behind a heavy operation. -/
def QB (F:Fence) (P:Program) (S:Nat→Prop) (w0:World) (n:Nat) (l:List Oper) (ds:List Deferred) (σ:Env) (Q:Exit→Act→World→Prop) (m:Nat) (V:VL) (h d:Nat) (σ':Env):Exit→Act→World→Prop
  | .normal,a,w=>∃ v η',Kn n ds ((d,v)::σ') a∧Hp S w0 η' w∧DH F P S w0 n l ds σ Q m ((h,v,2)::execV V) η'
  | e,a,w=>Q e a w
theorem TL.finD {h d:Nat} {σ':Env} {v:Value} {ops:Array Oper} (hd:DH F P S w0 n l ds σ Q m ((h,v,2)::execV V) η):TL F P S w0 n ops (QB F P S w0 n l ds σ Q m V h d σ') [] ds ((d,v)::σ') η:=TL.nil fun _ _ hk hh=>⟨v,η,hk,hh,hd⟩
/-- A heavy operation that may come next. -/
def HB (F:Fence) (P:Program) (S:Nat→Prop) (w0:World) (n:Nat) (l:List Oper) (ds:List Deferred) (σ:Env) (Q:Exit→Act→World→Prop) (m:Nat) (V:VL) (η:Heap) (h:Nat):Prop :=
  ∃ o d env,l[h]?=some o∧o.dst=some d∧Nat.blt h m=true∧vget V h=none∧EnvOkV l σ V h env∧readersOk l V h=true∧∀ ext:Env,TL F P S w0 n l.toArray (QB F P S w0 n l ds σ Q m V h d (envs env++ext)) [o] ds (envs env++ext) η

theorem InvD.env {L : Array Bool} {a : Act} (hi : InvD S w0 n l ds σ V η L a w) {i : Nat} (hL : L[i]? = some false) (hready : ∀ j, waits l i j = true → L[j]? = some true) :
    ∀ {env:List (Nat × Value × Option Nat)},EnvOkV l σ V i env→∀ t v,lk (envs env) t=some v→a.tmps[t]?=some v
  | [],_,t,v,h=>by simp [envs,lk] at h
  | (s,u,some j)::r,he,t,v,h=>by
    simp only [envs] at h
    rw [lk_cons] at h
    by_cases hst:s=t
    · rw [if_pos hst] at h
      cases h; subst hst
      exact hi.new j u s (hready j he.1.1) he.1.2.2 he.1.2.1
    · rw [if_neg hst] at h
      exact InvD.env hi hL hready he.2 t v h
  | (s,u,none)::r,he,t,v,h=>by
    simp only [envs] at h
    rw [lk_cons] at h
    by_cases hst:s=t
    · rw [if_pos hst] at h
      cases h; subst hst
      refine hi.old s u he.1.1 fun k hk1 hk2=>?_
      have hc:=he.1.2
      simp only [clean,List.all_eq_true,List.mem_range,Bool.or_eq_true] at hc
      have hkl:k<l.length:=by have:=(Array.getElem?_eq_some_iff.1 hk1).1; rw [hi.size] at this; exact this
      rcases hc k hkl with (h1 | h1 | h1) | h1
      · rw [hk2] at h1; simp at h1
      · have:=hi.down k i h1 hk1
        rw [hL] at this; cases this
      · have:=waitsT_done hi.down _ k i (fun i' hi'=>hi.down k i' hi' hk1) h1
        rw [hL] at this; cases this
      · have:k=i:=Nat.eq_of_beq_eq_true h1
        subst this
        rw [hL] at hk1; cases hk1
    · rw [if_neg hst] at h
      exact InvD.env hi hL hready he.2 t v h

/-- One operation has been carried out. -/
theorem InvD.put {V' : VL} {η' : Heap} {L : Array Bool} {a a' : Act} {w' : World} (hi : InvD S w0 n l ds σ V η L a w) (hq : dstsOk l m = true) {i d : Nat} {v : Value} (him : i < m) (hL : L[i]? = some false) (hready : ∀ j, waits l i j = true → L[j]? = some true)
    (hV:∀ j u,vget V j=some u→vget V' j=some u) (hV':∀ j u,j≠i→vget V' j=some u→vget V j=some u) (hvi:vget V' i=some v) (hdom:∀ j,(vget V j).isSome=true→j<m) (hdi:dstOf l i=some d)
    (hdone:∀ j u,(j,u,2)∈V'→j=i∨L[j]?=some true)
    (hs:a'.tmps.size=n) (hds:a'.defers=ds) (hd:a'.tmps[d]?=some v) (ho:∀ t u,t≠d→a.tmps[t]?=some u→a'.tmps[t]?=some u) (hh:Hp S w0 η' w'):InvD S w0 n l ds σ V' η' (L.setIfInBounds i true) a' w':=by
  have hil:=(Array.getElem?_eq_some_iff.1 hL).1
  have hset:∀ k,(L.setIfInBounds i true)[k]?=some true↔k=i∨L[k]?=some true:=by
    intro k
    rw [Array.getElem?_setIfInBounds]
    by_cases e:i=k
    · subst e; simp [hil]
    · rw [if_neg e]
      constructor
      · exact .inr
      · rintro (h | h)
        · exact absurd h.symm e
        · exact h
  have hq':quietOk l m=true:=hq
  refine ⟨by simp [hi.size],?_,?_,?_,hs,hds,?_,?_,hh⟩
  · intro k hk
    rcases (hset k).1 hk with e | hk
    · subst e; rw [hvi]; rfl
    · have:=hi.dom k hk
      cases hv:vget V k with
      | none=>simp [hv] at this
      | some u=>rw [hV k u hv]; rfl
  · intro j u hj
    rcases hdone j u hj with e | h
    · exact (hset j).2 (.inl e)
    · exact (hset j).2 (.inr h)
  · intro k j hw hk
    rcases (hset k).1 hk with e | hk
    · subst e; exact (hset j).2 (.inr (hready j hw))
    · exact (hset j).2 (.inr (hi.down k j hw hk))
  · intro t u ht hno
    have hne:t≠d:=fun e=>hno i ((hset i).2 (.inl rfl)) (by rw [hdi,e])
    exact ho t u hne (hi.old t u ht fun k hk=>hno k ((hset k).2 (.inr hk)))
  · intro j u d' hj hv hd'
    rcases (hset j).1 hj with e | hj2
    · subst e
      rw [hvi] at hv; cases hv
      rw [hdi] at hd'; cases hd'
      exact hd
    · have hji:j≠i:=fun e=>by subst e; rw [hL] at hj2; cases hj2
      refine ho d' u (fun e=>?_) (hi.new j u d' hj2 (hV' j u hji hv) hd')
      subst e
      exact hji (dst_ne hq' (hdom j (hi.dom j hj2)) him hd' hdi)

/-- An operation that is carried out from here. -/
theorem run_one {L : Array Bool} {a : Act} {i d : Nat} {o : Oper} {env : List (Nat × Value × Option Nat)} {QO : Env → Exit → Act → World → Prop} (hi : InvD S w0 n l ds σ V η L a w) (hL : L[i]? = some false) (hready : ∀ j, waits l i j = true → L[j]? = some true) (ho : l[i]? = some o) (henv : EnvOkV l σ V i env)
    (hop:∀ ext:Env,TL F P S w0 n l.toArray (QO (envs env++ext)) [o] ds (envs env++ext) η) :
    wpOpIn F 0 P l.toArray (QO (envs env++fullEnv a)) i (fun a' w'=>QO (envs env++fullEnv a) .normal a' w') a w∧(∀ v a',Kn n ds ((d,v)::(envs env++fullEnv a)) a'→a'.tmps[d]?=some v∧∀ t u,t≠d→a.tmps[t]?=some u→a'.tmps[t]?=some u):=by
  have hke:∀ t v,lk (envs env) t=some v→a.tmps[t]?=some v:=hi.env hL hready henv
  have hkn:Kn n ds (envs env++fullEnv a) a:=⟨hi.tsize,hi.defers,fun t v htv=>by
    rcases lk_append htv with h5 | ⟨_,h5⟩
    · exact hke t v h5
    · exact lk_full a t v h5⟩
  have h6:=hop (fullEnv a) a w hkn hi.hp
  rw [wpListIn_one (i:=i) (by simp [ho])] at h6
  refine ⟨wpOpIn_mono (fun a' w' hx=>hx) h6,fun v a' hk'=>⟨hk'.slot d _ (by rw [lk_cons,if_pos rfl]),fun t u hne htu=>?_⟩⟩
  refine hk'.slot t u ?_
  rw [lk_cons,if_neg (Ne.symm hne)]
  have hfull:lk (fullEnv a) t=some u:=by
    have:=lk_full' a.tmps.toList 0 t u (by simpa using htu)
    simpa [fullEnv] using this
  have happ:∀ (e1:Env),(∀ v,lk e1 t=some v→v=u)→lk (e1++fullEnv a) t=some u:=by
    intro e1
    induction e1 with
    | nil=>intro _; exact hfull
    | cons p r ihr =>
      obtain ⟨s,v⟩:=p
      intro hv
      rw [List.cons_append,lk_cons]
      by_cases hst:s=t
      · rw [if_pos hst,hv v (by rw [lk_cons,if_pos hst])]
      · rw [if_neg hst]; exact ihr fun v' hv'=>hv v' (by rw [lk_cons,if_neg hst]; exact hv')
  exact happ _ fun v hv=>by
    have:=hke t v hv
    rw [htu] at this; cases this; rfl

/-- A node: the heavy operations that may come next; at a leaf the tail. -/
theorem DH.node (hs : List Nat) (hd : dagOk l = true) (ht : tailOk l m = true) (hq : dstsOk l m = true) (hcomp : complete l m V hs = true) (hbr : ∀ h ∈ hs, HB F P S w0 n l ds σ Q m V η h)
    (hleaf:(∀ i,i<m→(vget V i).isSome=true)→TL F P S w0 n l.toArray Q (l.drop m) ds (allEnvV l V σ) η):DH F P S w0 n l ds σ Q m V η:=by
  intro hn h0 h1 hk
  have hml:m≤l.length:=by
    simp only [dstsOk,Bool.and_eq_true] at hq
    exact Nat.le_of_ble_eq_true hq.1
  have hdom:∀ j,(vget V j).isSome=true→j<m:=by
    intro j hj
    cases hv:vget V j with
    | none=>simp [hv] at hj
    | some u=>obtain ⟨k,hm⟩:=vget_mem hv; exact (hk j u k hm).1
  have last:∀ (f:Nat) (L:Array Bool) (a:Act) (w:World),L.toList.countP (· == false)=f→InvD S w0 n l ds σ V η L a w→(∀ k,k<m→L[k]?=some true)→wpAnyIn F 0 P .any l.toArray Q f L a w:=by
    intro f L a w hc hi hall
    have hsz:=hi.size
    have hLq:∀ k,L[k]?=some true→k<m:=fun k hk'=>hdom k (hi.dom k hk')
    have hL:∀ j,j<l.length→L[j]?=some (decide (j<m)):=fun j hj=>by
      by_cases h1:j<m
      · rw [hall j h1]; simp [h1]
      · have hj':j<L.size:=by omega
        have:L[j]?≠some true:=fun e=>h1 (hLq j e)
        simp only [hj',Array.getElem?_eq_getElem] at this ⊢
        cases h4:L[j] with
        | true=>rw [h4] at this; exact absurd rfl this
        | false=>simp [h1]
    have hLeq:L.toList=List.replicate m true++List.replicate (l.length - m) false:=by
      apply List.ext_getElem?
      intro j
      rw [Array.getElem?_toList]
      by_cases hj:j<l.length
      · rw [hL j hj]
        by_cases h1:j<m
        · rw [List.getElem?_append_left (by simpa using h1)]; simp [h1]
        · rw [List.getElem?_append_right (by simpa using h1)]
          rw [List.getElem?_replicate,List.length_replicate,if_pos (by omega)]
          simp [h1]
      · rw [Array.getElem?_eq_none (by omega),List.getElem?_eq_none (by simp; omega)]
    have hf:m+f=l.length:=by
      rw [hLeq] at hc
      simp [List.countP_append,List.countP_replicate] at hc
      omega
    refine any_tail hd ht f m L a w hf (Nat.le_refl _) hsz hL (hleaf (fun i him=>hi.dom i (hall i him)) a w ⟨hi.tsize,hi.defers,fun t v htv=>?_⟩ hi.hp)
    have hmem:∀ t v,(t,v)∈(V.filterMap fun x=>(dstOf l x.1).map fun d=>(d,x.2.1))→∃ i,vget V i=some v∧dstOf l i=some t:=by
      intro t v h
      obtain ⟨⟨i,u,k⟩,h1,h2⟩:=List.mem_filterMap.1 h
      simp only [Option.map_eq_some_iff,Prod.mk.injEq] at h2
      obtain ⟨d,hd,rfl,rfl⟩:=h2
      exact ⟨i,mem_vget hn h1,hd⟩
    rcases lk_append htv with h5 | ⟨h5,h6⟩
    · obtain ⟨i,h3,h4⟩:=hmem t v (lk_mem h5)
      exact hi.new i v t (hall i (hdom i (by rw [h3]; rfl))) h3 h4
    · refine hi.old t v h6 fun k hk1 hk2=>?_
      have hkv:=hi.dom k hk1
      cases hv:vget V k with
      | none=>simp [hv] at hkv
      | some u =>
        obtain ⟨kk,hm⟩:=vget_mem hv
        refine lk_none h5 u (List.mem_filterMap.2 ⟨(k,u,kk),hm,by simp [hk2]⟩)
  intro f
  induction f with
  | zero =>
    intro L a w hc hi
    refine last 0 L a w hc hi (fun j hj=>?_)
    have hsz:=hi.size
    have hj':j<L.size:=by omega
    rw [List.countP_eq_zero] at hc
    have:=hc L[j] (by simp)
    simp at this
    simp [hj',this]
  | succ f ih =>
    intro L a w hc hi
    have hsz:=hi.size
    by_cases hall:∀ k,k<m→L[k]?=some true
    · exact last (f+1) L a w hc hi hall
    · simp only [Classical.not_forall] at hall
      obtain ⟨j,hj,hjn⟩:=hall
      have hjL:L[j]?=some false:=by
        have hj':j<L.size:=by omega
        simp only [hj',Array.getElem?_eq_getElem] at hjn ⊢
        cases h4:L[j] with
        | true=>rw [h4] at hjn; exact absurd rfl hjn
        | false=>rfl
      refine ⟨fun he=>by
        obtain ⟨i,hi'⟩:=ready_ex hd hsz j hjL
        rw [he] at hi'; simp at hi',fun i hir=>?_⟩
      obtain ⟨hLi,hready⟩:=mem_ready hsz hir
      have hilt:=(Array.getElem?_eq_some_iff.1 hLi).1
      have him:i<m:=by
        rcases Nat.lt_or_ge i m with h3 | h3
        · exact h3
        · have:L[j]?=some true:=by
            simp only [tailOk,List.all_eq_true,List.mem_range,Bool.or_eq_true] at ht
            rcases ht i (by omega) with h4 | h4
            · have:i<m:=Nat.le_of_ble_eq_true h4
              omega
            · rcases h4 j (by omega) with h5 | h5
              · exact hready j h5
              · exact waitsT_done hi.down _ i j hready h5
          rw [hjL] at this; cases this
      have hcnt:(L.setIfInBounds i true).toList.countP (· == false)=f:=by
        rw [Array.toList_setIfInBounds,List.countP_set (by simpa using hilt)]
        have h7:L.toList[i]'(by simpa using hilt)=false:=by
          have:=(Array.getElem?_eq_some_iff.1 hLi).2
          simpa using this
        rw [h7,hc]; simp
      simp only [complete,List.all_eq_true,List.mem_range,Bool.or_eq_true] at hcomp
      rcases hcomp i him with (hv | hv) | hv
      · -- a quiet one
        cases hvi:vget V i with
        | none=>simp [hvi] at hv
        | some v =>
          obtain ⟨k,hmem⟩:=vget_mem hvi
          have hqs:QSV F P S w0 n l ds σ V η i v:=by
            rcases (hk i v k hmem).2 with e | e | e
            · subst e; exact h0 i v hmem η
            · subst e; exact h1 i v hmem
            · subst e; have:=hi.done i v hmem; rw [hLi] at this; cases this
          obtain ⟨o,d,env,ho,hod,henv,hop⟩:=hqs
          have hdi:dstOf l i=some d:=by simp [dstOf,ho,hod]
          obtain ⟨hrun,hfr⟩:=run_one (d:=d) (QO:=fun σ'=>Fin S w0 n ds η ((d,v)::σ')) hi hLi hready ho henv hop
          refine wpOpIn_monoQ (fun a' w' hx=>?_) (fun e a' w' hne hx=>by cases e <;> first | exact absurd rfl hne | exact hx.elim) hrun
          obtain ⟨hk',hh'⟩:=(show Kn n ds ((d,v)::(envs env++fullEnv a)) a'∧Hp S w0 η w' from hx)
          exact ih _ a' w' hcnt (hi.put hq him hLi hready (fun _ _ h=>h) (fun _ _ _ h=>h) hvi hdom hdi (fun j u hm=>.inr (hi.done j u hm)) hk'.size hk'.defers (hfr v a' hk').1 (hfr v a' hk').2 hh')
      · -- a heavy one
        have hih:i∈hs:=by
          obtain ⟨x,hx,he⟩:=List.any_eq_true.1 hv
          have:i=x:=Nat.eq_of_beq_eq_true he
          rw [this]; exact hx
        obtain ⟨o,d,env,ho,hod,_,hnew,henv,hrd,hop⟩:=hbr i hih
        have hdi:dstOf l i=some d:=by simp [dstOf,ho,hod]
        obtain ⟨hrun,hfr⟩:=run_one (d:=d) (QO:=fun σ'=>QB F P S w0 n l ds σ Q m V i d σ') hi hLi hready ho henv hop
        refine wpOpIn_monoQ (fun a' w' hx=>?_) (fun e a' w' hne hx=>by cases e <;> first | exact absurd rfl hne | exact hx) hrun
        obtain ⟨v,η',hk',hh',hdh⟩:=(show ∃ v η',Kn n ds ((d,v)::(envs env++fullEnv a)) a'∧Hp S w0 η' w'∧DH F P S w0 n l ds σ Q m ((i,v,2)::execV V) η' from hx)
        have hext:∀ j u,vget V j=some u→vget ((i,v,2)::execV V) j=some u:=by
          intro j u hj
          rw [vget_cons,vget_exec]
          by_cases e:i=j
          · subst e; rw [hnew] at hj; cases hj
          · rw [if_neg e]; exact hj
        have hex:∀ j u k,(j,u,k)∈execV V→∃ k0,(j,u,k0)∈V∧((k0=1∧k=2)∨(k0≠1∧k=k0)):=by
          intro j u k hm
          obtain ⟨⟨j0,u0,k0⟩,hx0,he⟩:=List.mem_map.1 hm
          simp only [Prod.mk.injEq] at he
          obtain ⟨rfl,rfl,hke⟩:=he
          refine ⟨k0,hx0,?_⟩
          by_cases e:k0=1
          · subst e; left; exact ⟨rfl,hke.symm⟩
          · right
            have:Nat.beq k0 1=false:=by
              cases hb:Nat.beq k0 1
              · rfl
              · exact absurd (Nat.eq_of_beq_eq_true hb) e
            rw [this] at hke; exact ⟨e,hke.symm⟩
        have hmapf:(execV V).map (·.1)=V.map (·.1):=by simp [execV,Function.comp_def]
        refine hdh ?_ ?_ ?_ ?_ f _ a' w' hcnt (hi.put hq him hLi hready hext ?_ (by rw [vget_cons,if_pos rfl]) hdom hdi ?_ hk'.size hk'.defers (hfr v a' hk').1 (hfr v a' hk').2 hh')
        · rw [List.map_cons,hmapf]
          refine List.nodup_cons.2 ⟨fun hm=>?_,hn⟩
          obtain ⟨⟨j0,u0,k0⟩,hx0,he⟩:=List.mem_map.1 hm
          simp only at he; subst he
          have:=mem_vget hn hx0
          rw [hnew] at this; cases this
        · intro j u hm η2
          rcases List.mem_cons.1 hm with e | hm
          · cases e
          · obtain ⟨k0,hx0,h2 | h2⟩:=hex j u 0 hm
            · exact absurd h2.2 (by decide)
            · rw [← h2.2] at hx0; exact (h0 j u hx0 η2).ext hext
        · intro j u hm
          rcases List.mem_cons.1 hm with e | hm
          · cases e
          · obtain ⟨k0,hx0,h2 | h2⟩:=hex j u 1 hm
            · exact absurd h2.2 (by decide)
            · exact absurd h2.2.symm h2.1
        · intro j u k hm
          rcases List.mem_cons.1 hm with e | hm
          · cases e; exact ⟨him,.inr (.inr rfl)⟩
          · obtain ⟨k0,hx0,h2 | h2⟩:=hex j u k hm
            · exact ⟨(hk j u k0 hx0).1,.inr (.inr h2.2)⟩
            · rw [h2.2]; exact hk j u k0 hx0
        · intro j u hji hv2
          rw [vget_cons,if_neg (fun e=>hji e.symm),vget_exec] at hv2; exact hv2
        · intro j u hm
          rcases List.mem_cons.1 hm with e | hm
          · cases e; exact .inl rfl
          · obtain ⟨k0,hx0,h2 | h2⟩:=hex j u 2 hm
            · right
              simp only [readersOk,List.all_eq_true] at hrd
              have h3:=hrd (j,u,k0) hx0
              simp only [h2.1,Bool.or_eq_true,Bool.not_eq_true'] at h3
              rcases h3 with h3 | h3 | h3
              · simp at h3
              · exact hready j h3
              · exact waitsT_done hi.down _ i j hready h3
            · right; rw [← h2.2] at hx0; exact hi.done j u hx0
      · -- it waits for what is not known
        exfalso
        simp only [List.any_eq_true,List.mem_range,Bool.and_eq_true,Bool.or_eq_true] at hv
        obtain ⟨j2,hj2,hnone,hw⟩:=hv
        have hLj:L[j2]?=some true:=by
          rcases hw with h5 | h5
          · exact hready j2 h5
          · exact waitsT_done hi.down _ i j2 hready h5
        have:=hi.dom j2 hLj
        cases hvv:vget V j2 with
        | none=>simp [hvv] at this
        | some u=>simp [hvv] at hnone
theorem DH.done (pre : Env) (tl : List Oper) (hd : dagOk l = true) (ht : tailOk l m = true) (hq : dstsOk l m = true) (hcomp : complete l m V [] = true) (hp : allEnvV l V σ = pre ++ σ) (hl : l.drop m = tl)
    (h:TL F P S w0 n l.toArray Q tl ds (pre++σ) η):DH F P S w0 n l ds σ Q m V η:=DH.node [] hd ht hq hcomp (by simp) (fun _=>by rw [hp,hl]; exact h)
theorem not_all {h:Nat} (hm:Nat.blt h m=true) (hv:vget V h=none) {X:Prop} (ha:∀ i,i<m→(vget V i).isSome=true):X:=by
  have:=ha h (Nat.le_of_ble_eq_true hm)
  rw [hv] at this; simp at this
/-- One heavy operation may come next. -/
theorem DH.heavy (h : Nat) (env : List (Nat × Value × Option Nat)) {o : Oper} {d : Nat} (hd : dagOk l = true) (ht : tailOk l m = true) (hq : dstsOk l m = true) (hcomp : complete l m V [h] = true) (ho : l[h]? = some o) (hod : o.dst = some d) (him : Nat.blt h m = true) (hnew : vget V h = none) (he : EnvOkV l σ V h env) (hrd : readersOk l V h = true)
    (hop:∀ ext:Env,TL F P S w0 n l.toArray (QB F P S w0 n l ds σ Q m V h d (envs env++ext)) [o] ds (envs env++ext) η):DH F P S w0 n l ds σ Q m V η :=
  DH.node [h] hd ht hq hcomp (fun h' hh=>by
    have:h'=h:=by simpa using hh
    subst this; exact ⟨o,d,env,ho,hod,him,hnew,he,hrd,hop⟩) (fun ha=>not_all him hnew ha)
/-- Two heavy operations may come next. -/
theorem DH.heavy2 {h1 h2:Nat} (hd:dagOk l=true) (ht:tailOk l m=true) (hq:dstsOk l m=true) (hcomp:complete l m V [h1,h2]=true) (b1:HB F P S w0 n l ds σ Q m V η h1) (b2:HB F P S w0 n l ds σ Q m V η h2):DH F P S w0 n l ds σ Q m V η :=
  DH.node [h1,h2] hd ht hq hcomp (fun h' hh=>by
    rcases List.mem_cons.1 hh with e | hh
    · subst e; exact b1
    · have:h'=h2:=by simpa using hh
      subst this; exact b2) (fun ha=>by obtain ⟨_,_,_,_,_,him,hnew,_⟩:=b1; exact not_all him hnew ha)
theorem T.drawH (m:Nat) {id:Nat} (hm:P.follows .mixedOrders=true) (h:DH F P S w0 n l ds σ Q m [] η):T F P S w0 n Q (.region id l.toArray true) ds σ η:=fun a w hk hh=>by
  refine wpIn_region_any hm ?_
  refine h (by simp) (by simp) (by simp) (by simp) _ _ a _ ?_ ?_
  · simp [List.countP_replicate]
  exact ⟨by simp,fun k hk=>by simp [Array.getElem?_replicate] at hk,by simp,fun k j _ hk=>by simp [Array.getElem?_replicate] at hk,hk.size,hk.defers,fun t v h1 _=>hk.slot t v h1,fun i v d hi=>by simp [Array.getElem?_replicate] at hi,hh.drew _⟩
end
end Go.Sl
/- Owned slices that begin behind the start of their block. -/
namespace Go.Sl
/-- An owned slice, from some place of its block on. -/
def OSx (e:TypeId) (sz:Nat) (v:Value) (n:Nat) (xs:List Value) (seg:Seg):Prop :=
  xs.length=n*sz∧((v = .slice none 0 0∧n=0∧seg=[]) ∨
    ∃ g o cap cur,v = .slice (some ⟨g,o,none⟩) n cap∧seg=[(g,.cells cur e (0,0))]∧n≤cap∧o+cap*sz≤cur.size∧(cur.toList.drop o).take (n*sz)=xs)
section
variable {P:Program} {S:Nat→Prop} {w0 w:World} {η:Heap}
end
section
variable {F:Fence} {P:Program} {S:Nat→Prop} {w0:World} {n:Nat} {Q:Exit→Act→World→Prop} {ds:List Deferred} {σ:Env} {η:Heap} {ops:Array Oper} {rest:List Oper} {d:Nat} {ty:TypeId} {pos:String} {af:Array Edge}
end
end Go.Sl
/- Blocks that are from now on only read; what arguments hold; the frame of a law. -/
namespace Go.Sl
section
variable {F:Fence} {P:Program} {S:Nat→Prop} {w0 w:World} {n:Nat} {Q:Exit→Act→World→Prop} {ds:List Deferred} {σ:Env} {η:Heap} {ops:Array Oper}
/-- From one view of memory to the next one, in which some owned blocks are only read. -/
structure Frz (S S':Nat→Prop) (w0 w1:World) (ηr:Heap):Prop where
  back:∀ η' w',Hp S' w1 η' w'→Hp S w0 (ηr++η') w'
  get:∀ a v,At S w0 ηr a v→At S' w1 [] a v

theorem frz_mk {ηr:Heap} (hh:Hp S w0 (ηr++η) w):Frz S (fun k=>S k∨k∈ηr.flatten.map (·.1)) w0 w ηr∧Hp (fun k=>S k∨k∈ηr.flatten.map (·.1)) w η w:=by
  have hon:=hh.once
  rw [List.flatten_append,List.map_append,List.nodup_append] at hon
  obtain ⟨n1,n2,n3⟩:=hon
  refine ⟨⟨fun η' w' h=>?_,fun a v h=>?_⟩,?_⟩
  · refine ⟨h.os.trans hh.os,h.tape.trans hh.tape,h.output.trans hh.output,Nat.le_trans hh.drawn h.drawn,Nat.le_trans hh.size h.size,fun k hk=>⟨(hh.same k hk).1,((h.same k (.inl hk)).2).trans (hh.same k hk).2⟩,fun p hp=>?_,?_⟩
    · rw [List.flatten_append,List.mem_append] at hp
      rcases hp with hp | hp
      · have h1:=hh.own p (by rw [List.flatten_append,List.mem_append]; exact .inl hp)
        exact ⟨((h.same p.1 (.inr (List.mem_map.2 ⟨p,hp,rfl⟩))).2).trans h1.1,h1.2⟩
      · have h1:=h.own p hp
        exact ⟨h1.1,fun hs=>h1.2 (.inl hs)⟩
    · rw [List.flatten_append,List.map_append,List.nodup_append]
      refine ⟨n1,h.once,fun a ha b hb hab=>?_⟩
      subst hab
      obtain ⟨p,hp,rfl⟩:=List.mem_map.1 hb
      exact (h.own p hp).2 (.inr ha)
  · cases h with
    | rd h hc =>
      refine .rd (.inl h) ?_
      have:=(hh.same _ h).2
      simp only [World.cell?,this] at hc ⊢
      exact hc
    | own seg hs cs e fz hp hc hsp =>
      have hm:(a.block,Obj.cells cs e fz)∈ηr.flatten:=List.mem_flatten.2 ⟨seg,hs,hp⟩
      have h1:=(hh.own _ (by rw [List.flatten_append,List.mem_append]; exact .inl hm)).1
      refine .rd (.inr (List.mem_map.2 ⟨_,hm,rfl⟩)) ?_
      simp only at h1
      simp [World.cell?,h1,hsp,hc]
  · refine ⟨rfl,rfl,rfl,Nat.le_refl _,Nat.le_refl _,fun k hk=>⟨?_,rfl⟩,fun p hp=>⟨(hh.own p (by rw [List.flatten_append,List.mem_append]; exact .inr hp)).1,?_⟩,n2⟩
    · rcases hk with hk | hk
      · exact Nat.lt_of_lt_of_le (hh.same k hk).1 hh.size
      · obtain ⟨p,hp,rfl⟩:=List.mem_map.1 hk
        exact hh.lt (by rw [List.flatten_append,List.mem_append]; exact .inl hp)
    · rintro (hs | hs)
      · exact (hh.own p (by rw [List.flatten_append,List.mem_append]; exact .inr hp)).2 hs
      · exact n3 _ hs _ (List.mem_map.2 ⟨p,hp,rfl⟩) rfl
/-- From here on the blocks of ηr are only read. -/
theorem T.freeze {c:Code} (ηr:Heap) {η2:Heap} (he:η=ηr++η2) (h:∀ S' w1,Frz S S' w0 w1 ηr→T F P S' w1 n Q c ds σ η2):T F P S w0 n Q c ds σ η:=fun a w hk hh=>by
  subst he
  obtain ⟨hz,h2⟩:=frz_mk hh
  exact h _ _ hz a w hk h2
theorem TL.freeze {l:List Oper} (ηr:Heap) {η2:Heap} (he:η=ηr++η2) (h:∀ S' w1,Frz S S' w0 w1 ηr→TL F P S' w1 n ops Q l ds σ η2):TL F P S w0 n ops Q l ds σ η:=fun a w hk hh=>by
  subst he
  obtain ⟨hz,h2⟩:=frz_mk hh
  exact h _ _ hz a w hk h2
theorem Frz.old {S':Nat→Prop} {w1:World} {ηr:Heap} (hz:Frz S S' w0 w1 ηr) {a:Addr} {v:Value} (h:At S w0 [] a v):At S' w1 [] a v:=hz.get a v (h.up (by simp))
theorem Row.frz {S':Nat→Prop} {w1:World} {ηr:Heap} {a:Option Addr} {cs:List Value} (h:Row S w0 ηr a cs) (hz:Frz S S' w0 w1 ηr):Row S' w1 [] a cs:=⟨h.ad,fun i v hi=>hz.get _ _ (h.cell i v hi)⟩
theorem Row.old {S':Nat→Prop} {w1:World} {ηr:Heap} {a:Option Addr} {cs:List Value} (h:Row S w0 [] a cs) (hz:Frz S S' w0 w1 ηr):Row S' w1 [] a cs:=⟨h.ad,fun i v hi=>hz.old (h.cell i v hi)⟩
/-- The view at the start of a function, and how one comes back to it. -/
def Back (S S':Nat→Prop) (w0 w1:World):Prop:=∀ η' w',Hp S' w1 η' w'→∃ η2,Hp S w0 η2 w'
theorem Back.refl (S:Nat→Prop) (w0:World):Back S S w0 w0:=fun η' _ h=>⟨η',h⟩
theorem Back.frz {S' S2:Nat→Prop} {w1 w2:World} {ηr:Heap} (h:Back S S' w0 w1) (hz:Frz S' S2 w1 w2 ηr):Back S S2 w0 w2:=fun _ _ h2=>h _ _ (hz.back _ _ h2)
/-- The end of a function whose result says nothing of memory. -/
theorem TQ.retsF {fn : Func} {S' : Nat → Prop} {w1 : World} (ts : List Nat) (vs : List Value) {v : Value} {R : Value → Heap → Prop} (hb : Back S S' w0 w1) (hr : fn.results = (ts.map ResultVar.tmp).toArray) (hv : lks σ ts = some vs) (he : retVal vs = v) (hR : ∀ η, R v η) :
    TQ S' w1 n (bodyPost P fn (post R S w0) .ret) [] σ η:=fun a w hk hh=>by
  obtain ⟨η2,h2⟩:=hb _ _ hh
  refine ⟨hk.defers,v,?_,v,η2,rfl,h2,hR _⟩
  rw [results_run hr hk (lks_map hv),retVal_eq,he]
end

/-! What arguments hold -/
section
open Go.ChangeShapes Go.WideShapes Go.Deep Go.RowKit
variable {H:Type} {enc:TypeId × Value→H} {P:Program} {W:World}
abbrev Old (W:World):Nat→Prop:=(· < W.heap.size)
theorem cell_lt {a:Addr} {v:Value} (h:W.cell? a=some v):a.block<W.heap.size∧a.spot=none:=by
  unfold World.cell? at h
  split at h
  · rename_i c e fz hb
    refine ⟨(Array.getElem?_eq_some_iff.1 hb).1,?_⟩
    cases hs:a.spot with
    | none=>rfl
    | some x=>simp [hs] at h
  · cases h
/-! The frame of a law: it answers true, and of what was there nothing has turned. -/
theorem calls_true {f:FuncId} {args:Array Value} (h:Rt P f args (Old W) W [] fun v _=>v = .bool true):Calls P f args W fun e W'=>e = .returned (.bool true)∧Below W.heap.size W W' :=
  (h W (Hp.start W)).mono fun _ _ ⟨v,_,h1,h2,h3⟩=>⟨by rw [h1,h3],h2.below⟩
theorem trodAll_below (hl : laidOutB P = true) {W' : World} (hb : Below W.heap.size W W') : ∀ {ts : List TypeId} {vs : List Value} {ds : List (DataW H)} {ps : List MemPlace}, (∀ t ∈ ts, P.readableRec t = true ∧ t < P.types.size) → (∀ x ∈ ps, x.block < W.heap.size) →
    DataW.TrodAll enc P W 0 (fun _=>true) true ts vs ds ps→DataW.TrodAll enc P W' 0 (fun b=>decide (b<W.heap.size)) true ts vs ds ps
  | [],vs,ds,ps,_,_,h=>by
    obtain ⟨rfl,rfl,rfl⟩:=trodAll_nil h
    exact h
  | t::ts,vs,ds,ps,hr,hlt,h=>by
    obtain ⟨v,vs',d,ds',p,q,rfl,rfl,rfl,h1,h2⟩:=trodAll_cons h
    have ht:=hr t List.mem_cons_self
    exact ⟨p,q,Below.trod hl ht.1 ht.2 h1 hb (fun x hx=>hlt x (by simp [hx])),trodAll_below hl hb (fun t h=>hr t (List.mem_cons_of_mem _ h)) (fun x hx=>hlt x (by simp [hx])) h2,rfl⟩
theorem law_post {f : Func} {s : ChangeSpec} (hl : laidOutB P = true) (hv : s.vars = []) (bt : TypeId) (hrt : f.resultTypes = #[bt]) (hbt : P.underlying bt = some .bool) {W' : World} {args : Array Value} {ds gs : List (DataW H)} {before : List MemPlace}
    (hW:DataW.Whole enc P f.params.toList s.vars false W args.toList ds gs before) (hfn:s.fn H ds={ results:=[.lit (.bool true)],args:=ds }) (hr:∀ t∈f.params.toList,P.readableRec t=true∧t<P.types.size) (hb:Below W.heap.size W W') :
    s.post enc P f false true false false W args (.bool true) W':=by
  have hlt:=fun p hp=>hW.lt p hp
  have hW2:=hW
  obtain ⟨p,q,h1,h2,rfl,_,_⟩:=hW
  rw [hv] at h2
  obtain ⟨rfl,rfl⟩:=trodVars_none h2
  have e:s.fn H (ds++[])={ results:=[.lit (.bool true)],args:=ds }:=by rw [List.append_nil]; exact hfn
  refine ⟨ds,[],_,[],p,[],hW2,?_,?_,?_,hb.frame _,fun h=>by cases h⟩
  · rw [e,hrt]
    exact trodAll_mk1 (shut_bool hbt true)
  · rw [e]
    exact trodAll_below hl hb hr (fun x hx=>hlt x (by simp [hx])) h1
  · rw [e,hv]; rfl
end
end Go.Sl
/- Some of the owned blocks, in whatever order; three operations that may come next; ends of a part. -/
namespace Go.Sl
section
variable {F:Fence} {P:Program} {S:Nat→Prop} {w0 w:World} {n:Nat} {Q:Exit→Act→World→Prop} {ds:List Deferred} {σ:Env} {η:Heap} {ops:Array Oper}
def distinctN:List Nat→Bool
  | []=>true
  | x::r=>r.all (fun y=>!Nat.beq x y) && distinctN r
def pickOk (idx:List Nat) (m:Nat):Bool:=distinctN idx && idx.all fun i=>Nat.blt i m
def pickL (idx:List Nat) (pre:Heap):Heap:=idx.map fun i=>pre.getD i []
theorem distinctN_spec:∀ {l:List Nat},distinctN l=true→l.Pairwise (· ≠ ·)
  | [],_=>List.Pairwise.nil
  | x::r,h=>by
    simp only [distinctN,Bool.and_eq_true,List.all_eq_true] at h
    refine List.pairwise_cons.2 ⟨fun y hy e=>?_,distinctN_spec h.2⟩
    have:=h.1 y hy
    rw [e] at this; simp at this
theorem Hp.pick {pre tail:Heap} (idx:List Nat) (ho:pickOk idx pre.length=true) (hh:Hp S w0 (pre++tail) w):Hp S w0 (pickL idx pre++tail) w:=by
  simp only [pickOk,Bool.and_eq_true,List.all_eq_true] at ho
  have hd:=distinctN_spec ho.1
  have hlt:∀ i∈idx,i<pre.length:=fun i hi=>Nat.le_of_ble_eq_true (ho.2 i hi)
  have hget:∀ i,i<pre.length→pre.getD i []∈pre:=fun i hi=>by
    rw [List.getD_eq_getElem?_getD,List.getElem?_eq_getElem hi]; exact List.getElem_mem hi
  have hmem:∀ s∈pickL idx pre,s∈pre:=fun s hs=>by
    obtain ⟨i,hi,rfl⟩:=List.mem_map.1 hs
    exact hget i (hlt i hi)
  refine hh.sub (fun p hp=>?_) ?_
  · obtain ⟨s,hs,hps⟩:=List.mem_flatten.1 hp
    refine List.mem_flatten.2 ⟨s,?_,hps⟩
    rcases List.mem_append.1 hs with h | h
    · exact List.mem_append_left _ (hmem s h)
    · exact List.mem_append_right _ h
  · have hon:=hh.once
    rw [List.map_flatten,List.map_append] at hon ⊢
    rw [List.Nodup,List.pairwise_flatten,List.pairwise_append] at hon ⊢
    obtain ⟨h1,h2,h3,h4⟩:=hon
    refine ⟨fun l hl=>h1 l ?_,?_,h3,fun a ha b hb=>h4 a ?_ b hb⟩
    · rcases List.mem_append.1 hl with h | h
      · obtain ⟨s,hs,rfl⟩:=List.mem_map.1 h
        exact List.mem_append_left _ (List.mem_map.2 ⟨s,hmem s hs,rfl⟩)
      · exact List.mem_append_right _ h
    · unfold pickL
      rw [List.map_map,List.pairwise_map]
      refine hd.imp_of_mem fun {i j} hi hj hne=>?_
      rw [List.pairwise_map,List.pairwise_iff_getElem] at h2
      have hi':=hlt i hi
      have hj':=hlt j hj
      have e1:pre.getD i []=pre[i]:=by rw [List.getD_eq_getElem?_getD,List.getElem?_eq_getElem hi']; rfl
      have e2:pre.getD j []=pre[j]:=by rw [List.getD_eq_getElem?_getD,List.getElem?_eq_getElem hj']; rfl
      simp only [Function.comp_apply,e1,e2]
      rcases Nat.lt_or_gt_of_ne hne with h | h
      · exact h2 i j hi' hj' h
      · exact fun x hx y hy e=>h2 j i hj' hi' h y hy x hx e.symm
    · obtain ⟨s,hs,rfl⟩:=List.mem_map.1 ha
      exact List.mem_map.2 ⟨s,hmem s hs,rfl⟩
theorem T.pick {c:Code} (idx:List Nat) (pre:Heap) {tail η':Heap} (he:η=pre++tail) (ho:pickOk idx pre.length=true) (hp:pickL idx pre++tail=η') (h:T F P S w0 n Q c ds σ η'):T F P S w0 n Q c ds σ η:=fun a w hk hh=>by
  subst he; subst hp; exact h a w hk (hh.pick idx ho)
/-- The same heap, in other words. -/
theorem TQ.heap {K:Act→World→Prop} {η':Heap} (he:η=η') (h:TQ S w0 n K ds σ η'):TQ S w0 n K ds σ η:=he ▸ h
theorem T.heap {c:Code} {η':Heap} (he:η=η') (h:T F P S w0 n Q c ds σ η'):T F P S w0 n Q c ds σ η:=he ▸ h
theorem TL.heap {l:List Oper} {η':Heap} (he:η=η') (h:TL F P S w0 n ops Q l ds σ η'):TL F P S w0 n ops Q l ds σ η:=he ▸ h
/-- Three heavy operations may come next. -/
theorem DH.heavy3 {l:List Oper} {m:Nat} {V:VL} {h1 h2 h3:Nat} (hd:dagOk l=true) (ht:tailOk l m=true) (hq:dstsOk l m=true) (hcomp:complete l m V [h1,h2,h3]=true) (b1:HB F P S w0 n l ds σ Q m V η h1) (b2:HB F P S w0 n l ds σ Q m V η h2) (b3:HB F P S w0 n l ds σ Q m V η h3):DH F P S w0 n l ds σ Q m V η :=
  DH.node [h1,h2,h3] hd ht hq hcomp (fun h' hh=>by
    rcases List.mem_cons.1 hh with e | hh
    · subst e; exact b1
    · rcases List.mem_cons.1 hh with e | hh
      · subst e; exact b2
      · have:h'=h3:=by simpa using hh
        subst this; exact b3) (fun ha=>by obtain ⟨_,_,_,_,_,him,hnew,_⟩:=b1; exact not_all him hnew ha)
/-- An owned slice that is not empty: its block; and a cell of it that is written. -/
theorem OSl.ex {e:TypeId} {sz k:Nat} {v:Value} {xs:List Value} {seg:Seg} (h:OSl e sz v k xs seg) (hk:0<k):∃ g cap cur,v = .slice (some ⟨g,0,none⟩) k cap∧seg=[(g,.cells cur e (0,0))]∧k*sz≤cur.size:=by
  rcases h.2 with ⟨_,h0,_⟩ | ⟨g,cap,cur,hv,hs,hc,hz,_⟩
  · omega
  · exact ⟨g,cap,cur,hv,hs,by rw [hz]; exact Nat.mul_le_mul_right _ hc⟩
theorem OSl.put {e:TypeId} {sz k g cap j:Nat} {cur:Array Value} {xs:List Value} {u:Value} (h:OSl e sz (.slice (some ⟨g,0,none⟩) k cap) k xs [(g,.cells cur e (0,0))]):OSl e sz (.slice (some ⟨g,0,none⟩) k cap) k (xs.set j u) [(g,.cells (cur.setIfInBounds j u) e (0,0))]:=by
  refine ⟨by rw [List.length_set]; exact h.1,?_⟩
  rcases h.2 with ⟨h0,_⟩ | ⟨g',cap',cur',hv,hs,hc,hz,ht⟩
  · cases h0
  · simp only [Value.slice.injEq,Option.some.injEq,Addr.mk.injEq,and_true,true_and] at hv
    obtain ⟨rfl,rfl⟩:=hv
    simp only [List.cons.injEq,Prod.mk.injEq,Obj.cells.injEq,true_and,and_true] at hs
    subst hs
    refine .inr ⟨g,cap,_,rfl,rfl,hc,by simpa using hz,?_⟩
    rw [Array.toList_setIfInBounds,List.take_set,ht]
end
section
open Go.ChangeShapes Go.WideShapes Go.Deep Go.RowKit
variable {H:Type} {enc:TypeId × Value→H} {P:Program} {W:World}
end
end Go.Sl
/- Maps: an entry of a literal; an entry that is taken away. -/
namespace Go.Sl
section
variable {F:Fence} {P:Program} {S:Nat→Prop} {w0 w:World} {n:Nat} {Q:Exit→Act→World→Prop} {ds:List Deferred} {σ:Env} {η:Heap} {ops:Array Oper} {rest:List Oper} {ty:TypeId} {pos:String} {af:Array Edge}
end
end Go.Sl
/- Maps: an entry that is reached, and then written (m[k], x = v, y). -/
namespace Go.Sl
section
variable {F:Fence} {P:Program} {S:Nat→Prop} {w0 w:World} {n:Nat} {Q:Exit→Act→World→Prop} {ds:List Deferred} {σ:Env} {η:Heap} {ops:Array Oper} {rest:List Oper} {ty:TypeId} {pos:String} {af:Array Edge}
/-- The entry of a key, by its stamp. -/
def EntOk {α β:Type} [DecidableEq α] (k:α) (m:List (α × β)) (es:Array MapEntry) (born:Nat):Prop:=∃ i e,es.toList[i]?=some e∧e.born=born∧fidx k (m.map (·.1))=some i
end
section
variable {F:Fence} {P:Program} {S:Nat→Prop} {w0 w:World} {n:Nat} {Q:Exit→Act→World→Prop} {l:List Oper} {ds:List Deferred} {σ:Env} {η:Heap} {m:Nat} {V:VL}
def QBN (F:Fence) (P:Program) (S:Nat→Prop) (w0:World) (n:Nat) (l:List Oper) (ds:List Deferred) (σ:Env) (Q:Exit→Act→World→Prop) (m:Nat) (V:VL) (h:Nat) (σ':Env):Exit→Act→World→Prop
  | .normal,a,w=>∃ η',Kn n ds σ' a∧Hp S w0 η' w∧DH F P S w0 n l ds σ Q m ((h,undef,2)::execV V) η'
  | e,a,w=>Q e a w
theorem InvD.putN {V' : VL} {η' : Heap} {L : Array Bool} {a a' : Act} {w' : World} (hi : InvD S w0 n l ds σ V η L a w) {i : Nat} (hL : L[i]? = some false) (hready : ∀ j, waits l i j = true → L[j]? = some true)
    (hV:∀ j u,vget V j=some u→vget V' j=some u) (hV':∀ j u,j≠i→vget V' j=some u→vget V j=some u) (hvi:(vget V' i).isSome=true) (hdi:dstOf l i=none)
    (hdone:∀ j u,(j,u,2)∈V'→j=i∨L[j]?=some true)
    (hs:a'.tmps.size=n) (hds:a'.defers=ds) (ho:∀ (t:Nat) (u:Value),a.tmps[t]?=some u→a'.tmps[t]?=some u) (hh:Hp S w0 η' w'):InvD S w0 n l ds σ V' η' (L.setIfInBounds i true) a' w':=by
  have hil:=(Array.getElem?_eq_some_iff.1 hL).1
  have hset:∀ k,(L.setIfInBounds i true)[k]?=some true↔k=i∨L[k]?=some true:=by
    intro k
    rw [Array.getElem?_setIfInBounds]
    by_cases e:i=k
    · subst e; simp [hil]
    · rw [if_neg e]
      constructor
      · exact .inr
      · rintro (h | h)
        · exact absurd h.symm e
        · exact h
  refine ⟨by simp [hi.size],?_,?_,?_,hs,hds,?_,?_,hh⟩
  · intro k hk
    rcases (hset k).1 hk with e | hk
    · subst e; exact hvi
    · have:=hi.dom k hk
      cases hv:vget V k with
      | none=>simp [hv] at this
      | some u=>rw [hV k u hv]; rfl
  · intro j u hj
    rcases hdone j u hj with e | h
    · exact (hset j).2 (.inl e)
    · exact (hset j).2 (.inr h)
  · intro k j hw hk
    rcases (hset k).1 hk with e | hk
    · subst e; exact (hset j).2 (.inr (hready j hw))
    · exact (hset j).2 (.inr (hi.down k j hw hk))
  · intro t u ht hno
    exact ho t u (hi.old t u ht fun k hk=>hno k ((hset k).2 (.inr hk)))
  · intro j u d' hj hv hd'
    rcases (hset j).1 hj with e | hj2
    · subst e; rw [hdi] at hd'; cases hd'
    · have hji:j≠i:=fun e=>by subst e; rw [hL] at hj2; cases hj2
      exact ho d' u (hi.new j u d' hj2 (hV' j u hji hv) hd')
theorem run_oneN {L : Array Bool} {a : Act} {i : Nat} {o : Oper} {env : List (Nat × Value × Option Nat)} {QO : Env → Exit → Act → World → Prop} (hi : InvD S w0 n l ds σ V η L a w) (hL : L[i]? = some false) (hready : ∀ j, waits l i j = true → L[j]? = some true) (ho : l[i]? = some o) (henv : EnvOkV l σ V i env)
    (hop:∀ ext:Env,TL F P S w0 n l.toArray (QO (envs env++ext)) [o] ds (envs env++ext) η) :
    wpOpIn F 0 P l.toArray (QO (envs env++fullEnv a)) i (fun a' w'=>QO (envs env++fullEnv a) .normal a' w') a w∧(∀ a':Act,Kn n ds (envs env++fullEnv a) a'→∀ (t:Nat) (u:Value),a.tmps[t]?=some u→a'.tmps[t]?=some u):=by
  have hke:∀ t v,lk (envs env) t=some v→a.tmps[t]?=some v:=hi.env hL hready henv
  have hkn:Kn n ds (envs env++fullEnv a) a:=⟨hi.tsize,hi.defers,fun t v htv=>by
    rcases lk_append htv with h5 | ⟨_,h5⟩
    · exact hke t v h5
    · exact lk_full a t v h5⟩
  have h6:=hop (fullEnv a) a w hkn hi.hp
  rw [wpListIn_one (i:=i) (by simp [ho])] at h6
  refine ⟨wpOpIn_mono (fun a' w' hx=>hx) h6,fun a' hk' t u htu=>?_⟩
  refine hk'.slot t u ?_
  have hfull:lk (fullEnv a) t=some u:=by
    have:=lk_full' a.tmps.toList 0 t u (by simpa using htu)
    simpa [fullEnv] using this
  have happ:∀ (e1:Env),(∀ v,lk e1 t=some v→v=u)→lk (e1++fullEnv a) t=some u:=by
    intro e1
    induction e1 with
    | nil=>intro _; exact hfull
    | cons p r ihr =>
      obtain ⟨s,v⟩:=p
      intro hv
      rw [List.cons_append,lk_cons]
      by_cases hst:s=t
      · rw [if_pos hst,hv v (by rw [lk_cons,if_pos hst])]
      · rw [if_neg hst]; exact ihr fun v' hv'=>hv v' (by rw [lk_cons,if_neg hst]; exact hv')
  exact happ _ fun v hv=>by
    have:=hke t v hv
    rw [htu] at this; cases this; rfl
end
end Go.Sl
/- Words of 32 bits: the low bits of a number; remainders; truths that differ. -/
namespace Go.Sl
section
variable {F:Fence} {P:Program} {S:Nat→Prop} {w0 w:World} {n:Nat} {Q:Exit→Act→World→Prop} {ds:List Deferred} {σ:Env} {η:Heap} {ops:Array Oper} {rest:List Oper} {ty:TypeId} {pos:String} {af:Array Edge} {d:Nat}
theorem TL.remI (hF : Open F) {xt yt : TypeId} {x y : Operand} {k : IntKind} {a b : Int} (hx : ev σ x = some (.int k a)) (hy : ev σ y = some (.int k b)) (hb : b ≠ 0) (hn : Nat.blt d n = true)
    (h:TL F P S w0 n ops Q rest ds ((d,.int k (Int.tmod a b))::σ) η):TL F P S w0 n ops Q (⟨some d,.binOp .rem xt x y yt,ty,pos,af,none⟩::rest) ds σ η :=
  TL.pure hF (by intro c; simp) hn (fun c w hk _=>by
    have hb':(Op.intDiv .rem k a b).run P w = .ok (.int k (Int.tmod a b)) w:=by
      unfold Op.intDiv
      rw [if_neg hb]
      simp only [Sem.run_pure]
    simp [execOp,hk.ev hx,hk.ev hy,eqGuard,binOp,hb']) h
theorem TL.neqB (hF : Open F) {xt yt : TypeId} [hu : Und P xt .bool] {x y : Operand} {a b : Bool} (hx : ev σ x = some (.bool a)) (hy : ev σ y = some (.bool b)) (hn : Nat.blt d n = true)
    (h:TL F P S w0 n ops Q rest ds ((d,.bool (a != b))::σ) η):TL F P S w0 n ops Q (⟨some d,.binOp .neq xt x y yt,ty,pos,af,none⟩::rest) ds σ η :=
  TL.pure hF (by intro c; simp) hn (fun c w hk _=>by
    have he:(Op.equalIn Op.maxDepth xt (.bool a) (.bool b)).run P w = .ok (a == b) w:=run_equalIn_bool' w 9999 xt a b hu.eq
    simp [execOp,hk.ev hx,hk.ev hy,eqGuard,binOp,Op.equal,he,bne]) h
/-- Structs of scalars are the same if all fields are. -/
def AllF (P:Program) (w:World) (e:Nat) (xs ys:Array Value):List Field→List (Value × Value × Bool)→Prop
  | [],[]=>True
  | f :: fs, p :: ps => (f.name ≠ "_" ∧ (part f.type xs f.offset).run P w = .ok p.1 w ∧ (part f.type ys f.offset).run P w = .ok p.2.1 w ∧ (Op.equalIn e f.type p.1 p.2.1).run P w = .ok p.2.2 w) ∧ AllF P w e xs ys fs ps
  | _,_=>False
theorem run_eqFields_all {e:Nat} {xs ys:Array Value}:∀ (fs:List Field) (ps:List (Value × Value × Bool)),AllF P w e xs ys fs ps→(Op.eqFields e xs ys fs).run P w = .ok (ps.all (·.2.2)) w
  | [],[],_=>rfl
  | [],_::_,h=>h.elim
  | _::_,[],h=>h.elim
  | f::fs,p::ps,h=>by
    obtain ⟨⟨h1,h2,h3,h4⟩,hr⟩:=h
    have ih:=run_eqFields_all fs ps hr
    simp only [Op.eqFields,ne_eq,h1,not_false_eq_true,if_true,Sem.run_bind,h2,h3,h4,Result.andThen_ok,List.all_cons]
    cases p.2.2 with
    | true=>simpa using ih
    | false=>rfl
theorem TL.eqlA (hF : Open F) {xt yt : TypeId} {x y : Operand} {xa xb : Array Value} {r : Bool} (hx : ev σ x = some (.agg xa)) (hy : ev σ y = some (.agg xb)) (hg : P.eqGuardType P.depth xt = false) (hr : ∀ w, (Op.equal xt (.agg xa) (.agg xb)).run P w = .ok r w) (hn : Nat.blt d n = true)
    (h:TL F P S w0 n ops Q rest ds ((d,.bool r)::σ) η):TL F P S w0 n ops Q (⟨some d,.binOp .eql xt x y yt,ty,pos,af,none⟩::rest) ds σ η :=
  TL.pure hF (by intro c; simp) hn (fun c w hk _=>by
    have:=hr w
    simp [execOp,hk.ev hx,hk.ev hy,eqGuard,binOp,this,hg]) h
end
end Go.Sl
/- Regions that draw their order: heavy operations behind which some reads are still to come; with or without a slot. What is frozen, thawed. -/
namespace Go.Sl
section
variable {F:Fence} {P:Program} {S S':Nat→Prop} {w0 w w1:World} {n:Nat} {Q:Exit→Act→World→Prop} {l:List Oper} {ds:List Deferred} {σ:Env} {η ηr:Heap} {m:Nat} {V:VL}
theorem TQ.thaw {K:Act→World→Prop} (hz:Frz S S' w0 w1 ηr) (h:TQ S w0 n K ds σ (ηr++η)):TQ S' w1 n K ds σ η:=fun a w hk hh=>h a w hk (hz.back _ _ hh)
def inL (k:Nat) (ks:List Nat):Bool:=ks.any (Nat.beq k)
theorem inL_iff {k:Nat} {ks:List Nat}:inL k ks=true↔k∈ks:=by
  unfold inL
  rw [List.any_eq_true]
  constructor
  · rintro ⟨x,hx,he⟩; rw [Nat.eq_of_beq_eq_true he]; exact hx
  · exact fun h=>⟨k,h,by simp⟩
/-- Reads that are still to come stay; the others are carried out. -/
def keepV (ks:List Nat) (V:VL):VL:=V.map fun x=>(x.1,x.2.1,bif Nat.beq x.2.2 1 then (bif inL x.1 ks then 1 else 2) else x.2.2)
theorem vget_keep (ks:List Nat):∀ (V:VL) (j:Nat),vget (keepV ks V) j=vget V j
  | [],_=>rfl
  | (i,v,k)::r,j=>by
    have:=vget_keep ks r j
    show vget ((i,v,_)::keepV ks r) j=_
    rw [vget_cons,vget_cons,this]
def readersOkK (l:List Oper) (V:VL) (h:Nat) (ks:List Nat):Bool:=V.all fun x=>!Nat.beq x.2.2 1 || inL x.1 ks || (waits l h x.1 || waitsT l l.length h x.1)
/-- What is asked of the reads that stay. -/
def KeepQ (F:Fence) (P:Program) (S:Nat→Prop) (w0:World) (n:Nat) (l:List Oper) (ds:List Deferred) (σ:Env) (V:VL) (η:Heap):List Nat→Prop
  | []=>True
  | k::r=>(∃ u,vget V k=some u∧QSV F P S w0 n l ds σ V η k u)∧KeepQ F P S w0 n l ds σ V η r
theorem KeepQ.get:∀ {ks:List Nat},KeepQ F P S w0 n l ds σ V η ks→∀ k∈ks,∀ u,vget V k=some u→QSV F P S w0 n l ds σ V η k u
  | [],_,k,h,_,_=>by simp at h
  | k0::r,h,k,hk,u,hu=>by
    rcases List.mem_cons.1 hk with e | hk
    · subst e
      obtain ⟨u',h1,h2⟩:=h.1
      rw [hu] at h1; cases h1; exact h2
    · exact KeepQ.get h.2 k hk u hu
def putO:Option Nat→Value→Env→Env
  | some d,v,σ=>(d,v)::σ
  | none,_,σ=>σ
def QBK (F:Fence) (P:Program) (S:Nat→Prop) (w0:World) (n:Nat) (l:List Oper) (ds:List Deferred) (σ:Env) (Q:Exit→Act→World→Prop) (m:Nat) (V:VL) (h:Nat) (od:Option Nat) (ks:List Nat) (σ':Env):Exit→Act→World→Prop
  | .normal,a,w=>∃ v η',Kn n ds (putO od v σ') a∧Hp S w0 η' w∧KeepQ F P S w0 n l ds σ V η' ks∧DH F P S w0 n l ds σ Q m ((h,v,2)::keepV ks V) η'
  | e,a,w=>Q e a w
theorem TL.finK {h d:Nat} {σ':Env} {v:Value} {ops:Array Oper} {ks:List Nat} (hq:KeepQ F P S w0 n l ds σ V η ks) (hd:DH F P S w0 n l ds σ Q m ((h,v,2)::keepV ks V) η):TL F P S w0 n ops (QBK F P S w0 n l ds σ Q m V h (some d) ks σ') [] ds ((d,v)::σ') η:=TL.nil fun _ _ hk hh=>⟨v,η,hk,hh,hq,hd⟩
/-- A heavy operation that may come next. -/
def HBK (F:Fence) (P:Program) (S:Nat→Prop) (w0:World) (n:Nat) (l:List Oper) (ds:List Deferred) (σ:Env) (Q:Exit→Act→World→Prop) (m:Nat) (V:VL) (η:Heap) (h:Nat):Prop :=
  ∃ ks o env,l[h]?=some o∧Nat.blt h m=true∧vget V h=none∧EnvOkV l σ V h env∧readersOkK l V h ks=true∧∀ ext:Env,TL F P S w0 n l.toArray (QBK F P S w0 n l ds σ Q m V h o.dst ks (envs env++ext)) [o] ds (envs env++ext) η
theorem HBK.mk {h : Nat} (ks : List Nat) (env : List (Nat × Value × Option Nat)) {o : Oper} (ho : l[h]? = some o) (him : Nat.blt h m = true) (hnew : vget V h = none) (he : EnvOkV l σ V h env) (hrd : readersOkK l V h ks = true)
    (hop:∀ ext:Env,TL F P S w0 n l.toArray (QBK F P S w0 n l ds σ Q m V h o.dst ks (envs env++ext)) [o] ds (envs env++ext) η):HBK F P S w0 n l ds σ Q m V η h:=⟨ks,o,env,ho,him,hnew,he,hrd,hop⟩
/-- A node: the heavy operations that may come next. -/
theorem DH.nodeK (hs:List Nat) (hd:dagOk l=true) (ht:tailOk l m=true) (hq:dstsOk l m=true) (hcomp:complete l m V hs=true) (hbr:∀ h∈hs,HBK F P S w0 n l ds σ Q m V η h) (hne:hs≠[]):DH F P S w0 n l ds σ Q m V η:=by
  have hleaf:(∀ i,i<m→(vget V i).isSome=true)→TL F P S w0 n l.toArray Q (l.drop m) ds (allEnvV l V σ) η:=fun ha=>by
    cases hs with
    | nil=>exact absurd rfl hne
    | cons h r =>
      obtain ⟨_,_,_,_,him,hnew,_⟩:=hbr h List.mem_cons_self
      exact not_all him hnew ha
  intro hn h0 h1 hk
  have hml:m≤l.length:=by
    simp only [dstsOk,Bool.and_eq_true] at hq
    exact Nat.le_of_ble_eq_true hq.1
  have hdom:∀ j,(vget V j).isSome=true→j<m:=by
    intro j hj
    cases hv:vget V j with
    | none=>simp [hv] at hj
    | some u=>obtain ⟨k,hm⟩:=vget_mem hv; exact (hk j u k hm).1
  have last:∀ (f:Nat) (L:Array Bool) (a:Act) (w:World),L.toList.countP (· == false)=f→InvD S w0 n l ds σ V η L a w→(∀ k,k<m→L[k]?=some true)→wpAnyIn F 0 P .any l.toArray Q f L a w:=by
    intro f L a w hc hi hall
    have hsz:=hi.size
    have hLq:∀ k,L[k]?=some true→k<m:=fun k hk'=>hdom k (hi.dom k hk')
    have hL:∀ j,j<l.length→L[j]?=some (decide (j<m)):=fun j hj=>by
      by_cases h1:j<m
      · rw [hall j h1]; simp [h1]
      · have hj':j<L.size:=by omega
        have:L[j]?≠some true:=fun e=>h1 (hLq j e)
        simp only [hj',Array.getElem?_eq_getElem] at this ⊢
        cases h4:L[j] with
        | true=>rw [h4] at this; exact absurd rfl this
        | false=>simp [h1]
    have hLeq:L.toList=List.replicate m true++List.replicate (l.length - m) false:=by
      apply List.ext_getElem?
      intro j
      rw [Array.getElem?_toList]
      by_cases hj:j<l.length
      · rw [hL j hj]
        by_cases h1:j<m
        · rw [List.getElem?_append_left (by simpa using h1)]; simp [h1]
        · rw [List.getElem?_append_right (by simpa using h1)]
          rw [List.getElem?_replicate,List.length_replicate,if_pos (by omega)]
          simp [h1]
      · rw [Array.getElem?_eq_none (by omega),List.getElem?_eq_none (by simp; omega)]
    have hf:m+f=l.length:=by
      rw [hLeq] at hc
      simp [List.countP_append,List.countP_replicate] at hc
      omega
    refine any_tail hd ht f m L a w hf (Nat.le_refl _) hsz hL (hleaf (fun i him=>hi.dom i (hall i him)) a w ⟨hi.tsize,hi.defers,fun t v htv=>?_⟩ hi.hp)
    have hmem:∀ t v,(t,v)∈(V.filterMap fun x=>(dstOf l x.1).map fun d=>(d,x.2.1))→∃ i,vget V i=some v∧dstOf l i=some t:=by
      intro t v h
      obtain ⟨⟨i,u,k⟩,h1,h2⟩:=List.mem_filterMap.1 h
      simp only [Option.map_eq_some_iff,Prod.mk.injEq] at h2
      obtain ⟨d,hd,rfl,rfl⟩:=h2
      exact ⟨i,mem_vget hn h1,hd⟩
    rcases lk_append htv with h5 | ⟨h5,h6⟩
    · obtain ⟨i,h3,h4⟩:=hmem t v (lk_mem h5)
      exact hi.new i v t (hall i (hdom i (by rw [h3]; rfl))) h3 h4
    · refine hi.old t v h6 fun k hk1 hk2=>?_
      have hkv:=hi.dom k hk1
      cases hv:vget V k with
      | none=>simp [hv] at hkv
      | some u =>
        obtain ⟨kk,hm⟩:=vget_mem hv
        refine lk_none h5 u (List.mem_filterMap.2 ⟨(k,u,kk),hm,by simp [hk2]⟩)
  intro f
  induction f with
  | zero =>
    intro L a w hc hi
    refine last 0 L a w hc hi (fun j hj=>?_)
    have hsz:=hi.size
    have hj':j<L.size:=by omega
    rw [List.countP_eq_zero] at hc
    have:=hc L[j] (by simp)
    simp at this
    simp [hj',this]
  | succ f ih =>
    intro L a w hc hi
    have hsz:=hi.size
    by_cases hall:∀ k,k<m→L[k]?=some true
    · exact last (f+1) L a w hc hi hall
    · simp only [Classical.not_forall] at hall
      obtain ⟨j,hj,hjn⟩:=hall
      have hjL:L[j]?=some false:=by
        have hj':j<L.size:=by omega
        simp only [hj',Array.getElem?_eq_getElem] at hjn ⊢
        cases h4:L[j] with
        | true=>rw [h4] at hjn; exact absurd rfl hjn
        | false=>rfl
      refine ⟨fun he=>by
        obtain ⟨i,hi'⟩:=ready_ex hd hsz j hjL
        rw [he] at hi'; simp at hi',fun i hir=>?_⟩
      obtain ⟨hLi,hready⟩:=mem_ready hsz hir
      have hilt:=(Array.getElem?_eq_some_iff.1 hLi).1
      have him:i<m:=by
        rcases Nat.lt_or_ge i m with h3 | h3
        · exact h3
        · have:L[j]?=some true:=by
            simp only [tailOk,List.all_eq_true,List.mem_range,Bool.or_eq_true] at ht
            rcases ht i (by omega) with h4 | h4
            · have:i<m:=Nat.le_of_ble_eq_true h4
              omega
            · rcases h4 j (by omega) with h5 | h5
              · exact hready j h5
              · exact waitsT_done hi.down _ i j hready h5
          rw [hjL] at this; cases this
      have hcnt:(L.setIfInBounds i true).toList.countP (· == false)=f:=by
        rw [Array.toList_setIfInBounds,List.countP_set (by simpa using hilt)]
        have h7:L.toList[i]'(by simpa using hilt)=false:=by
          have:=(Array.getElem?_eq_some_iff.1 hLi).2
          simpa using this
        rw [h7,hc]; simp
      simp only [complete,List.all_eq_true,List.mem_range,Bool.or_eq_true] at hcomp
      rcases hcomp i him with (hv | hv) | hv
      · -- a quiet one
        cases hvi:vget V i with
        | none=>simp [hvi] at hv
        | some v =>
          obtain ⟨k,hmem⟩:=vget_mem hvi
          have hqs:QSV F P S w0 n l ds σ V η i v:=by
            rcases (hk i v k hmem).2 with e | e | e
            · subst e; exact h0 i v hmem η
            · subst e; exact h1 i v hmem
            · subst e; have:=hi.done i v hmem; rw [hLi] at this; cases this
          obtain ⟨o,d,env,ho,hod,henv,hop⟩:=hqs
          have hdi:dstOf l i=some d:=by simp [dstOf,ho,hod]
          obtain ⟨hrun,hfr⟩:=run_one (d:=d) (QO:=fun σ'=>Fin S w0 n ds η ((d,v)::σ')) hi hLi hready ho henv hop
          refine wpOpIn_monoQ (fun a' w' hx=>?_) (fun e a' w' hne hx=>by cases e <;> first | exact absurd rfl hne | exact hx.elim) hrun
          obtain ⟨hk',hh'⟩:=(show Kn n ds ((d,v)::(envs env++fullEnv a)) a'∧Hp S w0 η w' from hx)
          exact ih _ a' w' hcnt (hi.put hq him hLi hready (fun _ _ h=>h) (fun _ _ _ h=>h) hvi hdom hdi (fun j u hm=>.inr (hi.done j u hm)) hk'.size hk'.defers (hfr v a' hk').1 (hfr v a' hk').2 hh')
      · -- a heavy one
        have hih:i∈hs:=by
          obtain ⟨x,hx,he⟩:=List.any_eq_true.1 hv
          have:i=x:=Nat.eq_of_beq_eq_true he
          rw [this]; exact hx
        obtain ⟨ks,o,env,ho,_,hnew,henv,hrd,hop⟩:=hbr i hih
        have hext:∀ (v:Value) j u,vget V j=some u→vget ((i,v,2)::keepV ks V) j=some u:=by
          intro v j u hj
          rw [vget_cons,vget_keep]
          by_cases e:i=j
          · subst e; rw [hnew] at hj; cases hj
          · rw [if_neg e]; exact hj
        have hex:∀ j u k,(j,u,k)∈keepV ks V→∃ k0,(j,u,k0)∈V∧((k0=1∧j∈ks∧k=1)∨(k0=1∧j ∉ ks∧k=2)∨(k0≠1∧k=k0)):=by
          intro j u k hm
          obtain ⟨⟨j0,u0,k0⟩,hx0,he⟩:=List.mem_map.1 hm
          simp only [Prod.mk.injEq] at he
          obtain ⟨rfl,rfl,hke⟩:=he
          refine ⟨k0,hx0,?_⟩
          by_cases e:k0=1
          · subst e
            rw [show Nat.beq 1 1=true from rfl,cond_true] at hke
            cases hin:inL j0 ks with
            | true=>rw [hin] at hke; left; exact ⟨rfl,inL_iff.1 hin,hke.symm⟩
            | false =>
              rw [hin] at hke; right; left
              exact ⟨rfl,(fun h=>by rw [inL_iff.2 h] at hin; cases hin),hke.symm⟩
          · right; right
            have:Nat.beq k0 1=false:=by
              cases hb:Nat.beq k0 1
              · rfl
              · exact absurd (Nat.eq_of_beq_eq_true hb) e
            rw [this] at hke; exact ⟨e,hke.symm⟩
        have hmapf:(keepV ks V).map (·.1)=V.map (·.1):=by simp [keepV,Function.comp_def]
        have fin:∀ (v:Value) (η':Heap) (a':Act) (w':World),KeepQ F P S w0 n l ds σ V η' ks→DH F P S w0 n l ds σ Q m ((i,v,2)::keepV ks V) η'→InvD S w0 n l ds σ ((i,v,2)::keepV ks V) η' (L.setIfInBounds i true) a' w'→wpAnyIn F 0 P .any l.toArray Q f (L.setIfInBounds i true) a' w':=by
          intro v η' a' w' hkq hdh hinv
          refine hdh ?_ ?_ ?_ ?_ f _ a' w' hcnt hinv
          · rw [List.map_cons,hmapf]
            refine List.nodup_cons.2 ⟨fun hm=>?_,hn⟩
            obtain ⟨⟨j0,u0,k0⟩,hx0,he⟩:=List.mem_map.1 hm
            simp only at he; subst he
            have:=mem_vget hn hx0
            rw [hnew] at this; cases this
          · intro j u hm η2
            rcases List.mem_cons.1 hm with e | hm
            · cases e
            · obtain ⟨k0,hx0,h2 | h2 | h2⟩:=hex j u 0 hm
              · exact absurd h2.2.2 (by decide)
              · exact absurd h2.2.2 (by decide)
              · rw [← h2.2] at hx0; exact (h0 j u hx0 η2).ext (hext v)
          · intro j u hm
            rcases List.mem_cons.1 hm with e | hm
            · cases e
            · obtain ⟨k0,hx0,h2 | h2 | h2⟩:=hex j u 1 hm
              · exact (hkq.get j h2.2.1 u (mem_vget hn hx0)).ext (hext v)
              · exact absurd h2.2.2 (by decide)
              · exact absurd h2.2.symm h2.1
          · intro j u k hm
            rcases List.mem_cons.1 hm with e | hm
            · cases e; exact ⟨him,.inr (.inr rfl)⟩
            · obtain ⟨k0,hx0,h2 | h2 | h2⟩:=hex j u k hm
              · exact ⟨(hk j u k0 hx0).1,.inr (.inl h2.2.2)⟩
              · exact ⟨(hk j u k0 hx0).1,.inr (.inr h2.2.2)⟩
              · rw [h2.2]; exact hk j u k0 hx0
        have hV':∀ (v:Value) j u,j≠i→vget ((i,v,2)::keepV ks V) j=some u→vget V j=some u:=by
          intro v j u hji hv2
          rw [vget_cons,if_neg (fun e=>hji e.symm),vget_keep] at hv2; exact hv2
        have hdn:∀ (v:Value) j u,(j,u,2)∈(i,v,2)::keepV ks V→j=i∨L[j]?=some true:=by
          intro v j u hm
          rcases List.mem_cons.1 hm with e | hm
          · cases e; exact .inl rfl
          · obtain ⟨k0,hx0,h2 | h2 | h2⟩:=hex j u 2 hm
            · exact absurd h2.2.2 (by decide)
            · right
              simp only [readersOkK,List.all_eq_true] at hrd
              have h3:=hrd (j,u,k0) hx0
              simp only [h2.1,Bool.or_eq_true,Bool.not_eq_true',inL_iff] at h3
              rcases h3 with (h3 | h3) | h3 | h3
              · simp at h3
              · exact absurd h3 h2.2.1
              · exact hready j h3
              · exact waitsT_done hi.down _ i j hready h3
            · right; rw [← h2.2] at hx0; exact hi.done j u hx0
        cases hod:o.dst with
        | some d =>
          rw [hod] at hop
          have hdi:dstOf l i=some d:=by simp [dstOf,ho,hod]
          obtain ⟨hrun,hfr⟩:=run_one (d:=d) (QO:=fun σ'=>QBK F P S w0 n l ds σ Q m V i (some d) ks σ') hi hLi hready ho henv hop
          refine wpOpIn_monoQ (fun a' w' hx=>?_) (fun e a' w' hne hx=>by cases e <;> first | exact absurd rfl hne | exact hx) hrun
          obtain ⟨v,η',hk',hh',hkq,hdh⟩:=(show ∃ v η',Kn n ds ((d,v)::(envs env++fullEnv a)) a'∧Hp S w0 η' w'∧KeepQ F P S w0 n l ds σ V η' ks∧DH F P S w0 n l ds σ Q m ((i,v,2)::keepV ks V) η' from hx)
          exact fin v η' a' w' hkq hdh (hi.put hq him hLi hready (hext v) (hV' v) (by rw [vget_cons,if_pos rfl]) hdom hdi (hdn v) hk'.size hk'.defers (hfr v a' hk').1 (hfr v a' hk').2 hh')
        | none =>
          rw [hod] at hop
          have hdi:dstOf l i=none:=by simp [dstOf,ho,hod]
          obtain ⟨hrun,hfr⟩:=run_oneN (QO:=fun σ'=>QBK F P S w0 n l ds σ Q m V i none ks σ') hi hLi hready ho henv hop
          refine wpOpIn_monoQ (fun a' w' hx=>?_) (fun e a' w' hne hx=>by cases e <;> first | exact absurd rfl hne | exact hx) hrun
          obtain ⟨v,η',hk',hh',hkq,hdh⟩:=(show ∃ v η',Kn n ds (envs env++fullEnv a) a'∧Hp S w0 η' w'∧KeepQ F P S w0 n l ds σ V η' ks∧DH F P S w0 n l ds σ Q m ((i,v,2)::keepV ks V) η' from hx)
          exact fin v η' a' w' hkq hdh (hi.putN hLi hready (hext v) (hV' v) (by rw [vget_cons,if_pos rfl]; rfl) hdi (hdn v) hk'.size hk'.defers (hfr a' hk') hh')
      · -- it waits for what is not known
        exfalso
        simp only [List.any_eq_true,List.mem_range,Bool.and_eq_true,Bool.or_eq_true] at hv
        obtain ⟨j2,hj2,hnone,hw⟩:=hv
        have hLj:L[j2]?=some true:=by
          rcases hw with h5 | h5
          · exact hready j2 h5
          · exact waitsT_done hi.down _ i j2 hready h5
        have:=hi.dom j2 hLj
        cases hvv:vget V j2 with
        | none=>simp [hvv] at this
        | some u=>simp [hvv] at hnone
theorem DH.k1 {h1:Nat} (hd:dagOk l=true) (ht:tailOk l m=true) (hq:dstsOk l m=true) (hcomp:complete l m V [h1]=true) (b1:HBK F P S w0 n l ds σ Q m V η h1):DH F P S w0 n l ds σ Q m V η :=
  DH.nodeK [h1] hd ht hq hcomp (fun h' hh=>by rw [List.mem_singleton.1 hh]; exact b1) (by simp)
theorem DH.k2 {h1 h2:Nat} (hd:dagOk l=true) (ht:tailOk l m=true) (hq:dstsOk l m=true) (hcomp:complete l m V [h1,h2]=true) (b1:HBK F P S w0 n l ds σ Q m V η h1) (b2:HBK F P S w0 n l ds σ Q m V η h2):DH F P S w0 n l ds σ Q m V η :=
  DH.nodeK [h1,h2] hd ht hq hcomp (fun h' hh=>by
    rcases List.mem_cons.1 hh with e | hh
    · subst e; exact b1
    · rw [List.mem_singleton.1 hh]; exact b2) (by simp)
end
end Go.Sl
/- The end of a function whose results lie in slots and in memory. -/
namespace Go.Sl
variable {F:Fence} {P:Program} {S:Nat→Prop} {w0 w:World} {n:Nat} {Q:Exit→Act→World→Prop} {ds:List Deferred} {σ:Env} {η:Heap}

/-- What a result variable holds. -/
def ResV (P:Program) (S:Nat→Prop) (w0:World) (η:Heap) (σ:Env):ResultVar→Value→Prop
  | .tmp t,v=>lk σ t=some v
  | .cell c ct,v=>∃ b,lk σ c=some (.pointer (some ⟨b,0,none⟩))∧∀ w,Hp S w0 η w→(loadVar ct ⟨b,0,none⟩).run P w = .ok v w
def ResVs (P:Program) (S:Nat→Prop) (w0:World) (η:Heap) (σ:Env):List ResultVar→List Value→Prop
  | [],[]=>True
  | r::rs,v::vs=>ResV P S w0 η σ r v∧ResVs P S w0 η σ rs vs
  | _,_=>False
end Go.Sl
/- What is left of a list behind a cut. -/
namespace Go.Sl
variable {S:Nat→Prop} {w0:World} {η:Heap}
theorem frz_mk2 {w:World} {ηr:Heap} (hh:Hp S w0 (ηr++η) w):∃ S',Frz S S' w0 w ηr∧Hp S' w η w∧∀ η' a v,At S' w η' a v→At S w0 (ηr++η') a v:=by
  obtain ⟨h1,h2⟩:=frz_mk hh
  refine ⟨_,h1,h2,fun η' a v h=>?_⟩
  cases h with
  | rd h hc =>
    rcases h with h | h
    · refine .rd h ?_
      have:=(hh.same _ h).2
      simp only [World.cell?,this] at hc ⊢
      exact hc
    · obtain ⟨p,hp,he⟩:=List.mem_map.1 h
      have h3:=(hh.own p (by rw [List.flatten_append,List.mem_append]; exact .inl hp)).1
      obtain ⟨seg,hs,hps⟩:=List.mem_flatten.1 hp
      rw [he] at h3
      have hsp:=(cell_lt hc).2
      unfold World.cell? at hc
      rw [h3] at hc
      obtain ⟨pb,po⟩:=p
      simp only at he hc; subst he
      cases po with
      | cells cs e fz =>
        simp only [hsp] at hc
        exact .own seg (List.mem_append_left _ hs) cs e fz hps (by simpa using hc) hsp
      | _=>simp at hc
  | own seg hs cs e fz hp hc hsp=>exact .own seg (List.mem_append_right _ hs) cs e fz hp hc hsp
/-- A contract whose arguments lie in read memory, where they lie in blocks of one's own. -/
theorem Rt.frame {P : Program} {g : FuncId} {args : Array Value} {R : Value → Heap → Prop} (ηr : Heap) {η2 : Heap} (he : η = ηr ++ η2)
    (h:∀ S' w1,Frz S S' w0 w1 ηr→(∀ η' a v,At S' w1 η' a v→At S w0 (ηr++η') a v)→Rt P g args S' w1 η2 (fun v η'=>R v (ηr++η'))):Rt P g args S w0 η R:=fun w hh=>by
  subst he
  obtain ⟨S',hz,h2,h3⟩:=frz_mk2 hh
  exact (h _ _ hz h3 w h2).mono fun e w' ⟨v,η',h1,h2,h3⟩=>⟨v,ηr++η',h1,hz.back _ _ h2,h3⟩
theorem Row.thaw {S':Nat→Prop} {w1:World} {ηr η':Heap} {a:Option Addr} {cs:List Value} (hb:∀ η' a v,At S' w1 η' a v→At S w0 (ηr++η') a v) (h:Row S' w1 η' a cs):Row S w0 (ηr++η') a cs:=⟨h.ad,fun i v hi=>hb _ _ _ (h.cell i v hi)⟩
end Go.Sl
/- make of a slice of elements of any size. -/
namespace Go.Sl
variable {S:Nat→Prop} {w0:World} {η:Heap}
section
variable {F:Fence} {P:Program} {w:World} {n:Nat} {Q:Exit→Act→World→Prop} {ds:List Deferred} {σ:Env} {ops:Array Oper} {d:Nat} {ty:TypeId} {pos:String} {af:Array Edge} {rest:List Oper}
/-- make of a slice of elements of any size. -/
theorem TL.makeSliceN (hF : Open F) {t e : TypeId} [Und P t (.slice e)] {z : Value} {sz bt : Nat} [Inf P e z sz bt] {x y : Operand} {k : Nat} (hx : ev σ x = some (.int .i64 (k : Int))) (hy : ev σ y = some (.int .i64 (k : Int))) (cs : List Value) (hcs : ((Array.range (k * sz)).map fun i => z.cells[i % z.cells.size]!) = cs.toArray) (hk0 : 0 < k) (hsz : 0 < sz) (hb : k * bt ≤ 281474976710656) (hk : k ≤ 4611686018427387904) (hn : Nat.blt d n = true)
    (h:∀ b,TL F P S w0 n ops Q rest ds ((d,.slice (some ⟨b,0,none⟩) k k)::σ) ([(b,.cells cs.toArray e (0,0))]::η)) :
    TL F P S w0 n ops Q (⟨some d,.makeSlice t x y,ty,pos,af,none⟩::rest) ds σ η :=
  TL.val hF (by intro c; simp) hn fun a w hkn hh=>by
    obtain ⟨inf,hinf,hiz,hisz,hibt⟩:=run_typeInfo (P:=P) (t:=e) (z:=z) (sz:=sz) (bt:=bt)
    refine ⟨_,_,_,?_,hh.alloc _,h _⟩
    have hw:IntKind.i64.wrap (k:Int)=k:=wrap_i64 (by omega) (by omega)
    have hb':¬ ((281474976710656:Int)<(bt:Int)*(k:Int)):=by
      have:((k*bt:Nat):Int)≤281474976710656:=by omega
      rw [Int.natCast_mul,Int.mul_comm] at this
      omega
    have h0:¬ (k*sz=0):=Nat.pos_iff_ne_zero.1 (Nat.mul_pos hk0 hsz)
    simp [execOp,Instr.makeSlice,hkn.ev hx,hkn.ev hy,run_underlying (t:=t) (d:=.slice e),asInt,asIntOf,hinf,hibt,hw,hb',run_sizeOf (t:=e) (z:=z) (sz:=sz) (bt:=bt),newRow,run_zeroValue (t:=e) (z:=z) (sz:=sz) (bt:=bt),h0,hcs,show ¬ ((k:Int)<0) by omega]
end
end Go.Sl
/- Slices: is one nil; of an array; its room; append of a make. -/
namespace Go.Sl
variable {S:Nat→Prop} {w0:World} {η:Heap}
section
variable {F:Fence} {P:Program} {w:World} {n:Nat} {Q:Exit→Act→World→Prop} {ds:List Deferred} {σ:Env} {ops:Array Oper} {d:Nat} {ty:TypeId} {pos:String} {af:Array Edge} {rest:List Oper}
theorem run_equalIn_nil (w:World) (n:Nat) {xt e:TypeId} [Und P xt (.slice e)] (a:Option Addr) (l c:Nat):(Op.equalIn (n+1) xt (.slice a l c) (.slice none 0 0)).run P w = .ok a.isNone w:=by
  cases a <;> simp [Op.equalIn,run_underlying (t:=xt) (d:=.slice e)]
/-- Is a slice nil? -/
theorem TL.nilSl (hF : Open F) {xt yt e : TypeId} [hu : Und P xt (.slice e)] {x y : Operand} {a : Option Addr} {l c : Nat} (hx : ev σ x = some (.slice a l c)) (hy : ev σ y = some (.slice none 0 0)) (hn : Nat.blt d n = true)
    (h:TL F P S w0 n ops Q rest ds ((d,.bool a.isNone)::σ) η):TL F P S w0 n ops Q (⟨some d,.binOp .eql xt x y yt,ty,pos,af,none⟩::rest) ds σ η :=
  TL.binR hF hx hy (fun w=>by
    have he:(Op.equalIn Op.maxDepth xt (.slice a l c) (.slice none 0 0)).run P w = .ok a.isNone w:=run_equalIn_nil w 9999 (e:=e) a l c
    simp [eqGuard,binOp,Op.equal,he]) hn h
end
end Go.Sl
/- The library's sort of a list of cells, by the kit's contract of it. -/
namespace Go.Sl
open Go.Sort Go.RowKit Go.Shelf Go.Proofs
variable {S:Nat→Prop} {w0 w:World} {η:Heap} {P:Program}
/-- What a world becomes by what turns nothing. -/
theorem grow_of {w w':World} {η:Heap} (h:Hp (· < w.heap.size) w η w'):∃ q os,w'=grow (w.drewN q) os:=by
  refine ⟨w'.drawn - w.drawn,w'.heap.extract w.heap.size w'.heap.size,?_⟩
  have h1:=h.os; have h2:=h.tape; have h3:=h.output; have h4:=h.drawn; have h5:=h.size
  have hheap:w'.heap=w.heap++w'.heap.extract w.heap.size w'.heap.size:=by
    apply Array.ext_getElem?
    intro k
    rw [Array.getElem?_append]
    split
    · rename_i hk; exact (h.same k hk).2
    · rename_i hk
      rw [Array.getElem?_extract]
      split
      · rw [show w.heap.size+(k - w.heap.size)=k by omega]
      · rw [Array.getElem?_eq_none (by omega)]
  cases w'
  simp only at *
  subst h1 h2 h3
  unfold grow World.drewN
  simp only [World.mk.injEq,and_true,true_and]
  exact ⟨hheap,by omega⟩
/-- The same in a world in which only that block has been written anew, and others were made. -/
theorem sw_heap {α:Type} [Inhabited α] (enc:α→Value) (w:World) (b m:Nat) (dk:Array α) (os:Array Obj) {k:Nat} (hk:k<w.heap.size) (hb:k≠b):(sortWorld enc w b 0 m dk os).heap[k]?=w.heap[k]?:=by
  unfold sortWorld grow putRow mapBlock Sort.ahead
  simp only
  rw [Array.getElem?_append_left (by simpa using hk),Array.getElem?_modify,if_neg (Ne.symm hb)]
end Go.Sl
/- Four heavy operations may come next, behind which reads are still to come. -/
namespace Go.Sl
section
variable {F:Fence} {P:Program} {S S':Nat→Prop} {w0 w w1:World} {n:Nat} {Q:Exit→Act→World→Prop} {l:List Oper} {ds:List Deferred} {σ:Env} {η ηr:Heap} {m:Nat} {V:VL}
end
end Go.Sl
/- A quotient of any two numbers. -/
namespace Go.Sl
section
variable {F:Fence} {P:Program} {S:Nat→Prop} {w0 w:World} {n:Nat} {Q:Exit→Act→World→Prop} {ds:List Deferred} {σ:Env} {η:Heap} {ops:Array Oper} {rest:List Oper} {d:Nat} {ty:TypeId} {pos:String} {af:Array Edge}
theorem TL.quoI (hF : Open F) {xt yt : TypeId} {x y : Operand} {k : IntKind} {a b r : Int} (hx : ev σ x = some (.int k a)) (hy : ev σ y = some (.int k b)) (hb : b ≠ 0) (hr : k.wrap (Int.tdiv a b) = r) (hn : Nat.blt d n = true)
    (h:TL F P S w0 n ops Q rest ds ((d,.int k r)::σ) η):TL F P S w0 n ops Q (⟨some d,.binOp .quo xt x y yt,ty,pos,af,none⟩::rest) ds σ η :=
  TL.pure hF (by intro c; simp) hn (fun c w hk _=>by
    have hb':(Op.intDiv .quo k a b).run P w = .ok (.int k r) w:=by
      unfold Op.intDiv
      rw [if_neg hb]
      simp only [Sem.run_pure]
      first | rw [hr] | simp [hr]
    simp [execOp,hk.ev hx,hk.ev hy,eqGuard,binOp,hb']) h
end
end Go.Sl
/- Bits of numbers that are not negative. -/
namespace Go.Sl
/-- What one has that another one has not. -/
def bnot (a b:Nat):Nat:=a ^^^ (a &&& b)
section
variable {F:Fence} {P:Program} {S:Nat→Prop} {w0 w:World} {n:Nat} {Q:Exit→Act→World→Prop} {ds:List Deferred} {σ:Env} {η:Heap} {ops:Array Oper} {rest:List Oper} {ty:TypeId} {pos:String} {af:Array Edge} {d:Nat}
end
end Go.Sl
/- Two results, the first one in memory. -/
namespace Go.Sl
section
variable {F:Fence} {P:Program} {S:Nat→Prop} {w0 w:World} {n:Nat} {ds:List Deferred} {σ:Env} {η:Heap}
end
end Go.Sl
/- A range over a function whose arguments nobody knows beforehand: by states. -/
namespace Go.Sl
/-- An iterator by states: which arguments lead from one to another, and where it may end. -/
def IterG (P:Program) (f:FuncId) (pre post:List Value) {ι:Type} (ok:ι→List Value→ι→Prop) (fi:ι→Prop) (i0:ι) (S:Nat→Prop) (w0:World) (Ctx:Heap→Prop):Prop :=
  ∀ (l:Nat) (J:ι→Heap→Prop) (X:Heap→Prop) (η:Heap),(∀ i η',J i η'→Ctx η') →
    (∀ i e j η',ok i e j→J i η'→YieldOk P l e S w0 η' fun b η''=>if b then J j η'' else X η'') →
    J i0 η→Rt P f (pre++.func (.yield l) #[] #[]::post).toArray S w0 η fun _ η'=>(∃ i,fi i∧J i η')∨X η'
section
variable {F:Fence} {P:Program} {S:Nat→Prop} {w0 w:World} {n:Nat} {Q:Exit→Act→World→Prop} {ds:List Deferred} {σ:Env} {η:Heap} {ops:Array Oper} {rest:List Oper} {d:Nat} {ty:TypeId} {pos:String} {af:Array Edge}
end
end Go.Sl
/- The library's sort of a list, of one cell an element or several, by the kit's contract of it. -/
namespace Go.Sl
open Go.Sort Go.RowKit Go.Shelf Go.Proofs
variable {S:Nat→Prop} {w0 w:World} {η:Heap} {P:Program}
theorem sw_hp {b m : Nat} {cur : Array Value} {e : TypeId} (hh : Hp S w0 ([(b, .cells cur e (0, 0))] :: η) w) (F : Array Value) (os : Array Obj) :
    Hp S w0 ([(b,.cells (putCells id 0 F cur) e (0,0))]::η) (sortWorld id w b 0 m F os):=by
  have hb:w.heap[b]?=some (.cells cur e (0,0)):=hh.inMem (by simp)
  have hblk:b<w.heap.size:=(Array.getElem?_eq_some_iff.1 hb).1
  have hbl:(sortWorld id w b 0 m F os).heap[b]?=some (.cells (putCells id 0 F cur) e (0,0)):=by
    unfold sortWorld grow putRow mapBlock Sort.ahead
    simp only
    rw [Array.getElem?_append_left (by simpa using hblk),Array.getElem?_modify,if_pos rfl,hb]
    rfl
  have hn:=hh.once
  refine ⟨hh.os,hh.tape,hh.output,Nat.le_trans hh.drawn (by show w.drawn≤w.drawn+m; omega),?_,fun k hk=>?_,fun p hp=>?_,by simpa using hn⟩
  · have:=hh.size
    unfold sortWorld grow putRow mapBlock Sort.ahead
    simp; omega
  · obtain ⟨g1,g2⟩:=hh.same k hk
    refine ⟨g1,?_⟩
    rw [sw_heap id w b m F os (Nat.lt_of_lt_of_le g1 hh.size) (fun q=>(hh.own (b,.cells cur e (0,0)) (by simp)).2 (q ▸ hk)),g2]
  · simp only [List.flatten_cons,List.cons_append,List.nil_append,List.mem_cons] at hp
    rcases hp with rfl | hp
    · exact ⟨hbl,(hh.own (b,.cells cur e (0,0)) (by simp)).2⟩
    · have hown:=hh.own p (by simp only [List.flatten_cons,List.mem_append]; exact .inr hp)
      refine ⟨?_,hown.2⟩
      have hlt:=(Array.getElem?_eq_some_iff.1 hown.1).1
      have hne:p.1≠b:=fun q=>by
        simp only [List.flatten_cons,List.map_append,List.map_cons,List.map_nil] at hn
        rw [List.nodup_append] at hn
        exact hn.2.2 b (by simp) b (q ▸ List.mem_map_of_mem (f:=(·.1)) hp) rfl
      rw [sw_heap id w b m F os hlt hne]; exact hown.1
theorem flatK_list {α:Type} [Inhabited α] {enc:α→List Value} {k:Nat} (hk:∀ x,(enc x).length=k) (l:List α):(flatK enc k l.toArray).toList=l.flatMap enc:=by
  apply List.ext_getElem?
  intro t
  by_cases h:t<l.length*k
  · have k0 : 0 < k := by rcases Nat.eq_zero_or_pos k with e | e
                          · subst e; simp at h
                          · exact e
    have h1:t / k<l.length:=by rw [Nat.div_lt_iff_lt_mul k0]; exact h
    have h3:t / k*k+t % k=t:=Nat.div_add_mod' t k
    have e2:(flatK enc k l.toArray)[t]! = (enc (l.toArray[t / k]!))[t % k]!:=get_flatK enc k l.toArray t (by simpa using h)
    rw [Array.getElem?_toList,Array.getElem?_eq_getElem (by simpa using h)]
    rw [getElem!_pos _ t (by simpa using h)] at e2
    rw [e2,getElem!_pos l.toArray (t / k) (by simpa using h1)]
    have h4:t % k<(enc l[t / k]).length:=by rw [hk]; exact Nat.mod_lt _ k0
    have e3:=flat_get k enc hk l (t / k) (t % k) (Nat.mod_lt _ k0)
    rw [h3,List.getElem?_eq_getElem h1,Option.bind_some,List.getElem?_eq_getElem h4] at e3
    rw [e3]
    simp only [List.getElem_toArray]
    rw [getElem!_pos (enc l[t / k]) (t % k) h4]
  · have hlen:(l.flatMap enc).length=l.length*k:=by
      rw [List.length_flatMap]
      have:l.map (fun x=>(enc x).length)=List.replicate l.length k:=by
        apply List.ext_getElem
        · simp
        · intro i h1 h2; simp [hk]
      rw [this,List.sum_replicate_nat]
    rw [List.getElem?_eq_none (by simp; omega),List.getElem?_eq_none (by omega)]
theorem sortQ_rt {ρ : Ren} (L : SlLaysF0.n6 P ρ) (k : Nat) (aE : ∀ w, (isAgg (ρ.t 24)).run P w = .ok true w) (zE : ∀ w, (Go.sizeOf (ρ.t 24)).run P w = .ok k w) {α : Type} [Inhabited α] (enc : α → List Value) (hk : ∀ x, (enc x).length = k) (h1 : ∀ x, ∀ v ∈ enc x, v.oneCell' = true)
    (cf:α→α→Int) (hO:SWO (ltOf cf)) (hT:∀ x y,(ltOf cf) x y=false→(ltOf cf) y x=false→x=y) (g:Nat) (cb:List Value) [hg:Ent P g] {b cap:Nat} {cur:Array Value} {e:TypeId} (d:List α)
    (hcur:cur.toList.take (d.length*k)=d.flatMap enc) (hsz:d.length*k≤cur.size) (hm:d.length<1099511627776) (hb0:0<d.length)
    (hcmp:∀ W:World,∀ x y:α,Rt P g (.agg (enc x).toArray::.agg (enc y).toArray::cb).toArray (· < W.heap.size) W [] (fun v _=>v = .int .i64 (cf x y))) :
    Rt P (ρ.f 6) #[.slice (some ⟨b,0,none⟩) d.length cap,.func (.func g) #[] cb.toArray] S w0 ([(b,.cells cur e (0,0))]::η)
      (fun _ η'=>∃ cur':Array Value,η'=[(b,.cells cur' e (0,0))]::η∧cur'.size=cur.size∧cur'.toList.take (d.length*k)=(d.mergeSort fun x y=>!(ltOf cf) y x).flatMap enc):=by
  intro w hh
  have hb:w.heap[b]?=some (.cells cur e (0,0)):=hh.inMem (by simp)
  have hblk:b<w.heap.size:=(Array.getElem?_eq_some_iff.1 hb).1
  have hfl:=flatK_list hk d
  have hH:HoldsK enc k w b 0 d.toArray:=by
    intro j hj
    have hj2:j<d.length*k:=by simpa using hj
    have hget:cur[j]?=some ((flatK enc k d.toArray)[j]!):=by
      have h2:(cur.toList.take (d.length*k))[j]?=(flatK enc k d.toArray).toList[j]?:=by rw [hcur,hfl]
      rw [List.getElem?_take_of_lt hj2,Array.getElem?_toList,Array.getElem?_toList,Array.getElem?_eq_getElem hj] at h2
      rw [h2,getElem!_pos _ j hj]
    constructor
    · simp only [World.cell?,hb,Nat.zero_add]; simpa using hget
    · simp [World.frozen?,hb]
  have hlays:CmpLays P g cb.toArray enc k cf b 0 d.toArray.size w:=by
    intro mm os dk _ x y
    have hc:=hcmp (sortWorldK enc k w b 0 mm dk os) x y _ (Hp.start _)
    have ea:(#[.agg (enc x).toArray,.agg (enc y).toArray]++cb.toArray:Array Value)=(.agg (enc x).toArray::.agg (enc y).toArray::cb).toArray:=by simp
    rw [ea]
    refine hc.mono ?_
    rintro e2 w' ⟨v,η',rfl,hh',rfl⟩
    exact ⟨rfl,grow_of hh'⟩
  have hp:=AnyQ.slices_SortFunc_total L k aE zE enc hk h1 cf hO g cb.toArray b 0 cap d.toArray w hg.eq hlays hH hblk (by simp; omega) hT
  simp only [List.size_toArray] at hp
  refine hp.mono ?_
  rintro e2 w' ⟨rfl,n,os,rfl⟩
  have hml:(d.mergeSort fun x y=>!(ltOf cf) y x).length=d.length:=List.length_mergeSort d
  generalize (d.mergeSort fun x y=>!(ltOf cf) y x)=ys at hml ⊢
  have hyl:=flatK_list hk ys
  refine ⟨_,_,rfl,sw_hp hh (flatK enc k ys.toArray) os,_,rfl,by simp [putCells],?_⟩
  rw [← hyl]
  apply List.ext_getElem?
  intro i
  by_cases hi:i<d.length*k
  · rw [List.getElem?_take_of_lt hi]
    have h3:i<(flatK enc k ys.toArray).size:=by simp [hml,hi]
    rw [Array.getElem?_toList,Array.getElem?_toList,Array.getElem?_eq_getElem h3]
    simp only [putCells,Array.getElem?_mapIdx]
    rw [Array.getElem?_eq_getElem (by omega)]
    rw [Option.map_some,if_pos ⟨Nat.zero_le _,by omega⟩,Nat.sub_zero,getElem!_pos _ i h3]
    rfl
  · rw [List.getElem?_eq_none (by simp; omega),List.getElem?_eq_none (by simp [hml]; omega)]
theorem sort1_rt {ρ : Ren} (L : SlLaysF.n6 P ρ) {α : Type} [Inhabited α] (enc : α → Value) (h1 : OneCell enc)
    (cf:α→α→Int) (hO:SWO (ltOf cf)) (hT:∀ x y,(ltOf cf) x y=false→(ltOf cf) y x=false→x=y) (g:Nat) (cb:List Value) [hg:Ent P g] {b cap:Nat} {cur:Array Value} {e:TypeId} (d:List α)
    (hcur:cur.toList.take d.length=d.map enc) (hsz:d.length≤cur.size) (hm:d.length<1099511627776)
    (hcmp:∀ W:World,∀ x y:α,Rt P g (enc x::enc y::cb).toArray (· < W.heap.size) W [] (fun v _=>v = .int .i64 (cf x y))) :
    Rt P (ρ.f 6) #[.slice (some ⟨b,0,none⟩) d.length cap,.func (.func g) #[] cb.toArray] S w0 ([(b,.cells cur e (0,0))]::η)
      (fun _ η'=>∃ cur':Array Value,η'=[(b,.cells cur' e (0,0))]::η∧cur'.size=cur.size∧cur'.toList.take d.length=(d.mergeSort fun x y=>!(ltOf cf) y x).map enc):=by
  intro w hh
  have hb:w.heap[b]?=some (.cells cur e (0,0)):=hh.inMem (by simp)
  have hblk:b<w.heap.size:=(Array.getElem?_eq_some_iff.1 hb).1
  have hH:Holds enc w b 0 d.toArray:=by
    intro j hj
    have hj2:j<d.length:=by simpa using hj
    have hget:cur[j]?=some (enc (d.toArray[j]!)):=by
      have h2:(cur.toList.take d.length)[j]?=(d.map enc)[j]?:=by rw [hcur]
      rw [List.getElem?_take_of_lt hj2,Array.getElem?_toList,List.getElem?_map,List.getElem?_eq_getElem hj2] at h2
      rw [h2,getElem!_pos d.toArray j hj]; simp
    constructor
    · simp only [World.cell?,hb,Nat.zero_add]; simpa using hget
    · simp [World.frozen?,hb]
  have hlays:CmpLays1 P g cb.toArray enc cf b 0 d.toArray.size w:=by
    intro mm os dk _ x y
    have hc:=hcmp (sortWorld enc w b 0 mm dk os) x y _ (Hp.start _)
    have ea:(#[enc x,enc y]++cb.toArray:Array Value)=(enc x::enc y::cb).toArray:=by simp
    rw [ea]
    refine hc.mono ?_
    rintro e2 w' ⟨v,η',rfl,hh',rfl⟩
    exact ⟨rfl,grow_of hh'⟩
  have hp:=Any.slices_SortFunc_total L enc h1 cf hO g cb.toArray b 0 cap d.toArray w hg.eq hlays hH hblk (by simp; omega) hT
  simp only [List.size_toArray] at hp
  refine hp.mono ?_
  rintro e2 w' ⟨rfl,n,os,rfl⟩
  have hml:(d.mergeSort fun x y=>!(ltOf cf) y x).length=d.length:=List.length_mergeSort d
  generalize (d.mergeSort fun x y=>!(ltOf cf) y x)=ys at hml ⊢
  have e1:sortWorld enc w b 0 n ys.toArray os=sortWorld id w b 0 n (ys.map enc).toArray os:=by
    unfold sortWorld putRow
    congr 2
    funext c
    unfold putCells
    congr 1
    funext k x
    simp only [List.size_toArray,List.length_map]
    by_cases hk:0≤k∧k<0+ys.length
    · rw [if_pos hk,if_pos hk,getElem!_pos ys.toArray (k - 0) (by simp; omega),getElem!_pos (ys.map enc).toArray (k - 0) (by simp; omega)]
      simp
    · rw [if_neg hk,if_neg hk]
  rw [e1]
  refine ⟨_,_,rfl,sw_hp hh (ys.map enc).toArray os,_,rfl,by simp [putCells],?_⟩
  apply List.ext_getElem?
  intro i
  by_cases hi:i<d.length
  · rw [List.getElem?_take_of_lt hi]
    have h3:i<(ys.map enc).toArray.size:=by simp [hml,hi]
    rw [Array.getElem?_toList,List.getElem?_eq_getElem (by simpa using h3)]
    simp only [putCells,Array.getElem?_mapIdx]
    rw [Array.getElem?_eq_getElem (by omega)]
    rw [Option.map_some,if_pos ⟨Nat.zero_le _,by simp at h3 ⊢; omega⟩,Nat.sub_zero,getElem!_pos _ i h3]
    simp
  · rw [List.getElem?_eq_none (by simp; omega),List.getElem?_eq_none (by simp [hml]; omega)]
end Go.Sl
/- Bits of signed numbers. -/
namespace Go.Sl
section
variable {F:Fence} {P:Program} {S:Nat→Prop} {w0 w:World} {n:Nat} {Q:Exit→Act→World→Prop} {ds:List Deferred} {σ:Env} {η:Heap} {ops:Array Oper} {rest:List Oper} {ty:TypeId} {pos:String} {af:Array Edge} {d:Nat}
theorem wrap_toInt (x:BitVec 64):IntKind.i64.wrap (x.toNat:Int)=x.toInt:=by
  have h:=x.isLt
  rw [BitVec.toInt_eq_toNat_cond]
  by_cases h2:2*x.toNat<2 ^ 64
  · rw [if_pos h2,wrap_i64 (by omega) (by omega)]
  · rw [if_neg h2]
    have e:∀ a:Int,9223372036854775808≤a→a<18446744073709551616→IntKind.i64.wrap a=a - 18446744073709551616:=fun a h1 h2=>by
      simp [IntKind.wrap,IntKind.bits,IntKind.signed]; omega
    rw [e _ (by omega) (by omega)]; rfl
theorem TL.andZ (hF : Open F) {xt yt : TypeId} {x y : Operand} {a m : Int} (hx : ev σ x = some (.int .i64 a)) (hy : ev σ y = some (.int .i64 m)) (hn : Nat.blt d n = true)
    (h:TL F P S w0 n ops Q rest ds ((d,.int .i64 (BitVec.ofInt 64 a &&& BitVec.ofInt 64 m).toInt)::σ) η):TL F P S w0 n ops Q (⟨some d,.binOp .and xt x y yt,ty,pos,af,none⟩::rest) ds σ η :=
  TL.pure hF (by intro c; simp) hn (fun b w hk _=>by
    have hb:(Op.intBits .and .i64 a m).run P w = .ok (.int .i64 (BitVec.ofInt 64 a &&& BitVec.ofInt 64 m).toInt) w:=by
      unfold Op.intBits
      simp only [Sem.run_pure]
      rw [← wrap_toInt]; rfl
    simp [execOp,hk.ev hx,hk.ev hy,eqGuard,binOp,hb]) h
theorem TL.orZ (hF : Open F) {xt yt : TypeId} {x y : Operand} {a m : Int} (hx : ev σ x = some (.int .i64 a)) (hy : ev σ y = some (.int .i64 m)) (hn : Nat.blt d n = true)
    (h:TL F P S w0 n ops Q rest ds ((d,.int .i64 (BitVec.ofInt 64 a ||| BitVec.ofInt 64 m).toInt)::σ) η):TL F P S w0 n ops Q (⟨some d,.binOp .or xt x y yt,ty,pos,af,none⟩::rest) ds σ η :=
  TL.pure hF (by intro c; simp) hn (fun b w hk _=>by
    have hb:(Op.intBits .or .i64 a m).run P w = .ok (.int .i64 (BitVec.ofInt 64 a ||| BitVec.ofInt 64 m).toInt) w:=by
      unfold Op.intBits
      simp only [Sem.run_pure]
      rw [← wrap_toInt]; rfl
    simp [execOp,hk.ev hx,hk.ev hy,eqGuard,binOp,hb]) h
theorem TL.xorZ (hF : Open F) {xt yt : TypeId} {x y : Operand} {a m : Int} (hx : ev σ x = some (.int .i64 a)) (hy : ev σ y = some (.int .i64 m)) (hn : Nat.blt d n = true)
    (h:TL F P S w0 n ops Q rest ds ((d,.int .i64 (BitVec.ofInt 64 a ^^^ BitVec.ofInt 64 m).toInt)::σ) η):TL F P S w0 n ops Q (⟨some d,.binOp .xor xt x y yt,ty,pos,af,none⟩::rest) ds σ η :=
  TL.pure hF (by intro c; simp) hn (fun b w hk _=>by
    have hb:(Op.intBits .xor .i64 a m).run P w = .ok (.int .i64 (BitVec.ofInt 64 a ^^^ BitVec.ofInt 64 m).toInt) w:=by
      unfold Op.intBits
      simp only [Sem.run_pure]
      rw [← wrap_toInt]; rfl
    simp [execOp,hk.ev hx,hk.ev hy,eqGuard,binOp,hb]) h
end
end Go.Sl
/- A range over a function that holds memory of its own while it yields. -/
namespace Go.Sl
/-- An iterator by states, with memory of its own. -/
def IterX (P:Program) (f:FuncId) (pre post:List Value) {ι:Type} (ok:ι→List Value→ι→Prop) (fi:ι→Prop) (i0:ι) (S:Nat→Prop) (w0:World) (Ctx:Heap→Prop):Prop :=
  ∀ (l:Nat) (J:ι→Heap→Prop) (X:Heap→Prop) (η:Heap),(∀ i η',J i η'→Ctx η') →
    (∀ i e j ex η',ok i e j→J i η'→YieldOk P l e S w0 (ex++η') fun b η''=>∃ η2,η''=ex++η2∧if b then J j η2 else X η2) →
    J i0 η→Rt P f (pre++.func (.yield l) #[] #[]::post).toArray S w0 η fun _ η'=>(∃ i,fi i∧J i η')∨X η'
section
variable {F:Fence} {P:Program} {S:Nat→Prop} {w0 w:World} {n:Nat} {Q:Exit→Act→World→Prop} {ds:List Deferred} {σ:Env} {η:Heap} {ops:Array Oper} {rest:List Oper} {d:Nat} {ty:TypeId} {pos:String} {af:Array Edge}
/-- A range over a function. -/
theorem T.rangeFuncX {f : FuncId} {fst cap : List Value} {g : Operand} {ps : Array Tmp} {assign body : Code} {ι : Type} {ok : ι → List Value → ι → Prop} {fi : ι → Prop} {i0 : ι} {Ctx : Heap → Prop} [Ent P f]
    (hg:ev σ g=some (.func (.func f) fst.toArray cap.toArray)) (hit:IterX P f fst cap ok fi i0 S w0 Ctx) (hps:∀ i e j,ok i e j→e.length=ps.size) (hpn:∀ p∈ps.toList,p<n)
    (I:ι→Heap→Prop) (IX:Code→Heap→Prop) (h0:I i0 η) (hctx:∀ i η' tl,I i η'→Ctx (η'++tl))
    (hbody:∀ l tl tl' i e j η',ok i e j→I i η'→T (Fence.wide.inRound l) P S w0 n (Exit.then (Swap S w0 tl tl' fun a w=>body.wpIn (Fence.wide.inRound l) 0 P (RQ S w0 (fun _=>I j) IX 0 tl') a w) (fun _ _ _=>False)) assign [] ((ps.toList.zip e).reverse++σ) (η'++tl))
    (hdone:∀ r i η',fi i→I i η'→TQ S w0 n (Q .normal) ({ target:=.collected r,args:=#[] }::ds) σ ([(r,.deferred (some []))]::η'))
    (hstop:∀ r c η',IX c η'→T Fence.wide P S w0 n Q c ({ target:=.collected r,args:=#[] }::ds) σ ([(r,.deferred (some []))]::η')) :
    T Fence.wide P S w0 n Q (.rangeFunc g ps assign body) ds σ η:=fun a w hk hh=>by
  refine wpIn_rangeFunc fun fn hfn=>?_
  let rec':LoopState→Option Code→Loop:=fun st pend=>{ state:=st,pending:=pend,fn:=fn,tmps:=a.tmps,params:=ps,assign:=assign,body:=body,defers:=w.heap.size }
  have hh1:=(hh.alloc (.deferred (some []))).alloc (.loop (rec' .ready none))
  have hl:(({ w with heap:=w.heap.push (.deferred (some [])) }:World).heap.size)=w.heap.size+1:=by simp
  rw [hl] at hh1
  obtain ⟨W1,hW1⟩:∃ W1:World,W1={ heap:=(w.heap.push (.deferred (some []))).push (.loop (rec' .ready none)),tape:=w.tape,drawn:=w.drawn,os:=w.os,output:=w.output }:=⟨_,rfl⟩
  have hh2:Hp S w0 (η++[[(w.heap.size+1,.loop (rec' .ready none))],[(w.heap.size,.deferred (some []))]]) W1:=by
    rw [hW1]; exact Hp.rot (A:=[[(w.heap.size+1,.loop (rec' .ready none))],[(w.heap.size,.deferred (some []))]]) hh1
  have hargs:fst.toArray++#[.func (.yield (w.heap.size+1)) #[] #[]]++cap.toArray=(fst++.func (.yield (w.heap.size+1)) #[] #[]::cap).toArray:=by simp
  refine ⟨w.heap.size+1,[{ target:=.collected w.heap.size,args:=#[] }],W1,⟨.fn (.func f) cap.toArray,fst.toArray++#[.func (.yield (w.heap.size+1)) #[] #[]]⟩,W1,f,(fst++.func (.yield (w.heap.size+1)) #[] #[]::cap).toArray,W1,?_,?_,fun _ _=>trivial,?_,fun h=>(by simp [Fence.wide] at h),?_⟩
  · rw [hW1]
    simp only [Instr.enterLoop,show Fence.wide.round=none from rfl,Sem.run_bind,run_newObj,Sem.run_pure,Result.andThen_ok]
    simp only [Array.size_push]
    rfl
  · have hgv:=hk.ev hg
    have hm:Array.map a.eval #[Operand.const (.func (.yield (w.heap.size+1)) #[] #[])] = #[.func (.yield (w.heap.size+1)) #[] #[]]:=by simp [Act.eval]
    simp only [resolve,hgv,hm,Deferred.ofValue,Sem.run_pure]
  · simp only [invoke]
    rw [hargs,Ent.eq]
  · have key := hit (w.heap.size + 1) (fun i η' => ∃ ηu, I i ηu ∧ η' = ηu ++ [[(w.heap.size + 1, .loop (rec' .ready none))], [(w.heap.size, .deferred (some []))]])
      (fun η'=>∃ c ηu,IX c ηu∧η'=ηu++[[(w.heap.size+1,.loop (rec' .done (some c)))],[(w.heap.size,.deferred (some []))]]) _
      (by rintro i η' ⟨ηu,hi,rfl⟩; exact hctx i ηu _ hi) ?_ ⟨η,h0,rfl⟩ W1 hh2
    · refine callsIn_open open_wide (key.mono ?_)
      have fin : ∀ (st : LoopState) (pend : Option Code) (ηu : Heap) (w3 : World), st ≠ .busy → Hp S w0 (ηu ++ [[(w.heap.size + 1, .loop (rec' st pend))], [(w.heap.size, .deferred (some []))]]) w3 →
          ∃ w4,(Instr.endLoop (w.heap.size+1)).run P w3 = .ok pend w4∧Hp S w0 ([(w.heap.size,.deferred (some []))]::ηu) w4:=by
        intro st pend ηu w3 hst hh3
        have hb:=(hh3.own (w.heap.size+1,.loop (rec' st pend)) (by simp)).1
        have h4:=hh3.turnI (i:=ηu.length) (b:=w.heap.size+1) (o:=.loop (rec' st pend)) (by simp) (.loop { rec' st pend with state:=.exhausted })
        have he:(ηu++[[(w.heap.size+1,Obj.loop (rec' st pend))],[(w.heap.size,.deferred (some []))]]).set ηu.length [(w.heap.size+1,.loop { rec' st pend with state:=.exhausted })]=ηu++[[(w.heap.size+1,.loop { rec' st pend with state:=.exhausted })],[(w.heap.size,.deferred (some []))]]:=by simp
        rw [he] at h4
        refine ⟨_,run_endLoop hb hst,(Hp.rot h4).sub (fun p hp=>?_) ?_⟩
        · simp only [List.flatten_cons,List.mem_append] at hp
          simp only [List.flatten_append,List.flatten_cons,List.flatten_nil,List.mem_append]
          rcases hp with h | h
          · exact .inl (.inr (.inl h))
          · exact .inr h
        · have:=(Hp.rot h4).once
          simp only [List.flatten_cons,List.cons_append,List.nil_append,List.map_cons] at this ⊢
          exact (List.nodup_cons.1 this).2
      rintro e w3 ⟨v,η',rfl,hh3,(⟨iu,hfi,ηu,hi,rfl⟩ | ⟨c,ηu,hx,rfl⟩)⟩
      · obtain ⟨w4,hr,hh4⟩:=fin .ready none ηu w3 (by simp) hh3
        exact ⟨none,w4,hr,hdone _ iu ηu hfi hi _ _ ⟨hk.size,by simp [hk.defers],hk.slot⟩ hh4⟩
      · obtain ⟨w4,hr,hh4⟩:=fin .done (some c) ηu w3 (by simp) hh3
        exact ⟨some c,w4,hr,hstop _ c ηu hx _ _ ⟨hk.size,by simp [hk.defers],hk.slot⟩ hh4 ⟩
    · rintro i e j exh η' he ⟨ηu,hi,rfl⟩ w3 hh3
      have perm:∀ (o:Obj) (A:Heap),(A++([(w.heap.size+1,o)]::[(w.heap.size,Obj.deferred (some []))]::exh)).Perm (exh++(A++[[(w.heap.size+1,o)],[(w.heap.size,Obj.deferred (some []))]])):=fun o A=>by
        have:=List.perm_append_comm (l₁:=A++[[(w.heap.size+1,o)],[(w.heap.size,Obj.deferred (some []))]]) (l₂:=exh)
        simpa using this
      replace hh3:=hh3.perm (perm _ _)
      have hb3:=(hh3.own (w.heap.size+1,.loop (rec' .ready none)) (by simp)).1
      have hlen:e.toArray.size=(rec' .ready none).params.size:=by simpa [rec'] using hps i e j he
      refine ⟨_,_,_,_,run_yield hb3 hlen,?_⟩
      have setT:∀ (o o':Obj) (η1:Heap) (w':World),Hp S w0 (η1++([(w.heap.size+1,o)]::[(w.heap.size,Obj.deferred (some []))]::exh)) w'→Hp S w0 (η1++([(w.heap.size+1,o')]::[(w.heap.size,Obj.deferred (some []))]::exh)) (w'.putObj (w.heap.size+1) o'):=by
        intro o o' η1 w' hh'
        have h4:=hh'.turnI (i:=η1.length) (b:=w.heap.size+1) (o:=o) (by simp) o'
        have he:(η1++([(w.heap.size+1,o)]::[(w.heap.size,Obj.deferred (some []))]::exh)).set η1.length [(w.heap.size+1,o')]=η1++([(w.heap.size+1,o')]::[(w.heap.size,Obj.deferred (some []))]::exh):=by simp
        rwa [he] at h4
      refine roundIn_of_wpIn trivial ?_
      have hb:=hbody (w.heap.size+1) ([(w.heap.size+1,.loop (rec' .ready none))]::[(w.heap.size,.deferred (some []))]::exh) ([(w.heap.size+1,.loop (rec' .busy none))]::[(w.heap.size,.deferred (some []))]::exh) i e j ηu he hi
        { tmps:=(ps.toList.zip e).foldl (fun t (x:Nat × Value)=>t.setIfInBounds x.1 x.2) a.tmps,defers:=[] } w3 ⟨by rw [foldl_size]; exact hk.size,rfl,kn_params _ _ _ hk.slot (fun p hp=>by
          rw [hk.size]; exact hpn p.1 (List.of_mem_zip hp).1)⟩ hh3
      have hz:(((rec' .ready none).params.zip e.toArray).foldl (fun tmps (x:Nat × Value)=>tmps.setIfInBounds x.1 x.2) (rec' .ready none).tmps)=(ps.toList.zip e).foldl (fun t (x:Nat × Value)=>t.setIfInBounds x.1 x.2) a.tmps:=by
        rw [← Array.foldl_toList]
        simp [rec']
      rw [hz]
      refine wpIn_mono hb ?_
      intro ex a1 w1 hq
      cases ex with
      | normal =>
        obtain ⟨⟨η1,hh4⟩,hq⟩:=hq
        have hb4:=(hh4.own (w.heap.size+1,.loop (rec' .ready none)) (by simp)).1
        refine ⟨_,run_beginRound hb4 rfl,wpIn_mono (hq _ fun η2 hh5=>setT _ (.loop { rec' .ready none with state:=.busy }) η2 w1 hh5) ?_⟩
        have fin : ∀ (jump : Option Code) (η2 : Heap) (w5 : World), Hp S w0 (η2 ++ ([(w.heap.size + 1, .loop (rec' .busy none))] :: [(w.heap.size, .deferred (some []))] :: exh)) w5 →
            (Instr.endRound (w.heap.size+1) jump).run P w5 = .ok (.bool jump.isNone) (w5.putObj (w.heap.size+1) (.loop (rec' (if jump.isNone then .ready else .done) jump))) ∧
            Hp S w0 (exh++(η2++[[(w.heap.size+1,.loop (rec' (if jump.isNone then .ready else .done) jump))],[(w.heap.size,.deferred (some []))]])) (w5.putObj (w.heap.size+1) (.loop (rec' (if jump.isNone then .ready else .done) jump))):=by
          intro jump η2 w5 hh6
          have hb6:=(hh6.own (w.heap.size+1,.loop (rec' .busy none)) (by simp)).1
          exact ⟨run_endRound jump hb6,(setT _ _ η2 w5 hh6).perm (perm _ _).symm⟩
        intro ex2 a2 w5 hq2
        cases ex2 with
        | normal =>
          obtain ⟨η2,hi2,hh6⟩:=hq2
          obtain ⟨hr,hh7⟩:=fin none η2 w5 hh6
          exact ⟨_,_,hr,true,_,rfl,hh7,_,rfl,⟨η2,hi2,rfl⟩⟩
        | ret =>
          obtain ⟨η2,hi2,hh6⟩:=hq2
          obtain ⟨hr,hh7⟩:=fin (some .ret) η2 w5 hh6
          exact ⟨_,_,hr,false,_,rfl,hh7,_,rfl,.ret,η2,hi2,rfl⟩
        | exit id =>
          obtain ⟨η2,hi2,hh6⟩:=hq2
          obtain ⟨hr,hh7⟩:=fin (some (.exit id)) η2 w5 hh6
          exact ⟨_,_,hr,false,_,rfl,hh7,_,rfl,.exit id,η2,hi2,rfl⟩
        | goto t =>
          obtain ⟨η2,hi2,hh6⟩:=hq2
          obtain ⟨hr,hh7⟩:=fin (some (.goto t)) η2 w5 hh6
          exact ⟨_,_,hr,false,_,rfl,hh7,_,rfl,.goto t,η2,hi2,rfl⟩
        | panic ch=>exact hq2.elim
        | outgrown=>exact hq2.elim
      | ret=>exact hq.elim
      | exit id=>exact hq.elim
      | goto t=>exact hq.elim
      | panic ch=>exact hq.elim
      | outgrown=>exact hq.elim

/-- What is frozen, with the way back. -/
theorem T.freeze2 {c:Code} (ηr:Heap) {η2:Heap} (he:η=ηr++η2) (h:∀ S' w1,Frz S S' w0 w1 ηr→(∀ η' a v,At S' w1 η' a v→At S w0 (ηr++η') a v)→T F P S' w1 n Q c ds σ η2):T F P S w0 n Q c ds σ η:=fun a w hk hh=>by
  subst he
  obtain ⟨S',hz,hh',hb⟩:=frz_mk2 hh
  exact h S' w hz hb a w hk hh'
theorem TL.freeze2 {l:List Oper} (ηr:Heap) {η2:Heap} (he:η=ηr++η2) (h:∀ S' w1,Frz S S' w0 w1 ηr→(∀ η' a v,At S' w1 η' a v→At S w0 (ηr++η') a v)→TL F P S' w1 n ops Q l ds σ η2):TL F P S w0 n ops Q l ds σ η:=fun a w hk hh=>by
  subst he
  obtain ⟨S',hz,hh',hb⟩:=frz_mk2 hh
  exact h S' w hz hb a w hk hh'
end
end Go.Sl
/- Regions that draw their order, in which operations lay blocks: whatever the order, what is laid is the same, but for where it lies. -/
namespace Go.Sl
/-- What an operation hands back, and lays, by where the blocks lie; and at which operations' blocks it looks. -/
structure SpA where
  v:(Nat→Nat)→Value
  s:Option ((Nat→Nat)→Obj)
  u:List Nat
def cutB (u:List Nat) (β:Nat→Nat) (k:Nat):Nat:=bif u.any (Nat.beq k) then β k else 0
def updB (β:Nat→Nat) (i b k:Nat):Nat:=if k=i then b else β k
def EnvOkA (l:List Oper) (σ:Env) (vals:List SpA) (β:Nat→Nat) (i:Nat):List (Nat × Value × Option Nat)→Prop
  | []=>True
  | (t,v,some j)::r=>(waits l i j=true∧dstOf l j=some t∧∃ x,vals[j]?=some x∧x.v β=v)∧EnvOkA l σ vals β i r
  | (t,v,none)::r=>(lk σ t=some v∧clean l i t=true)∧EnvOkA l σ vals β i r
theorem EnvOkA.append {l:List Oper} {σ:Env} {β:Nat→Nat} {vals:List SpA} {i:Nat} (y:SpA):∀ {env:List (Nat × Value × Option Nat)},EnvOkA l σ vals β i env→EnvOkA l σ (vals++[y]) β i env
  | [],_=>trivial
  | (t,u,some j)::r,h=>⟨⟨h.1.1,h.1.2.1,by
      obtain ⟨x,h1,h2⟩:=h.1.2.2
      exact ⟨x,by rw [List.getElem?_append_left (List.getElem?_eq_some_iff.1 h1).1]; exact h1,h2⟩⟩,EnvOkA.append y h.2⟩
  | (t,u,none)::r,h=>⟨h.1,EnvOkA.append y h.2⟩
variable {F:Fence} {P:Program} {S:Nat→Prop} {w0 w:World} {n:Nat} {Q:Exit→Act→World→Prop} {l:List Oper} {ds:List Deferred} {σ:Env} {η:Heap}
/-- What is asked behind an operation that lays a block. -/
def FinA (S:Nat→Prop) (w0:World) (n:Nat) (ds:List Deferred) (η:Heap) (σ':Env) (d i:Nat) (v:(Nat→Nat)→Value) (f:(Nat→Nat)→Obj) (β:Nat→Nat):Exit→Act→World→Prop
  | .normal,a,w=>∃ b,Kn n ds ((d,v (updB β i b))::σ') a∧Hp S w0 ([(b,f (updB β i b))]::η) w
  | _,_,_=>False
def GoA (F:Fence) (P:Program) (S:Nat→Prop) (w0:World) (n:Nat) (l:List Oper) (ds:List Deferred) (i d:Nat) (o:Oper) (x:SpA) (β:Nat→Nat) (env:List (Nat × Value × Option Nat)):Prop :=
  match x.s with
  | none=>∀ (ext:Env) (η:Heap),TL F P S w0 n l.toArray (Fin S w0 n ds η ((d,x.v β)::(envs env++ext))) [o] ds (envs env++ext) η
  | some f=>∀ (ext:Env) (η:Heap),TL F P S w0 n l.toArray (FinA S w0 n ds η (envs env++ext) d i x.v f β) [o] ds (envs env++ext) η
def QA (F:Fence) (P:Program) (S:Nat→Prop) (w0:World) (n:Nat) (l:List Oper) (ds:List Deferred) (σ:Env) (vals:List SpA) (i:Nat) (x:SpA):Prop :=
  ∃ o d,l[i]?=some o∧o.dst=some d∧(∀ β,x.v β=x.v (cutB x.u β))∧(∀ f,x.s=some f→∀ β,f β=f (cutB x.u β))∧(x.u.all fun k=>Nat.beq k i || (waits l i k || waitsT l l.length i k))=true ∧
    ∀ β,∃ env,EnvOkA l σ vals β i env∧GoA F P S w0 n l ds i d o x β env
def DA (F:Fence) (P:Program) (S:Nat→Prop) (w0:World) (n:Nat) (l:List Oper) (ds:List Deferred) (σ:Env) (η:Heap) (Q:Exit→Act→World→Prop) (vals:List SpA):Prop :=
  (∀ i x,vals[i]?=some x→QA F P S w0 n l ds σ vals i x)→∀ a w,Kn n ds σ a→Hp S w0 η w→∀ id,(Code.region id l.toArray true).wpIn F 0 P Q a w
theorem T.drawA {id:Nat} (h:DA F P S w0 n l ds σ η Q []):T F P S w0 n Q (.region id l.toArray true) ds σ η:=fun a w hk hh=>h (fun i x hi=>by simp at hi) a w hk hh id
theorem DA.step {vals : List SpA} (vs : List SpA) (x : SpA) (hv : vs = vals ++ [x]) {o : Oper} {d : Nat} (ho : l[vals.length]? = some o) (hd : o.dst = some d) (h1 : ∀ β, x.v β = x.v (cutB x.u β)) (h2 : ∀ f, x.s = some f → ∀ β, f β = f (cutB x.u β))
    (h3:(x.u.all fun k=>Nat.beq k vals.length || (waits l vals.length k || waitsT l l.length vals.length k))=true)
    (hop:∀ β,∃ env,EnvOkA l σ vals β vals.length env∧GoA F P S w0 n l ds vals.length d o x β env) (h:DA F P S w0 n l ds σ η Q vs):DA F P S w0 n l ds σ η Q vals:=fun hq=>by
  subst hv
  refine h fun i u hi=>?_
  by_cases hlt:i<vals.length
  · rw [List.getElem?_append_left hlt] at hi
    obtain ⟨o',d',e1,e2,e3,e4,e5,e6⟩:=hq i u hi
    exact ⟨o',d',e1,e2,e3,e4,e5,fun β=>by obtain ⟨env,a1,a2⟩:=e6 β; exact ⟨env,a1.append x,a2⟩⟩
  · have hi':i=vals.length:=by
      have:=(List.getElem?_eq_some_iff.1 hi).1
      simp at this; omega
    subst hi'
    simp at hi
    subst hi
    exact ⟨o,d,ho,hd,h1,h2,h3,fun β=>by obtain ⟨env,a1,a2⟩:=hop β; exact ⟨env,a1.append x,a2⟩⟩
/-- The block that an operation lays. -/
def segA (vals:List SpA) (β:Nat→Nat) (i:Nat):Seg:=match vals[i]? with
  | some ⟨_,some f,_⟩=>[(β i,f β)]
  | _=>[]
def laysA (vals:List SpA) (i:Nat):Bool:=match vals[i]? with
  | some ⟨_,some _,_⟩=>true
  | _=>false
def allEnvA (l:List Oper) (vals:List SpA) (β:Nat→Nat) (σ:Env):Env:=allEnv l (vals.map fun x=>x.v β) σ
/-- What is known when some operations have been carried out. -/
structure InvA (S:Nat→Prop) (w0:World) (n:Nat) (l:List Oper) (ds:List Deferred) (σ:Env) (η:Heap) (vals:List SpA) (β:Nat→Nat) (X:List Nat) (L:Array Bool) (a:Act) (w:World):Prop where
  size:L.size=l.length
  dom:∀ i,L[i]?=some true→i<vals.length
  down:∀ k j,waits l k j=true→L[k]?=some true→L[j]?=some true
  kl:KL n ds l σ (vals.map fun x=>x.v β) L a
  nd:X.Nodup
  mem:∀ i,i∈X↔L[i]?=some true∧laysA vals i=true
  hp:Hp S w0 (X.map (segA vals β)++η) w
theorem EnvOkA.plain {vals:List SpA} {β:Nat→Nat} {i:Nat}:∀ {env:List (Nat × Value × Option Nat)},EnvOkA l σ vals β i env→EnvOk l σ (vals.map fun x=>x.v β) i env
  | [],_=>trivial
  | (t,u,some j)::r,h=>⟨⟨h.1.1,h.1.2.1,by
      obtain ⟨x,h1,h2⟩:=h.1.2.2
      rw [List.getElem?_map,h1]; exact congrArg some h2⟩,EnvOkA.plain h.2⟩
  | (t,u,none)::r,h=>⟨h.1,EnvOkA.plain h.2⟩
/-- What an operation looks at has been carried out ahead of it. -/
theorem look_cut {vals : List SpA} (hq : ∀ i x, vals[i]? = some x → QA F P S w0 n l ds σ vals i x) {L : Array Bool} (hdown : ∀ k j, waits l k j = true → L[k]? = some true → L[j]? = some true) {i b : Nat} (hL : L[i]? = some false) {β : Nat → Nat} {j : Nat} {x : SpA} (hj : L[j]? = some true) (hx : vals[j]? = some x) :
    x.v (updB β i b)=x.v β∧(∀ f,x.s=some f→f (updB β i b)=f β)∧updB β i b j=β j:=by
  obtain ⟨o,d,_,_,h1,h2,h3,_⟩:=hq j x hx
  have hji:j≠i:=fun e=>by subst e; rw [hL] at hj; cases hj
  have hcut:cutB x.u (updB β i b)=cutB x.u β:=by
    funext k
    unfold cutB
    by_cases hk:(x.u.any (Nat.beq k))=true
    · rw [hk]
      show updB β i b k=β k
      have hki:k≠i:=by
        intro e; subst e
        obtain ⟨y,hy,he⟩:=List.any_eq_true.1 hk
        obtain rfl:k=y:=Nat.eq_of_beq_eq_true he
        have h4:=List.all_eq_true.1 h3 k hy
        simp only [Bool.or_eq_true] at h4
        rcases h4 with h4 | h4 | h4
        · exact hji (Nat.eq_of_beq_eq_true h4).symm
        · have:=hdown j k h4 hj
          rw [hL] at this; cases this
        · have:=waitsT_done hdown _ j k (fun i' hi'=>hdown j i' hi' hj) h4
          rw [hL] at this; cases this
      unfold updB; rw [if_neg hki]
    · rw [Bool.not_eq_true] at hk; rw [hk]; rfl
  refine ⟨by rw [h1 (updB β i b),hcut,← h1 β],fun f hf=>by rw [h2 f hf (updB β i b),hcut,← h2 f hf β],?_⟩
  unfold updB; rw [if_neg hji]
theorem segs_same {vals : List SpA} (hq : ∀ i x, vals[i]? = some x → QA F P S w0 n l ds σ vals i x) {L : Array Bool} (hdown : ∀ k j, waits l k j = true → L[k]? = some true → L[j]? = some true) {i b : Nat} (hL : L[i]? = some false) {β : Nat → Nat} {X : List Nat} (hX : ∀ j ∈ X, L[j]? = some true) :
    X.map (segA vals (updB β i b))=X.map (segA vals β):=by
  refine List.map_congr_left fun j hj=>?_
  unfold segA
  cases hv:vals[j]? with
  | none=>rfl
  | some x =>
    obtain ⟨xv,xs,xu⟩:=x
    cases xs with
    | none=>rfl
    | some f =>
      obtain ⟨_,h2,h3⟩:=look_cut hq hdown (b:=b) (β:=β) hL (hX j hj) hv
      simp only [h2 f rfl,h3]
theorem KL.putA {vals vals' : List Value} {L : Array Bool} {a a' : Act} {i d : Nat} {v : Value} (hk : KL n ds l σ vals L a) (hsame : ∀ j u, j ≠ i → L[j]? = some true → vals'[j]? = some u → vals[j]? = some u) (hlen : vals'.length = vals.length) (hq : quietOk l vals.length = true) (hLq : ∀ k, L[k]? = some true → k < vals.length) (hL : L[i]? = some false) (hi : vals'[i]? = some v) (hdi : dstOf l i = some d)
    (hs:a'.tmps.size=n) (hds:a'.defers=ds) (hd:a'.tmps[d]?=some v) (ho:∀ t u,t≠d→a.tmps[t]?=some u→a'.tmps[t]?=some u):KL n ds l σ vals' (L.setIfInBounds i true) a':=by
  have hil:=(Array.getElem?_eq_some_iff.1 hL).1
  have hset:∀ k,(L.setIfInBounds i true)[k]?=some true↔k=i∨L[k]?=some true:=by
    intro k
    rw [Array.getElem?_setIfInBounds]
    by_cases e:i=k
    · subst e; simp [hil]
    · rw [if_neg e]
      constructor
      · exact .inr
      · rintro (h | h)
        · exact absurd h.symm e
        · exact h
  have hiv:i<vals.length:=by rw [← hlen]; exact (List.getElem?_eq_some_iff.1 hi).1
  refine ⟨hs,hds,fun t u ht hno=>?_,fun j u d' hj hv hd'=>?_⟩
  · have hne:t≠d:=fun e=>hno i ((hset i).2 (.inl rfl)) (by rw [hdi,e])
    exact ho t u hne (hk.old t u ht fun k hk'=>hno k ((hset k).2 (.inr hk')))
  · rcases (hset j).1 hj with e | hj2
    · subst e
      rw [hi] at hv; cases hv
      rw [hdi] at hd'; cases hd'
      exact hd
    · have hji:j≠i:=fun e=>by subst e; rw [hL] at hj2; cases hj2
      refine ho d' u (fun e=>?_) (hk.new j u d' hj2 (hsame j u hji hj2 hv) hd')
      subst e
      exact hji (dst_ne hq (hLq j hj2) hiv hd' hdi)
theorem DA.done {vals : List SpA} (pre : (Nat → Nat) → Env) (tl : List Oper) (al : List Nat) (hs : (Nat → Nat) → Heap) (hm : P.follows .mixedOrders = true) (hd : dagOk l = true) (ht : tailOk l vals.length = true) (hqo : quietOk l vals.length = true) (hp : ∀ β, allEnvA l vals β σ = pre β ++ σ) (hl : l.drop vals.length = tl)
    (hal:(List.range vals.length).filter (laysA vals)=al) (hhs:∀ β,al.map (segA vals β)=hs β)
    (h:∀ β,TL F P S w0 n l.toArray Q tl ds (pre β++σ) (hs β++η)):DA F P S w0 n l ds σ η Q vals:=by
  intro hqs a w hk hh id
  refine wpIn_region_any hm ?_
  have hml:vals.length≤l.length:=by
    simp only [quietOk,Bool.and_eq_true] at hqo
    exact Nat.le_of_ble_eq_true hqo.1
  have main:∀ (f:Nat) (β:Nat→Nat) (X:List Nat) (L:Array Bool) (a:Act) (w:World),L.toList.countP (· == false)=f→InvA S w0 n l ds σ η vals β X L a w→wpAnyIn F 0 P .any l.toArray Q f L a w:=by
    have last:∀ (f:Nat) (β:Nat→Nat) (X:List Nat) (L:Array Bool) (a:Act) (w:World),L.toList.countP (· == false)=f→(∀ k,k<vals.length→L[k]?=some true)→InvA S w0 n l ds σ η vals β X L a w→wpAnyIn F 0 P .any l.toArray Q f L a w:=by
      intro f β X L a w hc hall hi
      have hsz:=hi.size
      have hL:∀ j,j<l.length→L[j]?=some (decide (j<vals.length)):=fun j hj=>by
        by_cases h1:j<vals.length
        · rw [hall j h1]; simp [h1]
        · have hj':j<L.size:=by omega
          have:L[j]?≠some true:=fun e=>h1 (hi.dom j e)
          simp only [hj',Array.getElem?_eq_getElem] at this ⊢
          cases h4:L[j] with
          | true=>rw [h4] at this; exact absurd rfl this
          | false=>simp [h1]
      have hLeq:L.toList=List.replicate vals.length true++List.replicate (l.length - vals.length) false:=by
        apply List.ext_getElem?
        intro j
        rw [Array.getElem?_toList]
        by_cases hj:j<l.length
        · rw [hL j hj]
          by_cases h1:j<vals.length
          · rw [List.getElem?_append_left (by simpa using h1)]; simp [h1]
          · rw [List.getElem?_append_right (by simpa using h1)]
            rw [List.getElem?_replicate,List.length_replicate,if_pos (by omega)]
            simp [h1]
        · rw [Array.getElem?_eq_none (by omega),List.getElem?_eq_none (by simp; omega)]
      have hf:vals.length+f=l.length:=by
        rw [hLeq] at hc
        simp [List.countP_append,List.countP_replicate] at hc
        omega
      refine any_tail hd ht f vals.length L a w hf (Nat.le_refl _) hsz hL ?_
      rw [hl]
      refine h β a w ?_ (hi.hp.perm ?_)
      · rw [← hp β]
        exact hi.kl.all (fun k hk'=>by rw [List.length_map]; exact hi.dom k hk') (fun k hk'=>hall k (by simpa using hk'))
      · refine List.Perm.append_right η ?_
        rw [← hhs β,← hal]
        refine List.Perm.map _ ?_
        rw [List.perm_ext_iff_of_nodup (List.Pairwise.sublist List.filter_sublist List.nodup_range) hi.nd]
        intro j
        rw [List.mem_filter,List.mem_range,hi.mem]
        constructor
        · rintro ⟨h1,h2⟩; exact ⟨hall j h1,h2⟩
        · rintro ⟨h1,h2⟩; exact ⟨hi.dom j h1,h2⟩
    intro f
    induction f with
    | zero =>
      intro β X L a w hc hi
      refine last 0 β X L a w hc (fun j hj=>?_) hi
      have hsz:=hi.size
      have hj':j<L.size:=by omega
      rw [List.countP_eq_zero] at hc
      have:=hc L[j] (by simp)
      simp at this
      simp [hj',this]
    | succ f ih =>
      intro β X L a w hc hi
      have hsz:=hi.size
      by_cases hall:∀ k,k<vals.length→L[k]?=some true
      · exact last (f+1) β X L a w hc hall hi
      · simp only [Classical.not_forall] at hall
        obtain ⟨j,hj,hjn⟩:=hall
        have hjL:L[j]?=some false:=by
          have hj':j<L.size:=by omega
          simp only [hj',Array.getElem?_eq_getElem] at hjn ⊢
          cases h4:L[j] with
          | true=>rw [h4] at hjn; exact absurd rfl hjn
          | false=>rfl
        refine ⟨fun he=>by
          obtain ⟨i,hi'⟩:=ready_ex hd hsz j hjL
          rw [he] at hi'; simp at hi',fun i hir=>?_⟩
        obtain ⟨h1,h2⟩:=mem_ready hsz hir
        have hilt:=(Array.getElem?_eq_some_iff.1 h1).1
        have him:i<vals.length:=by
          rcases Nat.lt_or_ge i vals.length with h3 | h3
          · exact h3
          · have:L[j]?=some true:=by
              simp only [tailOk,List.all_eq_true,List.mem_range,Bool.or_eq_true] at ht
              rcases ht i (by omega) with h4 | h4
              · have:i<vals.length:=Nat.le_of_ble_eq_true h4
                omega
              · rcases h4 j (by omega) with h5 | h5
                · exact h2 j h5
                · exact waitsT_done hi.down _ i j h2 h5
            rw [hjL] at this; cases this
        have hcnt:(L.setIfInBounds i true).toList.countP (· == false)=f:=by
          rw [Array.toList_setIfInBounds,List.countP_set (by simpa using hilt)]
          have h7:L.toList[i]'(by simpa using hilt)=false:=by
            have:=(Array.getElem?_eq_some_iff.1 h1).2
            simpa using this
          rw [h7,hc]; simp
        have hset:∀ k,(L.setIfInBounds i true)[k]?=some true↔k=i∨L[k]?=some true:=by
          intro k
          rw [Array.getElem?_setIfInBounds]
          by_cases e:i=k
          · subst e; simp [hilt]
          · rw [if_neg e]
            constructor
            · exact .inr
            · rintro (h | h)
              · exact absurd h.symm e
              · exact h
        have hdom':∀ k,(L.setIfInBounds i true)[k]?=some true→k<vals.length:=fun k hk'=>by
          rcases (hset k).1 hk' with e | e
          · omega
          · exact hi.dom k e
        have hdown':∀ k j,waits l k j=true→(L.setIfInBounds i true)[k]?=some true→(L.setIfInBounds i true)[j]?=some true:=by
          intro k j hw hk'
          rcases (hset k).1 hk' with e | hk2
          · subst e; exact (hset j).2 (.inr (h2 j hw))
          · exact (hset j).2 (.inr (hi.down k j hw hk2))
        have hvi:vals[i]?=some vals[i]:=by simp [him]
        obtain ⟨o,d,ho,hod,_,_,_,hgo⟩:=hqs i _ hvi
        obtain ⟨env,henv,hop⟩:=hgo β
        have hdi:dstOf l i=some d:=by simp [dstOf,ho,hod]
        have hke:∀ t v,lk (envs env) t=some v→a.tmps[t]?=some v:=hi.kl.env h1 hi.down h2 henv.plain
        have hkn:Kn n ds (envs env++fullEnv a) a:=⟨hi.kl.size,hi.kl.defers,fun t v htv=>by
          rcases lk_append htv with h5 | ⟨_,h5⟩
          · exact hke t v h5
          · exact lk_full a t v h5⟩
        have hfr:∀ v a',Kn n ds ((d,v)::(envs env++fullEnv a)) a'→a'.tmps[d]?=some v∧∀ t u,t≠d→a.tmps[t]?=some u→a'.tmps[t]?=some u:=by
          intro v a' hk'
          refine ⟨hk'.slot d _ (by rw [lk_cons,if_pos rfl]),fun t u hne htu=>?_⟩
          refine hk'.slot t u ?_
          rw [lk_cons,if_neg (Ne.symm hne)]
          have hfull:lk (fullEnv a) t=some u:=by
            have:=lk_full' a.tmps.toList 0 t u (by simpa using htu)
            simpa [fullEnv] using this
          have happ:∀ (e1:Env),(∀ v,lk e1 t=some v→v=u)→lk (e1++fullEnv a) t=some u:=by
            intro e1
            induction e1 with
            | nil=>intro _; exact hfull
            | cons p r ihr =>
              obtain ⟨s,v⟩:=p
              intro hv
              rw [List.cons_append,lk_cons]
              by_cases hst:s=t
              · rw [if_pos hst,hv v (by rw [lk_cons,if_pos hst])]
              · rw [if_neg hst]; exact ihr fun v' hv'=>hv v' (by rw [lk_cons,if_neg hst]; exact hv')
          exact happ _ fun v hv=>by
            have:=hke t v hv
            rw [htu] at this; cases this; rfl
        have hXL:∀ j∈X,L[j]?=some true:=fun j hj=>((hi.mem j).1 hj).1
        have hiX:i ∉ X:=fun hm=>by have:=hXL i hm; rw [h1] at this; cases this
        unfold GoA at hop
        cases hsx:vals[i].s with
        | none =>
          rw [hsx] at hop
          have h6:=hop (fullEnv a) _ a w hkn hi.hp
          rw [wpListIn_one (i:=i) (by simp [ho])] at h6
          refine wpOpIn_monoQ (fun a' w' hx=>?_) (fun e a' w' hne hx=>by cases e <;> first | exact absurd rfl hne | exact hx.elim) h6
          obtain ⟨hk',hh'⟩:=(show Kn n ds ((d,vals[i].v β)::(envs env++fullEnv a)) a'∧Hp S w0 (X.map (segA vals β)++η) w' from hx)
          have hnl:laysA vals i=false:=by
            unfold laysA; rw [hvi]
            cases hv:vals[i] with
            | mk xv xs xu=>rw [hv] at hsx; simp only at hsx; subst hsx; rfl
          refine ih β X _ a' w' hcnt ⟨by simp [hsz],hdom',hdown',?_,hi.nd,fun j=>?_,hh'⟩
          · exact hi.kl.putA (vals':=vals.map fun x=>x.v β) (fun _ _ _ _ h=>h) rfl (by rw [List.length_map]; exact hqo) (fun k hk'=>by rw [List.length_map]; exact hi.dom k hk') h1 (by rw [List.getElem?_map,hvi]; rfl) hdi hk'.size hk'.defers (hfr _ a' hk').1 (hfr _ a' hk').2
          · rw [hi.mem,hset]
            constructor
            · rintro ⟨a1,a2⟩; exact ⟨.inr a1,a2⟩
            · rintro ⟨a1 | a1,a2⟩
              · subst a1; rw [hnl] at a2; cases a2
              · exact ⟨a1,a2⟩
        | some g =>
          rw [hsx] at hop
          have h6:=hop (fullEnv a) _ a w hkn hi.hp
          rw [wpListIn_one (i:=i) (by simp [ho])] at h6
          refine wpOpIn_monoQ (fun a' w' hx=>?_) (fun e a' w' hne hx=>by cases e <;> first | exact absurd rfl hne | exact hx.elim) h6
          obtain ⟨b,hk',hh'⟩:=(show ∃ b,Kn n ds ((d,vals[i].v (updB β i b))::(envs env++fullEnv a)) a'∧Hp S w0 ([(b,g (updB β i b))]::(X.map (segA vals β)++η)) w' from hx)
          have hnl:laysA vals i=true∧segA vals (updB β i b) i=[(b,g (updB β i b))]:=by
            unfold laysA segA; rw [hvi]
            cases hv:vals[i] with
            | mk xv xs xu=>rw [hv] at hsx; simp only at hsx; subst hsx; exact ⟨rfl,by simp [updB]⟩
          refine ih (updB β i b) (i::X) _ a' w' hcnt ⟨by simp [hsz],hdom',hdown',?_,List.nodup_cons.2 ⟨hiX,hi.nd⟩,fun j=>?_,?_⟩
          · refine hi.kl.putA (fun j u hji hj hv=>?_) (by simp) (by rw [List.length_map]; exact hqo) (fun k hk'=>by rw [List.length_map]; exact hi.dom k hk') h1 (by rw [List.getElem?_map,hvi]; rfl) hdi hk'.size hk'.defers (hfr _ a' hk').1 (hfr _ a' hk').2
            rw [List.getElem?_map] at hv ⊢
            cases hvj:vals[j]? with
            | none=>rw [hvj] at hv; cases hv
            | some x =>
              rw [hvj] at hv
              have:=(look_cut hqs hi.down (b:=b) (β:=β) h1 hj hvj).1
              simp only [Option.map_some,Option.some.injEq] at hv ⊢
              rw [← this]; exact hv
          · rw [List.mem_cons,hi.mem,hset]
            constructor
            · rintro (rfl | ⟨a1,a2⟩)
              · exact ⟨.inl rfl,hnl.1⟩
              · exact ⟨.inr a1,a2⟩
            · rintro ⟨a1 | a1,a2⟩
              · exact .inl a1
              · exact .inr ⟨a1,a2⟩
          · rw [List.map_cons,hnl.2,segs_same hqs hi.down h1 hXL]; exact hh'
  refine main _ (fun _=>0) [] _ a _ (by simp [List.countP_replicate]) ⟨by simp,fun k hk'=>by simp [Array.getElem?_replicate] at hk',fun k j _ hk'=>by simp [Array.getElem?_replicate] at hk',⟨hk.size,hk.defers,fun t v h1 _=>hk.slot t v h1,fun i v d hi=>by simp [Array.getElem?_replicate] at hi⟩,List.nodup_nil,fun i=>by simp [Array.getElem?_replicate],hh.drew _⟩
/-- Ends of such operations. -/
theorem TL.finA {d i:Nat} {v:(Nat→Nat)→Value} {f:(Nat→Nat)→Obj} {β:Nat→Nat} {σ':Env} {u:Value} {s:Seg} {ops:Array Oper} (b:Nat) (hv:v (updB β i b)=u) (hs:[(b,f (updB β i b))]=s):TL F P S w0 n ops (FinA S w0 n ds η σ' d i v f β) [] ds ((d,u)::σ') (s::η):=by
  subst hv; subst hs
  exact fun a w hk hh=>⟨b,hk,hh⟩
end Go.Sl
