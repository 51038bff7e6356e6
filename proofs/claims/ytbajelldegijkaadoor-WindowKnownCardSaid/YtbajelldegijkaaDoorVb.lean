/- Several texts in one. -/
import Derived.Test.YtbajelldegijkaaDoorVa
import Derived.ProofKit
import Derived.Deep.Slices
import Derived.Laws.StructEq
import Derived.Shelf.SlSortCmp.NoneTotal
/- Results in memory; parts of arrays that are written; calls through interfaces that may panic; a copy. -/
namespace Go.Sl
section
variable {F:Fence} {P:Program} {S:Nat→Prop} {w0 w:World} {n:Nat} {Q:Exit→Act→World→Prop} {ds:List Deferred} {σ:Env} {η:Heap} {ops:Array Oper} {rest:List Oper} {d:Nat} {ty:TypeId} {pos:String} {af:Array Edge}

theorem run_loadCells {cs:List Value} {sz b o:Nat} (hl:cs.length=sz) (hv:∀ i v,cs[i]?=some v→At S w0 η ⟨b,o+i,none⟩ v) (hh:Hp S w0 η w):(loadCells ⟨b,o,none⟩ sz).run P w = .ok cs.toArray w:=by
  unfold loadCells
  rw [run_loadCellsFrom rfl (fun i=>cs.getD i undef) sz 0 #[] (fun j _ h2=>by
    have h3:cs[j]?=some (cs.getD j undef):=by
      have:j<cs.length:=by omega
      simp [List.getD_eq_getElem?_getD,this]
    have h4:=(hv j _ h3).cell hh
    have:(⟨b,o,none⟩:Addr).add j=⟨b,o+j,none⟩:=by
      unfold Addr.add; split
      · subst_vars; rfl
      · rfl
    rw [this]; exact h4)]
  congr 1
  simp only [Array.empty_append]
  congr 1
  apply List.ext_getElem?
  intro i
  rw [List.getElem?_map]
  by_cases hi:i<sz
  · rw [List.getElem?_range' hi]; simp [List.getD_eq_getElem?_getD,hl,hi]
  · simp [hl,hi]

/-- The end of a function whose one result lies in memory: several cells. -/
theorem TQ.retC {fn : Func} {c : Nat} {ct : TypeId} [Ag P ct true] {z : Value} {sz bt : Nat} [Inf P ct z sz bt] (cs : List Value) {b : Nat} {R : Value → Heap → Prop} (η2 : Heap) (hr : fn.results = #[ResultVar.cell c ct]) (hc : lk σ c = some (.pointer (some ⟨b, 0, none⟩)))
    (hl:cs.length=sz) (hv:∀ i v,cs[i]?=some v→At S w0 η ⟨b,0+i,none⟩ v) (hs:η2.Sublist η) (hR:R (.agg cs.toArray) η2):TQ S w0 n (bodyPost P fn (post R S w0) .ret) [] σ η:=fun a w hk hh=>by
  refine ⟨hk.defers,.agg cs.toArray,?_,_,η2,rfl,hh.seg hs,hR⟩
  have hc2:=hk.slot _ _ hc
  unfold results
  rw [hr]
  simp [Array.getD_eq_getD_getElem?,hc2,asAddr,loadVar,Ag.eq (t:=ct) (b:=true),run_sizeOf (t:=ct) (z:=z) (sz:=sz) (bt:=bt),run_loadCells hl hv hh]
/-- The same: one cell. -/
theorem TQ.retC1 {fn : Func} {c : Nat} {ct : TypeId} [Ag P ct false] {b : Nat} {x : Value} {R : Value → Heap → Prop} (η2 : Heap) (hr : fn.results = #[ResultVar.cell c ct]) (hc : lk σ c = some (.pointer (some ⟨b, 0, none⟩)))
    (hx:At S w0 η ⟨b,0,none⟩ x) (hs:η2.Sublist η) (hR:R x η2):TQ S w0 n (bodyPost P fn (post R S w0) .ret) [] σ η:=fun a w hk hh=>by
  refine ⟨hk.defers,x,?_,_,η2,rfl,hh.seg hs,hR⟩
  have hc2:=hk.slot _ _ hc
  unfold results
  rw [hr]
  simp [Array.getD_eq_getD_getElem?,hc2,asAddr,run_loadVar1 (hx.cell hh)]

/-- A store of several cells in the midst of a block. -/
theorem TL.storeAs (hF : Open F) {t : TypeId} {z : Value} {sz bt : Nat} [Inf P t z sz bt] {x y : Operand} {b o : Nat} (vs new : List Value) (i : Nat) {cs : List Value} {e : TypeId} (hx : ev σ x = some (.pointer (some ⟨b, o, none⟩))) (hy : ev σ y = some (.agg vs.toArray))
    (hi:η[i]?=some [(b,.cells cs.toArray e (0,0))]) (hl:vs.length=sz) (hv:∀ v∈vs,v.oneCell'=true) (ho:o+sz≤cs.length) (hnew:cs.take o++vs++cs.drop (o+vs.length)=new) (h:TL F P S w0 n ops Q rest ds σ (η.set i [(b,.cells new.toArray e (0,0))])) :
    TL F P S w0 n ops Q (⟨none,.store t x y,ty,pos,af,none⟩::rest) ds σ η:=by
  refine TL.storeAI hF (z:=z) (bt:=bt) vs i hx hy hi hl hv (by simpa using ho) ?_
  rw [foldl_set vs cs.toArray o (by simp; omega)]
  rw [hnew]; exact h

theorem TL.invokeE (hF : Open F) {rv : Operand} {m : String} {args : Array Operand} {ats : Array TypeId} {g : FuncId} {t : TypeId} {x rcv : Value} {vs : List Value} [Ent P g] {R : Value → Heap → Prop} {E : List PanicEntry → Heap → Prop}
    (hrv:ev σ rv=some (.iface t x)) (ha:evs σ args.toList=some vs) (hm:∀ w,(method (P.types.size+Made.depth) t x m).run P w = .ok (g,rcv) w)
    (hc:RtE P g (rcv::vs).toArray S w0 η R E) (hn:Nat.blt d n=true) (h:∀ v η',R v η'→TL F P S w0 n ops Q rest ds ((d,v)::σ) η') (he:∀ ch η',E ch η'→TQ S w0 n (Q (.panic ch)) ds σ η') :
    TL F P S w0 n ops Q (⟨some d,.call ⟨.invoke rv m,args,ats⟩,ty,pos,af,none⟩::rest) ds σ η :=
  TL.invokeG hF hrv ha hm hc (fun v η' hr _a _w hk hh=>h v η' hr _ _ (hk.put (Nat.le_of_ble_eq_true hn) v) hh) he

/-- A look into a map of booleans. -/
theorem TL.lookupB (hF : Open F) {t kt et : TypeId} [Und P t (.map kt et)] {sz bt : Nat} [Inf P et (.bool false) sz bt] {α : Type} [DecidableEq α] {K : α → Value} [MKey P kt K] {m : List (α × Bool)} {es : Array MapEntry} {clock b : Nat} (k : α)
    {x y:Operand} (hx:ev σ x=some (.map (some b))) (hy:ev σ y=some (K k)) (hb:[(b,.map es clock)]∈η) (hm:MObj K Value.bool m es clock) (hn:Nat.blt d n=true)
    (h:TL F P S w0 n ops Q rest ds ((d,.bool ((mget k m).getD false))::σ) η):TL F P S w0 n ops Q (⟨some d,.lookup t x y false,ty,pos,af,none⟩::rest) ds σ η :=
  TL.lookup hF Value.bool k hx hy hb hm hn (by
    have e:(mget k m).elim (Value.bool false) Value.bool = .bool ((mget k m).getD false):=by cases mget k m <;> rfl
    rw [e]; exact h)
theorem TL.lookupOkB (hF : Open F) {t kt et : TypeId} [Und P t (.map kt et)] {sz bt : Nat} [Inf P et (.bool false) sz bt] {α : Type} [DecidableEq α] {K : α → Value} [MKey P kt K] {m : List (α × Bool)} {es : Array MapEntry} {clock b : Nat} (k : α)
    {x y:Operand} (hx:ev σ x=some (.map (some b))) (hy:ev σ y=some (K k)) (hb:[(b,.map es clock)]∈η) (hm:MObj K Value.bool m es clock) (hn:Nat.blt d n=true)
    (h:TL F P S w0 n ops Q rest ds ((d,.tuple #[.bool ((mget k m).getD false),.bool (mget k m).isSome])::σ) η):TL F P S w0 n ops Q (⟨some d,.lookup t x y true,ty,pos,af,none⟩::rest) ds σ η :=
  TL.lookupOk hF Value.bool k hx hy hb hm hn (by
    have e:(mget k m).elim (Value.bool false) Value.bool = .bool ((mget k m).getD false):=by cases mget k m <;> rfl
    rw [e]; exact h)
theorem own_list {b i:Nat} {cs:List Value} {e:TypeId} {fz:Nat × Nat} (h:η[i]?=some [(b,Obj.cells cs.toArray e fz)]):∀ j v,cs[j]?=some v→At S w0 η ⟨b,0+j,none⟩ v:=fun j v hj=>by
  rw [Nat.zero_add]; exact At.own' h (by simpa using hj)
/-- A call that goes through, or panics, and turns nothing. -/
theorem TL.callM (hF : Open F) {f : Operand} {args : Array Operand} {ats : Array TypeId} {g : FuncId} {al : List Value} [Ent P g] {A B : Prop} {c0 : List PanicEntry}
    (hc:RtE P g al.toArray S w0 η (fun _ η'=>A∧η'=η) (fun ch η'=>B∧ch=c0∧η'=η)) (ha:callOf σ f args=some (g,al)) (hn:Nat.blt d n=true) (h:A→∀ v,TL F P S w0 n ops Q rest ds ((d,v)::σ) η) (he:B→TQ S w0 n (Q (.panic c0)) ds σ η) :
    TL F P S w0 n ops Q (⟨some d,.call ⟨.value f,args,ats⟩,ty,pos,af,none⟩::rest) ds σ η :=
  TL.callE hF hc ha hn (fun v η' hr=>by obtain ⟨h1,rfl⟩:=hr; exact h h1 v) (fun ch η' hr=>by obtain ⟨h1,rfl,rfl⟩:=hr; exact he h1)
theorem TL.invokeM (hF : Open F) {rv : Operand} {m : String} {args : Array Operand} {ats : Array TypeId} {g : FuncId} {t : TypeId} {x rcv : Value} {vs : List Value} [Ent P g] {A B : Prop} {c0 : List PanicEntry}
    (hrv:ev σ rv=some (.iface t x)) (ha:evs σ args.toList=some vs) (hm:∀ w,(method (P.types.size+Made.depth) t x m).run P w = .ok (g,rcv) w)
    (hc:RtE P g (rcv::vs).toArray S w0 η (fun _ η'=>A∧η'=η) (fun ch η'=>B∧ch=c0∧η'=η)) (hn:Nat.blt d n=true) (h:A→∀ v,TL F P S w0 n ops Q rest ds ((d,v)::σ) η) (he:B→TQ S w0 n (Q (.panic c0)) ds σ η) :
    TL F P S w0 n ops Q (⟨some d,.call ⟨.invoke rv m,args,ats⟩,ty,pos,af,none⟩::rest) ds σ η :=
  TL.invokeE hF hrv ha hm hc hn (fun v η' hr=>by obtain ⟨h1,rfl⟩:=hr; exact h h1 v) (fun ch η' hr=>by obtain ⟨h1,rfl,rfl⟩:=hr; exact he h1)
end
end Go.Sl
/- Ranges over functions: their ends; loops that leave marks. -/
namespace Go.Sl
section
variable {F:Fence} {P:Program} {S:Nat→Prop} {w0 w:World} {n:Nat} {Q:Exit→Act→World→Prop} {ds:List Deferred} {σ:Env} {η:Heap} {ops:Array Oper} {rest:List Oper} {d:Nat} {ty:TypeId} {pos:String} {af:Array Edge}

theorem TQ.swapT {tl tl':Heap} {body:Code} {Q':Exit→Act→World→Prop} (η1:Heap) (he:η=η1++tl) (h:T F P S w0 n Q body ds σ (η1++tl')):TQ S w0 n (Exit.then (Swap S w0 tl tl' fun a w=>body.wpIn F 0 P Q a w) Q' .normal) ds σ η:=TQ.swap η1 he h

theorem own_listM {b:Nat} {cs:List Value} {e:TypeId} {fz:Nat × Nat} (h:[(b,Obj.cells cs.toArray e fz)]∈η):∀ j v,cs[j]?=some v→At S w0 η ⟨b,0+j,none⟩ v:=fun j v hj=>by
  rw [Nat.zero_add]; exact .own _ h cs.toArray e fz (by simp) (by simpa using hj) rfl

/-- The end of a function behind its marks. -/
theorem TQ.retL0 {fn : Func} (ts : List Nat) (vs : List Value) {v : Value} {R : Value → Heap → Prop} (hr : fn.results = (ts.map ResultVar.tmp).toArray) (hv : lks σ ts = some vs) (he : retVal vs = v) (hR : R v η) :
    TQ S w0 n (bodyPostL P fn (post R S w0) .ret) [] σ η:=fun a w hk hh=>by
  show Lv P fn a.tmps (post R S w0) a.defers .returning w
  rw [hk.defers]
  exact ⟨v,by rw [results_run hr hk (lks_map hv),retVal_eq,he],v,η,rfl,hh,hR⟩
theorem TQ.retLC1 {fn : Func} {c : Nat} {ct : TypeId} [Ag P ct false] {b : Nat} {x : Value} {R : Value → Heap → Prop} (η2 : Heap) (hr : fn.results = #[ResultVar.cell c ct]) (hc : lk σ c = some (.pointer (some ⟨b, 0, none⟩)))
    (hx:At S w0 η ⟨b,0,none⟩ x) (hs:η2.Sublist η) (hR:R x η2):TQ S w0 n (bodyPostL P fn (post R S w0) .ret) [] σ η:=fun a w hk hh=>by
  show Lv P fn a.tmps (post R S w0) a.defers .returning w
  rw [hk.defers]
  refine ⟨x,?_,x,η2,rfl,hh.seg hs,hR⟩
  have hc2:=hk.slot _ _ hc
  unfold results
  rw [hr]
  simp [Array.getD_eq_getD_getElem?,hc2,asAddr,run_loadVar1 (hx.cell hh)]

/-- Marks, and their places. -/
def marksH (rs:List Nat):Heap:=rs.map fun r=>[(r,.deferred (some []))]
theorem TQ.marks {fn : Func} {R : Value → Heap → Prop} {e : Exit} {dsr : List Deferred} (he : e = .ret ∨ ∃ ch, e = .panic ch) (h : TQ S w0 n (bodyPostL P fn (post R S w0) e) dsr σ η) :
    ∀ rs:List Nat,TQ S w0 n (bodyPostL P fn (post R S w0) e) (marksOf rs++dsr) σ (marksH rs++η)
  | []=>h
  | _r::rs=>TQ.mark (i:=0) he rfl (TQ.pop (TQ.marks he h rs))

/-- A loop whose rounds leave marks. -/
theorem T.loopD {c : Code} {ι : Type} (J : ι → Prop) (sg : ι → Env) (hp : ι → Heap) (sd : ι → List Deferred) (μ : ι → Nat) (i0 : ι) (h0 : J i0) (hs : Sub (sg i0) σ) (he : η = hp i0) (hd : ds = sd i0)
    (round:∀ i,J i→T F P S w0 n (Exit.then (fun a w=>∃ j,J j∧μ j<μ i∧Kn n (sd j) (sg j) a∧Hp S w0 (hp j) w) Q) c (sd i) (sg i) (hp i)) :
    T F P S w0 n Q (.loop c) ds σ η:=fun a w hk hh=>by
  refine wpIn_loopR (fun m a w=>∃ i,J i∧μ i=m∧Kn n (sd i) (sg i) a∧Hp S w0 (hp i) w) ?_ (m:=μ i0) ⟨i0,h0,rfl,hd ▸ hk.sub hs,he ▸ hh⟩
  rintro m a w ⟨i,hi,rfl,hk,hh⟩
  refine wpIn_mono (round i hi a w hk hh) ?_
  intro e a' w' hq
  cases e with
  | normal=>obtain ⟨j,h1,h2,h3,h4⟩:=hq; exact ⟨_,h2,j,h1,rfl,h3,h4⟩
  | _=>exact hq
theorem TQ.roundD {ι : Type} {J : ι → Prop} {sg : ι → Env} {hp : ι → Heap} {sd : ι → List Deferred} {μ : ι → Nat} {i : ι} (j : ι) (hj : J j) (hm : μ j < μ i) (hs : Sub (sg j) σ) (he : η = hp j) (hd : ds = sd j) :
    TQ S w0 n (Exit.then (fun a w=>∃ j,J j∧μ j<μ i∧Kn n (sd j) (sg j) a∧Hp S w0 (hp j) w) Q .normal) ds σ η:=fun _ _ hk hh=>⟨j,hj,hm,hd ▸ hk.sub hs,he ▸ hh⟩
end
end Go.Sl
/- Copies. -/
namespace Go.Sl
section
variable {F:Fence} {P:Program} {S:Nat→Prop} {w0 w:World} {n:Nat} {Q:Exit→Act→World→Prop} {ds:List Deferred} {σ:Env} {η:Heap} {ops:Array Oper} {rest:List Oper} {d:Nat} {ty:TypeId} {pos:String} {af:Array Edge}

/-- A copy, into a part of an owned block. -/
theorem TL.copy (hF : Open F) (i : Nat) {t ts e : TypeId} [Und P t (.slice e)] {z : Value} {sz bt : Nat} [Inf P e z sz bt] {x y : Operand} {g o dl dc m mc k : Nat} {a : Option Addr} {cs : List Value} {e' : TypeId} (news new : List Value) (hx : ev σ x = some (.slice (some ⟨g, o, none⟩) dl dc)) (hy : ev σ y = some (.slice a m mc))
    (hi:η[i]?=some [(g,.cells cs.toArray e' (0,0))]) (hk:k=min m dl) (hs:Row S w0 η a news) (hl:news.length=k*sz) (h1:∀ u∈news,u.oneCell'=true) (ho:o+k*sz≤cs.length) (hnew:cs.take o++news++cs.drop (o+k*sz)=new) (hn:Nat.blt d n=true)
    (h:TL F P S w0 n ops Q rest ds ((d,.int .i64 (k:Int))::σ) (η.set i [(g,.cells new.toArray e' (0,0))])) :
    TL F P S w0 n ops Q (⟨some d,.call ⟨.builtin .copy,#[x,y],#[t,ts]⟩,ty,pos,af,none⟩::rest) ds σ η :=
  TL.val hF (by intro c; simp) hn fun b w hkn hh=>by
    have hg:=hh.inMem (List.mem_of_getElem? hi)
    have hfc:(Builtin.firstCells sz k (.slice a m mc)).run P w = .ok news.toArray w:=by
      have h0:=run_firstCells (P:=P) (m:=k) (c:=mc) hs hl hh
      cases a <;> exact h0
    have hst:=run_storeCells (P:=P) (e:=e') (b:=g) news cs.toArray o 0 w hg (by simp; omega) h1
    simp only [Nat.add_zero] at hst
    rw [foldl_set _ _ _ (by simp; omega)] at hst
    have hnew':(cs.toArray.toList.take o++news++cs.toArray.toList.drop (o+news.length))=new:=by rw [hl]; exact hnew
    rw [hnew'] at hst
    refine ⟨.int .i64 (k:Int),_,_,?_,hh.turnI hi _,h⟩
    have hk':Nat.min m dl=k:=hk.symm
    have e2:(Builtin.copy_ #[t,ts] ty #[.slice (some ⟨g,o,none⟩) dl dc,.slice a m mc]).run P w = .ok (.int .i64 (k:Int)) (putBlk w g (.cells new.toArray e' (0,0))):=by
      simp [Builtin.copy_,run_underlying (t:=t) (d:=.slice e),run_sizeOf (t:=e) (z:=z) (sz:=sz) (bt:=bt),Builtin.lenOf,hk',hfc,hst,goInt]
    simp [execOp,resolve,Go.invoke,Go.builtin,hkn.ev hx,hkn.ev hy,e2]
end
end Go.Sl
/- Integers of other kinds: sums, products, bits, shifts, remainders, conversions. -/
namespace Go.Sl
theorem wrap_u {k:IntKind} (hs:k.signed=false) {a:Int} (h0:0≤a) (h1:a<2 ^ k.bits):k.wrap a=a:=by
  unfold IntKind.wrap
  simp only [hs,Bool.false_and,Bool.false_eq_true,if_false]
  exact Int.emod_eq_of_lt h0 h1
theorem wrap_u64 {a:Int} (h0:0≤a) (h1:a<18446744073709551616):IntKind.u64.wrap a=a:=wrap_u rfl h0 (by simpa [IntKind.bits] using h1)
section
variable {F:Fence} {P:Program} {S:Nat→Prop} {w0 w:World} {n:Nat} {Q:Exit→Act→World→Prop} {ds:List Deferred} {σ:Env} {η:Heap} {ops:Array Oper} {rest:List Oper} {d:Nat} {ty:TypeId} {pos:String} {af:Array Edge}
theorem TL.addK (hF : Open F) {xt yt : TypeId} {x y : Operand} {k : IntKind} {a b r : Int} (hx : ev σ x = some (.int k a)) (hy : ev σ y = some (.int k b)) (hr : k.wrap (a + b) = r) (hn : Nat.blt d n = true)
    (h:TL F P S w0 n ops Q rest ds ((d,.int k r)::σ) η):TL F P S w0 n ops Q (⟨some d,.binOp .add xt x y yt,ty,pos,af,none⟩::rest) ds σ η:=TL.bin hF hx hy (by simp [intOp,hr]) hn h
theorem TL.subK (hF : Open F) {xt yt : TypeId} {x y : Operand} {k : IntKind} {a b r : Int} (hx : ev σ x = some (.int k a)) (hy : ev σ y = some (.int k b)) (hr : k.wrap (a - b) = r) (hn : Nat.blt d n = true)
    (h:TL F P S w0 n ops Q rest ds ((d,.int k r)::σ) η):TL F P S w0 n ops Q (⟨some d,.binOp .sub xt x y yt,ty,pos,af,none⟩::rest) ds σ η:=TL.bin hF hx hy (by simp [intOp,hr]) hn h
theorem TL.mulK (hF : Open F) {xt yt : TypeId} {x y : Operand} {k : IntKind} {a b r : Int} (hx : ev σ x = some (.int k a)) (hy : ev σ y = some (.int k b)) (hr : k.wrap (a * b) = r) (hn : Nat.blt d n = true)
    (h:TL F P S w0 n ops Q rest ds ((d,.int k r)::σ) η):TL F P S w0 n ops Q (⟨some d,.binOp .mul xt x y yt,ty,pos,af,none⟩::rest) ds σ η:=TL.bin hF hx hy (by simp [intOp,hr]) hn h
theorem TL.convK (hF : Open F) {s t : TypeId} {d1 : TypeDesc} {k k' : IntKind} [Und P s d1] [Und P t (.int k)] {x : Operand} {a r : Int} (hx : ev σ x = some (.int k' a)) (hr : k.wrap a = r) (hn : Nat.blt d n = true)
    (h:TL F P S w0 n ops Q rest ds ((d,.int k r)::σ) η):TL F P S w0 n ops Q (⟨some d,.convert s t x,ty,pos,af,none⟩::rest) ds σ η :=
  TL.pure hF (by intro c; simp) hn (fun a w hk _=>by simp [execOp,hk.ev hx,convert,run_underlying (t:=s) (d:=d1),run_underlying (t:=t) (d:=.int k),Conv.intToInt,hr]) h
theorem and_toNat {b a m:Nat} (ha:a<2 ^ b) (hm:m<2 ^ b):(BitVec.ofInt b (a:Int) &&& BitVec.ofInt b (m:Int)).toNat=a &&& m:=by
  rw [BitVec.toNat_and,BitVec.ofInt_natCast,BitVec.ofInt_natCast,BitVec.toNat_ofNat,BitVec.toNat_ofNat,Nat.mod_eq_of_lt ha,Nat.mod_eq_of_lt hm]
theorem TL.andN (hF : Open F) {xt yt : TypeId} {x y : Operand} {k : IntKind} {a m : Nat} (hx : ev σ x = some (.int k (a : Int))) (hy : ev σ y = some (.int k (m : Int))) (hs : k.signed = false) (ha : a < 2 ^ k.bits) (hm : m < 2 ^ k.bits) (hn : Nat.blt d n = true)
    (h:TL F P S w0 n ops Q rest ds ((d,.int k ((a &&& m:Nat):Int))::σ) η):TL F P S w0 n ops Q (⟨some d,.binOp .and xt x y yt,ty,pos,af,none⟩::rest) ds σ η :=
  TL.pure hF (by intro c; simp) hn (fun b w hk _=>by
    have hle:a &&& m≤a:=Nat.and_le_left
    have hw:k.wrap ((a &&& m:Nat):Int)=((a &&& m:Nat):Int):=wrap_u hs (by omega) (by
      have:((a &&& m:Nat):Int)<((2 ^ k.bits:Nat):Int):=by omega
      simpa using this)
    have hb:(Op.intBits .and k (a:Int) (m:Int)).run P w = .ok (.int k ((a &&& m:Nat):Int)) w:=by
      unfold Op.intBits
      simp only [and_toNat ha hm,Sem.run_pure,hw]
    simp [execOp,hk.ev hx,hk.ev hy,eqGuard,binOp,hb]) h
theorem TL.shrN (hF : Open F) {xt yt : TypeId} {x y : Operand} {k yk : IntKind} {a s : Nat} (hx : ev σ x = some (.int k (a : Int))) (hy : ev σ y = some (.int yk (s : Int))) (hs : s ≤ k.bits) (hn : Nat.blt d n = true)
    (h:TL F P S w0 n ops Q rest ds ((d,.int k ((a / 2 ^ s:Nat):Int))::σ) η):TL F P S w0 n ops Q (⟨some d,.binOp .shr xt x y yt,ty,pos,af,none⟩::rest) ds σ η :=
  TL.pure hF (by intro c; simp) hn (fun b w hk _=>by
    have hb:(Op.shift .shr k (a:Int) yk (s:Int)).run P w = .ok (.int k ((a / 2 ^ s:Nat):Int)) w:=by
      unfold Op.shift
      rw [if_neg (by omega)]
      have e:min ((s:Int).toNat) k.bits=s:=by rw [Int.toNat_natCast]; exact Nat.min_eq_left hs
      simp only [e,Sem.run_pure]
      rw [Int.fdiv_eq_ediv_of_nonneg _ (by exact_mod_cast Nat.zero_le (2 ^ s))]
      congr 2
    simp [execOp,hk.ev hx,hk.ev hy,eqGuard,binOp,hb]) h
theorem TL.remN (hF : Open F) {xt yt : TypeId} {x y : Operand} {k : IntKind} {a b : Nat} (hx : ev σ x = some (.int k (a : Int))) (hy : ev σ y = some (.int k (b : Int))) (hb : 0 < b) (hn : Nat.blt d n = true)
    (h:TL F P S w0 n ops Q rest ds ((d,.int k ((a % b:Nat):Int))::σ) η):TL F P S w0 n ops Q (⟨some d,.binOp .rem xt x y yt,ty,pos,af,none⟩::rest) ds σ η :=
  TL.pure hF (by intro c; simp) hn (fun c w hk _=>by
    have hb':(Op.intDiv .rem k (a:Int) (b:Int)).run P w = .ok (.int k ((a % b:Nat):Int)) w:=by
      unfold Op.intDiv
      rw [if_neg (by omega)]
      simp only [Sem.run_pure]
      congr 2
    simp [execOp,hk.ev hx,hk.ev hy,eqGuard,binOp,hb']) h
end
end Go.Sl
/- Regions that draw their order, in which some operations write: pure ones are told once, heavy ones in each order that may come. -/
namespace Go.Sl

/-- What is known of the operations: place, value, kind (0: pure; 1: reads the heap; 2: carried out). -/
abbrev VL:=List (Nat × Value × Nat)
def vget:VL→Nat→Option Value
  | [],_=>none
  | (i,v,_)::r,j=>bif Nat.beq i j then some v else vget r j
def execV (V:VL):VL:=V.map fun x=>(x.1,x.2.1,bif Nat.beq x.2.2 1 then 2 else x.2.2)
theorem vget_cons (i:Nat) (v:Value) (k:Nat) (r:VL) (j:Nat):vget ((i,v,k)::r) j=if i=j then some v else vget r j:=by
  simp only [vget]
  by_cases h:i=j
  · subst h; simp
  · have:Nat.beq i j=false:=by
      cases hb:Nat.beq i j
      · rfl
      · exact absurd (Nat.eq_of_beq_eq_true hb) h
    simp [this,h]
theorem vget_exec:∀ (V:VL) (j:Nat),vget (execV V) j=vget V j
  | [],_=>rfl
  | (i,v,k)::r,j=>by
    have:=vget_exec r j
    show vget ((i,v,_)::execV r) j=_
    rw [vget_cons,vget_cons,this]
theorem vget_mem:∀ {V:VL} {j:Nat} {v:Value},vget V j=some v→∃ k,(j,v,k)∈V
  | (i,u,k)::r,j,v,h=>by
    rw [vget_cons] at h
    by_cases hij:i=j
    · rw [if_pos hij] at h; cases h; subst hij; exact ⟨k,List.mem_cons_self⟩
    · rw [if_neg hij] at h; obtain ⟨k',hk⟩:=vget_mem h; exact ⟨k',List.mem_cons_of_mem _ hk⟩
theorem mem_vget:∀ {V:VL},(V.map (·.1)).Nodup→∀ {j:Nat} {v:Value} {k:Nat},(j,v,k)∈V→vget V j=some v
  | (i,u,k0)::r,hn,j,v,k,h=>by
    simp only [List.map_cons,List.nodup_cons] at hn
    rw [vget_cons]
    rcases List.mem_cons.1 h with h | h
    · cases h; simp
    · have:i≠j:=fun e=>hn.1 (by rw [e]; exact List.mem_map.2 ⟨_,h,rfl⟩)
      rw [if_neg this]; exact mem_vget hn.2 h
def EnvOkV (l:List Oper) (σ:Env) (V:VL) (i:Nat):List (Nat × Value × Option Nat)→Prop
  | []=>True
  | (t,v,some j)::r=>(waits l i j=true∧dstOf l j=some t∧vget V j=some v)∧EnvOkV l σ V i r
  | (t,v,none)::r=>(lk σ t=some v∧clean l i t=true)∧EnvOkV l σ V i r
theorem EnvOkV.ext {l:List Oper} {σ:Env} {V V':VL} {i:Nat} (h:∀ j v,vget V j=some v→vget V' j=some v):∀ {env:List (Nat × Value × Option Nat)},EnvOkV l σ V i env→EnvOkV l σ V' i env
  | [],_=>trivial
  | (_t,u,some j)::_r,he=>⟨⟨he.1.1,he.1.2.1,h j u he.1.2.2⟩,EnvOkV.ext h he.2⟩
  | (_t,_u,none)::_r,he=>⟨he.1,EnvOkV.ext h he.2⟩
def complete (l:List Oper) (m:Nat) (V:VL) (hs:List Nat):Bool:=(List.range m).all fun i=>(vget V i).isSome || hs.any (Nat.beq i) || (List.range l.length).any fun j=>(vget V j).isNone && (waits l i j || waitsT l l.length i j)
def readersOk (l:List Oper) (V:VL) (h:Nat):Bool:=V.all fun x=>!Nat.beq x.2.2 1 || (waits l h x.1 || waitsT l l.length h x.1)
def allEnvV (l:List Oper) (V:VL) (σ:Env):Env:=(V.filterMap fun x=>(dstOf l x.1).map fun d=>(d,x.2.1))++σ
def dstsOk (l:List Oper) (m:Nat):Bool:=Nat.ble m l.length && distinct ((List.range m).map (dstOf l))

section
variable {F:Fence} {P:Program} {S:Nat→Prop} {w0 w:World} {n:Nat} {Q:Exit→Act→World→Prop} {l:List Oper} {ds:List Deferred} {σ:Env} {η:Heap}
structure InvD (S:Nat→Prop) (w0:World) (n:Nat) (l:List Oper) (ds:List Deferred) (σ:Env) (V:VL) (η:Heap) (L:Array Bool) (a:Act) (w:World):Prop where
  size:L.size=l.length
  dom:∀ i,L[i]?=some true→(vget V i).isSome=true
  done:∀ i v,(i,v,2)∈V→L[i]?=some true
  down:∀ k j,waits l k j=true→L[k]?=some true→L[j]?=some true
  tsize:a.tmps.size=n
  defers:a.defers=ds
  old:∀ t v,lk σ t=some v→(∀ k,L[k]?=some true→dstOf l k≠some t)→a.tmps[t]?=some v
  new:∀ i v d,L[i]?=some true→vget V i=some v→dstOf l i=some d→a.tmps[d]?=some v
  hp:Hp S w0 η w
def QSV (F:Fence) (P:Program) (S:Nat→Prop) (w0:World) (n:Nat) (l:List Oper) (ds:List Deferred) (σ:Env) (V:VL) (η:Heap) (i:Nat) (v:Value):Prop :=
  ∃ o d env,l[i]?=some o∧o.dst=some d∧EnvOkV l σ V i env∧∀ ext:Env,TL F P S w0 n l.toArray (Fin S w0 n ds η ((d,v)::(envs env++ext))) [o] ds (envs env++ext) η
theorem QSV.ext {V V':VL} {i:Nat} {v:Value} (h:∀ j v,vget V j=some v→vget V' j=some v) (hq:QSV F P S w0 n l ds σ V η i v):QSV F P S w0 n l ds σ V' η i v:=by
  obtain ⟨o,d,env,h1,h2,h3,h4⟩:=hq
  exact ⟨o,d,env,h1,h2,h3.ext h,h4⟩
def DH (F:Fence) (P:Program) (S:Nat→Prop) (w0:World) (n:Nat) (l:List Oper) (ds:List Deferred) (σ:Env) (Q:Exit→Act→World→Prop) (m:Nat) (V:VL) (η:Heap):Prop :=
  (V.map (·.1)).Nodup→(∀ i v,(i,v,0)∈V→∀ η',QSV F P S w0 n l ds σ V η' i v)→(∀ i v,(i,v,1)∈V→QSV F P S w0 n l ds σ V η i v)→(∀ i v k,(i,v,k)∈V→i<m∧(k=0∨k=1∨k=2)) →
    ∀ f L a w,L.toList.countP (· == false)=f→InvD S w0 n l ds σ V η L a w→wpAnyIn F 0 P .any l.toArray Q f L a w

variable {m:Nat} {V:VL}
theorem DH.quiet {k0 i:Nat} {v:Value} (hk0:k0=0∨k0=1) (him:Nat.blt i m=true) (hnew:vget V i=none) (hq0:k0=0→∀ η',QSV F P S w0 n l ds σ V η' i v) (hq1:k0=1→QSV F P S w0 n l ds σ V η i v) (h:DH F P S w0 n l ds σ Q m ((i,v,k0)::V) η):DH F P S w0 n l ds σ Q m V η:=by
  intro hn h0 h1 hk f L a w hc hi
  have hext:∀ j u,vget V j=some u→vget ((i,v,k0)::V) j=some u:=by
    intro j u hj
    rw [vget_cons]
    by_cases e:i=j
    · subst e; rw [hnew] at hj; cases hj
    · rw [if_neg e]; exact hj
  have hni:i ∉ V.map (·.1):=by
    intro hm
    obtain ⟨⟨j,u,k⟩,hx,he⟩:=List.mem_map.1 hm
    simp only at he; subst he
    have:=mem_vget hn hx
    rw [hnew] at this; cases this
  refine h (List.nodup_cons.2 ⟨hni,hn⟩) ?_ ?_ ?_ f L a w hc ⟨hi.size,?_,?_,hi.down,hi.tsize,hi.defers,hi.old,?_,hi.hp⟩
  · intro j u hm η'
    rcases List.mem_cons.1 hm with e | hm
    · cases e; exact (hq0 rfl η').ext hext
    · exact (h0 j u hm η').ext hext
  · intro j u hm
    rcases List.mem_cons.1 hm with e | hm
    · cases e; exact (hq1 rfl).ext hext
    · exact (h1 j u hm).ext hext
  · intro j u k hm
    rcases List.mem_cons.1 hm with e | hm
    · cases e; exact ⟨Nat.le_of_ble_eq_true him,by rcases hk0 with h | h <;> simp [h]⟩
    · exact hk j u k hm
  · intro j hj
    have:=hi.dom j hj
    cases hv:vget V j with
    | none=>simp [hv] at this
    | some u=>rw [hext j u hv]; rfl
  · intro j u hm
    rcases List.mem_cons.1 hm with e | hm
    · cases e; rcases hk0 with h | h <;> cases h
    · exact hi.done j u hm
  · intro j u d hj hv hd
    rw [vget_cons] at hv
    by_cases e:i=j
    · subst e
      have:=hi.dom i hj
      rw [hnew] at this; simp at this
    · rw [if_neg e] at hv; exact hi.new j u d hj hv hd
/-- A pure operation. -/
theorem DH.pure {i : Nat} {v : Value} (env : List (Nat × Value × Option Nat)) {o : Oper} {d : Nat} (ho : l[i]? = some o) (hd : o.dst = some d) (him : Nat.blt i m = true) (hnew : vget V i = none) (he : EnvOkV l σ V i env)
    (hop:∀ (η:Heap) (ext:Env),TL F P S w0 n l.toArray (Fin S w0 n ds η ((d,v)::(envs env++ext))) [o] ds (envs env++ext) η) (h:DH F P S w0 n l ds σ Q m ((i,v,0)::V) η):DH F P S w0 n l ds σ Q m V η :=
  DH.quiet (.inl rfl) him hnew (fun _ η'=>⟨o,d,env,ho,hd,he,hop η'⟩) (fun e=>by cases e) h
/-- An operation that reads the heap. -/
theorem DH.read {i : Nat} {v : Value} (env : List (Nat × Value × Option Nat)) {o : Oper} {d : Nat} (ho : l[i]? = some o) (hd : o.dst = some d) (him : Nat.blt i m = true) (hnew : vget V i = none) (he : EnvOkV l σ V i env)
    (hop:∀ ext:Env,TL F P S w0 n l.toArray (Fin S w0 n ds η ((d,v)::(envs env++ext))) [o] ds (envs env++ext) η) (h:DH F P S w0 n l ds σ Q m ((i,v,1)::V) η):DH F P S w0 n l ds σ Q m V η :=
  DH.quiet (.inr rfl) him hnew (fun e=>by cases e) (fun _=>⟨o,d,env,ho,hd,he,hop⟩) h

/-- What is asked behind a heavy operation. -/
def QB (F:Fence) (P:Program) (S:Nat→Prop) (w0:World) (n:Nat) (l:List Oper) (ds:List Deferred) (σ:Env) (Q:Exit→Act→World→Prop) (m:Nat) (V:VL) (h d:Nat) (σ':Env):Exit→Act→World→Prop
  | .normal,a,w=>∃ v η',Kn n ds ((d,v)::σ') a∧Hp S w0 η' w∧DH F P S w0 n l ds σ Q m ((h,v,2)::execV V) η'
  | e,a,w=>Q e a w
theorem TL.finD {h d:Nat} {σ':Env} {v:Value} {ops:Array Oper} (hd:DH F P S w0 n l ds σ Q m ((h,v,2)::execV V) η):TL F P S w0 n ops (QB F P S w0 n l ds σ Q m V h d σ') [] ds ((d,v)::σ') η:=TL.nil fun _ _ hk hh=>⟨v,η,hk,hh,hd⟩
/-- A heavy operation that may come next. -/
def HB (F:Fence) (P:Program) (S:Nat→Prop) (w0:World) (n:Nat) (l:List Oper) (ds:List Deferred) (σ:Env) (Q:Exit→Act→World→Prop) (m:Nat) (V:VL) (η:Heap) (h:Nat):Prop :=
  ∃ o d env,l[h]?=some o∧o.dst=some d∧Nat.blt h m=true∧vget V h=none∧EnvOkV l σ V h env∧readersOk l V h=true∧∀ ext:Env,TL F P S w0 n l.toArray (QB F P S w0 n l ds σ Q m V h d (envs env++ext)) [o] ds (envs env++ext) η

theorem InvD.env {L : Array Bool} {a : Act} (hi : InvD S w0 n l ds σ V η L a w) {i : Nat} (hL : L[i]? = some false) (hready : ∀ j, waits l i j = true → L[j]? = some true) :
    ∀ {env:List (Nat × Value × Option Nat)},EnvOkV l σ V i env→∀ t v,lk (envs env) t=some v→a.tmps[t]?=some v
  | [],_,t,v,h=>by simp [envs,lk] at h
  | (s,u,some j)::r,he,t,v,h=>by
    simp only [envs] at h
    rw [lk_cons] at h
    by_cases hst:s=t
    · rw [if_pos hst] at h
      cases h; subst hst
      exact hi.new j u s (hready j he.1.1) he.1.2.2 he.1.2.1
    · rw [if_neg hst] at h
      exact InvD.env hi hL hready he.2 t v h
  | (s,u,none)::r,he,t,v,h=>by
    simp only [envs] at h
    rw [lk_cons] at h
    by_cases hst:s=t
    · rw [if_pos hst] at h
      cases h; subst hst
      refine hi.old s u he.1.1 fun k hk1 hk2=>?_
      have hc:=he.1.2
      simp only [clean,List.all_eq_true,List.mem_range,Bool.or_eq_true] at hc
      have hkl:k<l.length:=by have:=(Array.getElem?_eq_some_iff.1 hk1).1; rw [hi.size] at this; exact this
      rcases hc k hkl with (h1 | h1 | h1) | h1
      · rw [hk2] at h1; simp at h1
      · have:=hi.down k i h1 hk1
        rw [hL] at this; cases this
      · have:=waitsT_done hi.down _ k i (fun i' hi'=>hi.down k i' hi' hk1) h1
        rw [hL] at this; cases this
      · have:k=i:=Nat.eq_of_beq_eq_true h1
        subst this
        rw [hL] at hk1; cases hk1
    · rw [if_neg hst] at h
      exact InvD.env hi hL hready he.2 t v h

/-- One operation has been carried out. -/
theorem InvD.put {V' : VL} {η' : Heap} {L : Array Bool} {a a' : Act} {w' : World} (hi : InvD S w0 n l ds σ V η L a w) (hq : dstsOk l m = true) {i d : Nat} {v : Value} (him : i < m) (hL : L[i]? = some false) (hready : ∀ j, waits l i j = true → L[j]? = some true)
    (hV:∀ j u,vget V j=some u→vget V' j=some u) (hV':∀ j u,j≠i→vget V' j=some u→vget V j=some u) (hvi:vget V' i=some v) (hdom:∀ j,(vget V j).isSome=true→j<m) (hdi:dstOf l i=some d)
    (hdone:∀ j u,(j,u,2)∈V'→j=i∨L[j]?=some true)
    (hs:a'.tmps.size=n) (hds:a'.defers=ds) (hd:a'.tmps[d]?=some v) (ho:∀ t u,t≠d→a.tmps[t]?=some u→a'.tmps[t]?=some u) (hh:Hp S w0 η' w'):InvD S w0 n l ds σ V' η' (L.setIfInBounds i true) a' w':=by
  have hil:=(Array.getElem?_eq_some_iff.1 hL).1
  have hset:∀ k,(L.setIfInBounds i true)[k]?=some true↔k=i∨L[k]?=some true:=by
    intro k
    rw [Array.getElem?_setIfInBounds]
    by_cases e:i=k
    · subst e; simp [hil]
    · rw [if_neg e]
      constructor
      · exact .inr
      · rintro (h | h)
        · exact absurd h.symm e
        · exact h
  have hq':quietOk l m=true:=hq
  refine ⟨by simp [hi.size],?_,?_,?_,hs,hds,?_,?_,hh⟩
  · intro k hk
    rcases (hset k).1 hk with e | hk
    · subst e; rw [hvi]; rfl
    · have:=hi.dom k hk
      cases hv:vget V k with
      | none=>simp [hv] at this
      | some u=>rw [hV k u hv]; rfl
  · intro j u hj
    rcases hdone j u hj with e | h
    · exact (hset j).2 (.inl e)
    · exact (hset j).2 (.inr h)
  · intro k j hw hk
    rcases (hset k).1 hk with e | hk
    · subst e; exact (hset j).2 (.inr (hready j hw))
    · exact (hset j).2 (.inr (hi.down k j hw hk))
  · intro t u ht hno
    have hne:t≠d:=fun e=>hno i ((hset i).2 (.inl rfl)) (by rw [hdi,e])
    exact ho t u hne (hi.old t u ht fun k hk=>hno k ((hset k).2 (.inr hk)))
  · intro j u d' hj hv hd'
    rcases (hset j).1 hj with e | hj2
    · subst e
      rw [hvi] at hv; cases hv
      rw [hdi] at hd'; cases hd'
      exact hd
    · have hji:j≠i:=fun e=>by subst e; rw [hL] at hj2; cases hj2
      refine ho d' u (fun e=>?_) (hi.new j u d' hj2 (hV' j u hji hv) hd')
      subst e
      exact hji (dst_ne hq' (hdom j (hi.dom j hj2)) him hd' hdi)

/-- An operation that is carried out from here. -/
theorem run_one {L : Array Bool} {a : Act} {i d : Nat} {o : Oper} {env : List (Nat × Value × Option Nat)} {QO : Env → Exit → Act → World → Prop} (hi : InvD S w0 n l ds σ V η L a w) (hL : L[i]? = some false) (hready : ∀ j, waits l i j = true → L[j]? = some true) (ho : l[i]? = some o) (henv : EnvOkV l σ V i env)
    (hop:∀ ext:Env,TL F P S w0 n l.toArray (QO (envs env++ext)) [o] ds (envs env++ext) η) :
    wpOpIn F 0 P l.toArray (QO (envs env++fullEnv a)) i (fun a' w'=>QO (envs env++fullEnv a) .normal a' w') a w∧(∀ v a',Kn n ds ((d,v)::(envs env++fullEnv a)) a'→a'.tmps[d]?=some v∧∀ t u,t≠d→a.tmps[t]?=some u→a'.tmps[t]?=some u):=by
  have hke:∀ t v,lk (envs env) t=some v→a.tmps[t]?=some v:=hi.env hL hready henv
  have hkn:Kn n ds (envs env++fullEnv a) a:=⟨hi.tsize,hi.defers,fun t v htv=>by
    rcases lk_append htv with h5 | ⟨_,h5⟩
    · exact hke t v h5
    · exact lk_full a t v h5⟩
  have h6:=hop (fullEnv a) a w hkn hi.hp
  rw [wpListIn_one (i:=i) (by simp [ho])] at h6
  refine ⟨wpOpIn_mono (fun a' w' hx=>hx) h6,fun v a' hk'=>⟨hk'.slot d _ (by rw [lk_cons,if_pos rfl]),fun t u hne htu=>?_⟩⟩
  refine hk'.slot t u ?_
  rw [lk_cons,if_neg (Ne.symm hne)]
  have hfull:lk (fullEnv a) t=some u:=by
    have:=lk_full' a.tmps.toList 0 t u (by simpa using htu)
    simpa [fullEnv] using this
  have happ:∀ (e1:Env),(∀ v,lk e1 t=some v→v=u)→lk (e1++fullEnv a) t=some u:=by
    intro e1
    induction e1 with
    | nil=>intro _; exact hfull
    | cons p r ihr =>
      obtain ⟨s,v⟩:=p
      intro hv
      rw [List.cons_append,lk_cons]
      by_cases hst:s=t
      · rw [if_pos hst,hv v (by rw [lk_cons,if_pos hst])]
      · rw [if_neg hst]; exact ihr fun v' hv'=>hv v' (by rw [lk_cons,if_neg hst]; exact hv')
  exact happ _ fun v hv=>by
    have:=hke t v hv
    rw [htu] at this; cases this; rfl

/-- A node: the heavy operations that may come next; at a leaf the tail. -/
theorem DH.node (hs : List Nat) (hd : dagOk l = true) (ht : tailOk l m = true) (hq : dstsOk l m = true) (hcomp : complete l m V hs = true) (hbr : ∀ h ∈ hs, HB F P S w0 n l ds σ Q m V η h)
    (hleaf:(∀ i,i<m→(vget V i).isSome=true)→TL F P S w0 n l.toArray Q (l.drop m) ds (allEnvV l V σ) η):DH F P S w0 n l ds σ Q m V η:=by
  intro hn h0 h1 hk
  have hml:m≤l.length:=by
    simp only [dstsOk,Bool.and_eq_true] at hq
    exact Nat.le_of_ble_eq_true hq.1
  have hdom:∀ j,(vget V j).isSome=true→j<m:=by
    intro j hj
    cases hv:vget V j with
    | none=>simp [hv] at hj
    | some u=>obtain ⟨k,hm⟩:=vget_mem hv; exact (hk j u k hm).1
  have last:∀ (f:Nat) (L:Array Bool) (a:Act) (w:World),L.toList.countP (· == false)=f→InvD S w0 n l ds σ V η L a w→(∀ k,k<m→L[k]?=some true)→wpAnyIn F 0 P .any l.toArray Q f L a w:=by
    intro f L a w hc hi hall
    have hsz:=hi.size
    have hLq:∀ k,L[k]?=some true→k<m:=fun k hk'=>hdom k (hi.dom k hk')
    have hL:∀ j,j<l.length→L[j]?=some (decide (j<m)):=fun j hj=>by
      by_cases h1:j<m
      · rw [hall j h1]; simp [h1]
      · have hj':j<L.size:=by omega
        have:L[j]?≠some true:=fun e=>h1 (hLq j e)
        simp only [hj',Array.getElem?_eq_getElem] at this ⊢
        cases h4:L[j] with
        | true=>rw [h4] at this; exact absurd rfl this
        | false=>simp [h1]
    have hLeq:L.toList=List.replicate m true++List.replicate (l.length - m) false:=by
      apply List.ext_getElem?
      intro j
      rw [Array.getElem?_toList]
      by_cases hj:j<l.length
      · rw [hL j hj]
        by_cases h1:j<m
        · rw [List.getElem?_append_left (by simpa using h1)]; simp [h1]
        · rw [List.getElem?_append_right (by simpa using h1)]
          rw [List.getElem?_replicate,List.length_replicate,if_pos (by omega)]
          simp [h1]
      · rw [Array.getElem?_eq_none (by omega),List.getElem?_eq_none (by simp; omega)]
    have hf:m+f=l.length:=by
      rw [hLeq] at hc
      simp [List.countP_append,List.countP_replicate] at hc
      omega
    refine any_tail hd ht f m L a w hf (Nat.le_refl _) hsz hL (hleaf (fun i him=>hi.dom i (hall i him)) a w ⟨hi.tsize,hi.defers,fun t v htv=>?_⟩ hi.hp)
    have hmem:∀ t v,(t,v)∈(V.filterMap fun x=>(dstOf l x.1).map fun d=>(d,x.2.1))→∃ i,vget V i=some v∧dstOf l i=some t:=by
      intro t v h
      obtain ⟨⟨i,u,k⟩,h1,h2⟩:=List.mem_filterMap.1 h
      simp only [Option.map_eq_some_iff,Prod.mk.injEq] at h2
      obtain ⟨d,hd,rfl,rfl⟩:=h2
      exact ⟨i,mem_vget hn h1,hd⟩
    rcases lk_append htv with h5 | ⟨h5,h6⟩
    · obtain ⟨i,h3,h4⟩:=hmem t v (lk_mem h5)
      exact hi.new i v t (hall i (hdom i (by rw [h3]; rfl))) h3 h4
    · refine hi.old t v h6 fun k hk1 hk2=>?_
      have hkv:=hi.dom k hk1
      cases hv:vget V k with
      | none=>simp [hv] at hkv
      | some u =>
        obtain ⟨kk,hm⟩:=vget_mem hv
        refine lk_none h5 u (List.mem_filterMap.2 ⟨(k,u,kk),hm,by simp [hk2]⟩)
  intro f
  induction f with
  | zero =>
    intro L a w hc hi
    refine last 0 L a w hc hi (fun j hj=>?_)
    have hsz:=hi.size
    have hj':j<L.size:=by omega
    rw [List.countP_eq_zero] at hc
    have:=hc L[j] (by simp)
    simp at this
    simp [hj',this]
  | succ f ih =>
    intro L a w hc hi
    have hsz:=hi.size
    by_cases hall:∀ k,k<m→L[k]?=some true
    · exact last (f+1) L a w hc hi hall
    · simp only [Classical.not_forall] at hall
      obtain ⟨j,hj,hjn⟩:=hall
      have hjL:L[j]?=some false:=by
        have hj':j<L.size:=by omega
        simp only [hj',Array.getElem?_eq_getElem] at hjn ⊢
        cases h4:L[j] with
        | true=>rw [h4] at hjn; exact absurd rfl hjn
        | false=>rfl
      refine ⟨fun he=>by
        obtain ⟨i,hi'⟩:=ready_ex hd hsz j hjL
        rw [he] at hi'; simp at hi',fun i hir=>?_⟩
      obtain ⟨hLi,hready⟩:=mem_ready hsz hir
      have hilt:=(Array.getElem?_eq_some_iff.1 hLi).1
      have him:i<m:=by
        rcases Nat.lt_or_ge i m with h3 | h3
        · exact h3
        · have:L[j]?=some true:=by
            simp only [tailOk,List.all_eq_true,List.mem_range,Bool.or_eq_true] at ht
            rcases ht i (by omega) with h4 | h4
            · have:i<m:=Nat.le_of_ble_eq_true h4
              omega
            · rcases h4 j (by omega) with h5 | h5
              · exact hready j h5
              · exact waitsT_done hi.down _ i j hready h5
          rw [hjL] at this; cases this
      have hcnt:(L.setIfInBounds i true).toList.countP (· == false)=f:=by
        rw [Array.toList_setIfInBounds,List.countP_set (by simpa using hilt)]
        have h7:L.toList[i]'(by simpa using hilt)=false:=by
          have:=(Array.getElem?_eq_some_iff.1 hLi).2
          simpa using this
        rw [h7,hc]; simp
      simp only [complete,List.all_eq_true,List.mem_range,Bool.or_eq_true] at hcomp
      rcases hcomp i him with (hv | hv) | hv
      · -- a quiet one
        cases hvi:vget V i with
        | none=>simp [hvi] at hv
        | some v =>
          obtain ⟨k,hmem⟩:=vget_mem hvi
          have hqs:QSV F P S w0 n l ds σ V η i v:=by
            rcases (hk i v k hmem).2 with e | e | e
            · subst e; exact h0 i v hmem η
            · subst e; exact h1 i v hmem
            · subst e; have:=hi.done i v hmem; rw [hLi] at this; cases this
          obtain ⟨o,d,env,ho,hod,henv,hop⟩:=hqs
          have hdi:dstOf l i=some d:=by simp [dstOf,ho,hod]
          obtain ⟨hrun,hfr⟩:=run_one (d:=d) (QO:=fun σ'=>Fin S w0 n ds η ((d,v)::σ')) hi hLi hready ho henv hop
          refine wpOpIn_monoQ (fun a' w' hx=>?_) (fun e a' w' hne hx=>by cases e <;> first | exact absurd rfl hne | exact hx.elim) hrun
          obtain ⟨hk',hh'⟩:=(show Kn n ds ((d,v)::(envs env++fullEnv a)) a'∧Hp S w0 η w' from hx)
          exact ih _ a' w' hcnt (hi.put hq him hLi hready (fun _ _ h=>h) (fun _ _ _ h=>h) hvi hdom hdi (fun j u hm=>.inr (hi.done j u hm)) hk'.size hk'.defers (hfr v a' hk').1 (hfr v a' hk').2 hh')
      · -- a heavy one
        have hih:i∈hs:=by
          obtain ⟨x,hx,he⟩:=List.any_eq_true.1 hv
          have:i=x:=Nat.eq_of_beq_eq_true he
          rw [this]; exact hx
        obtain ⟨o,d,env,ho,hod,_,hnew,henv,hrd,hop⟩:=hbr i hih
        have hdi:dstOf l i=some d:=by simp [dstOf,ho,hod]
        obtain ⟨hrun,hfr⟩:=run_one (d:=d) (QO:=fun σ'=>QB F P S w0 n l ds σ Q m V i d σ') hi hLi hready ho henv hop
        refine wpOpIn_monoQ (fun a' w' hx=>?_) (fun e a' w' hne hx=>by cases e <;> first | exact absurd rfl hne | exact hx) hrun
        obtain ⟨v,η',hk',hh',hdh⟩:=(show ∃ v η',Kn n ds ((d,v)::(envs env++fullEnv a)) a'∧Hp S w0 η' w'∧DH F P S w0 n l ds σ Q m ((i,v,2)::execV V) η' from hx)
        have hext:∀ j u,vget V j=some u→vget ((i,v,2)::execV V) j=some u:=by
          intro j u hj
          rw [vget_cons,vget_exec]
          by_cases e:i=j
          · subst e; rw [hnew] at hj; cases hj
          · rw [if_neg e]; exact hj
        have hex:∀ j u k,(j,u,k)∈execV V→∃ k0,(j,u,k0)∈V∧((k0=1∧k=2)∨(k0≠1∧k=k0)):=by
          intro j u k hm
          obtain ⟨⟨j0,u0,k0⟩,hx0,he⟩:=List.mem_map.1 hm
          simp only [Prod.mk.injEq] at he
          obtain ⟨rfl,rfl,hke⟩:=he
          refine ⟨k0,hx0,?_⟩
          by_cases e:k0=1
          · subst e; left; exact ⟨rfl,hke.symm⟩
          · right
            have:Nat.beq k0 1=false:=by
              cases hb:Nat.beq k0 1
              · rfl
              · exact absurd (Nat.eq_of_beq_eq_true hb) e
            rw [this] at hke; exact ⟨e,hke.symm⟩
        have hmapf:(execV V).map (·.1)=V.map (·.1):=by simp [execV,Function.comp_def]
        refine hdh ?_ ?_ ?_ ?_ f _ a' w' hcnt (hi.put hq him hLi hready hext ?_ (by rw [vget_cons,if_pos rfl]) hdom hdi ?_ hk'.size hk'.defers (hfr v a' hk').1 (hfr v a' hk').2 hh')
        · rw [List.map_cons,hmapf]
          refine List.nodup_cons.2 ⟨fun hm=>?_,hn⟩
          obtain ⟨⟨j0,u0,k0⟩,hx0,he⟩:=List.mem_map.1 hm
          simp only at he; subst he
          have:=mem_vget hn hx0
          rw [hnew] at this; cases this
        · intro j u hm η2
          rcases List.mem_cons.1 hm with e | hm
          · cases e
          · obtain ⟨k0,hx0,h2 | h2⟩:=hex j u 0 hm
            · exact absurd h2.2 (by decide)
            · rw [← h2.2] at hx0; exact (h0 j u hx0 η2).ext hext
        · intro j u hm
          rcases List.mem_cons.1 hm with e | hm
          · cases e
          · obtain ⟨k0,hx0,h2 | h2⟩:=hex j u 1 hm
            · exact absurd h2.2 (by decide)
            · exact absurd h2.2.symm h2.1
        · intro j u k hm
          rcases List.mem_cons.1 hm with e | hm
          · cases e; exact ⟨him,.inr (.inr rfl)⟩
          · obtain ⟨k0,hx0,h2 | h2⟩:=hex j u k hm
            · exact ⟨(hk j u k0 hx0).1,.inr (.inr h2.2)⟩
            · rw [h2.2]; exact hk j u k0 hx0
        · intro j u hji hv2
          rw [vget_cons,if_neg (fun e=>hji e.symm),vget_exec] at hv2; exact hv2
        · intro j u hm
          rcases List.mem_cons.1 hm with e | hm
          · cases e; exact .inl rfl
          · obtain ⟨k0,hx0,h2 | h2⟩:=hex j u 2 hm
            · right
              simp only [readersOk,List.all_eq_true] at hrd
              have h3:=hrd (j,u,k0) hx0
              simp only [h2.1,Bool.or_eq_true,Bool.not_eq_true'] at h3
              rcases h3 with h3 | h3 | h3
              · simp at h3
              · exact hready j h3
              · exact waitsT_done hi.down _ i j hready h3
            · right; rw [← h2.2] at hx0; exact hi.done j u hx0
      · -- it waits for what is not known
        exfalso
        simp only [List.any_eq_true,List.mem_range,Bool.and_eq_true,Bool.or_eq_true] at hv
        obtain ⟨j2,hj2,hnone,hw⟩:=hv
        have hLj:L[j2]?=some true:=by
          rcases hw with h5 | h5
          · exact hready j2 h5
          · exact waitsT_done hi.down _ i j2 hready h5
        have:=hi.dom j2 hLj
        cases hvv:vget V j2 with
        | none=>simp [hvv] at this
        | some u=>simp [hvv] at hnone
theorem DH.done (pre : Env) (tl : List Oper) (hd : dagOk l = true) (ht : tailOk l m = true) (hq : dstsOk l m = true) (hcomp : complete l m V [] = true) (hp : allEnvV l V σ = pre ++ σ) (hl : l.drop m = tl)
    (h:TL F P S w0 n l.toArray Q tl ds (pre++σ) η):DH F P S w0 n l ds σ Q m V η:=DH.node [] hd ht hq hcomp (by simp) (fun _=>by rw [hp,hl]; exact h)
theorem not_all {h:Nat} (hm:Nat.blt h m=true) (hv:vget V h=none) {X:Prop} (ha:∀ i,i<m→(vget V i).isSome=true):X:=by
  have:=ha h (Nat.le_of_ble_eq_true hm)
  rw [hv] at this; simp at this
/-- One heavy operation may come next. -/
theorem DH.heavy (h : Nat) (env : List (Nat × Value × Option Nat)) {o : Oper} {d : Nat} (hd : dagOk l = true) (ht : tailOk l m = true) (hq : dstsOk l m = true) (hcomp : complete l m V [h] = true) (ho : l[h]? = some o) (hod : o.dst = some d) (him : Nat.blt h m = true) (hnew : vget V h = none) (he : EnvOkV l σ V h env) (hrd : readersOk l V h = true)
    (hop:∀ ext:Env,TL F P S w0 n l.toArray (QB F P S w0 n l ds σ Q m V h d (envs env++ext)) [o] ds (envs env++ext) η):DH F P S w0 n l ds σ Q m V η :=
  DH.node [h] hd ht hq hcomp (fun h' hh=>by
    have:h'=h:=by simpa using hh
    subst this; exact ⟨o,d,env,ho,hod,him,hnew,he,hrd,hop⟩) (fun ha=>not_all him hnew ha)
/-- Two heavy operations may come next. -/
theorem DH.heavy2 {h1 h2:Nat} (hd:dagOk l=true) (ht:tailOk l m=true) (hq:dstsOk l m=true) (hcomp:complete l m V [h1,h2]=true) (b1:HB F P S w0 n l ds σ Q m V η h1) (b2:HB F P S w0 n l ds σ Q m V η h2):DH F P S w0 n l ds σ Q m V η :=
  DH.node [h1,h2] hd ht hq hcomp (fun h' hh=>by
    rcases List.mem_cons.1 hh with e | hh
    · subst e; exact b1
    · have:h'=h2:=by simpa using hh
      subst this; exact b2) (fun ha=>by obtain ⟨_,_,_,_,_,him,hnew,_⟩:=b1; exact not_all him hnew ha)
theorem T.drawH (m:Nat) {id:Nat} (hm:P.follows .mixedOrders=true) (h:DH F P S w0 n l ds σ Q m [] η):T F P S w0 n Q (.region id l.toArray true) ds σ η:=fun a w hk hh=>by
  refine wpIn_region_any hm ?_
  refine h (by simp) (by simp) (by simp) (by simp) _ _ a _ ?_ ?_
  · simp [List.countP_replicate]
  exact ⟨by simp,fun k hk=>by simp [Array.getElem?_replicate] at hk,by simp,fun k j _ hk=>by simp [Array.getElem?_replicate] at hk,hk.size,hk.defers,fun t v h1 _=>hk.slot t v h1,fun i v d hi=>by simp [Array.getElem?_replicate] at hi,hh.drew _⟩
end
end Go.Sl
/- Owned slices that begin behind the start of their block. -/
namespace Go.Sl
/-- An owned slice, from some place of its block on. -/
def OSx (e:TypeId) (sz:Nat) (v:Value) (n:Nat) (xs:List Value) (seg:Seg):Prop :=
  xs.length=n*sz∧((v = .slice none 0 0∧n=0∧seg=[]) ∨
    ∃ g o cap cur,v = .slice (some ⟨g,o,none⟩) n cap∧seg=[(g,.cells cur e (0,0))]∧n≤cap∧o+cap*sz≤cur.size∧(cur.toList.drop o).take (n*sz)=xs)
section
variable {P:Program} {S:Nat→Prop} {w0 w:World} {η:Heap}
theorem OSl.x {e:TypeId} {sz n:Nat} {v:Value} {xs:List Value} {seg:Seg} (h:OSl e sz v n xs seg):OSx e sz v n xs seg:=by
  refine ⟨h.1,?_⟩
  rcases h.2 with h2 | ⟨g,cap,cur,hv,hs,hnc,hcs,ht⟩
  · exact .inl h2
  · exact .inr ⟨g,0,cap,cur,hv,hs,hnc,by omega,by rw [List.drop_zero]; exact ht⟩
theorem OSx.nil (e:TypeId) (sz:Nat):OSx e sz (.slice none 0 0) 0 [] []:=⟨by simp,.inl ⟨rfl,rfl,rfl⟩⟩
theorem OSx.form {e:TypeId} {sz n:Nat} {v:Value} {xs:List Value} {seg:Seg} (h:OSx e sz v n xs seg):∃ a cap,v = .slice a n cap:=by
  rcases h.2 with ⟨rfl,rfl,_⟩ | ⟨g,o,cap,cur,rfl,_⟩ <;> exact ⟨_,_,rfl⟩
theorem OSx.row {e:TypeId} {sz n:Nat} {a:Option Addr} {l cap:Nat} {xs:List Value} {seg:Seg} (h:OSx e sz (.slice a l cap) n xs seg) (hs:seg∈η):Row S w0 η a xs:=by
  rcases h.2 with ⟨hv,hn,_⟩ | ⟨g,o,cap',cur,hv,hsg,hnc,hcs,ht⟩
  · have hx:xs=[]:=List.eq_nil_of_length_eq_zero (by have:=h.1; rw [hn] at this; simpa using this)
    subst hx
    exact ⟨fun hl=>by simp at hl,fun i v hi=>by simp at hi⟩
  · simp only [Value.slice.injEq] at hv
    obtain ⟨rfl,_,_⟩:=hv
    refine ⟨fun _=>⟨_,rfl,rfl⟩,fun i v hi=>?_⟩
    refine .own seg hs cur e (0,0) (by rw [hsg]; simp [sAt]) ?_ rfl
    rw [← ht,List.getElem?_take] at hi
    split at hi
    · rw [List.getElem?_drop] at hi; simpa [sAt] using hi
    · cases hi
theorem OSx.cut {e:TypeId} {sz n k:Nat} {a:Option Addr} {cap:Nat} {xs:List Value} {seg:Seg} (h:OSx e sz (.slice a n cap) n xs seg) (hk:k≤n):OSx e sz (.slice (if cap=k then a else a.map (·.add (k*sz))) (n - k) (cap - k)) (n - k) (xs.drop (k*sz)) seg:=by
  have hlen:(xs.drop (k*sz)).length=(n - k)*sz:=by rw [List.length_drop,h.1,Nat.sub_mul]
  refine ⟨hlen,?_⟩
  rcases h.2 with ⟨hv,hn,hs⟩ | ⟨g,o,cap',cur,hv,hsg,hnc,hcs,ht⟩
  · simp only [Value.slice.injEq] at hv
    obtain ⟨rfl,_,rfl⟩:=hv
    subst hn
    have:k=0:=by omega
    subst this
    exact .inl ⟨by simp,rfl,hs⟩
  · simp only [Value.slice.injEq] at hv
    obtain ⟨rfl,_,rfl⟩:=hv
    right
    by_cases hck:cap=k
    · refine ⟨g,o,0,cur,by rw [if_pos hck,hck]; simp,hsg,by omega,by omega,?_⟩
      have:n - k=0:=by omega
      have hl2:xs.length≤k*sz:=by rw [h.1]; exact Nat.mul_le_mul_right _ (by omega)
      rw [this,List.drop_of_length_le hl2]; simp
    · have hadd:(⟨g,o,none⟩:Addr).add (k*sz)=⟨g,o+k*sz,none⟩:=by
        unfold Addr.add; split
        · rename_i h0; simp
        · rfl
      have hmul:cap*sz=k*sz+(cap - k)*sz:=by rw [← Nat.add_mul]; congr 1; omega
      refine ⟨g,o+k*sz,cap - k,cur,by rw [if_neg hck]; simp [hadd],hsg,by omega,by omega,?_⟩
      rw [← ht,← List.drop_drop,List.drop_take,← Nat.sub_mul]
theorem run_appendX {t ty e : TypeId} [Und P t (.slice e)] {z : Value} {sz bt : Nat} [Inf P e z sz bt] (hz : z.cells.size = sz) {i n m : Nat} {v x : Value} {xs news : List Value} {seg : Seg} (hh : Hp S w0 η w) (hi : η[i]? = some seg)
    (ho:OSx e sz v n xs seg) (hs:Src S w0 η x m news) (hl:news.length=m*sz) (h1:∀ u∈news,u.oneCell'=true) (hb:(n+m)*bt≤140737488355328) (hsm:n+m≤4611686018427387904) :
    ∃ v' w' seg',(Builtin.append_ #[t,t] ty #[v,x]).run P w = .ok v' w'∧Hp S w0 (η.set i seg') w'∧OSx e sz v' (n+m) (xs++news) seg':=by
  obtain ⟨a,c,rfl,hr⟩:=hs
  have hfc:=run_firstCells (P:=P) (c:=c) hr hl hh
  have hlen:(xs++news).length=(n+m)*sz:=by rw [List.length_append,ho.1,hl,Nat.add_mul]
  obtain ⟨inf,hinf,hiz,hisz,hibt⟩:=run_typeInfo (P:=P) (t:=e) (z:=z) (sz:=sz) (bt:=bt)
  have grow : ∀ (base : Option Addr) (cap : Nat), v = .slice base n cap → cap < n + m → (Builtin.firstCells sz n v).run P w.drew = .ok xs.toArray w.drew →
      ∃ v' w' seg',(Builtin.append_ #[t,t] ty #[v,.slice a m c]).run P w = .ok v' w'∧Hp S w0 (η.set i seg') w'∧OSx e sz v' (n+m) (xs++news) seg':=by
    intro base cap hv hlt hold
    subst hv
    have hfc':(Builtin.firstCells sz m (.slice a m c)).run P w.drew = .ok news.toArray w.drew:=run_firstCells (P:=P) (c:=c) hr hl (hh.drew (w.drawn+1))
    have hg:=growslice_fits (old:=cap) (bytes:=bt) hlt hb
    have hq:(Question.appendCap (n+m) cap e).forced=false:=rfl
    have hcut:∃ k,(Question.appendCap (n+m) cap e).cut (w.tape w.drawn (.appendCap (n+m) cap e))=n+m+k:=⟨_,rfl⟩
    obtain ⟨k,hk⟩:=hcut
    refine ⟨.slice (some ⟨w.heap.size,0,none⟩) (n+m) (n+m+k),w.drew.alloc (.cells (xs.toArray++news.toArray++Builtin.zeroCells z.cells k) e (0,0)),[(w.heap.size,.cells (xs.toArray++news.toArray++Builtin.zeroCells z.cells k) e (0,0))],?_,(hh.drew (w.drawn+1)).freshI hi _,hlen,.inr ⟨_,0,_,_,rfl,rfl,by omega,?_,?_⟩⟩
    · have h3:¬ (n+m≤cap):=by omega
      simp only [Builtin.append_]
      simp [run_underlying (t:=t) (d:=.slice e),run_sizeOf (t:=e) (z:=z) (sz:=sz) (bt:=bt),Builtin.lenOf,h3,hinf,hibt,hq,hk,hold,hfc',run_zeroValue (t:=e) (z:=z) (sz:=sz) (bt:=bt),newRow]
      rw [if_neg (by omega),if_neg (by omega)]
      simp
      congr 2
      rw [← Array.append_assoc]
      simp
    · exact Nat.le_of_eq (by simp [Builtin.zeroCells,ho.1,hl,hz,Nat.add_mul])
    · rw [List.drop_zero]
      simp only [Array.toList_append,List.append_assoc]
      rw [← List.append_assoc,← hlen]
      exact List.take_left
  rcases ho.2 with ⟨rfl,rfl,rfl⟩ | ⟨g,o,cap,cur,rfl,rfl,hnc,hcs,htk⟩
  · have hx:xs=[]:=List.eq_nil_of_length_eq_zero (by simpa using ho.1)
    subst hx
    by_cases hm:m=0
    · subst hm
      have hn:news=[]:=List.eq_nil_of_length_eq_zero (by simpa using hl)
      subst hn
      refine ⟨.slice none 0 0,w,[],?_,?_,OSx.nil e sz⟩
      · simp [Builtin.append_,run_underlying (t:=t) (d:=.slice e),run_sizeOf (t:=e) (z:=z) (sz:=sz) (bt:=bt),Builtin.lenOf,hfc]
      · obtain ⟨pre,post,he,hse⟩:=flatten_set_sub (s':=([]:Seg)) hi
        rw [hse,← he]; exact hh
    · exact grow none 0 rfl (by omega) (by simp [Builtin.firstCells])
  · by_cases hroom:n+m≤cap
    · have hg:=(hh.own (g,.cells cur e (0,0)) (List.mem_flatten.2 ⟨_,List.mem_of_getElem? hi,by simp⟩)).1
      have hmul:(n+m)*sz≤cap*sz:=Nat.mul_le_mul_right _ hroom
      have hfit:o+n*sz+news.length≤cur.size:=by rw [hl]; rw [Nat.add_mul] at hmul; omega
      refine ⟨_,_,[(g,.cells ((cur.toList.take (o+n*sz)++news++cur.toList.drop (o+n*sz+news.length)).toArray) e (0,0))],?_,hh.turnI hi _,hlen,.inr ⟨g,o,cap,_,rfl,rfl,hroom,?_,?_⟩⟩
      · have hadd:(⟨g,o,none⟩:Addr).add (n*sz)=⟨g,o+n*sz,none⟩:=by
          unfold Addr.add; split
          · rename_i h0; simp
          · rfl
        have hst:=run_storeCells (P:=P) (e:=e) (b:=g) news cur (o+n*sz) 0 w hg (by simpa using hfit) h1
        simp only [Nat.add_zero] at hst
        rw [foldl_set _ _ _ hfit] at hst
        simp [Builtin.append_,run_underlying (t:=t) (d:=.slice e),run_sizeOf (t:=e) (z:=z) (sz:=sz) (bt:=bt),Builtin.lenOf,hroom,hfc,hadd,hst]
      · simp only [List.size_toArray,List.length_append,List.length_take,List.length_drop,Array.length_toList]
        omega
      · have hol:o≤(cur.toList.take (o+n*sz)).length:=by simp; omega
        have e1:(cur.toList.take (o+n*sz)).drop o=xs:=by
          rw [← htk,List.drop_take]; congr 1; omega
        show ((cur.toList.take (o+n*sz)++news++cur.toList.drop (o+n*sz+news.length)).drop o).take ((n+m)*sz)=xs++news
        rw [List.append_assoc,List.drop_append_of_le_length hol,e1,← List.append_assoc,← hlen]
        exact List.take_left
    · refine grow (some ⟨g,o,none⟩) cap rfl (by omega) ?_
      have hrow:Row S w0 η (some ⟨g,o,none⟩) xs:=ho.row (List.mem_of_getElem? hi)
      exact run_firstCells hrow ho.1 (hh.drew _)

end
section
variable {F:Fence} {P:Program} {S:Nat→Prop} {w0:World} {n:Nat} {Q:Exit→Act→World→Prop} {ds:List Deferred} {σ:Env} {η:Heap} {ops:Array Oper} {rest:List Oper} {d:Nat} {ty:TypeId} {pos:String} {af:Array Edge}
/-- append, of such a slice that is owned at place i. -/
theorem TL.appendX (hF : Open F) (i : Nat) {t e : TypeId} [Und P t (.slice e)] {z : Value} {sz bt : Nat} [Inf P e z sz bt] {x y : Operand} {k m : Nat} {v u : Value} {xs news : List Value} {seg : Seg} (hx : ev σ x = some v) (hy : ev σ y = some u)
    (hi:η[i]?=some seg) (ho:OSx e sz v k xs seg) (hs:Src S w0 η u m news) (hz:z.cells.size=sz) (hl:news.length=m*sz) (h1:∀ u∈news,u.oneCell'=true) (hb:(k+m)*bt≤140737488355328) (hsm:k+m≤4611686018427387904) (hn:Nat.blt d n=true)
    (h:∀ a cap seg',OSx e sz (.slice a (k+m) cap) (k+m) (xs++news) seg'→TL F P S w0 n ops Q rest ds ((d,.slice a (k+m) cap)::σ) (η.set i seg')) :
    TL F P S w0 n ops Q (⟨some d,.call ⟨.builtin .append,#[x,y],#[t,t]⟩,ty,pos,af,none⟩::rest) ds σ η :=
  TL.val hF (by intro c; simp) hn fun a w hk hh=>by
    obtain ⟨v',w',seg',hr,hh',ho'⟩:=run_appendX (P:=P) (t:=t) (ty:=ty) (e:=e) (z:=z) (sz:=sz) (bt:=bt) hz hh hi ho hs hl h1 hb hsm
    obtain ⟨a',cap,rfl⟩:=ho'.form
    exact ⟨_,w',_,by simp [execOp,resolve,Go.invoke,Go.builtin,hk.ev hx,hk.ev hy,hr],hh',h _ _ _ ho'⟩
end
end Go.Sl
/- Blocks that are from now on only read; what arguments hold; the frame of a law. -/
namespace Go.Sl
section
variable {F:Fence} {P:Program} {S:Nat→Prop} {w0 w:World} {n:Nat} {Q:Exit→Act→World→Prop} {ds:List Deferred} {σ:Env} {η:Heap} {ops:Array Oper}
/-- From one view of memory to the next one, in which some owned blocks are only read. -/
structure Frz (S S':Nat→Prop) (w0 w1:World) (ηr:Heap):Prop where
  back:∀ η' w',Hp S' w1 η' w'→Hp S w0 (ηr++η') w'
  get:∀ a v,At S w0 ηr a v→At S' w1 [] a v

theorem frz_mk {ηr:Heap} (hh:Hp S w0 (ηr++η) w):Frz S (fun k=>S k∨k∈ηr.flatten.map (·.1)) w0 w ηr∧Hp (fun k=>S k∨k∈ηr.flatten.map (·.1)) w η w:=by
  have hon:=hh.once
  rw [List.flatten_append,List.map_append,List.nodup_append] at hon
  obtain ⟨n1,n2,n3⟩:=hon
  refine ⟨⟨fun η' w' h=>?_,fun a v h=>?_⟩,?_⟩
  · refine ⟨h.os.trans hh.os,h.tape.trans hh.tape,h.output.trans hh.output,Nat.le_trans hh.drawn h.drawn,Nat.le_trans hh.size h.size,fun k hk=>⟨(hh.same k hk).1,((h.same k (.inl hk)).2).trans (hh.same k hk).2⟩,fun p hp=>?_,?_⟩
    · rw [List.flatten_append,List.mem_append] at hp
      rcases hp with hp | hp
      · have h1:=hh.own p (by rw [List.flatten_append,List.mem_append]; exact .inl hp)
        exact ⟨((h.same p.1 (.inr (List.mem_map.2 ⟨p,hp,rfl⟩))).2).trans h1.1,h1.2⟩
      · have h1:=h.own p hp
        exact ⟨h1.1,fun hs=>h1.2 (.inl hs)⟩
    · rw [List.flatten_append,List.map_append,List.nodup_append]
      refine ⟨n1,h.once,fun a ha b hb hab=>?_⟩
      subst hab
      obtain ⟨p,hp,rfl⟩:=List.mem_map.1 hb
      exact (h.own p hp).2 (.inr ha)
  · cases h with
    | rd h hc =>
      refine .rd (.inl h) ?_
      have:=(hh.same _ h).2
      simp only [World.cell?,this] at hc ⊢
      exact hc
    | own seg hs cs e fz hp hc hsp =>
      have hm:(a.block,Obj.cells cs e fz)∈ηr.flatten:=List.mem_flatten.2 ⟨seg,hs,hp⟩
      have h1:=(hh.own _ (by rw [List.flatten_append,List.mem_append]; exact .inl hm)).1
      refine .rd (.inr (List.mem_map.2 ⟨_,hm,rfl⟩)) ?_
      simp only at h1
      simp [World.cell?,h1,hsp,hc]
  · refine ⟨rfl,rfl,rfl,Nat.le_refl _,Nat.le_refl _,fun k hk=>⟨?_,rfl⟩,fun p hp=>⟨(hh.own p (by rw [List.flatten_append,List.mem_append]; exact .inr hp)).1,?_⟩,n2⟩
    · rcases hk with hk | hk
      · exact Nat.lt_of_lt_of_le (hh.same k hk).1 hh.size
      · obtain ⟨p,hp,rfl⟩:=List.mem_map.1 hk
        exact hh.lt (by rw [List.flatten_append,List.mem_append]; exact .inl hp)
    · rintro (hs | hs)
      · exact (hh.own p (by rw [List.flatten_append,List.mem_append]; exact .inr hp)).2 hs
      · exact n3 _ hs _ (List.mem_map.2 ⟨p,hp,rfl⟩) rfl
/-- From here on the blocks of ηr are only read. -/
theorem T.freeze {c:Code} (ηr:Heap) {η2:Heap} (he:η=ηr++η2) (h:∀ S' w1,Frz S S' w0 w1 ηr→T F P S' w1 n Q c ds σ η2):T F P S w0 n Q c ds σ η:=fun a w hk hh=>by
  subst he
  obtain ⟨hz,h2⟩:=frz_mk hh
  exact h _ _ hz a w hk h2
theorem TL.freeze {l:List Oper} (ηr:Heap) {η2:Heap} (he:η=ηr++η2) (h:∀ S' w1,Frz S S' w0 w1 ηr→TL F P S' w1 n ops Q l ds σ η2):TL F P S w0 n ops Q l ds σ η:=fun a w hk hh=>by
  subst he
  obtain ⟨hz,h2⟩:=frz_mk hh
  exact h _ _ hz a w hk h2
theorem Frz.old {S':Nat→Prop} {w1:World} {ηr:Heap} (hz:Frz S S' w0 w1 ηr) {a:Addr} {v:Value} (h:At S w0 [] a v):At S' w1 [] a v:=hz.get a v (h.up (by simp))
theorem Row.frz {S':Nat→Prop} {w1:World} {ηr:Heap} {a:Option Addr} {cs:List Value} (h:Row S w0 ηr a cs) (hz:Frz S S' w0 w1 ηr):Row S' w1 [] a cs:=⟨h.ad,fun i v hi=>hz.get _ _ (h.cell i v hi)⟩
theorem Row.old {S':Nat→Prop} {w1:World} {ηr:Heap} {a:Option Addr} {cs:List Value} (h:Row S w0 [] a cs) (hz:Frz S S' w0 w1 ηr):Row S' w1 [] a cs:=⟨h.ad,fun i v hi=>hz.old (h.cell i v hi)⟩
/-- The view at the start of a function, and how one comes back to it. -/
def Back (S S':Nat→Prop) (w0 w1:World):Prop:=∀ η' w',Hp S' w1 η' w'→∃ η2,Hp S w0 η2 w'
theorem Back.refl (S:Nat→Prop) (w0:World):Back S S w0 w0:=fun η' _ h=>⟨η',h⟩
theorem Back.frz {S' S2:Nat→Prop} {w1 w2:World} {ηr:Heap} (h:Back S S' w0 w1) (hz:Frz S' S2 w1 w2 ηr):Back S S2 w0 w2:=fun _ _ h2=>h _ _ (hz.back _ _ h2)
/-- The end of a function whose result says nothing of memory. -/
theorem TQ.retsF {fn : Func} {S' : Nat → Prop} {w1 : World} (ts : List Nat) (vs : List Value) {v : Value} {R : Value → Heap → Prop} (hb : Back S S' w0 w1) (hr : fn.results = (ts.map ResultVar.tmp).toArray) (hv : lks σ ts = some vs) (he : retVal vs = v) (hR : ∀ η, R v η) :
    TQ S' w1 n (bodyPost P fn (post R S w0) .ret) [] σ η:=fun a w hk hh=>by
  obtain ⟨η2,h2⟩:=hb _ _ hh
  refine ⟨hk.defers,v,?_,v,η2,rfl,h2,hR _⟩
  rw [results_run hr hk (lks_map hv),retVal_eq,he]
theorem TQ.retLF {fn : Func} {S' : Nat → Prop} {w1 : World} (ts : List Nat) (vs : List Value) {v : Value} {R : Value → Heap → Prop} (hb : Back S S' w0 w1) (hr : fn.results = (ts.map ResultVar.tmp).toArray) (hv : lks σ ts = some vs) (he : retVal vs = v) (hR : ∀ η, R v η) :
    TQ S' w1 n (bodyPostL P fn (post R S w0) .ret) [] σ η:=fun a w hk hh=>by
  show Lv P fn a.tmps (post R S w0) a.defers .returning w
  rw [hk.defers]
  obtain ⟨η2,h2⟩:=hb _ _ hh
  exact ⟨v,by rw [results_run hr hk (lks_map hv),retVal_eq,he],v,η2,rfl,h2,hR _⟩
end

/-! What arguments hold -/
section
open Go.ChangeShapes Go.WideShapes Go.Deep Go.RowKit
variable {H:Type} {enc:TypeId × Value→H} {P:Program} {W:World}
abbrev Old (W:World):Nat→Prop:=(· < W.heap.size)
theorem cell_lt {a:Addr} {v:Value} (h:W.cell? a=some v):a.block<W.heap.size∧a.spot=none:=by
  unfold World.cell? at h
  split at h
  · rename_i c e fz hb
    refine ⟨(Array.getElem?_eq_some_iff.1 hb).1,?_⟩
    cases hs:a.spot with
    | none=>rfl
    | some x=>simp [hs] at h
  · cases h
theorem add_spot (a:Addr) (i:Nat):(a.add i).spot=none→a.spot=none∨0<i:=by
  intro h
  unfold Addr.add at h
  split at h
  · exact .inl h
  · rename_i hi; exact .inr (by omega)
/-- A slice that is read: its cells, and what each element reads as. -/
theorem slice_read {t e : TypeId} (ht : P.underlying t = some (.slice e)) (hc : 0 < P.cellsOf e) {fuel : Nat} {v : Value} {x : DataW H × List MemPlace} (h : DataW.trod enc P W 0 (fun _ => true) true fuel t [v] = some x) :
    ∃ (a:Option Addr) (len cap n:Nat) (cs:List Value),v = .slice a len cap∧len≤cap∧cap≤maxLen∧cs.length=len*P.cellsOf e∧Row (Old W) W [] a cs ∧
      ∀ i,i<len→∃ y,DataW.trod enc P W 0 (fun _=>true) true n e ((cs.drop (i*P.cellsOf e)).take (P.cellsOf e))=some y:=by
  rcases open_slice ht h with ⟨hv,_⟩ | ⟨a,len,cap,m,n,D,Pl,hcs,_,hl,hm,hmm,_,hi⟩
  · have:v = .slice none 0 0:=by simpa using hv
    subst this
    exact ⟨none,0,0,0,[],rfl,Nat.le_refl _,Nat.zero_le _,by simp,⟨fun h=>by simp at h,fun i v h=>by simp at h⟩,fun i hi=>by omega⟩
  · have:v = .slice (some a) len cap:=by simpa using hcs
    subst this
    simp only [if_true] at hmm
    have hx:∀ i,i<len→∃ cs',W.cells? 0 (a.add (i*P.cellsOf e)) (P.cellsOf e)=some cs'∧DataW.trod enc P W 0 (fun _=>true) true n e cs'=some (D i,Pl i):=fun i h=>hi i (by omega)
    obtain ⟨C,hC⟩:=choose_lt (α:=List Value) hx
    have hlen:∀ i,i<len→(C i).length=P.cellsOf e:=fun i h=>(World.cells?_some (hC i h).1).2.1
    have hcell:∀ i j,i<len→j<P.cellsOf e→W.cell? (a.add (i*P.cellsOf e+j))=(C i)[j]?:=fun i j h1 h2=>by
      have:=(World.cells?_some (hC i h1).1).2.2 j h2
      rwa [Go.Deep.add_add] at this
    let f:Nat→List Value:=fun i=>if i<len then C i else List.replicate (P.cellsOf e) undef
    have hf:∀ i,(f i).length=P.cellsOf e:=fun i=>by
      simp only [f]; split
      · exact hlen i (by assumption)
      · simp
    have hget:∀ i j,i<len→j<P.cellsOf e→((List.range len).flatMap f)[i*P.cellsOf e+j]?=(C i)[j]?:=fun i j h1 h2=>by
      rw [flat_get _ f hf _ i j h2]
      simp [h1,f]
    have htot:((List.range len).flatMap f).length=len*P.cellsOf e:=by
      rw [List.length_flatMap]
      have:(List.range len).map (fun i=>(f i).length)=List.replicate len (P.cellsOf e):=by
        apply List.ext_getElem
        · simp
        · intro i h1 h2; simp [hf]
      rw [this,List.sum_replicate_nat]
    have hsp:0<len→a.spot=none∧a.block<W.heap.size:=fun h0=>by
      have h1:=hcell 0 0 h0 hc
      have h2:(C 0)[0]?=some ((C 0)[0]'(by rw [hlen 0 h0]; exact hc)):=List.getElem?_eq_getElem _
      rw [h2] at h1
      have h3:=cell_lt h1
      simpa [Addr.add] using h3.symm
    have hadd:a.spot=none→∀ k,a.add k=sAt (some a) k:=fun hs k=>by
      obtain ⟨b,o,s⟩:=a
      simp only at hs; subst hs
      unfold Addr.add sAt; split
      · rename_i h; simp [h]
      · rfl
    refine ⟨some a,len,cap,n,(List.range len).flatMap f,rfl,hl,hm,htot,⟨fun h0=>?_,fun k v hk=>?_⟩,fun i hil=>⟨(D i,Pl i),?_⟩⟩
    · rw [htot] at h0
      exact ⟨a,rfl,(hsp (Nat.pos_of_mul_pos_right h0)).1⟩
    · have hkl:=(List.getElem?_eq_some_iff.1 hk).1
      rw [htot] at hkl
      have h1:k / P.cellsOf e<len:=by rw [Nat.div_lt_iff_lt_mul hc]; exact hkl
      have h2:k % P.cellsOf e<P.cellsOf e:=Nat.mod_lt _ hc
      have h3:k / P.cellsOf e*P.cellsOf e+k % P.cellsOf e=k:=Nat.div_add_mod' k (P.cellsOf e)
      have h4:=hget _ _ h1 h2
      rw [h3,hk] at h4
      have h5:=hcell _ _ h1 h2
      rw [h3,← h4] at h5
      obtain ⟨hs,hbl⟩:=hsp (Nat.lt_of_le_of_lt (Nat.zero_le _) h1)
      rw [hadd hs] at h5
      exact .rd hbl h5
    · have e1:(((List.range len).flatMap f).drop (i*P.cellsOf e)).take (P.cellsOf e)=C i:=by
        apply List.ext_getElem?
        intro j
        rw [List.getElem?_take]
        by_cases hj:j<P.cellsOf e
        · rw [if_pos hj,List.getElem?_drop,hget i j hil hj]
        · rw [if_neg hj,List.getElem?_eq_none (by rw [hlen i hil]; omega)]
      rw [e1]; exact (hC i hil).2
/-- A slice of integers. -/
theorem ints_read {t e : TypeId} {k : IntKind} (ht : P.underlying t = some (.slice e)) (he : P.underlying e = some (.int k)) (hc : P.cellsOf e = 1) {fuel : Nat} {v : Value} {x : DataW H × List MemPlace} (h : DataW.trod enc P W 0 (fun _ => true) true fuel t [v] = some x) :
    ∃ (a:Option Addr) (xs:List Int) (cap:Nat),v = .slice a xs.length cap∧xs.length≤maxLen∧Row (Old W) W [] a (xs.map (Value.int k))∧∀ i∈xs,(Lit.int k i).wf=true:=by
  obtain ⟨a,len,cap,n,cs,rfl,hl,hm,hlen,hrow,hel⟩:=slice_read ht (by omega) h
  rw [hc] at hlen hel
  rw [Nat.mul_one] at hlen
  have hx:∀ i,i<len→∃ z:Int,cs[i]?=some (.int k z)∧(Lit.int k z).wf=true:=fun i hi=>by
    obtain ⟨y,hy⟩:=hel i hi
    obtain ⟨z,h1,_,h3⟩:=DataW.trod_int he hy
    refine ⟨z,?_,h3⟩
    have:((cs.drop (i*1)).take 1)[0]?=some (.int k z):=by rw [h1]; rfl
    simpa using this
  obtain ⟨f,hf⟩:=choose_lt (α:=Int) hx
  have e:cs=((List.range len).map f).map (Value.int k):=by
    apply List.ext_getElem?
    intro i
    by_cases hi:i<len
    · rw [(hf i hi).1]; simp [hi]
    · rw [List.getElem?_eq_none (by omega)]; simp [hi]
  refine ⟨a,(List.range len).map f,cap,by simp,by simp; omega,by rw [← e]; exact hrow,fun z hz=>?_⟩
  obtain ⟨i,hi,rfl⟩:=List.mem_map.1 hz
  exact (hf i (by simpa using hi)).2
theorem wf_i64 {z:Int} (h:(Lit.int .i64 z).wf=true) : -9223372036854775808≤z∧z≤9223372036854775807:=by
  simp only [Lit.wf,Bool.and_eq_true,decide_eq_true_eq] at h; exact h
theorem wf_u16 {z:Int} (h:(Lit.int .u16 z).wf=true):0≤z∧z≤65535:=by
  simp only [Lit.wf,Bool.and_eq_true,decide_eq_true_eq] at h; exact h
theorem wf_u8 {z:Int} (h:(Lit.int .u8 z).wf=true):0≤z∧z≤255:=by
  simp only [Lit.wf,Bool.and_eq_true,decide_eq_true_eq] at h; exact h
theorem wf_u64 {z:Int} (h:(Lit.int .u64 z).wf=true):0≤z∧z≤18446744073709551615:=by
  simp only [Lit.wf,Bool.and_eq_true,decide_eq_true_eq] at h; exact h
theorem wf_u32 {z:Int} (h:(Lit.int .u32 z).wf=true):0≤z∧z≤4294967295:=by
  simp only [Lit.wf,Bool.and_eq_true,decide_eq_true_eq] at h; exact h

/-- A struct that is read: what its fields read as. -/
theorem struct_read {t : TypeId} {l : List (TypeId × Nat)} (hs : (match P.underlying t with | some (.struct fs) => some (fs.toList.map fun f => (f.type, f.offset)) | _ => none) = some l) {fuel : Nat} {cs : List Value} {x : DataW H × List MemPlace} (h : DataW.trod enc P W 0 (fun _ => true) true fuel t cs = some x) :
    ∃ n:Nat,cs.length=P.cellsOf t∧∀ (i:Nat) (ty:TypeId) (off:Nat),l[i]?=some (ty,off)→∃ y,DataW.trod enc P W 0 (fun _=>true) true n ty ((cs.drop off).take (P.cellsOf ty))=some y:=by
  cases hu:P.underlying t with
  | none=>rw [hu] at hs; cases hs
  | some d =>
    cases d with
    | struct fs =>
      rw [hu] at hs
      simp only [Option.some.injEq] at hs
      subst hs
      obtain ⟨xs,n,_,_,hl,hxl,hf⟩:=DataW.trod_struct hu h
      refine ⟨n,hl,fun i ty off hi=>?_⟩
      rw [List.getElem?_map] at hi
      cases hfi:fs.toList[i]? with
      | none=>rw [hfi] at hi; cases hi
      | some f =>
        rw [hfi] at hi
        simp only [Option.map_some,Option.some.injEq,Prod.mk.injEq] at hi
        obtain ⟨rfl,rfl⟩:=hi
        have hfi2:fs[i]?=some f:=by simpa using hfi
        have hil:i<xs.length:=by rw [hxl]; exact (Array.getElem?_eq_some_iff.1 hfi2).1
        exact ⟨xs[i],by rw [hf i f hfi2]; exact List.getElem?_eq_getElem hil⟩
    | _=>rw [hu] at hs; cases hs
/-- The cells of a slice, element by element. -/
theorem list_read {α:Type} {c:Nat} {Q:α→Prop} (f:α→List Value):∀ {len:Nat} {cs:List Value},cs.length=len*c→(∀ i,i<len→∃ x,(cs.drop (i*c)).take c=f x∧Q x)→∃ l:List α,l.length=len∧cs=l.flatMap f∧∀ x∈l,Q x
  | 0,cs,hl,_=>⟨[],rfl,by simpa using hl,by simp⟩
  | len+1,cs,hl,h=>by
    obtain ⟨x,hx,hq⟩:=h 0 (by omega)
    rw [Nat.add_mul,Nat.one_mul] at hl
    obtain ⟨l,h1,h2,h3⟩:=list_read (c:=c) (Q:=Q) (len:=len) (cs:=cs.drop c) f (by rw [List.length_drop]; omega) (fun i hi=>by
      obtain ⟨y,hy,hqy⟩:=h (i+1) (by omega)
      refine ⟨y,?_,hqy⟩
      rw [List.drop_drop,← hy,Nat.add_mul,Nat.one_mul,Nat.add_comm])
    refine ⟨x::l,by simp [h1],?_,fun y hy=>?_⟩
    · rw [List.flatMap_cons,← h2,← hx]
      simp
    · rcases List.mem_cons.1 hy with rfl | hy
      · exact hq
      · exact h3 y hy
theorem slice_form {t e:TypeId} (ht:P.underlying t=some (.slice e)) {fuel:Nat} {cs:List Value} {x:DataW H × List MemPlace} (h:DataW.trod enc P W 0 (fun _=>true) true fuel t cs=some x):∃ a l c,cs=[.slice a l c]:=by
  rcases open_slice ht h with ⟨hv,_⟩ | ⟨a,len,cap,m,n,D,Pl,hcs,_⟩
  · exact ⟨_,_,_,hv⟩
  · exact ⟨_,_,_,hcs⟩

/-! The frame of a law: it answers true, and of what was there nothing has turned. -/
theorem calls_true {f:FuncId} {args:Array Value} (h:Rt P f args (Old W) W [] fun v _=>v = .bool true):Calls P f args W fun e W'=>e = .returned (.bool true)∧Below W.heap.size W W' :=
  (h W (Hp.start W)).mono fun _ _ ⟨v,_,h1,h2,h3⟩=>⟨by rw [h1,h3],h2.below⟩
theorem trodAll_below (hl : laidOutB P = true) {W' : World} (hb : Below W.heap.size W W') : ∀ {ts : List TypeId} {vs : List Value} {ds : List (DataW H)} {ps : List MemPlace}, (∀ t ∈ ts, P.readableRec t = true ∧ t < P.types.size) → (∀ x ∈ ps, x.block < W.heap.size) →
    DataW.TrodAll enc P W 0 (fun _=>true) true ts vs ds ps→DataW.TrodAll enc P W' 0 (fun b=>decide (b<W.heap.size)) true ts vs ds ps
  | [],vs,ds,ps,_,_,h=>by
    obtain ⟨rfl,rfl,rfl⟩:=trodAll_nil h
    exact h
  | t::ts,vs,ds,ps,hr,hlt,h=>by
    obtain ⟨v,vs',d,ds',p,q,rfl,rfl,rfl,h1,h2⟩:=trodAll_cons h
    have ht:=hr t List.mem_cons_self
    exact ⟨p,q,Below.trod hl ht.1 ht.2 h1 hb (fun x hx=>hlt x (by simp [hx])),trodAll_below hl hb (fun t h=>hr t (List.mem_cons_of_mem _ h)) (fun x hx=>hlt x (by simp [hx])) h2,rfl⟩
theorem law_post {f : Func} {s : ChangeSpec} (hl : laidOutB P = true) (hv : s.vars = []) (bt : TypeId) (hrt : f.resultTypes = #[bt]) (hbt : P.underlying bt = some .bool) {W' : World} {args : Array Value} {ds gs : List (DataW H)} {before : List MemPlace}
    (hW:DataW.Whole enc P f.params.toList s.vars false W args.toList ds gs before) (hfn:s.fn H ds={ results:=[.lit (.bool true)],args:=ds }) (hr:∀ t∈f.params.toList,P.readableRec t=true∧t<P.types.size) (hb:Below W.heap.size W W') :
    s.post enc P f false true false false W args (.bool true) W':=by
  have hlt:=fun p hp=>hW.lt p hp
  have hW2:=hW
  obtain ⟨p,q,h1,h2,rfl,_,_⟩:=hW
  rw [hv] at h2
  obtain ⟨rfl,rfl⟩:=trodVars_none h2
  have e:s.fn H (ds++[])={ results:=[.lit (.bool true)],args:=ds }:=by rw [List.append_nil]; exact hfn
  refine ⟨ds,[],_,[],p,[],hW2,?_,?_,?_,hb.frame _,fun h=>by cases h⟩
  · rw [e,hrt]
    exact trodAll_mk1 (shut_bool hbt true)
  · rw [e]
    exact trodAll_below hl hb hr (fun x hx=>hlt x (by simp [hx])) h1
  · rw [e,hv]; rfl
end
end Go.Sl
/- Some of the owned blocks, in whatever order; three operations that may come next; ends of a part. -/
namespace Go.Sl
section
variable {F:Fence} {P:Program} {S:Nat→Prop} {w0 w:World} {n:Nat} {Q:Exit→Act→World→Prop} {ds:List Deferred} {σ:Env} {η:Heap} {ops:Array Oper}
def distinctN:List Nat→Bool
  | []=>true
  | x::r=>r.all (fun y=>!Nat.beq x y) && distinctN r
def pickOk (idx:List Nat) (m:Nat):Bool:=distinctN idx && idx.all fun i=>Nat.blt i m
def pickL (idx:List Nat) (pre:Heap):Heap:=idx.map fun i=>pre.getD i []
theorem distinctN_spec:∀ {l:List Nat},distinctN l=true→l.Pairwise (· ≠ ·)
  | [],_=>List.Pairwise.nil
  | x::r,h=>by
    simp only [distinctN,Bool.and_eq_true,List.all_eq_true] at h
    refine List.pairwise_cons.2 ⟨fun y hy e=>?_,distinctN_spec h.2⟩
    have:=h.1 y hy
    rw [e] at this; simp at this
theorem Hp.pick {pre tail:Heap} (idx:List Nat) (ho:pickOk idx pre.length=true) (hh:Hp S w0 (pre++tail) w):Hp S w0 (pickL idx pre++tail) w:=by
  simp only [pickOk,Bool.and_eq_true,List.all_eq_true] at ho
  have hd:=distinctN_spec ho.1
  have hlt:∀ i∈idx,i<pre.length:=fun i hi=>Nat.le_of_ble_eq_true (ho.2 i hi)
  have hget:∀ i,i<pre.length→pre.getD i []∈pre:=fun i hi=>by
    rw [List.getD_eq_getElem?_getD,List.getElem?_eq_getElem hi]; exact List.getElem_mem hi
  have hmem:∀ s∈pickL idx pre,s∈pre:=fun s hs=>by
    obtain ⟨i,hi,rfl⟩:=List.mem_map.1 hs
    exact hget i (hlt i hi)
  refine hh.sub (fun p hp=>?_) ?_
  · obtain ⟨s,hs,hps⟩:=List.mem_flatten.1 hp
    refine List.mem_flatten.2 ⟨s,?_,hps⟩
    rcases List.mem_append.1 hs with h | h
    · exact List.mem_append_left _ (hmem s h)
    · exact List.mem_append_right _ h
  · have hon:=hh.once
    rw [List.map_flatten,List.map_append] at hon ⊢
    rw [List.Nodup,List.pairwise_flatten,List.pairwise_append] at hon ⊢
    obtain ⟨h1,h2,h3,h4⟩:=hon
    refine ⟨fun l hl=>h1 l ?_,?_,h3,fun a ha b hb=>h4 a ?_ b hb⟩
    · rcases List.mem_append.1 hl with h | h
      · obtain ⟨s,hs,rfl⟩:=List.mem_map.1 h
        exact List.mem_append_left _ (List.mem_map.2 ⟨s,hmem s hs,rfl⟩)
      · exact List.mem_append_right _ h
    · unfold pickL
      rw [List.map_map,List.pairwise_map]
      refine hd.imp_of_mem fun {i j} hi hj hne=>?_
      rw [List.pairwise_map,List.pairwise_iff_getElem] at h2
      have hi':=hlt i hi
      have hj':=hlt j hj
      have e1:pre.getD i []=pre[i]:=by rw [List.getD_eq_getElem?_getD,List.getElem?_eq_getElem hi']; rfl
      have e2:pre.getD j []=pre[j]:=by rw [List.getD_eq_getElem?_getD,List.getElem?_eq_getElem hj']; rfl
      simp only [Function.comp_apply,e1,e2]
      rcases Nat.lt_or_gt_of_ne hne with h | h
      · exact h2 i j hi' hj' h
      · exact fun x hx y hy e=>h2 j i hj' hi' h y hy x hx e.symm
    · obtain ⟨s,hs,rfl⟩:=List.mem_map.1 ha
      exact List.mem_map.2 ⟨s,hmem s hs,rfl⟩
/-- Some of the first blocks, in this order. -/
theorem TQ.pick {K:Act→World→Prop} (idx:List Nat) (pre:Heap) {tail η':Heap} (he:η=pre++tail) (ho:pickOk idx pre.length=true) (hp:pickL idx pre++tail=η') (h:TQ S w0 n K ds σ η'):TQ S w0 n K ds σ η:=fun a w hk hh=>by
  subst he; subst hp; exact h a w hk (hh.pick idx ho)
theorem T.pick {c:Code} (idx:List Nat) (pre:Heap) {tail η':Heap} (he:η=pre++tail) (ho:pickOk idx pre.length=true) (hp:pickL idx pre++tail=η') (h:T F P S w0 n Q c ds σ η'):T F P S w0 n Q c ds σ η:=fun a w hk hh=>by
  subst he; subst hp; exact h a w hk (hh.pick idx ho)
theorem TL.pick' {l:List Oper} (idx:List Nat) (pre:Heap) {tail η':Heap} (he:η=pre++tail) (ho:pickOk idx pre.length=true) (hp:pickL idx pre++tail=η') (h:TL F P S w0 n ops Q l ds σ η'):TL F P S w0 n ops Q l ds σ η:=fun a w hk hh=>by
  subst he; subst hp; exact h a w hk (hh.pick idx ho)
/-- The same heap, in other words. -/
theorem TQ.heap {K:Act→World→Prop} {η':Heap} (he:η=η') (h:TQ S w0 n K ds σ η'):TQ S w0 n K ds σ η:=he ▸ h
theorem T.heap {c:Code} {η':Heap} (he:η=η') (h:T F P S w0 n Q c ds σ η'):T F P S w0 n Q c ds σ η:=he ▸ h
theorem TL.heap {l:List Oper} {η':Heap} (he:η=η') (h:TL F P S w0 n ops Q l ds σ η'):TL F P S w0 n ops Q l ds σ η:=he ▸ h
/-- Three heavy operations may come next. -/
theorem DH.heavy3 {l:List Oper} {m:Nat} {V:VL} {h1 h2 h3:Nat} (hd:dagOk l=true) (ht:tailOk l m=true) (hq:dstsOk l m=true) (hcomp:complete l m V [h1,h2,h3]=true) (b1:HB F P S w0 n l ds σ Q m V η h1) (b2:HB F P S w0 n l ds σ Q m V η h2) (b3:HB F P S w0 n l ds σ Q m V η h3):DH F P S w0 n l ds σ Q m V η :=
  DH.node [h1,h2,h3] hd ht hq hcomp (fun h' hh=>by
    rcases List.mem_cons.1 hh with e | hh
    · subst e; exact b1
    · rcases List.mem_cons.1 hh with e | hh
      · subst e; exact b2
      · have:h'=h3:=by simpa using hh
        subst this; exact b3) (fun ha=>by obtain ⟨_,_,_,_,_,him,hnew,_⟩:=b1; exact not_all him hnew ha)
/-- An owned slice that is not empty: its block; and a cell of it that is written. -/
theorem OSl.ex {e:TypeId} {sz k:Nat} {v:Value} {xs:List Value} {seg:Seg} (h:OSl e sz v k xs seg) (hk:0<k):∃ g cap cur,v = .slice (some ⟨g,0,none⟩) k cap∧seg=[(g,.cells cur e (0,0))]∧k*sz≤cur.size:=by
  rcases h.2 with ⟨_,h0,_⟩ | ⟨g,cap,cur,hv,hs,hc,hz,_⟩
  · omega
  · exact ⟨g,cap,cur,hv,hs,by rw [hz]; exact Nat.mul_le_mul_right _ hc⟩
theorem OSl.put {e:TypeId} {sz k g cap j:Nat} {cur:Array Value} {xs:List Value} {u:Value} (h:OSl e sz (.slice (some ⟨g,0,none⟩) k cap) k xs [(g,.cells cur e (0,0))]):OSl e sz (.slice (some ⟨g,0,none⟩) k cap) k (xs.set j u) [(g,.cells (cur.setIfInBounds j u) e (0,0))]:=by
  refine ⟨by rw [List.length_set]; exact h.1,?_⟩
  rcases h.2 with ⟨h0,_⟩ | ⟨g',cap',cur',hv,hs,hc,hz,ht⟩
  · cases h0
  · simp only [Value.slice.injEq,Option.some.injEq,Addr.mk.injEq,and_true,true_and] at hv
    obtain ⟨rfl,rfl⟩:=hv
    simp only [List.cons.injEq,Prod.mk.injEq,Obj.cells.injEq,true_and,and_true] at hs
    subst hs
    refine .inr ⟨g,cap,_,rfl,rfl,hc,by simpa using hz,?_⟩
    rw [Array.toList_setIfInBounds,List.take_set,ht]
theorem cut0' (a:Option Addr) (c sz:Nat):(if c=0 then a else a.map (·.add (0*sz)))=a:=by
  split
  · rfl
  · rw [Nat.zero_mul]
    cases a with
    | none=>rfl
    | some x=>simp [Addr.add]
/-- A division of naturals. -/
theorem TL.quoN (hF : Open F) {rest : List Oper} {d : Nat} {ty : TypeId} {pos : String} {af : Array Edge} {xt yt : TypeId} {x y : Operand} {k : IntKind} {a b : Nat} (hx : ev σ x = some (.int k (a : Int))) (hy : ev σ y = some (.int k (b : Int))) (hb : 0 < b) (hk : k.wrap ((a / b : Nat) : Int) = ((a / b : Nat) : Int)) (hn : Nat.blt d n = true)
    (h:TL F P S w0 n ops Q rest ds ((d,.int k ((a / b:Nat):Int))::σ) η):TL F P S w0 n ops Q (⟨some d,.binOp .quo xt x y yt,ty,pos,af,none⟩::rest) ds σ η :=
  TL.pure hF (by intro c; simp) hn (fun c w hk2 _=>by
    have hb':(Op.intDiv .quo k (a:Int) (b:Int)).run P w = .ok (.int k ((a / b:Nat):Int)) w:=by
      unfold Op.intDiv
      rw [if_neg (by omega)]
      simp only [Sem.run_pure]
      have e:Int.tdiv (a:Int) (b:Int)=((a / b:Nat):Int):=by simp
      first | rw [e,hk] | (simp only [e]; rw [hk]) | simp [e,hk]
    simp [execOp,hk2.ev hx,hk2.ev hy,eqGuard,binOp,hb']) h
end
section
open Go.ChangeShapes Go.WideShapes Go.Deep Go.RowKit
variable {H:Type} {enc:TypeId × Value→H} {P:Program} {W:World}
/-- A slice of integers that are not negative. -/
theorem nats_read {t e : TypeId} {k : IntKind} (B : Nat) (hB : ∀ z, (Lit.int k z).wf = true → 0 ≤ z ∧ z < (B : Int)) (ht : P.underlying t = some (.slice e)) (he : P.underlying e = some (.int k)) (hc : P.cellsOf e = 1) {fuel : Nat} {v : Value} {x : DataW H × List MemPlace} (h : DataW.trod enc P W 0 (fun _ => true) true fuel t [v] = some x) :
    ∃ (a:Option Addr) (xs:List Nat) (cap:Nat),v = .slice a xs.length cap∧xs.length≤cap∧xs.length<2 ^ 63∧Row (Old W) W [] a (xs.map fun (n:Nat)=>.int k (n:Int))∧∀ n∈xs,n<B:=by
  obtain ⟨a,len,cap,n,cs,rfl,hl,hm,hlen,hrow,hel⟩:=slice_read ht (by omega) h
  rw [hc] at hlen hel
  obtain ⟨l,h1,h2,h3⟩:=list_read (c:=1) (Q:=fun n:Nat=>n<B) (fun (n:Nat)=>[Value.int k (n:Int)]) hlen (fun i hi=>by
    obtain ⟨y,hy⟩:=hel i hi
    obtain ⟨z,h1,_,h3⟩:=DataW.trod_int he hy
    have:=hB z h3
    exact ⟨z.toNat,by rw [h1,Int.toNat_of_nonneg this.1],by omega⟩)
  subst h1
  refine ⟨a,l,cap,rfl,hl,by unfold maxLen at hm; omega,?_,h3⟩
  have e:(l.map fun (n:Nat)=>Value.int k (n:Int))=cs:=by rw [h2,List.map_eq_flatMap]
  rw [e]; exact hrow
theorem b16 (z:Int) (h:(Lit.int .u16 z).wf=true):0≤z∧z<((65536:Nat):Int):=by have:=wf_u16 h; omega
theorem b8 (z:Int) (h:(Lit.int .u8 z).wf=true):0≤z∧z<((256:Nat):Int):=by have:=wf_u8 h; omega
end
end Go.Sl
/- Maps: an entry of a literal; an entry that is taken away. -/
namespace Go.Sl
section
variable {F:Fence} {P:Program} {S:Nat→Prop} {w0 w:World} {n:Nat} {Q:Exit→Act→World→Prop} {ds:List Deferred} {σ:Env} {η:Heap} {ops:Array Oper} {rest:List Oper} {ty:TypeId} {pos:String} {af:Array Edge}
theorem TL.insert (hF : Open F) (i : Nat) {t kt et : TypeId} [Und P t (.map kt et)] {α β : Type} [DecidableEq α] {K : α → Value} [MKey P kt K] (V : β → Value) {m : List (α × β)} {es : Array MapEntry} {clock b : Nat} (k : α) (v : β)
    {x y z:Operand} (hx:ev σ x=some (.map (some b))) (hy:ev σ y=some (K k)) (hz:ev σ z=some (V v)) (hi:η[i]?=some [(b,.map es clock)]) (hm:MObj K V m es clock)
    (h:∀ es' clock',MObj K V (mput k v m) es' clock'→TL F P S w0 n ops Q rest ds σ (η.set i [(b,.map es' clock')])):TL F P S w0 n ops Q (⟨none,.insert t x y z,ty,pos,af,none⟩::rest) ds σ η :=
  TL.act hF (by intro c; simp) fun a w hk hh=>by
    have hb:=hh.inMem (List.mem_of_getElem? hi)
    have h1:=MKey.find (P:=P) (kt:=kt) (K:=K) k es.toList (m.map (·.1)) w (by rw [hm.keys]; simp)
    have hput:=hm.put k v
    cases hf:fidx k (m.map (·.1)) with
    | none =>
      rw [hf] at h1
      refine ⟨_,_,?_,hh.turnI hi (.map (es.push { key:=K k,val:=V v,born:=clock }) (clock+1)),h _ _ (hput.2 hf)⟩
      have h1':(Instr.findKey kt (K k) es.toList).run P w = .ok none w:=h1
      simp [execOp,hk.ev hx,hk.ev hy,hk.ev hz,Instr.mapUpdate,run_underlying (t:=t) (d:=.map kt et),run_getMap hb,MKey.chk,h1',run_setB _ hb (.inl ⟨_,_,rfl⟩)]
    | some j =>
      rw [hf] at h1
      refine ⟨_,_,?_,hh.turnI hi (.map (es.modify j fun e=>{ e with key:=K k,val:=V v }) clock),h _ _ (hput.1 j hf)⟩
      have hkey:((es[j]?).map (·.key)).getD (K k)=K k:=by
        have h2:=congrArg (fun l:List Value=>l[j]?) hm.keys
        have h3:=fidx_lt hf
        simp only [List.getElem?_map] at h2 h3
        cases hmj:m[j]? with
        | none=>simp [hmj] at h3
        | some p =>
          simp only [hmj,Option.map_some,Option.some.injEq] at h2 h3
          rw [h3] at h2
          rw [← Array.getElem?_toList,h2]; rfl
      have h1':(Instr.findKey kt (K k) es.toList).run P w = .ok (some (j,((es.toList[j]?).map (·.val)).getD undef)) w:=h1
      have hst:(Instr.keyThatStays (K k) (K k)).run P w = .ok (K k) w:=by simp [Instr.keyThatStays,MKey.same (P:=P) (kt:=kt) (K:=K)]
      simp only [execOp,hk.ev hx,hk.ev hy,hk.ev hz,Instr.mapUpdate,Sem.run_bind,run_underlying (t:=t) (d:=.map kt et),Result.andThen_ok,run_getMap hb,MKey.chk,h1',hkey,hst,run_setB _ hb (.inl ⟨_,_,rfl⟩),Sem.run_pure]
theorem erase_map {α β:Type} (f:α→β):∀ (l:List α) (i:Nat),(l.eraseIdx i).map f=(l.map f).eraseIdx i
  | [],_=>rfl
  | x::r,0=>rfl
  | x::r,i+1=>by simp [List.eraseIdx,erase_map f r i]
theorem MObj.del {α β:Type} [DecidableEq α] {K:α→Value} {V:β→Value} {m:List (α × β)} {es:Array MapEntry} {clock i:Nat} (h:MObj K V m es clock):MObj K V (m.eraseIdx i) (es.eraseIdxIfInBounds i) clock:=by
  have e:(es.eraseIdxIfInBounds i).toList=es.toList.eraseIdx i:=by simp
  refine ⟨?_,?_,?_,?_,fun x hx=>?_⟩
  · rw [e,erase_map,h.keys,erase_map]
  · rw [e,erase_map,h.vals,erase_map]
  · rw [erase_map]; exact h.nd.sublist (List.eraseIdx_sublist _ _)
  · rw [e,erase_map]; exact h.born.sublist (List.eraseIdx_sublist _ _)
  · rw [e] at hx; exact h.old x ((List.eraseIdx_sublist _ _).subset hx)
theorem ItOk.del {α β:Type} {m:List (α × β)} {es:Array MapEntry} {seen:Array Nat} {done:List α} {i:Nat} (h:ItOk m es seen done):ItOk (m.eraseIdx i) (es.eraseIdxIfInBounds i) seen done:=by
  intro j e p he hp
  rw [show (es.eraseIdxIfInBounds i).toList=es.toList.eraseIdx i by simp,List.getElem?_eraseIdx] at he
  rw [List.getElem?_eraseIdx] at hp
  split at he
  · rename_i hj; rw [if_pos hj] at hp; exact h j e p he hp
  · rename_i hj; rw [if_neg hj] at hp; exact h (j+1) e p he hp
theorem TL.delete (hF : Open F) (i : Nat) {t kt et tk : TypeId} [Und P t (.map kt et)] {α β : Type} [DecidableEq α] {K : α → Value} [MKey P kt K] (V : β → Value) {m : List (α × β)} {es : Array MapEntry} {clock b : Nat} (k : α)
    {x y:Operand} (hx:ev σ x=some (.map (some b))) (hy:ev σ y=some (K k)) (hi:η[i]?=some [(b,.map es clock)]) (hm:MObj K V m es clock)
    (h:∀ es',MObj K V (mdel k m) es' clock→(∀ seen done,ItOk m es seen done→ItOk (mdel k m) es' seen done)→TL F P S w0 n ops Q rest ds σ (η.set i [(b,.map es' clock)])):TL F P S w0 n ops Q (⟨none,.call ⟨.builtin .delete,#[x,y],#[t,tk]⟩,ty,pos,af,none⟩::rest) ds σ η :=
  TL.op hF rfl (by intro c; simp) fun a w hk hh=>by
    have hb:=hh.inMem (List.mem_of_getElem? hi)
    have h1:=MKey.find (P:=P) (kt:=kt) (K:=K) k es.toList (m.map (·.1)) w (by rw [hm.keys]; simp)
    cases hf:fidx k (m.map (·.1)) with
    | none =>
      rw [hf] at h1
      have h1':(Instr.findKey kt (K k) es.toList).run P w = .ok none w:=h1
      have hrun:(execOp a.eval ⟨none,.call ⟨.builtin .delete,#[x,y],#[t,tk]⟩,ty,pos,af,none⟩).run P w = .ok (.value (.tuple #[])) (putBlk w b (.map es clock)):=by
        simp [execOp,resolve,Go.invoke,Go.builtin,Builtin.delete_,hk.ev hx,hk.ev hy,run_underlying (t:=t) (d:=.map kt et),run_getMap hb,MKey.chk,h1',run_setB _ hb (.inl ⟨_,_,rfl⟩)]
      rw [hrun]
      rw [mdel_none hf] at h
      exact h es hm (fun _ _ h=>h) _ _ hk (hh.turnI hi _)
    | some j =>
      rw [hf] at h1
      have h1':(Instr.findKey kt (K k) es.toList).run P w = .ok (some (j,((es.toList[j]?).map (·.val)).getD undef)) w:=h1
      have hrun:(execOp a.eval ⟨none,.call ⟨.builtin .delete,#[x,y],#[t,tk]⟩,ty,pos,af,none⟩).run P w = .ok (.value (.tuple #[])) (putBlk w b (.map (es.eraseIdxIfInBounds j) clock)):=by
        simp only [execOp,resolve,Go.invoke,Go.builtin,Builtin.delete_,hk.ev hx,hk.ev hy,Sem.run_bind,run_underlying (t:=t) (d:=.map kt et),Result.andThen_ok,run_getMap hb,MKey.chk,h1',run_setB _ hb (.inl ⟨_,_,rfl⟩),Sem.run_pure,List.getElem?_toArray,List.getElem?_cons_zero,List.getElem?_cons_succ,List.map_toArray,List.map_cons,List.map_nil]
      rw [hrun]
      rw [mdel_at hf] at h
      exact h _ hm.del (fun _ _ h=>h.del) _ _ hk (hh.turnI hi _)
theorem mget_mdel {α β:Type} [DecidableEq α] (k k':α):∀ {m:List (α × β)},(m.map (·.1)).Nodup→mget k' (mdel k m)=if k'=k then none else mget k' m
  | [],_=>by simp [mdel,mget]
  | (a,b)::r,hn=>by
    simp only [List.map_cons,List.nodup_cons] at hn
    have ih:=mget_mdel k k' hn.2
    unfold mdel
    by_cases h:k=a
    · subst h
      rw [if_pos rfl]
      by_cases h2:k'=k
      · subst h2
        rw [if_pos rfl,mget_none]
        exact fun p hp e=>hn.1 (by rw [← e]; exact List.mem_map.2 ⟨p,hp,rfl⟩)
      · rw [if_neg h2]; simp [mget,h2]
    · rw [if_neg h]
      simp only [mget,ih]
      by_cases h2:k'=a
      · subst h2; rw [if_pos rfl,if_neg (fun e=>h e.symm),if_pos rfl]
      · rw [if_neg h2,if_neg h2]
theorem mem_mdel {α β:Type} [DecidableEq α] {k:α} {p:α × β}:∀ {m:List (α × β)},p∈mdel k m→p∈m
  | [],h=>by simp [mdel] at h
  | (a,b)::r,h=>by
    unfold mdel at h
    split at h
    · exact List.mem_cons_of_mem _ h
    · rcases List.mem_cons.1 h with rfl | h
      · exact List.mem_cons_self
      · exact List.mem_cons_of_mem _ (mem_mdel h)
end
end Go.Sl
/- Maps: an entry that is reached, and then written (m[k], x = v, y). -/
namespace Go.Sl
section
variable {F:Fence} {P:Program} {S:Nat→Prop} {w0 w:World} {n:Nat} {Q:Exit→Act→World→Prop} {ds:List Deferred} {σ:Env} {η:Heap} {ops:Array Oper} {rest:List Oper} {ty:TypeId} {pos:String} {af:Array Edge}
/-- The entry of a key, by its stamp. -/
def EntOk {α β:Type} [DecidableEq α] (k:α) (m:List (α × β)) (es:Array MapEntry) (born:Nat):Prop:=∃ i e,es.toList[i]?=some e∧e.born=born∧fidx k (m.map (·.1))=some i
theorem modify_same {es:Array MapEntry} {i:Nat} {f:MapEntry→MapEntry} (h:∀ e,es.toList[i]?=some e→f e=e):es.modify i f=es:=by
  apply Array.ext'
  rw [Array.toList_modify]
  apply List.ext_getElem?
  intro j
  simp only [List.getElem?_modify,Option.map_eq_map]
  by_cases hij:i=j
  · subst hij
    cases he:es.toList[i]? with
    | none=>rfl
    | some e=>simp [h e he]
  · simp [hij]
theorem MObj.keyAt {α β:Type} [DecidableEq α] {K:α→Value} {V:β→Value} {m:List (α × β)} {es:Array MapEntry} {clock i:Nat} {k:α} (h:MObj K V m es clock) (hf:fidx k (m.map (·.1))=some i):∃ e,es.toList[i]?=some e∧e.key=K k:=by
  have hki:=fidx_lt hf
  rw [List.getElem?_map] at hki
  have:=congrArg (fun l:List Value=>l[i]?) h.keys
  simp only [List.getElem?_map] at this
  cases hm:m[i]? with
  | none=>simp [hm] at hki
  | some p =>
    simp only [hm,Option.map_some,Option.some.injEq] at hki this
    cases hes:es.toList[i]? with
    | none=>simp [hes] at this
    | some e=>simp only [hes,Option.map_some,Option.some.injEq] at this; exact ⟨e,rfl,by rw [this,hki]⟩
theorem fidx_new {α:Type} [DecidableEq α] {k:α}:∀ {l:List α},fidx k l=none→fidx k (l++[k])=some l.length
  | [],_=>by simp [fidx]
  | a::l,h=>by
    simp only [fidx] at h
    simp only [List.cons_append,fidx,List.length_cons]
    by_cases e:k=a
    · simp [e] at h
    · simp only [e,if_false,Option.map_eq_none_iff] at h ⊢
      rw [fidx_new h]; rfl
theorem TL.mapEntry (hF : Open F) (i : Nat) {t kt et : TypeId} [Und P t (.map kt et)] {z : Value} {sz bt : Nat} [Inf P et z sz bt] {α β : Type} [DecidableEq α] {K : α → Value} [MKey P kt K] (V : β → Value) (zv : β) {m : List (α × β)} {es : Array MapEntry} {clock b : Nat} (k : α)
    {x y:Operand} {d:Nat} (hx:ev σ x=some (.map (some b))) (hy:ev σ y=some (K k)) (hz:V zv=z) (hi:η[i]?=some [(b,.map es clock)]) (hm:MObj K V m es clock) (hn:Nat.blt d n=true)
    (h:∀ m' es' clock' born u,(m'=m∨m'=m++[(k,zv)])→(∀ v,mput k v m'=mput k v m)→MObj K V m' es' clock'→EntOk k m' es' born→TL F P S w0 n ops Q rest ds ((d,.tuple #[u,.int .i64 (born:Int)])::σ) (η.set i [(b,.map es' clock')])):TL F P S w0 n ops Q (⟨some d,.mapEntry t x y,ty,pos,af,none⟩::rest) ds σ η :=
  TL.val hF (by intro c; simp) hn fun a w hk hh=>by
    have hb:=hh.inMem (List.mem_of_getElem? hi)
    have h1:=MKey.find (P:=P) (kt:=kt) (K:=K) k es.toList (m.map (·.1)) w (by rw [hm.keys]; simp)
    have hput:=hm.put k zv
    have hzr:(zeroValue et).run P w = .ok z w:=run_zeroValue w
    cases hf:fidx k (m.map (·.1)) with
    | none =>
      rw [hf] at h1
      have h1':(Instr.findKey kt (K k) es.toList).run P w = .ok none w:=h1
      have hnew:=hput.2 hf
      rw [mput_new _ hf] at hnew
      have hfn:fidx k ((m++[(k,zv)]).map (·.1))=some m.length:=by
        rw [List.map_append]; have:=fidx_new hf; simpa using this
      refine ⟨.tuple #[z,.int .i64 (clock:Int)],_,_,?_,hh.turnI hi (.map (es.push { key:=K k,val:=V zv,born:=clock }) (clock+1)),h (m++[(k,zv)]) _ _ clock z (.inr rfl) (fun v=>?_) hnew ⟨m.length,{ key:=K k,val:=V zv,born:=clock },?_,rfl,hfn⟩⟩
      · simp [execOp,hk.ev hx,hk.ev hy,Instr.mapEntry,run_underlying (t:=t) (d:=.map kt et),run_getMap hb,MKey.chk,h1',run_setB _ hb (.inl ⟨_,_,rfl⟩),hzr,hz,goInt]
      · rw [mput_new _ hf,mput_at v hfn]
        apply List.ext_getElem?
        intro j
        simp only [List.getElem?_modify,Option.map_eq_map]
        by_cases hj:m.length=j
        · subst hj; simp
        · simp only [if_neg hj]
          by_cases hlt:j<m.length
          · simp [List.getElem?_append_left hlt]
          · rw [List.getElem?_eq_none (by simp; omega),List.getElem?_eq_none (by simp; omega)]; rfl
      · have hl:es.toList.length=m.length:=by have:=congrArg List.length hm.keys; simpa using this
        rw [Array.toList_push,List.getElem?_append_right (by omega),hl]; simp
    | some j =>
      rw [hf] at h1
      obtain ⟨e,he,hek⟩:=hm.keyAt hf
      have he':es[j]?=some e:=by rw [← Array.getElem?_toList]; exact he
      have h1':(Instr.findKey kt (K k) es.toList).run P w = .ok (some (j,((es.toList[j]?).map (·.val)).getD undef)) w:=h1
      have hst:(Instr.keyThatStays (K k) (K k)).run P w = .ok (K k) w:=by simp [Instr.keyThatStays,MKey.same (P:=P) (kt:=kt) (K:=K)]
      have hmod:(es.modify j fun e=>{ e with key:=K k })=es:=modify_same fun e2 h2=>by
        rw [he] at h2; cases h2; rw [← hek]
      refine ⟨.tuple #[e.val,.int .i64 (e.born:Int)],_,_,?_,hh.turnI hi (.map es clock),h m _ _ e.born e.val (.inl rfl) (fun _=>rfl) hm ⟨j,e,he,rfl,hf⟩⟩
      simp only [execOp,hk.ev hx,hk.ev hy,Instr.mapEntry,Sem.run_bind,run_underlying (t:=t) (d:=.map kt et),Result.andThen_ok,run_getMap hb,MKey.chk,h1',hek,hst,hmod,run_setB _ hb (.inl ⟨_,_,rfl⟩),Sem.run_pure,he',he,Option.map_some,Option.getD_some,goInt]
theorem findIdx_born {l:List MapEntry} {i:Nat} {e:MapEntry} (hn:(l.map (·.born)).Nodup) (h:l[i]?=some e):l.findIdx? (fun x=>(x.born:Int) == (e.born:Int))=some i:=by
  induction l generalizing i with
  | nil=>simp at h
  | cons x l ih =>
    rw [List.findIdx?_cons]
    simp only [List.map_cons,List.nodup_cons] at hn
    cases i with
    | zero=>simp at h; subst h; simp
    | succ i =>
      simp only [List.getElem?_cons_succ] at h
      have hne:x.born≠e.born:=fun he=>hn.1 (by rw [he]; exact List.mem_map.2 ⟨e,List.mem_of_getElem? h,rfl⟩)
      have:((x.born:Int) == (e.born:Int))=false:=by
        rw [beq_eq_false_iff_ne]; exact fun h=>hne (Int.ofNat.inj h)
      rw [this,ih hn.2 h]; rfl
theorem TL.entryStore (hF : Open F) (i : Nat) {t : TypeId} {α β : Type} [DecidableEq α] {K : α → Value} (V : β → Value) {m : List (α × β)} {es : Array MapEntry} {clock b born : Nat} (k : α) (v : β)
    {x y z:Operand} (hx:ev σ x=some (.map (some b))) (hy:ev σ y=some (.int .i64 (born:Int))) (hz:ev σ z=some (V v)) (hi:η[i]?=some [(b,.map es clock)]) (hm:MObj K V m es clock) (he:EntOk k m es born)
    (h:∀ es',MObj K V (mput k v m) es' clock→TL F P S w0 n ops Q rest ds σ (η.set i [(b,.map es' clock)])):TL F P S w0 n ops Q (⟨none,.entryStore t x y z,ty,pos,af,none⟩::rest) ds σ η :=
  TL.act hF (by intro c; simp) fun a w hk hh=>by
    have hb:=hh.inMem (List.mem_of_getElem? hi)
    obtain ⟨j,e,h1,rfl,hf⟩:=he
    obtain ⟨e',h2,hek⟩:=hm.keyAt hf
    rw [h1] at h2; cases h2
    have hfi:es.findIdx? (fun x=>(x.born:Int) == (e.born:Int))=some j:=by
      rw [show es=es.toList.toArray from rfl,List.findIdx?_toArray]; exact findIdx_born hm.born h1
    have hput:=(hm.put k v).1 j hf
    have hmod:(es.modify j fun e=>{ e with key:=K k,val:=V v })=es.modify j fun e=>{ e with val:=V v }:=by
      apply Array.ext'
      rw [Array.toList_modify,Array.toList_modify]
      apply List.ext_getElem?
      intro q
      simp only [List.getElem?_modify,Option.map_eq_map]
      by_cases hq:j=q
      · subst hq; simp [h1,hek]
      · simp [hq]
    rw [hmod] at hput
    refine ⟨_,_,?_,hh.turnI hi (.map (es.modify j fun e=>{ e with val:=V v }) clock),h _ hput⟩
    simp only [execOp,hk.ev hx,hk.ev hy,hk.ev hz,Instr.entryStore,Sem.run_bind,run_getMap hb,Result.andThen_ok,asInt,asIntOf,Sem.run_pure,hfi,run_setB _ hb (.inl ⟨_,_,rfl⟩)]
end
section
variable {F:Fence} {P:Program} {S:Nat→Prop} {w0 w:World} {n:Nat} {Q:Exit→Act→World→Prop} {l:List Oper} {ds:List Deferred} {σ:Env} {η:Heap} {m:Nat} {V:VL}
def QBN (F:Fence) (P:Program) (S:Nat→Prop) (w0:World) (n:Nat) (l:List Oper) (ds:List Deferred) (σ:Env) (Q:Exit→Act→World→Prop) (m:Nat) (V:VL) (h:Nat) (σ':Env):Exit→Act→World→Prop
  | .normal,a,w=>∃ η',Kn n ds σ' a∧Hp S w0 η' w∧DH F P S w0 n l ds σ Q m ((h,undef,2)::execV V) η'
  | e,a,w=>Q e a w
theorem TL.finN {h:Nat} {σ':Env} {ops:Array Oper} (hd:DH F P S w0 n l ds σ Q m ((h,undef,2)::execV V) η):TL F P S w0 n ops (QBN F P S w0 n l ds σ Q m V h σ') [] ds σ' η:=TL.nil fun _ _ hk hh=>⟨η,hk,hh,hd⟩
theorem InvD.putN {V' : VL} {η' : Heap} {L : Array Bool} {a a' : Act} {w' : World} (hi : InvD S w0 n l ds σ V η L a w) {i : Nat} (hL : L[i]? = some false) (hready : ∀ j, waits l i j = true → L[j]? = some true)
    (hV:∀ j u,vget V j=some u→vget V' j=some u) (hV':∀ j u,j≠i→vget V' j=some u→vget V j=some u) (hvi:(vget V' i).isSome=true) (hdi:dstOf l i=none)
    (hdone:∀ j u,(j,u,2)∈V'→j=i∨L[j]?=some true)
    (hs:a'.tmps.size=n) (hds:a'.defers=ds) (ho:∀ (t:Nat) (u:Value),a.tmps[t]?=some u→a'.tmps[t]?=some u) (hh:Hp S w0 η' w'):InvD S w0 n l ds σ V' η' (L.setIfInBounds i true) a' w':=by
  have hil:=(Array.getElem?_eq_some_iff.1 hL).1
  have hset:∀ k,(L.setIfInBounds i true)[k]?=some true↔k=i∨L[k]?=some true:=by
    intro k
    rw [Array.getElem?_setIfInBounds]
    by_cases e:i=k
    · subst e; simp [hil]
    · rw [if_neg e]
      constructor
      · exact .inr
      · rintro (h | h)
        · exact absurd h.symm e
        · exact h
  refine ⟨by simp [hi.size],?_,?_,?_,hs,hds,?_,?_,hh⟩
  · intro k hk
    rcases (hset k).1 hk with e | hk
    · subst e; exact hvi
    · have:=hi.dom k hk
      cases hv:vget V k with
      | none=>simp [hv] at this
      | some u=>rw [hV k u hv]; rfl
  · intro j u hj
    rcases hdone j u hj with e | h
    · exact (hset j).2 (.inl e)
    · exact (hset j).2 (.inr h)
  · intro k j hw hk
    rcases (hset k).1 hk with e | hk
    · subst e; exact (hset j).2 (.inr (hready j hw))
    · exact (hset j).2 (.inr (hi.down k j hw hk))
  · intro t u ht hno
    exact ho t u (hi.old t u ht fun k hk=>hno k ((hset k).2 (.inr hk)))
  · intro j u d' hj hv hd'
    rcases (hset j).1 hj with e | hj2
    · subst e; rw [hdi] at hd'; cases hd'
    · have hji:j≠i:=fun e=>by subst e; rw [hL] at hj2; cases hj2
      exact ho d' u (hi.new j u d' hj2 (hV' j u hji hv) hd')
theorem run_oneN {L : Array Bool} {a : Act} {i : Nat} {o : Oper} {env : List (Nat × Value × Option Nat)} {QO : Env → Exit → Act → World → Prop} (hi : InvD S w0 n l ds σ V η L a w) (hL : L[i]? = some false) (hready : ∀ j, waits l i j = true → L[j]? = some true) (ho : l[i]? = some o) (henv : EnvOkV l σ V i env)
    (hop:∀ ext:Env,TL F P S w0 n l.toArray (QO (envs env++ext)) [o] ds (envs env++ext) η) :
    wpOpIn F 0 P l.toArray (QO (envs env++fullEnv a)) i (fun a' w'=>QO (envs env++fullEnv a) .normal a' w') a w∧(∀ a':Act,Kn n ds (envs env++fullEnv a) a'→∀ (t:Nat) (u:Value),a.tmps[t]?=some u→a'.tmps[t]?=some u):=by
  have hke:∀ t v,lk (envs env) t=some v→a.tmps[t]?=some v:=hi.env hL hready henv
  have hkn:Kn n ds (envs env++fullEnv a) a:=⟨hi.tsize,hi.defers,fun t v htv=>by
    rcases lk_append htv with h5 | ⟨_,h5⟩
    · exact hke t v h5
    · exact lk_full a t v h5⟩
  have h6:=hop (fullEnv a) a w hkn hi.hp
  rw [wpListIn_one (i:=i) (by simp [ho])] at h6
  refine ⟨wpOpIn_mono (fun a' w' hx=>hx) h6,fun a' hk' t u htu=>?_⟩
  refine hk'.slot t u ?_
  have hfull:lk (fullEnv a) t=some u:=by
    have:=lk_full' a.tmps.toList 0 t u (by simpa using htu)
    simpa [fullEnv] using this
  have happ:∀ (e1:Env),(∀ v,lk e1 t=some v→v=u)→lk (e1++fullEnv a) t=some u:=by
    intro e1
    induction e1 with
    | nil=>intro _; exact hfull
    | cons p r ihr =>
      obtain ⟨s,v⟩:=p
      intro hv
      rw [List.cons_append,lk_cons]
      by_cases hst:s=t
      · rw [if_pos hst,hv v (by rw [lk_cons,if_pos hst])]
      · rw [if_neg hst]; exact ihr fun v' hv'=>hv v' (by rw [lk_cons,if_neg hst]; exact hv')
  exact happ _ fun v hv=>by
    have:=hke t v hv
    rw [htu] at this; cases this; rfl
/-- One heavy operation, without a slot, may come next. -/
theorem DH.heavyN (h : Nat) (env : List (Nat × Value × Option Nat)) {o : Oper} (hd : dagOk l = true) (ht : tailOk l m = true) (hq : dstsOk l m = true) (hcomp : complete l m V [h] = true) (ho : l[h]? = some o) (hod : o.dst = none) (him : Nat.blt h m = true) (hnew : vget V h = none) (henv : EnvOkV l σ V h env) (hrd : readersOk l V h = true)
    (hop:∀ ext:Env,TL F P S w0 n l.toArray (QBN F P S w0 n l ds σ Q m V h (envs env++ext)) [o] ds (envs env++ext) η):DH F P S w0 n l ds σ Q m V η:=by
  have hleaf:(∀ i,i<m→(vget V i).isSome=true)→TL F P S w0 n l.toArray Q (l.drop m) ds (allEnvV l V σ) η:=fun ha=>not_all him hnew ha
  intro hn h0 h1 hk
  have him0:h<m:=Nat.le_of_ble_eq_true him
  have hml:m≤l.length:=by
    simp only [dstsOk,Bool.and_eq_true] at hq
    exact Nat.le_of_ble_eq_true hq.1
  have hdom:∀ j,(vget V j).isSome=true→j<m:=by
    intro j hj
    cases hv:vget V j with
    | none=>simp [hv] at hj
    | some u=>obtain ⟨k,hm⟩:=vget_mem hv; exact (hk j u k hm).1
  have last:∀ (f:Nat) (L:Array Bool) (a:Act) (w:World),L.toList.countP (· == false)=f→InvD S w0 n l ds σ V η L a w→(∀ k,k<m→L[k]?=some true)→wpAnyIn F 0 P .any l.toArray Q f L a w:=by
    intro f L a w hc hi hall
    have hsz:=hi.size
    have hLq:∀ k,L[k]?=some true→k<m:=fun k hk'=>hdom k (hi.dom k hk')
    have hL:∀ j,j<l.length→L[j]?=some (decide (j<m)):=fun j hj=>by
      by_cases h1:j<m
      · rw [hall j h1]; simp [h1]
      · have hj':j<L.size:=by omega
        have:L[j]?≠some true:=fun e=>h1 (hLq j e)
        simp only [hj',Array.getElem?_eq_getElem] at this ⊢
        cases h4:L[j] with
        | true=>rw [h4] at this; exact absurd rfl this
        | false=>simp [h1]
    have hLeq:L.toList=List.replicate m true++List.replicate (l.length - m) false:=by
      apply List.ext_getElem?
      intro j
      rw [Array.getElem?_toList]
      by_cases hj:j<l.length
      · rw [hL j hj]
        by_cases h1:j<m
        · rw [List.getElem?_append_left (by simpa using h1)]; simp [h1]
        · rw [List.getElem?_append_right (by simpa using h1)]
          rw [List.getElem?_replicate,List.length_replicate,if_pos (by omega)]
          simp [h1]
      · rw [Array.getElem?_eq_none (by omega),List.getElem?_eq_none (by simp; omega)]
    have hf:m+f=l.length:=by
      rw [hLeq] at hc
      simp [List.countP_append,List.countP_replicate] at hc
      omega
    refine any_tail hd ht f m L a w hf (Nat.le_refl _) hsz hL (hleaf (fun i him=>hi.dom i (hall i him)) a w ⟨hi.tsize,hi.defers,fun t v htv=>?_⟩ hi.hp)
    have hmem:∀ t v,(t,v)∈(V.filterMap fun x=>(dstOf l x.1).map fun d=>(d,x.2.1))→∃ i,vget V i=some v∧dstOf l i=some t:=by
      intro t v h
      obtain ⟨⟨i,u,k⟩,h1,h2⟩:=List.mem_filterMap.1 h
      simp only [Option.map_eq_some_iff,Prod.mk.injEq] at h2
      obtain ⟨d,hd,rfl,rfl⟩:=h2
      exact ⟨i,mem_vget hn h1,hd⟩
    rcases lk_append htv with h5 | ⟨h5,h6⟩
    · obtain ⟨i,h3,h4⟩:=hmem t v (lk_mem h5)
      exact hi.new i v t (hall i (hdom i (by rw [h3]; rfl))) h3 h4
    · refine hi.old t v h6 fun k hk1 hk2=>?_
      have hkv:=hi.dom k hk1
      cases hv:vget V k with
      | none=>simp [hv] at hkv
      | some u =>
        obtain ⟨kk,hm⟩:=vget_mem hv
        refine lk_none h5 u (List.mem_filterMap.2 ⟨(k,u,kk),hm,by simp [hk2]⟩)
  intro f
  induction f with
  | zero =>
    intro L a w hc hi
    refine last 0 L a w hc hi (fun j hj=>?_)
    have hsz:=hi.size
    have hj':j<L.size:=by omega
    rw [List.countP_eq_zero] at hc
    have:=hc L[j] (by simp)
    simp at this
    simp [hj',this]
  | succ f ih =>
    intro L a w hc hi
    have hsz:=hi.size
    by_cases hall:∀ k,k<m→L[k]?=some true
    · exact last (f+1) L a w hc hi hall
    · simp only [Classical.not_forall] at hall
      obtain ⟨j,hj,hjn⟩:=hall
      have hjL:L[j]?=some false:=by
        have hj':j<L.size:=by omega
        simp only [hj',Array.getElem?_eq_getElem] at hjn ⊢
        cases h4:L[j] with
        | true=>rw [h4] at hjn; exact absurd rfl hjn
        | false=>rfl
      refine ⟨fun he=>by
        obtain ⟨i,hi'⟩:=ready_ex hd hsz j hjL
        rw [he] at hi'; simp at hi',fun i hir=>?_⟩
      obtain ⟨hLi,hready⟩:=mem_ready hsz hir
      have hilt:=(Array.getElem?_eq_some_iff.1 hLi).1
      have him:i<m:=by
        rcases Nat.lt_or_ge i m with h3 | h3
        · exact h3
        · have:L[j]?=some true:=by
            simp only [tailOk,List.all_eq_true,List.mem_range,Bool.or_eq_true] at ht
            rcases ht i (by omega) with h4 | h4
            · have:i<m:=Nat.le_of_ble_eq_true h4
              omega
            · rcases h4 j (by omega) with h5 | h5
              · exact hready j h5
              · exact waitsT_done hi.down _ i j hready h5
          rw [hjL] at this; cases this
      have hcnt:(L.setIfInBounds i true).toList.countP (· == false)=f:=by
        rw [Array.toList_setIfInBounds,List.countP_set (by simpa using hilt)]
        have h7:L.toList[i]'(by simpa using hilt)=false:=by
          have:=(Array.getElem?_eq_some_iff.1 hLi).2
          simpa using this
        rw [h7,hc]; simp
      simp only [complete,List.all_eq_true,List.mem_range,Bool.or_eq_true] at hcomp
      rcases hcomp i him with (hv | hv) | hv
      · -- a quiet one
        cases hvi:vget V i with
        | none=>simp [hvi] at hv
        | some v =>
          obtain ⟨k,hmem⟩:=vget_mem hvi
          have hqs:QSV F P S w0 n l ds σ V η i v:=by
            rcases (hk i v k hmem).2 with e | e | e
            · subst e; exact h0 i v hmem η
            · subst e; exact h1 i v hmem
            · subst e; have:=hi.done i v hmem; rw [hLi] at this; cases this
          obtain ⟨o,d,env,ho,hod,henv,hop⟩:=hqs
          have hdi:dstOf l i=some d:=by simp [dstOf,ho,hod]
          obtain ⟨hrun,hfr⟩:=run_one (d:=d) (QO:=fun σ'=>Fin S w0 n ds η ((d,v)::σ')) hi hLi hready ho henv hop
          refine wpOpIn_monoQ (fun a' w' hx=>?_) (fun e a' w' hne hx=>by cases e <;> first | exact absurd rfl hne | exact hx.elim) hrun
          obtain ⟨hk',hh'⟩:=(show Kn n ds ((d,v)::(envs env++fullEnv a)) a'∧Hp S w0 η w' from hx)
          exact ih _ a' w' hcnt (hi.put hq him hLi hready (fun _ _ h=>h) (fun _ _ _ h=>h) hvi hdom hdi (fun j u hm=>.inr (hi.done j u hm)) hk'.size hk'.defers (hfr v a' hk').1 (hfr v a' hk').2 hh')
      · -- a heavy one
        have hih:i=h:=by
          have:Nat.beq i h=true:=by simpa using hv
          exact Nat.eq_of_beq_eq_true this
        subst hih
        have hdi:dstOf l i=none:=by simp [dstOf,ho,hod]
        obtain ⟨hrun,hfr⟩:=run_oneN (QO:=fun σ'=>QBN F P S w0 n l ds σ Q m V i σ') hi hLi hready ho henv hop
        refine wpOpIn_monoQ (fun a' w' hx=>?_) (fun e a' w' hne hx=>by cases e <;> first | exact absurd rfl hne | exact hx) hrun
        obtain ⟨η',hk',hh',hdh⟩:=(show ∃ η',Kn n ds (envs env++fullEnv a) a'∧Hp S w0 η' w'∧DH F P S w0 n l ds σ Q m ((i,undef,2)::execV V) η' from hx)
        have hext:∀ j u,vget V j=some u→vget ((i,undef,2)::execV V) j=some u:=by
          intro j u hj
          rw [vget_cons,vget_exec]
          by_cases e:i=j
          · subst e; rw [hnew] at hj; cases hj
          · rw [if_neg e]; exact hj
        have hex:∀ j u k,(j,u,k)∈execV V→∃ k0,(j,u,k0)∈V∧((k0=1∧k=2)∨(k0≠1∧k=k0)):=by
          intro j u k hm
          obtain ⟨⟨j0,u0,k0⟩,hx0,he⟩:=List.mem_map.1 hm
          simp only [Prod.mk.injEq] at he
          obtain ⟨rfl,rfl,hke⟩:=he
          refine ⟨k0,hx0,?_⟩
          by_cases e:k0=1
          · subst e; left; exact ⟨rfl,hke.symm⟩
          · right
            have:Nat.beq k0 1=false:=by
              cases hb:Nat.beq k0 1
              · rfl
              · exact absurd (Nat.eq_of_beq_eq_true hb) e
            rw [this] at hke; exact ⟨e,hke.symm⟩
        have hmapf:(execV V).map (·.1)=V.map (·.1):=by simp [execV,Function.comp_def]
        refine hdh ?_ ?_ ?_ ?_ f _ a' w' hcnt (hi.putN hLi hready hext ?_ (by rw [vget_cons,if_pos rfl]; rfl) hdi ?_ hk'.size hk'.defers (hfr a' hk') hh')
        · rw [List.map_cons,hmapf]
          refine List.nodup_cons.2 ⟨fun hm=>?_,hn⟩
          obtain ⟨⟨j0,u0,k0⟩,hx0,he⟩:=List.mem_map.1 hm
          simp only at he; subst he
          have:=mem_vget hn hx0
          rw [hnew] at this; cases this
        · intro j u hm η2
          rcases List.mem_cons.1 hm with e | hm
          · cases e
          · obtain ⟨k0,hx0,h2 | h2⟩:=hex j u 0 hm
            · exact absurd h2.2 (by decide)
            · rw [← h2.2] at hx0; exact (h0 j u hx0 η2).ext hext
        · intro j u hm
          rcases List.mem_cons.1 hm with e | hm
          · cases e
          · obtain ⟨k0,hx0,h2 | h2⟩:=hex j u 1 hm
            · exact absurd h2.2 (by decide)
            · exact absurd h2.2.symm h2.1
        · intro j u k hm
          rcases List.mem_cons.1 hm with e | hm
          · cases e; exact ⟨him0,.inr (.inr rfl)⟩
          · obtain ⟨k0,hx0,h2 | h2⟩:=hex j u k hm
            · exact ⟨(hk j u k0 hx0).1,.inr (.inr h2.2)⟩
            · rw [h2.2]; exact hk j u k0 hx0
        · intro j u hji hv2
          rw [vget_cons,if_neg (fun e=>hji e.symm),vget_exec] at hv2; exact hv2
        · intro j u hm
          rcases List.mem_cons.1 hm with e | hm
          · cases e; exact .inl rfl
          · obtain ⟨k0,hx0,h2 | h2⟩:=hex j u 2 hm
            · right
              simp only [readersOk,List.all_eq_true] at hrd
              have h3:=hrd (j,u,k0) hx0
              simp only [h2.1,Bool.or_eq_true,Bool.not_eq_true'] at h3
              rcases h3 with h3 | h3 | h3
              · simp at h3
              · exact hready j h3
              · exact waitsT_done hi.down _ i j hready h3
            · right; rw [← h2.2] at hx0; exact hi.done j u hx0
      · -- it waits for what is not known
        exfalso
        simp only [List.any_eq_true,List.mem_range,Bool.and_eq_true,Bool.or_eq_true] at hv
        obtain ⟨j2,hj2,hnone,hw⟩:=hv
        have hLj:L[j2]?=some true:=by
          rcases hw with h5 | h5
          · exact hready j2 h5
          · exact waitsT_done hi.down _ i j2 hready h5
        have:=hi.dom j2 hLj
        cases hvv:vget V j2 with
        | none=>simp [hvv] at this
        | some u=>simp [hvv] at hnone
end
end Go.Sl
/- Words of 32 bits: the low bits of a number; remainders; truths that differ. -/
namespace Go.Sl
section
variable {F:Fence} {P:Program} {S:Nat→Prop} {w0 w:World} {n:Nat} {Q:Exit→Act→World→Prop} {ds:List Deferred} {σ:Env} {η:Heap} {ops:Array Oper} {rest:List Oper} {ty:TypeId} {pos:String} {af:Array Edge} {d:Nat}
theorem and_low (a:Int):IntKind.i64.wrap ((BitVec.ofInt 64 a &&& BitVec.ofInt 64 4294967295).toNat:Int)=a % 4294967296:=by
  have h1:(BitVec.ofInt 64 (4294967295:Int))=BitVec.ofNat 64 (2 ^ 32 - 1):=by decide
  have h2:(BitVec.ofInt 64 a &&& BitVec.ofInt 64 4294967295).toNat=(BitVec.ofInt 64 a).toNat % 2 ^ 32:=by
    rw [h1,BitVec.toNat_and,BitVec.toNat_ofNat,Nat.mod_eq_of_lt (by decide:2 ^ 32 - 1<2 ^ 64),Nat.and_two_pow_sub_one_eq_mod]
  rw [h2,BitVec.toNat_ofInt,wrap_i64 (by omega) (by omega)]
  omega
theorem TL.andLow (hF : Open F) {xt yt : TypeId} {x y : Operand} {a : Int} (hx : ev σ x = some (.int .i64 a)) (hy : ev σ y = some (.int .i64 4294967295)) (hn : Nat.blt d n = true)
    (h:TL F P S w0 n ops Q rest ds ((d,.int .i64 (a % 4294967296))::σ) η):TL F P S w0 n ops Q (⟨some d,.binOp .and xt x y yt,ty,pos,af,none⟩::rest) ds σ η :=
  TL.pure hF (by intro c; simp) hn (fun b w hk _=>by
    have hb:(Op.intBits .and .i64 a 4294967295).run P w = .ok (.int .i64 (a % 4294967296)) w:=by
      have:=and_low a
      unfold Op.intBits
      simp only [Sem.run_pure]
      congr 2
    simp [execOp,hk.ev hx,hk.ev hy,eqGuard,binOp,hb]) h
theorem TL.remI (hF : Open F) {xt yt : TypeId} {x y : Operand} {k : IntKind} {a b : Int} (hx : ev σ x = some (.int k a)) (hy : ev σ y = some (.int k b)) (hb : b ≠ 0) (hn : Nat.blt d n = true)
    (h:TL F P S w0 n ops Q rest ds ((d,.int k (Int.tmod a b))::σ) η):TL F P S w0 n ops Q (⟨some d,.binOp .rem xt x y yt,ty,pos,af,none⟩::rest) ds σ η :=
  TL.pure hF (by intro c; simp) hn (fun c w hk _=>by
    have hb':(Op.intDiv .rem k a b).run P w = .ok (.int k (Int.tmod a b)) w:=by
      unfold Op.intDiv
      rw [if_neg hb]
      simp only [Sem.run_pure]
    simp [execOp,hk.ev hx,hk.ev hy,eqGuard,binOp,hb']) h
theorem TL.neqB (hF : Open F) {xt yt : TypeId} [hu : Und P xt .bool] {x y : Operand} {a b : Bool} (hx : ev σ x = some (.bool a)) (hy : ev σ y = some (.bool b)) (hn : Nat.blt d n = true)
    (h:TL F P S w0 n ops Q rest ds ((d,.bool (a != b))::σ) η):TL F P S w0 n ops Q (⟨some d,.binOp .neq xt x y yt,ty,pos,af,none⟩::rest) ds σ η :=
  TL.pure hF (by intro c; simp) hn (fun c w hk _=>by
    have he:(Op.equalIn Op.maxDepth xt (.bool a) (.bool b)).run P w = .ok (a == b) w:=run_equalIn_bool' w 9999 xt a b hu.eq
    simp [execOp,hk.ev hx,hk.ev hy,eqGuard,binOp,Op.equal,he,bne]) h
theorem TL.eqlB (hF : Open F) {xt yt : TypeId} [hu : Und P xt .bool] {x y : Operand} {a b : Bool} (hx : ev σ x = some (.bool a)) (hy : ev σ y = some (.bool b)) (hn : Nat.blt d n = true)
    (h:TL F P S w0 n ops Q rest ds ((d,.bool (a == b))::σ) η):TL F P S w0 n ops Q (⟨some d,.binOp .eql xt x y yt,ty,pos,af,none⟩::rest) ds σ η :=
  TL.pure hF (by intro c; simp) hn (fun c w hk _=>by
    have he:(Op.equalIn Op.maxDepth xt (.bool a) (.bool b)).run P w = .ok (a == b) w:=run_equalIn_bool' w 9999 xt a b hu.eq
    simp [execOp,hk.ev hx,hk.ev hy,eqGuard,binOp,Op.equal,he]) h
/-- Structs of scalars are the same if all fields are. -/
def AllF (P:Program) (w:World) (e:Nat) (xs ys:Array Value):List Field→List (Value × Value × Bool)→Prop
  | [],[]=>True
  | f :: fs, p :: ps => (f.name ≠ "_" ∧ (part f.type xs f.offset).run P w = .ok p.1 w ∧ (part f.type ys f.offset).run P w = .ok p.2.1 w ∧ (Op.equalIn e f.type p.1 p.2.1).run P w = .ok p.2.2 w) ∧ AllF P w e xs ys fs ps
  | _,_=>False
theorem run_eqFields_all {e:Nat} {xs ys:Array Value}:∀ (fs:List Field) (ps:List (Value × Value × Bool)),AllF P w e xs ys fs ps→(Op.eqFields e xs ys fs).run P w = .ok (ps.all (·.2.2)) w
  | [],[],_=>rfl
  | [],_::_,h=>h.elim
  | _::_,[],h=>h.elim
  | f::fs,p::ps,h=>by
    obtain ⟨⟨h1,h2,h3,h4⟩,hr⟩:=h
    have ih:=run_eqFields_all fs ps hr
    simp only [Op.eqFields,ne_eq,h1,not_false_eq_true,if_true,Sem.run_bind,h2,h3,h4,Result.andThen_ok,List.all_cons]
    cases p.2.2 with
    | true=>simpa using ih
    | false=>rfl
theorem TL.neqA (hF : Open F) {xt yt : TypeId} {x y : Operand} {xa xb : Array Value} {r : Bool} (hx : ev σ x = some (.agg xa)) (hy : ev σ y = some (.agg xb)) (hg : P.eqGuardType P.depth xt = false) (hr : ∀ w, (Op.equal xt (.agg xa) (.agg xb)).run P w = .ok r w) (hn : Nat.blt d n = true)
    (h:TL F P S w0 n ops Q rest ds ((d,.bool (!r))::σ) η):TL F P S w0 n ops Q (⟨some d,.binOp .neq xt x y yt,ty,pos,af,none⟩::rest) ds σ η :=
  TL.pure hF (by intro c; simp) hn (fun c w hk _=>by
    have:=hr w
    simp [execOp,hk.ev hx,hk.ev hy,eqGuard,binOp,this,hg]) h
theorem TL.eqlA (hF : Open F) {xt yt : TypeId} {x y : Operand} {xa xb : Array Value} {r : Bool} (hx : ev σ x = some (.agg xa)) (hy : ev σ y = some (.agg xb)) (hg : P.eqGuardType P.depth xt = false) (hr : ∀ w, (Op.equal xt (.agg xa) (.agg xb)).run P w = .ok r w) (hn : Nat.blt d n = true)
    (h:TL F P S w0 n ops Q rest ds ((d,.bool r)::σ) η):TL F P S w0 n ops Q (⟨some d,.binOp .eql xt x y yt,ty,pos,af,none⟩::rest) ds σ η :=
  TL.pure hF (by intro c; simp) hn (fun c w hk _=>by
    have:=hr w
    simp [execOp,hk.ev hx,hk.ev hy,eqGuard,binOp,this,hg]) h
end
end Go.Sl
/- Regions that draw their order: heavy operations behind which some reads are still to come; with or without a slot. What is frozen, thawed. -/
namespace Go.Sl
section
variable {F:Fence} {P:Program} {S S':Nat→Prop} {w0 w w1:World} {n:Nat} {Q:Exit→Act→World→Prop} {l:List Oper} {ds:List Deferred} {σ:Env} {η ηr:Heap} {m:Nat} {V:VL}
theorem T.thaw {c:Code} (hz:Frz S S' w0 w1 ηr) (h:T F P S w0 n Q c ds σ (ηr++η)):T F P S' w1 n Q c ds σ η:=fun a w hk hh=>h a w hk (hz.back _ _ hh)
theorem TL.thaw {ops:Array Oper} {c:List Oper} (hz:Frz S S' w0 w1 ηr) (h:TL F P S w0 n ops Q c ds σ (ηr++η)):TL F P S' w1 n ops Q c ds σ η:=fun a w hk hh=>h a w hk (hz.back _ _ hh)
theorem TQ.thaw {K:Act→World→Prop} (hz:Frz S S' w0 w1 ηr) (h:TQ S w0 n K ds σ (ηr++η)):TQ S' w1 n K ds σ η:=fun a w hk hh=>h a w hk (hz.back _ _ hh)
def inL (k:Nat) (ks:List Nat):Bool:=ks.any (Nat.beq k)
theorem inL_iff {k:Nat} {ks:List Nat}:inL k ks=true↔k∈ks:=by
  unfold inL
  rw [List.any_eq_true]
  constructor
  · rintro ⟨x,hx,he⟩; rw [Nat.eq_of_beq_eq_true he]; exact hx
  · exact fun h=>⟨k,h,by simp⟩
/-- Reads that are still to come stay; the others are carried out. -/
def keepV (ks:List Nat) (V:VL):VL:=V.map fun x=>(x.1,x.2.1,bif Nat.beq x.2.2 1 then (bif inL x.1 ks then 1 else 2) else x.2.2)
theorem vget_keep (ks:List Nat):∀ (V:VL) (j:Nat),vget (keepV ks V) j=vget V j
  | [],_=>rfl
  | (i,v,k)::r,j=>by
    have:=vget_keep ks r j
    show vget ((i,v,_)::keepV ks r) j=_
    rw [vget_cons,vget_cons,this]
def readersOkK (l:List Oper) (V:VL) (h:Nat) (ks:List Nat):Bool:=V.all fun x=>!Nat.beq x.2.2 1 || inL x.1 ks || (waits l h x.1 || waitsT l l.length h x.1)
/-- What is asked of the reads that stay. -/
def KeepQ (F:Fence) (P:Program) (S:Nat→Prop) (w0:World) (n:Nat) (l:List Oper) (ds:List Deferred) (σ:Env) (V:VL) (η:Heap):List Nat→Prop
  | []=>True
  | k::r=>(∃ u,vget V k=some u∧QSV F P S w0 n l ds σ V η k u)∧KeepQ F P S w0 n l ds σ V η r
theorem KeepQ.get:∀ {ks:List Nat},KeepQ F P S w0 n l ds σ V η ks→∀ k∈ks,∀ u,vget V k=some u→QSV F P S w0 n l ds σ V η k u
  | [],_,k,h,_,_=>by simp at h
  | k0::r,h,k,hk,u,hu=>by
    rcases List.mem_cons.1 hk with e | hk
    · subst e
      obtain ⟨u',h1,h2⟩:=h.1
      rw [hu] at h1; cases h1; exact h2
    · exact KeepQ.get h.2 k hk u hu
def putO:Option Nat→Value→Env→Env
  | some d,v,σ=>(d,v)::σ
  | none,_,σ=>σ
def QBK (F:Fence) (P:Program) (S:Nat→Prop) (w0:World) (n:Nat) (l:List Oper) (ds:List Deferred) (σ:Env) (Q:Exit→Act→World→Prop) (m:Nat) (V:VL) (h:Nat) (od:Option Nat) (ks:List Nat) (σ':Env):Exit→Act→World→Prop
  | .normal,a,w=>∃ v η',Kn n ds (putO od v σ') a∧Hp S w0 η' w∧KeepQ F P S w0 n l ds σ V η' ks∧DH F P S w0 n l ds σ Q m ((h,v,2)::keepV ks V) η'
  | e,a,w=>Q e a w
theorem TL.finK {h d:Nat} {σ':Env} {v:Value} {ops:Array Oper} {ks:List Nat} (hq:KeepQ F P S w0 n l ds σ V η ks) (hd:DH F P S w0 n l ds σ Q m ((h,v,2)::keepV ks V) η):TL F P S w0 n ops (QBK F P S w0 n l ds σ Q m V h (some d) ks σ') [] ds ((d,v)::σ') η:=TL.nil fun _ _ hk hh=>⟨v,η,hk,hh,hq,hd⟩
theorem TL.finKN {h:Nat} {σ':Env} {ops:Array Oper} {ks:List Nat} (hq:KeepQ F P S w0 n l ds σ V η ks) (hd:DH F P S w0 n l ds σ Q m ((h,undef,2)::keepV ks V) η):TL F P S w0 n ops (QBK F P S w0 n l ds σ Q m V h none ks σ') [] ds σ' η:=TL.nil fun _ _ hk hh=>⟨undef,η,hk,hh,hq,hd⟩
/-- A heavy operation that may come next. -/
def HBK (F:Fence) (P:Program) (S:Nat→Prop) (w0:World) (n:Nat) (l:List Oper) (ds:List Deferred) (σ:Env) (Q:Exit→Act→World→Prop) (m:Nat) (V:VL) (η:Heap) (h:Nat):Prop :=
  ∃ ks o env,l[h]?=some o∧Nat.blt h m=true∧vget V h=none∧EnvOkV l σ V h env∧readersOkK l V h ks=true∧∀ ext:Env,TL F P S w0 n l.toArray (QBK F P S w0 n l ds σ Q m V h o.dst ks (envs env++ext)) [o] ds (envs env++ext) η
theorem HBK.mk {h : Nat} (ks : List Nat) (env : List (Nat × Value × Option Nat)) {o : Oper} (ho : l[h]? = some o) (him : Nat.blt h m = true) (hnew : vget V h = none) (he : EnvOkV l σ V h env) (hrd : readersOkK l V h ks = true)
    (hop:∀ ext:Env,TL F P S w0 n l.toArray (QBK F P S w0 n l ds σ Q m V h o.dst ks (envs env++ext)) [o] ds (envs env++ext) η):HBK F P S w0 n l ds σ Q m V η h:=⟨ks,o,env,ho,him,hnew,he,hrd,hop⟩
/-- A node: the heavy operations that may come next. -/
theorem DH.nodeK (hs:List Nat) (hd:dagOk l=true) (ht:tailOk l m=true) (hq:dstsOk l m=true) (hcomp:complete l m V hs=true) (hbr:∀ h∈hs,HBK F P S w0 n l ds σ Q m V η h) (hne:hs≠[]):DH F P S w0 n l ds σ Q m V η:=by
  have hleaf:(∀ i,i<m→(vget V i).isSome=true)→TL F P S w0 n l.toArray Q (l.drop m) ds (allEnvV l V σ) η:=fun ha=>by
    cases hs with
    | nil=>exact absurd rfl hne
    | cons h r =>
      obtain ⟨_,_,_,_,him,hnew,_⟩:=hbr h List.mem_cons_self
      exact not_all him hnew ha
  intro hn h0 h1 hk
  have hml:m≤l.length:=by
    simp only [dstsOk,Bool.and_eq_true] at hq
    exact Nat.le_of_ble_eq_true hq.1
  have hdom:∀ j,(vget V j).isSome=true→j<m:=by
    intro j hj
    cases hv:vget V j with
    | none=>simp [hv] at hj
    | some u=>obtain ⟨k,hm⟩:=vget_mem hv; exact (hk j u k hm).1
  have last:∀ (f:Nat) (L:Array Bool) (a:Act) (w:World),L.toList.countP (· == false)=f→InvD S w0 n l ds σ V η L a w→(∀ k,k<m→L[k]?=some true)→wpAnyIn F 0 P .any l.toArray Q f L a w:=by
    intro f L a w hc hi hall
    have hsz:=hi.size
    have hLq:∀ k,L[k]?=some true→k<m:=fun k hk'=>hdom k (hi.dom k hk')
    have hL:∀ j,j<l.length→L[j]?=some (decide (j<m)):=fun j hj=>by
      by_cases h1:j<m
      · rw [hall j h1]; simp [h1]
      · have hj':j<L.size:=by omega
        have:L[j]?≠some true:=fun e=>h1 (hLq j e)
        simp only [hj',Array.getElem?_eq_getElem] at this ⊢
        cases h4:L[j] with
        | true=>rw [h4] at this; exact absurd rfl this
        | false=>simp [h1]
    have hLeq:L.toList=List.replicate m true++List.replicate (l.length - m) false:=by
      apply List.ext_getElem?
      intro j
      rw [Array.getElem?_toList]
      by_cases hj:j<l.length
      · rw [hL j hj]
        by_cases h1:j<m
        · rw [List.getElem?_append_left (by simpa using h1)]; simp [h1]
        · rw [List.getElem?_append_right (by simpa using h1)]
          rw [List.getElem?_replicate,List.length_replicate,if_pos (by omega)]
          simp [h1]
      · rw [Array.getElem?_eq_none (by omega),List.getElem?_eq_none (by simp; omega)]
    have hf:m+f=l.length:=by
      rw [hLeq] at hc
      simp [List.countP_append,List.countP_replicate] at hc
      omega
    refine any_tail hd ht f m L a w hf (Nat.le_refl _) hsz hL (hleaf (fun i him=>hi.dom i (hall i him)) a w ⟨hi.tsize,hi.defers,fun t v htv=>?_⟩ hi.hp)
    have hmem:∀ t v,(t,v)∈(V.filterMap fun x=>(dstOf l x.1).map fun d=>(d,x.2.1))→∃ i,vget V i=some v∧dstOf l i=some t:=by
      intro t v h
      obtain ⟨⟨i,u,k⟩,h1,h2⟩:=List.mem_filterMap.1 h
      simp only [Option.map_eq_some_iff,Prod.mk.injEq] at h2
      obtain ⟨d,hd,rfl,rfl⟩:=h2
      exact ⟨i,mem_vget hn h1,hd⟩
    rcases lk_append htv with h5 | ⟨h5,h6⟩
    · obtain ⟨i,h3,h4⟩:=hmem t v (lk_mem h5)
      exact hi.new i v t (hall i (hdom i (by rw [h3]; rfl))) h3 h4
    · refine hi.old t v h6 fun k hk1 hk2=>?_
      have hkv:=hi.dom k hk1
      cases hv:vget V k with
      | none=>simp [hv] at hkv
      | some u =>
        obtain ⟨kk,hm⟩:=vget_mem hv
        refine lk_none h5 u (List.mem_filterMap.2 ⟨(k,u,kk),hm,by simp [hk2]⟩)
  intro f
  induction f with
  | zero =>
    intro L a w hc hi
    refine last 0 L a w hc hi (fun j hj=>?_)
    have hsz:=hi.size
    have hj':j<L.size:=by omega
    rw [List.countP_eq_zero] at hc
    have:=hc L[j] (by simp)
    simp at this
    simp [hj',this]
  | succ f ih =>
    intro L a w hc hi
    have hsz:=hi.size
    by_cases hall:∀ k,k<m→L[k]?=some true
    · exact last (f+1) L a w hc hi hall
    · simp only [Classical.not_forall] at hall
      obtain ⟨j,hj,hjn⟩:=hall
      have hjL:L[j]?=some false:=by
        have hj':j<L.size:=by omega
        simp only [hj',Array.getElem?_eq_getElem] at hjn ⊢
        cases h4:L[j] with
        | true=>rw [h4] at hjn; exact absurd rfl hjn
        | false=>rfl
      refine ⟨fun he=>by
        obtain ⟨i,hi'⟩:=ready_ex hd hsz j hjL
        rw [he] at hi'; simp at hi',fun i hir=>?_⟩
      obtain ⟨hLi,hready⟩:=mem_ready hsz hir
      have hilt:=(Array.getElem?_eq_some_iff.1 hLi).1
      have him:i<m:=by
        rcases Nat.lt_or_ge i m with h3 | h3
        · exact h3
        · have:L[j]?=some true:=by
            simp only [tailOk,List.all_eq_true,List.mem_range,Bool.or_eq_true] at ht
            rcases ht i (by omega) with h4 | h4
            · have:i<m:=Nat.le_of_ble_eq_true h4
              omega
            · rcases h4 j (by omega) with h5 | h5
              · exact hready j h5
              · exact waitsT_done hi.down _ i j hready h5
          rw [hjL] at this; cases this
      have hcnt:(L.setIfInBounds i true).toList.countP (· == false)=f:=by
        rw [Array.toList_setIfInBounds,List.countP_set (by simpa using hilt)]
        have h7:L.toList[i]'(by simpa using hilt)=false:=by
          have:=(Array.getElem?_eq_some_iff.1 hLi).2
          simpa using this
        rw [h7,hc]; simp
      simp only [complete,List.all_eq_true,List.mem_range,Bool.or_eq_true] at hcomp
      rcases hcomp i him with (hv | hv) | hv
      · -- a quiet one
        cases hvi:vget V i with
        | none=>simp [hvi] at hv
        | some v =>
          obtain ⟨k,hmem⟩:=vget_mem hvi
          have hqs:QSV F P S w0 n l ds σ V η i v:=by
            rcases (hk i v k hmem).2 with e | e | e
            · subst e; exact h0 i v hmem η
            · subst e; exact h1 i v hmem
            · subst e; have:=hi.done i v hmem; rw [hLi] at this; cases this
          obtain ⟨o,d,env,ho,hod,henv,hop⟩:=hqs
          have hdi:dstOf l i=some d:=by simp [dstOf,ho,hod]
          obtain ⟨hrun,hfr⟩:=run_one (d:=d) (QO:=fun σ'=>Fin S w0 n ds η ((d,v)::σ')) hi hLi hready ho henv hop
          refine wpOpIn_monoQ (fun a' w' hx=>?_) (fun e a' w' hne hx=>by cases e <;> first | exact absurd rfl hne | exact hx.elim) hrun
          obtain ⟨hk',hh'⟩:=(show Kn n ds ((d,v)::(envs env++fullEnv a)) a'∧Hp S w0 η w' from hx)
          exact ih _ a' w' hcnt (hi.put hq him hLi hready (fun _ _ h=>h) (fun _ _ _ h=>h) hvi hdom hdi (fun j u hm=>.inr (hi.done j u hm)) hk'.size hk'.defers (hfr v a' hk').1 (hfr v a' hk').2 hh')
      · -- a heavy one
        have hih:i∈hs:=by
          obtain ⟨x,hx,he⟩:=List.any_eq_true.1 hv
          have:i=x:=Nat.eq_of_beq_eq_true he
          rw [this]; exact hx
        obtain ⟨ks,o,env,ho,_,hnew,henv,hrd,hop⟩:=hbr i hih
        have hext:∀ (v:Value) j u,vget V j=some u→vget ((i,v,2)::keepV ks V) j=some u:=by
          intro v j u hj
          rw [vget_cons,vget_keep]
          by_cases e:i=j
          · subst e; rw [hnew] at hj; cases hj
          · rw [if_neg e]; exact hj
        have hex:∀ j u k,(j,u,k)∈keepV ks V→∃ k0,(j,u,k0)∈V∧((k0=1∧j∈ks∧k=1)∨(k0=1∧j ∉ ks∧k=2)∨(k0≠1∧k=k0)):=by
          intro j u k hm
          obtain ⟨⟨j0,u0,k0⟩,hx0,he⟩:=List.mem_map.1 hm
          simp only [Prod.mk.injEq] at he
          obtain ⟨rfl,rfl,hke⟩:=he
          refine ⟨k0,hx0,?_⟩
          by_cases e:k0=1
          · subst e
            rw [show Nat.beq 1 1=true from rfl,cond_true] at hke
            cases hin:inL j0 ks with
            | true=>rw [hin] at hke; left; exact ⟨rfl,inL_iff.1 hin,hke.symm⟩
            | false =>
              rw [hin] at hke; right; left
              exact ⟨rfl,(fun h=>by rw [inL_iff.2 h] at hin; cases hin),hke.symm⟩
          · right; right
            have:Nat.beq k0 1=false:=by
              cases hb:Nat.beq k0 1
              · rfl
              · exact absurd (Nat.eq_of_beq_eq_true hb) e
            rw [this] at hke; exact ⟨e,hke.symm⟩
        have hmapf:(keepV ks V).map (·.1)=V.map (·.1):=by simp [keepV,Function.comp_def]
        have fin:∀ (v:Value) (η':Heap) (a':Act) (w':World),KeepQ F P S w0 n l ds σ V η' ks→DH F P S w0 n l ds σ Q m ((i,v,2)::keepV ks V) η'→InvD S w0 n l ds σ ((i,v,2)::keepV ks V) η' (L.setIfInBounds i true) a' w'→wpAnyIn F 0 P .any l.toArray Q f (L.setIfInBounds i true) a' w':=by
          intro v η' a' w' hkq hdh hinv
          refine hdh ?_ ?_ ?_ ?_ f _ a' w' hcnt hinv
          · rw [List.map_cons,hmapf]
            refine List.nodup_cons.2 ⟨fun hm=>?_,hn⟩
            obtain ⟨⟨j0,u0,k0⟩,hx0,he⟩:=List.mem_map.1 hm
            simp only at he; subst he
            have:=mem_vget hn hx0
            rw [hnew] at this; cases this
          · intro j u hm η2
            rcases List.mem_cons.1 hm with e | hm
            · cases e
            · obtain ⟨k0,hx0,h2 | h2 | h2⟩:=hex j u 0 hm
              · exact absurd h2.2.2 (by decide)
              · exact absurd h2.2.2 (by decide)
              · rw [← h2.2] at hx0; exact (h0 j u hx0 η2).ext (hext v)
          · intro j u hm
            rcases List.mem_cons.1 hm with e | hm
            · cases e
            · obtain ⟨k0,hx0,h2 | h2 | h2⟩:=hex j u 1 hm
              · exact (hkq.get j h2.2.1 u (mem_vget hn hx0)).ext (hext v)
              · exact absurd h2.2.2 (by decide)
              · exact absurd h2.2.symm h2.1
          · intro j u k hm
            rcases List.mem_cons.1 hm with e | hm
            · cases e; exact ⟨him,.inr (.inr rfl)⟩
            · obtain ⟨k0,hx0,h2 | h2 | h2⟩:=hex j u k hm
              · exact ⟨(hk j u k0 hx0).1,.inr (.inl h2.2.2)⟩
              · exact ⟨(hk j u k0 hx0).1,.inr (.inr h2.2.2)⟩
              · rw [h2.2]; exact hk j u k0 hx0
        have hV':∀ (v:Value) j u,j≠i→vget ((i,v,2)::keepV ks V) j=some u→vget V j=some u:=by
          intro v j u hji hv2
          rw [vget_cons,if_neg (fun e=>hji e.symm),vget_keep] at hv2; exact hv2
        have hdn:∀ (v:Value) j u,(j,u,2)∈(i,v,2)::keepV ks V→j=i∨L[j]?=some true:=by
          intro v j u hm
          rcases List.mem_cons.1 hm with e | hm
          · cases e; exact .inl rfl
          · obtain ⟨k0,hx0,h2 | h2 | h2⟩:=hex j u 2 hm
            · exact absurd h2.2.2 (by decide)
            · right
              simp only [readersOkK,List.all_eq_true] at hrd
              have h3:=hrd (j,u,k0) hx0
              simp only [h2.1,Bool.or_eq_true,Bool.not_eq_true',inL_iff] at h3
              rcases h3 with (h3 | h3) | h3 | h3
              · simp at h3
              · exact absurd h3 h2.2.1
              · exact hready j h3
              · exact waitsT_done hi.down _ i j hready h3
            · right; rw [← h2.2] at hx0; exact hi.done j u hx0
        cases hod:o.dst with
        | some d =>
          rw [hod] at hop
          have hdi:dstOf l i=some d:=by simp [dstOf,ho,hod]
          obtain ⟨hrun,hfr⟩:=run_one (d:=d) (QO:=fun σ'=>QBK F P S w0 n l ds σ Q m V i (some d) ks σ') hi hLi hready ho henv hop
          refine wpOpIn_monoQ (fun a' w' hx=>?_) (fun e a' w' hne hx=>by cases e <;> first | exact absurd rfl hne | exact hx) hrun
          obtain ⟨v,η',hk',hh',hkq,hdh⟩:=(show ∃ v η',Kn n ds ((d,v)::(envs env++fullEnv a)) a'∧Hp S w0 η' w'∧KeepQ F P S w0 n l ds σ V η' ks∧DH F P S w0 n l ds σ Q m ((i,v,2)::keepV ks V) η' from hx)
          exact fin v η' a' w' hkq hdh (hi.put hq him hLi hready (hext v) (hV' v) (by rw [vget_cons,if_pos rfl]) hdom hdi (hdn v) hk'.size hk'.defers (hfr v a' hk').1 (hfr v a' hk').2 hh')
        | none =>
          rw [hod] at hop
          have hdi:dstOf l i=none:=by simp [dstOf,ho,hod]
          obtain ⟨hrun,hfr⟩:=run_oneN (QO:=fun σ'=>QBK F P S w0 n l ds σ Q m V i none ks σ') hi hLi hready ho henv hop
          refine wpOpIn_monoQ (fun a' w' hx=>?_) (fun e a' w' hne hx=>by cases e <;> first | exact absurd rfl hne | exact hx) hrun
          obtain ⟨v,η',hk',hh',hkq,hdh⟩:=(show ∃ v η',Kn n ds (envs env++fullEnv a) a'∧Hp S w0 η' w'∧KeepQ F P S w0 n l ds σ V η' ks∧DH F P S w0 n l ds σ Q m ((i,v,2)::keepV ks V) η' from hx)
          exact fin v η' a' w' hkq hdh (hi.putN hLi hready (hext v) (hV' v) (by rw [vget_cons,if_pos rfl]; rfl) hdi (hdn v) hk'.size hk'.defers (hfr a' hk') hh')
      · -- it waits for what is not known
        exfalso
        simp only [List.any_eq_true,List.mem_range,Bool.and_eq_true,Bool.or_eq_true] at hv
        obtain ⟨j2,hj2,hnone,hw⟩:=hv
        have hLj:L[j2]?=some true:=by
          rcases hw with h5 | h5
          · exact hready j2 h5
          · exact waitsT_done hi.down _ i j2 hready h5
        have:=hi.dom j2 hLj
        cases hvv:vget V j2 with
        | none=>simp [hvv] at this
        | some u=>simp [hvv] at hnone
theorem DH.k1 {h1:Nat} (hd:dagOk l=true) (ht:tailOk l m=true) (hq:dstsOk l m=true) (hcomp:complete l m V [h1]=true) (b1:HBK F P S w0 n l ds σ Q m V η h1):DH F P S w0 n l ds σ Q m V η :=
  DH.nodeK [h1] hd ht hq hcomp (fun h' hh=>by rw [List.mem_singleton.1 hh]; exact b1) (by simp)
theorem DH.k2 {h1 h2:Nat} (hd:dagOk l=true) (ht:tailOk l m=true) (hq:dstsOk l m=true) (hcomp:complete l m V [h1,h2]=true) (b1:HBK F P S w0 n l ds σ Q m V η h1) (b2:HBK F P S w0 n l ds σ Q m V η h2):DH F P S w0 n l ds σ Q m V η :=
  DH.nodeK [h1,h2] hd ht hq hcomp (fun h' hh=>by
    rcases List.mem_cons.1 hh with e | hh
    · subst e; exact b1
    · rw [List.mem_singleton.1 hh]; exact b2) (by simp)
theorem DH.k3 {h1 h2 h3:Nat} (hd:dagOk l=true) (ht:tailOk l m=true) (hq:dstsOk l m=true) (hcomp:complete l m V [h1,h2,h3]=true) (b1:HBK F P S w0 n l ds σ Q m V η h1) (b2:HBK F P S w0 n l ds σ Q m V η h2) (b3:HBK F P S w0 n l ds σ Q m V η h3):DH F P S w0 n l ds σ Q m V η :=
  DH.nodeK [h1,h2,h3] hd ht hq hcomp (fun h' hh=>by
    rcases List.mem_cons.1 hh with e | hh
    · subst e; exact b1
    · rcases List.mem_cons.1 hh with e | hh
      · subst e; exact b2
      · rw [List.mem_singleton.1 hh]; exact b3) (by simp)
end
end Go.Sl
/- The end of a function whose results lie in slots and in memory. -/
namespace Go.Sl
variable {F:Fence} {P:Program} {S:Nat→Prop} {w0 w:World} {n:Nat} {Q:Exit→Act→World→Prop} {ds:List Deferred} {σ:Env} {η:Heap}

/-- What a result variable holds. -/
def ResV (P:Program) (S:Nat→Prop) (w0:World) (η:Heap) (σ:Env):ResultVar→Value→Prop
  | .tmp t,v=>lk σ t=some v
  | .cell c ct,v=>∃ b,lk σ c=some (.pointer (some ⟨b,0,none⟩))∧∀ w,Hp S w0 η w→(loadVar ct ⟨b,0,none⟩).run P w = .ok v w
def ResVs (P:Program) (S:Nat→Prop) (w0:World) (η:Heap) (σ:Env):List ResultVar→List Value→Prop
  | [],[]=>True
  | r::rs,v::vs=>ResV P S w0 η σ r v∧ResVs P S w0 η σ rs vs
  | _,_=>False
theorem ResV.tmp {t:Nat} {v:Value} (h:lk σ t=some v):ResV P S w0 η σ (.tmp t) v:=h
theorem ResV.one {c:Nat} {ct:TypeId} [Ag P ct false] {b:Nat} {x:Value} (hc:lk σ c=some (.pointer (some ⟨b,0,none⟩))) (hx:At S w0 η ⟨b,0,none⟩ x):ResV P S w0 η σ (.cell c ct) x :=
  ⟨b,hc,fun _ hh=>run_loadVar1 (hx.cell hh)⟩
theorem ResV.agg {c : Nat} {ct : TypeId} [Ag P ct true] {z : Value} {sz bt : Nat} [Inf P ct z sz bt] (cs : List Value) {b : Nat} (hc : lk σ c = some (.pointer (some ⟨b, 0, none⟩))) (hl : cs.length = sz) (hv : ∀ i v, cs[i]? = some v → At S w0 η ⟨b, 0 + i, none⟩ v) :
    ResV P S w0 η σ (.cell c ct) (.agg cs.toArray) :=
  ⟨b,hc,fun w hh=>by simp [loadVar,Ag.eq (t:=ct) (b:=true),run_sizeOf (t:=ct) (z:=z) (sz:=sz) (bt:=bt),run_loadCells hl hv hh]⟩
theorem results_x {fn:Func} {rs:List ResultVar} {vs:List Value} (hr:fn.results=rs.toArray) {a:Act} (hk:Kn n ds σ a) (hh:Hp S w0 η w) (hv:ResVs P S w0 η σ rs vs):(results fn a.tmps).run P w = .ok (retVal vs) w:=by
  have key:∀ (f:ResultVar→Sem Value),(∀ t,f (.tmp t)=pure (a.tmps.getD t undef))→(∀ c ct b v,lk σ c=some (.pointer (some ⟨b,0,none⟩))→(loadVar ct ⟨b,0,none⟩).run P w = .ok v w→(f (.cell c ct)).run P w = .ok v w)→∀ (rs:List ResultVar) (vs:List Value),ResVs P S w0 η σ rs vs→(rs.mapM f).run P w = .ok vs w:=by
    intro f hf hfc rs
    induction rs with
    | nil=>intro vs hv; cases vs with
      | nil=>simp
      | cons v vs=>exact hv.elim
    | cons r rs ih =>
      intro vs hv
      cases vs with
      | nil=>exact hv.elim
      | cons v vs =>
        have h2:=ih vs hv.2
        cases r with
        | tmp t =>
          have h1:=hk.slot _ _ hv.1
          simp only [List.mapM_cons,Sem.run_bind,hf,Sem.run_pure,Result.andThen_ok,h2]
          simp [Array.getD_eq_getD_getElem?,h1]
        | cell c ct =>
          obtain ⟨b,hb1,hb2⟩:=hv.1
          simp only [List.mapM_cons,Sem.run_bind,hfc c ct b v hb1 (hb2 w hh),Sem.run_pure,Result.andThen_ok,h2]
  unfold results
  rw [hr,Array.mapM_eq_mapM_toList]
  simp only [Sem.run_bind,Sem.run_map]
  rw [key _ (fun t=>rfl) (fun c ct b v h1 h2=>by simp [Array.getD_eq_getD_getElem?,hk.slot _ _ h1,asAddr,h2]) rs vs hv]
  simp only [Result.andThen_ok,Sem.run_pure]
  exact congrArg (fun z=>Result.ok z w) (retVal_eq _)
/-- The end of a function: results in slots, and in memory. -/
theorem TQ.retX {fn:Func} (rs:List ResultVar) (vs:List Value) {v:Value} {R:Value→Heap→Prop} (η2:Heap) (hr:fn.results=rs.toArray) (hv:ResVs P S w0 η σ rs vs) (he:retVal vs=v) (hs:η2.Sublist η) (hR:R v η2):TQ S w0 n (bodyPost P fn (post R S w0) .ret) [] σ η :=
  fun a w hk hh=>⟨hk.defers,v,by rw [results_x hr hk hh hv,he],_,η2,rfl,hh.seg hs,hR⟩
theorem TQ.retXE {fn:Func} (rs:List ResultVar) (vs:List Value) {v:Value} {R:Value→Heap→Prop} {E:List PanicEntry→Heap→Prop} (η2:Heap) (hr:fn.results=rs.toArray) (hv:ResVs P S w0 η σ rs vs) (he:retVal vs=v) (hs:η2.Sublist η) (hR:R v η2):TQ S w0 n (bodyPost P fn (postE R E S w0) .ret) [] σ η :=
  fun a w hk hh=>⟨hk.defers,v,by rw [results_x hr hk hh hv,he],.inl ⟨_,η2,rfl,hh.seg hs,hR⟩⟩
end Go.Sl
/- What is left of a list behind a cut. -/
namespace Go.Sl
variable {S:Nat→Prop} {w0:World} {η:Heap}
theorem Row.cut {a:Option Addr} {cs:List Value} {k cap sz:Nat} (h:Row S w0 η a cs) (hc:cs.length≤cap*sz):Row S w0 η (if cap=k then a else a.map (·.add (k*sz))) (cs.drop (k*sz)):=by
  by_cases e:cap=k
  · rw [if_pos e,List.drop_eq_nil_of_le (by rw [← e]; exact hc)]
    exact ⟨fun h=>by simp at h,fun i v h=>by simp at h⟩
  · rw [if_neg e]
    by_cases hl:k*sz<cs.length
    · obtain ⟨ad,rfl,hs⟩:=h.ad (by omega)
      obtain ⟨b,o,s⟩:=ad
      simp only at hs; subst hs
      have ea:(⟨b,o,none⟩:Addr).add (k*sz)=⟨b,o+k*sz,none⟩:=by
        unfold Addr.add; split
        · rename_i h0; rw [h0]; rfl
        · rfl
      refine ⟨fun _=>⟨_,rfl,by simp only [ea]⟩,fun i v hi=>?_⟩
      rw [List.getElem?_drop] at hi
      have:=h.cell _ v hi
      simp only [Option.map_some,ea]
      simpa [sAt,Nat.add_assoc] using this
    · rw [List.drop_eq_nil_of_le (by omega)]
      exact ⟨fun h=>by simp at h,fun i v h=>by simp at h⟩
theorem flat_drop {α:Type} {c:Nat} {f:α→List Value} (hf:∀ x,(f x).length=c):∀ (l:List α) (k:Nat),(l.flatMap f).drop (k*c)=(l.drop k).flatMap f
  | [],k=>by simp
  | x::r,0=>by simp
  | x::r,k+1=>by
    rw [List.flatMap_cons,List.drop_succ_cons,← flat_drop hf r k,Nat.add_mul,Nat.one_mul,Nat.add_comm,← List.drop_drop,List.drop_left' (hf x)]
theorem Row.cutF {α:Type} {c:Nat} {f:α→List Value} (hf:∀ x,(f x).length=c) {a:Option Addr} {l:List α} {k cap:Nat} (h:Row S w0 η a (l.flatMap f)) (hc:l.length≤cap):Row S w0 η (if cap=k then a else a.map (·.add (k*c))) ((l.drop k).flatMap f):=by
  rw [← flat_drop hf]
  refine h.cut ?_
  have:(l.flatMap f).length=l.length*c:=by
    clear h hc
    induction l with
    | nil=>simp
    | cons x r ih=>rw [List.flatMap_cons,List.length_append,hf,ih,List.length_cons,Nat.add_mul]; omega
  rw [this]; exact Nat.mul_le_mul_right _ hc
theorem frz_mk2 {w:World} {ηr:Heap} (hh:Hp S w0 (ηr++η) w):∃ S',Frz S S' w0 w ηr∧Hp S' w η w∧∀ η' a v,At S' w η' a v→At S w0 (ηr++η') a v:=by
  obtain ⟨h1,h2⟩:=frz_mk hh
  refine ⟨_,h1,h2,fun η' a v h=>?_⟩
  cases h with
  | rd h hc =>
    rcases h with h | h
    · refine .rd h ?_
      have:=(hh.same _ h).2
      simp only [World.cell?,this] at hc ⊢
      exact hc
    · obtain ⟨p,hp,he⟩:=List.mem_map.1 h
      have h3:=(hh.own p (by rw [List.flatten_append,List.mem_append]; exact .inl hp)).1
      obtain ⟨seg,hs,hps⟩:=List.mem_flatten.1 hp
      rw [he] at h3
      have hsp:=(cell_lt hc).2
      unfold World.cell? at hc
      rw [h3] at hc
      obtain ⟨pb,po⟩:=p
      simp only at he hc; subst he
      cases po with
      | cells cs e fz =>
        simp only [hsp] at hc
        exact .own seg (List.mem_append_left _ hs) cs e fz hps (by simpa using hc) hsp
      | _=>simp at hc
  | own seg hs cs e fz hp hc hsp=>exact .own seg (List.mem_append_right _ hs) cs e fz hp hc hsp
/-- A contract whose arguments lie in read memory, where they lie in blocks of one's own. -/
theorem Rt.frame {P : Program} {g : FuncId} {args : Array Value} {R : Value → Heap → Prop} (ηr : Heap) {η2 : Heap} (he : η = ηr ++ η2)
    (h:∀ S' w1,Frz S S' w0 w1 ηr→(∀ η' a v,At S' w1 η' a v→At S w0 (ηr++η') a v)→Rt P g args S' w1 η2 (fun v η'=>R v (ηr++η'))):Rt P g args S w0 η R:=fun w hh=>by
  subst he
  obtain ⟨S',hz,h2,h3⟩:=frz_mk2 hh
  exact (h _ _ hz h3 w h2).mono fun e w' ⟨v,η',h1,h2,h3⟩=>⟨v,ηr++η',h1,hz.back _ _ h2,h3⟩
theorem Row.thaw {S':Nat→Prop} {w1:World} {ηr η':Heap} {a:Option Addr} {cs:List Value} (hb:∀ η' a v,At S' w1 η' a v→At S w0 (ηr++η') a v) (h:Row S' w1 η' a cs):Row S w0 (ηr++η') a cs:=⟨h.ad,fun i v hi=>hb _ _ _ (h.cell i v hi)⟩
end Go.Sl
/- make of a slice of elements of any size. -/
namespace Go.Sl
variable {S:Nat→Prop} {w0:World} {η:Heap}
section
variable {F:Fence} {P:Program} {w:World} {n:Nat} {Q:Exit→Act→World→Prop} {ds:List Deferred} {σ:Env} {ops:Array Oper} {d:Nat} {ty:TypeId} {pos:String} {af:Array Edge} {rest:List Oper}
/-- make of a slice of elements of any size. -/
theorem TL.makeSliceN (hF : Open F) {t e : TypeId} [Und P t (.slice e)] {z : Value} {sz bt : Nat} [Inf P e z sz bt] {x y : Operand} {k : Nat} (hx : ev σ x = some (.int .i64 (k : Int))) (hy : ev σ y = some (.int .i64 (k : Int))) (cs : List Value) (hcs : ((Array.range (k * sz)).map fun i => z.cells[i % z.cells.size]!) = cs.toArray) (hk0 : 0 < k) (hsz : 0 < sz) (hb : k * bt ≤ 281474976710656) (hk : k ≤ 4611686018427387904) (hn : Nat.blt d n = true)
    (h:∀ b,TL F P S w0 n ops Q rest ds ((d,.slice (some ⟨b,0,none⟩) k k)::σ) ([(b,.cells cs.toArray e (0,0))]::η)) :
    TL F P S w0 n ops Q (⟨some d,.makeSlice t x y,ty,pos,af,none⟩::rest) ds σ η :=
  TL.val hF (by intro c; simp) hn fun a w hkn hh=>by
    obtain ⟨inf,hinf,hiz,hisz,hibt⟩:=run_typeInfo (P:=P) (t:=e) (z:=z) (sz:=sz) (bt:=bt)
    refine ⟨_,_,_,?_,hh.alloc _,h _⟩
    have hw:IntKind.i64.wrap (k:Int)=k:=wrap_i64 (by omega) (by omega)
    have hb':¬ ((281474976710656:Int)<(bt:Int)*(k:Int)):=by
      have:((k*bt:Nat):Int)≤281474976710656:=by omega
      rw [Int.natCast_mul,Int.mul_comm] at this
      omega
    have h0:¬ (k*sz=0):=Nat.pos_iff_ne_zero.1 (Nat.mul_pos hk0 hsz)
    simp [execOp,Instr.makeSlice,hkn.ev hx,hkn.ev hy,run_underlying (t:=t) (d:=.slice e),asInt,asIntOf,hinf,hibt,hw,hb',run_sizeOf (t:=e) (z:=z) (sz:=sz) (bt:=bt),newRow,run_zeroValue (t:=e) (z:=z) (sz:=sz) (bt:=bt),h0,hcs,show ¬ ((k:Int)<0) by omega]
end
end Go.Sl
/- Slices: is one nil; of an array; its room; append of a make. -/
namespace Go.Sl
variable {S:Nat→Prop} {w0:World} {η:Heap}
section
variable {F:Fence} {P:Program} {w:World} {n:Nat} {Q:Exit→Act→World→Prop} {ds:List Deferred} {σ:Env} {ops:Array Oper} {d:Nat} {ty:TypeId} {pos:String} {af:Array Edge} {rest:List Oper}
theorem run_equalIn_nil (w:World) (n:Nat) {xt e:TypeId} [Und P xt (.slice e)] (a:Option Addr) (l c:Nat):(Op.equalIn (n+1) xt (.slice a l c) (.slice none 0 0)).run P w = .ok a.isNone w:=by
  cases a <;> simp [Op.equalIn,run_underlying (t:=xt) (d:=.slice e)]
/-- Is a slice nil? -/
theorem TL.nilSl (hF : Open F) {xt yt e : TypeId} [hu : Und P xt (.slice e)] {x y : Operand} {a : Option Addr} {l c : Nat} (hx : ev σ x = some (.slice a l c)) (hy : ev σ y = some (.slice none 0 0)) (hn : Nat.blt d n = true)
    (h:TL F P S w0 n ops Q rest ds ((d,.bool a.isNone)::σ) η):TL F P S w0 n ops Q (⟨some d,.binOp .eql xt x y yt,ty,pos,af,none⟩::rest) ds σ η :=
  TL.binR hF hx hy (fun w=>by
    have he:(Op.equalIn Op.maxDepth xt (.slice a l c) (.slice none 0 0)).run P w = .ok a.isNone w:=run_equalIn_nil w 9999 (e:=e) a l c
    simp [eqGuard,binOp,Op.equal,he]) hn h
/-- A slice of a whole array. -/
theorem TL.sliceA (hF : Open F) {arr e : TypeId} {len : Nat} [Und P arr (.array len e)] {z : Value} {sz bt : Nat} [Inf P e z sz bt] {x : Operand} {b : Nat} (hx : ev σ x = some (.pointer (some ⟨b, 0, none⟩))) (hn : Nat.blt d n = true)
    (h:TL F P S w0 n ops Q rest ds ((d,.slice (some ⟨b,0,none⟩) len len)::σ) η):TL F P S w0 n ops Q (⟨some d,.slice arr x none none none,ty,pos,af,none⟩::rest) ds σ η :=
  TL.pure hF (by intro c; simp) hn (fun a w hk _=>by
    have h1:(⟨b,0,none⟩:Addr).add 0=⟨b,0,none⟩:=by unfold Addr.add; split <;> simp_all
    simp [execOp,Instr.sliceAt,Instr.sliceBounds,run_underlying (t:=arr) (d:=.array len e),hk.ev hx,Instr.sureAddr,run_sizeOf (t:=e) (z:=z) (sz:=sz) (bt:=bt),h1]) h
/-- The room of a slice. -/
theorem TL.capS (hF : Open F) {t e : TypeId} [Und P t (.slice e)] {x : Operand} {a : Option Addr} {l c : Nat} (hx : ev σ x = some (.slice a l c)) (hn : Nat.blt d n = true)
    (h:TL F P S w0 n ops Q rest ds ((d,.int .i64 (c:Int))::σ) η):TL F P S w0 n ops Q (⟨some d,.call ⟨.builtin .cap,#[x],#[t]⟩,ty,pos,af,none⟩::rest) ds σ η :=
  TL.pure hF (by intro c; simp) hn (fun a w hk _=>by
    simp [execOp,resolve,Go.invoke,Go.builtin,Builtin.cap_,hk.ev hx,run_underlying (t:=t) (d:=.slice e),goInt]) h
/-- append of so many zeros to nil. -/
theorem TL.appendMk (hF : Open F) {t ti e : TypeId} [Und P t (.slice e)] [Und P ti (.int .i64)] {z : Value} {sz bt : Nat} [Inf P e z sz bt] {x y : Operand} {k : Nat} (hx : ev σ x = some (.slice none 0 0)) (hy : ev σ y = some (.int .i64 (k : Int))) (hk : 0 < k) (hz : z.cells.size = sz) (hs : 0 < sz) (hb : k * bt ≤ 140737488355328) (hk2 : k ≤ 4611686018427387904) (hn : Nat.blt d n = true)
    (h:∀ b c cur,cur.size=c*sz→k≤c→TL F P S w0 n ops Q rest ds ((d,.slice (some ⟨b,0,none⟩) k c)::σ) ([(b,.cells cur e (0,0))]::η)) :
    TL F P S w0 n ops Q (⟨some d,.call ⟨.builtin .append,#[x,y],#[t,ti]⟩,ty,pos,af,none⟩::rest) ds σ η :=
  TL.val hF (by intro c; simp) hn fun a w hkn hh=>by
    obtain ⟨inf,hinf,hiz,hisz,hibt⟩:=run_typeInfo (P:=P) (t:=e) (z:=z) (sz:=sz) (bt:=bt)
    have hcut:∃ k2,(Question.appendCap k 0 e).cut (w.tape w.drawn (.appendCap k 0 e))=k+k2:=⟨_,rfl⟩
    obtain ⟨k2,hk3⟩:=hcut
    have hq:(Question.appendCap k 0 e).forced=false:=rfl
    have hg:Builtin.nextslicecap k 0=k:=by unfold Builtin.nextslicecap; rw [if_pos (by omega)]
    have hw:IntKind.i64.wrap (k:Int)=(k:Int):=wrap_i64 (by omega) (by omega)
    have hbi:((k:Int)*(bt:Int))≤140737488355328:=by
      have h1:((k*bt:Nat):Int)≤((140737488355328:Nat):Int):=Int.ofNat_le.2 hb
      rw [Int.natCast_mul] at h1; exact h1
    have hks:k*sz≠0:=Nat.mul_ne_zero (by omega) (by omega)
    have f1:¬ ((k:Int)<0):=by omega
    have f2:¬ (281474976710656<(k:Int)*(bt:Int)):=by omega
    have f3:¬ ((k:Int)≤0):=by omega
    have f4:¬ (9223372036854775807<max (k:Int) 0):=by omega
    have f5:¬ (281474976710656<k*bt):=by omega
    have f6:(Builtin.firstCells sz 0 (.slice none 0 0)).run P w.drew = .ok #[] w.drew:=by simp [Builtin.firstCells]
    have hrun:(Builtin.append_ #[t,ti] ty #[.slice none 0 0,.int .i64 (k:Int)]).run P w = .ok (.slice (some ⟨w.heap.size,0,none⟩) k (k+k2)) (w.drew.alloc (.cells (Builtin.zeroCells z.cells k++Builtin.zeroCells z.cells k2) e (0,0))):=by
      simp [Builtin.append_,run_underlying (t:=t) (d:=.slice e),run_underlying (t:=ti) (d:=.int .i64),run_sizeOf (t:=e) (z:=z) (sz:=sz) (bt:=bt),hw,hinf,hibt,hq,hk3,hg,run_zeroValue (t:=e) (z:=z) (sz:=sz) (bt:=bt),newRow,asInt,asIntOf,f1,f2,f5]
      rw [if_neg (by omega),if_neg (by omega)]
      simp only [f6,Result.andThen_ok,if_neg hks,Array.empty_append]
      rfl
    refine ⟨.slice (some ⟨w.heap.size,0,none⟩) k (k+k2),w.drew.alloc (.cells (Builtin.zeroCells z.cells k++Builtin.zeroCells z.cells k2) e (0,0)),[(w.heap.size,.cells (Builtin.zeroCells z.cells k++Builtin.zeroCells z.cells k2) e (0,0))]::η,?_,(hh.drew (w.drawn+1)).alloc _,h _ _ _ ?_ ?_⟩
    · simp [execOp,resolve,Go.invoke,Go.builtin,hkn.ev hx,hkn.ev hy,hrun]
    · simp [Builtin.zeroCells,hz,Nat.add_mul]
    · omega
end
end Go.Sl
/- The library's sort of a list of cells, by the kit's contract of it. -/
namespace Go.Sl
open Go.Sort Go.RowKit Go.Shelf Go.Proofs
variable {S:Nat→Prop} {w0 w:World} {η:Heap} {P:Program}
/-- What a world becomes by what turns nothing. -/
theorem grow_of {w w':World} {η:Heap} (h:Hp (· < w.heap.size) w η w'):∃ q os,w'=grow (w.drewN q) os:=by
  refine ⟨w'.drawn - w.drawn,w'.heap.extract w.heap.size w'.heap.size,?_⟩
  have h1:=h.os; have h2:=h.tape; have h3:=h.output; have h4:=h.drawn; have h5:=h.size
  have hheap:w'.heap=w.heap++w'.heap.extract w.heap.size w'.heap.size:=by
    apply Array.ext_getElem?
    intro k
    rw [Array.getElem?_append]
    split
    · rename_i hk; exact (h.same k hk).2
    · rename_i hk
      rw [Array.getElem?_extract]
      split
      · rw [show w.heap.size+(k - w.heap.size)=k by omega]
      · rw [Array.getElem?_eq_none (by omega)]
  cases w'
  simp only at *
  subst h1 h2 h3
  unfold grow World.drewN
  simp only [World.mk.injEq,and_true,true_and]
  exact ⟨hheap,by omega⟩
/-- What is read beside an owned block lies in another one. -/
theorem At.beside {b:Nat} {o:Obj} (hh:Hp S w0 ([(b,o)]::η) w) {a:Addr} {v:Value} (h:At S w0 η a v):a.block≠b∧a.block<w.heap.size∧w.cell? a=some v:=by
  have hup:At S w0 ([(b,o)]::η) a v:=h.up fun s hs=>List.mem_cons_of_mem _ hs
  have hc:=hup.cell hh
  refine ⟨fun e=>?_,?_,hc⟩
  · have hb:=(hh.own (b,o) (by simp)).2
    cases h with
    | rd hS _=>rw [e] at hS; exact hb hS
    | own seg hs cs e2 fz hp hc2 hsp =>
      have hn:=hh.once
      simp only [List.flatten_cons,List.map_append,List.map_cons,List.map_nil] at hn
      rw [List.nodup_append] at hn
      refine hn.2.2 b (by simp) b ?_ rfl
      rw [← e]
      exact List.mem_map_of_mem (f:=(·.1)) (List.mem_flatten.2 ⟨seg,hs,hp⟩)
  · unfold World.cell? at hc
    cases hg:w.heap[a.block]? with
    | none=>rw [hg] at hc; simp at hc
    | some o=>exact (Array.getElem?_eq_some_iff.1 hg).1
/-- The same in a world in which only that block has been written anew, and others were made. -/
theorem sw_heap {α:Type} [Inhabited α] (enc:α→Value) (w:World) (b m:Nat) (dk:Array α) (os:Array Obj) {k:Nat} (hk:k<w.heap.size) (hb:k≠b):(sortWorld enc w b 0 m dk os).heap[k]?=w.heap[k]?:=by
  unfold sortWorld grow putRow mapBlock Sort.ahead
  simp only
  rw [Array.getElem?_append_left (by simpa using hk),Array.getElem?_modify,if_neg (Ne.symm hb)]
theorem sw_at {α : Type} [Inhabited α] (enc : α → Value) {b m : Nat} {o : Obj} (hh : Hp S w0 ([(b, o)] :: η) w) (dk : Array α) (os : Array Obj) {a : Addr} {v : Value} (h : At S w0 η a v) :
    At (· < (sortWorld enc w b 0 m dk os).heap.size) (sortWorld enc w b 0 m dk os) [] a v:=by
  obtain ⟨h1,h2,h3⟩:=h.beside hh
  have e:=sw_heap enc w b m dk os h2 h1
  have hlt:a.block<(sortWorld enc w b 0 m dk os).heap.size:=by
    rw [Array.getElem?_eq_getElem h2] at e
    exact (Array.getElem?_eq_some_iff.1 e).1
  refine .rd hlt ?_
  unfold World.cell? at h3 ⊢
  rw [e]; exact h3
theorem pdq_rt {ρ : Ren} (L : SlLaysF.n14 P ρ) {m : Nat} (f : _root_.Fin (m + 1) → Value) (h1 : ∀ j, (f j).oneCell' = true) (cf : _root_.Fin (m + 1) → _root_.Fin (m + 1) → Int) (hO : SWO (ltOf cf)) (g : Nat) (cb : List Value) [hg : Ent P g] {b cap lim : Nat} {cur : Array Value} {e : TypeId}
    (hcur:cur.toList.take (m+1)=List.ofFn f) (hm:m+1<1099511627776) (hlim:lim<4611686018427387904)
    (hcmp:∀ W:World,(∀ a v,At S w0 η a v→At (· < W.heap.size) W [] a v)→∀ x y:_root_.Fin (m+1),Rt P g (f x::f y::cb).toArray (· < W.heap.size) W [] (fun v _=>v = .int .i64 (cf x y))) :
    Rt P (ρ.f 14) #[.slice (some ⟨b,0,none⟩) (m+1) cap,.int .i64 0,.int .i64 ((m+1:Nat):Int),.int .i64 (lim:Int),.func (.func g) #[] cb.toArray] S w0 ([(b,.cells cur e (0,0))]::η)
      (fun _ η'=>∃ (cur':Array Value) (dk:List (_root_.Fin (m+1))),η'=[(b,.cells cur' e (0,0))]::η∧cur'.size=cur.size∧dk.Perm (List.ofFn id)∧cur'.toList.take (m+1)=dk.map f∧dk.Pairwise (fun x y=>¬ cf y x<0)):=by
  intro w hh
  have hb:w.heap[b]?=some (.cells cur e (0,0)):=hh.inMem (by simp)
  have hsz:m+1≤cur.size:=by
    have:=congrArg List.length hcur
    simp at this; omega
  have hds:(Array.ofFn (id:_root_.Fin (m+1)→_root_.Fin (m+1))).size=m+1:=by simp
  have hH:Holds f w b 0 (Array.ofFn (id:_root_.Fin (m+1)→_root_.Fin (m+1))):=by
    intro j hj
    rw [hds] at hj
    have hget:cur[j]?=some (f ⟨j,hj⟩):=by
      have h2:(cur.toList.take (m+1))[j]?=some (f ⟨j,hj⟩):=by rw [hcur,List.getElem?_ofFn,dif_pos hj]
      rw [List.getElem?_take_of_lt hj] at h2
      simpa using h2
    have hd:(Array.ofFn (id:_root_.Fin (m+1)→_root_.Fin (m+1)))[j]! = ⟨j,hj⟩:=by rw [getElem!_pos _ j (by rw [hds]; exact hj)]; simp
    rw [hd]
    constructor
    · simp only [World.cell?,hb,Nat.zero_add]; simpa using hget
    · simp [World.frozen?,hb]
  have hblk:b<w.heap.size:=(Array.getElem?_eq_some_iff.1 hb).1
  have hlays:CmpLays1 P g cb.toArray f cf b 0 (Array.ofFn (id:_root_.Fin (m+1)→_root_.Fin (m+1))).size w:=by
    intro mm os dk _ x y
    have hc:=hcmp (sortWorld f w b 0 mm dk os) (fun a v h=>sw_at f hh dk os h) x y _ (Hp.start _)
    have ea:(#[f x,f y]++cb.toArray:Array Value)=(f x::f y::cb).toArray:=by simp
    rw [ea]
    refine hc.mono ?_
    rintro e2 w' ⟨v,η',rfl,hh',rfl⟩
    exact ⟨rfl,grow_of hh'⟩
  have hp:=Any.pdqsortCmpFunc_all L f cf g cb.toArray hO b 0 cap (Array.ofFn id) w hg.eq hlays ⟨h1,hH,hblk⟩ (m+2) 0 (m+1) lim (Array.ofFn id) w (by omega) rfl (SW.start hH) (by omega) (by simp) (by simp; omega) hlim (Or.inl rfl)
  rw [hds] at hp
  refine hp.mono ?_
  rintro e2 w' ⟨rfl,n,os,rfl⟩
  have hsort:=pdq_sorts (ltOf cf) hO (Array.ofFn (id:_root_.Fin (m+1)→_root_.Fin (m+1))) 0 (m+1) lim true true (Nat.zero_le _) (by simp) (Or.inl rfl)
  generalize pdq (ltOf cf) (Array.ofFn (id:_root_.Fin (m+1)→_root_.Fin (m+1))) 0 (m+1) lim true true=dk at hsort ⊢
  obtain ⟨⟨hs1,_,hs3⟩,hs4⟩:=hsort
  rw [hds] at hs1
  have hW:Hp S w0 ([(b,.cells (putCells f 0 dk cur) e (0,0))]::η) (sortWorld f w b 0 n dk os):=by
    have hbl:(sortWorld f w b 0 n dk os).heap[b]?=some (.cells (putCells f 0 dk cur) e (0,0)):=by
      unfold sortWorld grow putRow mapBlock Sort.ahead
      simp only
      rw [Array.getElem?_append_left (by simpa using hblk),Array.getElem?_modify,if_pos rfl,hb]
      rfl
    have hn:=hh.once
    refine ⟨hh.os,hh.tape,hh.output,Nat.le_trans hh.drawn (by show w.drawn≤w.drawn+n; omega),?_,fun k hk=>?_,fun p hp=>?_,by simpa using hn⟩
    · have:=hh.size
      unfold sortWorld grow putRow mapBlock Sort.ahead
      simp; omega
    · obtain ⟨g1,g2⟩:=hh.same k hk
      refine ⟨g1,?_⟩
      rw [sw_heap f w b n dk os (Nat.lt_of_lt_of_le g1 hh.size) (fun q=>(hh.own (b,.cells cur e (0,0)) (by simp)).2 (q ▸ hk)),g2]
    · simp only [List.flatten_cons,List.cons_append,List.nil_append,List.mem_cons] at hp
      rcases hp with rfl | hp
      · exact ⟨hbl,(hh.own (b,.cells cur e (0,0)) (by simp)).2⟩
      · have hown:=hh.own p (by simp only [List.flatten_cons,List.mem_append]; exact .inr hp)
        refine ⟨?_,hown.2⟩
        have hlt:=(Array.getElem?_eq_some_iff.1 hown.1).1
        have hne:p.1≠b:=fun q=>by
          simp only [List.flatten_cons,List.map_append,List.map_cons,List.map_nil] at hn
          rw [List.nodup_append] at hn
          exact hn.2.2 b (by simp) b (q ▸ List.mem_map_of_mem (f:=(·.1)) hp) rfl
        rw [sw_heap f w b n dk os hlt hne]; exact hown.1
  have hdl:dk.toList.length=m+1:=by simpa using hs1
  refine ⟨_,_,rfl,hW,putCells f 0 dk cur,dk.toList,rfl,by simp [putCells],?_,?_,?_⟩
  · have e1:(dk.extract 0 (m+1)).toList=dk.toList:=by
      have h6:=@Array.extract_size _ dk
      rw [hs1] at h6; rw [h6]
    have e2:((Array.ofFn (id:_root_.Fin (m+1)→_root_.Fin (m+1))).extract 0 (m+1)).toList=List.ofFn id:=by
      have:(Array.ofFn (id:_root_.Fin (m+1)→_root_.Fin (m+1))).extract 0 (m+1)=Array.ofFn id:=by
        have:=@Array.extract_size _ (Array.ofFn (id:_root_.Fin (m+1)→_root_.Fin (m+1)))
        rwa [hds] at this
      rw [this,Array.toList_ofFn]
    rw [e1,e2] at hs3; exact hs3
  · apply List.ext_getElem?
    intro i
    by_cases hi:i<m+1
    · rw [List.getElem?_take_of_lt hi,List.getElem?_map]
      have h3:dk.toList[i]?=some dk[i]:=by simp [hs1,hi]
      rw [h3]
      simp only [putCells,Array.getElem?_toList,Array.getElem?_mapIdx,Option.map_some]
      rw [Array.getElem?_eq_getElem (by omega)]
      simp [hs1,hi]
    · rw [List.getElem?_eq_none (by simp; omega),List.getElem?_eq_none (by simp; omega)]
  · rw [List.pairwise_iff_getElem]
    intro i j hi hj hij
    have h5:=hs4 i j (Nat.zero_le _) hij (by omega)
    rw [getElem!_pos dk j (by omega),getElem!_pos dk i (by omega)] at h5
    simpa [ltOf] using h5
end Go.Sl
/- Four heavy operations may come next, behind which reads are still to come. -/
namespace Go.Sl
section
variable {F:Fence} {P:Program} {S S':Nat→Prop} {w0 w w1:World} {n:Nat} {Q:Exit→Act→World→Prop} {l:List Oper} {ds:List Deferred} {σ:Env} {η ηr:Heap} {m:Nat} {V:VL}
theorem DH.k4 {h1 h2 h3 h4:Nat} (hd:dagOk l=true) (ht:tailOk l m=true) (hq:dstsOk l m=true) (hcomp:complete l m V [h1,h2,h3,h4]=true) (b1:HBK F P S w0 n l ds σ Q m V η h1) (b2:HBK F P S w0 n l ds σ Q m V η h2) (b3:HBK F P S w0 n l ds σ Q m V η h3) (b4:HBK F P S w0 n l ds σ Q m V η h4):DH F P S w0 n l ds σ Q m V η :=
  DH.nodeK [h1,h2,h3,h4] hd ht hq hcomp (fun h' hh=>by
    rcases List.mem_cons.1 hh with e | hh
    · subst e; exact b1
    · rcases List.mem_cons.1 hh with e | hh
      · subst e; exact b2
      · rcases List.mem_cons.1 hh with e | hh
        · subst e; exact b3
        · rw [List.mem_singleton.1 hh]; exact b4) (by simp)
end
end Go.Sl
/- A quotient of any two numbers. -/
namespace Go.Sl
section
variable {F:Fence} {P:Program} {S:Nat→Prop} {w0 w:World} {n:Nat} {Q:Exit→Act→World→Prop} {ds:List Deferred} {σ:Env} {η:Heap} {ops:Array Oper} {rest:List Oper} {d:Nat} {ty:TypeId} {pos:String} {af:Array Edge}
theorem TL.quoI (hF : Open F) {xt yt : TypeId} {x y : Operand} {k : IntKind} {a b r : Int} (hx : ev σ x = some (.int k a)) (hy : ev σ y = some (.int k b)) (hb : b ≠ 0) (hr : k.wrap (Int.tdiv a b) = r) (hn : Nat.blt d n = true)
    (h:TL F P S w0 n ops Q rest ds ((d,.int k r)::σ) η):TL F P S w0 n ops Q (⟨some d,.binOp .quo xt x y yt,ty,pos,af,none⟩::rest) ds σ η :=
  TL.pure hF (by intro c; simp) hn (fun c w hk _=>by
    have hb':(Op.intDiv .quo k a b).run P w = .ok (.int k r) w:=by
      unfold Op.intDiv
      rw [if_neg hb]
      simp only [Sem.run_pure]
      first | rw [hr] | simp [hr]
    simp [execOp,hk.ev hx,hk.ev hy,eqGuard,binOp,hb']) h
end
end Go.Sl
/- Bits of numbers that are not negative. -/
namespace Go.Sl
/-- What one has that another one has not. -/
def bnot (a b:Nat):Nat:=a ^^^ (a &&& b)
theorem testBit_bnot (a b i:Nat):(bnot a b).testBit i=(a.testBit i && !b.testBit i):=by
  unfold bnot
  rw [Nat.testBit_xor,Nat.testBit_and]
  cases a.testBit i <;> cases b.testBit i <;> rfl
theorem bnot_le (a b:Nat):bnot a b≤a:=by
  refine Nat.le_of_testBit ?_
  intro i h
  rw [testBit_bnot,Bool.and_eq_true] at h
  exact h.1
section
variable {F:Fence} {P:Program} {S:Nat→Prop} {w0 w:World} {n:Nat} {Q:Exit→Act→World→Prop} {ds:List Deferred} {σ:Env} {η:Heap} {ops:Array Oper} {rest:List Oper} {ty:TypeId} {pos:String} {af:Array Edge} {d:Nat}
theorem ofNat64 {a:Nat} (h:a<2 ^ 64):(BitVec.ofInt 64 (a:Int)).toNat=a:=by rw [BitVec.ofInt_natCast,BitVec.toNat_ofNat,Nat.mod_eq_of_lt h]
theorem TL.andS (hF : Open F) {xt yt : TypeId} {x y : Operand} {a m : Nat} (hx : ev σ x = some (.int .i64 (a : Int))) (hy : ev σ y = some (.int .i64 (m : Int))) (ha : a < 2 ^ 63) (hm : m < 2 ^ 63) (hn : Nat.blt d n = true)
    (h:TL F P S w0 n ops Q rest ds ((d,.int .i64 ((a &&& m:Nat):Int))::σ) η):TL F P S w0 n ops Q (⟨some d,.binOp .and xt x y yt,ty,pos,af,none⟩::rest) ds σ η :=
  TL.pure hF (by intro c; simp) hn (fun b w hk _=>by
    have hle:a &&& m≤a:=Nat.and_le_left
    have hb:(Op.intBits .and .i64 (a:Int) (m:Int)).run P w = .ok (.int .i64 ((a &&& m:Nat):Int)) w:=by
      have e:(BitVec.ofInt 64 (a:Int) &&& BitVec.ofInt 64 (m:Int)).toNat=a &&& m:=and_toNat (by omega) (by omega)
      unfold Op.intBits
      simp only [Sem.run_pure]
      show Result.ok (Value.int .i64 (IntKind.i64.wrap ((BitVec.ofInt 64 (a:Int) &&& BitVec.ofInt 64 (m:Int)).toNat:Int))) w=_
      rw [e,wrap_i64 (by omega) (by omega)]
    simp [execOp,hk.ev hx,hk.ev hy,eqGuard,binOp,hb]) h
theorem TL.orS (hF : Open F) {xt yt : TypeId} {x y : Operand} {a m : Nat} (hx : ev σ x = some (.int .i64 (a : Int))) (hy : ev σ y = some (.int .i64 (m : Int))) (ha : a < 2 ^ 62) (hm : m < 2 ^ 62) (hn : Nat.blt d n = true)
    (h:TL F P S w0 n ops Q rest ds ((d,.int .i64 ((a ||| m:Nat):Int))::σ) η):TL F P S w0 n ops Q (⟨some d,.binOp .or xt x y yt,ty,pos,af,none⟩::rest) ds σ η :=
  TL.pure hF (by intro c; simp) hn (fun b w hk _=>by
    have hlt:a ||| m<2 ^ 62:=Nat.or_lt_two_pow ha hm
    have hb:(Op.intBits .or .i64 (a:Int) (m:Int)).run P w = .ok (.int .i64 ((a ||| m:Nat):Int)) w:=by
      have e:(BitVec.ofInt 64 (a:Int) ||| BitVec.ofInt 64 (m:Int)).toNat=a ||| m:=by rw [BitVec.toNat_or,ofNat64 (by omega),ofNat64 (by omega)]
      unfold Op.intBits
      simp only [Sem.run_pure]
      show Result.ok (Value.int .i64 (IntKind.i64.wrap ((BitVec.ofInt 64 (a:Int) ||| BitVec.ofInt 64 (m:Int)).toNat:Int))) w=_
      rw [e,wrap_i64 (by omega) (by omega)]
    simp [execOp,hk.ev hx,hk.ev hy,eqGuard,binOp,hb]) h
theorem TL.andNotS (hF : Open F) {xt yt : TypeId} {x y : Operand} {a m : Nat} (hx : ev σ x = some (.int .i64 (a : Int))) (hy : ev σ y = some (.int .i64 (m : Int))) (ha : a < 2 ^ 63) (hm : m < 2 ^ 63) (hn : Nat.blt d n = true)
    (h:TL F P S w0 n ops Q rest ds ((d,.int .i64 ((bnot a m:Nat):Int))::σ) η):TL F P S w0 n ops Q (⟨some d,.binOp .andNot xt x y yt,ty,pos,af,none⟩::rest) ds σ η :=
  TL.pure hF (by intro c; simp) hn (fun b w hk _=>by
    have hle:=bnot_le a m
    have hb:(Op.intBits .andNot .i64 (a:Int) (m:Int)).run P w = .ok (.int .i64 ((bnot a m:Nat):Int)) w:=by
      have e:(BitVec.ofInt 64 (a:Int) &&& ~~~ BitVec.ofInt 64 (m:Int)).toNat=bnot a m:=by
        refine Nat.eq_of_testBit_eq fun i=>?_
        rw [testBit_bnot,BitVec.toNat_and,Nat.testBit_and,ofNat64 (by omega)]
        by_cases hi:i<64
        · rw [BitVec.testBit_toNat,BitVec.getLsbD_not,decide_eq_true hi,Bool.true_and,← BitVec.testBit_toNat,ofNat64 (by omega)]
        · rw [Nat.testBit_lt_two_pow (Nat.lt_of_lt_of_le (show a<2 ^ 64 by omega) (Nat.pow_le_pow_right (by decide) (by omega)))]; rfl
      unfold Op.intBits
      simp only [Sem.run_pure]
      show Result.ok (Value.int .i64 (IntKind.i64.wrap ((BitVec.ofInt 64 (a:Int) &&& ~~~ BitVec.ofInt 64 (m:Int)).toNat:Int))) w=_
      rw [e,wrap_i64 (by omega) (by omega)]
    simp [execOp,hk.ev hx,hk.ev hy,eqGuard,binOp,hb]) h
theorem TL.shlS (hF : Open F) {xt yt : TypeId} {x y : Operand} {yk : IntKind} {a s : Nat} (hx : ev σ x = some (.int .i64 (a : Int))) (hy : ev σ y = some (.int yk (s : Int))) (hs : s ≤ 64) (hr : a * 2 ^ s < 2 ^ 63) (hn : Nat.blt d n = true)
    (h:TL F P S w0 n ops Q rest ds ((d,.int .i64 ((a*2 ^ s:Nat):Int))::σ) η):TL F P S w0 n ops Q (⟨some d,.binOp .shl xt x y yt,ty,pos,af,none⟩::rest) ds σ η :=
  TL.pure hF (by intro c; simp) hn (fun c w hk _=>by
    have hb:(Op.shift .shl .i64 (a:Int) yk (s:Int)).run P w = .ok (.int .i64 ((a*2 ^ s:Nat):Int)) w:=by
      unfold Op.shift
      rw [if_neg (by omega)]
      have e:min ((s:Int).toNat) IntKind.i64.bits=s:=by rw [Int.toNat_natCast]; exact Nat.min_eq_left hs
      simp only [e,Sem.run_pure]
      have e2:(a:Int)*2 ^ s=((a*2 ^ s:Nat):Int):=by rw [Int.natCast_mul,Int.natCast_pow]; rfl
      have hw:IntKind.i64.wrap ((a:Int)*2 ^ s)=((a*2 ^ s:Nat):Int):=by rw [e2]; exact wrap_i64 (by omega) (by omega)
      show Result.ok (Value.int .i64 (IntKind.i64.wrap ((a:Int)*2 ^ s))) w=_
      rw [hw]
    have hf:(execOp c.eval ⟨some d,.binOp .shl xt x y yt,ty,pos,af,none⟩).run P w = .ok (.value (.int .i64 ((a*2 ^ s:Nat):Int))) w:=by
      simp only [execOp,hk.ev hx,hk.ev hy]
      have hb2:(binOp .shl xt (.int .i64 (a:Int)) (.int yk (s:Int))).run P w = .ok (.int .i64 ((a*2 ^ s:Nat):Int)) w:=hb
      simp only [eqGuard,Sem.run_bind,Sem.run_pure,Result.andThen_ok,ite_self,hb2]
    exact hf) h
end
end Go.Sl
/- Two results, the first one in memory. -/
namespace Go.Sl
section
variable {F:Fence} {P:Program} {S:Nat→Prop} {w0 w:World} {n:Nat} {ds:List Deferred} {σ:Env} {η:Heap}
theorem TQ.retCT {fn : Func} {c t : Nat} {ct : TypeId} [Ag P ct true] {z : Value} {sz bt : Nat} [Inf P ct z sz bt] (cs : List Value) {b : Nat} {v2 : Value} {R : Value → Heap → Prop} (η2 : Heap) (hr : fn.results = #[ResultVar.cell c ct, ResultVar.tmp t]) (hc : lk σ c = some (.pointer (some ⟨b, 0, none⟩))) (ht : lk σ t = some v2)
    (hl:cs.length=sz) (hv:∀ i v,cs[i]?=some v→At S w0 η ⟨b,0+i,none⟩ v) (hs:η2.Sublist η) (hR:R (.tuple #[.agg cs.toArray,v2]) η2):TQ S w0 n (bodyPost P fn (post R S w0) .ret) [] σ η:=fun a w hk hh=>by
  refine ⟨hk.defers,.tuple #[.agg cs.toArray,v2],?_,_,η2,rfl,hh.seg hs,hR⟩
  have hc2:=hk.slot _ _ hc
  have ht2:=hk.slot _ _ ht
  unfold results
  rw [hr]
  simp [Array.mapM_eq_mapM_toList,Array.getD_eq_getD_getElem?,hc2,ht2,asAddr,loadVar,Ag.eq (t:=ct) (b:=true),run_sizeOf (t:=ct) (z:=z) (sz:=sz) (bt:=bt),run_loadCells hl hv hh]
end
end Go.Sl
/- A range over a function whose arguments nobody knows beforehand: by states. -/
namespace Go.Sl
/-- An iterator by states: which arguments lead from one to another, and where it may end. -/
def IterG (P:Program) (f:FuncId) (pre post:List Value) {ι:Type} (ok:ι→List Value→ι→Prop) (fi:ι→Prop) (i0:ι) (S:Nat→Prop) (w0:World) (Ctx:Heap→Prop):Prop :=
  ∀ (l:Nat) (J:ι→Heap→Prop) (X:Heap→Prop) (η:Heap),(∀ i η',J i η'→Ctx η') →
    (∀ i e j η',ok i e j→J i η'→YieldOk P l e S w0 η' fun b η''=>if b then J j η'' else X η'') →
    J i0 η→Rt P f (pre++.func (.yield l) #[] #[]::post).toArray S w0 η fun _ η'=>(∃ i,fi i∧J i η')∨X η'
section
variable {F:Fence} {P:Program} {S:Nat→Prop} {w0 w:World} {n:Nat} {Q:Exit→Act→World→Prop} {ds:List Deferred} {σ:Env} {η:Heap} {ops:Array Oper} {rest:List Oper} {d:Nat} {ty:TypeId} {pos:String} {af:Array Edge}
/-- A range over a function. -/
theorem T.rangeFuncG {f : FuncId} {fst cap : List Value} {g : Operand} {ps : Array Tmp} {assign body : Code} {ι : Type} {ok : ι → List Value → ι → Prop} {fi : ι → Prop} {i0 : ι} {Ctx : Heap → Prop} [Ent P f]
    (hg:ev σ g=some (.func (.func f) fst.toArray cap.toArray)) (hit:IterG P f fst cap ok fi i0 S w0 Ctx) (hps:∀ i e j,ok i e j→e.length=ps.size) (hpn:∀ p∈ps.toList,p<n)
    (I:ι→Heap→Prop) (IX:Code→Heap→Prop) (h0:I i0 η) (hctx:∀ i η' tl,I i η'→Ctx (η'++tl))
    (hbody:∀ l tl tl' i e j η',ok i e j→I i η'→T (Fence.wide.inRound l) P S w0 n (Exit.then (Swap S w0 tl tl' fun a w=>body.wpIn (Fence.wide.inRound l) 0 P (RQ S w0 (fun _=>I j) IX 0 tl') a w) (fun _ _ _=>False)) assign [] ((ps.toList.zip e).reverse++σ) (η'++tl))
    (hdone:∀ r i η',fi i→I i η'→TQ S w0 n (Q .normal) ({ target:=.collected r,args:=#[] }::ds) σ ([(r,.deferred (some []))]::η'))
    (hstop:∀ r c η',IX c η'→T Fence.wide P S w0 n Q c ({ target:=.collected r,args:=#[] }::ds) σ ([(r,.deferred (some []))]::η')) :
    T Fence.wide P S w0 n Q (.rangeFunc g ps assign body) ds σ η:=fun a w hk hh=>by
  refine wpIn_rangeFunc fun fn hfn=>?_
  let rec':LoopState→Option Code→Loop:=fun st pend=>{ state:=st,pending:=pend,fn:=fn,tmps:=a.tmps,params:=ps,assign:=assign,body:=body,defers:=w.heap.size }
  have hh1:=(hh.alloc (.deferred (some []))).alloc (.loop (rec' .ready none))
  have hl:(({ w with heap:=w.heap.push (.deferred (some [])) }:World).heap.size)=w.heap.size+1:=by simp
  rw [hl] at hh1
  obtain ⟨W1,hW1⟩:∃ W1:World,W1={ heap:=(w.heap.push (.deferred (some []))).push (.loop (rec' .ready none)),tape:=w.tape,drawn:=w.drawn,os:=w.os,output:=w.output }:=⟨_,rfl⟩
  have hh2:Hp S w0 (η++[[(w.heap.size+1,.loop (rec' .ready none))],[(w.heap.size,.deferred (some []))]]) W1:=by
    rw [hW1]; exact Hp.rot (A:=[[(w.heap.size+1,.loop (rec' .ready none))],[(w.heap.size,.deferred (some []))]]) hh1
  have hargs:fst.toArray++#[.func (.yield (w.heap.size+1)) #[] #[]]++cap.toArray=(fst++.func (.yield (w.heap.size+1)) #[] #[]::cap).toArray:=by simp
  refine ⟨w.heap.size+1,[{ target:=.collected w.heap.size,args:=#[] }],W1,⟨.fn (.func f) cap.toArray,fst.toArray++#[.func (.yield (w.heap.size+1)) #[] #[]]⟩,W1,f,(fst++.func (.yield (w.heap.size+1)) #[] #[]::cap).toArray,W1,?_,?_,fun _ _=>trivial,?_,fun h=>(by simp [Fence.wide] at h),?_⟩
  · rw [hW1]
    simp only [Instr.enterLoop,show Fence.wide.round=none from rfl,Sem.run_bind,run_newObj,Sem.run_pure,Result.andThen_ok]
    simp only [Array.size_push]
    rfl
  · have hgv:=hk.ev hg
    have hm:Array.map a.eval #[Operand.const (.func (.yield (w.heap.size+1)) #[] #[])] = #[.func (.yield (w.heap.size+1)) #[] #[]]:=by simp [Act.eval]
    simp only [resolve,hgv,hm,Deferred.ofValue,Sem.run_pure]
  · simp only [invoke]
    rw [hargs,Ent.eq]
  · have key := hit (w.heap.size + 1) (fun i η' => ∃ ηu, I i ηu ∧ η' = ηu ++ [[(w.heap.size + 1, .loop (rec' .ready none))], [(w.heap.size, .deferred (some []))]])
      (fun η'=>∃ c ηu,IX c ηu∧η'=ηu++[[(w.heap.size+1,.loop (rec' .done (some c)))],[(w.heap.size,.deferred (some []))]]) _
      (by rintro i η' ⟨ηu,hi,rfl⟩; exact hctx i ηu _ hi) ?_ ⟨η,h0,rfl⟩ W1 hh2
    · refine callsIn_open open_wide (key.mono ?_)
      have fin : ∀ (st : LoopState) (pend : Option Code) (ηu : Heap) (w3 : World), st ≠ .busy → Hp S w0 (ηu ++ [[(w.heap.size + 1, .loop (rec' st pend))], [(w.heap.size, .deferred (some []))]]) w3 →
          ∃ w4,(Instr.endLoop (w.heap.size+1)).run P w3 = .ok pend w4∧Hp S w0 ([(w.heap.size,.deferred (some []))]::ηu) w4:=by
        intro st pend ηu w3 hst hh3
        have hb:=(hh3.own (w.heap.size+1,.loop (rec' st pend)) (by simp)).1
        have h4:=hh3.turnI (i:=ηu.length) (b:=w.heap.size+1) (o:=.loop (rec' st pend)) (by simp) (.loop { rec' st pend with state:=.exhausted })
        have he:(ηu++[[(w.heap.size+1,Obj.loop (rec' st pend))],[(w.heap.size,.deferred (some []))]]).set ηu.length [(w.heap.size+1,.loop { rec' st pend with state:=.exhausted })]=ηu++[[(w.heap.size+1,.loop { rec' st pend with state:=.exhausted })],[(w.heap.size,.deferred (some []))]]:=by simp
        rw [he] at h4
        refine ⟨_,run_endLoop hb hst,(Hp.rot h4).sub (fun p hp=>?_) ?_⟩
        · simp only [List.flatten_cons,List.mem_append] at hp
          simp only [List.flatten_append,List.flatten_cons,List.flatten_nil,List.mem_append]
          rcases hp with h | h
          · exact .inl (.inr (.inl h))
          · exact .inr h
        · have:=(Hp.rot h4).once
          simp only [List.flatten_cons,List.cons_append,List.nil_append,List.map_cons] at this ⊢
          exact (List.nodup_cons.1 this).2
      rintro e w3 ⟨v,η',rfl,hh3,(⟨iu,hfi,ηu,hi,rfl⟩ | ⟨c,ηu,hx,rfl⟩)⟩
      · obtain ⟨w4,hr,hh4⟩:=fin .ready none ηu w3 (by simp) hh3
        exact ⟨none,w4,hr,hdone _ iu ηu hfi hi _ _ ⟨hk.size,by simp [hk.defers],hk.slot⟩ hh4⟩
      · obtain ⟨w4,hr,hh4⟩:=fin .done (some c) ηu w3 (by simp) hh3
        exact ⟨some c,w4,hr,hstop _ c ηu hx _ _ ⟨hk.size,by simp [hk.defers],hk.slot⟩ hh4 ⟩
    · rintro i e j η' he ⟨ηu,hi,rfl⟩ w3 hh3
      have hb3:=(hh3.own (w.heap.size+1,.loop (rec' .ready none)) (by simp)).1
      have hlen:e.toArray.size=(rec' .ready none).params.size:=by simpa [rec'] using hps i e j he
      refine ⟨_,_,_,_,run_yield hb3 hlen,?_⟩
      have setT:∀ (o o':Obj) (η1:Heap) (w':World),Hp S w0 (η1++[[(w.heap.size+1,o)],[(w.heap.size,.deferred (some []))]]) w'→Hp S w0 (η1++[[(w.heap.size+1,o')],[(w.heap.size,.deferred (some []))]]) (w'.putObj (w.heap.size+1) o'):=by
        intro o o' η1 w' hh'
        have h4:=hh'.turnI (i:=η1.length) (b:=w.heap.size+1) (o:=o) (by simp) o'
        have he:(η1++[[(w.heap.size+1,o)],[(w.heap.size,Obj.deferred (some []))]]).set η1.length [(w.heap.size+1,o')]=η1++[[(w.heap.size+1,o')],[(w.heap.size,.deferred (some []))]]:=by simp
        rwa [he] at h4
      refine roundIn_of_wpIn trivial ?_
      have hb:=hbody (w.heap.size+1) [[(w.heap.size+1,.loop (rec' .ready none))],[(w.heap.size,.deferred (some []))]] [[(w.heap.size+1,.loop (rec' .busy none))],[(w.heap.size,.deferred (some []))]] i e j ηu he hi
        { tmps:=(ps.toList.zip e).foldl (fun t (x:Nat × Value)=>t.setIfInBounds x.1 x.2) a.tmps,defers:=[] } w3 ⟨by rw [foldl_size]; exact hk.size,rfl,kn_params _ _ _ hk.slot (fun p hp=>by
          rw [hk.size]; exact hpn p.1 (List.of_mem_zip hp).1)⟩ hh3
      have hz:(((rec' .ready none).params.zip e.toArray).foldl (fun tmps (x:Nat × Value)=>tmps.setIfInBounds x.1 x.2) (rec' .ready none).tmps)=(ps.toList.zip e).foldl (fun t (x:Nat × Value)=>t.setIfInBounds x.1 x.2) a.tmps:=by
        rw [← Array.foldl_toList]
        simp [rec']
      rw [hz]
      refine wpIn_mono hb ?_
      intro ex a1 w1 hq
      cases ex with
      | normal =>
        obtain ⟨⟨η1,hh4⟩,hq⟩:=hq
        have hb4:=(hh4.own (w.heap.size+1,.loop (rec' .ready none)) (by simp)).1
        refine ⟨_,run_beginRound hb4 rfl,wpIn_mono (hq _ fun η2 hh5=>setT _ (.loop { rec' .ready none with state:=.busy }) η2 w1 hh5) ?_⟩
        have fin : ∀ (jump : Option Code) (η2 : Heap) (w5 : World), Hp S w0 (η2 ++ [[(w.heap.size + 1, .loop (rec' .busy none))], [(w.heap.size, .deferred (some []))]]) w5 →
            (Instr.endRound (w.heap.size+1) jump).run P w5 = .ok (.bool jump.isNone) (w5.putObj (w.heap.size+1) (.loop (rec' (if jump.isNone then .ready else .done) jump))) ∧
            Hp S w0 (η2++[[(w.heap.size+1,.loop (rec' (if jump.isNone then .ready else .done) jump))],[(w.heap.size,.deferred (some []))]]) (w5.putObj (w.heap.size+1) (.loop (rec' (if jump.isNone then .ready else .done) jump))):=by
          intro jump η2 w5 hh6
          have hb6:=(hh6.own (w.heap.size+1,.loop (rec' .busy none)) (by simp)).1
          exact ⟨run_endRound jump hb6,setT _ _ η2 w5 hh6⟩
        intro ex2 a2 w5 hq2
        cases ex2 with
        | normal =>
          obtain ⟨η2,hi2,hh6⟩:=hq2
          obtain ⟨hr,hh7⟩:=fin none η2 w5 hh6
          exact ⟨_,_,hr,true,_,rfl,hh7,⟨η2,hi2,rfl⟩⟩
        | ret =>
          obtain ⟨η2,hi2,hh6⟩:=hq2
          obtain ⟨hr,hh7⟩:=fin (some .ret) η2 w5 hh6
          exact ⟨_,_,hr,false,_,rfl,hh7,.ret,η2,hi2,rfl⟩
        | exit id =>
          obtain ⟨η2,hi2,hh6⟩:=hq2
          obtain ⟨hr,hh7⟩:=fin (some (.exit id)) η2 w5 hh6
          exact ⟨_,_,hr,false,_,rfl,hh7,.exit id,η2,hi2,rfl⟩
        | goto t =>
          obtain ⟨η2,hi2,hh6⟩:=hq2
          obtain ⟨hr,hh7⟩:=fin (some (.goto t)) η2 w5 hh6
          exact ⟨_,_,hr,false,_,rfl,hh7,.goto t,η2,hi2,rfl⟩
        | panic ch=>exact hq2.elim
        | outgrown=>exact hq2.elim
      | ret=>exact hq.elim
      | exit id=>exact hq.elim
      | goto t=>exact hq.elim
      | panic ch=>exact hq.elim
      | outgrown=>exact hq.elim

end
end Go.Sl
/- The library's sort of a list, of one cell an element or several, by the kit's contract of it. -/
namespace Go.Sl
open Go.Sort Go.RowKit Go.Shelf Go.Proofs
variable {S:Nat→Prop} {w0 w:World} {η:Heap} {P:Program}
theorem sw_hp {b m : Nat} {cur : Array Value} {e : TypeId} (hh : Hp S w0 ([(b, .cells cur e (0, 0))] :: η) w) (F : Array Value) (os : Array Obj) :
    Hp S w0 ([(b,.cells (putCells id 0 F cur) e (0,0))]::η) (sortWorld id w b 0 m F os):=by
  have hb:w.heap[b]?=some (.cells cur e (0,0)):=hh.inMem (by simp)
  have hblk:b<w.heap.size:=(Array.getElem?_eq_some_iff.1 hb).1
  have hbl:(sortWorld id w b 0 m F os).heap[b]?=some (.cells (putCells id 0 F cur) e (0,0)):=by
    unfold sortWorld grow putRow mapBlock Sort.ahead
    simp only
    rw [Array.getElem?_append_left (by simpa using hblk),Array.getElem?_modify,if_pos rfl,hb]
    rfl
  have hn:=hh.once
  refine ⟨hh.os,hh.tape,hh.output,Nat.le_trans hh.drawn (by show w.drawn≤w.drawn+m; omega),?_,fun k hk=>?_,fun p hp=>?_,by simpa using hn⟩
  · have:=hh.size
    unfold sortWorld grow putRow mapBlock Sort.ahead
    simp; omega
  · obtain ⟨g1,g2⟩:=hh.same k hk
    refine ⟨g1,?_⟩
    rw [sw_heap id w b m F os (Nat.lt_of_lt_of_le g1 hh.size) (fun q=>(hh.own (b,.cells cur e (0,0)) (by simp)).2 (q ▸ hk)),g2]
  · simp only [List.flatten_cons,List.cons_append,List.nil_append,List.mem_cons] at hp
    rcases hp with rfl | hp
    · exact ⟨hbl,(hh.own (b,.cells cur e (0,0)) (by simp)).2⟩
    · have hown:=hh.own p (by simp only [List.flatten_cons,List.mem_append]; exact .inr hp)
      refine ⟨?_,hown.2⟩
      have hlt:=(Array.getElem?_eq_some_iff.1 hown.1).1
      have hne:p.1≠b:=fun q=>by
        simp only [List.flatten_cons,List.map_append,List.map_cons,List.map_nil] at hn
        rw [List.nodup_append] at hn
        exact hn.2.2 b (by simp) b (q ▸ List.mem_map_of_mem (f:=(·.1)) hp) rfl
      rw [sw_heap id w b m F os hlt hne]; exact hown.1
theorem flatK_list {α:Type} [Inhabited α] {enc:α→List Value} {k:Nat} (hk:∀ x,(enc x).length=k) (l:List α):(flatK enc k l.toArray).toList=l.flatMap enc:=by
  apply List.ext_getElem?
  intro t
  by_cases h:t<l.length*k
  · have k0 : 0 < k := by rcases Nat.eq_zero_or_pos k with e | e
                          · subst e; simp at h
                          · exact e
    have h1:t / k<l.length:=by rw [Nat.div_lt_iff_lt_mul k0]; exact h
    have h3:t / k*k+t % k=t:=Nat.div_add_mod' t k
    have e2:(flatK enc k l.toArray)[t]! = (enc (l.toArray[t / k]!))[t % k]!:=get_flatK enc k l.toArray t (by simpa using h)
    rw [Array.getElem?_toList,Array.getElem?_eq_getElem (by simpa using h)]
    rw [getElem!_pos _ t (by simpa using h)] at e2
    rw [e2,getElem!_pos l.toArray (t / k) (by simpa using h1)]
    have h4:t % k<(enc l[t / k]).length:=by rw [hk]; exact Nat.mod_lt _ k0
    have e3:=flat_get k enc hk l (t / k) (t % k) (Nat.mod_lt _ k0)
    rw [h3,List.getElem?_eq_getElem h1,Option.bind_some,List.getElem?_eq_getElem h4] at e3
    rw [e3]
    simp only [List.getElem_toArray]
    rw [getElem!_pos (enc l[t / k]) (t % k) h4]
  · have hlen:(l.flatMap enc).length=l.length*k:=by
      rw [List.length_flatMap]
      have:l.map (fun x=>(enc x).length)=List.replicate l.length k:=by
        apply List.ext_getElem
        · simp
        · intro i h1 h2; simp [hk]
      rw [this,List.sum_replicate_nat]
    rw [List.getElem?_eq_none (by simp; omega),List.getElem?_eq_none (by omega)]
theorem sortQ_rt {ρ : Ren} (L : SlLaysF0.n6 P ρ) (k : Nat) (aE : ∀ w, (isAgg (ρ.t 24)).run P w = .ok true w) (zE : ∀ w, (Go.sizeOf (ρ.t 24)).run P w = .ok k w) {α : Type} [Inhabited α] (enc : α → List Value) (hk : ∀ x, (enc x).length = k) (h1 : ∀ x, ∀ v ∈ enc x, v.oneCell' = true)
    (cf:α→α→Int) (hO:SWO (ltOf cf)) (hT:∀ x y,(ltOf cf) x y=false→(ltOf cf) y x=false→x=y) (g:Nat) (cb:List Value) [hg:Ent P g] {b cap:Nat} {cur:Array Value} {e:TypeId} (d:List α)
    (hcur:cur.toList.take (d.length*k)=d.flatMap enc) (hsz:d.length*k≤cur.size) (hm:d.length<1099511627776) (hb0:0<d.length)
    (hcmp:∀ W:World,∀ x y:α,Rt P g (.agg (enc x).toArray::.agg (enc y).toArray::cb).toArray (· < W.heap.size) W [] (fun v _=>v = .int .i64 (cf x y))) :
    Rt P (ρ.f 6) #[.slice (some ⟨b,0,none⟩) d.length cap,.func (.func g) #[] cb.toArray] S w0 ([(b,.cells cur e (0,0))]::η)
      (fun _ η'=>∃ cur':Array Value,η'=[(b,.cells cur' e (0,0))]::η∧cur'.size=cur.size∧cur'.toList.take (d.length*k)=(d.mergeSort fun x y=>!(ltOf cf) y x).flatMap enc):=by
  intro w hh
  have hb:w.heap[b]?=some (.cells cur e (0,0)):=hh.inMem (by simp)
  have hblk:b<w.heap.size:=(Array.getElem?_eq_some_iff.1 hb).1
  have hfl:=flatK_list hk d
  have hH:HoldsK enc k w b 0 d.toArray:=by
    intro j hj
    have hj2:j<d.length*k:=by simpa using hj
    have hget:cur[j]?=some ((flatK enc k d.toArray)[j]!):=by
      have h2:(cur.toList.take (d.length*k))[j]?=(flatK enc k d.toArray).toList[j]?:=by rw [hcur,hfl]
      rw [List.getElem?_take_of_lt hj2,Array.getElem?_toList,Array.getElem?_toList,Array.getElem?_eq_getElem hj] at h2
      rw [h2,getElem!_pos _ j hj]
    constructor
    · simp only [World.cell?,hb,Nat.zero_add]; simpa using hget
    · simp [World.frozen?,hb]
  have hlays:CmpLays P g cb.toArray enc k cf b 0 d.toArray.size w:=by
    intro mm os dk _ x y
    have hc:=hcmp (sortWorldK enc k w b 0 mm dk os) x y _ (Hp.start _)
    have ea:(#[.agg (enc x).toArray,.agg (enc y).toArray]++cb.toArray:Array Value)=(.agg (enc x).toArray::.agg (enc y).toArray::cb).toArray:=by simp
    rw [ea]
    refine hc.mono ?_
    rintro e2 w' ⟨v,η',rfl,hh',rfl⟩
    exact ⟨rfl,grow_of hh'⟩
  have hp:=AnyQ.slices_SortFunc_total L k aE zE enc hk h1 cf hO g cb.toArray b 0 cap d.toArray w hg.eq hlays hH hblk (by simp; omega) hT
  simp only [List.size_toArray] at hp
  refine hp.mono ?_
  rintro e2 w' ⟨rfl,n,os,rfl⟩
  have hml:(d.mergeSort fun x y=>!(ltOf cf) y x).length=d.length:=List.length_mergeSort d
  generalize (d.mergeSort fun x y=>!(ltOf cf) y x)=ys at hml ⊢
  have hyl:=flatK_list hk ys
  refine ⟨_,_,rfl,sw_hp hh (flatK enc k ys.toArray) os,_,rfl,by simp [putCells],?_⟩
  rw [← hyl]
  apply List.ext_getElem?
  intro i
  by_cases hi:i<d.length*k
  · rw [List.getElem?_take_of_lt hi]
    have h3:i<(flatK enc k ys.toArray).size:=by simp [hml,hi]
    rw [Array.getElem?_toList,Array.getElem?_toList,Array.getElem?_eq_getElem h3]
    simp only [putCells,Array.getElem?_mapIdx]
    rw [Array.getElem?_eq_getElem (by omega)]
    rw [Option.map_some,if_pos ⟨Nat.zero_le _,by omega⟩,Nat.sub_zero,getElem!_pos _ i h3]
    rfl
  · rw [List.getElem?_eq_none (by simp; omega),List.getElem?_eq_none (by simp [hml]; omega)]
theorem sort1_rt {ρ : Ren} (L : SlLaysF.n6 P ρ) {α : Type} [Inhabited α] (enc : α → Value) (h1 : OneCell enc)
    (cf:α→α→Int) (hO:SWO (ltOf cf)) (hT:∀ x y,(ltOf cf) x y=false→(ltOf cf) y x=false→x=y) (g:Nat) (cb:List Value) [hg:Ent P g] {b cap:Nat} {cur:Array Value} {e:TypeId} (d:List α)
    (hcur:cur.toList.take d.length=d.map enc) (hsz:d.length≤cur.size) (hm:d.length<1099511627776)
    (hcmp:∀ W:World,∀ x y:α,Rt P g (enc x::enc y::cb).toArray (· < W.heap.size) W [] (fun v _=>v = .int .i64 (cf x y))) :
    Rt P (ρ.f 6) #[.slice (some ⟨b,0,none⟩) d.length cap,.func (.func g) #[] cb.toArray] S w0 ([(b,.cells cur e (0,0))]::η)
      (fun _ η'=>∃ cur':Array Value,η'=[(b,.cells cur' e (0,0))]::η∧cur'.size=cur.size∧cur'.toList.take d.length=(d.mergeSort fun x y=>!(ltOf cf) y x).map enc):=by
  intro w hh
  have hb:w.heap[b]?=some (.cells cur e (0,0)):=hh.inMem (by simp)
  have hblk:b<w.heap.size:=(Array.getElem?_eq_some_iff.1 hb).1
  have hH:Holds enc w b 0 d.toArray:=by
    intro j hj
    have hj2:j<d.length:=by simpa using hj
    have hget:cur[j]?=some (enc (d.toArray[j]!)):=by
      have h2:(cur.toList.take d.length)[j]?=(d.map enc)[j]?:=by rw [hcur]
      rw [List.getElem?_take_of_lt hj2,Array.getElem?_toList,List.getElem?_map,List.getElem?_eq_getElem hj2] at h2
      rw [h2,getElem!_pos d.toArray j hj]; simp
    constructor
    · simp only [World.cell?,hb,Nat.zero_add]; simpa using hget
    · simp [World.frozen?,hb]
  have hlays:CmpLays1 P g cb.toArray enc cf b 0 d.toArray.size w:=by
    intro mm os dk _ x y
    have hc:=hcmp (sortWorld enc w b 0 mm dk os) x y _ (Hp.start _)
    have ea:(#[enc x,enc y]++cb.toArray:Array Value)=(enc x::enc y::cb).toArray:=by simp
    rw [ea]
    refine hc.mono ?_
    rintro e2 w' ⟨v,η',rfl,hh',rfl⟩
    exact ⟨rfl,grow_of hh'⟩
  have hp:=Any.slices_SortFunc_total L enc h1 cf hO g cb.toArray b 0 cap d.toArray w hg.eq hlays hH hblk (by simp; omega) hT
  simp only [List.size_toArray] at hp
  refine hp.mono ?_
  rintro e2 w' ⟨rfl,n,os,rfl⟩
  have hml:(d.mergeSort fun x y=>!(ltOf cf) y x).length=d.length:=List.length_mergeSort d
  generalize (d.mergeSort fun x y=>!(ltOf cf) y x)=ys at hml ⊢
  have e1:sortWorld enc w b 0 n ys.toArray os=sortWorld id w b 0 n (ys.map enc).toArray os:=by
    unfold sortWorld putRow
    congr 2
    funext c
    unfold putCells
    congr 1
    funext k x
    simp only [List.size_toArray,List.length_map]
    by_cases hk:0≤k∧k<0+ys.length
    · rw [if_pos hk,if_pos hk,getElem!_pos ys.toArray (k - 0) (by simp; omega),getElem!_pos (ys.map enc).toArray (k - 0) (by simp; omega)]
      simp
    · rw [if_neg hk,if_neg hk]
  rw [e1]
  refine ⟨_,_,rfl,sw_hp hh (ys.map enc).toArray os,_,rfl,by simp [putCells],?_⟩
  apply List.ext_getElem?
  intro i
  by_cases hi:i<d.length
  · rw [List.getElem?_take_of_lt hi]
    have h3:i<(ys.map enc).toArray.size:=by simp [hml,hi]
    rw [Array.getElem?_toList,List.getElem?_eq_getElem (by simpa using h3)]
    simp only [putCells,Array.getElem?_mapIdx]
    rw [Array.getElem?_eq_getElem (by omega)]
    rw [Option.map_some,if_pos ⟨Nat.zero_le _,by simp at h3 ⊢; omega⟩,Nat.sub_zero,getElem!_pos _ i h3]
    simp
  · rw [List.getElem?_eq_none (by simp; omega),List.getElem?_eq_none (by simp [hml]; omega)]
end Go.Sl
/- Bits of signed numbers. -/
namespace Go.Sl
section
variable {F:Fence} {P:Program} {S:Nat→Prop} {w0 w:World} {n:Nat} {Q:Exit→Act→World→Prop} {ds:List Deferred} {σ:Env} {η:Heap} {ops:Array Oper} {rest:List Oper} {ty:TypeId} {pos:String} {af:Array Edge} {d:Nat}
theorem wrap_toInt (x:BitVec 64):IntKind.i64.wrap (x.toNat:Int)=x.toInt:=by
  have h:=x.isLt
  rw [BitVec.toInt_eq_toNat_cond]
  by_cases h2:2*x.toNat<2 ^ 64
  · rw [if_pos h2,wrap_i64 (by omega) (by omega)]
  · rw [if_neg h2]
    have e:∀ a:Int,9223372036854775808≤a→a<18446744073709551616→IntKind.i64.wrap a=a - 18446744073709551616:=fun a h1 h2=>by
      simp [IntKind.wrap,IntKind.bits,IntKind.signed]; omega
    rw [e _ (by omega) (by omega)]; rfl
theorem TL.andZ (hF : Open F) {xt yt : TypeId} {x y : Operand} {a m : Int} (hx : ev σ x = some (.int .i64 a)) (hy : ev σ y = some (.int .i64 m)) (hn : Nat.blt d n = true)
    (h:TL F P S w0 n ops Q rest ds ((d,.int .i64 (BitVec.ofInt 64 a &&& BitVec.ofInt 64 m).toInt)::σ) η):TL F P S w0 n ops Q (⟨some d,.binOp .and xt x y yt,ty,pos,af,none⟩::rest) ds σ η :=
  TL.pure hF (by intro c; simp) hn (fun b w hk _=>by
    have hb:(Op.intBits .and .i64 a m).run P w = .ok (.int .i64 (BitVec.ofInt 64 a &&& BitVec.ofInt 64 m).toInt) w:=by
      unfold Op.intBits
      simp only [Sem.run_pure]
      rw [← wrap_toInt]; rfl
    simp [execOp,hk.ev hx,hk.ev hy,eqGuard,binOp,hb]) h
theorem TL.orZ (hF : Open F) {xt yt : TypeId} {x y : Operand} {a m : Int} (hx : ev σ x = some (.int .i64 a)) (hy : ev σ y = some (.int .i64 m)) (hn : Nat.blt d n = true)
    (h:TL F P S w0 n ops Q rest ds ((d,.int .i64 (BitVec.ofInt 64 a ||| BitVec.ofInt 64 m).toInt)::σ) η):TL F P S w0 n ops Q (⟨some d,.binOp .or xt x y yt,ty,pos,af,none⟩::rest) ds σ η :=
  TL.pure hF (by intro c; simp) hn (fun b w hk _=>by
    have hb:(Op.intBits .or .i64 a m).run P w = .ok (.int .i64 (BitVec.ofInt 64 a ||| BitVec.ofInt 64 m).toInt) w:=by
      unfold Op.intBits
      simp only [Sem.run_pure]
      rw [← wrap_toInt]; rfl
    simp [execOp,hk.ev hx,hk.ev hy,eqGuard,binOp,hb]) h
theorem TL.xorZ (hF : Open F) {xt yt : TypeId} {x y : Operand} {a m : Int} (hx : ev σ x = some (.int .i64 a)) (hy : ev σ y = some (.int .i64 m)) (hn : Nat.blt d n = true)
    (h:TL F P S w0 n ops Q rest ds ((d,.int .i64 (BitVec.ofInt 64 a ^^^ BitVec.ofInt 64 m).toInt)::σ) η):TL F P S w0 n ops Q (⟨some d,.binOp .xor xt x y yt,ty,pos,af,none⟩::rest) ds σ η :=
  TL.pure hF (by intro c; simp) hn (fun b w hk _=>by
    have hb:(Op.intBits .xor .i64 a m).run P w = .ok (.int .i64 (BitVec.ofInt 64 a ^^^ BitVec.ofInt 64 m).toInt) w:=by
      unfold Op.intBits
      simp only [Sem.run_pure]
      rw [← wrap_toInt]; rfl
    simp [execOp,hk.ev hx,hk.ev hy,eqGuard,binOp,hb]) h
end
end Go.Sl
/- A range over a function that holds memory of its own while it yields. -/
namespace Go.Sl
/-- An iterator by states, with memory of its own. -/
def IterX (P:Program) (f:FuncId) (pre post:List Value) {ι:Type} (ok:ι→List Value→ι→Prop) (fi:ι→Prop) (i0:ι) (S:Nat→Prop) (w0:World) (Ctx:Heap→Prop):Prop :=
  ∀ (l:Nat) (J:ι→Heap→Prop) (X:Heap→Prop) (η:Heap),(∀ i η',J i η'→Ctx η') →
    (∀ i e j ex η',ok i e j→J i η'→YieldOk P l e S w0 (ex++η') fun b η''=>∃ η2,η''=ex++η2∧if b then J j η2 else X η2) →
    J i0 η→Rt P f (pre++.func (.yield l) #[] #[]::post).toArray S w0 η fun _ η'=>(∃ i,fi i∧J i η')∨X η'
section
variable {F:Fence} {P:Program} {S:Nat→Prop} {w0 w:World} {n:Nat} {Q:Exit→Act→World→Prop} {ds:List Deferred} {σ:Env} {η:Heap} {ops:Array Oper} {rest:List Oper} {d:Nat} {ty:TypeId} {pos:String} {af:Array Edge}
/-- A range over a function. -/
theorem T.rangeFuncX {f : FuncId} {fst cap : List Value} {g : Operand} {ps : Array Tmp} {assign body : Code} {ι : Type} {ok : ι → List Value → ι → Prop} {fi : ι → Prop} {i0 : ι} {Ctx : Heap → Prop} [Ent P f]
    (hg:ev σ g=some (.func (.func f) fst.toArray cap.toArray)) (hit:IterX P f fst cap ok fi i0 S w0 Ctx) (hps:∀ i e j,ok i e j→e.length=ps.size) (hpn:∀ p∈ps.toList,p<n)
    (I:ι→Heap→Prop) (IX:Code→Heap→Prop) (h0:I i0 η) (hctx:∀ i η' tl,I i η'→Ctx (η'++tl))
    (hbody:∀ l tl tl' i e j η',ok i e j→I i η'→T (Fence.wide.inRound l) P S w0 n (Exit.then (Swap S w0 tl tl' fun a w=>body.wpIn (Fence.wide.inRound l) 0 P (RQ S w0 (fun _=>I j) IX 0 tl') a w) (fun _ _ _=>False)) assign [] ((ps.toList.zip e).reverse++σ) (η'++tl))
    (hdone:∀ r i η',fi i→I i η'→TQ S w0 n (Q .normal) ({ target:=.collected r,args:=#[] }::ds) σ ([(r,.deferred (some []))]::η'))
    (hstop:∀ r c η',IX c η'→T Fence.wide P S w0 n Q c ({ target:=.collected r,args:=#[] }::ds) σ ([(r,.deferred (some []))]::η')) :
    T Fence.wide P S w0 n Q (.rangeFunc g ps assign body) ds σ η:=fun a w hk hh=>by
  refine wpIn_rangeFunc fun fn hfn=>?_
  let rec':LoopState→Option Code→Loop:=fun st pend=>{ state:=st,pending:=pend,fn:=fn,tmps:=a.tmps,params:=ps,assign:=assign,body:=body,defers:=w.heap.size }
  have hh1:=(hh.alloc (.deferred (some []))).alloc (.loop (rec' .ready none))
  have hl:(({ w with heap:=w.heap.push (.deferred (some [])) }:World).heap.size)=w.heap.size+1:=by simp
  rw [hl] at hh1
  obtain ⟨W1,hW1⟩:∃ W1:World,W1={ heap:=(w.heap.push (.deferred (some []))).push (.loop (rec' .ready none)),tape:=w.tape,drawn:=w.drawn,os:=w.os,output:=w.output }:=⟨_,rfl⟩
  have hh2:Hp S w0 (η++[[(w.heap.size+1,.loop (rec' .ready none))],[(w.heap.size,.deferred (some []))]]) W1:=by
    rw [hW1]; exact Hp.rot (A:=[[(w.heap.size+1,.loop (rec' .ready none))],[(w.heap.size,.deferred (some []))]]) hh1
  have hargs:fst.toArray++#[.func (.yield (w.heap.size+1)) #[] #[]]++cap.toArray=(fst++.func (.yield (w.heap.size+1)) #[] #[]::cap).toArray:=by simp
  refine ⟨w.heap.size+1,[{ target:=.collected w.heap.size,args:=#[] }],W1,⟨.fn (.func f) cap.toArray,fst.toArray++#[.func (.yield (w.heap.size+1)) #[] #[]]⟩,W1,f,(fst++.func (.yield (w.heap.size+1)) #[] #[]::cap).toArray,W1,?_,?_,fun _ _=>trivial,?_,fun h=>(by simp [Fence.wide] at h),?_⟩
  · rw [hW1]
    simp only [Instr.enterLoop,show Fence.wide.round=none from rfl,Sem.run_bind,run_newObj,Sem.run_pure,Result.andThen_ok]
    simp only [Array.size_push]
    rfl
  · have hgv:=hk.ev hg
    have hm:Array.map a.eval #[Operand.const (.func (.yield (w.heap.size+1)) #[] #[])] = #[.func (.yield (w.heap.size+1)) #[] #[]]:=by simp [Act.eval]
    simp only [resolve,hgv,hm,Deferred.ofValue,Sem.run_pure]
  · simp only [invoke]
    rw [hargs,Ent.eq]
  · have key := hit (w.heap.size + 1) (fun i η' => ∃ ηu, I i ηu ∧ η' = ηu ++ [[(w.heap.size + 1, .loop (rec' .ready none))], [(w.heap.size, .deferred (some []))]])
      (fun η'=>∃ c ηu,IX c ηu∧η'=ηu++[[(w.heap.size+1,.loop (rec' .done (some c)))],[(w.heap.size,.deferred (some []))]]) _
      (by rintro i η' ⟨ηu,hi,rfl⟩; exact hctx i ηu _ hi) ?_ ⟨η,h0,rfl⟩ W1 hh2
    · refine callsIn_open open_wide (key.mono ?_)
      have fin : ∀ (st : LoopState) (pend : Option Code) (ηu : Heap) (w3 : World), st ≠ .busy → Hp S w0 (ηu ++ [[(w.heap.size + 1, .loop (rec' st pend))], [(w.heap.size, .deferred (some []))]]) w3 →
          ∃ w4,(Instr.endLoop (w.heap.size+1)).run P w3 = .ok pend w4∧Hp S w0 ([(w.heap.size,.deferred (some []))]::ηu) w4:=by
        intro st pend ηu w3 hst hh3
        have hb:=(hh3.own (w.heap.size+1,.loop (rec' st pend)) (by simp)).1
        have h4:=hh3.turnI (i:=ηu.length) (b:=w.heap.size+1) (o:=.loop (rec' st pend)) (by simp) (.loop { rec' st pend with state:=.exhausted })
        have he:(ηu++[[(w.heap.size+1,Obj.loop (rec' st pend))],[(w.heap.size,.deferred (some []))]]).set ηu.length [(w.heap.size+1,.loop { rec' st pend with state:=.exhausted })]=ηu++[[(w.heap.size+1,.loop { rec' st pend with state:=.exhausted })],[(w.heap.size,.deferred (some []))]]:=by simp
        rw [he] at h4
        refine ⟨_,run_endLoop hb hst,(Hp.rot h4).sub (fun p hp=>?_) ?_⟩
        · simp only [List.flatten_cons,List.mem_append] at hp
          simp only [List.flatten_append,List.flatten_cons,List.flatten_nil,List.mem_append]
          rcases hp with h | h
          · exact .inl (.inr (.inl h))
          · exact .inr h
        · have:=(Hp.rot h4).once
          simp only [List.flatten_cons,List.cons_append,List.nil_append,List.map_cons] at this ⊢
          exact (List.nodup_cons.1 this).2
      rintro e w3 ⟨v,η',rfl,hh3,(⟨iu,hfi,ηu,hi,rfl⟩ | ⟨c,ηu,hx,rfl⟩)⟩
      · obtain ⟨w4,hr,hh4⟩:=fin .ready none ηu w3 (by simp) hh3
        exact ⟨none,w4,hr,hdone _ iu ηu hfi hi _ _ ⟨hk.size,by simp [hk.defers],hk.slot⟩ hh4⟩
      · obtain ⟨w4,hr,hh4⟩:=fin .done (some c) ηu w3 (by simp) hh3
        exact ⟨some c,w4,hr,hstop _ c ηu hx _ _ ⟨hk.size,by simp [hk.defers],hk.slot⟩ hh4 ⟩
    · rintro i e j exh η' he ⟨ηu,hi,rfl⟩ w3 hh3
      have perm:∀ (o:Obj) (A:Heap),(A++([(w.heap.size+1,o)]::[(w.heap.size,Obj.deferred (some []))]::exh)).Perm (exh++(A++[[(w.heap.size+1,o)],[(w.heap.size,Obj.deferred (some []))]])):=fun o A=>by
        have:=List.perm_append_comm (l₁:=A++[[(w.heap.size+1,o)],[(w.heap.size,Obj.deferred (some []))]]) (l₂:=exh)
        simpa using this
      replace hh3:=hh3.perm (perm _ _)
      have hb3:=(hh3.own (w.heap.size+1,.loop (rec' .ready none)) (by simp)).1
      have hlen:e.toArray.size=(rec' .ready none).params.size:=by simpa [rec'] using hps i e j he
      refine ⟨_,_,_,_,run_yield hb3 hlen,?_⟩
      have setT:∀ (o o':Obj) (η1:Heap) (w':World),Hp S w0 (η1++([(w.heap.size+1,o)]::[(w.heap.size,Obj.deferred (some []))]::exh)) w'→Hp S w0 (η1++([(w.heap.size+1,o')]::[(w.heap.size,Obj.deferred (some []))]::exh)) (w'.putObj (w.heap.size+1) o'):=by
        intro o o' η1 w' hh'
        have h4:=hh'.turnI (i:=η1.length) (b:=w.heap.size+1) (o:=o) (by simp) o'
        have he:(η1++([(w.heap.size+1,o)]::[(w.heap.size,Obj.deferred (some []))]::exh)).set η1.length [(w.heap.size+1,o')]=η1++([(w.heap.size+1,o')]::[(w.heap.size,Obj.deferred (some []))]::exh):=by simp
        rwa [he] at h4
      refine roundIn_of_wpIn trivial ?_
      have hb:=hbody (w.heap.size+1) ([(w.heap.size+1,.loop (rec' .ready none))]::[(w.heap.size,.deferred (some []))]::exh) ([(w.heap.size+1,.loop (rec' .busy none))]::[(w.heap.size,.deferred (some []))]::exh) i e j ηu he hi
        { tmps:=(ps.toList.zip e).foldl (fun t (x:Nat × Value)=>t.setIfInBounds x.1 x.2) a.tmps,defers:=[] } w3 ⟨by rw [foldl_size]; exact hk.size,rfl,kn_params _ _ _ hk.slot (fun p hp=>by
          rw [hk.size]; exact hpn p.1 (List.of_mem_zip hp).1)⟩ hh3
      have hz:(((rec' .ready none).params.zip e.toArray).foldl (fun tmps (x:Nat × Value)=>tmps.setIfInBounds x.1 x.2) (rec' .ready none).tmps)=(ps.toList.zip e).foldl (fun t (x:Nat × Value)=>t.setIfInBounds x.1 x.2) a.tmps:=by
        rw [← Array.foldl_toList]
        simp [rec']
      rw [hz]
      refine wpIn_mono hb ?_
      intro ex a1 w1 hq
      cases ex with
      | normal =>
        obtain ⟨⟨η1,hh4⟩,hq⟩:=hq
        have hb4:=(hh4.own (w.heap.size+1,.loop (rec' .ready none)) (by simp)).1
        refine ⟨_,run_beginRound hb4 rfl,wpIn_mono (hq _ fun η2 hh5=>setT _ (.loop { rec' .ready none with state:=.busy }) η2 w1 hh5) ?_⟩
        have fin : ∀ (jump : Option Code) (η2 : Heap) (w5 : World), Hp S w0 (η2 ++ ([(w.heap.size + 1, .loop (rec' .busy none))] :: [(w.heap.size, .deferred (some []))] :: exh)) w5 →
            (Instr.endRound (w.heap.size+1) jump).run P w5 = .ok (.bool jump.isNone) (w5.putObj (w.heap.size+1) (.loop (rec' (if jump.isNone then .ready else .done) jump))) ∧
            Hp S w0 (exh++(η2++[[(w.heap.size+1,.loop (rec' (if jump.isNone then .ready else .done) jump))],[(w.heap.size,.deferred (some []))]])) (w5.putObj (w.heap.size+1) (.loop (rec' (if jump.isNone then .ready else .done) jump))):=by
          intro jump η2 w5 hh6
          have hb6:=(hh6.own (w.heap.size+1,.loop (rec' .busy none)) (by simp)).1
          exact ⟨run_endRound jump hb6,(setT _ _ η2 w5 hh6).perm (perm _ _).symm⟩
        intro ex2 a2 w5 hq2
        cases ex2 with
        | normal =>
          obtain ⟨η2,hi2,hh6⟩:=hq2
          obtain ⟨hr,hh7⟩:=fin none η2 w5 hh6
          exact ⟨_,_,hr,true,_,rfl,hh7,_,rfl,⟨η2,hi2,rfl⟩⟩
        | ret =>
          obtain ⟨η2,hi2,hh6⟩:=hq2
          obtain ⟨hr,hh7⟩:=fin (some .ret) η2 w5 hh6
          exact ⟨_,_,hr,false,_,rfl,hh7,_,rfl,.ret,η2,hi2,rfl⟩
        | exit id =>
          obtain ⟨η2,hi2,hh6⟩:=hq2
          obtain ⟨hr,hh7⟩:=fin (some (.exit id)) η2 w5 hh6
          exact ⟨_,_,hr,false,_,rfl,hh7,_,rfl,.exit id,η2,hi2,rfl⟩
        | goto t =>
          obtain ⟨η2,hi2,hh6⟩:=hq2
          obtain ⟨hr,hh7⟩:=fin (some (.goto t)) η2 w5 hh6
          exact ⟨_,_,hr,false,_,rfl,hh7,_,rfl,.goto t,η2,hi2,rfl⟩
        | panic ch=>exact hq2.elim
        | outgrown=>exact hq2.elim
      | ret=>exact hq.elim
      | exit id=>exact hq.elim
      | goto t=>exact hq.elim
      | panic ch=>exact hq.elim
      | outgrown=>exact hq.elim

/-- What is frozen, with the way back. -/
theorem T.freeze2 {c:Code} (ηr:Heap) {η2:Heap} (he:η=ηr++η2) (h:∀ S' w1,Frz S S' w0 w1 ηr→(∀ η' a v,At S' w1 η' a v→At S w0 (ηr++η') a v)→T F P S' w1 n Q c ds σ η2):T F P S w0 n Q c ds σ η:=fun a w hk hh=>by
  subst he
  obtain ⟨S',hz,hh',hb⟩:=frz_mk2 hh
  exact h S' w hz hb a w hk hh'
theorem TL.freeze2 {l:List Oper} (ηr:Heap) {η2:Heap} (he:η=ηr++η2) (h:∀ S' w1,Frz S S' w0 w1 ηr→(∀ η' a v,At S' w1 η' a v→At S w0 (ηr++η') a v)→TL F P S' w1 n ops Q l ds σ η2):TL F P S w0 n ops Q l ds σ η:=fun a w hk hh=>by
  subst he
  obtain ⟨S',hz,hh',hb⟩:=frz_mk2 hh
  exact h S' w hz hb a w hk hh'
/-- Memory, in any order and in any parts. -/
theorem Hp.flat {η':Heap} (hh:Hp S w0 η w) (hp:η'.flatten.Perm η.flatten):Hp S w0 η' w :=
  hh.sub (fun _p hq=>(hp.mem_iff).1 hq) ((hp.map _).nodup_iff.2 hh.once)
theorem TL.hflat {l:List Oper} (η':Heap) (hp:η'.flatten.Perm η.flatten) (h:TL F P S w0 n ops Q l ds σ η'):TL F P S w0 n ops Q l ds σ η:=fun a w hk hh=>h a w hk (hh.flat hp)
theorem TQ.hflat {K:Act→World→Prop} (η':Heap) (hp:η'.flatten.Perm η.flatten) (h:TQ S w0 n K ds σ η'):TQ S w0 n K ds σ η:=fun a w hk hh=>h a w hk (hh.flat hp)
end
end Go.Sl
/- Operations that meet again: a part of a list of operations that hands one value to one slot, whichever way it goes. -/
namespace Go.Sl
variable {F:Fence} {P:Program} {S:Nat→Prop} {w0 w:World} {n:Nat} {Q:Exit→Act→World→Prop} {ds:List Deferred} {σ:Env} {η:Heap} {ops:Array Oper}
theorem wpIn_monoQ {Q Q' : Exit → Act → World → Prop} {o : Oper} {a : Act} {w : World} {K K' : Act → World → Prop} (h : ∀ a w, K a w → K' a w) (hq : ∀ e a w, e ≠ .normal → Q e a w → Q' e a w)
    (hh:Oper.wpIn F 0 P o a w K Q):Oper.wpIn F 0 P o a w K' Q':=by
  have hlet:LetsOut Q→LetsOut Q':=fun ⟨a,w,hx⟩=>⟨a,w,hq _ _ _ (by simp) hx⟩
  unfold Oper.wpIn at *
  refine ⟨hh.1,?_⟩
  have hh:=hh.2
  generalize (o.semAt F.round a.eval).run P w=r at *
  cases r with
  | ok x w' =>
    cases x <;> simp only [Oper.uponIn] at hh ⊢ <;>
      first
        | exact h _ _ hh
        | exact ⟨hh.1,CallsIn.mono hh.2 (fun e w'' he=>by cases e <;> first | exact h _ _ he | exact hq _ _ _ (by simp) he | exact hlet he)⟩
        | exact ⟨hh.1,RowsIn.mono hh.2 (fun _ _ he=>h _ _ he)⟩
        | exact ⟨hh.1,RoundIn.mono hh.2 (fun e w'' he=>by cases e <;> first | exact h _ _ he | exact hq _ _ _ (by simp) he | exact hlet he)⟩
  | halt x w'=>cases x <;> simp only [Oper.uponIn] at hh ⊢ <;> first | exact hq _ _ _ (by simp) hh | exact hh
theorem wpList_app {Q Q' : Exit → Act → World → Prop} {l2 : List Oper} (hn : ∀ a w, Q .normal a w → wpListIn F 0 P ops Q' l2 a w) (hq : ∀ e a w, e ≠ .normal → Q e a w → Q' e a w) :
    ∀ (l1:List Oper) (a:Act) (w:World),wpListIn F 0 P ops Q l1 a w→wpListIn F 0 P ops Q' (l1++l2) a w
  | [],a,w,h=>hn a w h
  | o::r,a,w,h=>by
    rw [List.cons_append]
    unfold wpListIn at h ⊢
    split
    · rename_i hw
      rw [if_pos hw] at h
      exact wpIn_monoQ (wpList_app hn hq r) hq h
    · rename_i hw
      rw [if_neg hw] at h
      exact ⟨h.1,wpList_app hn hq r _ _ h.2⟩
def QJ (S:Nat→Prop) (w0:World) (n:Nat) (ds:List Deferred) (σ:Env) (η:Heap) (d:Nat) (v:Value) (Q:Exit→Act→World→Prop):Exit→Act→World→Prop
  | .normal,a,w=>Kn n ds ((d,v)::σ) a∧Hp S w0 η w
  | e,a,w=>Q e a w
/-- A part that hands one value to one slot. -/
theorem TL.join (l1:List Oper) {l2 l:List Oper} (d:Nat) (v:Value) (hl:l=l1++l2) (h1:TL F P S w0 n ops (QJ S w0 n ds σ η d v Q) l1 ds σ η) (h2:TL F P S w0 n ops Q l2 ds ((d,v)::σ) η):TL F P S w0 n ops Q l ds σ η:=fun a w hk hh=>by
  subst hl
  exact wpList_app (fun a w hx=>h2 a w hx.1 hx.2) (fun e a w hne hx=>by cases e <;> first | exact absurd rfl hne | exact hx) l1 a w (h1 a w hk hh)
theorem TL.finJ {d:Nat} {v:Value} {σ':Env} (hs:Sub ((d,v)::σ) σ'):TL F P S w0 n ops (QJ S w0 n ds σ η d v Q) [] ds σ' η:=fun _ _ hk hh=>⟨hk.sub hs,hh⟩
end Go.Sl
/- The library's sort, by a comparison that looks at memory of one's own. -/
namespace Go.Sl
open Go.Sort Go.RowKit Go.Shelf Go.Proofs
variable {S:Nat→Prop} {w0 w:World} {η:Heap} {P:Program}
theorem sortQ_rt2 {ρ : Ren} (L : SlLaysF0.n6 P ρ) (k : Nat) (aE : ∀ w, (isAgg (ρ.t 24)).run P w = .ok true w) (zE : ∀ w, (Go.sizeOf (ρ.t 24)).run P w = .ok k w) {α : Type} [Inhabited α] (enc : α → List Value) (hk : ∀ x, (enc x).length = k) (h1 : ∀ x, ∀ v ∈ enc x, v.oneCell' = true)
    (cf:α→α→Int) (hO:SWO (ltOf cf)) (hT:∀ x y,(ltOf cf) x y=false→(ltOf cf) y x=false→x=y) (g:Nat) (cb:List Value) [hg:Ent P g] {b cap:Nat} {cur:Array Value} {e:TypeId} (d:List α)
    (hcur:cur.toList.take (d.length*k)=d.flatMap enc) (hsz:d.length*k≤cur.size) (hm:d.length<1099511627776) (hb0:0<d.length)
    (hcmp:∀ (W:World) (cur':Array Value),Hp S w0 ([(b,.cells cur' e (0,0))]::η) W→∀ x y:α,Rt P g (.agg (enc x).toArray::.agg (enc y).toArray::cb).toArray (· < W.heap.size) W [] (fun v _=>v = .int .i64 (cf x y))) :
    Rt P (ρ.f 6) #[.slice (some ⟨b,0,none⟩) d.length cap,.func (.func g) #[] cb.toArray] S w0 ([(b,.cells cur e (0,0))]::η)
      (fun _ η'=>∃ cur':Array Value,η'=[(b,.cells cur' e (0,0))]::η∧cur'.size=cur.size∧cur'.toList.take (d.length*k)=(d.mergeSort fun x y=>!(ltOf cf) y x).flatMap enc):=by
  intro w hh
  have hb:w.heap[b]?=some (.cells cur e (0,0)):=hh.inMem (by simp)
  have hblk:b<w.heap.size:=(Array.getElem?_eq_some_iff.1 hb).1
  have hfl:=flatK_list hk d
  have hH:HoldsK enc k w b 0 d.toArray:=by
    intro j hj
    have hj2:j<d.length*k:=by simpa using hj
    have hget:cur[j]?=some ((flatK enc k d.toArray)[j]!):=by
      have h2:(cur.toList.take (d.length*k))[j]?=(flatK enc k d.toArray).toList[j]?:=by rw [hcur,hfl]
      rw [List.getElem?_take_of_lt hj2,Array.getElem?_toList,Array.getElem?_toList,Array.getElem?_eq_getElem hj] at h2
      rw [h2,getElem!_pos _ j hj]
    constructor
    · simp only [World.cell?,hb,Nat.zero_add]; simpa using hget
    · simp [World.frozen?,hb]
  have hlays:CmpLays P g cb.toArray enc k cf b 0 d.toArray.size w:=by
    intro mm os dk _ x y
    have hc:=hcmp (sortWorldK enc k w b 0 mm dk os) _ (sw_hp hh (flatK enc k dk) os) x y _ (Hp.start _)
    have ea:(#[.agg (enc x).toArray,.agg (enc y).toArray]++cb.toArray:Array Value)=(.agg (enc x).toArray::.agg (enc y).toArray::cb).toArray:=by simp
    rw [ea]
    refine hc.mono ?_
    rintro e2 w' ⟨v,η',rfl,hh',rfl⟩
    exact ⟨rfl,grow_of hh'⟩
  have hp:=AnyQ.slices_SortFunc_total L k aE zE enc hk h1 cf hO g cb.toArray b 0 cap d.toArray w hg.eq hlays hH hblk (by simp; omega) hT
  simp only [List.size_toArray] at hp
  refine hp.mono ?_
  rintro e2 w' ⟨rfl,n,os,rfl⟩
  have hml:(d.mergeSort fun x y=>!(ltOf cf) y x).length=d.length:=List.length_mergeSort d
  generalize (d.mergeSort fun x y=>!(ltOf cf) y x)=ys at hml ⊢
  have hyl:=flatK_list hk ys
  refine ⟨_,_,rfl,sw_hp hh (flatK enc k ys.toArray) os,_,rfl,by simp [putCells],?_⟩
  rw [← hyl]
  apply List.ext_getElem?
  intro i
  by_cases hi:i<d.length*k
  · rw [List.getElem?_take_of_lt hi]
    have h3:i<(flatK enc k ys.toArray).size:=by simp [hml,hi]
    rw [Array.getElem?_toList,Array.getElem?_toList,Array.getElem?_eq_getElem h3]
    simp only [putCells,Array.getElem?_mapIdx]
    rw [Array.getElem?_eq_getElem (by omega)]
    rw [Option.map_some,if_pos ⟨Nat.zero_le _,by omega⟩,Nat.sub_zero,getElem!_pos _ i h3]
    rfl
  · rw [List.getElem?_eq_none (by simp; omega),List.getElem?_eq_none (by simp [hml]; omega)]
end Go.Sl
/- make of none too; a slice expression with three bounds that keeps all. -/
namespace Go.Sl
variable {S:Nat→Prop} {w0:World} {η:Heap}
section
variable {F:Fence} {P:Program} {w:World} {n:Nat} {Q:Exit→Act→World→Prop} {ds:List Deferred} {σ:Env} {ops:Array Oper} {d:Nat} {ty:TypeId} {pos:String} {af:Array Edge} {rest:List Oper}
/-- make of a slice of elements of any size, of none too. -/
theorem TL.makeSliceZ (hF : Open F) {t e : TypeId} [Und P t (.slice e)] {z : Value} {sz bt : Nat} [Inf P e z sz bt] {x y : Operand} {k : Nat} (hx : ev σ x = some (.int .i64 (k : Int))) (hy : ev σ y = some (.int .i64 (k : Int))) (cs : List Value) (hcs : 0 < k → ((Array.range (k * sz)).map fun i => z.cells[i % z.cells.size]!) = cs.toArray) (hc0 : k = 0 → cs = []) (hsz : 0 < sz) (hb : k * bt ≤ 281474976710656) (hk : k ≤ 4611686018427387904) (hn : Nat.blt d n = true)
    (h:∀ b,TL F P S w0 n ops Q rest ds ((d,.slice (some ⟨b,0,none⟩) k k)::σ) ([(b,.cells cs.toArray e (0,0))]::η)) :
    TL F P S w0 n ops Q (⟨some d,.makeSlice t x y,ty,pos,af,none⟩::rest) ds σ η:=by
  rcases Nat.eq_zero_or_pos k with h0 | h0
  · subst h0
    have hc:=hc0 rfl
    subst hc
    refine TL.val hF (by intro c; simp) hn fun a w hkn hh=>?_
    obtain ⟨inf,hinf,hiz,hisz,hibt⟩:=run_typeInfo (P:=P) (t:=e) (z:=z) (sz:=sz) (bt:=bt)
    refine ⟨_,_,_,?_,hh.alloc _,h _⟩
    have hw:IntKind.i64.wrap 0=0:=rfl
    simp [execOp,Instr.makeSlice,hkn.ev hx,hkn.ev hy,run_underlying (t:=t) (d:=.slice e),asInt,asIntOf,hinf,hw,run_sizeOf (t:=e) (z:=z) (sz:=sz) (bt:=bt),newRow]
    have:(Array.map (fun _=>(default:Value)) (Array.range 0)) = #[]:=by simp [Array.range]
    rw [this]
  · exact TL.makeSliceN hF hx hy cs (hcs h0) h0 hsz hb hk hn h
/-- A value behind an interface is there. -/
theorem TL.nilCheckI (hF : Open F) {x : Operand} {t : TypeId} {v : Value} (hx : ev σ x = some (.iface t v)) (hn : Nat.blt d n = true)
    (h:TL F P S w0 n ops Q rest ds ((d,.iface t v)::σ) η):TL F P S w0 n ops Q (⟨some d,.nilCheck x,ty,pos,af,none⟩::rest) ds σ η :=
  TL.pure hF (by intro c; simp) hn (fun a w hk _=>by simp [execOp,hk.ev hx]) h
/-- A slice expression with three bounds that keeps all. -/
theorem TL.slice3 (hF : Open F) {t e : TypeId} [Und P t (.slice e)] {z : Value} {sz bt : Nat} [Inf P e z sz bt] {x y y' : Operand} {a : Option Addr} {l : Nat} (hx : ev σ x = some (.slice a l l)) (hy : ev σ y = some (.int .i64 (l : Int))) (hy' : ev σ y' = some (.int .i64 (l : Int))) (hn : Nat.blt d n = true)
    (h:TL F P S w0 n ops Q rest ds ((d,.slice a l l)::σ) η):TL F P S w0 n ops Q (⟨some d,.slice t x none (some y) (some y'),ty,pos,af,none⟩::rest) ds σ η :=
  TL.pure hF (by intro c; simp) hn (fun b w hk _=>by
    have h1:a.map (·.add 0)=a:=by
      cases a with
      | none=>rfl
      | some ad=>simp [Addr.add]
    have h2:(if l=0 then a else a.map (·.add 0))=a:=by
      split
      · rfl
      · exact h1
    simp [execOp,Instr.sliceAt,Instr.slice,Instr.sliceBounds,Instr.sliceBound,asIntOf,run_underlying (t:=t) (d:=.slice e),run_sizeOf (t:=e) (z:=z) (sz:=sz) (bt:=bt),hk.ev hx,hk.ev hy,hk.ev hy',h2]) h
end
end Go.Sl
/- The end of a function with a deferred closure: two results, both in memory, the first of several cells. -/
namespace Go.Sl
section
variable {F:Fence} {P:Program} {S:Nat→Prop} {w0 w:World} {n:Nat} {ds:List Deferred} {σ:Env} {η:Heap}
theorem results_two {fn : Func} {c1 c2 : Nat} {ct1 ct2 : TypeId} [Ag P ct1 true] [Ag P ct2 false] {z : Value} {sz bt : Nat} [Inf P ct1 z sz bt] {cs : List Value} {b1 b2 : Nat} {x : Value} (hr : fn.results = #[ResultVar.cell c1 ct1, ResultVar.cell c2 ct2]) {a : Act} (hk : Kn n ds σ a) (h1 : lk σ c1 = some (.pointer (some ⟨b1, 0, none⟩))) (h2 : lk σ c2 = some (.pointer (some ⟨b2, 0, none⟩)))
    (hl:cs.length=sz) (hv:∀ i v,cs[i]?=some v→At S w0 η ⟨b1,0+i,none⟩ v) (hx:At S w0 η ⟨b2,0,none⟩ x) (hh:Hp S w0 η w):(results fn a.tmps).run P w = .ok (.tuple #[.agg cs.toArray,x]) w:=by
  have hc1:=hk.slot _ _ h1
  have hc2:=hk.slot _ _ h2
  unfold results
  rw [hr]
  simp [Array.mapM_eq_mapM_toList,Array.getD_eq_getD_getElem?,hc1,hc2,asAddr,loadVar,Ag.eq (t:=ct1) (b:=true),Ag.eq (t:=ct2) (b:=false),run_sizeOf (t:=ct1) (z:=z) (sz:=sz) (bt:=bt),run_loadCells hl hv hh,hx.cell hh]
theorem lv_endA {fn : Func} {c1 c2 : Nat} {ct1 ct2 : TypeId} [Ag P ct1 true] [Ag P ct2 false] {z0 : Value} {sz bt : Nat} [Inf P ct1 z0 sz bt] {cs : List Value} {b1 b2 : Nat} {x : Value} {R : Value → Heap → Prop} {g k : FuncId} [Ent P g] [Ent P k] (hc : StopC P g k) {u u1 : FrameMode} {v : Value} {η1 : Heap}
    (hu:(u = .returning∧v = .nilIface∧u1 = .returning)∨(u = .panicking [{ v,recovered:=false }]∧u1 = .panicking [{ v,recovered:=true }]))
    (hs:Rt P k #[v,.pointer (some ⟨b2,0,none⟩)] S w0 η fun _ η'=>η'=η1) (hr:fn.results = #[ResultVar.cell c1 ct1,ResultVar.cell c2 ct2]) {a:Act} (hk:Kn n ds σ a) (h1:lk σ c1=some (.pointer (some ⟨b1,0,none⟩))) (h2:lk σ c2=some (.pointer (some ⟨b2,0,none⟩)))
    (hl:cs.length=sz) (hv:∀ i v,cs[i]?=some v→At S w0 η1 ⟨b1,0+i,none⟩ v) (hx:At S w0 η1 ⟨b2,0,none⟩ x) (hR:R (.tuple #[.agg cs.toArray,x]) η1) (hh:Hp S w0 η w):Lv P fn a.tmps (post R S w0) [{ target:=.fn (.func g) #[.pointer (some ⟨b2,0,none⟩)],args:=#[] }] u w:=by
  refine ⟨by rcases hu with ⟨rfl,_⟩ | ⟨rfl,_⟩ <;> simp,.inr ⟨_,_,g,_,rfl,invoke_closure _,?_⟩⟩
  refine (hc.go hu hs hh).mono ?_
  rintro e u' w' ⟨y,z,η',rfl,rfl,hh',rfl⟩
  have hset:settle u' = .returning:=by rcases hu with ⟨_,_,rfl⟩ | ⟨_,rfl⟩ <;> rfl
  show Lv P fn a.tmps (post R S w0) [] (settle u') w'
  rw [hset]
  exact ⟨_,results_two hr hk h1 h2 hl hv hx hh',_,_,rfl,hh',hR⟩
theorem TQ.retLA {fn : Func} (cs : List Value) {c1 c2 : Nat} {ct1 ct2 : TypeId} [Ag P ct1 true] [Ag P ct2 false] {z0 : Value} {sz bt : Nat} [Inf P ct1 z0 sz bt] {b1 b2 : Nat} {x : Value} {R : Value → Heap → Prop} {g k : FuncId} [Ent P g] [Ent P k] (hc : StopC P g k)
    (hs:Rt P k #[.nilIface,.pointer (some ⟨b2,0,none⟩)] S w0 η fun _ η'=>η'=η) (hr:fn.results = #[ResultVar.cell c1 ct1,ResultVar.cell c2 ct2]) (h1:lk σ c1=some (.pointer (some ⟨b1,0,none⟩))) (h2:lk σ c2=some (.pointer (some ⟨b2,0,none⟩)))
    (hl:cs.length=sz) (hv:∀ i v,cs[i]?=some v→At S w0 η ⟨b1,0+i,none⟩ v) (hx:At S w0 η ⟨b2,0,none⟩ x) (hR:R (.tuple #[.agg cs.toArray,x]) η):TQ S w0 n (bodyPostL P fn (post R S w0) .ret) [{ target:=.fn (.func g) #[.pointer (some ⟨b2,0,none⟩)],args:=#[] }] σ η:=fun a w hk hh=>by
  show Lv P fn a.tmps (post R S w0) a.defers .returning w
  rw [hk.defers]
  exact lv_endA hc (.inl ⟨rfl,rfl,rfl⟩) hs hr hk h1 h2 hl hv hx hR hh
theorem TQ.panLA {fn : Func} (cs : List Value) {c1 c2 : Nat} {ct1 ct2 : TypeId} [Ag P ct1 true] [Ag P ct2 false] {z0 : Value} {sz bt : Nat} [Inf P ct1 z0 sz bt] {b1 b2 : Nat} {x v : Value} {R : Value → Heap → Prop} {g k : FuncId} [Ent P g] [Ent P k] (hc : StopC P g k) {η1 : Heap}
    (hs:Rt P k #[v,.pointer (some ⟨b2,0,none⟩)] S w0 η fun _ η'=>η'=η1) (hr:fn.results = #[ResultVar.cell c1 ct1,ResultVar.cell c2 ct2]) (h1:lk σ c1=some (.pointer (some ⟨b1,0,none⟩))) (h2:lk σ c2=some (.pointer (some ⟨b2,0,none⟩)))
    (hl:cs.length=sz) (hv:∀ i v,cs[i]?=some v→At S w0 η1 ⟨b1,0+i,none⟩ v) (hx:At S w0 η1 ⟨b2,0,none⟩ x) (hR:R (.tuple #[.agg cs.toArray,x]) η1):TQ S w0 n (bodyPostL P fn (post R S w0) (.panic [{ v,recovered:=false }])) [{ target:=.fn (.func g) #[.pointer (some ⟨b2,0,none⟩)],args:=#[] }] σ η:=fun a w hk hh=>by
  show Lv P fn a.tmps (post R S w0) a.defers (.panicking [{ v,recovered:=false }]) w
  rw [hk.defers]
  exact lv_endA hc (.inr ⟨rfl,rfl⟩) hs hr hk h1 h2 hl hv hx hR hh
end
end Go.Sl
