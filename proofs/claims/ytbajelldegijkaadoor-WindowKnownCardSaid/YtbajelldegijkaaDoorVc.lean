/- Several texts in one. -/
import Derived.Test.YtbajelldegijkaaDoorVb
import Derived.Test.YtbajelldegijkaaDoorVa
import Derived.Shelf.SlGeneric
import Derived.Ground.SlsfProg
import Derived.Shelf.SlSortCmp.NoneTotal
import Derived.Test.YtbajelldegijkaaDoorProg
/- What the walks of every seat use: lists of numbers, of truths, of structs, and of lists, in memory. -/
namespace Go.Proofs.YtbajelldegijkaaDoor
open Go.Sl
variable {S:Nat→Prop} {w0:World} {η:Heap}
abbrev ptr (b:Nat):Value:=.pointer (some ⟨b,0,none⟩)
theorem drop_step {α:Type} {l:List α} {k:Nat} (h:k<l.length):l.drop k=l[k]::l.drop (k+1):=List.drop_eq_getElem_cons h
theorem not_mem_succ {xs:List Int} {n:Int} {k:Nat} (hk:k<xs.length) (h:n ∉ xs.take k) (hne:xs[k]≠n):n ∉ xs.take (k+1):=by
  rw [List.take_succ_eq_append_getElem hk]
  simp only [List.mem_append,List.mem_singleton,not_or]
  exact ⟨h,fun e=>hne e.symm⟩
theorem take_succ_eq {α:Type} {xs ys:List α} {k:Nat} (h1:k<xs.length) (h2:k<ys.length) (h:xs.take k=ys.take k) (he:xs[k]=ys[k]):xs.take (k+1)=ys.take (k+1):=by
  rw [List.take_succ_eq_append_getElem h1,List.take_succ_eq_append_getElem h2,h,he]
theorem ne_of_getElem {α:Type} {xs ys:List α} {k:Nat} (h1:k<xs.length) (h2:k<ys.length) (he:xs[k]≠ys[k]):xs≠ys:=fun e=>he (by subst e; rfl)
def rowC (n:Nat) (f:Nat→Bool):List Value:=(List.range n).map fun j=>.bool (f j)
theorem rowC_len (n:Nat) (f:Nat→Bool):(rowC n f).length=n:=by simp [rowC]
theorem rowC_get {n:Nat} {f:Nat→Bool} {j:Nat} (h:j<n):(rowC n f)[j]?=some (.bool (f j)):=by simp [rowC,h]
theorem rowC_congr {n:Nat} {f g:Nat→Bool} (h:∀ j,j<n→f j=g j):rowC n f=rowC n g:=by
  unfold rowC; apply List.map_congr_left; intro j hj; rw [h j (by simpa using hj)]
theorem rowC_false (n:Nat):List.replicate n (Value.bool false)=rowC n fun _=>false:=by
  apply List.ext_getElem?; intro i; simp [rowC]
  by_cases h:i<n
  · rw [List.getElem?_replicate_of_lt h]; simp [h]
  · simp [h]
theorem rowC_set {n:Nat} {f g:Nat→Bool} {j:Nat} {v:Bool} (h:∀ i,i<n→g i=if i=j then v else f i):(rowC n f).toArray.setIfInBounds j (.bool v)=(rowC n g).toArray:=by
  apply Array.ext'
  simp only [Array.toList_setIfInBounds]
  apply List.ext_getElem?
  intro i
  rw [List.getElem?_set]
  by_cases hi:i<n
  · rw [rowC_get hi,rowC_get hi,h i hi]
    by_cases hj:j=i
    · subst hj; simp [rowC_len,hi]
    · simp [hj,Ne.symm hj]
  · have h1:(rowC n f)[i]?=none:=by simp [rowC]; omega
    have h2:(rowC n g)[i]?=none:=by simp [rowC]; omega
    rw [h1,h2]
    by_cases hj:j=i
    · subst hj; simp [rowC_len,hi]
    · simp [hj]
theorem row_own {b:Nat} {cs:List Value} {e:TypeId} (h:[(b,Obj.cells cs.toArray e (0,0))]∈η):Row S w0 η (some ⟨b,0,none⟩) cs :=
  ⟨fun _=>⟨_,rfl,rfl⟩,fun i v hi=>.own _ h cs.toArray e (0,0) (by simp [sAt]) (by simpa [sAt] using hi) (by simp [sAt])⟩
theorem own_mem {b:Nat} {cs:Array Value} {e:TypeId} {fz:Nat × Nat} {off:Nat} {v:Value} (h:[(b,Obj.cells cs e fz)]∈η) (hc:cs[off]?=some v):At S w0 η ⟨b,off,none⟩ v:=.own _ h cs e fz (by simp) hc rfl
def intC (n:Nat) (f:Nat→Int):List Value:=(List.range n).map fun j=>.int .i64 (f j)
theorem intC_len (n:Nat) (f:Nat→Int):(intC n f).length=n:=by simp [intC]
theorem intC_get {n:Nat} {f:Nat→Int} {j:Nat} (h:j<n):(intC n f)[j]?=some (.int .i64 (f j)):=by simp [intC,h]
theorem intC_congr {n:Nat} {f g:Nat→Int} (h:∀ j,j<n→f j=g j):intC n f=intC n g:=by
  unfold intC; apply List.map_congr_left; intro j hj; rw [h j (by simpa using hj)]
theorem intC_zero (n:Nat):List.replicate n (Value.int .i64 0)=intC n fun _=>0:=by
  apply List.ext_getElem?; intro i; simp only [intC,List.getElem?_map]
  by_cases h:i<n
  · rw [List.getElem?_replicate_of_lt h]; simp [h]
  · simp [h]
theorem intC_set {n:Nat} {f g:Nat→Int} {j:Nat} {v:Int} (h:∀ i,i<n→g i=if i=j then v else f i):(intC n f).toArray.setIfInBounds j (.int .i64 v)=(intC n g).toArray:=by
  apply Array.ext'
  simp only [Array.toList_setIfInBounds]
  apply List.ext_getElem?
  intro i
  rw [List.getElem?_set]
  by_cases hi:i<n
  · rw [intC_get hi,intC_get hi,h i hi]
    by_cases hj:j=i
    · subst hj; simp [intC_len,hi]
    · simp [hj,Ne.symm hj]
  · have h1:(intC n f)[i]?=none:=by simp [intC]; omega
    have h2:(intC n g)[i]?=none:=by simp [intC]; omega
    rw [h1,h2]
    by_cases hj:j=i
    · subst hj; simp [intC_len,hi]
    · simp [hj]
/-- An owned list of n numbers. -/
abbrev iseg (b n:Nat) (f:Nat→Int):Seg:=[(b,.cells (intC n f).toArray 3 (0,0))]
theorem iseg_at {b n j:Nat} {f:Nat→Int} (h:iseg b n f∈η) (hj:j<n):At S w0 η (sAt (some ⟨b,0,none⟩) (j*1)) (.int .i64 (f j)):=by
  rw [Nat.mul_one]; exact (row_own h).cell j _ (intC_get hj)
theorem iseg_set {b n j k:Nat} {f g:Nat→Int} {v:Int} {r:Heap} (hk:k=j) (h:∀ i,i<n→g i=if i=j then v else f i):[(b,Obj.cells ((intC n f).toArray.setIfInBounds k (.int .i64 v)) 3 (0,0))]::r=iseg b n g::r:=by
  subst hk; rw [intC_set h]
theorem iseg_congr {b n:Nat} {f g:Nat→Int} {r:Heap} (h:∀ i,i<n→f i=g i):iseg b n f::r=iseg b n g::r:=by rw [iseg,iseg,intC_congr h]
theorem hp_at {A:Heap} {s:Seg} {r:Heap} {i:Nat} (h:i=A.length):(A++s::r)[i]?=some s:=by
  subst h; rw [List.getElem?_append_right (Nat.le_refl _)]; simp
theorem hp_set {A:Heap} {s s':Seg} {r:Heap} {i:Nat} (h:i=A.length):(A++s::r).set i s'=A++s'::r:=by
  subst h; rw [List.set_append_right _ _ (Nat.le_refl _)]; simp
theorem ints1 (xs:List Int):∀ v∈ints xs,v.oneCell'=true:=by intro v hv; obtain ⟨b,_,rfl⟩:=List.mem_map.1 hv; rfl
theorem intC_ints (n:Nat) (f:Nat→Int):intC n f=ints ((List.range n).map f):=by simp [intC,ints,Function.comp_def]
theorem rowC1 (N:Nat) (G:Nat→Bool):∀ v∈rowC N G,v.oneCell'=true:=by intro v hv; obtain ⟨b,_,rfl⟩:=List.mem_map.1 hv; rfl
theorem intC1 (N:Nat) (G:Nat→Int):∀ v∈intC N G,v.oneCell'=true:=by intro v hv; obtain ⟨b,_,rfl⟩:=List.mem_map.1 hv; rfl
theorem _root_.Go.Sl.Row.bit {a:Option Addr} {n:Nat} {g:Nat→Bool} (h:Row S w0 η a (rowC n g)) {j:Nat} (hj:j<n):At S w0 η (sAt a (j*1)) (.bool (g j)):=by rw [Nat.mul_one]; exact h.cell j _ (rowC_get hj)
theorem _root_.Go.Sl.Row.bad {a:Option Addr} {n:Nat} {g:Nat→Bool} (h:Row S w0 η a (rowC n g)) {j:Nat} (hj:j<n):∃ ad,a=some ad∧ad.spot=none:=h.adi (i:=j) (by rw [rowC_len]; exact hj)
theorem _root_.Go.Sl.Row.none:Row S w0 η none []:=⟨fun h=>by simp at h,fun i v h=>by simp at h⟩
/-- An owned list of n truths. -/
abbrev bseg (b n:Nat) (f:Nat→Bool):Seg:=[(b,.cells (rowC n f).toArray 4 (0,0))]
theorem bseg_at {b n j:Nat} {f:Nat→Bool} (h:bseg b n f∈η) (hj:j<n):At S w0 η (sAt (some ⟨b,0,none⟩) (j*1)) (.bool (f j)):=by
  rw [Nat.mul_one]; exact (row_own h).cell j _ (rowC_get hj)
theorem bseg_set {b n j k:Nat} {f g:Nat→Bool} {v:Bool} {r:Heap} (hk:k=j) (h:∀ i,i<n→g i=if i=j then v else f i):[(b,Obj.cells ((rowC n f).toArray.setIfInBounds k (.bool v)) 4 (0,0))]::r=bseg b n g::r:=by
  subst hk; rw [rowC_set h]
theorem bseg_congr {b n:Nat} {f g:Nat→Bool} {r:Heap} (h:∀ i,i<n→f i=g i):bseg b n f::r=bseg b n g::r:=by rw [bseg,bseg,rowC_congr h]
/-- A list of k cells, made at once, is an owned list. -/
theorem osl_fresh {e:TypeId} {sz n b:Nat} {xs:List Value} (h:xs.length=n*sz):OSl e sz (.slice (some ⟨b,0,none⟩) n n) n xs [(b,.cells xs.toArray e (0,0))] :=
  ⟨h,.inr ⟨b,n,xs.toArray,rfl,rfl,Nat.le_refl _,by simp [h],by simp [← h]⟩⟩
/-! Lists of structs. -/
theorem sAt_add (a:Option Addr) (k i:Nat):(⟨(sAt a k).block,(sAt a k).off+i,none⟩:Addr)=sAt a (k+i):=by simp [sAt,Nat.add_assoc]
theorem _root_.Go.Sl.Row.tab {α:Type} {k:Nat} {f:α→List Value} (hf:∀ x,(f x).length=k) {a:Option Addr} {l:List α} (h:Row S w0 η a (l.flatMap f)) {i:Nat} (hi:i<l.length) (j:Nat) {v:Value} (hj:(f l[i])[j]?=some v):At S w0 η (sAt a (i*k+j)) v :=
  h.cell _ _ (by
    have hj4:j<k:=by have:=(List.getElem?_eq_some_iff.1 hj).1; rw [hf] at this; exact this
    rw [flat_get k f hf l i j hj4,List.getElem?_eq_getElem hi]; exact hj)
theorem _root_.Go.Sl.Row.tabA {α:Type} {k:Nat} {f:α→List Value} (hf:∀ x,(f x).length=k) {a:Option Addr} {l:List α} (h:Row S w0 η a (l.flatMap f)) {i:Nat} (hi:i<l.length):∀ j v,(f l[i])[j]?=some v→At S w0 η ⟨(sAt a (i*k)).block,(sAt a (i*k)).off+j,none⟩ v:=fun j v hj=>by
  rw [sAt_add]; exact h.tab hf hi j hj
theorem _root_.Go.Sl.Row.tad {α:Type} {k:Nat} {f:α→List Value} (hf:∀ x,(f x).length=k) (hk:0<k) {a:Option Addr} {l:List α} (h:Row S w0 η a (l.flatMap f)) {i:Nat} (hi:i<l.length):∃ ad,a=some ad∧ad.spot=none:=h.ad (by
  cases l with
  | nil=>simp at hi
  | cons r rs=>simp only [List.flatMap_cons,List.length_append,hf]; omega)
/-! Lists of lists. -/
def Lists (S:Nat→Prop) (w0:World) (η:Heap) (a:Option Addr) (ls:List (List Int)):Prop :=
  ∃ ps:List (Option Addr × Nat),ps.length=ls.length∧Row S w0 η a (List.zipWith (fun (p:Option Addr × Nat) (l:List Int)=>Value.slice p.1 l.length p.2) ps ls)∧∀ i (h1:i<ps.length) (h2:i<ls.length),Row S w0 η ps[i].1 (ints ls[i])
theorem Lists.item {a:Option Addr} {ls:List (List Int)} (h:Lists S w0 η a ls):∃ f:Nat→Option Addr × Nat,(∀ i (hi:i<ls.length),At S w0 η (sAt a (i*1)) (.slice (f i).1 ls[i].length (f i).2)∧Row S w0 η (f i).1 (ints ls[i]))∧(∀ i,i<ls.length→∃ ad,a=some ad∧ad.spot=none):=by
  obtain ⟨ps,hl,hr,hi⟩:=h
  refine ⟨fun i=>ps.getD i (none,0),fun i h1=>?_,fun i h1=>hr.adi (i:=i) (by simp; omega)⟩
  have h2:i<ps.length:=by omega
  refine ⟨?_,?_⟩
  · rw [Nat.mul_one]; exact hr.cell i _ (by simp [List.getElem?_zipWith,List.getD_eq_getElem?_getD,h1,h2])
  · have:=hi i h2 h1; simpa [List.getD_eq_getElem?_getD,h2] using this
theorem Lists.none:Lists S w0 η none []:=⟨[],rfl,⟨fun h=>by simp at h,fun i v h=>by simp at h⟩,fun i h=>by simp at h⟩
theorem Lists.up {η':Heap} {a:Option Addr} {ls:List (List Int)} (h:Lists S w0 η a ls) (hs:∀ x∈η,x∈η'):Lists S w0 η' a ls:=by
  obtain ⟨ps,h1,h2,h3⟩:=h
  exact ⟨ps,h1,h2.up hs,fun i a b=>(h3 i a b).up hs⟩
theorem Lists.frz {S':Nat→Prop} {w1:World} {ηr:Heap} {a:Option Addr} {ls:List (List Int)} (h:Lists S w0 ηr a ls) (hz:Frz S S' w0 w1 ηr):Lists S' w1 [] a ls:=by
  obtain ⟨ps,h1,h2,h3⟩:=h
  exact ⟨ps,h1,h2.frz hz,fun i a b=>(h3 i a b).frz hz⟩
theorem Lists.old {S':Nat→Prop} {w1:World} {ηr:Heap} {a:Option Addr} {ls:List (List Int)} (h:Lists S w0 [] a ls) (hz:Frz S S' w0 w1 ηr):Lists S' w1 [] a ls:=by
  obtain ⟨ps,h1,h2,h3⟩:=h
  exact ⟨ps,h1,h2.old hz,fun i a b=>(h3 i a b).old hz⟩
/-- An owned list of owned lists: the outer block, and each inner list with its block. -/
structure OLs (e:TypeId) (v:Value) (outs:List (Value × List Int × Seg)) (og:Seg):Prop where
  o:OSl e 1 v outs.length (outs.map (·.1)) og
  i:∀ t∈outs,OSl 3 1 t.1 t.2.1.length (ints t.2.1) t.2.2
theorem OLs.lists {e:TypeId} {a:Option Addr} {c:Nat} {outs:List (Value × List Int × Seg)} {og:Seg} (h:OLs e (.slice a outs.length c) outs og) {η:Heap} (h1:og∈η) (h2:∀ t∈outs,t.2.2∈η):Lists S w0 η a (outs.map (·.2.1)):=by
  refine ⟨outs.map fun t=>match t.1 with | .slice a _ c=>(a,c) | _=>(Option.none,0),by simp,?_,?_⟩
  · have hr:Row S w0 η a (outs.map (·.1)):=h.o.row h1
    have e:List.zipWith (fun (p:Option Addr × Nat) (l:List Int)=>Value.slice p.1 l.length p.2) (outs.map fun t=>match t.1 with | .slice a _ c=>(a,c) | _=>(Option.none,0)) (outs.map (·.2.1))=outs.map (·.1):=by
      rw [List.zipWith_map,List.zipWith_self]
      apply List.map_congr_left
      intro t ht
      obtain ⟨a,cap,hv⟩:=(h.i t ht).form
      simp [hv]
    rw [e]; exact hr
  · intro i h3 h4
    have hi:i<outs.length:=by simpa using h3
    have ho:=h.i outs[i] (List.getElem_mem hi)
    obtain ⟨a,cap,hv⟩:=ho.form
    simp only [List.getElem_map,hv]
    rw [hv] at ho
    exact ho.row (h2 _ (List.getElem_mem hi))
/-- A function, turned at one place. -/
def upd {α:Type} (f:Nat→α) (j:Nat) (v:α) (i:Nat):α:=if i=j then v else f i
theorem upd_same {α:Type} (f:Nat→α) (j:Nat) (v:α):upd f j v j=v:=by simp [upd]
theorem upd_ne {α:Type} (f:Nat→α) {j i:Nat} (v:α) (h:i≠j):upd f j v i=f i:=by simp [upd,h]
/-! Owned lists of numbers that are written in place. -/
abbrev cseg (b:Nat) (cur:Array Value):Seg:=[(b,.cells cur 3 (0,0))]
def OIs (b c n:Nat) (f:Nat→Int) (cur:Array Value):Prop:=OSl 3 1 (.slice (some ⟨b,0,none⟩) n c) n (intC n f) (cseg b cur)
theorem OIs.of {a:Option Addr} {c n:Nat} {f:Nat→Int} {seg:Seg} (h:OSl 3 1 (.slice a n c) n (intC n f) seg) (hn:0<n):∃ b cur,a=some ⟨b,0,none⟩∧seg=cseg b cur∧OIs b c n f cur:=by
  obtain ⟨g,cap,cur,hv,rfl,_⟩:=h.ex hn
  cases hv
  exact ⟨g,cur,rfl,rfl,h⟩
theorem OIs.at {b c n j:Nat} {f:Nat→Int} {cur:Array Value} (h:OIs b c n f cur) (hm:cseg b cur∈η) (hj:j<n):At S w0 η (sAt (some ⟨b,0,none⟩) (j*1)) (.int .i64 (f j)):=by
  rw [Nat.mul_one]; exact (OSl.row h hm).cell j _ (intC_get hj)
theorem OIs.size {b c n:Nat} {f:Nat→Int} {cur:Array Value} (h:OIs b c n f cur):n≤cur.size:=by
  rcases h.2 with ⟨h0,_⟩ | ⟨g,cap,cur',hv,hs,hc,hz,_⟩
  · cases h0
  · simp only [cseg,List.cons.injEq,Prod.mk.injEq,Obj.cells.injEq,and_true] at hs
    obtain ⟨_,rfl⟩:=hs
    omega
theorem intC_upd {n j:Nat} {f:Nat→Int} {v:Int}:(intC n f).set j (.int .i64 v)=intC n (upd f j v):=by
  apply List.ext_getElem?
  intro i
  rw [List.getElem?_set]
  by_cases hi:i<n
  · rw [intC_get hi,intC_get hi,intC_len]
    unfold upd
    by_cases hj:j=i
    · subst hj; simp [hi]
    · rw [if_neg hj,if_neg (fun e=>hj e.symm)]
  · have h1:(intC n f)[i]?=Option.none:=by simp [intC]; omega
    have h2:(intC n (upd f j v))[i]?=Option.none:=by simp [intC]; omega
    rw [h1,h2,intC_len]
    by_cases hj:j=i
    · subst hj; simp [hi]
    · rw [if_neg hj]
theorem OIs.put {b c n:Nat} {f:Nat→Int} {cur:Array Value} (h:OIs b c n f cur) (j:Nat) (v:Int):OIs b c n (upd f j v) (cur.setIfInBounds j (.int .i64 v)):=by
  have:=OSl.put (j:=j) (u:=.int .i64 v) h
  rw [intC_upd] at this; exact this
theorem OIs.congr {b c n:Nat} {f g:Nat→Int} {cur:Array Value} (h:OIs b c n f cur) (he:∀ i,i<n→f i=g i):OIs b c n g cur:=by
  unfold OIs at h ⊢; rw [← intC_congr he]; exact h
theorem OIs.row {b c n:Nat} {f:Nat→Int} {cur:Array Value} (h:OIs b c n f cur) (hm:cseg b cur∈η):Row S w0 η (some ⟨b,0,Option.none⟩) (intC n f):=OSl.row h hm
theorem OIs.fresh {b n:Nat} {f:Nat→Int}:OIs b n n f (intC n f).toArray:=osl_fresh (by simp [intC_len])
end Go.Proofs.YtbajelldegijkaaDoor
/- Chapter 25: rows, windows, what they make; streams; queues. -/
namespace Go.Proofs.YtbajelldegijkaaDoor
structure Rw where
  time:Int
  key:Int
  word:Int
deriving DecidableEq,Inhabited
structure Wsp where
  kind:Int
  size:Int
  step:Int
  late:Int
  fold:Int
deriving DecidableEq
structure Ot where
  fr:Int
  to:Int
  key:Int
  word:Int
deriving DecidableEq,Inhabited

/-! Words -/
def wrap32 (n:Int):Int:=(n+2147483648) % 4294967296 - 2147483648
def isW (n:Int):Bool:=decide (-2147483648≤n) && decide (n≤2147483647)
def noneF (f:Int):Int:=if f=2 then 2147483647 else if f=3 then -2147483648 else 0
def oneF (f w:Int):Int:=if f=0 then 1 else w
def twoF (f a b:Int):Int:=if f=2 then min a b else if f=3 then max a b else wrap32 (a+b)
def foldS (f:Int) (l:List Int):Int:=l.foldl (fun a w=>twoF f a (oneF f w)) (noneF f)

/-! What is asked -/
def okS (s:Wsp):Bool:=(decide (s.kind=0) && decide (1≤s.step) && decide (s.step≤s.size) || decide (s.kind=1)) && decide (1≤s.size) && decide (s.size≤1000) && decide (0≤s.late) && decide (s.late≤1000) && decide (0≤s.fold) && decide (s.fold≤3)
def okT (t:Int):Bool:=decide (0≤t) && decide (t≤1048576)
def okR (r:Rw):Bool:=okT r.time && decide (0≤r.key) && decide (r.key≤999) && isW r.word
def checkS (s:Wsp):Int:=if okS s then 0 else 1
def askedS (s:Wsp) (l:List Rw):Int:=if okS s then (if 300<l.length then 3 else if l.all okR then 0 else 2) else 1

/-! Windows -/
/-- Which multiple of the step is the first one whose window has the time. -/
def firstS (s:Wsp) (t:Int):Int:=if s.size≤t then (t - s.size) / s.step+1 else 0
def countS (s:Wsp) (t:Int):Nat:=(t / s.step - firstS s t+1).toNat
def spansS (s:Wsp) (t:Int):List (Int × Int):=(List.range (countS s t)).map fun (i:Nat)=>((firstS s t+i)*s.step,(firstS s t+i)*s.step+s.size)
def widen (s:Wsp) (key:Int) (lh:Int × Int) (r:Rw):Int × Int:=if r.key=key∧lh.1 - s.size<r.time∧r.time<lh.2+s.size then (min lh.1 r.time,max lh.2 r.time) else lh
def passS (s:Wsp) (key:Int) (l:List Rw) (lh:Int × Int):Int × Int:=l.foldl (widen s key) lh
def passes (s:Wsp) (key:Int) (l:List Rw):Nat→Int × Int→Int × Int
  | 0,lh=>lh
  | n+1,lh=>passes s key l n (passS s key l lh)
def sessS (s:Wsp) (l:List Rw) (r:Rw):Int × Int:=((passes s r.key l l.length (r.time,r.time)).1,(passes s r.key l l.length (r.time,r.time)).2+s.size)
def winsS (s:Wsp) (l:List Rw) (r:Rw):List (Int × Int):=if s.kind=0 then spansS s r.time else [sessS s l r]
def inW (key:Int) (w:Int × Int) (r:Rw):Bool:=decide (r.key=key) && decide (w.1≤r.time) && decide (r.time≤w.2 - 1)
def wordS (f:Int) (l:List Rw) (w:Int × Int) (key:Int):Int:=foldS f ((l.filter (inW key w)).map (·.word))
def outS (s:Wsp) (l:List Rw) (key:Int) (w:Int × Int):Ot:=⟨w.1,w.2,key,wordS s.fold l w key⟩
def oLt (x y:Ot):Bool:=decide (x.fr<y.fr) || (decide (x.fr=y.fr) && decide (x.key<y.key))
def putS (x:Ot):List Ot→List Ot
  | []=>[x]
  | y::r=>if y=x then y::r else if oLt x y then x::y::r else y::putS x r
def outsOf (s:Wsp) (l:List Rw) (r:Rw):List Ot:=(winsS s l r).map (outS s l r.key)
def allS (s:Wsp) (l:List Rw):List Ot:=(l.flatMap (outsOf s l)).foldl (fun o x=>putS x o) []
def wholeS (s:Wsp) (l:List Rw):List Ot × Int:=if askedS s l=0 then (allS s l,0) else ([],askedS s l)
def windowsS (s:Wsp) (t:Int):List (Int × Int) × Int:=if okS s then (if okT t then (if s.kind=0 then (spansS s t,0) else ([],4)) else ([],2)) else ([],1)

/-! Streams -/
def tLt (x y:Ot):Bool:=decide (x.to<y.to) || (decide (x.to=y.to) && oLt x y)
def insT (x:Ot):List Ot→List Ot
  | []=>[x]
  | y::r=>if tLt x y then x::y::r else y::insT x r
def isOver (before mark:Int) (x:Ot):Bool:=decide (before<x.to) && decide (x.to≤mark)
def overS (l:List Ot) (before mark:Int):List Ot:=(l.filter (isOver before mark)).foldl (fun o x=>insT x o) []
structure Stp where
  late:Bool
  outs:List Ot
deriving DecidableEq
/-- What rows lead to: the steps, the rows that did not come too late, and the mark. -/
def stepS (s:Wsp) (st:List Stp × List Rw × Int) (r:Rw):List Stp × List Rw × Int :=
  if r.time<st.2.2 then (st.1++[⟨true,[]⟩],st.2.1,st.2.2)
  else (st.1++[⟨false,overS (allS s (st.2.1++[r])) st.2.2 (max st.2.2 (r.time - s.late))⟩],st.2.1++[r],max st.2.2 (r.time - s.late))
def runS (s:Wsp) (l:List Rw):List Stp × List Rw × Int:=l.foldl (stepS s) ([],[],0)
def leftS (s:Wsp) (l:List Rw):List Ot:=(allS s (runS s l).2.1).filter fun x=>decide ((runS s l).2.2<x.to)
def playS (s:Wsp) (l:List Rw):List Stp × List Ot × Int:=if askedS s l=0 then ((runS s l).1,leftS s l,0) else ([],[],askedS s l)

/-! Queues -/
def okOp (n:Int):Bool:=isW n || decide (n = -2147483649)
def queS (q:List Int) (n:Int):List Int:=if n = -2147483649 then q.drop 1 else q++[n]
def queWords (f:Int):List Int→List Int→List Int
  | _,[]=>[]
  | q,n::r=>foldS f (queS q n)::queWords f (queS q n) r
def queueS (f:Int) (ops:List Int):List Int × Int:=if 0≤f∧f≤3 then (if 300<ops.length then ([],3) else if ops.all okOp then (queWords f [] ops,0) else ([],2)) else ([],1)
end Go.Proofs.YtbajelldegijkaaDoor
/- What folds make of words: in any order the same. -/
namespace Go.Proofs.YtbajelldegijkaaDoor
def Wd (n:Int):Prop:=-2147483648≤n∧n≤2147483647
theorem isW_iff {n:Int}:isW n=true↔Wd n:=by unfold isW Wd; simp
theorem wd_wrap (n:Int):Wd (wrap32 n):=by unfold wrap32 Wd; omega
theorem wrap_wd {n:Int} (h:Wd n):wrap32 n=n:=by unfold Wd at h; unfold wrap32; omega
theorem wrap_add (a b:Int):wrap32 (wrap32 a+b)=wrap32 (a+b):=by unfold wrap32; omega
theorem wrap_add' (a b:Int):wrap32 (a+wrap32 b)=wrap32 (a+b):=by unfold wrap32; omega
theorem wd_none (f:Int):Wd (noneF f):=by unfold noneF Wd; split <;> (try split) <;> omega
theorem wd_one {f w:Int} (h:Wd w):Wd (oneF f w):=by 
  unfold oneF
  split
  · unfold Wd; omega
  · exact h
theorem wd_two {f a b:Int} (ha:Wd a) (hb:Wd b):Wd (twoF f a b):=by
  unfold twoF
  split
  · unfold Wd at *; omega
  · split
    · unfold Wd at *; omega
    · exact wd_wrap _
theorem two_comm (f a b:Int):twoF f a b=twoF f b a:=by
  unfold twoF
  split
  · omega
  · split
    · omega
    · rw [Int.add_comm]
theorem two_assoc (f a b c:Int):twoF f (twoF f a b) c=twoF f a (twoF f b c):=by
  unfold twoF
  split
  · omega
  · split
    · omega
    · rw [wrap_add,wrap_add',Int.add_assoc]
theorem two_none {f a:Int} (h:Wd a):twoF f (noneF f) a=a:=by
  unfold twoF noneF
  unfold Wd at h
  split
  · omega
  · split
    · omega
    · rw [Int.zero_add]; exact wrap_wd h
theorem two_none' {f a:Int} (h:Wd a):twoF f a (noneF f)=a:=by rw [two_comm,two_none h]
theorem fold_go {f:Int}:∀ {l:List Int} {a:Int},Wd a→(∀ w∈l,Wd w)→l.foldl (fun a w=>twoF f a (oneF f w)) a=twoF f a (foldS f l)
  | [],a,ha,_=>by rw [show foldS f []=noneF f from rfl,two_none' ha]; rfl
  | w::r,a,ha,h=>by
    have hw:=wd_one (f:=f) (h w (by simp))
    have hr:=fun x hx=>h x (List.mem_cons_of_mem w hx)
    have e:foldS f (w::r)=twoF f (twoF f (noneF f) (oneF f w)) (foldS f r):=by
      show r.foldl _ (twoF f (noneF f) (oneF f w))=_
      exact fold_go (wd_two (wd_none f) hw) hr
    rw [List.foldl_cons,fold_go (wd_two ha hw) hr,e,two_none hw,two_assoc]
theorem fold_cons {f w:Int} {l:List Int} (hw:Wd w) (h:∀ w∈l,Wd w):foldS f (w::l)=twoF f (oneF f w) (foldS f l):=by
  show l.foldl _ (twoF f (noneF f) (oneF f w))=_
  rw [two_none (wd_one hw),fold_go (wd_one hw) h]
theorem wd_fold {f:Int}:∀ {l:List Int},(∀ w∈l,Wd w)→Wd (foldS f l)
  | [],_=>wd_none f
  | w::r,h=>by
    rw [fold_cons (h w (by simp)) (fun x hx=>h x (List.mem_cons_of_mem w hx))]
    exact wd_two (wd_one (h w (by simp))) (wd_fold fun x hx=>h x (List.mem_cons_of_mem w hx))
theorem fold_app {f:Int} {l m:List Int} (hl:∀ w∈l,Wd w) (hm:∀ w∈m,Wd w):foldS f (l++m)=twoF f (foldS f l) (foldS f m):=by
  show (l++m).foldl _ _=_
  rw [List.foldl_append]
  exact fold_go (wd_fold hl) hm
theorem fold_one {f w:Int} (hw:Wd w):foldS f [w]=oneF f w:=by
  rw [fold_cons hw (by simp),show foldS f []=noneF f from rfl,two_none' (wd_one hw)]
theorem fold_snoc {f w:Int} {l:List Int} (hl:∀ w∈l,Wd w) (hw:Wd w):foldS f (l++[w])=twoF f (foldS f l) (oneF f w):=by
  rw [fold_app hl (by simpa using hw),fold_one hw]
theorem fold_perm {f:Int} {l m:List Int} (h:l.Perm m):(∀ w∈l,Wd w)→foldS f l=foldS f m:=by
  induction h with
  | nil=>intro _; rfl
  | cons x h ih =>
    intro hl
    have h1:∀ w∈_,Wd w:=fun w hw=>hl w (List.mem_cons_of_mem _ hw)
    rw [fold_cons (hl _ (by simp)) h1,fold_cons (hl _ (by simp)) (fun w hw=>h1 w (h.mem_iff.2 hw)),ih h1]
  | swap x y l =>
    intro hl
    have hx:Wd x:=hl x (by simp)
    have hy:Wd y:=hl y (by simp)
    have h1:∀ w∈l,Wd w:=fun w hw=>hl w (by simp [hw])
    rw [fold_cons hy (by simpa using ⟨hx,h1⟩),fold_cons hx h1,fold_cons hx (by simpa using ⟨hy,h1⟩),fold_cons hy h1,← two_assoc,← two_assoc,two_comm f (oneF f y)]
  | trans h1 h2 ih1 ih2 =>
    intro hl
    rw [ih1 hl,ih2 fun w hw=>hl w (h1.mem_iff.2 hw)]
theorem fold_count:∀ {l:List Int},l.length<2147483648→foldS 0 l=l.length:=by
  intro l
  have key:∀ (l:List Int) (a:Int),0≤a→a+l.length<2147483648→l.foldl (fun a w=>twoF 0 a (oneF 0 w)) a=a+l.length:=by
    intro l
    induction l with
    | nil=>intro a _ _; simp
    | cons x r ih =>
      intro a h0 h1
      simp only [List.length_cons] at h1
      have e:twoF 0 a (oneF 0 x)=a+1:=by
        unfold twoF oneF; simp; exact wrap_wd (by unfold Wd; omega)
      rw [List.foldl_cons,e,ih (a+1) (by omega) (by omega),List.length_cons]
      omega
  intro h
  show l.foldl _ (noneF 0)=_
  rw [show noneF 0=0 from rfl,key l 0 (by omega) (by omega)]; omega
end Go.Proofs.YtbajelldegijkaaDoor
/- Sessions: the least closed spans of times. -/
namespace Go.Proofs.YtbajelldegijkaaDoor
section
variable (s:Wsp) (key:Int) (l:List Rw)
/-- No row of the key lies close beside it. -/
def Closed (lh:Int × Int):Prop:=∀ r∈l,r.key=key→lh.1 - s.size<r.time→r.time<lh.2+s.size→lh.1≤r.time∧r.time≤lh.2
def Within (a b:Int × Int):Prop:=b.1≤a.1∧a.2≤b.2
end
section
variable {s:Wsp} {key:Int} {l:List Rw}
theorem Within.refl (a:Int × Int):Within a a:=⟨Int.le_refl _,Int.le_refl _⟩
theorem Within.trans {a b c:Int × Int} (h:Within a b) (g:Within b c):Within a c:=by unfold Within at *; omega
theorem within_eq {a b:Int × Int} (h:Within a b) (g:Within b a):a=b:=by
  obtain ⟨a1,a2⟩:=a; obtain ⟨b1,b2⟩:=b
  simp only [Within,Prod.mk.injEq] at *; omega
theorem widen_up (lh:Int × Int) (r:Rw):Within lh (widen s key lh r):=by
  unfold widen Within; split
  · simp only; omega
  · omega
theorem pass_up:∀ (l:List Rw) (lh:Int × Int),Within lh (passS s key l lh)
  | [],lh=>Within.refl lh
  | r::t,lh=>(widen_up lh r).trans (pass_up t _)
theorem passes_up:∀ (n:Nat) (lh:Int × Int),Within lh (passes s key l n lh)
  | 0,lh=>Within.refl lh
  | n+1,lh=>(pass_up l lh).trans (passes_up n _)
/-- What is closed holds what is widened. -/
theorem widen_in {c:Int × Int} (hc:Closed s key l c) {lh:Int × Int} (h:Within lh c) {r:Rw} (hr:r∈l):Within (widen s key lh r) c:=by
  unfold widen
  split
  · rename_i g
    have:=hc r hr g.1 (by unfold Within at h; omega) (by unfold Within at h; omega)
    unfold Within at *; simp only; omega
  · exact h
theorem pass_in {c:Int × Int} (hc:Closed s key l c):∀ (m:List Rw) (lh:Int × Int),(∀ r∈m,r∈l)→Within lh c→Within (passS s key m lh) c
  | [],lh,_,h=>h
  | r::t,lh,hm,h=>pass_in hc t _ (fun x hx=>hm x (List.mem_cons_of_mem r hx)) (widen_in hc h (hm r (by simp)))
theorem passes_in {c:Int × Int} (hc:Closed s key l c):∀ (n:Nat) (lh:Int × Int),Within lh c→Within (passes s key l n lh) c
  | 0,_lh,h=>h
  | n+1,lh,h=>passes_in hc n _ (pass_in hc l lh (fun _ h=>h) h)
/-- A pass that changes nothing says that it is closed. -/
theorem widen_same {lh:Int × Int} {r:Rw} (h:widen s key lh r=lh):r.key=key→lh.1 - s.size<r.time→r.time<lh.2+s.size→lh.1≤r.time∧r.time≤lh.2:=by
  intro h1 h2 h3
  unfold widen at h
  rw [if_pos ⟨h1,h2,h3⟩] at h
  have e1:=congrArg Prod.fst h
  have e2:=congrArg Prod.snd h
  simp only at e1 e2
  omega
theorem pass_same:∀ (m:List Rw) (lh:Int × Int),passS s key m lh=lh→Closed s key m lh
  | [],lh,_=>fun r hr=>by simp at hr
  | r::t,lh,h=>by
    have h1:=widen_up (s:=s) (key:=key) lh r
    have h2:=pass_up (s:=s) (key:=key) t (widen s key lh r)
    have h3:passS s key t (widen s key lh r)=lh:=h
    rw [h3] at h2
    have h4:widen s key lh r=lh:=within_eq h2 h1
    rw [h4] at h3
    intro x hx
    rcases List.mem_cons.1 hx with rfl | hx
    · exact widen_same h4
    · exact pass_same t lh h3 x hx
/-- The ends are times of rows, or what they were. -/
def Ends (key:Int) (l:List Rw) (a b:Int) (lh:Int × Int):Prop:=(lh.1=a∨∃ r∈l,r.key=key∧r.time=lh.1)∧(lh.2=b∨∃ r∈l,r.key=key∧r.time=lh.2)
theorem widen_ends {a b:Int} {lh:Int × Int} (h:Ends key l a b lh) {r:Rw} (hr:r∈l):Ends key l a b (widen s key lh r):=by
  unfold widen
  split
  · rename_i g
    obtain ⟨h1,h2⟩:=h
    refine ⟨?_,?_⟩
    · show min lh.1 r.time=a∨∃ x∈l,x.key=key∧x.time=min lh.1 r.time
      rcases Int.le_total lh.1 r.time with q | q
      · rw [Int.min_eq_left q]; exact h1
      · rw [Int.min_eq_right q]; exact .inr ⟨r,hr,g.1,rfl⟩
    · show max lh.2 r.time=b∨∃ x∈l,x.key=key∧x.time=max lh.2 r.time
      rcases Int.le_total lh.2 r.time with q | q
      · rw [Int.max_eq_right q]; exact .inr ⟨r,hr,g.1,rfl⟩
      · rw [Int.max_eq_left q]; exact h2
  · exact h
theorem pass_ends {a b:Int}:∀ (m:List Rw) (lh:Int × Int),(∀ r∈m,r∈l)→Ends key l a b lh→Ends key l a b (passS s key m lh)
  | [],lh,_,h=>h
  | r::t,lh,hm,h=>pass_ends t _ (fun x hx=>hm x (List.mem_cons_of_mem r hx)) (widen_ends h (hm r (by simp)))
theorem passes_ends {a b:Int}:∀ (n:Nat) (lh:Int × Int),Ends key l a b lh→Ends key l a b (passes s key l n lh)
  | 0,_lh,h=>h
  | n+1,lh,h=>passes_ends n _ (pass_ends l lh (fun _ h=>h) h)
/-- How many rows it holds. -/
def cnt (key:Int) (l:List Rw) (lh:Int × Int):Nat:=l.countP fun r=>decide (r.key=key) && decide (lh.1≤r.time) && decide (r.time≤lh.2)
theorem countP_lt {α:Type} {p q:α→Bool}:∀ {l:List α} {x:α},(∀ y∈l,p y=true→q y=true)→x∈l→p x=false→q x=true→l.countP p<l.countP q
  | y::r,x,h,hx,hp,hq=>by
    have hr:=fun z hz=>h z (List.mem_cons_of_mem y hz)
    rw [List.countP_cons,List.countP_cons]
    rcases List.mem_cons.1 hx with rfl | hx
    · rw [hp,hq]
      have:=List.countP_mono_left hr
      simp; omega
    · have h1:=countP_lt hr hx hp hq
      have h2:=h y (by simp)
      cases hpy:p y
      · simp; split <;> omega
      · rw [h2 hpy]; simp; omega
theorem cnt_lt {lh:Int × Int} (h:passS s key l lh≠lh) (hh:lh.1≤lh.2):cnt key l lh<cnt key l (passS s key l lh):=by
  have hu:=pass_up (s:=s) (key:=key) l lh
  have he:=pass_ends (s:=s) (key:=key) (l:=l) (a:=lh.1) (b:=lh.2) l lh (fun _ h=>h) ⟨.inl rfl,.inl rfl⟩
  generalize passS s key l lh=q at h hu he
  unfold Within at hu
  have hm:∀ y∈l,(decide (y.key=key) && decide (lh.1≤y.time) && decide (y.time≤lh.2))=true→(decide (y.key=key) && decide (q.1≤y.time) && decide (y.time≤q.2))=true:=by
    intro y _ hy
    simp only [Bool.and_eq_true,decide_eq_true_eq] at hy ⊢
    omega
  have key':∀ x∈l,x.key=key→q.1≤x.time→x.time≤q.2→(x.time<lh.1∨lh.2<x.time)→cnt key l lh<cnt key l q:=by
    intro x hx h1 h2 h3 h4
    refine countP_lt hm hx ?_ ?_
    · rw [← Bool.not_eq_true]
      simp only [Bool.and_eq_true,decide_eq_true_eq]
      omega
    · simp only [Bool.and_eq_true,decide_eq_true_eq]
      omega
  by_cases h1:q.1=lh.1
  · by_cases h2:q.2=lh.2
    · exact absurd (within_eq (a:=q) (b:=lh) (by unfold Within; omega) (by unfold Within; omega)) h
    · rcases he.2 with e | ⟨x,hx,hk,ht⟩
      · exact absurd e h2
      · exact key' x hx hk (by omega) (by omega) (by omega)
  · rcases he.1 with e | ⟨x,hx,hk,ht⟩
    · exact absurd e h1
    · exact key' x hx hk (by omega) (by omega) (by omega)
theorem passes_same {lh:Int × Int} (h:passS s key l lh=lh):∀ n,passes s key l n lh=lh
  | 0=>rfl
  | n+1=>by unfold passes; rw [h]; exact passes_same h n
theorem passes_closed:∀ (n:Nat) (lh:Int × Int),lh.1≤lh.2→Closed s key l (passes s key l n lh)∨cnt key l lh+n≤cnt key l (passes s key l n lh)
  | 0,lh,_=>.inr (Nat.le_refl _)
  | n+1,lh,hh=>by
    by_cases h:passS s key l lh=lh
    · rw [passes_same h]; exact .inl (pass_same l lh h)
    · have hu:=pass_up (s:=s) (key:=key) l lh
      have hc:=cnt_lt h hh
      rcases passes_closed n (passS s key l lh) (by unfold Within at hu; omega) with h1 | h1
      · exact .inl h1
      · exact .inr (by unfold passes; omega)
/-- The session of a row: closed, with its time, and the least such span; its ends are times of rows. -/
structure SessOk (s:Wsp) (key:Int) (l:List Rw) (t:Int) (c:Int × Int):Prop where
  closed:Closed s key l c
  lo:c.1≤t
  hi:t≤c.2
  least:∀ d,Closed s key l d→d.1≤t→t≤d.2→Within c d
theorem SessOk.unique {t:Int} {c d:Int × Int} (h:SessOk s key l t c) (g:SessOk s key l t d):c=d:=within_eq (h.least d g.closed g.lo g.hi) (g.least c h.closed h.lo h.hi)
/-- The session without the length that is put behind it. -/
def sessB (s:Wsp) (l:List Rw) (r:Rw):Int × Int:=passes s r.key l l.length (r.time,r.time)
theorem sessS_eq (s:Wsp) (l:List Rw) (r:Rw):sessS s l r=((sessB s l r).1,(sessB s l r).2+s.size):=rfl
theorem sess_ok {r:Rw} (hr:r∈l):SessOk s r.key l r.time (sessB s l r):=by
  have hu:Within (r.time,r.time) (sessB s l r):=passes_up _ _
  refine ⟨?_,hu.1,hu.2,fun d hd h1 h2=>passes_in hd _ _ ⟨h1,h2⟩⟩
  rcases passes_closed (s:=s) (key:=r.key) (l:=l) l.length (r.time,r.time) (Int.le_refl _) with h | h
  · exact h
  · have h1:0<cnt r.key l (r.time,r.time):=by
      unfold cnt
      rw [List.countP_pos_iff]
      exact ⟨r,hr,by simp⟩
    have h2:cnt r.key l (passes s r.key l l.length (r.time,r.time))≤l.length:=List.countP_le_length
    omega
theorem sess_ends {r:Rw} (hr:r∈l):(∃ x∈l,x.key=r.key∧x.time=(sessB s l r).1)∧∃ x∈l,x.key=r.key∧x.time=(sessB s l r).2:=by
  have h:=passes_ends (s:=s) (key:=r.key) (l:=l) (a:=r.time) (b:=r.time) l.length (r.time,r.time) ⟨.inl rfl,.inl rfl⟩
  refine ⟨?_,?_⟩
  · rcases h.1 with e | e
    · exact ⟨r,hr,rfl,e.symm⟩
    · exact e
  · rcases h.2 with e | e
    · exact ⟨r,hr,rfl,e.symm⟩
    · exact e
/-- Rows of one session have the same session. -/
theorem SessOk.same {t u:Int} {c d:Int × Int} (hs:0<s.size) (h:SessOk s key l t c) (g:SessOk s key l u d) (ht:∃ r∈l,r.key=key∧r.time=t) (h1:c.1≤u) (h2:u≤c.2):d=c:=by
  have hdc:=g.least c h.closed h1 h2
  have hcd:Within c d:=by
    by_cases q:d.1≤t∧t≤d.2
    · exact h.least d g.closed q.1 q.2
    · exfalso
      obtain ⟨r,hr,hk,ht⟩:=ht
      have hc:=h.closed
      have hd:=g.closed
      have h3:=h.lo
      have h4:=h.hi
      have h5:=g.lo
      have h6:=g.hi
      unfold Within at hdc
      rcases Int.lt_or_le t d.1 with q1 | q1
      · -- everything up to a gap ahead of d
        have ht1:t≤d.1 - s.size:=by
          rcases Int.lt_or_le (d.1 - s.size) t with q2 | q2
          · have:=hd r hr hk (by omega) (by omega); omega
          · exact q2
        have hcl:Closed s key l (c.1,d.1 - s.size):=by
          intro x hx hxk hx1 hx2
          simp only at hx1 hx2
          have h7:=hc x hx hxk hx1 (by omega)
          refine ⟨h7.1,?_⟩
          show x.time≤d.1 - s.size
          rcases Int.lt_or_le (d.1 - s.size) x.time with q2 | q2
          · have:=hd x hx hxk q2 (by omega); omega
          · exact q2
        have:=(h.least _ hcl h3 ht1).2
        simp only at this
        omega
      · have hdt:d.2<t:=by omega
        have ht1:d.2+s.size≤t:=by
          rcases Int.lt_or_le t (d.2+s.size) with q2 | q2
          · have:=hd r hr hk (by omega) (by omega); omega
          · exact q2
        have hcl:Closed s key l (d.2+s.size,c.2):=by
          intro x hx hxk hx1 hx2
          simp only at hx1 hx2
          have h7:=hc x hx hxk (by omega) hx2
          refine ⟨?_,h7.2⟩
          show d.2+s.size≤x.time
          rcases Int.lt_or_le x.time (d.2+s.size) with q2 | q2
          · have:=hd x hx hxk (by omega) q2; omega
          · exact q2
        have:=(h.least _ hcl ht1 h4).1
        simp only at this
        omega
  exact within_eq hdc hcd
theorem sess_same {r x:Rw} (hs:0<s.size) (hr:r∈l) (hx:x∈l) (hk:x.key=r.key) (h1:(sessB s l r).1≤x.time) (h2:x.time≤(sessB s l r).2):sessB s l x=sessB s l r:=by
  have h:=sess_ok (s:=s) hr
  have g:=sess_ok (s:=s) hx
  rw [hk] at g
  exact h.same hs g ⟨r,hr,rfl,rfl⟩ h1 h2
/-- Which rows there are says what sessions there are. -/
theorem SessOk.mem {m:List Rw} (hm:∀ x,x∈m↔x∈l) {t:Int} {c:Int × Int} (h:SessOk s key l t c):SessOk s key m t c :=
  ⟨fun r hr=>h.closed r ((hm r).1 hr),h.lo,h.hi,fun d hd=>h.least d fun r hr=>hd r ((hm r).2 hr)⟩
theorem sessB_mem {m:List Rw} (hm:∀ x,x∈m↔x∈l) {r:Rw} (hr:r∈l):sessB s m r=sessB s l r:=((sess_ok ((hm r).2 hr)).unique ((sess_ok hr).mem hm))
end
end Go.Proofs.YtbajelldegijkaaDoor
/- All windows: in order, each once; what is over, in order. -/
namespace Go.Proofs.YtbajelldegijkaaDoor
/-! Lists in order -/
section
variable {α:Type} (lt:α→α→Bool)
/-- In order, strictly. -/
def Up (l:List α):Prop:=l.Pairwise fun a b=>lt a b=true
variable {lt:α→α→Bool}
theorem up_ext (hi:∀ a,lt a a=false) (ht:∀ a b c,lt a b=true→lt b c=true→lt a c=true):∀ {l m:List α},Up lt l→Up lt m→(∀ x,x∈l↔x∈m)→l=m
  | [],[],_,_,_=>rfl
  | [],y::m,_,_,h=>by have:=(h y).2 (by simp); simp at this
  | x::l,[],_,_,h=>by have:=(h x).1 (by simp); simp at this
  | x::l,y::m,hl,hm,h=>by
    have hl':=List.pairwise_cons.1 hl
    have hm':=List.pairwise_cons.1 hm
    have hxy:x=y:=by
      rcases List.mem_cons.1 ((h x).1 (by simp)) with e | e
      · exact e
      · rcases List.mem_cons.1 ((h y).2 (by simp)) with e2 | e2
        · exact e2.symm
        · have h1:=hm'.1 x e
          have h2:=hl'.1 y e2
          have:=ht _ _ _ h1 h2
          rw [hi] at this; cases this
    subst hxy
    have hxl:x ∉ l:=fun hx=>by have:=hl'.1 x hx; rw [hi] at this; cases this
    have hxm:x ∉ m:=fun hx=>by have:=hm'.1 x hx; rw [hi] at this; cases this
    rw [up_ext hi ht hl'.2 hm'.2 fun z=>?_]
    constructor
    · intro hz
      rcases List.mem_cons.1 ((h z).1 (List.mem_cons_of_mem _ hz)) with e | e
      · subst e; exact absurd hz hxl
      · exact e
    · intro hz
      rcases List.mem_cons.1 ((h z).2 (List.mem_cons_of_mem _ hz)) with e | e
      · subst e; exact absurd hz hxm
      · exact e
theorem up_nodup (hi:∀ a,lt a a=false) {l:List α} (h:Up lt l):l.Nodup:=h.imp fun {a b} hab e=>by subst e; rw [hi] at hab; cases hab
end
theorem oLt_iff {x y:Ot}:oLt x y=true↔x.fr<y.fr∨x.fr=y.fr∧x.key<y.key:=by unfold oLt; simp
theorem oLt_irr (x:Ot):oLt x x=false:=by rw [← Bool.not_eq_true,oLt_iff]; omega
theorem oLt_tr (x y z:Ot) (h1:oLt x y=true) (h2:oLt y z=true):oLt x z=true:=by rw [oLt_iff] at *; omega
theorem tLt_iff {x y:Ot}:tLt x y=true↔x.to<y.to∨x.to=y.to∧(x.fr<y.fr∨x.fr=y.fr∧x.key<y.key):=by unfold tLt; simp [oLt_iff]
theorem tLt_irr (x:Ot):tLt x x=false:=by rw [← Bool.not_eq_true,tLt_iff]; omega
theorem tLt_tr (x y z:Ot) (h1:tLt x y=true) (h2:tLt y z=true):tLt x z=true:=by rw [tLt_iff] at *; omega
abbrev OUp (l:List Ot):Prop:=Up oLt l
abbrev TUp (l:List Ot):Prop:=Up tLt l
theorem oup_ext {l m:List Ot} (h:OUp l) (g:OUp m) (hm:∀ x,x∈l↔x∈m):l=m:=up_ext oLt_irr oLt_tr h g hm
theorem tup_ext {l m:List Ot} (h:TUp l) (g:TUp m) (hm:∀ x,x∈l↔x∈m):l=m:=up_ext tLt_irr tLt_tr h g hm
/-- Where it begins, and its key, say which one it is. -/
def One (l:List Ot):Prop:=∀ x∈l,∀ y∈l,x.fr=y.fr→x.key=y.key→x=y
theorem mem_putS {x z:Ot}:∀ {l:List Ot},z∈putS x l↔z=x∨z∈l
  | []=>by simp [putS]
  | y::r=>by
    unfold putS
    split
    · rename_i h; subst h; simp
    · split
      · simp
      · simp only [List.mem_cons,mem_putS (l:=r)]
        constructor
        · rintro (h | h | h)
          · exact .inr (.inl h)
          · exact .inl h
          · exact .inr (.inr h)
        · rintro (h | h | h)
          · exact .inr (.inl h)
          · exact .inl h
          · exact .inr (.inr h)
theorem putS_up {x:Ot}:∀ {l:List Ot},OUp l→(∀ y∈l,y.fr=x.fr→y.key=x.key→y=x)→OUp (putS x l)
  | [],_,_=>by simp [putS,Up]
  | y::r,h,hx=>by
    have h':=List.pairwise_cons.1 h
    unfold putS
    split
    · exact h
    · rename_i hne
      split
      · rename_i hlt
        refine List.pairwise_cons.2 ⟨fun z hz=>?_,h⟩
        rcases List.mem_cons.1 hz with rfl | hz
        · exact hlt
        · exact oLt_tr _ _ _ hlt (h'.1 z hz)
      · rename_i hlt
        refine List.pairwise_cons.2 ⟨fun z hz=>?_,putS_up h'.2 fun z hz=>hx z (List.mem_cons_of_mem _ hz)⟩
        rcases mem_putS.1 hz with rfl | hz
        · have h1:=hx y (by simp)
          rw [oLt_iff] at hlt ⊢
          by_cases e1:y.fr=z.fr
          · by_cases e2:y.key=z.key
            · exact absurd (h1 e1 e2) hne
            · omega
          · omega
        · exact h'.1 z hz
theorem put_go:∀ {l acc:List Ot},OUp acc→One (acc++l)→OUp (l.foldl (fun o x=>putS x o) acc)∧∀ z,z∈l.foldl (fun o x=>putS x o) acc↔z∈acc∨z∈l
  | [],acc,h,_=>⟨h,by simp⟩
  | x::l,acc,h,ho=>by
    have hx:∀ y∈acc,y.fr=x.fr→y.key=x.key→y=x:=fun y hy=>ho y (by simp [hy]) x (by simp)
    have ho':One (putS x acc++l):=by
      have hsub:∀ z∈putS x acc++l,z∈acc++x::l:=by
        intro z hz
        rcases List.mem_append.1 hz with hz | hz
        · rcases mem_putS.1 hz with rfl | hz
          · simp
          · simp [hz]
        · simp [hz]
      exact fun a ha b hb=>ho a (hsub a ha) b (hsub b hb)
    obtain ⟨h1,h2⟩:=put_go (l:=l) (putS_up h hx) ho'
    refine ⟨h1,fun z=>?_⟩
    rw [List.foldl_cons,h2,mem_putS,List.mem_cons]
    constructor
    · rintro ((h | h) | h)
      · exact .inr (.inl h)
      · exact .inl h
      · exact .inr (.inr h)
    · rintro (h | h | h)
      · exact .inl (.inr h)
      · exact .inl (.inl h)
      · exact .inr h
/-! The windows of a time -/
/-- A window of what slides. -/
def IsWin (s:Wsp) (w:Int × Int):Prop:=∃ j:Int,0≤j∧w=(j*s.step,j*s.step+s.size)
structure SpOk (s:Wsp):Prop where
  step:1≤s.step
  size:s.step≤s.size
theorem firstS_le {s:Wsp} (h:SpOk s) {t j:Int} (h0:0≤j):firstS s t≤j↔t<j*s.step+s.size:=by
  have h1:=h.step
  unfold firstS
  split
  · have e:(t - s.size) / s.step+1≤j↔(t - s.size) / s.step<j:=by omega
    rw [e,Int.ediv_lt_iff_lt_mul (by omega)]
    omega
  · have:0≤j*s.step:=Int.mul_nonneg h0 (by omega)
    constructor
    · intro _; omega
    · intro _; exact h0
theorem firstS_nonneg {s:Wsp} (h:SpOk s) (t:Int):0≤firstS s t:=by
  have h1:=h.step
  unfold firstS
  split
  · have:=Int.ediv_nonneg (a:=t - s.size) (b:=s.step) (by omega) (by omega)
    omega
  · omega
theorem mem_spans {s:Wsp} (h:SpOk s) {t:Int} {w:Int × Int}:w∈spansS s t↔IsWin s w∧w.1≤t∧t<w.2:=by
  have h1:=h.step
  have h0:=firstS_nonneg h t
  unfold spansS countS
  rw [List.mem_map]
  constructor
  · rintro ⟨i,hi,rfl⟩
    rw [List.mem_range] at hi
    have h2:firstS s t+i≤t / s.step:=by omega
    rw [Int.le_ediv_iff_mul_le (by omega)] at h2
    have h3:=(firstS_le h (t:=t) (j:=firstS s t+i) (by omega)).1 (by omega)
    exact ⟨⟨firstS s t+i,by omega,rfl⟩,h2,h3⟩
  · rintro ⟨⟨j,hj,rfl⟩,h2,h3⟩
    simp only at h2 h3
    have h4:=(firstS_le h hj).2 h3
    rw [← Int.le_ediv_iff_mul_le (by omega)] at h2
    refine ⟨(j - firstS s t).toNat,List.mem_range.2 (by omega),?_⟩
    rw [show firstS s t+((j - firstS s t).toNat:Int)=j by omega]
/-! All windows -/
structure WOk (s:Wsp):Prop where
  kind:s.kind=0∨s.kind=1
  sp:s.kind=0→SpOk s
  size:1≤s.size
theorem okS_w {s:Wsp} (h:okS s=true):WOk s:=by
  unfold okS at h
  simp only [Bool.and_eq_true,Bool.or_eq_true,decide_eq_true_eq] at h
  refine ⟨by omega,fun h0=>⟨by omega,by omega⟩,by omega⟩
theorem mem_outsOf {s:Wsp} {l:List Rw} {r:Rw} {x:Ot}:x∈outsOf s l r↔∃ w∈winsS s l r,x=outS s l r.key w:=by
  unfold outsOf
  rw [List.mem_map]
  constructor <;> rintro ⟨w,h1,h2⟩ <;> exact ⟨w,h1,h2.symm⟩
theorem outs_one {s:Wsp} (hs:WOk s) {l:List Rw}:One (l.flatMap (outsOf s l)):=by
  intro x hx y hy h1 h2
  obtain ⟨r,hr,hx⟩:=List.mem_flatMap.1 hx
  obtain ⟨q,hq,hy⟩:=List.mem_flatMap.1 hy
  obtain ⟨w,hw,rfl⟩:=mem_outsOf.1 hx
  obtain ⟨v,hv,rfl⟩:=mem_outsOf.1 hy
  have h3:r.key=q.key:=h2
  have h4:w.1=v.1:=h1
  have h5:w=v:=by
    unfold winsS at hw hv
    by_cases hk:s.kind=0
    · rw [if_pos hk] at hw hv
      obtain ⟨⟨j,_,rfl⟩,_⟩:=(mem_spans (hs.sp hk)).1 hw
      obtain ⟨⟨i,_,rfl⟩,_⟩:=(mem_spans (hs.sp hk)).1 hv
      simp only at h4
      rw [h4]
    · rw [if_neg hk] at hw hv
      have e1:=List.mem_singleton.1 hw
      have e2:=List.mem_singleton.1 hv
      subst e1; subst e2
      rw [sessS_eq,sessS_eq] at h4 ⊢
      simp only at h4
      obtain ⟨⟨a,ha,hak,hat⟩,_⟩:=sess_ends (s:=s) hr
      have hra:=sess_ok (s:=s) hr
      have hqa:=sess_ok (s:=s) hq
      have hlo:=hra.lo
      have hhi:=hra.hi
      have hlo2:=hqa.lo
      have hhi2:=hqa.hi
      have s1:=sess_same (s:=s) (by have:=hs.size; omega) hr ha hak (by omega) (by omega)
      have s2:=sess_same (s:=s) (by have:=hs.size; omega) hq ha (by rw [hak,h3]) (by omega) (by omega)
      rw [← s1,← s2]
  subst h5
  unfold outS
  rw [h3]
theorem all_go {s:Wsp} (hs:WOk s) (l:List Rw):OUp (allS s l)∧∀ z,z∈allS s l↔z∈([]:List Ot)∨z∈l.flatMap (outsOf s l):=put_go (acc:=[]) (by simp [Up]) (by simpa using outs_one hs)
theorem all_up {s:Wsp} (hs:WOk s) (l:List Rw):OUp (allS s l):=(all_go hs l).1
theorem mem_all {s:Wsp} (hs:WOk s) {l:List Rw} {x:Ot}:x∈allS s l↔∃ r∈l,∃ w∈winsS s l r,x=outS s l r.key w:=by
  rw [(all_go hs l).2]
  simp only [List.not_mem_nil,false_or,List.mem_flatMap,mem_outsOf]
/-! What is over -/
theorem mem_insT {x z:Ot}:∀ {l:List Ot},z∈insT x l↔z=x∨z∈l
  | []=>by simp [insT]
  | y::r=>by
    unfold insT
    split
    · simp
    · simp only [List.mem_cons,mem_insT (l:=r)]
      constructor
      · rintro (h | h | h)
        · exact .inr (.inl h)
        · exact .inl h
        · exact .inr (.inr h)
      · rintro (h | h | h)
        · exact .inr (.inl h)
        · exact .inl h
        · exact .inr (.inr h)
theorem insT_up {x:Ot}:∀ {l:List Ot},TUp l→(∀ y∈l,y.fr=x.fr→y.key≠x.key)→TUp (insT x l)
  | [],_,_=>by simp [insT,Up]
  | y::r,h,hx=>by
    have h':=List.pairwise_cons.1 h
    unfold insT
    split
    · rename_i hlt
      refine List.pairwise_cons.2 ⟨fun z hz=>?_,h⟩
      rcases List.mem_cons.1 hz with rfl | hz
      · exact hlt
      · exact tLt_tr _ _ _ hlt (h'.1 z hz)
    · rename_i hlt
      refine List.pairwise_cons.2 ⟨fun z hz=>?_,insT_up h'.2 fun z hz=>hx z (List.mem_cons_of_mem _ hz)⟩
      rcases mem_insT.1 hz with rfl | hz
      · have h1:=hx y (by simp)
        rw [tLt_iff] at hlt ⊢
        by_cases e1:y.fr=z.fr
        · have:=h1 e1; omega
        · omega
      · exact h'.1 z hz
theorem insT_go:∀ {l acc:List Ot},TUp acc→(acc++l).Pairwise (fun x y=>x.fr=y.fr→x.key≠y.key)→TUp (l.foldl (fun o x=>insT x o) acc)∧∀ z,z∈l.foldl (fun o x=>insT x o) acc↔z∈acc∨z∈l
  | [],acc,h,_=>⟨h,by simp⟩
  | x::l,acc,h,ho=>by
    have hp:=List.pairwise_append.1 ho
    have hc:=List.pairwise_cons.1 hp.2.1
    have hx:∀ y∈acc,y.fr=x.fr→y.key≠x.key:=fun y hy=>hp.2.2 y hy x (by simp)
    have hacc:∀ {l:List Ot},l.Pairwise (fun x y=>x.fr=y.fr→x.key≠y.key)→(∀ y∈l,y.fr=x.fr→y.key≠x.key)→(insT x l).Pairwise (fun x y=>x.fr=y.fr→x.key≠y.key):=by
      intro l
      induction l with
      | nil=>intro _ _; simp [insT]
      | cons y r ih =>
        intro h1 h2
        have h3:=List.pairwise_cons.1 h1
        unfold insT
        split
        · exact List.pairwise_cons.2 ⟨fun z hz e1 e2=>h2 z hz e1.symm e2.symm,h1⟩
        · refine List.pairwise_cons.2 ⟨fun z hz=>?_,ih h3.2 fun z hz=>h2 z (List.mem_cons_of_mem _ hz)⟩
          rcases mem_insT.1 hz with rfl | hz
          · exact h2 y (by simp)
          · exact h3.1 z hz
    have ho':(insT x acc++l).Pairwise (fun x y=>x.fr=y.fr→x.key≠y.key):=by
      refine List.pairwise_append.2 ⟨hacc hp.1 hx,hc.2,fun a ha b hb=>?_⟩
      rcases mem_insT.1 ha with rfl | ha
      · exact hc.1 b hb
      · exact hp.2.2 a ha b (by simp [hb])
    obtain ⟨h1,h2⟩:=insT_go (l:=l) (insT_up h hx) ho'
    refine ⟨h1,fun z=>?_⟩
    rw [List.foldl_cons,h2,mem_insT,List.mem_cons]
    constructor
    · rintro ((h | h) | h)
      · exact .inr (.inl h)
      · exact .inl h
      · exact .inr (.inr h)
    · rintro (h | h | h)
      · exact .inl (.inr h)
      · exact .inl (.inl h)
      · exact .inr h
theorem oup_apart {l:List Ot} (h:OUp l):l.Pairwise fun x y=>x.fr=y.fr→x.key≠y.key:=h.imp fun {x y} hxy e=>by rw [oLt_iff] at hxy; omega
theorem over_go {l:List Ot} (h:OUp l) (b m:Int):TUp (overS l b m)∧∀ z,z∈overS l b m↔z∈([]:List Ot)∨z∈l.filter (isOver b m):=insT_go (acc:=[]) (by simp [Up]) (by simpa using (oup_apart h).sublist List.filter_sublist)
theorem over_up {l:List Ot} (h:OUp l) (b m:Int):TUp (overS l b m):=(over_go h b m).1
theorem mem_over {l:List Ot} (h:OUp l) {b m:Int} {z:Ot}:z∈overS l b m↔z∈l∧b<z.to∧z.to≤m:=by
  rw [(over_go h b m).2]
  simp [isOver]
end Go.Proofs.YtbajelldegijkaaDoor
/- What is kept in a map while rows come: all windows of what slides. -/
namespace Go.Proofs.YtbajelldegijkaaDoor
open Go.Sl
abbrev K3:=Int × Int × Int
abbrev Mp:=List (K3 × Int)
/-- A map that holds just these windows. -/
structure Holds (m:Mp) (L:List Ot):Prop where
  nd:(m.map (·.1)).Nodup
  mem:∀ (k:K3) (v:Int),mget k m=some v↔(⟨k.1,k.2.1,k.2.2,v⟩:Ot)∈L
def joinS (f:Int) (k:K3) (w:Int) (m:Mp):Mp:=mput k (match mget k m with | some v=>twoF f v w | none=>w) m
def grownGo (f key w:Int) (ws:List (Int × Int)) (m:Mp):Mp:=ws.foldl (fun m x=>joinS f (x.1,x.2,key) w m) m
def grownS (s:Wsp) (m:Mp) (r:Rw):Mp:=grownGo s.fold r.key (oneF s.fold r.word) (spansS s r.time) m
theorem mget_join (f:Int) (k k':K3) (w:Int) (m:Mp):mget k' (joinS f k w m)=if k'=k then some (match mget k m with | some v=>twoF f v w | none=>w) else mget k' m:=mget_mput k k' _ m
theorem grown_nd {f key w:Int}:∀ {ws:List (Int × Int)} {m:Mp},(m.map (·.1)).Nodup→((grownGo f key w ws m).map (·.1)).Nodup
  | [],_,h=>h
  | x::r,m,h=>by
    show ((grownGo f key w r (joinS f (x.1,x.2,key) w m)).map (·.1)).Nodup
    exact grown_nd (mput_nodup h)
theorem mget_grown {f key w : Int} {k : K3} : ∀ {ws : List (Int × Int)} {m : Mp}, ws.Nodup →
    mget k (grownGo f key w ws m)=if k.2.2=key∧(k.1,k.2.1)∈ws then some (match mget k m with | some v=>twoF f v w | none=>w) else mget k m
  | [],m,_=>by simp [grownGo]
  | x::r,m,hn=>by
    have hn':=List.nodup_cons.1 hn
    show mget k (grownGo f key w r (joinS f (x.1,x.2,key) w m))=_
    rw [mget_grown hn'.2,mget_join]
    obtain ⟨a,b,c⟩:=k
    simp only [Prod.mk.injEq,List.mem_cons]
    by_cases hc:c=key
    · subst hc
      by_cases hx:(a,b)=x
      · subst hx
        simp [hn'.1]
      · have hx':¬ (a=x.1∧b=x.2):=fun h=>hx (by rw [h.1,h.2])
        simp only [true_and,and_true,hx,hx',false_or,if_false]
    · simp [hc]
theorem spans_nodup {s:Wsp} (h:SpOk s) (t:Int):(spansS s t).Nodup:=by
  unfold spansS
  refine List.pairwise_map.2 (List.nodup_range.imp fun {i j} hij e=>hij ?_)
  have e1:=congrArg Prod.fst e
  simp only at e1
  have:=Int.eq_of_mul_eq_mul_right (show s.step≠0 by have:=h.step; omega) e1
  omega
theorem inW_iff {key:Int} {w:Int × Int} {r:Rw}:inW key w r=true↔r.key=key∧w.1≤r.time∧r.time<w.2:=by
  unfold inW
  simp only [Bool.and_eq_true,decide_eq_true_eq]
  omega
theorem slide_mem {s:Wsp} (hk:s.kind=0) (hs:WOk s) {l:List Rw} {x:Ot}:x∈allS s l↔IsWin s (x.fr,x.to)∧(∃ r∈l,inW x.key (x.fr,x.to) r=true)∧x.word=wordS s.fold l (x.fr,x.to) x.key:=by
  rw [mem_all hs]
  unfold winsS
  simp only [if_pos hk,mem_spans (hs.sp hk),inW_iff]
  constructor
  · rintro ⟨r,hr,w,⟨h1,h2,h3⟩,rfl⟩
    exact ⟨h1,⟨r,hr,rfl,h2,h3⟩,rfl⟩
  · rintro ⟨h1,⟨r,hr,h2,h3,h4⟩,h5⟩
    refine ⟨r,hr,(x.fr,x.to),⟨h1,h3,h4⟩,?_⟩
    obtain ⟨a,b,c,d⟩:=x
    simp only at h2 h5
    subst h2; subst h5; rfl
/-- Words in rows. -/
def Ws (l:List Rw):Prop:=∀ r∈l,Wd r.word
theorem Ws.filter {l:List Rw} (h:Ws l) (p:Rw→Bool):∀ w∈(l.filter p).map (·.word),Wd w:=by
  intro w hw
  obtain ⟨r,hr,rfl⟩:=List.mem_map.1 hw
  exact h r (List.mem_filter.1 hr).1
theorem word_snoc {f:Int} {l:List Rw} {r:Rw} (hl:Ws l) (hr:Wd r.word) (w:Int × Int) (k:Int):wordS f (l++[r]) w k=if inW k w r then twoF f (wordS f l w k) (oneF f r.word) else wordS f l w k:=by
  unfold wordS
  rw [List.filter_append,List.map_append]
  by_cases h:inW k w r=true
  · rw [if_pos h,List.filter_cons_of_pos h,List.filter_nil]
    exact fold_snoc (hl.filter _) hr
  · rw [if_neg h,List.filter_cons_of_neg h,List.filter_nil,List.map_nil,List.append_nil]
theorem word_none {f:Int} {l:List Rw} {w:Int × Int} {k:Int} (h:∀ r∈l,inW k w r=false):wordS f l w k=noneF f:=by
  unfold wordS
  rw [List.filter_eq_nil_iff.2 (fun r hr=>by rw [h r hr]; simp)]; rfl
theorem grown_holds {s:Wsp} (hk:s.kind=0) (hs:WOk s) {l:List Rw} {r:Rw} (hl:Ws l) (hr:Wd r.word) {m:Mp} (h:Holds m (allS s l)):Holds (grownS s m r) (allS s (l++[r])):=by
  refine ⟨grown_nd h.nd,fun k v=>?_⟩
  unfold grownS
  rw [mget_grown (spans_nodup (hs.sp hk) _),slide_mem hk hs]
  obtain ⟨a,b,c⟩:=k
  have hms:=mem_spans (hs.sp hk) (t:=r.time) (w:=(a,b))
  have hm:=h.mem (a,b,c)
  simp only [slide_mem hk hs] at hm
  rw [word_snoc hl hr]
  have hin:inW c (a,b) r=true↔r.key=c∧a≤r.time∧r.time<b:=inW_iff
  by_cases hw:IsWin s (a,b)
  · by_cases hq:inW c (a,b) r=true
    · obtain ⟨e1,e2,e3⟩:=hin.1 hq
      rw [if_pos ⟨e1.symm,hms.2 ⟨hw,e2,e3⟩⟩,if_pos hq]
      have hex:∃ x∈l++[r],inW c (a,b) x=true:=⟨r,by simp,hq⟩
      simp only [hw,hex,true_and]
      have hval:(match mget (a,b,c) m with | some v=>twoF s.fold v (oneF s.fold r.word) | none=>oneF s.fold r.word)=twoF s.fold (wordS s.fold l (a,b) c) (oneF s.fold r.word):=by
        cases hg:mget (a,b,c) m with
        | some u =>
          have:=(hm u).1 hg
          simp only [this.2.2]
        | none =>
          have hno:∀ x∈l,inW c (a,b) x=false:=by
            intro x hx
            rw [← Bool.not_eq_true]
            intro hx2
            have:=(hm (wordS s.fold l (a,b) c)).2 ⟨hw,⟨x,hx,hx2⟩,rfl⟩
            rw [hg] at this; cases this
          rw [word_none hno,two_none (wd_one hr)]
      rw [hval]
      constructor
      · intro e; exact (Option.some.inj e).symm
      · intro e; rw [e]
    · rw [if_neg (fun q=>hq (hin.2 ⟨q.1.symm,(hms.1 q.2).2.1,(hms.1 q.2).2.2⟩)),if_neg hq,hm v]
      have hex:(∃ x∈l++[r],inW c (a,b) x=true)↔∃ x∈l,inW c (a,b) x=true:=by
        constructor
        · rintro ⟨x,hx,h2⟩
          rcases List.mem_append.1 hx with hx | hx
          · exact ⟨x,hx,h2⟩
          · rw [List.mem_singleton.1 hx] at h2; exact absurd h2 hq
        · rintro ⟨x,hx,h2⟩; exact ⟨x,by simp [hx],h2⟩
      rw [hex]
  · rw [if_neg (fun q=>hw (hms.1 q.2).1),hm v]
    simp [hw]
theorem holds_nil {s:Wsp} (hs:WOk s):Holds [] (allS s []):=⟨by simp,fun k v=>by simp [mget,mem_all hs]⟩
end Go.Proofs.YtbajelldegijkaaDoor
/- Sessions, as the program finds them: rows in the order of their times. -/
namespace Go.Proofs.YtbajelldegijkaaDoor
open Go.Sl
/-- What is taken into a session that was begun. -/
def takeS (s:Wsp) (key:Int):List Rw→Int→Int→Int × Int
  | [],to,w=>(to,w)
  | r::t,to,w=>if r.key=key then (if to≤r.time then (to,w) else takeS s key t (r.time+s.size) (twoF s.fold w (oneF s.fold r.word))) else takeS s key t to w
def Rising (l:List Rw):Prop:=l.Pairwise fun a b=>a.time≤b.time
structure TkOk (s:Wsp) (key:Int) (rest:List Rw) (to w:Int) (res:Int × Int) (high:Int):Prop where
  to':res.1=high+s.size
  up:to - s.size≤high
  gap:∀ r∈rest,r.key=key→r.time≤high∨high+s.size≤r.time
  least:∀ c:Int × Int,Closed s key rest c→c.1≤to - s.size→to - s.size≤c.2→high≤c.2
  word:res.2=twoF s.fold w (foldS s.fold ((rest.filter fun r=>decide (r.key=key) && decide (r.time≤high)).map (·.word)))
theorem take_ok {s:Wsp} (hs:1≤s.size) {key:Int}:∀ {rest:List Rw} {to w:Int},Rising rest→(∀ r∈rest,to - s.size≤r.time)→Ws rest→Wd w→∃ high,TkOk s key rest to w (takeS s key rest to w) high
  | [],to,w,_,_,_,hw=>⟨to - s.size,by show to=_; omega,Int.le_refl _,fun r hr=>by simp at hr,fun c _ _ h=>h,by show w=twoF _ w (noneF _); rw [two_none' hw]⟩
  | r::t,to,w,hr,ht,hws,hw=>by
    have hr':=List.pairwise_cons.1 hr
    have hwr:Wd r.word:=hws r (by simp)
    have hwt:Ws t:=fun x hx=>hws x (List.mem_cons_of_mem _ hx)
    have htr:=ht r (by simp)
    have htt:∀ x∈t,to - s.size≤x.time:=fun x hx=>ht x (List.mem_cons_of_mem _ hx)
    unfold takeS
    by_cases hk:r.key=key
    · rw [if_pos hk]
      by_cases hle:to≤r.time
      · rw [if_pos hle]
        refine ⟨to - s.size,by show to=_; omega,Int.le_refl _,?_,fun c _ _ h=>h,?_⟩
        · intro x hx _
          right
          rcases List.mem_cons.1 hx with rfl | hx
          · omega
          · have:=hr'.1 x hx; omega
        · rw [List.filter_eq_nil_iff.2,List.map_nil]
          · show w=twoF _ w (noneF _)
            rw [two_none' hw]
          · intro x hx
            simp only [Bool.and_eq_true,decide_eq_true_eq]
            rcases List.mem_cons.1 hx with rfl | hx
            · omega
            · have:=hr'.1 x hx; omega
      · rw [if_neg hle]
        obtain ⟨high,h⟩:=take_ok hs (key:=key) (rest:=t) (to:=r.time+s.size) (w:=twoF s.fold w (oneF s.fold r.word)) hr'.2 (fun x hx=>by have:=hr'.1 x hx; omega) hwt (wd_two hw (wd_one hwr))
        have hup:=h.up
        refine ⟨high,h.to',by omega,?_,?_,?_⟩
        · intro x hx hxk
          rcases List.mem_cons.1 hx with rfl | hx
          · left; omega
          · exact h.gap x hx hxk
        · intro c hc h1 h2
          have h3:=hc r (by simp) hk (by omega) (by omega)
          exact h.least c (fun x hx=>hc x (List.mem_cons_of_mem _ hx)) (by omega) (by omega)
        · rw [h.word,List.filter_cons_of_pos (by simp only [Bool.and_eq_true,decide_eq_true_eq]; omega),List.map_cons,fold_cons hwr (hwt.filter _),two_assoc]
    · rw [if_neg hk]
      obtain ⟨high,h⟩:=take_ok hs (key:=key) (rest:=t) (to:=to) (w:=w) hr'.2 htt hwt hw
      refine ⟨high,h.to',h.up,?_,?_,?_⟩
      · intro x hx hxk
        rcases List.mem_cons.1 hx with rfl | hx
        · exact absurd hxk hk
        · exact h.gap x hx hxk
      · intro c hc h1 h2
        exact h.least c (fun x hx=>hc x (List.mem_cons_of_mem _ hx)) h1 h2
      · rw [h.word,List.filter_cons_of_neg (by simp [hk])]
/-- A row that begins a session: no row of its key is close ahead of it. -/
def begS (s:Wsp) (pre:List Rw) (r:Rw):Bool:=match pre.reverse.find? (fun x=>decide (x.key=r.key)) with
  | some x=>decide (x.time+s.size≤r.time)
  | none=>true
theorem beg_far {s:Wsp} {pre:List Rw} {r:Rw} (hp:Rising pre) (h:begS s pre r=true):∀ x∈pre,x.key=r.key→x.time+s.size≤r.time:=by
  intro x hx hk
  unfold begS at h
  cases hf:pre.reverse.find? (fun x=>decide (x.key=r.key)) with
  | none =>
    have:=List.find?_eq_none.1 hf x (List.mem_reverse.2 hx)
    simp [hk] at this
  | some y =>
    rw [hf] at h
    simp only [decide_eq_true_eq] at h
    obtain ⟨h1,us,bs,h2,h3⟩:=List.find?_eq_some_iff_append.1 hf
    have hx2:x∈us++y::bs:=by rw [← h2]; exact List.mem_reverse.2 hx
    have hpr:(us++y::bs).Pairwise fun a b=>b.time≤a.time:=by rw [← h2]; exact List.pairwise_reverse.2 hp
    rcases List.mem_append.1 hx2 with hx2 | hx2
    · have:=h3 x hx2
      simp [hk] at this
    · rcases List.mem_cons.1 hx2 with rfl | hx2
      · exact h
      · have:=(List.pairwise_cons.1 (List.pairwise_append.1 hpr).2.1).1 x hx2
        omega
theorem beg_of_far {s:Wsp} {pre:List Rw} {r:Rw} (h:∀ x∈pre,x.key=r.key→x.time+s.size≤r.time):begS s pre r=true:=by
  unfold begS
  cases hf:pre.reverse.find? (fun x=>decide (x.key=r.key)) with
  | none=>rfl
  | some y =>
    have h1:=List.find?_some hf
    have h2:=List.mem_reverse.1 (List.mem_of_find?_eq_some hf)
    simp only [decide_eq_true_eq] at h1 ⊢
    exact h y h2 h1
def rwAt (l:List Rw) (i:Nat):Rw:=l.getD i default
/-- What is taken from a row on. -/
def tkAt (s:Wsp) (l:List Rw) (i:Nat):Int × Int:=takeS s (rwAt l i).key (l.drop (i+1)) ((rwAt l i).time+s.size) (oneF s.fold (rwAt l i).word)
def begAt (s:Wsp) (l:List Rw) (i:Nat):Bool:=begS s (l.take i) (rwAt l i)
def putAt (s:Wsp) (l:List Rw) (m:Mp) (i:Nat):Mp:=if begAt s l i then mput ((rwAt l i).time,(tkAt s l i).1,(rwAt l i).key) (tkAt s l i).2 m else m
def sessMap (s:Wsp) (l:List Rw) (n:Nat):Mp:=(List.range n).foldl (putAt s l) []
theorem rwAt_eq {l:List Rw} {i:Nat} (h:i<l.length):rwAt l i=l[i]:=by
  unfold rwAt; rw [List.getD_eq_getElem?_getD,List.getElem?_eq_getElem h]; rfl
theorem split_at {l:List Rw} {i:Nat} (h:i<l.length):l=l.take i++rwAt l i::l.drop (i+1):=by
  rw [rwAt_eq h,← List.drop_eq_getElem_cons h,List.take_append_drop]
/-- What is taken is the session, with its word. -/
theorem tk_sess {s : Wsp} (hs : 1 ≤ s.size) {rows l : List Rw} (hp : l.Perm rows) (hl : Rising l) (hw : Ws l) {i : Nat} (hi : i < l.length) (hb : begAt s l i = true) :
    sessS s rows (rwAt l i)=((rwAt l i).time,(tkAt s l i).1)∧(tkAt s l i).2=wordS s.fold rows ((rwAt l i).time,(tkAt s l i).1) (rwAt l i).key:=by
  have hsp:=split_at hi
  unfold begAt at hb
  unfold tkAt
  generalize hr:rwAt l i=r at hsp hb ⊢
  generalize hpre:l.take i=pre at hsp hb
  generalize hrest:l.drop (i+1)=rest at hsp ⊢
  have hpair:Rising (pre++r::rest):=by rw [← hsp]; exact hl
  obtain ⟨hp1,hp2,hp3⟩:=List.pairwise_append.1 hpair
  have hp4:=List.pairwise_cons.1 hp2
  have hfar:=beg_far hp1 hb
  have hwl:Ws (pre++r::rest):=by rw [← hsp]; exact hw
  have hwr:Wd r.word:=hwl r (by simp)
  have hwrest:Ws rest:=fun x hx=>hwl x (by simp [hx])
  obtain ⟨high,h⟩:=take_ok hs (key:=r.key) (rest:=rest) (to:=r.time+s.size) (w:=oneF s.fold r.word) hp4.2 (fun x hx=>by have:=hp4.1 x hx; omega) hwrest (wd_one hwr)
  have hrl:r∈l:=by rw [hsp]; simp
  have hup:=h.up
  have hok:SessOk s r.key l r.time (r.time,high):=by
    refine ⟨?_,Int.le_refl _,by show r.time≤high; omega,?_⟩
    · intro x hx hxk h1 h2
      simp only at h1 h2
      show r.time≤x.time∧x.time≤high
      rw [hsp] at hx
      rcases List.mem_append.1 hx with hx | hx
      · have:=hfar x hx hxk; omega
      · rcases List.mem_cons.1 hx with rfl | hx
        · omega
        · have h3:=hp4.1 x hx
          rcases h.gap x hx hxk with h4 | h4 <;> omega
    · intro d hd h1 h2
      refine ⟨h1,?_⟩
      show high≤d.2
      exact h.least d (fun x hx=>hd x (by rw [hsp]; simp [hx])) (by omega) (by omega)
  have hrr:r∈rows:=hp.mem_iff.1 hrl
  have hse:sessB s rows r=(r.time,high):=(sess_ok hrr).unique (hok.mem fun x=>hp.symm.mem_iff)
  refine ⟨by rw [sessS_eq,hse,h.to'],?_⟩
  rw [h.word,h.to']
  unfold wordS
  have hperm:((l.filter (inW r.key (r.time,high+s.size))).map (·.word)).Perm ((rows.filter (inW r.key (r.time,high+s.size))).map (·.word)):=(hp.filter _).map _
  rw [← fold_perm hperm (hw.filter _)]
  have hpos:inW r.key (r.time,high+s.size) r=true:=by rw [inW_iff]; refine ⟨rfl,Int.le_refl _,?_⟩; show r.time<high+s.size; omega
  have hnil:pre.filter (inW r.key (r.time,high+s.size))=[]:=List.filter_eq_nil_iff.2 fun x hx=>by
    rw [inW_iff]
    rintro ⟨h1,h2,_⟩
    have:=hfar x hx h1
    simp only at h2; omega
  rw [hsp,List.filter_append,List.filter_cons_of_pos hpos,hnil,List.nil_append,List.map_cons,fold_cons hwr (hwrest.filter _)]
  congr 3
  refine List.filter_congr fun x hx=>?_
  have h3:=hp4.1 x hx
  rw [Bool.eq_iff_iff,inW_iff]
  simp only [Bool.and_eq_true,decide_eq_true_eq]
  constructor
  · rintro ⟨h1,h2⟩; exact ⟨h1,h3,by omega⟩
  · rintro ⟨h1,_,h2⟩
    rcases h.gap x hx h1 with h4 | h4
    · exact ⟨h1,h4⟩
    · omega
/-- Each session is begun by some row. -/
theorem sess_beg {s:Wsp} (hs:1≤s.size) {rows l:List Rw} (hp:l.Perm rows) (hl:Rising l) {r:Rw} (hr:r∈rows):∃ i,i<l.length∧begAt s l i=true∧(rwAt l i).key=r.key∧sessS s rows (rwAt l i)=sessS s rows r:=by
  obtain ⟨⟨x,hx,hxk,hxt⟩,_⟩:=sess_ends (s:=s) hr
  have hok:=sess_ok (s:=s) hr
  generalize hlow:(sessB s rows r).1=low at hxt
  let p:Rw→Bool:=fun y=>decide (y.key=r.key) && decide (y.time=low)
  have hpx:p x=true:=by simp [p,hxk,hxt]
  have hxl:x∈l:=hp.mem_iff.2 hx
  have hlt:l.findIdx p<l.length:=List.findIdx_lt_length_of_exists ⟨x,hxl,hpx⟩
  have hpi:p l[l.findIdx p]=true:=List.findIdx_getElem
  have hsp:=split_at hlt
  have hno:∀ y∈l.take (l.findIdx p),p y=false:=by
    intro y hy
    obtain ⟨j,hj,rfl⟩:=List.mem_iff_getElem.1 hy
    rw [List.getElem_take]
    rw [List.length_take] at hj
    have:=List.not_of_lt_findIdx (p:=p) (xs:=l) (i:=j) (by omega)
    simpa using this
  have hpi':l[l.findIdx p].key=r.key∧l[l.findIdx p].time=low:=by simpa [p] using hpi
  have hq:=rwAt_eq hlt
  refine ⟨l.findIdx p,hlt,?_,by rw [hq]; exact hpi'.1,?_⟩
  · unfold begAt
    refine beg_of_far fun y hy hyk=>?_
    have hle:y.time≤(rwAt l (l.findIdx p)).time:=by
      have hpair:Rising (l.take (l.findIdx p)++rwAt l (l.findIdx p)::l.drop (l.findIdx p+1)):=by rw [← hsp]; exact hl
      exact (List.pairwise_append.1 hpair).2.2 y hy _ (by simp)
    rw [hq] at hle hyk ⊢
    have hno':=hno y hy
    have hne:y.time≠low:=fun e=>by
      have:p y=true:=by simp [p,e,hyk,hpi'.1]
      rw [hno'] at this; cases this
    have hyr:y∈rows:=hp.mem_iff.1 (List.mem_of_mem_take hy)
    have hcl:=hok.closed y hyr (by rw [hyk]; exact hpi'.1)
    have h1:=hok.lo
    have h2:=hok.hi
    rw [hpi'.2] at hle ⊢
    rw [hlow] at hcl h1
    rcases Int.lt_or_le (low - s.size) y.time with h3 | h3
    · have:=hcl h3 (by omega); omega
    · omega
  · have hqr:l[l.findIdx p]∈rows:=hp.mem_iff.1 (List.getElem_mem hlt)
    have h1:=hok.lo
    have h2:=hok.hi
    rw [hq,sessS_eq,sessS_eq,sess_same (by omega) hr hqr hpi'.1 (by rw [hpi'.2,hlow]; exact Int.le_refl _) (by rw [hpi'.2,← hlow]; omega)]
/-- The map that the program makes holds all sessions. -/
theorem mget_sess {s:Wsp} (hs:1≤s.size) {l:List Rw} (hl:Rising l) {k:K3} {v:Int}:∀ n,n≤l.length→(((sessMap s l n).map (·.1)).Nodup∧(mget k (sessMap s l n)=some v↔∃ i,i<n∧begAt s l i=true∧k=((rwAt l i).time,(tkAt s l i).1,(rwAt l i).key)∧v=(tkAt s l i).2))
  | 0,_=>by simp [sessMap,mget]
  | n+1,hn=>by
    obtain ⟨h1,h2⟩:=mget_sess hs hl (k:=k) (v:=v) n (by omega)
    have e:sessMap s l (n+1)=putAt s l (sessMap s l n) n:=by unfold sessMap; rw [List.range_succ,List.foldl_append]; rfl
    rw [e]
    unfold putAt
    by_cases hb:begAt s l n=true
    · rw [if_pos hb]
      refine ⟨mput_nodup h1,?_⟩
      rw [mget_mput]
      by_cases hk:k=((rwAt l n).time,(tkAt s l n).1,(rwAt l n).key)
      · rw [if_pos hk]
        constructor
        · intro hv; exact ⟨n,by omega,hb,hk,(Option.some.inj hv).symm⟩
        · rintro ⟨i,hi,hbi,hki,hvi⟩
          have hin:i=n:=by
            rcases Nat.lt_or_ge i n with h | h
            · exfalso
              rw [hk] at hki
              simp only [Prod.mk.injEq] at hki
              have hmem:rwAt l i∈l.take n:=by
                rw [rwAt_eq (by omega)]
                exact List.mem_take_iff_getElem.2 ⟨i,by omega,rfl⟩
              have:=beg_far (hl.sublist (List.take_sublist _ _)) hb (rwAt l i) hmem hki.2.2.symm
              omega
            · omega
          subst hin
          rw [hvi]
      · rw [if_neg hk,h2]
        constructor
        · rintro ⟨i,hi,hr⟩; exact ⟨i,by omega,hr⟩
        · rintro ⟨i,hi,hbi,hki,hvi⟩
          have:i≠n:=fun e=>hk (by rw [← e]; exact hki)
          exact ⟨i,by omega,hbi,hki,hvi⟩
    · rw [if_neg hb]
      refine ⟨h1,h2.trans ?_⟩
      constructor
      · rintro ⟨i,hi,hr⟩; exact ⟨i,by omega,hr⟩
      · rintro ⟨i,hi,hbi,hr⟩
        have:i≠n:=fun e=>hb (by rw [← e]; exact hbi)
        exact ⟨i,by omega,hbi,hr⟩
theorem sess_holds {s:Wsp} (hk:s.kind≠0) (hs:WOk s) {rows l:List Rw} (hp:l.Perm rows) (hl:Rising l) (hw:Ws rows):Holds (sessMap s l l.length) (allS s rows):=by
  have hwl:Ws l:=fun r hr=>hw r (hp.mem_iff.1 hr)
  have hsz:=hs.size
  refine ⟨(mget_sess (k:=(0,0,0)) (v:=0) hsz hl l.length (Nat.le_refl _)).1,fun k v=>?_⟩
  rw [(mget_sess hsz hl l.length (Nat.le_refl _)).2,mem_all hs]
  unfold winsS
  simp only [if_neg hk,List.mem_singleton,exists_eq_left]
  constructor
  · rintro ⟨i,hi,hb,rfl,rfl⟩
    obtain ⟨h1,h2⟩:=tk_sess hsz hp hl hwl hi hb
    refine ⟨rwAt l i,?_,?_⟩
    · rw [rwAt_eq hi]; exact hp.mem_iff.1 (List.getElem_mem hi)
    · rw [h1,h2]; rfl
  · rintro ⟨r,hr,he⟩
    obtain ⟨i,hi,hb,hkey,hse⟩:=sess_beg hsz hp hl hr
    obtain ⟨h1,h2⟩:=tk_sess hsz hp hl hwl hi hb
    rw [← hse,h1] at he
    obtain ⟨a,b,c⟩:=k
    unfold outS at he
    simp only [Ot.mk.injEq] at he
    obtain ⟨e1,e2,e3,e4⟩:=he
    refine ⟨i,hi,hb,by rw [e1,e2,e3,hkey],?_⟩
    rw [e4,h2,hkey]
end Go.Proofs.YtbajelldegijkaaDoor
/- A queue of two stacks: what is made of its words, and how often words are joined. -/
namespace Go.Proofs.YtbajelldegijkaaDoor
/-- What is made of the words ahead: of each one and all behind it; the first one at the top. -/
def aheadS (f:Int):List Int→List Int
  | []=>[]
  | x::r=>aheadS f r++[foldS f (x::r)]
theorem ahead_len (f:Int):∀ q:List Int,(aheadS f q).length=q.length
  | []=>rfl
  | x::r=>by simp [aheadS,ahead_len f r]
theorem wd_ahead {f:Int}:∀ {q:List Int},(∀ w∈q,Wd w)→∀ w∈aheadS f q,Wd w
  | [],_,w,h=>by simp [aheadS] at h
  | x::r,hq,w,h=>by
    simp only [aheadS,List.mem_append,List.mem_singleton] at h
    rcases h with h | h
    · exact wd_ahead (fun w hw=>hq w (List.mem_cons_of_mem _ hw)) w h
    · rw [h]; exact wd_fold hq
theorem ahead_top {f x:Int} {r:List Int}:(aheadS f (x::r))[(aheadS f (x::r)).length - 1]?=some (foldS f (x::r)):=by simp [aheadS]
theorem ahead_pop {f x:Int} {r:List Int}:(aheadS f (x::r)).take ((aheadS f (x::r)).length - 1)=aheadS f r:=by simp [aheadS]
/-- A queue's state: the words ahead, those behind, and what is made of these. -/
structure QuS where
  qa:List Int
  qb:List Int
  made:Int
  joins:Int
structure QOk (f:Int) (q:List Int) (ops:Nat) (s:QuS):Prop where
  all:s.qa++s.qb=q
  made:s.qb≠[]→s.made=foldS f s.qb
  wm:Wd s.made
  words:∀ w∈q,Wd w
  j0:0≤s.joins
  jn:s.joins+s.qb.length≤3*ops
theorem QOk.put {f : Int} {q : List Int} {n : Nat} {s : QuS} (h : QOk f q n s) {w : Int} (hw : Wd w) :
    ∃ made joins,(made,joins)=(if s.qb=[] then (oneF f w,s.joins) else (twoF f s.made (oneF f w),s.joins+1))∧0≤joins∧(s.qb++[w]≠[]→made=foldS f (s.qb++[w]))∧Wd made∧s.qa++(s.qb++[w])=q++[w]∧(∀ x∈q++[w],Wd x)∧joins+(s.qb++[w]).length≤3*n+2:=by
  have hb:∀ x∈s.qb,Wd x:=fun x hx=>h.words x (by rw [← h.all]; simp [hx])
  have hww:∀ x∈q++[w],Wd x:=fun x hx=>by
    rcases List.mem_append.1 hx with hx | hx
    · exact h.words x hx
    · rw [List.mem_singleton.1 hx]; exact hw
  have hall:s.qa++(s.qb++[w])=q++[w]:=by rw [← h.all,List.append_assoc]
  have h0:=h.j0
  have hn:=h.jn
  by_cases he:s.qb=[]
  · refine ⟨oneF f w,s.joins,by rw [if_pos he],h0,fun _=>?_,wd_one hw,hall,hww,?_⟩
    · rw [he,List.nil_append,fold_one hw]
    · simp only [List.length_append,List.length_singleton]; omega
  · refine ⟨twoF f s.made (oneF f w),s.joins+1,by rw [if_neg he],by omega,fun _=>?_,wd_two h.wm (wd_one hw),hall,hww,?_⟩
    · rw [h.made he,fold_snoc hb hw]
    · simp only [List.length_append,List.length_singleton]; omega
/-- The word of a queue. -/
theorem QOk.fold {f:Int} {q:List Int} {n:Nat} {s:QuS} (h:QOk f q n s):foldS f q=if s.qa=[] then (if s.qb=[] then noneF f else s.made) else if s.qb=[] then foldS f s.qa else twoF f (foldS f s.qa) s.made:=by
  have ha:∀ x∈s.qa,Wd x:=fun x hx=>h.words x (by rw [← h.all]; simp [hx])
  have hb:∀ x∈s.qb,Wd x:=fun x hx=>h.words x (by rw [← h.all]; simp [hx])
  rw [← h.all]
  by_cases h1:s.qa=[]
  · rw [if_pos h1]
    by_cases h2:s.qb=[]
    · rw [if_pos h2,h1,h2]; rfl
    · rw [if_neg h2,h.made h2,h1,List.nil_append]
  · rw [if_neg h1]
    by_cases h2:s.qb=[]
    · rw [if_pos h2,h2,List.append_nil]
    · rw [if_neg h2,h.made h2,fold_app ha hb]
theorem queWords_len (f:Int):∀ (ops q:List Int),(queWords f q ops).length=ops.length
  | [],_=>rfl
  | n::r,q=>by simp [queWords,queWords_len f r]
def queAll (q:List Int) (ops:List Int):List Int:=ops.foldl queS q
theorem queWords_snoc (f:Int):∀ (ops q:List Int) (n:Int),queWords f q (ops++[n])=queWords f q ops++[foldS f (queS (queAll q ops) n)]
  | [],q,n=>rfl
  | x::r,q,n=>by
    rw [List.cons_append,queWords,queWords,queWords_snoc f r]
    rfl
theorem queAll_snoc (q ops:List Int) (n:Int):queAll q (ops++[n])=queS (queAll q ops) n:=by unfold queAll; rw [List.foldl_append]; rfl
end Go.Proofs.YtbajelldegijkaaDoor
/- The theorem of the stream: what is told, and what is left, is all windows of the rows that did not come too late. -/
namespace Go.Proofs.YtbajelldegijkaaDoor
/-- Rows that come at a mark or behind it change nothing of what is over there. -/
theorem all_stable {s:Wsp} (hs:WOk s) {l e:List Rw} {m:Int} (he:∀ r∈e,m≤r.time) {x:Ot} (hx:x.to≤m):x∈allS s l↔x∈allS s (l++e):=by
  have hin:∀ r∈e,inW x.key (x.fr,x.to) r=false:=by
    intro r hr
    rw [← Bool.not_eq_true,inW_iff]
    have:=he r hr
    simp only; omega
  have hword:wordS s.fold (l++e) (x.fr,x.to) x.key=wordS s.fold l (x.fr,x.to) x.key:=by
    unfold wordS
    have h0:e.filter (inW x.key (x.fr,x.to))=[]:=List.filter_eq_nil_iff.2 fun r hr=>by rw [hin r hr]; simp
    rw [List.filter_append,h0,List.append_nil]
  by_cases hk:s.kind=0
  · rw [slide_mem hk hs,slide_mem hk hs,hword]
    have hex:(∃ r∈l++e,inW x.key (x.fr,x.to) r=true)↔∃ r∈l,inW x.key (x.fr,x.to) r=true:=by
      constructor
      · rintro ⟨r,hr,h2⟩
        rcases List.mem_append.1 hr with hr | hr
        · exact ⟨r,hr,h2⟩
        · rw [hin r hr] at h2; cases h2
      · rintro ⟨r,hr,h2⟩; exact ⟨r,by simp [hr],h2⟩
    rw [hex]
  · rw [mem_all hs,mem_all hs]
    unfold winsS
    simp only [if_neg hk,List.mem_singleton,exists_eq_left]
    have hsz:=hs.size
    -- a session that is over is one of more rows
    have up:∀ r∈l,(sessB s l r).2+s.size≤m→sessB s (l++e) r=sessB s l r:=by
      intro r hr hto
      have h:=sess_ok (s:=s) hr
      refine (sess_ok (List.mem_append_left e hr)).unique ⟨?_,h.lo,h.hi,fun d hd h1 h2=>h.least d (fun y hy=>hd y (List.mem_append_left e hy)) h1 h2⟩
      intro y hy hyk h1 h2
      rcases List.mem_append.1 hy with hy | hy
      · exact h.closed y hy hyk h1 h2
      · have:=he y hy; omega
    constructor
    · rintro ⟨r,hr,rfl⟩
      have hto:(sessB s l r).2+s.size≤m:=hx
      refine ⟨r,List.mem_append_left e hr,?_⟩
      have hsess:sessS s (l++e) r=sessS s l r:=by rw [sessS_eq,sessS_eq,up r hr hto]
      rw [hsess]
      unfold outS
      have hw:wordS s.fold (l++e) (sessS s l r) r.key=wordS s.fold l (sessS s l r) r.key:=hword
      rw [hw]
    · rintro ⟨r,hr,he2⟩
      subst he2
      have hto:(sessB s (l++e) r).2+s.size≤m:=hx
      have hok:=sess_ok (s:=s) hr
      have hlo:=hok.lo
      have hhi:=hok.hi
      rcases List.mem_append.1 hr with hr' | hr'
      · have hin2:Within (sessB s l r) (sessB s (l++e) r):=(sess_ok (s:=s) hr').least _ (fun y hy=>hok.closed y (List.mem_append_left e hy)) hlo hhi
        have hB:=up r hr' (by unfold Within at hin2; omega)
        refine ⟨r,hr',?_⟩
        have hsess:sessS s (l++e) r=sessS s l r:=by rw [sessS_eq,sessS_eq,hB]
        rw [hsess] at hword ⊢
        unfold outS
        have hw:wordS s.fold (l++e) (sessS s l r) r.key=wordS s.fold l (sessS s l r) r.key:=hword
        rw [hw]
      · have:=he r hr'; omega
/-! The state behind some rows -/
theorem runS_snoc (s:Wsp) (l:List Rw) (r:Rw):runS s (l++[r])=stepS s (runS s l) r:=by unfold runS; rw [List.foldl_append]; rfl
def hadS (s:Wsp) (l:List Rw):List Rw:=(runS s l).2.1
def markS (s:Wsp) (l:List Rw):Int:=(runS s l).2.2
def stpsS (s:Wsp) (l:List Rw):List Stp:=(runS s l).1
def toldS (s:Wsp) (l:List Rw):List Ot:=(stpsS s l).flatMap (·.outs)
theorem run_late {s:Wsp} {l:List Rw} {r:Rw} (h:r.time<markS s l):stpsS s (l++[r])=stpsS s l++[⟨true,[]⟩]∧hadS s (l++[r])=hadS s l∧markS s (l++[r])=markS s l:=by
  unfold stpsS hadS markS
  rw [runS_snoc]
  unfold stepS
  rw [if_pos (show r.time<(runS s l).2.2 from h)]
  exact ⟨rfl,rfl,rfl⟩
theorem run_on {s:Wsp} {l:List Rw} {r:Rw} (h:¬ r.time<markS s l):stpsS s (l++[r])=stpsS s l++[⟨false,overS (allS s (hadS s l++[r])) (markS s l) (max (markS s l) (r.time - s.late))⟩]∧hadS s (l++[r])=hadS s l++[r]∧markS s (l++[r])=max (markS s l) (r.time - s.late):=by
  unfold stpsS hadS markS
  rw [runS_snoc]
  unfold stepS
  rw [if_neg (show ¬ r.time<(runS s l).2.2 from h)]
  exact ⟨rfl,rfl,rfl⟩
theorem stps_len (s:Wsp):∀ l:List Rw,(stpsS s l).length=l.length:=by
  intro l
  have key:∀ (m:List Rw) (st:List Stp × List Rw × Int),(m.foldl (stepS s) st).1.length=st.1.length+m.length:=by
    intro m
    induction m with
    | nil=>intro st; rfl
    | cons r t ih =>
      intro st
      rw [List.foldl_cons,ih]
      unfold stepS
      split <;> simp <;> omega
  exact (key l ([],[],0)).trans (by simp)
/-- What was told is what is over. -/
theorem told_ok {s:Wsp} (hs:WOk s):∀ (n:Nat) (l:List Rw),l.length=n→(toldS s l).Nodup∧∀ x,x∈toldS s l↔x∈allS s (hadS s l)∧0<x.to∧x.to≤markS s l:=by
  intro n
  induction n with
  | zero =>
    intro l hl
    have:l=[]:=List.length_eq_zero_iff.1 hl
    subst this
    exact ⟨by simp [toldS,stpsS,runS],fun x=>by simp [toldS,stpsS,hadS,markS,runS,mem_all hs]⟩
  | succ n ih =>
    intro l hl
    obtain ⟨p,r,rfl⟩:∃ p r,l=p++[r]:=⟨l.dropLast,l.getLast (by intro e; subst e; simp at hl),(List.dropLast_concat_getLast _).symm⟩
    obtain ⟨h1,h2⟩:=ih p (by simpa using hl)
    by_cases hlate:r.time<markS s p
    · obtain ⟨e1,e2,e3⟩:=run_late hlate
      have et:toldS s (p++[r])=toldS s p:=by unfold toldS; rw [e1]; simp
      rw [et,e2,e3]
      exact ⟨h1,h2⟩
    · obtain ⟨e1,e2,e3⟩:=run_on hlate
      have et:toldS s (p++[r])=toldS s p++overS (allS s (hadS s p++[r])) (markS s p) (max (markS s p) (r.time - s.late)):=by unfold toldS; rw [e1]; simp
      rw [et,e2,e3]
      have hup:=all_up hs (hadS s p++[r])
      have hst:=fun {x:Ot}=>all_stable hs (l:=hadS s p) (e:=[r]) (m:=markS s p) (fun y hy=>by rw [List.mem_singleton.1 hy]; omega) (x:=x)
      generalize hm:markS s p=m at *
      generalize hm2:max m (r.time - s.late)=m2
      have hmm:m≤m2:=by omega
      refine ⟨List.nodup_append.2 ⟨h1,up_nodup tLt_irr (over_up hup _ _),fun a ha b hb e=>?_⟩,fun x=>?_⟩
      · subst e
        have q1:=(h2 a).1 ha
        have q2:=(mem_over hup).1 hb
        omega
      · rw [List.mem_append,h2,mem_over hup]
        by_cases hx:x.to≤m
        · rw [hst hx]
          constructor
          · rintro (⟨a1,a2,a3⟩ | ⟨a1,a2,a3⟩)
            · exact ⟨a1,a2,by omega⟩
            · omega
          · rintro ⟨a1,a2,a3⟩; exact .inl ⟨a1,a2,hx⟩
        · constructor
          · rintro (⟨a1,a2,a3⟩ | ⟨a1,a2,a3⟩)
            · exact absurd a3 hx
            · exact ⟨a1,by have h0:0≤m:=(by
                  rw [← hm]
                  have:∀ (q:List Rw) (st:List Stp × List Rw × Int),0≤st.2.2→0≤(q.foldl (stepS s) st).2.2:=by
                    intro q
                    induction q with
                    | nil=>intro st h; exact h
                    | cons y t ih2 =>
                      intro st h
                      rw [List.foldl_cons]
                      refine ih2 _ ?_
                      unfold stepS
                      split
                      · exact h
                      · show 0≤max _ _; omega
                  exact this p _ (Int.le_refl 0)); omega,a3⟩
          · rintro ⟨a1,a2,a3⟩; exact .inr ⟨a1,by omega,a3⟩
end Go.Proofs.YtbajelldegijkaaDoor
/- Whatever the order of rows all windows are the same; how late rows may be. -/
namespace Go.Proofs.YtbajelldegijkaaDoor
theorem word_perm {f:Int} {l m:List Rw} (h:l.Perm m) (hw:Ws l) (w:Int × Int) (k:Int):wordS f l w k=wordS f m w k:=fold_perm ((h.filter _).map _) (hw.filter _)
theorem wins_mem {s:Wsp} {l m:List Rw} (h:∀ x,x∈m↔x∈l) {r:Rw} (hr:r∈l):winsS s m r=winsS s l r:=by
  unfold winsS
  split
  · rfl
  · rw [sessS_eq,sessS_eq,sessB_mem h hr]
theorem all_perm {s:Wsp} (hs:WOk s) {l m:List Rw} (h:l.Perm m) (hw:Ws l):allS s l=allS s m:=by
  refine oup_ext (all_up hs l) (all_up hs m) fun x=>?_
  rw [mem_all hs,mem_all hs]
  have hm:∀ x,x∈m↔x∈l:=fun x=>h.symm.mem_iff
  constructor
  · rintro ⟨r,hr,w,hwn,rfl⟩
    exact ⟨r,(hm r).2 hr,w,by rw [wins_mem hm hr]; exact hwn,by unfold outS; rw [word_perm h hw]⟩
  · rintro ⟨r,hr,w,hwn,rfl⟩
    have hr':=(hm r).1 hr
    exact ⟨r,hr',w,by rw [← wins_mem hm hr']; exact hwn,by unfold outS; rw [word_perm h hw]⟩
/-! How late rows may be -/
def topT (l:List Rw):Int:=l.foldl (fun m r=>max m r.time) 0
theorem topT_snoc (l:List Rw) (r:Rw):topT (l++[r])=max (topT l) r.time:=by unfold topT; rw [List.foldl_append]; rfl
theorem snoc_ind {α:Type} {M:List α→Prop} (h0:M []) (h1:∀ l x,M l→M (l++[x])):∀ l,M l:=by
  have key:∀ (n:Nat) (l:List α),l.length=n→M l:=by
    intro n
    induction n with
    | zero=>intro l hl; rw [List.length_eq_zero_iff.1 hl]; exact h0
    | succ n ih =>
      intro l hl
      obtain ⟨p,r,rfl⟩:∃ p r,l=p++[r]:=⟨l.dropLast,l.getLast (by intro e; subst e; simp at hl),(List.dropLast_concat_getLast _).symm⟩
      exact h1 p r (ih p (by simpa using hl))
  exact fun l=>key _ l rfl
theorem mark_top {s:Wsp} (h0:0≤s.late):∀ l:List Rw,(∀ r∈l,0≤r.time)→markS s l=max 0 (topT l - s.late):=by
  intro l
  induction l using snoc_ind with
  | h0=>intro _; show (0:Int)=_; simp only [topT,List.foldl_nil]; omega
  | h1 p r ih =>
    intro hl
    have ihp:=ih fun x hx=>hl x (by simp [hx])
    have hr:=hl r (by simp)
    rw [topT_snoc]
    by_cases h:r.time<markS s p
    · rw [(run_late h).2.2,ihp]; rw [ihp] at h; omega
    · rw [(run_on h).2.2,ihp]; omega
theorem topT_le {l:List Rw} {b:Int} (h0:0≤b) (h:∀ r∈l,r.time≤b):topT l≤b:=by
  induction l using snoc_ind with
  | h0=>exact h0
  | h1 p r ih =>
    rw [topT_snoc]
    have:=ih fun x hx=>h x (by simp [hx])
    have:=h r (by simp)
    omega
/-- The step of a row. -/
def stpAt (s:Wsp) (l:List Rw) (i:Nat):Stp:=if (l.getD i default).time<markS s (l.take i) then ⟨true,[]⟩ else ⟨false,overS (allS s (hadS s (l.take i)++[l.getD i default])) (markS s (l.take i)) (max (markS s (l.take i)) ((l.getD i default).time - s.late))⟩
theorem stps_map (s:Wsp) (l:List Rw):∀ n,n≤l.length→stpsS s (l.take n)=(List.range n).map (stpAt s l)
  | 0,_=>rfl
  | n+1,h=>by
    have hd:l.getD n default=l[n]:=by rw [List.getD_eq_getElem?_getD,List.getElem?_eq_getElem (by omega)]; rfl
    rw [List.take_succ_eq_append_getElem (by omega),List.range_succ,List.map_append,← stps_map s l n (by omega)]
    show _=_++[stpAt s l n]
    unfold stpAt
    rw [hd]
    by_cases q:l[n].time<markS s (l.take n)
    · rw [(run_late q).1,if_pos q]
    · rw [(run_on q).1,if_neg q]
theorem stps_get {s:Wsp} {l:List Rw} {i:Nat} (h2:i<(stpsS s l).length):(stpsS s l)[i]=stpAt s l i:=by
  have:=stps_map s l l.length (Nat.le_refl _)
  rw [List.take_length] at this
  simp [this]
theorem late_at {s:Wsp} {l:List Rw} {i:Nat}:(stpAt s l i).late=decide ((l.getD i default).time<markS s (l.take i)):=by
  unfold stpAt
  split
  · rename_i h; exact (decide_eq_true h).symm
  · rename_i h; exact (decide_eq_false h).symm
/-- In the order of their times no row is too late. -/
theorem rising_on {s:Wsp} (h0:0≤s.late) {l:List Rw} (hp:l.Pairwise fun a b=>a.time≤b.time) (ht:∀ r∈l,0≤r.time) {i:Nat} (hi:i<l.length):(stpAt s l i).late=false:=by
  rw [late_at,decide_eq_false_iff_not,mark_top h0 _ (fun r hr=>ht r (List.mem_of_mem_take hr))]
  have hd:l.getD i default=l[i]:=by rw [List.getD_eq_getElem?_getD,List.getElem?_eq_getElem hi]; rfl
  rw [hd]
  have h1:topT (l.take i)≤l[i].time:=topT_le (ht _ (List.getElem_mem hi)) fun r hr=>by
    have hsp:l=l.take i++l[i]::l.drop (i+1):=by rw [← List.drop_eq_getElem_cons hi,List.take_append_drop]
    have hp2:(l.take i++l[i]::l.drop (i+1)).Pairwise fun a b=>a.time≤b.time:=by rw [← hsp]; exact hp
    exact (List.pairwise_append.1 hp2).2.2 r hr _ (List.mem_cons.2 (.inl rfl))
  have h2:=ht _ (List.getElem_mem hi)
  omega
/-- What is too late is so with a lesser Late. -/
theorem late_less {s s':Wsp} (h0:0≤s.late) (h1:0≤s'.late) (hle:s'.late≤s.late) {l:List Rw} (ht:∀ r∈l,0≤r.time) {i:Nat} (h:(stpAt s l i).late=true):(stpAt s' l i).late=true:=by
  rw [late_at,decide_eq_true_eq] at h ⊢
  rw [mark_top h0 _ (fun r hr=>ht r (List.mem_of_mem_take hr))] at h
  rw [mark_top h1 _ (fun r hr=>ht r (List.mem_of_mem_take hr))]
  omega
theorem late_none {s:Wsp} {b:Int} (hb:b≤s.late) (hb0:0≤b) {l:List Rw} (ht:∀ r∈l,0≤r.time∧r.time≤b) {i:Nat} (hi:i<l.length):(stpAt s l i).late=false:=by
  rw [late_at,decide_eq_false_iff_not,mark_top (by omega) _ (fun r hr=>(ht r (List.mem_of_mem_take hr)).1)]
  have hd:l.getD i default=l[i]:=by rw [List.getD_eq_getElem?_getD,List.getElem?_eq_getElem hi]; rfl
  rw [hd]
  have:=topT_le hb0 fun r (hr:r∈l.take i)=>(ht r (List.mem_of_mem_take hr)).2
  have:=(ht _ (List.getElem_mem hi)).1
  omega
theorem turn_eq {l:List Rw} {k:Nat} (hk:k<l.length):((List.range l.length).map fun i=>l.getD ((i+k) % l.length) default)=l.drop k++l.take k:=by
  apply List.ext_getElem
  · simp; omega
  · intro i h1 h2
    simp only [List.length_map,List.length_range] at h1
    rw [List.getElem_map,List.getElem_range]
    by_cases q:i+k<l.length
    · rw [Nat.mod_eq_of_lt q,List.getD_eq_getElem?_getD,List.getElem?_eq_getElem q,List.getElem_append_left (by simp; omega),List.getElem_drop]
      simp [Nat.add_comm]
    · have e2:(i+k) % l.length=i+k - l.length:=by rw [Nat.mod_eq_sub_mod (by omega),Nat.mod_eq_of_lt (by omega)]
      rw [e2,List.getD_eq_getElem?_getD,List.getElem?_eq_getElem (by omega),List.getElem_append_right (by simp; omega),List.getElem_take]
      simp only [List.length_drop,Option.getD_some]
      congr 1; omega
/-- Turned by some places: the same rows. -/
theorem turn_perm {l:List Rw} {t:Nat}:((List.range l.length).map fun i=>l.getD ((i+t) % l.length) default).Perm l:=by
  rcases Nat.eq_zero_or_pos l.length with h0 | h0
  · rw [List.length_eq_zero_iff.1 h0]; exact List.Perm.refl _
  · have hk:=Nat.mod_lt t h0
    have e:((List.range l.length).map fun i=>l.getD ((i+t) % l.length) default)=(List.range l.length).map fun i=>l.getD ((i+t % l.length) % l.length) default:=by
      refine List.map_congr_left fun i _=>?_
      rw [Nat.add_mod_mod]
    rw [e,turn_eq hk]
    exact List.perm_append_comm.trans (by rw [List.take_append_drop])
end Go.Proofs.YtbajelldegijkaaDoor
/- Windows that do not meet: each row is in just one; what all of them make together. -/
namespace Go.Proofs.YtbajelldegijkaaDoor
/-- How a stream is cut into windows that do not meet. -/
structure Tumb (s:Wsp):Prop where
  ok:WOk s
  tumb:s.kind=0→s.step=s.size
def inX (x:Ot) (r:Rw):Bool:=inW x.key (x.fr,x.to) r
theorem countP_one {α:Type} {p:α→Bool}:∀ {l:List α},l.Nodup→(∃ x∈l,p x=true)→(∀ x∈l,∀ y∈l,p x=true→p y=true→x=y)→l.countP p=1
  | [],_,h,_=>by obtain ⟨x,hx,_⟩:=h; simp at hx
  | x::r,hn,h,hu=>by
    have hn':=List.nodup_cons.1 hn
    rw [List.countP_cons]
    by_cases hx:p x=true
    · rw [if_pos hx]
      have:r.countP p=0:=List.countP_eq_zero.2 fun y hy hpy=>hn'.1 (by rw [hu x (by simp) y (by simp [hy]) hx hpy]; exact hy)
      omega
    · rw [if_neg hx]
      obtain ⟨y,hy,hpy⟩:=h
      rcases List.mem_cons.1 hy with rfl | hy
      · exact absurd hpy hx
      · have:=countP_one hn'.2 ⟨y,hy,hpy⟩ fun a ha b hb=>hu a (List.mem_cons_of_mem _ ha) b (List.mem_cons_of_mem _ hb)
        omega
theorem sess_in {s:Wsp} (hs:1≤s.size) {l:List Rw} {r q:Rw} (hr:r∈l) (hq:q∈l) (hk:r.key=q.key) (h1:(sessS s l q).1≤r.time) (h2:r.time<(sessS s l q).2):sessS s l r=sessS s l q:=by
  rw [sessS_eq] at h1 h2
  simp only at h1 h2
  have hok:=sess_ok (s:=s) hq
  have hlo:=hok.lo
  have hhi:=hok.hi
  have hc:=hok.closed r hr hk (by omega) h2
  rw [sessS_eq,sessS_eq,sess_same (by omega) hq hr hk hc.1 hc.2]
theorem in_one {s:Wsp} (ht:Tumb s) {l:List Rw} {r:Rw} (hr:r∈l) {x y:Ot} (hx:x∈allS s l) (hy:y∈allS s l) (h1:inX x r=true) (h2:inX y r=true):x=y:=by
  have hs:=ht.ok
  unfold inX at h1 h2
  rw [inW_iff] at h1 h2
  have hall:=(all_go hs l).2
  refine outs_one hs (l:=l) x ?_ y ?_ ?_ (by rw [← h1.1,← h2.1])
  · simpa using (hall x).1 hx
  · simpa using (hall y).1 hy
  · by_cases hk:s.kind=0
    · obtain ⟨⟨i,_,e1⟩,_⟩:=(slide_mem hk hs).1 hx
      obtain ⟨⟨j,_,e2⟩,_⟩:=(slide_mem hk hs).1 hy
      have hst:=ht.tumb hk
      have hsz:=hs.size
      simp only [Prod.mk.injEq] at e1 e2
      simp only at h1 h2
      rw [e1.1,e1.2] at h1
      rw [e2.1,e2.2] at h2
      rw [e1.1,e2.1]
      have hij:i=j:=by
        rcases Int.lt_trichotomy i j with q | q | q
        · have:(i+1)*s.step≤j*s.step:=Int.mul_le_mul_of_nonneg_right (by omega) (by omega)
          rw [Int.add_mul] at this; omega
        · exact q
        · have:(j+1)*s.step≤i*s.step:=Int.mul_le_mul_of_nonneg_right (by omega) (by omega)
          rw [Int.add_mul] at this; omega
      rw [hij]
    · rw [mem_all hs] at hx hy
      unfold winsS at hx hy
      simp only [if_neg hk,List.mem_singleton,exists_eq_left] at hx hy
      obtain ⟨a,ha,rfl⟩:=hx
      obtain ⟨b,hb,rfl⟩:=hy
      have e1:=sess_in hs.size hr ha h1.1 h1.2.1 h1.2.2
      have e2:=sess_in hs.size hr hb h2.1 h2.2.1 h2.2.2
      show (sessS s l a).1=(sessS s l b).1
      rw [← e1,← e2]
theorem in_some {s:Wsp} (ht:Tumb s) {l:List Rw} {r:Rw} (hr:r∈l) (h0:0≤r.time):∃ x∈allS s l,inX x r=true:=by
  have hs:=ht.ok
  by_cases hk:s.kind=0
  · have hsp:=hs.sp hk
    have h1:=hsp.step
    have hst:=ht.tumb hk
    have hin:(r.time / s.step*s.step,r.time / s.step*s.step+s.size)∈spansS s r.time:=by
      refine (mem_spans hsp).2 ⟨⟨r.time / s.step,Int.ediv_nonneg h0 (by omega),rfl⟩,?_,?_⟩
      · exact Int.ediv_mul_le _ (by omega)
      · show r.time<r.time / s.step*s.step+s.size
        rw [← hst]
        have:=Int.lt_ediv_add_one_mul_self r.time (show 0<s.step by omega)
        rw [Int.add_mul] at this; omega
    refine ⟨outS s l r.key _,(mem_all hs).2 ⟨r,hr,_,by unfold winsS; rw [if_pos hk]; exact hin,rfl⟩,?_⟩
    have:=(mem_spans hsp).1 hin
    unfold inX; rw [inW_iff]; exact ⟨rfl,this.2.1,this.2.2⟩
  · have hok:=sess_ok (s:=s) hr
    have hsz:=hs.size
    refine ⟨outS s l r.key (sessS s l r),(mem_all hs).2 ⟨r,hr,_,by unfold winsS; rw [if_neg hk]; simp,rfl⟩,?_⟩
    unfold inX; rw [inW_iff,sessS_eq]
    have h1:=hok.lo
    have h2:=hok.hi
    refine ⟨rfl,h1,?_⟩
    show r.time<(sessB s l r).2+s.size
    omega
theorem in_count {s:Wsp} (ht:Tumb s) {l:List Rw} {r:Rw} (hr:r∈l) (h0:0≤r.time):(allS s l).countP (fun x=>inX x r)=1 :=
  countP_one (up_nodup oLt_irr (all_up ht.ok l)) (in_some ht hr h0) fun _ hx _ hy h1 h2=>in_one ht hr hx hy h1 h2
theorem count_flat {p:Ot→Rw→Bool} {l:List Rw} (a:Rw):∀ L:List Ot,(L.flatMap fun x=>l.filter (p x)).count a=L.countP (fun x=>p x a)*l.count a
  | []=>by simp
  | x::r=>by
    rw [List.flatMap_cons,List.count_append,count_flat a r,List.countP_cons]
    by_cases h:p x a=true
    · rw [List.count_filter h,if_pos h,Nat.add_mul,Nat.one_mul,Nat.add_comm]
    · rw [if_neg h,Nat.add_zero,List.count_eq_zero.2 (fun hm=>h (List.mem_filter.1 hm).2),Nat.zero_add]
theorem flat_perm {s:Wsp} (ht:Tumb s) {l:List Rw} (h0:∀ r∈l,0≤r.time):((allS s l).flatMap fun x=>l.filter (inX x)).Perm l:=by
  rw [List.perm_iff_count]
  intro a
  rw [count_flat]
  by_cases ha:a∈l
  · rw [in_count ht ha (h0 a ha),Nat.one_mul]
  · rw [List.count_eq_zero.2 ha,Nat.mul_zero]
/-- Another fold: the same windows with other words. -/
def refold (g:Int) (l:List Rw) (x:Ot):Ot:=⟨x.fr,x.to,x.key,wordS g l (x.fr,x.to) x.key⟩
theorem passes_fold (s:Wsp) (g key:Int) (l:List Rw):∀ (n:Nat) (lh:Int × Int),passes { s with fold:=g } key l n lh=passes s key l n lh
  | 0,_=>rfl
  | n+1,_lh=>passes_fold s g key l n _
theorem wins_fold (s:Wsp) (g:Int) (l:List Rw) (r:Rw):winsS { s with fold:=g } l r=winsS s l r:=by
  unfold winsS sessS
  rw [passes_fold]; rfl
theorem all_fold {s:Wsp} (hs:WOk s) (g:Int) (l:List Rw):allS { s with fold:=g } l=(allS s l).map (refold g l):=by
  have hs':WOk { s with fold:=g }:=⟨hs.kind,fun h=>⟨(hs.sp h).step,(hs.sp h).size⟩,hs.size⟩
  refine oup_ext (all_up hs' l) ?_ fun x=>?_
  · refine List.pairwise_map.2 ((all_up hs l).imp fun {a b} h=>?_)
    rw [oLt_iff] at h ⊢
    exact h
  · rw [mem_all hs',List.mem_map]
    constructor
    · rintro ⟨r,hr,w,hw,rfl⟩
      rw [wins_fold] at hw
      exact ⟨outS s l r.key w,(mem_all hs).2 ⟨r,hr,w,hw,rfl⟩,rfl⟩
    · rintro ⟨y,hy,rfl⟩
      obtain ⟨r,hr,w,hw,rfl⟩:=(mem_all hs).1 hy
      exact ⟨r,hr,w,by rw [wins_fold]; exact hw,rfl⟩
theorem all_word {s:Wsp} (hs:WOk s) {l:List Rw} {x:Ot} (hx:x∈allS s l):x.word=foldS s.fold ((l.filter (inX x)).map (·.word)):=by
  obtain ⟨r,hr,w,hw,rfl⟩:=(mem_all hs).1 hx
  rfl
theorem all_some {s:Wsp} (hs:WOk s) {l:List Rw} {x:Ot} (hx:x∈allS s l):∃ r∈l,inX x r=true:=by
  obtain ⟨r,hr,w,hw,rfl⟩:=(mem_all hs).1 hx
  refine ⟨r,hr,?_⟩
  unfold inX; rw [inW_iff]
  unfold winsS at hw
  by_cases hk:s.kind=0
  · rw [if_pos hk] at hw
    have:=(mem_spans (hs.sp hk)).1 hw
    exact ⟨rfl,this.2.1,this.2.2⟩
  · rw [if_neg hk] at hw
    rw [List.mem_singleton.1 hw]
    have hok:=sess_ok (s:=s) hr
    have h1:=hok.lo
    have h2:=hok.hi
    have hsz:=hs.size
    refine ⟨rfl,h1,?_⟩
    show r.time<(sessB s l r).2+s.size
    omega
/-- Windows of one key do not meet. -/
theorem all_apart {s:Wsp} (ht:Tumb s) {l:List Rw} {x y:Ot} (hx:x∈allS s l) (hy:y∈allS s l) (hk:x.key=y.key) (hlt:x.fr<y.fr):x.to≤y.fr:=by
  have hs:=ht.ok
  by_cases hkd:s.kind=0
  · obtain ⟨⟨i,_,e1⟩,_⟩:=(slide_mem hkd hs).1 hx
    obtain ⟨⟨j,_,e2⟩,_⟩:=(slide_mem hkd hs).1 hy
    have hst:=ht.tumb hkd
    have hsz:=hs.size
    simp only [Prod.mk.injEq] at e1 e2
    rw [e1.1,e2.1] at hlt
    rw [e1.2,e2.1]
    have hij:i<j:=by
      rcases Int.lt_or_le i j with q | q
      · exact q
      · have:j*s.step≤i*s.step:=Int.mul_le_mul_of_nonneg_right q (by omega)
        omega
    have:(i+1)*s.step≤j*s.step:=Int.mul_le_mul_of_nonneg_right (by omega) (by omega)
    rw [Int.add_mul] at this; omega
  · rw [mem_all hs] at hx hy
    unfold winsS at hx hy
    simp only [if_neg hkd,List.mem_singleton,exists_eq_left] at hx hy
    obtain ⟨a,ha,rfl⟩:=hx
    obtain ⟨b,hb,rfl⟩:=hy
    have hkk:a.key=b.key:=hk
    rcases Int.lt_or_le (sessS s l b).1 (sessS s l a).2 with q | q
    · exfalso
      obtain ⟨⟨c,hc,hck,hct⟩,_⟩:=sess_ends (s:=s) hb
      have e0:(sessS s l b).1=(sessB s l b).1:=rfl
      have h1:(sessS s l a).1<(sessS s l b).1:=hlt
      have e1:=sess_in hs.size hc ha (by rw [hck,hkk]) (by omega) (by omega)
      have hokb:=sess_ok (s:=s) hb
      have h4:=hokb.lo
      have h5:=hokb.hi
      have e2:sessB s l c=sessB s l b:=sess_same (by have:=hs.size; omega) hb hc hck (by omega) (by omega)
      have e3:sessS s l c=sessS s l b:=by rw [sessS_eq,sessS_eq,e2]
      rw [e3] at e1
      rw [e1] at h1; omega
    · exact q
/-- What all windows make together. -/
theorem fold_flat {f:Int} {g:Ot→List Int}:∀ {L:List Ot} {a:Int},Wd a→(∀ x∈L,∀ w∈g x,Wd w)→L.foldl (fun a x=>twoF f a (foldS f (g x))) a=twoF f a (foldS f (L.flatMap g))
  | [],a,ha,_=>by
    show a=twoF f a (noneF f)
    rw [two_none' ha]
  | x::r,a,ha,h=>by
    have hx:=h x (by simp)
    have hr:∀ y∈r,∀ w∈g y,Wd w:=fun y hy=>h y (List.mem_cons_of_mem _ hy)
    have hf:∀ w∈r.flatMap g,Wd w:=fun w hw=>by
      obtain ⟨y,hy,hw⟩:=List.mem_flatMap.1 hw
      exact hr y hy w hw
    rw [List.foldl_cons,fold_flat (wd_two ha (wd_fold hx)) hr,List.flatMap_cons,fold_app hx hf,two_assoc]
theorem sum_flat {g:Ot→List Int}:∀ {L:List Ot} {a:Int},(∀ x∈L,(g x).length<2147483648)→L.foldl (fun a x=>a+foldS 0 (g x)) a=a+((L.flatMap g).length:Int)
  | [],a,_=>by simp
  | x::r,a,h=>by
    rw [List.foldl_cons,sum_flat (fun y hy=>h y (List.mem_cons_of_mem _ hy)),fold_count (h x (by simp)),List.flatMap_cons,List.length_append]
    omega
def wordsX (l:List Rw) (x:Ot):List Int:=(l.filter (inX x)).map (·.word)
theorem words_perm {s:Wsp} (ht:Tumb s) {l:List Rw} (h0:∀ r∈l,0≤r.time):((allS s l).flatMap (wordsX l)).Perm (l.map (·.word)):=by
  have e:(allS s l).flatMap (wordsX l)=((allS s l).flatMap fun x=>l.filter (inX x)).map (·.word):=by rw [List.map_flatMap]; rfl
  rw [e]
  exact (flat_perm ht h0).map _
/-- Counts add up to how many rows there are. -/
theorem count_all {s:Wsp} (ht:Tumb s) {l:List Rw} (h0:∀ r∈l,0≤r.time) (hl:l.length<2147483648):(allS s l).foldl (fun a x=>a+foldS 0 (wordsX l x)) 0=l.length:=by
  rw [sum_flat (fun x _=>by
    unfold wordsX; rw [List.length_map]
    have:=List.length_filter_le (inX x) l; omega),(words_perm ht h0).length_eq,List.length_map]
  omega
theorem fold_all {s:Wsp} (ht:Tumb s) {l:List Rw} (h0:∀ r∈l,0≤r.time) (hw:Ws l) (f:Int):(allS s l).foldl (fun a x=>twoF f a (foldS f (wordsX l x))) (noneF f)=foldS f (l.map (·.word)):=by
  have hx:∀ x∈allS s l,∀ w∈wordsX l x,Wd w:=fun x _=>hw.filter _
  have hf:∀ w∈(allS s l).flatMap (wordsX l),Wd w:=fun w hw2=>by
    obtain ⟨y,hy,hw2⟩:=List.mem_flatMap.1 hw2
    exact hx y hy w hw2
  rw [fold_flat (wd_none f) hx,two_none (wd_fold hf)]
  exact fold_perm (words_perm ht h0) hf
end Go.Proofs.YtbajelldegijkaaDoor
/- Rows in order of time: what the steps of a stable sort come to. -/
namespace Go.Proofs.YtbajelldegijkaaDoor
def tmA (d:List Rw) (i:Nat):Int:=(d[i]?.getD default).time
theorem tmA_eq {d:List Rw} {i:Nat} (h:i<d.length):d[i].time=tmA d i:=by unfold tmA; simp [h]
def SrtR (d:List Rw) (a b:Nat):Prop:=∀ i j,a≤i→i<j→j<b→tmA d i≤tmA d j
/-- Changed in a piece only, and there by moves. -/
structure Ch (a b:Nat) (d d':List Rw):Prop where
  perm:d'.Perm d
  out:∀ k,k<a∨b≤k→d'[k]?=d[k]?
theorem Ch.refl {a b:Nat} {d:List Rw}:Ch a b d d:=⟨List.Perm.refl _,fun _ _=>rfl⟩
theorem Ch.trans {a b:Nat} {d d1 d2:List Rw} (h:Ch a b d d1) (g:Ch a b d1 d2):Ch a b d d2:=⟨g.perm.trans h.perm,fun k hk=>(g.out k hk).trans (h.out k hk)⟩
theorem Ch.wide {a b a' b':Nat} {d d':List Rw} (h:Ch a b d d') (ha:a'≤a) (hb:b≤b'):Ch a' b' d d':=⟨h.perm,fun k hk=>h.out k (by omega)⟩
theorem Ch.len {a b:Nat} {d d':List Rw} (h:Ch a b d d'):d'.length=d.length:=h.perm.length_eq
theorem Ch.tm {a b:Nat} {d d':List Rw} (h:Ch a b d d') {k:Nat} (hk:k<a∨b≤k):tmA d' k=tmA d k:=by unfold tmA; rw [h.out k hk]
theorem Ch.seg {a b:Nat} {d d':List Rw} (h:Ch a b d d') (hab:a≤b):((d'.drop a).take (b - a)).Perm ((d.drop a).take (b - a)):=by
  have e1:d'.take a=d.take a:=List.ext_getElem? fun k=>by
    rw [List.getElem?_take,List.getElem?_take]
    split
    · exact h.out k (.inl ‹_›)
    · rfl
  have e2:d'.drop b=d.drop b:=List.ext_getElem? fun k=>by
    rw [List.getElem?_drop,List.getElem?_drop]; exact h.out _ (.inr (by omega))
  have e:∀ l:List Rw,l.take a++((l.drop a).take (b - a)++l.drop b)=l:=fun l=>by
    rw [show l.drop b=(l.drop a).drop (b - a) by rw [List.drop_drop]; congr 1; omega,List.take_append_drop,List.take_append_drop]
  have p:(d'.take a++((d'.drop a).take (b - a)++d'.drop b)).Perm (d.take a++((d.drop a).take (b - a)++d.drop b)):=by rw [e d',e d]; exact h.perm
  rw [e1,e2] at p
  exact (List.perm_append_right_iff _).1 ((List.perm_append_left_iff _).1 p)
theorem Ch.src {a b:Nat} {d d':List Rw} (h:Ch a b d d') {i:Nat} (h1:a≤i) (h2:i<b) (hb:b≤d.length):∃ k,a≤k∧k<b∧tmA d' i=tmA d k:=by
  have p:=h.seg (by omega)
  have hl:=h.len
  have hm:d'[i]∈(d'.drop a).take (b - a):=by
    refine List.mem_of_getElem? (i:=i - a) ?_
    rw [List.getElem?_take,if_pos (by omega),List.getElem?_drop,show a+(i - a)=i by omega,List.getElem?_eq_getElem (by omega)]
  obtain ⟨k,hk⟩:=List.getElem?_of_mem (p.mem_iff.1 hm)
  have hk2:k<b - a:=by
    have:=(List.getElem?_eq_some_iff.1 hk).1
    rw [List.length_take] at this; omega
  rw [List.getElem?_take,if_pos hk2,List.getElem?_drop] at hk
  refine ⟨a+k,by omega,by omega,?_⟩
  unfold tmA
  rw [hk,List.getElem?_eq_getElem (by omega)]
def swp (d:List Rw) (i j:Nat):List Rw:=(d.set i (d[j]?.getD default)).set j (d[i]?.getD default)
theorem swp_at {d:List Rw} {i j:Nat} (hi:i<d.length) (hj:j<d.length) (k:Nat):(swp d i j)[k]?=if k=j then d[i]? else if k=i then d[j]? else d[k]?:=by
  unfold swp
  rw [List.getElem?_set,List.getElem?_set,List.length_set]
  simp only [eq_comm (a:=j) (b:=k),eq_comm (a:=i) (b:=k)]
  split
  · simp [hi]
  · split
    · simp [hj]
    · rfl
theorem swp_perm {d:List Rw} {i j:Nat} (hi:i<d.length) (hj:j<d.length):(swp d i j).Perm d:=by
  unfold swp
  rw [List.getElem?_eq_getElem hi,List.getElem?_eq_getElem hj]
  exact List.set_set_perm hi hj
theorem swp_ch {d:List Rw} {i j a b:Nat} (hi:i<d.length) (hj:j<d.length) (h1:a≤i) (h2:i<b) (h3:a≤j) (h4:j<b):Ch a b d (swp d i j) :=
  ⟨swp_perm hi hj,fun k hk=>by rw [swp_at hi hj,if_neg (by omega),if_neg (by omega)]⟩
theorem swp_len {d:List Rw} {i j:Nat}:(swp d i j).length=d.length:=by simp [swp]

/-! One moves down, or up -/
def InsD (d d':List Rw) (j i:Nat):Prop:=∀ x,d'[x]?=if j<x∧x≤i then d[x - 1]? else if x=j then d[i]? else d[x]?
theorem InsD.start {d:List Rw} {i:Nat}:InsD d d i i:=fun x=>by
  rw [if_neg (by omega)]
  split
  · rename_i h; rw [h]
  · rfl
theorem InsD.step {d d':List Rw} {j i:Nat} (h:InsD d d' j i) (hj:0<j) (hji:j≤i) (hl:j<d'.length):InsD d (swp d' j (j - 1)) (j - 1) i:=fun x=>by
  rw [swp_at hl (by omega),h j,h (j - 1),h x]
  repeat' split
  all_goals first | (exfalso; omega) | rfl | (congr 1; omega)
theorem InsD.tm {d d':List Rw} {j i:Nat} (h:InsD d d' j i) (x:Nat):tmA d' x=if j<x∧x≤i then tmA d (x - 1) else if x=j then tmA d i else tmA d x:=by
  unfold tmA; rw [h x]
  repeat' split
  all_goals rfl
def InsU (d d':List Rw) (a k:Nat):Prop:=∀ x,d'[x]?=if a≤x∧x<k then d[x+1]? else if x=k then d[a]? else d[x]?
theorem InsU.start {d:List Rw} {i:Nat}:InsU d d i i:=fun x=>by
  rw [if_neg (by omega)]
  split
  · rename_i h; rw [h]
  · rfl
theorem InsU.step {d d':List Rw} {a k:Nat} (h:InsU d d' a k) (hj:a≤k) (hl:k+1<d'.length):InsU d (swp d' k (k+1)) a (k+1):=fun x=>by
  rw [swp_at (by omega) hl,h k,h (k+1),h x]
  repeat' split
  all_goals first | (exfalso; omega) | rfl | (congr 1; omega)
theorem InsU.tm {d d':List Rw} {a k:Nat} (h:InsU d d' a k) (x:Nat):tmA d' x=if a≤x∧x<k then tmA d (x+1) else if x=k then tmA d a else tmA d x:=by
  unfold tmA; rw [h x]
  repeat' split
  all_goals rfl

/-! Pieces change places -/
def Swd (d d':List Rw) (a b n:Nat):Prop:=∀ x,d'[x]?=if a≤x∧x<a+n then d[x+b - a]? else if b≤x∧x<b+n then d[x+a - b]? else d[x]?
theorem Swd.start {d:List Rw} {a b:Nat}:Swd d d a b 0:=fun x=>by rw [if_neg (by omega),if_neg (by omega)]
theorem Swd.step {d d':List Rw} {a b n:Nat} (h:Swd d d' a b n) (hab:a+n<b) (hl:b+n<d'.length):Swd d (swp d' (a+n) (b+n)) a b (n+1):=fun x=>by
  rw [swp_at (by omega) hl,h (a+n),h (b+n),h x]
  repeat' split
  all_goals first | (exfalso; omega) | rfl | (congr 1; omega)
def Rot (d d':List Rw) (a m b:Nat):Prop:=∀ x,d'[x]?=if a≤x∧x<a+(b - m) then d[x+m - a]? else if a+(b - m)≤x∧x<b then d[x - (b - m)]? else d[x]?
theorem Rot.same {d:List Rw} {a m b:Nat} (h:a=m∨m=b) (ham:a≤m) (hmb:m≤b):Rot d d a m b:=fun x=>by
  repeat' split
  all_goals first | (exfalso; omega) | rfl | (congr 1; omega)
theorem Rot.left {d d1 d':List Rw} {m i j:Nat} (hi:i≤m) (hji:j<i) (h:Swd d d1 (m - i) m j) (g:Rot d1 d' (m - (i - j)) m (m+j)):Rot d d' (m - i) m (m+j):=fun x=>by
  rw [g x,h (x+m - (m - (i - j))),h (x - (m+j - m)),h x]
  repeat' split
  all_goals first | (exfalso; omega) | rfl | (congr 1; omega)
theorem Rot.right {d d1 d':List Rw} {m i j:Nat} (hi:i≤m) (hij:i<j) (h:Swd d d1 (m - i) (m+j - i) i) (g:Rot d1 d' (m - i) m (m+(j - i))):Rot d d' (m - i) m (m+j):=fun x=>by
  rw [g x,h (x+m - (m - i)),h (x - (m+(j - i)-m)),h x]
  repeat' split
  all_goals first | (exfalso; omega) | rfl | (congr 1; omega)
theorem Rot.both {d d':List Rw} {m i:Nat} (hi:i≤m) (h:Swd d d' (m - i) m i):Rot d d' (m - i) m (m+i):=fun x=>by
  rw [h x]
  repeat' split
  all_goals first | (exfalso; omega) | rfl | (congr 1; omega)
theorem Rot.tm {d d':List Rw} {a m b:Nat} (h:Rot d d' a m b) (x:Nat):tmA d' x=if a≤x∧x<a+(b - m) then tmA d (x+m - a) else if a+(b - m)≤x∧x<b then tmA d (x - (b - m)) else tmA d x:=by
  unfold tmA; rw [h x]
  repeat' split
  all_goals rfl

/-! What is put in order -/
theorem SrtR.one {d:List Rw} {a b:Nat} (h:b≤a+1):SrtR d a b:=fun i j h1 h2 h3=>by omega
theorem SrtR.same {d d':List Rw} {a b:Nat} (h:SrtR d a b) (e:∀ i,a≤i→i<b→tmA d' i=tmA d i):SrtR d' a b:=fun i j h1 h2 h3=>by
  rw [e i h1 (by omega),e j (by omega) h3]; exact h i j h1 h2 h3
theorem SrtR.sub {d:List Rw} {a b a' b':Nat} (h:SrtR d a b) (ha:a≤a') (hb:b'≤b):SrtR d a' b':=fun i j h1 h2 h3=>h i j (by omega) h2 (by omega)
/-- Two pieces in order, the first below the second. -/
theorem SrtR.join {d:List Rw} {a m b:Nat} (h1:SrtR d a m) (h2:SrtR d m b) (hx:∀ i j,a≤i→i<m→m≤j→j<b→tmA d i≤tmA d j):SrtR d a b:=fun i j p q r=>by
  rcases Nat.lt_or_ge j m with u | u
  · exact h1 i j p q u
  · rcases Nat.lt_or_ge i m with v | v
    · exact hx i j p v u r
    · exact h2 i j v q r
theorem SrtR.le {d:List Rw} {a b i j:Nat} (h:SrtR d a b) (h1:a≤i) (h2:i≤j) (h3:j<b):tmA d i≤tmA d j:=by
  rcases Nat.lt_or_ge i j with q | q
  · exact h i j h1 q h3
  · rw [show i=j by omega]; exact Int.le_refl _
/-- One more is put in. -/
theorem srt_insD {d d':List Rw} {a i j:Nat} (hs:SrtR d a i) (h:InsD d d' j i) (ha:a≤j) (hji:j≤i) (hlow:j=a∨tmA d (j - 1)≤tmA d i) (hhi:∀ x,j≤x→x<i→tmA d i≤tmA d x):SrtR d' a (i+1):=fun p q h1 h2 h3=>by
  rw [h.tm p,h.tm q]
  by_cases hq:j<q
  · rw [if_pos (show j<q∧q≤i by omega)]
    by_cases hp:j<p
    · rw [if_pos (show j<p∧p≤i by omega)]
      exact hs.le (by omega) (by omega) (by omega)
    · rw [if_neg (by omega)]
      by_cases hpj:p=j
      · rw [if_pos hpj]; exact hhi _ (by omega) (by omega)
      · rw [if_neg hpj]; exact hs.le h1 (by omega) (by omega)
  · rw [if_neg (show ¬ (j<p∧p≤i) by omega),if_neg (show ¬ p=j by omega),if_neg (show ¬ (j<q∧q≤i) by omega)]
    by_cases hqj:q=j
    · rw [if_pos hqj]
      rcases hlow with e | hlow
      · omega
      · exact Int.le_trans (hs.le h1 (show p≤j - 1 by omega) (by omega)) hlow
    · rw [if_neg hqj]; exact hs.le h1 (by omega) (by omega)
theorem srt_insU {d d':List Rw} {a k b:Nat} (hs:SrtR d (a+1) b) (h:InsU d d' a k) (ha:a≤k) (hkb:k<b) (hlow:∀ x,a<x→x≤k→tmA d x≤tmA d a) (hhi:k+1=b∨tmA d a≤tmA d (k+1)):SrtR d' a b:=fun p q h1 h2 h3=>by
  rw [h.tm p,h.tm q]
  by_cases hp:p<k
  · rw [if_pos (show a≤p∧p<k by omega)]
    by_cases hq:q<k
    · rw [if_pos (show a≤q∧q<k by omega)]
      exact hs.le (by omega) (by omega) (by omega)
    · rw [if_neg (by omega)]
      by_cases hqk:q=k
      · rw [if_pos hqk]; exact hlow _ (by omega) (by omega)
      · rw [if_neg hqk]; exact hs.le (by omega) (by omega) (by omega)
  · rw [if_neg (show ¬ (a≤p∧p<k) by omega),if_neg (show ¬ (a≤q∧q<k) by omega),if_neg (show ¬ q=k by omega)]
    by_cases hpk:p=k
    · rw [if_pos hpk]
      rcases hhi with e | hhi
      · omega
      · exact Int.le_trans hhi (hs.le (by omega) (show k+1≤q by omega) (by omega))
    · rw [if_neg hpk]; exact hs.le (by omega) (by omega) (by omega)
/-- What a rotation leaves to do. -/
structure Halves (d:List Rw) (a s mid e b:Nat):Prop where
  s1:SrtR d a s
  s2:SrtR d s mid
  s3:SrtR d mid e
  s4:SrtR d e b
  x:∀ i j,a≤i→i<mid→mid≤j→j<b→tmA d i≤tmA d j
theorem halves {d d1 : List Rw} {a m b s mid e lo hi : Nat} (ham : a < m) (hmb : m < b) (hmid : mid = (a + b) / 2) (h1 : SrtR d a m) (h2 : SrtR d m b) (hlo : lo = if mid < m then mid + m - b else a) (hhi : hi = if mid < m then mid else m) (hs1 : lo ≤ s) (hs2 : s ≤ hi) (he : e = mid + m - s)
    (hp:lo<s→tmA d (s - 1)≤tmA d e) (hq:s<hi→tmA d (e - 1)≤tmA d s) (hr:Rot d d1 s m e):Halves d1 a s mid e b∧a≤s∧s≤m∧m≤e∧e≤b∧s≤mid∧mid≤e:=by
  have g:a≤s∧s≤m∧m≤e∧e≤b∧s≤mid∧mid≤e∧s+(e - m)=mid:=by
    by_cases hc:mid<m
    · rw [if_pos hc] at hlo hhi; omega
    · rw [if_neg hc] at hlo hhi; omega
  obtain ⟨g1,g2,g3,g4,g5,g6,g7⟩:=g
  have hx:∀ i j,a≤i→i<s→e≤j→j<b→tmA d i≤tmA d j:=fun i j p q r t=>by
    have hls:lo<s:=by
      by_cases hc:mid<m
      · rw [if_pos hc] at hlo; omega
      · rw [if_neg hc] at hlo; omega
    exact Int.le_trans (h1.le p (show i≤s - 1 by omega) (by omega)) (Int.le_trans (hp hls) (h2.le g3 r t))
  have hy:∀ i j,m≤i→i<e→s≤j→j<m→tmA d i≤tmA d j:=fun i j p q r t=>by
    have hsh:s<hi:=by
      by_cases hc:mid<m
      · rw [if_pos hc] at hhi; omega
      · rw [if_neg hc] at hhi; omega
    exact Int.le_trans (h2.le p (show i≤e - 1 by omega) (by omega)) (Int.le_trans (hq hsh) (h1.le g1 r t))
  have t1:∀ x,x<s→tmA d1 x=tmA d x:=fun x hx=>by rw [hr.tm,if_neg (by omega),if_neg (by omega)]
  have t2:∀ x,s≤x→x<mid→tmA d1 x=tmA d (x+m - s):=fun x h3 h4=>by rw [hr.tm,if_pos (by omega)]
  have t3:∀ x,mid≤x→x<e→tmA d1 x=tmA d (x - (e - m)):=fun x h3 h4=>by rw [hr.tm,if_neg (by omega),if_pos (by omega)]
  have t4:∀ x,e≤x→tmA d1 x=tmA d x:=fun x h3=>by rw [hr.tm,if_neg (by omega),if_neg (by omega)]
  refine ⟨⟨fun i j p q r=>?_,fun i j p q r=>?_,fun i j p q r=>?_,fun i j p q r=>?_,fun i j p q r t=>?_⟩,g1,g2,g3,g4,g5,g6⟩
  · rw [t1 i (by omega),t1 j r]; exact h1.le p (by omega) (by omega)
  · rw [t2 i p (by omega),t2 j (by omega) r]; exact h2.le (by omega) (by omega) (by omega)
  · rw [t3 i p (by omega),t3 j (by omega) r]; exact h1.le (by omega) (by omega) (by omega)
  · rw [t4 i p,t4 j (by omega)]; exact h2.le (by omega) (by omega) r
  · by_cases u:i<s
    · rw [t1 i u]
      by_cases v:j<e
      · rw [t3 j r v]; exact h1.le p (by omega) (by omega)
      · rw [t4 j (by omega)]; exact hx i j p u (by omega) t
    · rw [t2 i (by omega) q]
      by_cases v:j<e
      · rw [t3 j r v]; exact hy _ _ (by omega) (by omega) (by omega) (by omega)
      · rw [t4 j (by omega)]; exact h2.le (by omega) (by omega) t
/-- Both halves are done. -/
theorem halves_done {d1 d2 d3:List Rw} {a s mid e b:Nat} (h:Halves d1 a s mid e b) (h1:a≤s) (h2:s≤mid) (h3:mid≤e) (h4:e≤b) (hb:b≤d1.length) (c1:Ch a mid d1 d2) (r1:SrtR d2 a mid) (c2:Ch mid b d2 d3) (r2:SrtR d3 mid b):Ch a b d1 d3∧SrtR d3 a b:=by
  refine ⟨(c1.wide (Nat.le_refl _) (by omega)).trans (c2.wide (by omega) (Nat.le_refl _)),?_⟩
  refine SrtR.join (r1.same fun i p q=>c2.tm (.inl q)) r2 fun i j p q r t=>?_
  rw [c2.tm (.inl q)]
  obtain ⟨i',p1,q1,e1⟩:=c1.src p q (by omega)
  obtain ⟨j',r1',t1,e2⟩:=c2.src r t (by rw [c1.len]; exact hb)
  rw [e1,e2,c1.tm (.inr r1')]
  exact h.x i' j' p1 q1 r1' t1
theorem half_trivial {d:List Rw} {a s m:Nat} (h1:SrtR d a s) (h2:SrtR d s m) (h:¬ (a<s∧s<m)) (ha:a≤s) (hm:s≤m):SrtR d a m:=by
  rcases Nat.lt_or_ge a s with q | q
  · rw [show m=s by omega]; exact h1
  · rw [show a=s by omega]; exact h2
/-- Pieces of one size, each in order. -/
def SBl (d:List Rw) (bs lo hi:Nat):Prop:=∀ q,lo≤q*bs→SrtR d (q*bs) (min hi (q*bs+bs))
theorem SBl.whole {d:List Rw} {bs n:Nat} (h:SBl d bs 0 n) (hn:n≤bs):SrtR d 0 n:=by
  have:=h 0 (Nat.zero_le _)
  rw [Nat.zero_mul,Nat.zero_add,Nat.min_eq_left hn] at this; exact this
end Go.Proofs.YtbajelldegijkaaDoor
/- Rows, windows, ways to cut, and folds, as memory holds them. -/
namespace Go.Proofs.YtbajelldegijkaaDoor
open Go.Sl
variable {S:Nat→Prop} {w0:World} {η:Heap}
theorem mixed:Tryd.prog.follows .mixedOrders=true:=by kernel_rfl
theorem osl_cap {e:TypeId} {sz n cap:Nat} {a:Option Addr} {xs:List Value} {seg:Seg} (h:OSl e sz (.slice a n cap) n xs seg):n≤cap:=by
  rcases h.2 with ⟨h0,hn,_⟩ | ⟨g,c2,cur,hv,_,hc,_⟩
  · omega
  · simp only [Value.slice.injEq,true_and] at hv; omega
theorem osl_empty {e:TypeId} {sz b:Nat}:OSl e sz (.slice (some ⟨b,0,Option.none⟩) 0 0) 0 [] [(b,.cells #[] e (0,0))]:=⟨by simp,.inr ⟨b,0,#[],rfl,rfl,Nat.le_refl _,by simp,by simp⟩⟩
/-- Lists of blocks that have the same blocks. -/
theorem perm_cnt {a b:Heap} (h:∀ (f:Seg→Nat),(a.map f).sum=(b.map f).sum):a.Perm b:=by
  classical
  rw [List.perm_iff_count]
  intro x
  have:=h fun s=>if s=x then 1 else 0
  have key:∀ l:Heap,(l.map fun s=>if s=x then 1 else 0).sum=l.count x:=by
    intro l
    induction l with
    | nil=>rfl
    | cons y r ih =>
      rw [List.map_cons,List.sum_cons,ih,List.count_cons]
      by_cases e:y=x
      · simp [e]; omega
      · simp [e]
  rw [key,key] at this
  exact this
/-! Rows -/
def rwC (r:Rw):List Value:=[.int .i64 r.time,.int .i64 r.key,.int .i64 r.word]
abbrev rwV (r:Rw):Value:=.agg #[.int .i64 r.time,.int .i64 r.key,.int .i64 r.word]
theorem rwC_len (r:Rw):(rwC r).length=3:=rfl
theorem rwC1 (r:Rw):∀ v∈rwC r,v.oneCell'=true:=by intro v hv; simp only [rwC,List.mem_cons,List.not_mem_nil,or_false] at hv; rcases hv with rfl | rfl | rfl <;> rfl
abbrev RRow (S:Nat→Prop) (w0:World) (η:Heap) (a:Option Addr) (l:List Rw):Prop:=Row S w0 η a (l.flatMap rwC)
theorem rr_at {a:Option Addr} {l:List Rw} (h:RRow S w0 η a l) {i:Nat} (hi:i<l.length):∀ j v,(rwC l[i])[j]?=some v→At S w0 η ⟨(sAt a (i*3)).block,(sAt a (i*3)).off+j,none⟩ v:=h.tabA rwC_len hi
theorem rr_ad {a:Option Addr} {l:List Rw} (h:RRow S w0 η a l) {i:Nat} (hi:i<l.length):∃ ad,a=some ad∧ad.spot=none:=h.tad rwC_len (by decide) hi
theorem flat3 (l:List Rw):(l.flatMap rwC).length=l.length*3:=by
  induction l with
  | nil=>rfl
  | cons x r ih=>rw [List.flatMap_cons,List.length_append,ih]; simp [rwC]; omega
theorem rwC_mem1 (l:List Rw):∀ v∈l.flatMap rwC,v.oneCell'=true:=fun v hv=>by obtain ⟨x,_,hx⟩:=List.mem_flatMap.1 hv; exact rwC1 x v hx
/-! Windows -/
def otC (x:Ot):List Value:=[.int .i64 x.fr,.int .i64 x.to,.int .i64 x.key,.int .i64 x.word]
abbrev otV (x:Ot):Value:=.agg #[.int .i64 x.fr,.int .i64 x.to,.int .i64 x.key,.int .i64 x.word]
theorem otC_len (x:Ot):(otC x).length=4:=rfl
theorem otC1 (x:Ot):∀ v∈otC x,v.oneCell'=true:=by intro v hv; simp only [otC,List.mem_cons,List.not_mem_nil,or_false] at hv; rcases hv with rfl | rfl | rfl | rfl <;> rfl
abbrev ORow (S:Nat→Prop) (w0:World) (η:Heap) (a:Option Addr) (l:List Ot):Prop:=Row S w0 η a (l.flatMap otC)
theorem or_at {a:Option Addr} {l:List Ot} (h:ORow S w0 η a l) {i:Nat} (hi:i<l.length):∀ j v,(otC l[i])[j]?=some v→At S w0 η ⟨(sAt a (i*4)).block,(sAt a (i*4)).off+j,none⟩ v:=h.tabA otC_len hi
theorem or_ad {a:Option Addr} {l:List Ot} (h:ORow S w0 η a l) {i:Nat} (hi:i<l.length):∃ ad,a=some ad∧ad.spot=none:=h.tad otC_len (by decide) hi
theorem flat4 (l:List Ot):(l.flatMap otC).length=l.length*4:=by
  induction l with
  | nil=>rfl
  | cons x r ih=>rw [List.flatMap_cons,List.length_append,ih]; simp [otC]; omega
theorem otC_mem1 (l:List Ot):∀ v∈l.flatMap otC,v.oneCell'=true:=fun v hv=>by obtain ⟨x,_,hx⟩:=List.mem_flatMap.1 hv; exact otC1 x v hx
theorem flat_snoc {α:Type} {f:α→List Value} (l:List α) (x:α):l.flatMap f++f x=(l++[x]).flatMap f:=by simp
/-! Ways to cut -/
def wsC (s:Wsp):List Value:=[.int .i64 s.kind,.int .i64 s.size,.int .i64 s.step,.int .i64 s.late,.int .i64 s.fold]
abbrev wsV (s:Wsp):Value:=.agg #[.int .i64 s.kind,.int .i64 s.size,.int .i64 s.step,.int .i64 s.late,.int .i64 s.fold]
theorem wsC1 (s:Wsp):∀ v∈wsC s,v.oneCell'=true:=by intro v hv; simp only [wsC,List.mem_cons,List.not_mem_nil,or_false] at hv; rcases hv with rfl | rfl | rfl | rfl | rfl <;> rfl
def oneId (f:Int):Nat:=if f=0 then 125 else 109
def twoId (f:Int):Nat:=if f=2 then 127 else if f=3 then 128 else 126
instance (f:Int):Ent Tryd.prog (oneId f):=by unfold oneId; split <;> infer_instance
instance (f:Int):Ent Tryd.prog (twoId f):=by unfold twoId; split <;> (try split) <;> infer_instance
abbrev oneV (f:Int):Value:=.func (.func (oneId f)) #[] #[]
abbrev twoV (f:Int):Value:=.func (.func (twoId f)) #[] #[]
def foldC (f:Int):List Value:=[.int .i64 (noneF f),oneV f,twoV f]
abbrev foldV (f:Int):Value:=.agg #[.int .i64 (noneF f),oneV f,twoV f]
theorem foldC1 (f:Int):∀ v∈foldC f,v.oneCell'=true:=by intro v hv; simp only [foldC,List.mem_cons,List.not_mem_nil,or_false] at hv; rcases hv with rfl | rfl | rfl <;> rfl
/-- The table of folds. -/
def Tabs (S:Nat→Prop) (w0:World):Prop:=∀ f:Nat,f<4→∀ j v,(foldC f)[j]?=some v→At S w0 [] ⟨0,f*3+j,none⟩ v
theorem Tabs.old {S':Nat→Prop} {w1:World} {ηr:Heap} (h:Tabs S w0) (hz:Frz S S' w0 w1 ηr):Tabs S' w1:=fun f hf j v hj=>hz.old (h f hf j v hj)
/-- How a stream is cut, with its fold. -/
def spC (s:Wsp):List Value:=[.int .i64 s.kind,.int .i64 s.size,.int .i64 s.step,.int .i64 s.late,.int .i64 s.fold,.int .i64 (noneF s.fold),oneV s.fold,twoV s.fold]
abbrev spV (s:Wsp):Value:=.agg #[.int .i64 s.kind,.int .i64 s.size,.int .i64 s.step,.int .i64 s.late,.int .i64 s.fold,.int .i64 (noneF s.fold),oneV s.fold,twoV s.fold]
theorem spC_len (s:Wsp):(spC s).length=8:=rfl
theorem spC1 (s:Wsp):∀ v∈spC s,v.oneCell'=true:=by intro v hv; simp only [spC,List.mem_cons,List.not_mem_nil,or_false] at hv; rcases hv with rfl | rfl | rfl | rfl | rfl | rfl | rfl | rfl <;> rfl
theorem wrap_i32 {n:Int}:IntKind.i32.wrap n=wrap32 n:=by
  unfold wrap32
  simp only [IntKind.wrap,IntKind.bits,IntKind.signed]
  simp; omega
end Go.Proofs.YtbajelldegijkaaDoor
/- The library's sorts, laid at this program (printed by a tool of the kit). -/
namespace Go.Proofs
open Go.Shelf
def Tryd.sortK_ren:Go.Shelf.Ren:=⟨fun | 6=>63 | 15=>76 | 14=>75 | 28=>86 | 29=>87 | 20=>78 | 21=>79 | 22=>80 | 23=>81 | 24=>82 | 25=>83 | 26=>84 | 27=>85 | 46=>88 | 47=>89 | 48=>90 | 49=>91 | 50=>92 | 57=>93 | n=>n,fun | 22=>31 | 24=>59 | 25=>122 | 3=>3 | 39=>137 | 0=>0 | 53=>147 | 55=>149 | 4=>4 | 46=>140 | 45=>139 | 50=>144 | 5=>5 | 9=>9 | 66=>150 | 70=>154 | 76=>156 | 77=>157 | n=>n,fun | n=>n⟩
theorem Tryd.sortK:Go.Proofs.SlLaysF0.n6 Tryd.prog Tryd.sortK_ren:={
  mixed:=by kernel_rfl
  f6:=⟨Tryd.f63.name,by decide,Tryd.func63.trans (congrArg some (by kernel_rfl))⟩
  f14:=⟨Tryd.f75.name,by decide,Tryd.func75.trans (congrArg some (by kernel_rfl))⟩
  f15:=Tryd.func76.trans (congrArg some (by kernel_rfl))
  f20:=⟨Tryd.f78.name,by decide,Tryd.func78.trans (congrArg some (by kernel_rfl))⟩
  f21:=⟨Tryd.f79.name,by decide,Tryd.func79.trans (congrArg some (by kernel_rfl))⟩
  f22:=⟨Tryd.f80.name,by decide,Tryd.func80.trans (congrArg some (by kernel_rfl))⟩
  f23:=⟨Tryd.f81.name,by decide,Tryd.func81.trans (congrArg some (by kernel_rfl))⟩
  f24:=⟨Tryd.f82.name,by decide,Tryd.func82.trans (congrArg some (by kernel_rfl))⟩
  f25:=⟨Tryd.f83.name,by decide,Tryd.func83.trans (congrArg some (by kernel_rfl))⟩
  f26:=⟨Tryd.f84.name,by decide,Tryd.func84.trans (congrArg some (by kernel_rfl))⟩
  f27:=⟨Tryd.f85.name,by decide,Tryd.func85.trans (congrArg some (by kernel_rfl))⟩
  f28:=Tryd.func86.trans (congrArg some (by kernel_rfl))
  f29:=Tryd.func87.trans (congrArg some (by kernel_rfl))
  f46:=⟨Tryd.f88.name,by decide,Tryd.func88.trans (congrArg some (by kernel_rfl))⟩
  f47:=Tryd.func89.trans (congrArg some (by kernel_rfl))
  f48:=Tryd.func90.trans (congrArg some (by kernel_rfl))
  f49:=⟨Tryd.f91.name,by decide,Tryd.func91.trans (congrArg some (by kernel_rfl))⟩
  f50:=⟨Tryd.f92.name,by decide,Tryd.func92.trans (congrArg some (by kernel_rfl))⟩
  f57:=⟨Tryd.f93.name,by decide,Tryd.func93.trans (congrArg some (by kernel_rfl))⟩
  t0:=Tryd.underlying0
  a0:=Tryd.isAgg0
  z0:=Tryd.sizeOf0
  v0:=Tryd.zeroValue0
  t3:=Tryd.underlying3
  a3:=Tryd.isAgg3
  z3:=Tryd.sizeOf3
  v3:=Tryd.zeroValue3
  t4:=Tryd.underlying4
  a4:=Tryd.isAgg4
  z4:=Tryd.sizeOf4
  v4:=Tryd.zeroValue4
  t5:=Tryd.underlying5
  a5:=Tryd.isAgg5
  z5:=Tryd.sizeOf5
  v5:=Tryd.zeroValue5
  t9:=Tryd.underlying9
  a9:=Tryd.isAgg9
  z9:=Tryd.sizeOf9
  v9:=Tryd.zeroValue9
  t22:=Tryd.underlying31
  a22:=Tryd.isAgg31
  z22:=Tryd.sizeOf31
  v22:=Tryd.zeroValue31
  t25:=Tryd.underlying122
  a25:=Tryd.isAgg122
  z25:=Tryd.sizeOf122
  v25:=Tryd.zeroValue122
  t39:=Tryd.underlying137
  a39:=Tryd.isAgg137
  z39:=Tryd.sizeOf137
  v39:=Tryd.zeroValue137
  t45:=Tryd.underlying139
  a45:=Tryd.isAgg139
  z45:=Tryd.sizeOf139
  v45:=Tryd.zeroValue139
  t46:=Tryd.underlying140
  a46:=Tryd.isAgg140
  z46:=Tryd.sizeOf140
  v46:=Tryd.zeroValue140
  t50:=Tryd.underlying144
  a50:=Tryd.isAgg144
  z50:=Tryd.sizeOf144
  v50:=Tryd.zeroValue144
  t53:=Tryd.underlying147
  a53:=Tryd.isAgg147
  z53:=Tryd.sizeOf147
  v53:=Tryd.zeroValue147
  t55:=Tryd.underlying149
  a55:=Tryd.isAgg149
  z55:=Tryd.sizeOf149
  v55:=Tryd.zeroValue149
  t66:=Tryd.underlying150
  a66:=Tryd.isAgg150
  z66:=Tryd.sizeOf150
  v66:=Tryd.zeroValue150
  t70:=Tryd.underlying154
  a70:=Tryd.isAgg154
  z70:=Tryd.sizeOf154
  v70:=Tryd.zeroValue154
  t76:=Tryd.underlying156
  a76:=Tryd.isAgg156
  z76:=Tryd.sizeOf156
  v76:=Tryd.zeroValue156
  t77:=Tryd.underlying157
  a77:=Tryd.isAgg157
  z77:=Tryd.sizeOf157
  v77:=Tryd.zeroValue157 }
end Go.Proofs
/- Leaves: what is refused and recovered, words, folds. -/
namespace Go.Proofs.YtbajelldegijkaaDoor
open Go.Sl
variable {S:Nat→Prop} {w0:World} {η:Heap}
set_option maxHeartbeats 2000000 in
theorem stopped_nil (p : Value) :
  Rt Tryd.prog 38 [.nilIface,p].toArray S w0 η (fun _ η'=>η'=η):=by
 have hF:=open_wide
 refine Rt.of (fn:=Tryd.f38) Tryd.func38 rfl rfl ?_
 refine T.seq ?_
 refine T.seq ?_
 refine T.region ?_
 refine TL.move hF rfl rfl ?_
 refine TL.binR hF rfl rfl (r:=.bool true) (fun w=>by kernel_rfl) rfl ?_
 refine TL.nil ?_
 refine TQ.then_n ?_
 refine T.cond_t rfl rfl ?_
 refine T.ret ?_
 refine TQ.then_r ?_
 refine TQ.rets [] _ rfl rfl rfl ?_
 rfl
set_option maxHeartbeats 2000000 in
theorem stopped_err (code : Int) {b : Nat} {old : Value} {η1 : Heap} :
  Rt Tryd.prog 38 [.iface 115 (.agg #[.int .i64 code]),.pointer (some ⟨b,0,none⟩)].toArray S w0 ([(b,.cells #[old] 28 (0,0))]::η1) (fun _ η'=>η'=[(b,.cells #[.int .i64 code] 28 (0,0))]::η1):=by
 have hF:=open_wide
 refine Rt.of (fn:=Tryd.f38) Tryd.func38 rfl rfl ?_
 refine T.seq ?_
 refine T.seq ?_
 refine T.region ?_
 refine TL.move hF rfl rfl ?_
 refine TL.binR hF rfl rfl (r:=.bool false) (fun w=>by kernel_rfl) rfl ?_
 refine TL.nil ?_
 refine TQ.then_n ?_
 refine T.cond_f rfl rfl ?_
 refine T.skip ?_
 refine TQ.then_n ?_
 refine T.seq ?_
 refine T.region ?_
 refine TL.move hF rfl rfl ?_
 refine TL.typeAssertR hF rfl (r:=.tuple #[.agg #[.int .i64 code],.bool true]) (fun w=>by kernel_rfl) rfl ?_
 refine TL.move hF rfl rfl ?_
 refine TL.extract hF rfl rfl rfl ?_
 refine TL.extract hF rfl rfl rfl ?_
 refine TL.alloc hF rfl (fun b4=>?_)
 refine TL.storeAI hF [.int .i64 code] 0 rfl rfl rfl rfl (by simp [Value.oneCell']) (by simp [Value.cells]) ?_
 refine TL.assign hF rfl rfl ?_
 refine TL.nil ?_
 refine TQ.then_n ?_
 refine T.seq ?_
 refine T.seq ?_
 refine T.region ?_
 refine TL.move hF rfl rfl ?_
 refine TL.not hF rfl rfl ?_
 refine TL.nil ?_
 refine TQ.then_n ?_
 refine T.cond_f rfl rfl ?_
 refine T.skip ?_
 refine TQ.then_n ?_
 refine T.region ?_
 refine TL.move hF rfl rfl ?_
 refine TL.fieldAddr hF rfl rfl ?_
 refine TL.load hF rfl (by first | exact At.own' (i:=0) rfl rfl | exact At.own' (i:=1) rfl rfl | exact At.own' (i:=2) rfl rfl | exact At.own' (i:=3) rfl rfl | exact At.own' (i:=4) rfl rfl | exact At.own' (i:=5) rfl rfl | exact At.own' (i:=6) rfl rfl | exact At.own' (i:=7) rfl rfl | exact At.own' (i:=8) rfl rfl | exact At.own' (i:=9) rfl rfl | exact At.own' (i:=10) rfl rfl | exact At.own' (i:=11) rfl rfl | exact At.own' (i:=12) rfl rfl) rfl ?_
 refine TL.nilCheck hF rfl rfl ?_
 refine TL.storeI hF 1 rfl rfl rfl rfl (by simp) ?_
 refine TL.nil ?_
 refine TQ.norm ?_
 refine TQ.pop ?_
 refine TQ.rets [] _ rfl rfl rfl ?_
 rfl
abbrev stopV (code:Int):List PanicEntry:=[{ v:=.iface 115 (.agg #[.int .i64 code]),recovered:=false }]
abbrev ERR:Nat:=28
set_option maxHeartbeats 2000000 in
theorem must_ok (code : Int) :
  Rt Tryd.prog 40 [.bool true,.int .i64 code].toArray S w0 η (fun _ η'=>η'=η):=by
 have hF:=open_wide
 refine Rt.of (fn:=Tryd.f40) Tryd.func40 rfl rfl ?_
 refine T.seq ?_
 refine T.region ?_
 refine TL.move hF rfl rfl ?_
 refine TL.not hF rfl rfl ?_
 refine TL.nil ?_
 refine TQ.then_n ?_
 refine T.cond_f rfl rfl ?_
 refine T.skip ?_
 refine TQ.norm ?_
 refine TQ.rets [] _ rfl rfl rfl ?_
 rfl
set_option maxHeartbeats 2000000 in
theorem must_no (code : Int) :
  RtE Tryd.prog 40 [.bool false,.int .i64 code].toArray S w0 η (fun _ _=>False) (fun ch η'=>ch=stopV code∧η'=η):=by
 have hF:=open_wide
 refine RtE.of (fn:=Tryd.f40) Tryd.func40 rfl rfl ?_
 refine T.seq ?_
 refine T.region ?_
 refine TL.move hF rfl rfl ?_
 refine TL.not hF rfl rfl ?_
 refine TL.nil ?_
 refine TQ.then_n ?_
 refine T.cond_t rfl rfl ?_
 refine T.region ?_
 refine TL.move hF rfl rfl ?_
 refine TL.build hF rfl (r:=.agg #[.int .i64 code]) (fun w=>by kernel_rfl) rfl ?_
 refine TL.makeInterfaceR hF rfl (r:=.iface 115 (.agg #[.int .i64 code])) (fun w=>by kernel_rfl) rfl ?_
 refine TL.panic hF rfl ?_
 exact TQ.panicE ⟨rfl, rfl⟩ --stop
theorem must_fn (is:Bool) (code:Int):RtE Tryd.prog 40 [.bool is,.int .i64 code].toArray S w0 η (fun _ η'=>is=true∧η'=η) (fun ch η'=>is=false∧ch=stopV code∧η'=η):=by
 cases is
 ·exact (must_no code).mono (fun _ _ (h:False)=>h.elim) (fun _ _ h=>⟨rfl,h⟩)
 ·exact (must_ok code).toE.mono (fun _ _ h=>⟨rfl,h⟩) (fun _ _ (h:False)=>h.elim)
theorem stop37:StopC Tryd.prog 37 38:=⟨_,_,_,_,_,_,_,_,_,_,Tryd.func37,rfl,rfl,rfl⟩
theorem stop44:StopC Tryd.prog 44 38:=⟨_,_,_,_,_,_,_,_,_,_,Tryd.func44,rfl,rfl,rfl⟩
theorem stop49:StopC Tryd.prog 49 38:=⟨_,_,_,_,_,_,_,_,_,_,Tryd.func49,rfl,rfl,rfl⟩
theorem stop50:StopC Tryd.prog 50 38:=⟨_,_,_,_,_,_,_,_,_,_,Tryd.func50,rfl,rfl,rfl⟩
theorem stop54:StopC Tryd.prog 54 38:=⟨_,_,_,_,_,_,_,_,_,_,Tryd.func54,rfl,rfl,rfl⟩
set_option maxHeartbeats 2000000 in
theorem Lies_fn (n low high : Int) :
  Rt Tryd.prog 26 [.int .i64 n,.int .i64 low,.int .i64 high].toArray S w0 η (fun v η'=>v = .bool (decide (low≤n) && decide (n≤high))∧η'=η):=by
 have hF:=open_wide
 refine Rt.of (fn:=Tryd.f26) Tryd.func26 rfl rfl ?_
 refine T.seq ?_
 refine T.region ?_
 refine TL.assign hF rfl rfl ?_
 refine TL.nil ?_
 refine TQ.then_n ?_
 refine T.seq ?_
 refine T.region ?_
 refine TL.move hF rfl rfl ?_
 refine TL.move hF rfl rfl ?_
 refine TL.bin hF rfl rfl rfl rfl ?_
 refine TL.move hF rfl rfl ?_
 refine TL.gd (t:=10) rfl (fun g1_10=>?_) (fun g1_10=>?_)
 ·refine TL.on rfl rfl rfl (decide_eq_true g1_10) ?_
  refine TL.move hF rfl rfl ?_
  refine TL.on rfl rfl rfl (decide_eq_true g1_10) ?_
  refine TL.move hF rfl rfl ?_
  refine TL.on rfl rfl rfl (decide_eq_true g1_10) ?_
  refine TL.bin hF rfl rfl rfl rfl ?_
  refine TL.pickT hF rfl (decide_eq_true g1_10) rfl rfl ?_
  refine TL.assign hF rfl rfl ?_
  refine TL.nil ?_
  refine TQ.then_n ?_
  refine T.ret ?_
  refine TQ.rets [6] _ rfl rfl rfl ?_
  exact ⟨by simp [retVal, *],rfl⟩
 ·refine TL.off hF rfl rfl rfl (decide_eq_false g1_10) rfl ?_
  refine TL.off hF rfl rfl rfl (decide_eq_false g1_10) rfl ?_
  refine TL.off hF rfl rfl rfl (decide_eq_false g1_10) rfl ?_
  refine TL.pickF hF rfl (decide_eq_false g1_10) rfl rfl ?_
  refine TL.assign hF rfl rfl ?_
  refine TL.nil ?_
  refine TQ.then_n ?_
  refine T.ret ?_
  refine TQ.rets [6] _ rfl rfl rfl ?_
  exact ⟨by simp [retVal, *],rfl⟩
set_option maxHeartbeats 2000000 in
theorem Equal_fn {a b : Option Addr} {xs ys : List Int} {ca cb : Nat} (hx : Row S w0 η a (ints xs)) (hy : Row S w0 η b (ints ys)) (hl : xs.length < 2 ^ 63) :
  Rt Tryd.prog 25 [.slice a xs.length ca,.slice b ys.length cb].toArray S w0 η (fun v η'=>v = .bool (decide (xs=ys))∧η'=η):=by
 have hF:=open_wide
 refine Rt.of (fn:=Tryd.f25) Tryd.func25 rfl rfl ?_
 refine T.seq ?_
 refine T.region ?_
 refine TL.assign hF rfl rfl ?_
 refine TL.nil ?_
 refine TQ.then_n ?_
 refine T.seq ?_
 refine T.region ?_
 refine TL.move hF rfl rfl ?_
 refine TL.len hF rfl rfl ?_
 refine TL.move hF rfl rfl ?_
 refine TL.len hF rfl rfl ?_
 refine TL.bin hF rfl rfl rfl rfl ?_
 refine TL.assign hF rfl rfl ?_
 refine TL.nil ?_
 refine TQ.then_n ?_
 refine T.seq ?_
 refine T.seq ?_
 refine T.region ?_
 refine TL.assign hF rfl rfl ?_
 refine TL.nil ?_
 refine TQ.then_n ?_
 refine T.block ?_
 refine T.loop (ι:=Nat × Bool) (fun i=>i.1≤xs.length∧(i.2=true→xs.length=ys.length∧xs.take i.1=ys.take i.1)∧(i.2=false→xs≠ys)) (fun i=>[(0,.slice a xs.length ca),(1,.slice b ys.length cb),(5,.bool i.2),(6,.int .i64 (i.1:Int))]) (fun _=>η) (fun i=>xs.length - i.1) (0,decide ((xs.length:Int)=ys.length)) ⟨Nat.zero_le _,fun h=>⟨by simpa [Int.ofNat_inj] using h,by simp⟩,fun h e=>by subst e; simp at h⟩ ⟨rfl,rfl,rfl,rfl,trivial⟩ rfl ?_
 rintro ⟨k,s⟩ ⟨hk,hs1,hs2⟩
 simp only at hk hs1 hs2
 refine T.seq ?_
 refine T.seq ?_
 refine T.region ?_
 refine TL.move hF rfl rfl ?_
 refine TL.move hF rfl rfl ?_
 refine TL.gb (t:=13) rfl (fun g3_13=>?_) (fun g3_13=>?_)
 ·refine TL.on rfl rfl rfl g3_13 ?_
  refine TL.move hF rfl rfl ?_
  refine TL.on rfl rfl rfl g3_13 ?_
  refine TL.move hF rfl rfl ?_
  refine TL.on rfl rfl rfl g3_13 ?_
  refine TL.len hF rfl rfl ?_
  refine TL.on rfl rfl rfl g3_13 ?_
  refine TL.bin hF rfl rfl rfl rfl ?_
  refine TL.pickT hF rfl g3_13 rfl rfl ?_
  refine TL.nil ?_
  refine TQ.then_n ?_
  first | refine T.cond_d rfl (fun ht18=>?_) (fun ht18=>?_) | refine T.cond _ rfl (fun ht18=>?_) (fun ht18=>?_)
  ·refine T.skip ?_
   refine TQ.then_n ?_
   refine T.seq ?_
   refine T.block ?_
   refine T.draw ?_
   refine DR.stepV [_] rfl [(0,_,none)] rfl rfl ⟨⟨rfl,by kernel_rfl⟩,trivial⟩ (fun ext=>TL.move hF rfl rfl TL.fin) ?_
   refine DR.stepV [_,_] rfl [(6,_,none)] rfl rfl ⟨⟨rfl,by kernel_rfl⟩,trivial⟩ (fun ext=>TL.move hF rfl rfl TL.fin) ?_
   refine DR.stepV [_,_,_] rfl [(21,_,some 0),(22,_,some 1)] rfl rfl ⟨⟨rfl,rfl,rfl⟩,⟨rfl,rfl,rfl⟩,trivial⟩ (fun ext=>TL.indexAddr hF rfl rfl (hx.adi (i:=k) (by simp; omega)) (by omega) (by omega) rfl TL.fin) ?_
   refine DR.stepV [_,_,_,_] rfl [(23,_,some 2)] rfl rfl ⟨⟨rfl,rfl,rfl⟩,trivial⟩ (fun ext=>TL.load hF rfl (hx.int (i:=k) (by omega)) rfl TL.fin) ?_
   refine DR.stepV [_,_,_,_,_] rfl [(1,_,none)] rfl rfl ⟨⟨rfl,by kernel_rfl⟩,trivial⟩ (fun ext=>TL.move hF rfl rfl TL.fin) ?_
   refine DR.stepV [_,_,_,_,_,_] rfl [(6,_,none)] rfl rfl ⟨⟨rfl,by kernel_rfl⟩,trivial⟩ (fun ext=>TL.move hF rfl rfl TL.fin) ?_
   refine DR.stepV [_,_,_,_,_,_,_] rfl [(25,_,some 4),(26,_,some 5)] rfl rfl ⟨⟨rfl,rfl,rfl⟩,⟨rfl,rfl,rfl⟩,trivial⟩ (fun ext=>TL.indexAddr hF rfl rfl (hy.adi (i:=k) (by simp; have:=(hs1 g3_13).1; omega)) (by omega) (by have:=(hs1 g3_13).1; omega) rfl TL.fin) ?_
   refine DR.stepV [_,_,_,_,_,_,_,_] rfl [(27,_,some 6)] rfl rfl ⟨⟨rfl,rfl,rfl⟩,trivial⟩ (fun ext=>TL.load hF rfl (hy.int (i:=k) (by have:=(hs1 g3_13).1; omega)) rfl TL.fin) ?_
   refine DR.done [(28,_),(27,_),(26,_),(25,_),(24,_),(23,_),(22,_),(21,_)] [_,_] mixed (by kernel_rfl) (by kernel_rfl) (by kernel_rfl) rfl rfl ?_
   refine TL.bin hF rfl rfl rfl rfl ?_
   refine TL.assign hF rfl rfl ?_
   refine TL.nil ?_
   refine TQ.block_n ?_
   refine TQ.then_n ?_
   refine T.region ?_
   refine TL.move hF rfl rfl ?_
   refine TL.add hF rfl rfl (by omega) (by omega) rfl ?_
   refine TL.assign hF rfl rfl ?_
   refine TL.nil ?_
   refine TQ.round (k+1,decide (xs[k]'(by omega)=ys[k]'(by have:=(hs1 g3_13).1; omega))) ⟨by simp only; omega,fun h=>⟨(hs1 g3_13).1,take_succ_eq _ _ (hs1 g3_13).2 (of_decide_eq_true h)⟩,fun h=>ne_of_getElem _ _ (of_decide_eq_false h)⟩ (by simp only; omega) ⟨rfl,rfl,rfl,rfl,trivial⟩ rfl
  ·refine T.exit ?_
   refine TQ.then_x ?_
   refine TQ.then_x ?_
   refine TQ.block_x ?_
   refine TQ.then_n ?_
   refine T.seq ?_
   refine T.region ?_
   refine TL.move hF rfl rfl ?_
   refine TL.assign hF rfl rfl ?_
   refine TL.nil ?_
   refine TQ.then_n ?_
   refine T.ret ?_
   refine TQ.rets [4] _ rfl rfl rfl ?_
   subst g3_13
   have h1:=hs1 rfl
   have h2:xs=ys:=by have:=h1.2; rwa [List.take_of_length_le (by omega),List.take_of_length_le (by omega)] at this
   exact ⟨by simp [retVal,h2],rfl⟩
 ·refine TL.off hF rfl rfl rfl g3_13 rfl ?_
  refine TL.off hF rfl rfl rfl g3_13 rfl ?_
  refine TL.off hF rfl rfl rfl g3_13 rfl ?_
  refine TL.off hF rfl rfl rfl g3_13 rfl ?_
  refine TL.pickF hF rfl g3_13 rfl rfl ?_
  refine TL.nil ?_
  refine TQ.then_n ?_
  refine T.cond_f rfl rfl ?_
  refine T.exit ?_
  refine TQ.then_x ?_
  refine TQ.then_x ?_
  refine TQ.block_x ?_
  refine TQ.then_n ?_
  refine T.seq ?_
  refine T.region ?_
  refine TL.move hF rfl rfl ?_
  refine TL.assign hF rfl rfl ?_
  refine TL.nil ?_
  refine TQ.then_n ?_
  refine T.ret ?_
  refine TQ.rets [4] _ rfl rfl rfl ?_
  subst g3_13
  exact ⟨by simp [retVal,hs2 rfl],rfl⟩
/-- A number from 0 to one less than another one. -/
def turnI (n m:Int):Int:=if m<1 then 0 else n % m
theorem tmod_emod (n:Int) {m:Int} (h:0<m):(if Int.tmod n m<0 then Int.tmod n m+m else Int.tmod n m)=n % m:=by
 have h1:=Int.emod_nonneg n (b:=m) (by omega)
 have h2:=Int.emod_lt_of_pos n h
 have e:=Int.tmod_eq_emod (a:=n) (b:=m)
 split at e <;> split <;> omega
theorem turnI_range (n:Int) {m:Int} (h:1≤m):0≤turnI n m∧turnI n m<m:=by
 unfold turnI
 rw [if_neg (by omega)]
 exact ⟨Int.emod_nonneg n (by omega),Int.emod_lt_of_pos n (by omega)⟩
theorem tmod_range (n:Int) {m:Int} (h:0<m) : -m<Int.tmod n m∧Int.tmod n m<m:=by
 have h1:=Int.tmod_lt_of_pos n h
 have h2:=Int.tmod_lt_of_pos (-n) h
 rw [Int.neg_tmod] at h2
 omega
set_option maxHeartbeats 2000000 in
theorem Turn_fn (n : Int) {m : Int} (hm : m ≤ 9223372036854775807) :
  Rt Tryd.prog 30 [.int .i64 n,.int .i64 m].toArray S w0 η (fun v η'=>v = .int .i64 (turnI n m)∧η'=η):=by
 have hF:=open_wide
 refine Rt.of (fn:=Tryd.f30) Tryd.func30 rfl rfl ?_
 refine T.seq ?_
 refine T.region ?_
 refine TL.assign hF rfl rfl ?_
 refine TL.nil ?_
 refine TQ.then_n ?_
 refine T.seq ?_
 refine T.seq ?_
 refine T.region ?_
 refine TL.move hF rfl rfl ?_
 refine TL.bin hF rfl rfl rfl rfl ?_
 refine TL.nil ?_
 refine TQ.then_n ?_
 first | refine T.cond_d rfl (fun ht7=>?_) (fun ht7=>?_) | refine T.cond _ rfl (fun ht7=>?_) (fun ht7=>?_)
 ·refine T.seq ?_
  refine T.region ?_
  refine TL.assign hF rfl rfl ?_
  refine TL.nil ?_
  refine TQ.then_n ?_
  refine T.ret ?_
  refine TQ.then_r ?_
  refine TQ.rets [4] _ rfl rfl rfl ?_
  exact ⟨by unfold turnI; rw [if_pos ht7]; rfl,rfl⟩
 ·refine T.skip ?_
  refine TQ.then_n ?_
  refine T.seq ?_
  refine T.region ?_
  refine TL.move hF rfl rfl ?_
  refine TL.move hF rfl rfl ?_
  have hr:=tmod_range n (m:=m) (by omega)
  refine TL.remI hF rfl rfl (by omega) rfl ?_
  refine TL.assign hF rfl rfl ?_
  refine TL.nil ?_
  refine TQ.then_n ?_
  refine T.seq ?_
  refine T.seq ?_
  refine T.region ?_
  refine TL.move hF rfl rfl ?_
  refine TL.bin hF rfl rfl rfl rfl ?_
  refine TL.nil ?_
  refine TQ.then_n ?_
  first | refine T.cond_d rfl (fun ht12=>?_) (fun ht12=>?_) | refine T.cond _ rfl (fun ht12=>?_) (fun ht12=>?_)
  ·refine T.region ?_
   refine TL.move hF rfl rfl ?_
   refine TL.move hF rfl rfl ?_
   refine TL.add hF rfl rfl (by omega) (by omega) rfl ?_
   refine TL.assign hF rfl rfl ?_
   refine TL.nil ?_
   refine TQ.then_n ?_
   refine T.seq ?_
   refine T.region ?_
   refine TL.move hF rfl rfl ?_
   refine TL.assign hF rfl rfl ?_
   refine TL.nil ?_
   refine TQ.then_n ?_
   refine T.ret ?_
   refine TQ.rets [4] _ rfl rfl rfl ?_
   exact ⟨by have e:=tmod_emod n (m:=m) (by omega); rw [if_pos ht12] at e; unfold turnI; rw [if_neg ht7,← e]; rfl,rfl⟩
  ·refine T.skip ?_
   refine TQ.then_n ?_
   refine T.seq ?_
   refine T.region ?_
   refine TL.move hF rfl rfl ?_
   refine TL.assign hF rfl rfl ?_
   refine TL.nil ?_
   refine TQ.then_n ?_
   refine T.ret ?_
   refine TQ.rets [4] _ rfl rfl rfl ?_
   exact ⟨by have e:=tmod_emod n (m:=m) (by omega); rw [if_neg ht12] at e; unfold turnI; rw [if_neg ht7,← e]; rfl,rfl⟩
set_option maxHeartbeats 2000000 in
theorem Word_fn (n : Int) :
  Rt Tryd.prog 31 [.int .i64 n].toArray S w0 η (fun v η'=>v = .int .i64 (wrap32 n)∧η'=η):=by
 have hF:=open_wide
 refine Rt.of (fn:=Tryd.f31) Tryd.func31 rfl rfl ?_
 refine T.seq ?_
 refine T.region ?_
 refine TL.assign hF rfl rfl ?_
 refine TL.nil ?_
 refine TQ.then_n ?_
 refine T.seq ?_
 refine T.region ?_
 refine TL.move hF rfl rfl ?_
 refine TL.andLow hF rfl rfl rfl ?_
 refine TL.assign hF rfl rfl ?_
 refine TL.nil ?_
 refine TQ.then_n ?_
 refine T.seq ?_
 refine T.seq ?_
 refine T.region ?_
 refine TL.move hF rfl rfl ?_
 refine TL.bin hF rfl rfl rfl rfl ?_
 refine TL.nil ?_
 refine TQ.then_n ?_
 first | refine T.cond_d rfl (fun ht7=>?_) (fun ht7=>?_) | refine T.cond _ rfl (fun ht7=>?_) (fun ht7=>?_)
 ·refine T.region ?_
  refine TL.move hF rfl rfl ?_
  refine TL.sub hF rfl rfl (by omega) (by omega) rfl ?_
  refine TL.assign hF rfl rfl ?_
  refine TL.nil ?_
  refine TQ.then_n ?_
  refine T.seq ?_
  refine T.region ?_
  refine TL.move hF rfl rfl ?_
  refine TL.assign hF rfl rfl ?_
  refine TL.nil ?_
  refine TQ.then_n ?_
  refine T.ret ?_
  refine TQ.rets [2] _ rfl rfl rfl ?_
  exact ⟨congrArg (Value.int .i64) (by unfold wrap32; omega),rfl⟩
 ·refine T.skip ?_
  refine TQ.then_n ?_
  refine T.seq ?_
  refine T.region ?_
  refine TL.move hF rfl rfl ?_
  refine TL.assign hF rfl rfl ?_
  refine TL.nil ?_
  refine TQ.then_n ?_
  refine T.ret ?_
  refine TQ.rets [2] _ rfl rfl rfl ?_
  exact ⟨congrArg (Value.int .i64) (by unfold wrap32; omega),rfl⟩
set_option maxHeartbeats 2000000 in
theorem IsWord_fn (n : Int) :
  Rt Tryd.prog 59 [.int .i64 n].toArray S w0 η (fun v η'=>v = .bool (isW n)∧η'=η):=by
 have hF:=open_wide
 refine Rt.of (fn:=Tryd.f59) Tryd.func59 rfl rfl ?_
 refine T.seq ?_
 refine T.region ?_
 refine TL.assign hF rfl rfl ?_
 refine TL.nil ?_
 refine TQ.then_n ?_
 refine T.seq ?_
 refine T.region ?_
 refine TL.move hF rfl rfl ?_
 refine TL.move hF rfl rfl ?_
 refine TL.callV hF (Word_fn n) rfl rfl ?_
 refine TL.bin hF rfl rfl rfl rfl ?_
 refine TL.assign hF rfl rfl ?_
 refine TL.nil ?_
 refine TQ.then_n ?_
 refine T.ret ?_
 refine TQ.rets [2] _ rfl rfl rfl ?_
 exact ⟨by simp only [retVal,isW]; congr 1; rw [Bool.eq_iff_iff]; simp only [decide_eq_true_eq,Bool.and_eq_true]; unfold wrap32; omega,rfl⟩
set_option maxHeartbeats 2000000 in
theorem isWord_fn (n : Int) :
  Rt Tryd.prog 55 [.int .i64 n].toArray S w0 η (fun v η'=>v = .bool (isW n)∧η'=η):=by
 have hF:=open_wide
 refine Rt.of (fn:=Tryd.f55) Tryd.func55 rfl rfl ?_
 refine T.seq ?_
 refine T.region ?_
 refine TL.assign hF rfl rfl ?_
 refine TL.nil ?_
 refine TQ.then_n ?_
 refine T.seq ?_
 refine T.region ?_
 refine TL.move hF rfl rfl ?_
 refine TL.bin hF rfl rfl rfl rfl ?_
 refine TL.move hF rfl rfl ?_
 refine TL.gd (t:=5) rfl (fun g1_5=>?_) (fun g1_5=>?_)
 ·refine TL.on rfl rfl rfl (decide_eq_true g1_5) ?_
  refine TL.move hF rfl rfl ?_
  refine TL.on rfl rfl rfl (decide_eq_true g1_5) ?_
  refine TL.bin hF rfl rfl rfl rfl ?_
  refine TL.pickT hF rfl (decide_eq_true g1_5) rfl rfl ?_
  refine TL.assign hF rfl rfl ?_
  refine TL.nil ?_
  refine TQ.then_n ?_
  refine T.ret ?_
  refine TQ.rets [2] _ rfl rfl rfl ?_
  exact ⟨by simp [retVal,isW, *],rfl⟩
 ·refine TL.off hF rfl rfl rfl (decide_eq_false g1_5) rfl ?_
  refine TL.off hF rfl rfl rfl (decide_eq_false g1_5) rfl ?_
  refine TL.pickF hF rfl (decide_eq_false g1_5) rfl rfl ?_
  refine TL.assign hF rfl rfl ?_
  refine TL.nil ?_
  refine TQ.then_n ?_
  refine T.ret ?_
  refine TQ.rets [2] _ rfl rfl rfl ?_
  exact ⟨by simp [retVal,isW, *],rfl⟩
set_option maxHeartbeats 2000000 in
theorem w_sum {a b : Int} (ha : Wd a) (hb : Wd b) :
  Rt Tryd.prog 126 [.int .i64 a,.int .i64 b].toArray S w0 η (fun v η'=>v = .int .i64 (wrap32 (a+b))∧η'=η):=by
 unfold Wd at ha hb
 have hF:=open_wide
 refine Rt.of (fn:=Tryd.f126) Tryd.func126 rfl rfl ?_
 refine T.seq ?_
 refine T.region ?_
 refine TL.assign hF rfl rfl ?_
 refine TL.nil ?_
 refine TQ.then_n ?_
 refine T.seq ?_
 refine T.region ?_
 refine TL.move hF rfl rfl ?_
 refine TL.move hF rfl rfl ?_
 refine TL.add hF rfl rfl (by omega) (by omega) rfl ?_
 refine TL.convK hF (r:=wrap32 (a+b)) rfl wrap_i32 rfl ?_
 have hw:=wd_wrap (a+b)
 unfold Wd at hw
 refine TL.convK hF (r:=wrap32 (a+b)) rfl (wrap_i64 (by omega) (by omega)) rfl ?_
 refine TL.assign hF rfl rfl ?_
 refine TL.nil ?_
 refine TQ.then_n ?_
 refine T.ret ?_
 refine TQ.rets [4] _ rfl rfl rfl ?_
 exact ⟨rfl,rfl⟩
set_option maxHeartbeats 2000000 in
theorem w_min {a b : Int} :
  Rt Tryd.prog 127 [.int .i64 a,.int .i64 b].toArray S w0 η (fun v η'=>v = .int .i64 (min a b)∧η'=η):=by
 have hF:=open_wide
 refine Rt.of (fn:=Tryd.f127) Tryd.func127 rfl rfl ?_
 refine T.seq ?_
 refine T.region ?_
 refine TL.assign hF rfl rfl ?_
 refine TL.nil ?_
 refine TQ.then_n ?_
 refine T.seq ?_
 refine T.region ?_
 refine TL.move hF rfl rfl ?_
 refine TL.move hF rfl rfl ?_
 refine TL.min2 hF rfl rfl rfl ?_
 refine TL.assign hF rfl rfl ?_
 refine TL.nil ?_
 refine TQ.then_n ?_
 refine T.ret ?_
 refine TQ.rets [4] _ rfl rfl rfl ?_
 exact ⟨rfl,rfl⟩
set_option maxHeartbeats 2000000 in
theorem w_max {a b : Int} :
  Rt Tryd.prog 128 [.int .i64 a,.int .i64 b].toArray S w0 η (fun v η'=>v = .int .i64 (max a b)∧η'=η):=by
 have hF:=open_wide
 refine Rt.of (fn:=Tryd.f128) Tryd.func128 rfl rfl ?_
 refine T.seq ?_
 refine T.region ?_
 refine TL.assign hF rfl rfl ?_
 refine TL.nil ?_
 refine TQ.then_n ?_
 refine T.seq ?_
 refine T.region ?_
 refine TL.move hF rfl rfl ?_
 refine TL.move hF rfl rfl ?_
 refine TL.max2 hF rfl rfl rfl ?_
 refine TL.assign hF rfl rfl ?_
 refine TL.nil ?_
 refine TQ.then_n ?_
 refine T.ret ?_
 refine TQ.rets [4] _ rfl rfl rfl ?_
 exact ⟨rfl,rfl⟩
set_option maxHeartbeats 2000000 in
theorem w_itself {a : Int} :
  Rt Tryd.prog 109 [.int .i64 a].toArray S w0 η (fun v η'=>v = .int .i64 (a)∧η'=η):=by
 have hF:=open_wide
 refine Rt.of (fn:=Tryd.f109) Tryd.func109 rfl rfl ?_
 refine T.seq ?_
 refine T.region ?_
 refine TL.assign hF rfl rfl ?_
 refine TL.nil ?_
 refine TQ.then_n ?_
 refine T.seq ?_
 refine T.region ?_
 refine TL.move hF rfl rfl ?_
 refine TL.assign hF rfl rfl ?_
 refine TL.nil ?_
 refine TQ.then_n ?_
 refine T.ret ?_
 refine TQ.rets [2] _ rfl rfl rfl ?_
 exact ⟨rfl,rfl⟩
set_option maxHeartbeats 2000000 in
theorem w_one {a : Int} :
  Rt Tryd.prog 125 [.int .i64 a].toArray S w0 η (fun v η'=>v = .int .i64 (1)∧η'=η):=by
 have hF:=open_wide
 refine Rt.of (fn:=Tryd.f125) Tryd.func125 rfl rfl ?_
 refine T.seq ?_
 refine T.region ?_
 refine TL.assign hF rfl rfl ?_
 refine TL.nil ?_
 refine TQ.then_n ?_
 refine T.seq ?_
 refine T.region ?_
 refine TL.assign hF rfl rfl ?_
 refine TL.nil ?_
 refine TQ.then_n ?_
 refine T.ret ?_
 refine TQ.rets [2] _ rfl rfl rfl ?_
 exact ⟨rfl,rfl⟩
theorem one_fn {f w:Int}:Rt Tryd.prog (oneId f) [.int .i64 w].toArray S w0 η (fun v η'=>v = .int .i64 (oneF f w)∧η'=η):=by
 unfold oneId oneF
 split
 ·exact w_one
 ·exact w_itself
theorem two_fn {f a b:Int} (ha:Wd a) (hb:Wd b):Rt Tryd.prog (twoId f) [.int .i64 a,.int .i64 b].toArray S w0 η (fun v η'=>v = .int .i64 (twoF f a b)∧η'=η):=by
 unfold twoId twoF
 split
 ·exact w_min
 ·split
  ·exact w_max
  ·exact w_sum ha hb
end Go.Proofs.YtbajelldegijkaaDoor
/- How a stream is cut: checked; what cuts it; rows. -/
namespace Go.Proofs.YtbajelldegijkaaDoor
open Go.Sl
variable {S:Nat→Prop} {w0:World} {η:Heap}
theorem Tabs.get {f:Int} (h:Tabs S w0) (h0:0≤f) (h4:f<4):∀ j v,(foldC f)[j]?=some v→At S w0 η ⟨0,0+f.toNat*3+j,none⟩ v:=fun j v hj=>by
 have:=h f.toNat (by omega) j v (by rw [Int.toNat_of_nonneg h0]; exact hj)
 rw [Nat.zero_add]
 exact this.up (by simp)
theorem okS_eq {s:Wsp}:okS s=((decide (s.kind=0) || decide (s.kind=1)) && decide (1≤s.size) && decide (s.size≤1000) && decide (0≤s.late) && decide (s.late≤1000) && decide (0≤s.fold) && decide (s.fold<4) && (decide (s.kind=1) || (decide (1≤s.step) && decide (s.step≤s.size)))):=by
 unfold okS
 rw [Bool.eq_iff_iff]
 simp only [Bool.and_eq_true,Bool.or_eq_true,decide_eq_true_eq]
 omega
set_option maxHeartbeats 2000000 in
theorem checked_fn (ht : Tabs S w0) (s : Wsp) :
  RtE Tryd.prog 39 [wsV s].toArray S w0 η (fun v η'=>okS s=true∧v=spV s∧η'=η) (fun ch η'=>okS s=false∧ch=stopV 1∧η'=η):=by
 have hF:=open_wide
 refine RtE.of (fn:=Tryd.f39) Tryd.func39 rfl rfl ?_
 refine T.seq ?_
 refine T.region ?_
 refine TL.box hF rfl rfl (fun b1=>?_)
 refine TL.alloc hF rfl (fun b2=>?_)
 refine TL.nil ?_
 refine TQ.then_n ?_
 refine T.seq ?_
 refine T.region ?_
 refine TL.fieldAddr hF rfl rfl ?_
 refine TL.load hF rfl (by first | exact At.own' (i:=0) rfl rfl | exact At.own' (i:=1) rfl rfl | exact At.own' (i:=2) rfl rfl | exact At.own' (i:=3) rfl rfl | exact At.own' (i:=4) rfl rfl | exact At.own' (i:=5) rfl rfl | exact At.own' (i:=6) rfl rfl | exact At.own' (i:=7) rfl rfl | exact At.own' (i:=8) rfl rfl | exact At.own' (i:=9) rfl rfl | exact At.own' (i:=10) rfl rfl | exact At.own' (i:=11) rfl rfl | exact At.own' (i:=12) rfl rfl) rfl ?_
 refine TL.bin hF rfl rfl rfl rfl ?_
 refine TL.move hF rfl rfl ?_
 refine TL.join [_,_,_,_] 10 (.bool (decide (s.kind=0) || decide (s.kind=1))) rfl ?_ ?_
 ·refine TL.gd (t:=6) rfl (fun g1_6=>?_) (fun g1_6=>?_)
  ·refine TL.off hF rfl rfl rfl (decide_eq_true g1_6) rfl ?_
   refine TL.off hF rfl rfl rfl (decide_eq_true g1_6) rfl ?_
   refine TL.off hF rfl rfl rfl (decide_eq_true g1_6) rfl ?_
   refine TL.pickT hF rfl (decide_eq_true g1_6) rfl rfl ?_
   refine TL.finJ ⟨?_,by repeat (first | exact trivial | refine ⟨rfl,?_⟩)⟩
   exact congrArg (fun z=>some (Value.bool z)) (by first | (rw [(decide_eq_true g1_6)]; rfl) | (rw [(decide_eq_true g1_6)]; simp; done) | (simp [*]; done))
  ·refine TL.on rfl rfl rfl (decide_eq_false g1_6) ?_
   refine TL.fieldAddr hF rfl rfl ?_
   refine TL.on rfl rfl rfl (decide_eq_false g1_6) ?_
   refine TL.load hF rfl (by first | exact At.own' (i:=0) rfl rfl | exact At.own' (i:=1) rfl rfl | exact At.own' (i:=2) rfl rfl | exact At.own' (i:=3) rfl rfl | exact At.own' (i:=4) rfl rfl | exact At.own' (i:=5) rfl rfl | exact At.own' (i:=6) rfl rfl | exact At.own' (i:=7) rfl rfl | exact At.own' (i:=8) rfl rfl | exact At.own' (i:=9) rfl rfl | exact At.own' (i:=10) rfl rfl | exact At.own' (i:=11) rfl rfl | exact At.own' (i:=12) rfl rfl) rfl ?_
   refine TL.on rfl rfl rfl (decide_eq_false g1_6) ?_
   refine TL.bin hF rfl rfl rfl rfl ?_
   refine TL.pickF hF rfl (decide_eq_false g1_6) rfl rfl ?_
   refine TL.finJ ⟨?_,by repeat (first | exact trivial | refine ⟨rfl,?_⟩)⟩
   exact congrArg (fun z=>some (Value.bool z)) (by first | (rw [(decide_eq_false g1_6)]; rfl) | (rw [(decide_eq_false g1_6)]; simp; done) | (simp [*]; done))
 ·refine TL.move hF rfl rfl ?_
  refine TL.join [_,_,_,_] 15 (.bool ((decide (s.kind=0) || decide (s.kind=1)) && decide (1≤s.size))) rfl ?_ ?_
  ·refine TL.gb (t:=11) rfl (fun g1_11=>?_) (fun g1_11=>?_)
   ·refine TL.on rfl rfl rfl g1_11 ?_
    refine TL.fieldAddr hF rfl rfl ?_
    refine TL.on rfl rfl rfl g1_11 ?_
    refine TL.load hF rfl (by first | exact At.own' (i:=0) rfl rfl | exact At.own' (i:=1) rfl rfl | exact At.own' (i:=2) rfl rfl | exact At.own' (i:=3) rfl rfl | exact At.own' (i:=4) rfl rfl | exact At.own' (i:=5) rfl rfl | exact At.own' (i:=6) rfl rfl | exact At.own' (i:=7) rfl rfl | exact At.own' (i:=8) rfl rfl | exact At.own' (i:=9) rfl rfl | exact At.own' (i:=10) rfl rfl | exact At.own' (i:=11) rfl rfl | exact At.own' (i:=12) rfl rfl) rfl ?_
    refine TL.on rfl rfl rfl g1_11 ?_
    refine TL.bin hF rfl rfl rfl rfl ?_
    refine TL.pickT hF rfl g1_11 rfl rfl ?_
    refine TL.finJ ⟨?_,by repeat (first | exact trivial | refine ⟨rfl,?_⟩)⟩
    exact congrArg (fun z=>some (Value.bool z)) (by first | (rw [g1_11]; rfl) | (rw [g1_11]; simp; done) | (simp [*]; done))
   ·refine TL.off hF rfl rfl rfl g1_11 rfl ?_
    refine TL.off hF rfl rfl rfl g1_11 rfl ?_
    refine TL.off hF rfl rfl rfl g1_11 rfl ?_
    refine TL.pickF hF rfl g1_11 rfl rfl ?_
    refine TL.finJ ⟨?_,by repeat (first | exact trivial | refine ⟨rfl,?_⟩)⟩
    exact congrArg (fun z=>some (Value.bool z)) (by first | (rw [g1_11]; rfl) | (rw [g1_11]; simp; done) | (simp [*]; done))
  ·refine TL.move hF rfl rfl ?_
   refine TL.join [_,_,_,_] 20 (.bool (((decide (s.kind=0) || decide (s.kind=1)) && decide (1≤s.size)) && decide (s.size≤1000))) rfl ?_ ?_
   ·refine TL.gb (t:=16) rfl (fun g1_16=>?_) (fun g1_16=>?_)
    ·refine TL.on rfl rfl rfl g1_16 ?_
     refine TL.fieldAddr hF rfl rfl ?_
     refine TL.on rfl rfl rfl g1_16 ?_
     refine TL.load hF rfl (by first | exact At.own' (i:=0) rfl rfl | exact At.own' (i:=1) rfl rfl | exact At.own' (i:=2) rfl rfl | exact At.own' (i:=3) rfl rfl | exact At.own' (i:=4) rfl rfl | exact At.own' (i:=5) rfl rfl | exact At.own' (i:=6) rfl rfl | exact At.own' (i:=7) rfl rfl | exact At.own' (i:=8) rfl rfl | exact At.own' (i:=9) rfl rfl | exact At.own' (i:=10) rfl rfl | exact At.own' (i:=11) rfl rfl | exact At.own' (i:=12) rfl rfl) rfl ?_
     refine TL.on rfl rfl rfl g1_16 ?_
     refine TL.bin hF rfl rfl rfl rfl ?_
     refine TL.pickT hF rfl g1_16 rfl rfl ?_
     refine TL.finJ ⟨?_,by repeat (first | exact trivial | refine ⟨rfl,?_⟩)⟩
     exact congrArg (fun z=>some (Value.bool z)) (by first | (rw [g1_16]; rfl) | (rw [g1_16]; simp; done) | (simp [*]; done))
    ·refine TL.off hF rfl rfl rfl g1_16 rfl ?_
     refine TL.off hF rfl rfl rfl g1_16 rfl ?_
     refine TL.off hF rfl rfl rfl g1_16 rfl ?_
     refine TL.pickF hF rfl g1_16 rfl rfl ?_
     refine TL.finJ ⟨?_,by repeat (first | exact trivial | refine ⟨rfl,?_⟩)⟩
     exact congrArg (fun z=>some (Value.bool z)) (by first | (rw [g1_16]; rfl) | (rw [g1_16]; simp; done) | (simp [*]; done))
   ·refine TL.move hF rfl rfl ?_
    refine TL.join [_,_,_,_] 25 (.bool ((((decide (s.kind=0) || decide (s.kind=1)) && decide (1≤s.size)) && decide (s.size≤1000)) && decide (0≤s.late))) rfl ?_ ?_
    ·refine TL.gb (t:=21) rfl (fun g1_21=>?_) (fun g1_21=>?_)
     ·refine TL.on rfl rfl rfl g1_21 ?_
      refine TL.fieldAddr hF rfl rfl ?_
      refine TL.on rfl rfl rfl g1_21 ?_
      refine TL.load hF rfl (by first | exact At.own' (i:=0) rfl rfl | exact At.own' (i:=1) rfl rfl | exact At.own' (i:=2) rfl rfl | exact At.own' (i:=3) rfl rfl | exact At.own' (i:=4) rfl rfl | exact At.own' (i:=5) rfl rfl | exact At.own' (i:=6) rfl rfl | exact At.own' (i:=7) rfl rfl | exact At.own' (i:=8) rfl rfl | exact At.own' (i:=9) rfl rfl | exact At.own' (i:=10) rfl rfl | exact At.own' (i:=11) rfl rfl | exact At.own' (i:=12) rfl rfl) rfl ?_
      refine TL.on rfl rfl rfl g1_21 ?_
      refine TL.bin hF rfl rfl rfl rfl ?_
      refine TL.pickT hF rfl g1_21 rfl rfl ?_
      refine TL.finJ ⟨?_,by repeat (first | exact trivial | refine ⟨rfl,?_⟩)⟩
      exact congrArg (fun z=>some (Value.bool z)) (by first | (rw [g1_21]; rfl) | (rw [g1_21]; simp; done) | (simp [*]; done))
     ·refine TL.off hF rfl rfl rfl g1_21 rfl ?_
      refine TL.off hF rfl rfl rfl g1_21 rfl ?_
      refine TL.off hF rfl rfl rfl g1_21 rfl ?_
      refine TL.pickF hF rfl g1_21 rfl rfl ?_
      refine TL.finJ ⟨?_,by repeat (first | exact trivial | refine ⟨rfl,?_⟩)⟩
      exact congrArg (fun z=>some (Value.bool z)) (by first | (rw [g1_21]; rfl) | (rw [g1_21]; simp; done) | (simp [*]; done))
    ·refine TL.move hF rfl rfl ?_
     refine TL.join [_,_,_,_] 30 (.bool (((((decide (s.kind=0) || decide (s.kind=1)) && decide (1≤s.size)) && decide (s.size≤1000)) && decide (0≤s.late)) && decide (s.late≤1000))) rfl ?_ ?_
     ·refine TL.gb (t:=26) rfl (fun g1_26=>?_) (fun g1_26=>?_)
      ·refine TL.on rfl rfl rfl g1_26 ?_
       refine TL.fieldAddr hF rfl rfl ?_
       refine TL.on rfl rfl rfl g1_26 ?_
       refine TL.load hF rfl (by first | exact At.own' (i:=0) rfl rfl | exact At.own' (i:=1) rfl rfl | exact At.own' (i:=2) rfl rfl | exact At.own' (i:=3) rfl rfl | exact At.own' (i:=4) rfl rfl | exact At.own' (i:=5) rfl rfl | exact At.own' (i:=6) rfl rfl | exact At.own' (i:=7) rfl rfl | exact At.own' (i:=8) rfl rfl | exact At.own' (i:=9) rfl rfl | exact At.own' (i:=10) rfl rfl | exact At.own' (i:=11) rfl rfl | exact At.own' (i:=12) rfl rfl) rfl ?_
       refine TL.on rfl rfl rfl g1_26 ?_
       refine TL.bin hF rfl rfl rfl rfl ?_
       refine TL.pickT hF rfl g1_26 rfl rfl ?_
       refine TL.finJ ⟨?_,by repeat (first | exact trivial | refine ⟨rfl,?_⟩)⟩
       exact congrArg (fun z=>some (Value.bool z)) (by first | (rw [g1_26]; rfl) | (rw [g1_26]; simp; done) | (simp [*]; done))
      ·refine TL.off hF rfl rfl rfl g1_26 rfl ?_
       refine TL.off hF rfl rfl rfl g1_26 rfl ?_
       refine TL.off hF rfl rfl rfl g1_26 rfl ?_
       refine TL.pickF hF rfl g1_26 rfl rfl ?_
       refine TL.finJ ⟨?_,by repeat (first | exact trivial | refine ⟨rfl,?_⟩)⟩
       exact congrArg (fun z=>some (Value.bool z)) (by first | (rw [g1_26]; rfl) | (rw [g1_26]; simp; done) | (simp [*]; done))
     ·refine TL.move hF rfl rfl ?_
      refine TL.join [_,_,_,_] 35 (.bool ((((((decide (s.kind=0) || decide (s.kind=1)) && decide (1≤s.size)) && decide (s.size≤1000)) && decide (0≤s.late)) && decide (s.late≤1000)) && decide (0≤s.fold))) rfl ?_ ?_
      ·refine TL.gb (t:=31) rfl (fun g1_31=>?_) (fun g1_31=>?_)
       ·refine TL.on rfl rfl rfl g1_31 ?_
        refine TL.fieldAddr hF rfl rfl ?_
        refine TL.on rfl rfl rfl g1_31 ?_
        refine TL.load hF rfl (by first | exact At.own' (i:=0) rfl rfl | exact At.own' (i:=1) rfl rfl | exact At.own' (i:=2) rfl rfl | exact At.own' (i:=3) rfl rfl | exact At.own' (i:=4) rfl rfl | exact At.own' (i:=5) rfl rfl | exact At.own' (i:=6) rfl rfl | exact At.own' (i:=7) rfl rfl | exact At.own' (i:=8) rfl rfl | exact At.own' (i:=9) rfl rfl | exact At.own' (i:=10) rfl rfl | exact At.own' (i:=11) rfl rfl | exact At.own' (i:=12) rfl rfl) rfl ?_
        refine TL.on rfl rfl rfl g1_31 ?_
        refine TL.bin hF rfl rfl rfl rfl ?_
        refine TL.pickT hF rfl g1_31 rfl rfl ?_
        refine TL.finJ ⟨?_,by repeat (first | exact trivial | refine ⟨rfl,?_⟩)⟩
        exact congrArg (fun z=>some (Value.bool z)) (by first | (rw [g1_31]; rfl) | (rw [g1_31]; simp; done) | (simp [*]; done))
       ·refine TL.off hF rfl rfl rfl g1_31 rfl ?_
        refine TL.off hF rfl rfl rfl g1_31 rfl ?_
        refine TL.off hF rfl rfl rfl g1_31 rfl ?_
        refine TL.pickF hF rfl g1_31 rfl rfl ?_
        refine TL.finJ ⟨?_,by repeat (first | exact trivial | refine ⟨rfl,?_⟩)⟩
        exact congrArg (fun z=>some (Value.bool z)) (by first | (rw [g1_31]; rfl) | (rw [g1_31]; simp; done) | (simp [*]; done))
      ·refine TL.move hF rfl rfl ?_
       refine TL.join [_,_,_,_] 40 (.bool (((((((decide (s.kind=0) || decide (s.kind=1)) && decide (1≤s.size)) && decide (s.size≤1000)) && decide (0≤s.late)) && decide (s.late≤1000)) && decide (0≤s.fold)) && decide (s.fold<4))) rfl ?_ ?_
       ·refine TL.gb (t:=36) rfl (fun g1_36=>?_) (fun g1_36=>?_)
        ·refine TL.on rfl rfl rfl g1_36 ?_
         refine TL.fieldAddr hF rfl rfl ?_
         refine TL.on rfl rfl rfl g1_36 ?_
         refine TL.load hF rfl (by first | exact At.own' (i:=0) rfl rfl | exact At.own' (i:=1) rfl rfl | exact At.own' (i:=2) rfl rfl | exact At.own' (i:=3) rfl rfl | exact At.own' (i:=4) rfl rfl | exact At.own' (i:=5) rfl rfl | exact At.own' (i:=6) rfl rfl | exact At.own' (i:=7) rfl rfl | exact At.own' (i:=8) rfl rfl | exact At.own' (i:=9) rfl rfl | exact At.own' (i:=10) rfl rfl | exact At.own' (i:=11) rfl rfl | exact At.own' (i:=12) rfl rfl) rfl ?_
         refine TL.on rfl rfl rfl g1_36 ?_
         refine TL.bin hF rfl rfl rfl rfl ?_
         refine TL.pickT hF rfl g1_36 rfl rfl ?_
         refine TL.finJ ⟨?_,by repeat (first | exact trivial | refine ⟨rfl,?_⟩)⟩
         exact congrArg (fun z=>some (Value.bool z)) (by first | (rw [g1_36]; rfl) | (rw [g1_36]; simp; done) | (simp [*]; done))
        ·refine TL.off hF rfl rfl rfl g1_36 rfl ?_
         refine TL.off hF rfl rfl rfl g1_36 rfl ?_
         refine TL.off hF rfl rfl rfl g1_36 rfl ?_
         refine TL.pickF hF rfl g1_36 rfl rfl ?_
         refine TL.finJ ⟨?_,by repeat (first | exact trivial | refine ⟨rfl,?_⟩)⟩
         exact congrArg (fun z=>some (Value.bool z)) (by first | (rw [g1_36]; rfl) | (rw [g1_36]; simp; done) | (simp [*]; done))
       ·refine TL.callM hF (must_fn (((((((decide (s.kind=0) || decide (s.kind=1)) && decide (1≤s.size)) && decide (s.size≤1000)) && decide (0≤s.late)) && decide (s.late≤1000)) && decide (0≤s.fold)) && decide (s.fold<4)) 1) rfl rfl (fun hm1 v41=>?_) (fun hm1=>?_)
        ·skip
         refine TL.nil ?_
         refine TQ.then_n ?_
         refine T.seq ?_
         refine T.region ?_
         refine TL.fieldAddr hF rfl rfl ?_
         refine TL.load hF rfl (by first | exact At.own' (i:=0) rfl rfl | exact At.own' (i:=1) rfl rfl | exact At.own' (i:=2) rfl rfl | exact At.own' (i:=3) rfl rfl | exact At.own' (i:=4) rfl rfl | exact At.own' (i:=5) rfl rfl | exact At.own' (i:=6) rfl rfl | exact At.own' (i:=7) rfl rfl | exact At.own' (i:=8) rfl rfl | exact At.own' (i:=9) rfl rfl | exact At.own' (i:=10) rfl rfl | exact At.own' (i:=11) rfl rfl | exact At.own' (i:=12) rfl rfl) rfl ?_
         refine TL.bin hF rfl rfl rfl rfl ?_
         refine TL.move hF rfl rfl ?_
         refine TL.join [_,_,_,_,_,_,_,_,_,_,_] 56 (.bool (decide (s.kind=1) || (decide (1≤s.step) && decide (s.step≤s.size)))) rfl ?_ ?_
         ·refine TL.gd (t:=45) rfl (fun g2_45=>?_) (fun g2_45=>?_)
          ·refine TL.off hF rfl rfl rfl (decide_eq_true g2_45) rfl ?_
           refine TL.off hF rfl rfl rfl (decide_eq_true g2_45) rfl ?_
           refine TL.off hF rfl rfl rfl (decide_eq_true g2_45) rfl ?_
           refine TL.off hF rfl rfl rfl (decide_eq_true g2_45) rfl ?_
           refine TL.offU hF rfl rfl rfl rfl ?_
           refine TL.offU hF rfl rfl rfl rfl ?_
           refine TL.offU hF rfl rfl rfl rfl ?_
           refine TL.offU hF rfl rfl rfl rfl ?_
           refine TL.offU hF rfl rfl rfl rfl ?_
           refine TL.off hF rfl rfl rfl (decide_eq_true g2_45) rfl ?_
           refine TL.pickT hF rfl (decide_eq_true g2_45) rfl rfl ?_
           refine TL.finJ ⟨?_,by repeat (first | exact trivial | refine ⟨rfl,?_⟩)⟩
           exact congrArg (fun z=>some (Value.bool z)) (by first | (rw [(decide_eq_true g2_45)]; rfl) | (rw [(decide_eq_true g2_45)]; simp; done) | (simp [*]; done))
          ·refine TL.on rfl rfl rfl (decide_eq_false g2_45) ?_
           refine TL.fieldAddr hF rfl rfl ?_
           refine TL.on rfl rfl rfl (decide_eq_false g2_45) ?_
           refine TL.load hF rfl (by first | exact At.own' (i:=0) rfl rfl | exact At.own' (i:=1) rfl rfl | exact At.own' (i:=2) rfl rfl | exact At.own' (i:=3) rfl rfl | exact At.own' (i:=4) rfl rfl | exact At.own' (i:=5) rfl rfl | exact At.own' (i:=6) rfl rfl | exact At.own' (i:=7) rfl rfl | exact At.own' (i:=8) rfl rfl | exact At.own' (i:=9) rfl rfl | exact At.own' (i:=10) rfl rfl | exact At.own' (i:=11) rfl rfl | exact At.own' (i:=12) rfl rfl) rfl ?_
           refine TL.on rfl rfl rfl (decide_eq_false g2_45) ?_
           refine TL.bin hF rfl rfl rfl rfl ?_
           refine TL.on rfl rfl rfl (decide_eq_false g2_45) ?_
           refine TL.move hF rfl rfl ?_
           refine TL.join [_,_,_,_,_,_] 55 (.bool (decide (1≤s.step) && decide (s.step≤s.size))) rfl ?_ ?_
           ·refine TL.gd (t:=49) rfl (fun g2_49=>?_) (fun g2_49=>?_)
            ·refine TL.on rfl rfl rfl (decide_eq_true g2_49) ?_
             refine TL.fieldAddr hF rfl rfl ?_
             refine TL.on rfl rfl rfl (decide_eq_true g2_49) ?_
             refine TL.load hF rfl (by first | exact At.own' (i:=0) rfl rfl | exact At.own' (i:=1) rfl rfl | exact At.own' (i:=2) rfl rfl | exact At.own' (i:=3) rfl rfl | exact At.own' (i:=4) rfl rfl | exact At.own' (i:=5) rfl rfl | exact At.own' (i:=6) rfl rfl | exact At.own' (i:=7) rfl rfl | exact At.own' (i:=8) rfl rfl | exact At.own' (i:=9) rfl rfl | exact At.own' (i:=10) rfl rfl | exact At.own' (i:=11) rfl rfl | exact At.own' (i:=12) rfl rfl) rfl ?_
             refine TL.on rfl rfl rfl (decide_eq_true g2_49) ?_
             refine TL.fieldAddr hF rfl rfl ?_
             refine TL.on rfl rfl rfl (decide_eq_true g2_49) ?_
             refine TL.load hF rfl (by first | exact At.own' (i:=0) rfl rfl | exact At.own' (i:=1) rfl rfl | exact At.own' (i:=2) rfl rfl | exact At.own' (i:=3) rfl rfl | exact At.own' (i:=4) rfl rfl | exact At.own' (i:=5) rfl rfl | exact At.own' (i:=6) rfl rfl | exact At.own' (i:=7) rfl rfl | exact At.own' (i:=8) rfl rfl | exact At.own' (i:=9) rfl rfl | exact At.own' (i:=10) rfl rfl | exact At.own' (i:=11) rfl rfl | exact At.own' (i:=12) rfl rfl) rfl ?_
             refine TL.on rfl rfl rfl (decide_eq_true g2_49) ?_
             refine TL.bin hF rfl rfl rfl rfl ?_
             refine TL.on rfl rfl rfl (decide_eq_false g2_45) ?_
             refine TL.pickT hF rfl (decide_eq_true g2_49) rfl rfl ?_
             refine TL.finJ ⟨?_,by repeat (first | exact trivial | refine ⟨rfl,?_⟩)⟩
             exact congrArg (fun z=>some (Value.bool z)) (by first | (rw [(decide_eq_true g2_49)]; rfl) | (rw [(decide_eq_true g2_49)]; simp; done) | (simp [*]; done))
            ·refine TL.off hF rfl rfl rfl (decide_eq_false g2_49) rfl ?_
             refine TL.off hF rfl rfl rfl (decide_eq_false g2_49) rfl ?_
             refine TL.off hF rfl rfl rfl (decide_eq_false g2_49) rfl ?_
             refine TL.off hF rfl rfl rfl (decide_eq_false g2_49) rfl ?_
             refine TL.off hF rfl rfl rfl (decide_eq_false g2_49) rfl ?_
             refine TL.on rfl rfl rfl (decide_eq_false g2_45) ?_
             refine TL.pickF hF rfl (decide_eq_false g2_49) rfl rfl ?_
             refine TL.finJ ⟨?_,by repeat (first | exact trivial | refine ⟨rfl,?_⟩)⟩
             exact congrArg (fun z=>some (Value.bool z)) (by first | (rw [(decide_eq_false g2_49)]; rfl) | (rw [(decide_eq_false g2_49)]; simp; done) | (simp [*]; done))
           ·refine TL.pickF hF rfl (decide_eq_false g2_45) rfl rfl ?_
            refine TL.finJ ⟨?_,by repeat (first | exact trivial | refine ⟨rfl,?_⟩)⟩
            exact congrArg (fun z=>some (Value.bool z)) (by first | (rw [(decide_eq_false g2_49)]; rfl) | (rw [(decide_eq_false g2_49)]; simp; done) | (simp [*]; done))
         ·refine TL.callM hF (must_fn (decide (s.kind=1) || (decide (1≤s.step) && decide (s.step≤s.size))) 1) rfl rfl (fun hm2 v57=>?_) (fun hm2=>?_)
          ·skip
           refine TL.nil ?_
           refine TQ.then_n ?_
           refine T.seq ?_
           have hfo:0≤s.fold∧s.fold<4:=by simp only [Bool.and_eq_true,decide_eq_true_eq] at hm1; omega
           refine T.draw ?_
           refine DR.stepV [_] rfl [(1,_,none)] rfl rfl ⟨⟨rfl,by kernel_rfl⟩,trivial⟩ (fun ext=>TL.loadA hF (wsC s) rfl rfl (own_list (i:=1) (cs:=wsC s) rfl) rfl TL.fin) ?_
           refine DR.stepV [_,_] rfl [(1,_,none)] rfl rfl ⟨⟨rfl,by kernel_rfl⟩,trivial⟩ (fun ext=>TL.fieldAddr hF rfl rfl TL.fin) ?_
           refine DR.stepV [_,_,_] rfl [(59,_,some 1)] rfl rfl ⟨⟨rfl,rfl,rfl⟩,trivial⟩ (fun ext=>TL.load hF rfl (by first | exact At.own' (i:=0) rfl rfl | exact At.own' (i:=1) rfl rfl | exact At.own' (i:=2) rfl rfl | exact At.own' (i:=3) rfl rfl | exact At.own' (i:=4) rfl rfl | exact At.own' (i:=5) rfl rfl | exact At.own' (i:=6) rfl rfl | exact At.own' (i:=7) rfl rfl | exact At.own' (i:=8) rfl rfl | exact At.own' (i:=9) rfl rfl | exact At.own' (i:=10) rfl rfl | exact At.own' (i:=11) rfl rfl | exact At.own' (i:=12) rfl rfl) rfl TL.fin) ?_
           refine DR.stepV [_,_,_,_] rfl [(60,_,some 2)] rfl rfl ⟨⟨rfl,rfl,rfl⟩,trivial⟩ (fun ext=>TL.indexAddrA hF rfl rfl hfo.1 hfo.2 rfl TL.fin) ?_
           refine DR.stepV [_,_,_,_,_] rfl [(61,_,some 3)] rfl rfl ⟨⟨rfl,rfl,rfl⟩,trivial⟩ (fun ext=>TL.loadA hF (foldC s.fold) rfl rfl (ht.get hfo.1 hfo.2) rfl TL.fin) ?_
           refine DR.done [(62,_),(61,_),(60,_),(59,_),(58,_)] [_,_] mixed (by kernel_rfl) (by kernel_rfl) (by kernel_rfl) rfl rfl ?_
           refine TL.build hF rfl (r:=spV s) (fun w=>by kernel_rfl) rfl ?_
           refine TL.storeAs hF (spC s) (spC s) 0 (cs:=[.int .i64 0,.int .i64 0,.int .i64 0,.int .i64 0,.int .i64 0,.int .i64 0,.nilFunc,.nilFunc]) rfl rfl rfl rfl (spC1 s) (Nat.le_refl 8) rfl ?_
           refine TL.nil ?_
           refine TQ.then_n ?_
           refine T.ret ?_
           refine TQ.retXE [.cell 2 78] [spV s] η rfl ⟨ResV.agg (spC s) rfl rfl (own_list (i:=0) (cs:=spC s) rfl),trivial⟩ rfl (List.Sublist.cons _ (List.sublist_cons_self _ _)) ?_
           exact ⟨by rw [okS_eq,hm1,hm2]; rfl,rfl,rfl⟩
          ·skip
           refine TQ.then_p ?_
           refine TQ.pop (TQ.pop ?_)
           first
            | exact TQ.panicE ⟨by rw [okS_eq,hm1,Bool.false_and],rfl,rfl⟩
            | exact TQ.panicE ⟨by rw [okS_eq,hm1,hm2,Bool.and_false],rfl,rfl⟩
        ·skip
         refine TQ.then_p ?_
         refine TQ.pop (TQ.pop ?_)
         first
          | exact TQ.panicE ⟨by rw [okS_eq,hm1,Bool.false_and],rfl,rfl⟩
          | exact TQ.panicE ⟨by rw [okS_eq,hm1,hm2,Bool.and_false],rfl,rfl⟩
/-- What cuts a stream. -/
abbrev cutV (s:Wsp):Value:=.iface (if s.kind=1 then 124 else 125) (spV s)
set_option maxHeartbeats 2000000 in
theorem cutter_fn (s : Wsp) :
  Rt Tryd.prog 47 [spV s].toArray S w0 η (fun v η'=>v=cutV s∧η'=η):=by
 have hF:=open_wide
 refine Rt.of (fn:=Tryd.f47) Tryd.func47 rfl rfl ?_
 refine T.seq ?_
 refine T.region ?_
 refine TL.box hF rfl rfl (fun b1=>?_)
 refine TL.assign hF rfl rfl ?_
 refine TL.nil ?_
 refine TQ.then_n ?_
 refine T.seq ?_
 refine T.seq ?_
 refine T.region ?_
 refine TL.fieldAddr hF rfl rfl ?_
 refine TL.fieldAddr hF rfl rfl ?_
 refine TL.load hF rfl (by first | exact At.own' (i:=0) rfl rfl | exact At.own' (i:=1) rfl rfl | exact At.own' (i:=2) rfl rfl | exact At.own' (i:=3) rfl rfl | exact At.own' (i:=4) rfl rfl | exact At.own' (i:=5) rfl rfl | exact At.own' (i:=6) rfl rfl | exact At.own' (i:=7) rfl rfl | exact At.own' (i:=8) rfl rfl | exact At.own' (i:=9) rfl rfl | exact At.own' (i:=10) rfl rfl | exact At.own' (i:=11) rfl rfl | exact At.own' (i:=12) rfl rfl) rfl ?_
 refine TL.bin hF rfl rfl rfl rfl ?_
 refine TL.nil ?_
 refine TQ.then_n ?_
 refine T.cond_d rfl (fun ht6=>?_) (fun ht6=>?_)
 ·refine T.seq ?_
  refine T.region ?_
  refine TL.loadA hF (spC s) rfl rfl (own_list (i:=0) (cs:=spC s) rfl) rfl ?_
  refine TL.build hF rfl (r:=spV s) (fun w=>by kernel_rfl) rfl ?_
  refine TL.makeInterfaceR hF rfl (r:=.iface 124 (spV s)) (fun w=>by kernel_rfl) rfl ?_
  refine TL.assign hF rfl rfl ?_
  refine TL.nil ?_
  refine TQ.then_n ?_
  refine T.ret ?_
  refine TQ.then_r ?_
  refine TQ.pop ?_
  refine TQ.rets [2] _ rfl rfl rfl ?_
  exact ⟨by unfold cutV; rw [if_pos ht6]; rfl,rfl⟩
 ·refine T.skip ?_
  refine TQ.then_n ?_
  refine T.seq ?_
  refine T.region ?_
  refine TL.loadA hF (spC s) rfl rfl (own_list (i:=0) (cs:=spC s) rfl) rfl ?_
  refine TL.build hF rfl (r:=spV s) (fun w=>by kernel_rfl) rfl ?_
  refine TL.makeInterfaceR hF rfl (r:=.iface 125 (spV s)) (fun w=>by kernel_rfl) rfl ?_
  refine TL.assign hF rfl rfl ?_
  refine TL.nil ?_
  refine TQ.then_n ?_
  refine T.ret ?_
  refine TQ.pop ?_
  refine TQ.rets [2] _ rfl rfl rfl ?_
  exact ⟨by unfold cutV; rw [if_neg ht6]; rfl,rfl⟩
theorem okR_eq {r:Rw}:okR r=(decide (0≤r.time) && decide (r.time≤1048576) && decide (0≤r.key) && decide (r.key<1000) && isW r.word):=by
 unfold okR okT
 rw [show decide (r.key≤999)=decide (r.key<1000) from decide_eq_decide.2 (by omega)]
set_option maxHeartbeats 2000000 in
theorem stream_fn {a : Option Addr} {l : List Rw} {c : Nat} (hx : RRow S w0 [] a l) (hl : l.length < 9223372036854775808) :
    RtE Tryd.prog 45 [.slice a l.length c].toArray S w0 η (fun _ η'=>l.length≤300∧l.all okR=true∧η'=η) (fun ch η'=>∃ e:Int,((e=3∧300<l.length)∨(e=2∧¬ 300<l.length∧l.all okR=false))∧ch=stopV e∧η'=η):=by
  have hF:=open_wide
  refine RtE.of (fn:=Tryd.f45) Tryd.func45 rfl rfl ?_
  refine T.seq ?_
  refine T.region ?_
  refine TL.move hF rfl rfl ?_
  refine TL.len hF rfl rfl ?_
  refine TL.bin hF rfl rfl rfl rfl ?_
  refine TL.callM hF (must_fn _ 3) rfl rfl (fun hm1 v7=>?_) (fun hm1=>?_)
  · skip
    refine TL.nil ?_
    refine TQ.then_n ?_
    refine T.seq ?_
    refine T.region ?_
    refine TL.move hF rfl rfl ?_
    refine TL.len hF rfl rfl ?_
    refine TL.move hF rfl rfl ?_
    refine TL.nil ?_
    refine TQ.then_n ?_
    refine T.block ?_
    refine T.loop (ι:=Nat) (fun k=>k≤l.length∧∀ x∈l.take k,okR x=true) (fun k=>[(8,.slice a l.length c),(9,.int .i64 (l.length:Int)),(10,.int .i64 (k:Int))]) (fun _=>η) (fun k=>l.length - k) 0 ⟨Nat.zero_le _,by simp⟩ ⟨rfl,rfl,rfl,trivial⟩ rfl ?_
    rintro k ⟨hk,hall⟩
    refine T.seq ?_
    refine T.region ?_
    refine TL.bin hF rfl rfl rfl rfl ?_
    refine TL.nil ?_
    refine TQ.then_n ?_
    refine T.seq ?_
    first | refine T.cond_d rfl (fun ht11=>?_) (fun ht11=>?_) | refine T.cond _ rfl (fun ht11=>?_) (fun ht11=>?_)
    · refine T.skip ?_
      refine TQ.then_n ?_
      refine T.seq ?_
      refine T.block ?_
      refine T.seq ?_
      refine T.region ?_
      have hkl:k<l.length:=by have h:(k:Int)<(l.length:Int):=ht11; omega
      refine TL.indexAddr hF rfl rfl (rr_ad hx hkl) (by omega) (by omega) rfl ?_
      refine TL.loadA hF (rwC l[k]) rfl rfl (rr_at (Row.ro hx) hkl) rfl ?_
      refine TL.alloc hF rfl (fun b3=>?_)
      refine TL.storeAs hF (rwC l[k]) (rwC l[k]) 0 (cs:=[.int .i64 0,.int .i64 0,.int .i64 0]) rfl rfl rfl rfl (rwC1 _) (Nat.le_refl 3) rfl ?_
      refine TL.nil ?_
      refine TQ.then_n ?_
      refine T.region ?_
      refine TL.fieldAddr hF rfl rfl ?_
      refine TL.load hF rfl (by first | exact At.own' (i:=0) rfl rfl | exact At.own' (i:=1) rfl rfl | exact At.own' (i:=2) rfl rfl | exact At.own' (i:=3) rfl rfl | exact At.own' (i:=4) rfl rfl | exact At.own' (i:=5) rfl rfl | exact At.own' (i:=6) rfl rfl | exact At.own' (i:=7) rfl rfl | exact At.own' (i:=8) rfl rfl | exact At.own' (i:=9) rfl rfl | exact At.own' (i:=10) rfl rfl | exact At.own' (i:=11) rfl rfl | exact At.own' (i:=12) rfl rfl) rfl ?_
      refine TL.bin hF rfl rfl rfl rfl ?_
      refine TL.move hF rfl rfl ?_
      refine TL.join [_,_,_,_] 21 (.bool ((decide (0≤l[k].time)) && decide (l[k].time≤1048576))) rfl ?_ ?_
      · refine TL.gd (t:=17) rfl (fun g4_17=>?_) (fun g4_17=>?_)
        · refine TL.on rfl rfl rfl (decide_eq_true g4_17) ?_
          refine TL.fieldAddr hF rfl rfl ?_
          refine TL.on rfl rfl rfl (decide_eq_true g4_17) ?_
          refine TL.load hF rfl (by first | exact At.own' (i:=0) rfl rfl | exact At.own' (i:=1) rfl rfl | exact At.own' (i:=2) rfl rfl | exact At.own' (i:=3) rfl rfl | exact At.own' (i:=4) rfl rfl | exact At.own' (i:=5) rfl rfl | exact At.own' (i:=6) rfl rfl | exact At.own' (i:=7) rfl rfl | exact At.own' (i:=8) rfl rfl | exact At.own' (i:=9) rfl rfl | exact At.own' (i:=10) rfl rfl | exact At.own' (i:=11) rfl rfl | exact At.own' (i:=12) rfl rfl) rfl ?_
          refine TL.on rfl rfl rfl (decide_eq_true g4_17) ?_
          refine TL.bin hF rfl rfl rfl rfl ?_
          refine TL.pickT hF rfl (decide_eq_true g4_17) rfl rfl ?_
          refine TL.finJ ⟨?_,by repeat (first | exact trivial | refine ⟨rfl,?_⟩)⟩
          exact congrArg (fun z=>some (Value.bool z)) (by first | (rw [(decide_eq_true g4_17)]; rfl) | (rw [(decide_eq_true g4_17)]; simp; done) | (simp [*]; done))
        · refine TL.off hF rfl rfl rfl (decide_eq_false g4_17) rfl ?_
          refine TL.off hF rfl rfl rfl (decide_eq_false g4_17) rfl ?_
          refine TL.off hF rfl rfl rfl (decide_eq_false g4_17) rfl ?_
          refine TL.pickF hF rfl (decide_eq_false g4_17) rfl rfl ?_
          refine TL.finJ ⟨?_,by repeat (first | exact trivial | refine ⟨rfl,?_⟩)⟩
          exact congrArg (fun z=>some (Value.bool z)) (by first | (rw [(decide_eq_false g4_17)]; rfl) | (rw [(decide_eq_false g4_17)]; simp; done) | (simp [*]; done))
      · refine TL.move hF rfl rfl ?_
        refine TL.join [_,_,_,_] 26 (.bool (((decide (0≤l[k].time)) && decide (l[k].time≤1048576)) && decide (0≤l[k].key))) rfl ?_ ?_
        · refine TL.gb (t:=22) rfl (fun g4_22=>?_) (fun g4_22=>?_)
          · refine TL.on rfl rfl rfl g4_22 ?_
            refine TL.fieldAddr hF rfl rfl ?_
            refine TL.on rfl rfl rfl g4_22 ?_
            refine TL.load hF rfl (by first | exact At.own' (i:=0) rfl rfl | exact At.own' (i:=1) rfl rfl | exact At.own' (i:=2) rfl rfl | exact At.own' (i:=3) rfl rfl | exact At.own' (i:=4) rfl rfl | exact At.own' (i:=5) rfl rfl | exact At.own' (i:=6) rfl rfl | exact At.own' (i:=7) rfl rfl | exact At.own' (i:=8) rfl rfl | exact At.own' (i:=9) rfl rfl | exact At.own' (i:=10) rfl rfl | exact At.own' (i:=11) rfl rfl | exact At.own' (i:=12) rfl rfl) rfl ?_
            refine TL.on rfl rfl rfl g4_22 ?_
            refine TL.bin hF rfl rfl rfl rfl ?_
            refine TL.pickT hF rfl g4_22 rfl rfl ?_
            refine TL.finJ ⟨?_,by repeat (first | exact trivial | refine ⟨rfl,?_⟩)⟩
            exact congrArg (fun z=>some (Value.bool z)) (by first | (rw [g4_22]; rfl) | (rw [g4_22]; simp; done) | (simp [*]; done))
          · refine TL.off hF rfl rfl rfl g4_22 rfl ?_
            refine TL.off hF rfl rfl rfl g4_22 rfl ?_
            refine TL.off hF rfl rfl rfl g4_22 rfl ?_
            refine TL.pickF hF rfl g4_22 rfl rfl ?_
            refine TL.finJ ⟨?_,by repeat (first | exact trivial | refine ⟨rfl,?_⟩)⟩
            exact congrArg (fun z=>some (Value.bool z)) (by first | (rw [g4_22]; rfl) | (rw [g4_22]; simp; done) | (simp [*]; done))
        · refine TL.move hF rfl rfl ?_
          refine TL.join [_,_,_,_] 31 (.bool ((((decide (0≤l[k].time)) && decide (l[k].time≤1048576)) && decide (0≤l[k].key)) && decide (l[k].key<1000))) rfl ?_ ?_
          · refine TL.gb (t:=27) rfl (fun g4_27=>?_) (fun g4_27=>?_)
            · refine TL.on rfl rfl rfl g4_27 ?_
              refine TL.fieldAddr hF rfl rfl ?_
              refine TL.on rfl rfl rfl g4_27 ?_
              refine TL.load hF rfl (by first | exact At.own' (i:=0) rfl rfl | exact At.own' (i:=1) rfl rfl | exact At.own' (i:=2) rfl rfl | exact At.own' (i:=3) rfl rfl | exact At.own' (i:=4) rfl rfl | exact At.own' (i:=5) rfl rfl | exact At.own' (i:=6) rfl rfl | exact At.own' (i:=7) rfl rfl | exact At.own' (i:=8) rfl rfl | exact At.own' (i:=9) rfl rfl | exact At.own' (i:=10) rfl rfl | exact At.own' (i:=11) rfl rfl | exact At.own' (i:=12) rfl rfl) rfl ?_
              refine TL.on rfl rfl rfl g4_27 ?_
              refine TL.bin hF rfl rfl rfl rfl ?_
              refine TL.pickT hF rfl g4_27 rfl rfl ?_
              refine TL.finJ ⟨?_,by repeat (first | exact trivial | refine ⟨rfl,?_⟩)⟩
              exact congrArg (fun z=>some (Value.bool z)) (by first | (rw [g4_27]; rfl) | (rw [g4_27]; simp; done) | (simp [*]; done))
            · refine TL.off hF rfl rfl rfl g4_27 rfl ?_
              refine TL.off hF rfl rfl rfl g4_27 rfl ?_
              refine TL.off hF rfl rfl rfl g4_27 rfl ?_
              refine TL.pickF hF rfl g4_27 rfl rfl ?_
              refine TL.finJ ⟨?_,by repeat (first | exact trivial | refine ⟨rfl,?_⟩)⟩
              exact congrArg (fun z=>some (Value.bool z)) (by first | (rw [g4_27]; rfl) | (rw [g4_27]; simp; done) | (simp [*]; done))
          · refine TL.move hF rfl rfl ?_
            refine TL.join [_,_,_,_] 36 (.bool (((((decide (0≤l[k].time)) && decide (l[k].time≤1048576)) && decide (0≤l[k].key)) && decide (l[k].key<1000)) && isW l[k].word)) rfl ?_ ?_
            · refine TL.gb (t:=32) rfl (fun g4_32=>?_) (fun g4_32=>?_)
              · refine TL.on rfl rfl rfl g4_32 ?_
                refine TL.fieldAddr hF rfl rfl ?_
                refine TL.on rfl rfl rfl g4_32 ?_
                refine TL.load hF rfl (by first | exact At.own' (i:=0) rfl rfl | exact At.own' (i:=1) rfl rfl | exact At.own' (i:=2) rfl rfl | exact At.own' (i:=3) rfl rfl | exact At.own' (i:=4) rfl rfl | exact At.own' (i:=5) rfl rfl | exact At.own' (i:=6) rfl rfl | exact At.own' (i:=7) rfl rfl | exact At.own' (i:=8) rfl rfl | exact At.own' (i:=9) rfl rfl | exact At.own' (i:=10) rfl rfl | exact At.own' (i:=11) rfl rfl | exact At.own' (i:=12) rfl rfl) rfl ?_
                refine TL.on rfl rfl rfl g4_32 ?_
                refine TL.callV hF (isWord_fn l[k].word) rfl rfl ?_
                refine TL.pickT hF rfl g4_32 rfl rfl ?_
                refine TL.finJ ⟨?_,by repeat (first | exact trivial | refine ⟨rfl,?_⟩)⟩
                exact congrArg (fun z=>some (Value.bool z)) (by first | (rw [g4_32]; rfl) | (rw [g4_32]; simp; done) | (simp [*]; done))
              · refine TL.off hF rfl rfl rfl g4_32 rfl ?_
                refine TL.off hF rfl rfl rfl g4_32 rfl ?_
                refine TL.off hF rfl rfl rfl g4_32 rfl ?_
                refine TL.pickF hF rfl g4_32 rfl rfl ?_
                refine TL.finJ ⟨?_,by repeat (first | exact trivial | refine ⟨rfl,?_⟩)⟩
                exact congrArg (fun z=>some (Value.bool z)) (by first | (rw [g4_32]; rfl) | (rw [g4_32]; simp; done) | (simp [*]; done))
            · refine TL.callM hF (must_fn (((((decide (0≤l[k].time)) && decide (l[k].time≤1048576)) && decide (0≤l[k].key)) && decide (l[k].key<1000)) && isW l[k].word) 2) rfl rfl (fun hm2 v37=>?_) (fun hm2=>?_)
              · skip
                refine TL.nil ?_
                refine TQ.block_n ?_
                refine TQ.then_n ?_
                refine T.region ?_
                refine TL.add hF rfl rfl (by omega) (by omega) rfl ?_
                refine TL.move hF rfl rfl ?_
                refine TL.nil ?_
                refine TQ.pop ?_
                refine TQ.round (k+1) ⟨by omega,fun x hx2=>?_⟩ (by omega) ⟨rfl,rfl,rfl,trivial⟩ rfl
                rw [List.take_succ_eq_append_getElem hkl] at hx2
                rcases List.mem_append.1 hx2 with h | h
                · exact hall x h
                · rw [List.mem_singleton.1 h,okR_eq]; exact hm2
              · skip
                refine TQ.block_p ?_
                refine TQ.then_p ?_
                refine TQ.then_p ?_
                refine TQ.block_p ?_
                first
                  | (refine TQ.pop ?_
                     refine TQ.panicE ⟨2,?_,rfl,rfl⟩
                     have h3:¬ 300<l.length:=by have h:=of_decide_eq_true hm1; omega
                     right
                     refine ⟨rfl,h3,?_⟩
                     rw [← Bool.not_eq_true,List.all_eq_true]
                     intro h
                     have:=h l[k] (List.getElem_mem hkl)
                     rw [okR_eq,hm2] at this; cases this)
                  | (refine TQ.panicE ⟨3, .inl ⟨rfl, ?_⟩, rfl, rfl⟩
                     have h:=of_decide_eq_false hm1; omega)
    · refine T.exit ?_
      refine TQ.then_x ?_
      refine TQ.then_x ?_
      refine TQ.block_x ?_
      refine TQ.norm ?_
      refine TQ.retsE [] _ rfl rfl rfl ?_
      have h:¬ (k:Int)<(l.length:Int):=ht11
      rw [List.take_of_length_le (by omega)] at hall
      have h1:=of_decide_eq_true hm1
      exact ⟨by omega,List.all_eq_true.2 hall,rfl⟩
  · skip
    refine TQ.then_p ?_
    first
      | (refine TQ.pop ?_
         refine TQ.panicE ⟨2,?_,rfl,rfl⟩
         have h3:¬ 300<l.length:=by have h:=of_decide_eq_true hm1; omega
         right
         refine ⟨rfl,h3,?_⟩
         rw [← Bool.not_eq_true,List.all_eq_true]
         intro h
         have:=h l[k] (List.getElem_mem hkl)
         rw [okR_eq,hm2] at this; cases this)
      | (refine TQ.panicE ⟨3, .inl ⟨rfl, ?_⟩, rfl, rfl⟩
         have h:=of_decide_eq_false hm1; omega)
end Go.Proofs.YtbajelldegijkaaDoor
/- The windows of a time, by the program. -/
namespace Go.Proofs.YtbajelldegijkaaDoor
open Go.Sl
variable {S:Nat→Prop} {w0:World} {η:Heap}
def pC (w:Int × Int):List Value:=[.int .i64 w.1,.int .i64 w.2]
theorem pC_len (w:Int × Int):(pC w).length=2:=rfl
theorem pC1 (w:Int × Int):∀ v∈pC w,v.oneCell'=true:=by intro v hv; simp only [pC,List.mem_cons,List.not_mem_nil,or_false] at hv; rcases hv with rfl | rfl <;> rfl
def spanE (s:Wsp) (t:Int):List (List Value):=(spansS s t).map pC
theorem spans_len (s:Wsp) (t:Int):(spansS s t).length=countS s t:=by simp [spansS]
theorem spanE_len (s:Wsp) (t:Int):(spanE s t).length=countS s t:=by simp [spanE,spans_len]
theorem spans_at {s:Wsp} {t:Int} {i:Nat} (h:i<countS s t):(spansS s t)[i]?=some ((firstS s t+i)*s.step,(firstS s t+i)*s.step+s.size):=by simp [spansS,h]
theorem spanE_at {s:Wsp} {t:Int} {i:Nat} (h:i<countS s t):(spanE s t)[i]?=some [.int .i64 ((firstS s t+i)*s.step),.int .i64 ((firstS s t+i)*s.step+s.size)]:=by
 unfold spanE; rw [List.getElem?_map,spans_at h]; rfl
def SpanC (s:Wsp) (t:Int) (bt bs:Nat) (η:Heap):Prop:=[(bt,Obj.cells #[.int .i64 t] 3 (0,0))]∈η∧[(bs,Obj.cells (spC s).toArray 78 (0,0))]∈η
/-- A time, and how it is cut into windows. -/
structure TimeOk (s:Wsp) (t:Int):Prop where
 sp:SpOk s
 size:s.size≤1000
 t0:0≤t
 t1:t≤1048576
theorem mul_low {s:Wsp} {t j:Int} (h:TimeOk s t) (h0:0≤j) (h1:j≤t / s.step):0≤j*s.step∧j*s.step≤t:=by
 have hs:=h.sp.step
 exact ⟨Int.mul_nonneg h0 (by omega),(Int.le_ediv_iff_mul_le (by omega)).1 h1⟩
theorem first_le {s:Wsp} {t:Int} (h:TimeOk s t):firstS s t≤t / s.step:=by
 have hs:=h.sp.step
 have h2:=Int.ediv_nonneg h.t0 (show 0≤s.step by omega)
 rw [firstS_le h.sp h2]
 have h3:=Int.lt_ediv_add_one_mul_self t (show 0<s.step by omega)
 rw [Int.add_mul] at h3
 have:=h.sp.size; omega
theorem count_eq {s:Wsp} {t:Int} (h:TimeOk s t):(countS s t:Int)=t / s.step - firstS s t+1:=by
 unfold countS
 have h1:=first_le h
 omega
theorem count_le {s:Wsp} {t:Int} (h:TimeOk s t):countS s t≤1048577:=by
 have h1:=count_eq h
 have h2:=firstS_nonneg h.sp t
 have h3:t / s.step≤t:=Int.ediv_le_self _ h.t0
 have:=h.t1; omega
set_option maxHeartbeats 2000000 in
theorem windows_iter {s:Wsp} {t:Int} {bt bs:Nat} (ho:TimeOk s t):Iter Tryd.prog 61 [] [ptr bt,ptr bs] (spanE s t) S w0 (SpanC s t bt bs):=by
 intro yl J X η hC hY h0
 have hsp:=ho.sp.step
 have hss:=ho.sp.size
 have hsz:=ho.size
 have ht0:=ho.t0
 have ht1:=ho.t1
 have hfn:=firstS_nonneg ho.sp t
 have hcn:=count_eq ho
 have hq0:=Int.ediv_nonneg ht0 (show 0≤s.step by omega)
 have hq1:t / s.step≤t:=Int.ediv_le_self _ ht0
 have hqm:=mul_low ho hq0 (Int.le_refl _)
 have hfl:=first_le ho
 have hF:=open_wide
 refine Rt.of (fn:=Tryd.f61) Tryd.func61 rfl rfl ?_
 refine T.scope ?_
 refine T.seq ?_
 refine T.draw ?_
 refine DR.stepV [_] rfl [(1,_,none)] rfl rfl ⟨⟨rfl,by kernel_rfl⟩,trivial⟩ (fun ext=>TL.load hF rfl (own_mem (hC _ _ h0).1 rfl) rfl TL.fin) ?_
 refine DR.stepV [_,_] rfl [(2,_,none)] rfl rfl ⟨⟨rfl,by kernel_rfl⟩,trivial⟩ (fun ext=>TL.fieldAddr hF rfl rfl TL.fin) ?_
 refine DR.stepV [_,_,_] rfl [(8,_,some 1)] rfl rfl ⟨⟨rfl,rfl,rfl⟩,trivial⟩ (fun ext=>TL.fieldAddr hF rfl rfl TL.fin) ?_
 refine DR.stepV [_,_,_,_] rfl [(9,_,some 2)] rfl rfl ⟨⟨rfl,rfl,rfl⟩,trivial⟩ (fun ext=>TL.load hF rfl (own_mem (hC _ _ h0).2 rfl) rfl TL.fin) ?_
 refine DR.stepV [_,_,_,_,_] rfl [(7,_,some 0),(10,_,some 3)] rfl rfl ⟨⟨rfl,rfl,rfl⟩,⟨rfl,rfl,rfl⟩,trivial⟩ (fun ext=>TL.quoI hF rfl rfl (by omega) (r:=t / s.step) (by rw [Int.tdiv_eq_ediv_of_nonneg ho.t0]; exact wrap_i64 (by omega) (by omega)) rfl TL.fin) ?_
 refine DR.stepV [_,_,_,_,_,_] rfl [(2,_,none)] rfl rfl ⟨⟨rfl,by kernel_rfl⟩,trivial⟩ (fun ext=>TL.fieldAddr hF rfl rfl TL.fin) ?_
 refine DR.stepV [_,_,_,_,_,_,_] rfl [(12,_,some 5)] rfl rfl ⟨⟨rfl,rfl,rfl⟩,trivial⟩ (fun ext=>TL.fieldAddr hF rfl rfl TL.fin) ?_
 refine DR.stepV [_,_,_,_,_,_,_,_] rfl [(13,_,some 6)] rfl rfl ⟨⟨rfl,rfl,rfl⟩,trivial⟩ (fun ext=>TL.load hF rfl (own_mem (hC _ _ h0).2 rfl) rfl TL.fin) ?_
 refine DR.done [(14,_),(13,_),(12,_),(11,_),(10,_),(9,_),(8,_),(7,_)] [_,_] mixed (by kernel_rfl) (by kernel_rfl) (by kernel_rfl) rfl rfl ?_
 refine TL.mul hF rfl rfl (by omega) (by omega) rfl ?_
 refine TL.assign hF rfl rfl ?_
 refine TL.nil ?_
 refine TQ.then_n ?_
 refine T.seq ?_
 refine T.region ?_
 refine TL.move hF rfl rfl ?_
 refine TL.assign hF rfl rfl ?_
 refine TL.nil ?_
 refine TQ.then_n ?_
 refine T.seq ?_
 refine T.block ?_
 refine T.loop (ι:=Int) (fun j=>firstS s t≤j∧j≤t / s.step) (fun j=>[(0,.func (.yield yl) #[] #[]),(1,ptr bt),(2,ptr bs),(4,.int .i64 (t / s.step*s.step)),(5,.int .i64 (j*s.step))]) (fun _=>η) (fun j=>j.toNat) (t / s.step) ⟨hfl,Int.le_refl _⟩ ⟨rfl,rfl,rfl,rfl,rfl,trivial⟩ rfl ?_
 rintro j ⟨hj1,hj2⟩
 have hm:=mul_low ho (by omega) hj2
 refine T.seq ?_
 refine T.seq ?_
 refine T.region ?_
 refine TL.move hF rfl rfl ?_
 refine TL.fieldAddr hF rfl rfl ?_
 refine TL.fieldAddr hF rfl rfl ?_
 refine TL.load hF rfl (own_mem (hC _ _ h0).2 rfl) rfl ?_
 refine TL.bin hF rfl rfl rfl rfl ?_
 refine TL.move hF rfl rfl ?_
 refine TL.join [_,_,_,_,_,_,_,_,_,_,_,_] 34 (.bool (decide (s.step≤j*s.step) && decide (t<j*s.step - s.step+s.size))) rfl ?_ ?_
 ·refine TL.gd (t:=22) rfl (fun g2_22=>?_) (fun g2_22=>?_)
  ·refine TL.on rfl rfl rfl (decide_eq_true g2_22) ?_
   refine TL.move hF rfl rfl ?_
   refine TL.on rfl rfl rfl (decide_eq_true g2_22) ?_
   refine TL.fieldAddr hF rfl rfl ?_
   refine TL.on rfl rfl rfl (decide_eq_true g2_22) ?_
   refine TL.fieldAddr hF rfl rfl ?_
   refine TL.on rfl rfl rfl (decide_eq_true g2_22) ?_
   refine TL.load hF rfl (own_mem (hC _ _ h0).2 rfl) rfl ?_
   refine TL.on rfl rfl rfl (decide_eq_true g2_22) ?_
   refine TL.sub hF rfl rfl (by omega) (by omega) rfl ?_
   refine TL.on rfl rfl rfl (decide_eq_true g2_22) ?_
   refine TL.fieldAddr hF rfl rfl ?_
   refine TL.on rfl rfl rfl (decide_eq_true g2_22) ?_
   refine TL.fieldAddr hF rfl rfl ?_
   refine TL.on rfl rfl rfl (decide_eq_true g2_22) ?_
   refine TL.load hF rfl (own_mem (hC _ _ h0).2 rfl) rfl ?_
   refine TL.on rfl rfl rfl (decide_eq_true g2_22) ?_
   refine TL.add hF rfl rfl (by omega) (by omega) rfl ?_
   refine TL.on rfl rfl rfl (decide_eq_true g2_22) ?_
   refine TL.load hF rfl (own_mem (hC _ _ h0).1 rfl) rfl ?_
   refine TL.on rfl rfl rfl (decide_eq_true g2_22) ?_
   refine TL.bin hF rfl rfl rfl rfl ?_
   refine TL.pickT hF rfl (decide_eq_true g2_22) rfl rfl ?_
   refine TL.finJ ⟨?_,by repeat (first | exact trivial | refine ⟨rfl,?_⟩)⟩
   exact congrArg (fun z=>some (Value.bool z)) (by first | (rw [(decide_eq_true g2_22)]; rfl) | (rw [(decide_eq_true g2_22)]; simp; done) | (simp [*]; done))
  ·refine TL.off hF rfl rfl rfl (decide_eq_false g2_22) rfl ?_
   refine TL.off hF rfl rfl rfl (decide_eq_false g2_22) rfl ?_
   refine TL.off hF rfl rfl rfl (decide_eq_false g2_22) rfl ?_
   refine TL.off hF rfl rfl rfl (decide_eq_false g2_22) rfl ?_
   refine TL.off hF rfl rfl rfl (decide_eq_false g2_22) rfl ?_
   refine TL.off hF rfl rfl rfl (decide_eq_false g2_22) rfl ?_
   refine TL.off hF rfl rfl rfl (decide_eq_false g2_22) rfl ?_
   refine TL.off hF rfl rfl rfl (decide_eq_false g2_22) rfl ?_
   refine TL.off hF rfl rfl rfl (decide_eq_false g2_22) rfl ?_
   refine TL.off hF rfl rfl rfl (decide_eq_false g2_22) rfl ?_
   refine TL.off hF rfl rfl rfl (decide_eq_false g2_22) rfl ?_
   refine TL.pickF hF rfl (decide_eq_false g2_22) rfl rfl ?_
   refine TL.finJ ⟨?_,by repeat (first | exact trivial | refine ⟨rfl,?_⟩)⟩
   exact congrArg (fun z=>some (Value.bool z)) (by first | (rw [(decide_eq_false g2_22)]; rfl) | (rw [(decide_eq_false g2_22)]; simp; done) | (simp [*]; done))
 ·refine TL.nil ?_
  refine TQ.then_n ?_
  refine T.cond _ rfl (fun ht34=>?_) (fun ht34=>?_)
  ·refine T.skip ?_
   refine TQ.then_n ?_
   refine T.block ?_
   refine T.region ?_
   refine TL.move hF rfl rfl ?_
   refine TL.fieldAddr hF rfl rfl ?_
   refine TL.fieldAddr hF rfl rfl ?_
   refine TL.load hF rfl (own_mem (hC _ _ h0).2 rfl) rfl ?_
   refine TL.sub hF rfl rfl (by omega) (by omega) rfl ?_
   refine TL.assign hF rfl rfl ?_
   refine TL.nil ?_
   refine TQ.block_n ?_
   simp only [Bool.and_eq_true,decide_eq_true_eq] at ht34
   have hjp:1≤j:=by
    rcases Int.lt_or_le j 1 with q | q
    ·have:j*s.step≤0*s.step:=Int.mul_le_mul_of_nonneg_right (by omega) (by omega)
     omega
    ·exact q
   have e:j*s.step - s.step=(j - 1)*s.step:=by rw [Int.sub_mul,Int.one_mul]
   have hf:firstS s t≤j - 1:=(firstS_le ho.sp (by omega)).2 (by rw [← e]; exact ht34.2)
   exact TQ.round (j - 1) ⟨hf,by omega⟩ (by omega) ⟨rfl,rfl,rfl,rfl,by rw [← e]; rfl,trivial⟩ rfl
  ·refine T.exit ?_
   refine TQ.then_x ?_
   refine TQ.then_x ?_
   refine TQ.block_x ?_
   refine TQ.then_n ?_
   refine T.seq ?_
   refine T.label ?_
   refine TQ.then_n ?_
   refine T.seq ?_
   refine T.region ?_
   refine TL.move hF rfl rfl ?_
   refine TL.assign hF rfl rfl ?_
   refine TL.nil ?_
   refine TQ.then_n ?_
   refine T.block ?_
   have hjf:j=firstS s t:=by
    have h1:¬ (s.step≤j*s.step∧t<j*s.step - s.step+s.size):=by
     intro q
     rw [← Bool.not_eq_true] at ht34
     exact ht34 (by simp only [Bool.and_eq_true,decide_eq_true_eq]; exact q)
    rcases Int.lt_or_le (firstS s t) j with q | q
    ·exfalso
     have h2:=(firstS_le ho.sp (t:=t) (j:=j - 1) (by omega)).1 (by omega)
     rw [Int.sub_mul,Int.one_mul] at h2
     have h3:1*s.step≤j*s.step:=Int.mul_le_mul_of_nonneg_right (by omega) (by omega)
     exact h1 ⟨by omega,h2⟩
    ·omega
   refine T.loop (ι:=Nat × Heap) (fun i=>i.1≤countS s t∧J i.1 i.2) (fun i=>[(0,.func (.yield yl) #[] #[]),(1,ptr bt),(2,ptr bs),(4,.int .i64 (t / s.step*s.step)),(6,.int .i64 ((firstS s t+i.1)*s.step))]) (fun i=>i.2) (fun i=>countS s t - i.1) (0,η) ⟨Nat.zero_le _,h0⟩ ⟨rfl,rfl,rfl,rfl,congrArg (fun z=>some (Value.int .i64 z)) (by rw [hjf]; simp),trivial⟩ rfl ?_
   rintro ⟨i,η1⟩ ⟨hi,hJ⟩
   dsimp only at hi hJ
   have hbn:0≤(firstS s t+i)*s.step∧(firstS s t+i)*s.step≤t+s.step:=by
    refine ⟨Int.mul_nonneg (by omega) (by omega),?_⟩
    have h2:=mul_low ho (j:=t / s.step) (by omega) (Int.le_refl _)
    have h3:(firstS s t+i)*s.step≤(t / s.step+1)*s.step:=Int.mul_le_mul_of_nonneg_right (by omega) (by omega)
    have e1:(t / s.step+1)*s.step=t / s.step*s.step+s.step:=by rw [Int.add_mul,Int.one_mul]
    omega
   refine T.seq ?_
   refine T.seq ?_
   refine T.region ?_
   refine TL.move hF rfl rfl ?_
   refine TL.move hF rfl rfl ?_
   refine TL.bin hF rfl rfl rfl rfl ?_
   refine TL.nil ?_
   refine TQ.then_n ?_
   first | refine T.cond_d rfl (fun ht43=>?_) (fun ht43=>?_) | refine T.cond _ rfl (fun ht43=>?_) (fun ht43=>?_)
   ·refine T.skip ?_
    refine TQ.then_n ?_
    refine T.seq ?_
    refine T.block ?_
    refine T.seq ?_
    refine T.region ?_
    refine TL.move hF rfl rfl ?_
    refine TL.move hF rfl rfl ?_
    refine TL.move hF rfl rfl ?_
    refine TL.fieldAddr hF rfl rfl ?_
    refine TL.fieldAddr hF rfl rfl ?_
    refine TL.load hF rfl (own_mem (hC _ _ hJ).2 rfl) rfl ?_
    refine TL.add hF rfl rfl (by dsimp only; omega) (by dsimp only; omega) rfl ?_
    have hil:i<countS s t:=by
     have h:(firstS s t+i)*s.step≤t / s.step*s.step:=ht43
     rcases Nat.lt_or_ge i (countS s t) with q | q
     ·exact q
     ·exfalso
      have h3:(t / s.step+1)*s.step≤(firstS s t+i)*s.step:=Int.mul_le_mul_of_nonneg_right (by omega) (by omega)
      have e1:(t / s.step+1)*s.step=t / s.step*s.step+s.step:=by rw [Int.add_mul,Int.one_mul]
      omega
    refine TL.yield rfl rfl rfl (hY _ _ _ (spanE_at hil) hJ) rfl (fun yb η2 hyb=>?_)
    refine TL.not hF rfl rfl ?_
    refine TL.nil ?_
    refine TQ.then_n ?_
    refine T.cond _ rfl (fun ht57=>?_) (fun ht57=>?_)
    ·refine T.exit ?_
     refine TQ.block_o rfl ?_
     refine TQ.then_x ?_
     refine TQ.then_x ?_
     refine TQ.block_x ?_
     refine TQ.scope_n ?_
     refine TQ.norm ?_
     refine TQ.rets [] _ rfl rfl rfl ?_
     have hyf:yb=false:=by simpa using ht57
     subst hyf
     exact .inr hyb
    ·refine T.skip ?_
     refine TQ.block_n ?_
     refine TQ.then_n ?_
     refine T.region ?_
     refine TL.move hF rfl rfl ?_
     have hyt:yb=true:=by simpa using ht57
     subst hyt
     refine TL.fieldAddr hF rfl rfl ?_
     refine TL.fieldAddr hF rfl rfl ?_
     refine TL.load hF rfl (own_mem (hC _ _ (show J (i+1) η2 from hyb)).2 rfl) rfl ?_
     refine TL.add hF rfl rfl (by dsimp only; omega) (by dsimp only; omega) rfl ?_
     refine TL.assign hF rfl rfl ?_
     refine TL.nil ?_
     refine TQ.round (i+1,η2) ⟨by dsimp only; omega,hyb⟩ (by dsimp only; omega) ⟨rfl,rfl,rfl,rfl,?_,trivial⟩ rfl
     exact congrArg (fun z=>some (Value.int .i64 z)) (by dsimp only; rw [show firstS s t+((i+1:Nat):Int)=(firstS s t+i)+1 by omega,Int.add_mul (firstS s t+(i:Int)) 1,Int.one_mul])
   ·refine T.exit ?_
    refine TQ.then_x ?_
    refine TQ.then_x ?_
    refine TQ.block_x ?_
    refine TQ.scope_n ?_
    refine TQ.norm ?_
    refine TQ.rets [] _ rfl rfl rfl ?_
    left
    rw [spanE_len]
    have hie:i=countS s t:=by
     have h:¬ (firstS s t+i)*s.step≤t / s.step*s.step:=ht43
     rcases Nat.lt_or_ge i (countS s t) with q | q
     ·exfalso
      have h3:(firstS s t+i)*s.step≤(t / s.step)*s.step:=Int.mul_le_mul_of_nonneg_right (by omega) (by omega)
      exact h h3
     ·omega
    rw [← hie]; exact hJ
set_option maxHeartbeats 2000000 in
theorem windows_fn {s : Wsp} {t : Int} :
  Rt Tryd.prog 41 [spV s,.int .i64 t].toArray S w0 η (fun v η'=>∃ bt bs,v = .func (.func 61) #[] #[ptr bt,ptr bs]∧η'=[(bt,Obj.cells #[.int .i64 t] 3 (0,0))]::[(bs,Obj.cells (spC s).toArray 78 (0,0))]::η):=by
 have hF:=open_wide
 refine Rt.of (fn:=Tryd.f41) Tryd.func41 rfl rfl ?_
 refine T.seq ?_
 refine T.region ?_
 refine TL.box hF rfl rfl (fun b2=>?_)
 refine TL.box hF rfl rfl (fun b3=>?_)
 refine TL.assign hF rfl rfl ?_
 refine TL.nil ?_
 refine TQ.then_n ?_
 refine T.seq ?_
 refine T.region ?_
 refine TL.makeFunc hF rfl rfl rfl ?_
 refine TL.assign hF rfl rfl ?_
 refine TL.nil ?_
 refine TQ.then_n ?_
 refine T.ret ?_
 refine TQ.rets [4] _ rfl rfl rfl ?_
 exact ⟨b3,b2,rfl,rfl⟩
set_option maxHeartbeats 2000000 in
theorem Windows_fn (ht : Tabs S w0) (s : Wsp) (t : Int) :
    Rt Tryd.prog 14 [wsV s,.int .i64 t].toArray S w0 η (fun v η'=>∃ a c segs,v = .tuple #[.slice a (windowsS s t).1.length c,.int .i64 (windowsS s t).2]∧Row S w0 segs a ((windowsS s t).1.flatMap pC)∧η'=segs++η):=by
  have hF:=open_wide
  refine Rt.ofL (fn:=Tryd.f14) Tryd.func14 rfl rfl ?_
  refine T.seq ?_
  refine T.region ?_
  refine TL.box hF rfl rfl (fun b2=>?_)
  refine TL.assign hF rfl rfl ?_
  refine TL.alloc hF rfl (fun b5=>?_)
  refine TL.nil ?_
  refine TQ.then_n ?_
  refine T.seq ?_
  refine T.region ?_
  refine TL.makeFunc hF rfl rfl rfl ?_
  refine TL.defer hF rfl rfl ?_
  refine TL.nil ?_
  refine TQ.then_n ?_
  refine T.seq ?_
  refine T.region ?_
  refine TL.loadA hF (wsC s) rfl rfl (own_list (i:=1) (cs:=wsC s) rfl) rfl ?_
  refine TL.callE hF (checked_fn ht s) rfl rfl ?_ ?_
  · rintro _ _ ⟨hok,rfl,rfl⟩
    refine TL.alloc hF rfl (fun b6=>?_)
    refine TL.storeAs hF (spC s) (spC s) 0 (cs:=[.int .i64 0,.int .i64 0,.int .i64 0,.int .i64 0,.int .i64 0,.int .i64 0,.nilFunc,.nilFunc]) rfl rfl rfl rfl (spC1 s) (Nat.le_refl 8) rfl ?_
    refine TL.nil ?_
    refine TQ.then_n ?_
    refine T.seq ?_
    refine T.region ?_
    refine TL.move hF rfl rfl ?_
    refine TL.bin hF rfl rfl rfl rfl ?_
    refine TL.move hF rfl rfl ?_
    refine TL.join [_,_,_] 18 (.bool (okT t)) rfl ?_ ?_
    · refine TL.gd (t:=15) rfl (fun g3_15=>?_) (fun g3_15=>?_)
      · refine TL.on rfl rfl rfl (decide_eq_true g3_15) ?_
        refine TL.move hF rfl rfl ?_
        refine TL.on rfl rfl rfl (decide_eq_true g3_15) ?_
        refine TL.bin hF rfl rfl rfl rfl ?_
        refine TL.pickT hF rfl (decide_eq_true g3_15) rfl rfl ?_
        refine TL.finJ ⟨?_,by repeat (first | exact trivial | refine ⟨rfl,?_⟩)⟩
        exact congrArg (fun z=>some (Value.bool z)) (by simp [okT, *])
      · refine TL.off hF rfl rfl rfl (decide_eq_false g3_15) rfl ?_
        refine TL.off hF rfl rfl rfl (decide_eq_false g3_15) rfl ?_
        refine TL.pickF hF rfl (decide_eq_false g3_15) rfl rfl ?_
        refine TL.finJ ⟨?_,by repeat (first | exact trivial | refine ⟨rfl,?_⟩)⟩
        exact congrArg (fun z=>some (Value.bool z)) (by simp [okT, *])
    · refine TL.callM hF (must_fn (okT t) 2) rfl rfl (fun hm1 vm1=>?_) (fun hm1=>?_)
      · skip
        refine TL.nil ?_
        refine TQ.then_n ?_
        refine T.seq ?_
        refine T.region ?_
        refine TL.fieldAddr hF rfl rfl ?_
        refine TL.load hF rfl (by first | exact At.own' (i:=0) rfl rfl | exact At.own' (i:=1) rfl rfl | exact At.own' (i:=2) rfl rfl | exact At.own' (i:=3) rfl rfl | exact At.own' (i:=4) rfl rfl | exact At.own' (i:=5) rfl rfl | exact At.own' (i:=6) rfl rfl | exact At.own' (i:=7) rfl rfl | exact At.own' (i:=8) rfl rfl | exact At.own' (i:=9) rfl rfl | exact At.own' (i:=10) rfl rfl | exact At.own' (i:=11) rfl rfl | exact At.own' (i:=12) rfl rfl) rfl ?_
        refine TL.bin hF rfl rfl rfl rfl ?_
        refine TL.callM hF (must_fn _ 4) rfl rfl (fun hm2 vm2=>?_) (fun hm2=>?_)
        · skip
          refine TL.nil ?_
          refine TQ.then_n ?_
          refine T.seq ?_
          refine T.region ?_
          refine TL.alloc hF rfl (fun b7=>?_)
          refine TL.nil ?_
          refine TQ.then_n ?_
          refine T.seq ?_
          refine T.seq ?_
          refine T.region ?_
          refine TL.loadA hF (spC s) rfl rfl (own_list (i:=1) (cs:=spC s) rfl) rfl ?_
          refine TL.move hF rfl rfl ?_
          have hk:s.kind=0:=of_decide_eq_true hm2
          have hsok:TimeOk s t:=by
            have hw:=okS_w hok
            unfold okS at hok
            unfold okT at hm1
            simp only [Bool.and_eq_true,decide_eq_true_eq] at hok hm1
            exact ⟨hw.sp hk,by omega,hm1.1,hm1.2⟩
          have hcl:=count_le hsok
          refine TL.call hF (windows_fn (s:=s) (t:=t)) rfl rfl ?_
          rintro _ _ ⟨bt,bs,rfl,rfl⟩
          refine TL.nil ?_
          refine TQ.then_n ?_
          refine T.block ?_
          refine T.hnil ?_
          refine T.pick [3,0,1,2] [[],_,_,_] rfl rfl rfl ?_
          refine T.rangeFunc (fst:=[]) (cap:=[ptr bt,ptr bs]) rfl (windows_iter (s:=s) (t:=t) (bt:=bt) (bs:=bs) hsok) (by
              intro e he; obtain ⟨z,_,rfl⟩:=List.mem_map.1 he; rfl) (by simp) (fun i η1=>∃ oa oc og,η1=[(b7,Obj.cells #[.slice oa i oc] 27 (0,0))]::og::[(bt,Obj.cells #[.int .i64 t] 3 (0,0))]::[(bs,Obj.cells (spC s).toArray 78 (0,0))]::[(b6,Obj.cells (spC s).toArray 78 (0,0))]::[(b5,Obj.cells #[.int .i64 0] ERR (0,0))]::[(b2,Obj.cells (wsC s).toArray 23 (0,0))]::η∧i≤countS s t∧OSl 36 2 (.slice oa i oc) i (((spansS s t).take i).flatMap pC) og) (fun _ _=>False) ⟨none,0,[],rfl,Nat.zero_le _,OSl.nil _ _⟩ ?_ ?_ ?_ ?_
          · rintro i _ tl ⟨oa,oc,og,rfl,_⟩
            exact ⟨by simp,by simp⟩
          · rintro l tl tl' i e _ hie ⟨oa,oc,og,rfl,hi,ho⟩
            have hF:=open_round l
            have hil:i<countS s t:=by have:=(List.getElem?_eq_some_iff.1 hie).1; rwa [spanE_len] at this
            rw [spanE_at hil] at hie
            cases hie
            refine T.seq ?_
            refine T.region ?_
            refine TL.assign hF rfl rfl ?_
            refine TL.nil ?_
            refine TQ.then_n ?_
            refine T.region ?_
            refine TL.assign hF rfl rfl ?_
            refine TL.nil ?_
            refine TQ.swapT _ rfl ?_
            refine T.block ?_
            refine T.region ?_
            refine TL.load hF rfl (own_mem (e:=27) (fz:=(0,0)) (cs:=#[.slice oa i oc]) (by simp) rfl) rfl ?_
            refine TL.move hF rfl rfl ?_
            refine TL.move hF rfl rfl ?_
            refine TL.build hF rfl (r:=.agg #[.int .i64 ((firstS s t+i)*s.step),.int .i64 ((firstS s t+i)*s.step+s.size)]) (fun w=>by kernel_rfl) rfl ?_
            refine TL.buildSlice hF rfl (cs:=#[.int .i64 ((firstS s t+i)*s.step),.int .i64 ((firstS s t+i)*s.step+s.size)]) (e:=36) (fun w=>by kernel_rfl) rfl (fun bq=>?_)
            refine TL.append hF 2 rfl rfl rfl ho (row_own (cs:=[.int .i64 ((firstS s t+i)*s.step),.int .i64 ((firstS s t+i)*s.step+s.size)]) (e:=36) (by simp)).src rfl rfl (by simp [Value.oneCell']) (by omega) (by omega) rfl (fun pa pc pg ph=>?_)
            refine TL.storeI hF 1 rfl rfl rfl rfl (by simp) ?_
            refine TL.nil ?_
            refine TQ.block_n ?_
            have hsl:i<(spansS s t).length:=by rw [spans_len]; exact hil
            have e1:(spansS s t).take (i+1)=(spansS s t).take i++[((firstS s t+i)*s.step,(firstS s t+i)*s.step+s.size)]:=by
              rw [List.take_succ_eq_append_getElem hsl]
              have:=spans_at hil
              rw [List.getElem?_eq_getElem hsl] at this
              rw [Option.some.inj this]
            have e2:((spansS s t).take (i+1)).flatMap pC=((spansS s t).take i).flatMap pC++[.int .i64 ((firstS s t+i)*s.step),.int .i64 ((firstS s t+i)*s.step+s.size)]:=by rw [e1,List.flatMap_append]; rfl
            rw [← e2] at ph
            refine TQ.pop ?_
            refine TQ.rq_n ([(b7,Obj.cells #[.slice pa (i+1) pc] 27 (0,0))]::pg::[(bt,Obj.cells #[.int .i64 t] 3 (0,0))]::[(bs,Obj.cells (spC s).toArray 78 (0,0))]::[(b6,Obj.cells (spC s).toArray 78 (0,0))]::[(b5,Obj.cells #[.int .i64 0] ERR (0,0))]::[(b2,Obj.cells (wsC s).toArray 23 (0,0))]::η) rfl ⟨pa,pc,pg,rfl,by omega,ph⟩
          · rintro mk _ ⟨oa,oc,og,rfl,hi,ho⟩
            rw [spanE_len] at ho
            rw [List.take_of_length_le (by rw [spans_len]; exact Nat.le_refl _)] at ho
            refine TQ.block_n ?_
            refine TQ.then_n ?_
            refine T.seq ?_
            refine T.region ?_
            refine TL.load hF rfl (own_mem (e:=27) (fz:=(0,0)) (cs:=#[.slice oa (spanE s t).length oc]) (by simp) rfl) rfl ?_
            refine TL.assign hF rfl rfl ?_
            refine TL.storeI hF 6 rfl rfl rfl rfl (by simp) ?_
            refine TL.nil ?_
            refine TQ.then_n ?_
            refine T.ret ?_
            refine TQ.mark (i:=0) (.inl rfl) rfl ?_
            refine TQ.hsub (og::[(b5,Obj.cells #[.int .i64 0] ERR (0,0))]::η) (List.Sublist.cons _ (List.Sublist.cons _ (List.Sublist.cons_cons _ (List.Sublist.cons _ (List.Sublist.cons _ (List.Sublist.cons _ (List.Sublist.cons_cons _ (List.sublist_cons_self _ _)))))))) ?_
            refine TQ.retL [4] [_] stop37 (stopped_nil _) rfl rfl rfl (At.own' (i:=1) rfl rfl) ?_
            have e:windowsS s t=(spansS s t,0):=by unfold windowsS; rw [if_pos hok,if_pos hm1,if_pos hk]
            rw [e]
            refine ⟨oa,oc,[og,_],by rw [spans_len,spanE_len]; rfl,?_,rfl⟩
            exact ho.row (by simp)
          · rintro _ _ _ h; exact h.elim
        · skip
          refine TQ.then_p ?_
          refine TQ.pop ?_
          refine TQ.panL [4] [.slice none 0 0] stop37 (stopped_err _) rfl rfl rfl (At.own' (i:=0) rfl rfl) ?_
          have e:windowsS s t=([],4):=by unfold windowsS; rw [if_pos hok,if_pos hm1,if_neg (of_decide_eq_false hm2)]
          rw [e]
          exact ⟨none,0,[_,_],rfl,Row.none,rfl⟩
      · skip
        refine TQ.then_p ?_
        refine TQ.pop ?_
        refine TQ.panL [4] [.slice none 0 0] stop37 (stopped_err _) rfl rfl rfl (At.own' (i:=0) rfl rfl) ?_
        have e:windowsS s t=([],2):=by unfold windowsS; rw [if_pos hok,if_neg (by rw [hm1]; simp)]
        rw [e]
        exact ⟨none,0,[_,_],rfl,Row.none,rfl⟩
  · rintro _ _ ⟨hok,rfl,rfl⟩
    refine TQ.then_p ?_
    refine TQ.panL [4] [.slice none 0 0] stop37 (stopped_err _) rfl rfl rfl (At.own' (i:=0) rfl rfl) ?_
    have e:windowsS s t=([],1):=by unfold windowsS; rw [if_neg (by rw [hok]; simp)]
    rw [e]
    exact ⟨none,0,[_,_],rfl,Row.none,rfl⟩
end Go.Proofs.YtbajelldegijkaaDoor
