/- Several texts in one. -/
import Derived.Test.YtdiacobmhkmljaaDoorKb
import Derived.Test.YtdiacobmhkmljaaDoorKa
import Derived.Shelf.SlGeneric
import Derived.Ground.SlsfProg
import Derived.Shelf.SlSortCmp.NoneTotal
import Derived.Test.YtdiacobmhkmljaaDoorProg
/- What the walks of every seat use: lists of numbers, of truths, of structs, and of lists, in memory. -/
namespace Go.Proofs.YtdiacobmhkmljaaDoor
open Go.Sl
variable {S:Nat→Prop} {w0:World} {η:Heap}
abbrev ptr (b:Nat):Value:=.pointer (some ⟨b,0,none⟩)
theorem take_succ_eq {α:Type} {xs ys:List α} {k:Nat} (h1:k<xs.length) (h2:k<ys.length) (h:xs.take k=ys.take k) (he:xs[k]=ys[k]):xs.take (k+1)=ys.take (k+1):=by
  rw [List.take_succ_eq_append_getElem h1,List.take_succ_eq_append_getElem h2,h,he]
theorem ne_of_getElem {α:Type} {xs ys:List α} {k:Nat} (h1:k<xs.length) (h2:k<ys.length) (he:xs[k]≠ys[k]):xs≠ys:=fun e=>he (by subst e; rfl)
def rowC (n:Nat) (f:Nat→Bool):List Value:=(List.range n).map fun j=>.bool (f j)
theorem row_own {b:Nat} {cs:List Value} {e:TypeId} (h:[(b,Obj.cells cs.toArray e (0,0))]∈η):Row S w0 η (some ⟨b,0,none⟩) cs :=
  ⟨fun _=>⟨_,rfl,rfl⟩,fun i v hi=>.own _ h cs.toArray e (0,0) (by simp [sAt]) (by simpa [sAt] using hi) (by simp [sAt])⟩
theorem own_mem {b:Nat} {cs:Array Value} {e:TypeId} {fz:Nat × Nat} {off:Nat} {v:Value} (h:[(b,Obj.cells cs e fz)]∈η) (hc:cs[off]?=some v):At S w0 η ⟨b,off,none⟩ v:=.own _ h cs e fz (by simp) hc rfl
def intC (n:Nat) (f:Nat→Int):List Value:=(List.range n).map fun j=>.int .i64 (f j)
/-- An owned list of n numbers. -/
abbrev iseg (b n:Nat) (f:Nat→Int):Seg:=[(b,.cells (intC n f).toArray 3 (0,0))]
theorem ints1 (xs:List Int):∀ v∈ints xs,v.oneCell'=true:=by intro v hv; obtain ⟨b,_,rfl⟩:=List.mem_map.1 hv; rfl
theorem _root_.Go.Sl.Row.none:Row S w0 η none []:=⟨fun h=>by simp at h,fun i v h=>by simp at h⟩
/-- An owned list of n truths. -/
abbrev bseg (b n:Nat) (f:Nat→Bool):Seg:=[(b,.cells (rowC n f).toArray 4 (0,0))]
/-! Lists of structs. -/
theorem sAt_add (a:Option Addr) (k i:Nat):(⟨(sAt a k).block,(sAt a k).off+i,none⟩:Addr)=sAt a (k+i):=by simp [sAt,Nat.add_assoc]
theorem _root_.Go.Sl.Row.tab {α:Type} {k:Nat} {f:α→List Value} (hf:∀ x,(f x).length=k) {a:Option Addr} {l:List α} (h:Row S w0 η a (l.flatMap f)) {i:Nat} (hi:i<l.length) (j:Nat) {v:Value} (hj:(f l[i])[j]?=some v):At S w0 η (sAt a (i*k+j)) v :=
  h.cell _ _ (by
    have hj4:j<k:=by have:=(List.getElem?_eq_some_iff.1 hj).1; rw [hf] at this; exact this
    rw [flat_get k f hf l i j hj4,List.getElem?_eq_getElem hi]; exact hj)
theorem _root_.Go.Sl.Row.tabA {α:Type} {k:Nat} {f:α→List Value} (hf:∀ x,(f x).length=k) {a:Option Addr} {l:List α} (h:Row S w0 η a (l.flatMap f)) {i:Nat} (hi:i<l.length):∀ j v,(f l[i])[j]?=some v→At S w0 η ⟨(sAt a (i*k)).block,(sAt a (i*k)).off+j,none⟩ v:=fun j v hj=>by
  rw [sAt_add]; exact h.tab hf hi j hj
theorem _root_.Go.Sl.Row.tad {α:Type} {k:Nat} {f:α→List Value} (hf:∀ x,(f x).length=k) (hk:0<k) {a:Option Addr} {l:List α} (h:Row S w0 η a (l.flatMap f)) {i:Nat} (hi:i<l.length):∃ ad,a=some ad∧ad.spot=none:=h.ad (by
  cases l with
  | nil=>simp at hi
  | cons r rs=>simp only [List.flatMap_cons,List.length_append,hf]; omega)
/-! Lists of lists. -/
def Lists (S:Nat→Prop) (w0:World) (η:Heap) (a:Option Addr) (ls:List (List Int)):Prop :=
  ∃ ps:List (Option Addr × Nat),ps.length=ls.length∧Row S w0 η a (List.zipWith (fun (p:Option Addr × Nat) (l:List Int)=>Value.slice p.1 l.length p.2) ps ls)∧∀ i (h1:i<ps.length) (h2:i<ls.length),Row S w0 η ps[i].1 (ints ls[i])
/-- An owned list of owned lists: the outer block, and each inner list with its block. -/
structure OLs (e:TypeId) (v:Value) (outs:List (Value × List Int × Seg)) (og:Seg):Prop where
  o:OSl e 1 v outs.length (outs.map (·.1)) og
  i:∀ t∈outs,OSl 3 1 t.1 t.2.1.length (ints t.2.1) t.2.2
/-- A function, turned at one place. -/
def upd {α:Type} (f:Nat→α) (j:Nat) (v:α) (i:Nat):α:=if i=j then v else f i
/-! Owned lists of numbers that are written in place. -/
abbrev cseg (b:Nat) (cur:Array Value):Seg:=[(b,.cells cur 3 (0,0))]
def OIs (b c n:Nat) (f:Nat→Int) (cur:Array Value):Prop:=OSl 3 1 (.slice (some ⟨b,0,none⟩) n c) n (intC n f) (cseg b cur)
end Go.Proofs.YtdiacobmhkmljaaDoor
/- Chapter 24: expressions, words, traces, and what changes lead to. -/
namespace Go.Proofs.YtdiacobmhkmljaaDoor
/-- An expression: an operation, a number, and its parts. -/
inductive Ex where
  | nd (op n:Int) (l:List Ex)
abbrev Key:=Int × Int
structure Dp where
  call:Bool
  cell:Int
  key:Key
  word:Int
deriving DecidableEq
structure Nd where
  key:Key
  word:Int
  deps:List Dp
deriving DecidableEq
structure Rnd where
  word:Int
  again:List Key
  new:List Key
  kept:List Key
  dropped:List Key
deriving DecidableEq
def cellD (n w:Int):Dp:=⟨false,n,(0,0),w⟩
def gotD (k:Key) (w:Int):Dp:=⟨true,0,k,w⟩

/-! Words -/
def wrap32 (n:Int):Int:=(n+2147483648) % 4294967296 - 2147483648
def isW (n:Int):Bool:=decide (-2147483648≤n) && decide (n≤2147483647)
def quoS (a b:Int):Int:=if b=0 then 0 else Int.fdiv a b
def andI (a b:Int):Int:=(BitVec.ofInt 64 a &&& BitVec.ofInt 64 b).toInt
def orI (a b:Int):Int:=(BitVec.ofInt 64 a ||| BitVec.ofInt 64 b).toInt
def xorI (a b:Int):Int:=(BitVec.ofInt 64 a ^^^ BitVec.ofInt 64 b).toInt
def binS (n a b:Int):Int :=
  if n=0 then wrap32 (a+b) else if n=1 then wrap32 (a - b) else if n=2 then wrap32 (a*b) else if n=3 then wrap32 (quoS a b)
  else if n=4 then (if b=0 then 0 else wrap32 (a - b*quoS a b)) else if n=5 then min a b else if n=6 then max a b else if n=7 then andI a b else if n=8 then orI a b else xorI a b

/-! What is valid -/
def partsS (op:Int):Int:=if op=0∨op=1 then 0 else if op=2∨op=6 then 1 else if op=3∨op=4 then 2 else if op=5 then 3 else -1
def okN (funs op n:Int):Bool:=!(decide (op=0) && !isW n) && !(decide (op=3) && !(decide (0≤n) && decide (n≤9))) && !(decide (op=6) && !(decide (0≤n) && decide (n≤funs - 1)))
mutual
def sizeE:Ex→Nat
  | .nd _ _ l=>1+sizesE l
def sizesE:List Ex→Nat
  | []=>0
  | x::r=>sizeE x+sizesE r
end
mutual
def depE:Ex→Nat
  | .nd _ _ l=>depsE l+1
def depsE:List Ex→Nat
  | []=>0
  | x::r=>max (depE x) (depsE r)
end
mutual
def rightE (funs:Int):Ex→Bool
  | .nd op n l=>decide ((l.length:Int)=partsS op) && okN funs op n && rightsE funs l
def rightsE (funs:Int):List Ex→Bool
  | []=>true
  | x::r=>rightE funs x && rightsE funs r
end
def okE (funs:Int) (e:Ex):Bool:=decide (depE e≤20) && decide (sizeE e≤40) && rightE funs e
def checkS (funs:List Ex):Int:=if (1≤funs.length∧funs.length≤8)∧funs.all (okE funs.length)=true then 0 else 1
def okTop (funs:List Ex) (top:Key):Bool:=decide (0≤top.1) && decide (top.1≤(funs.length:Int)-1) && decide (0≤top.2) && decide (top.2≤200)
def okCells (cells:List Int):Bool:=decide (1≤cells.length) && decide (cells.length≤100) && cells.all isW
def askedS (funs:List Ex) (cells:List Int) (top:Key):Int:=if checkS funs=0 then (if okCells cells && okTop funs top then 0 else 2) else 1

/-! Traces -/
def findN (ns:List Nd) (k:Key):Option Nd:=ns.find? fun x=>decide (x.key=k)
def at0 (l:List Int) (i:Nat):Int:=l.getD i 0
def cellAt (cells:List Int) (w:Int):Nat:=(w % (cells.length:Int)).toNat
/-- What an operation makes of its parts' words. -/
def finS (C:List Nd→Key→List Nd × Int) (cells:List Int) (arg op n:Int) (ws:List Int) (ns:List Nd) (ds:List Dp):List Nd × Int × List Dp :=
  if op=2 then (ns,at0 cells (cellAt cells (at0 ws 0)),ds++[cellD (cellAt cells (at0 ws 0)) (at0 cells (cellAt cells (at0 ws 0)))])
  else if op=3 then (ns,binS n (at0 ws 0) (at0 ws 1),ds)
  else if op=4 then (ns,if at0 ws 0<at0 ws 1 then 1 else 0,ds)
  else if 0≤at0 ws 0∧at0 ws 0<arg then ((C ns (n,at0 ws 0)).1,(C ns (n,at0 ws 0)).2,ds++[gotD (n,at0 ws 0) (C ns (n,at0 ws 0)).2])
  else (ns,0,ds)
mutual
def evalS (C:List Nd→Key→List Nd × Int) (cells:List Int) (arg:Int):Ex→List Nd→List Dp→List Nd × Int × List Dp
  | .nd op n l,ns,ds =>
    if op=0 then (ns,n,ds) else if op=1 then (ns,arg,ds)
    else if op=5 then ifS C cells arg l ns ds
    else finS C cells arg op n (evalsS C cells arg l ns ds).2.1 (evalsS C cells arg l ns ds).1 (evalsS C cells arg l ns ds).2.2
def evalsS (C:List Nd→Key→List Nd × Int) (cells:List Int) (arg:Int):List Ex→List Nd→List Dp→List Nd × List Int × List Dp
  | [],ns,ds=>(ns,[],ds)
  | x::r,ns,ds =>
    ((evalsS C cells arg r (evalS C cells arg x ns ds).1 (evalS C cells arg x ns ds).2.2).1,(evalS C cells arg x ns ds).2.1::(evalsS C cells arg r (evalS C cells arg x ns ds).1 (evalS C cells arg x ns ds).2.2).2.1,(evalsS C cells arg r (evalS C cells arg x ns ds).1 (evalS C cells arg x ns ds).2.2).2.2)
def ifS (C:List Nd→Key→List Nd × Int) (cells:List Int) (arg:Int):List Ex→List Nd→List Dp→List Nd × Int × List Dp
  | [c,x,y],ns,ds=>if (evalS C cells arg c ns ds).2.1≠0 then evalS C cells arg x (evalS C cells arg c ns ds).1 (evalS C cells arg c ns ds).2.2 else evalS C cells arg y (evalS C cells arg c ns ds).1 (evalS C cells arg c ns ds).2.2
  | _,ns,ds=>(ns,0,ds)
end
def noE:Ex:=.nd 0 0 []
/-- A call, where so many are one within the other; its calls stand ahead of it. -/
def runS (funs:List Ex) (cells:List Int):Nat→List Nd→Key→List Nd × Int
  | 0,ns,_=>(ns,0)
  | f+1,ns,k =>
    match findN ns k with
    | some x=>(ns,x.word)
    | none=>((evalS (runS funs cells f) cells k.2 (funs.getD k.1.toNat noE) ns []).1++[⟨k,(evalS (runS funs cells f) cells k.2 (funs.getD k.1.toNat noE) ns []).2.1,(evalS (runS funs cells f) cells k.2 (funs.getD k.1.toNat noE) ns []).2.2⟩],(evalS (runS funs cells f) cells k.2 (funs.getD k.1.toNat noE) ns []).2.1)
def kLt (a b:Key):Bool:=decide (a.1<b.1) || (decide (a.1=b.1) && decide (a.2<b.2))
def insN (x:Nd):List Nd→List Nd
  | []=>[x]
  | y::r=>if kLt x.key y.key then x::y::r else y::insN x r
def sortN (l:List Nd):List Nd:=l.foldl (fun l x=>insN x l) []
def callsS (funs:List Ex) (cells:List Int) (top:Key):List Nd × Int:=runS funs cells 201 [] top
def traceS (funs:List Ex) (cells:List Int) (top:Key):List Nd:=sortN (callsS funs cells top).1
def runE (funs:List Ex) (cells:List Int) (top:Key):List Nd × Int:=if askedS funs cells top=0 then (traceS funs cells top,0) else ([],askedS funs cells top)

/-! What changes lead to -/
def hasN (l:List Nd) (k:Key):Bool:=(findN l k).isSome
def keptB (old:List Nd) (x:Nd):Bool:=match findN old x.key with | some y=>decide (y.deps=x.deps) | none=>false
def againB (old:List Nd) (x:Nd):Bool:=match findN old x.key with | some y=>!decide (y.deps=x.deps) | none=>false
def keysN (l:List Nd):List Key:=l.map (·.key)
def againstS (old now:List Nd) (w:Int):Rnd:=⟨w,keysN (now.filter (againB old)),keysN (now.filter fun x=>!hasN old x.key),keysN (now.filter (keptB old)),keysN (old.filter fun x=>!hasN now x.key)⟩
def editS (cells:List Int) (l:List (Int × Int)):List Int:=l.foldl (fun c x=>c.set x.1.toNat x.2) cells
def roundsS (funs:List Ex) (top:Key):List (List (Int × Int))→List Int→List Nd→List Rnd
  | [],_,_=>[]
  | r::l,cells,old=>againstS old (traceS funs (editS cells r) top) (callsS funs (editS cells r) top).2::roundsS funs top l (editS cells r) (traceS funs (editS cells r) top)
def longS (rounds:List (List (Int × Int))):Bool:=decide (30<rounds.length) || rounds.any fun l=>decide (30<l.length)
def okEdit (m:Nat) (x:Int × Int):Bool:=decide (0≤x.1) && decide (x.1≤(m:Int)-1) && isW x.2
def playS (funs:List Ex) (cells:List Int) (top:Key) (rounds:List (List (Int × Int))):List Rnd × Int :=
  if askedS funs cells top=0 then (if longS rounds then ([],3) else if rounds.all (fun l=>l.all (okEdit cells.length)) then (roundsS funs top rounds cells (traceS funs cells top),0) else ([],2)) else ([],askedS funs cells top)
def apart (r:Rnd):Int:=(r.new.length:Int)+r.again.length+r.dropped.length
def distS (funs:List Ex) (cells others:List Int) (top:Key):Int × Int :=
  if askedS funs cells top=0 then (if askedS funs others top=0∧others.length=cells.length then (apart (againstS (traceS funs cells top) (traceS funs others top) 0),0) else (0,2)) else (0,askedS funs cells top)
def risI (l:List Int) (n:Int):List Int :=
  match l with
  | []=>[n]
  | x::r=>if n<x then n::x::r else if n=x then x::r else x::risI r n
def cellsOf (l:List Nd):List Int:=l.flatMap fun x=>(x.deps.filter fun d=>!d.call).map (·.cell)
def needsS (funs:List Ex) (cells:List Int) (top:Key):List Int × Int:=if askedS funs cells top=0 then ((cellsOf (traceS funs cells top)).foldl risI [],0) else ([],askedS funs cells top)

/-! The chapter's functions -/
def argE:Ex:=.nd 1 0 []
def intE (n:Int):Ex:=.nd 0 n []
def lessE (n:Int):Ex:=.nd 3 1 [argE,intE n]
def sumE:Ex:=.nd 3 0 [.nd 2 0 [lessE 1],.nd 6 0 [lessE 1]]
def funsF:List Ex:=[.nd 5 0 [argE,sumE,intE 0],.nd 4 0 [intE 10,.nd 6 0 [lessE 1]]]
end Go.Proofs.YtdiacobmhkmljaaDoor
/- Words: what operations make of them stays a word, or wraps. -/
namespace Go.Proofs.YtdiacobmhkmljaaDoor
def opP (n a b:Int):Int :=
 if n=0 then a+b else if n=1 then a - b else if n=2 then a*b else if n=3 then quoS a b
 else if n=4 then (if b=0 then 0 else a - b*quoS a b) else if n=5 then min a b else if n=6 then max a b else if n=7 then andI a b else if n=8 then orI a b else xorI a b
def Wd (n:Int):Prop:=-2147483648≤n∧n≤2147483647
theorem ext32 {a:Int} (h:Wd a):BitVec.ofInt 64 a=(BitVec.ofInt 32 a).signExtend 64:=by
 apply BitVec.eq_of_toInt_eq
 rw [BitVec.toInt_signExtend_of_le (by decide),BitVec.toInt_ofInt,BitVec.toInt_ofInt]
 unfold Wd at h
 rw [Int.bmod_eq_of_le (by omega) (by omega),Int.bmod_eq_of_le (by omega) (by omega)]
theorem wd_ext (x:BitVec 32):Wd ((x.signExtend 64).toInt):=by
 rw [BitVec.toInt_signExtend_of_le (by decide)]
 have h1:=x.toInt_lt
 have h2:=x.le_toInt
 unfold Wd; omega
theorem wd_and {a b:Int} (ha:Wd a) (hb:Wd b):Wd (andI a b):=by
 unfold andI; rw [ext32 ha,ext32 hb,← BitVec.signExtend_and]; exact wd_ext _
theorem wd_or {a b:Int} (ha:Wd a) (hb:Wd b):Wd (orI a b):=by
 unfold orI; rw [ext32 ha,ext32 hb,← BitVec.signExtend_or]; exact wd_ext _
theorem wd_xor {a b:Int} (ha:Wd a) (hb:Wd b):Wd (xorI a b):=by
 unfold xorI; rw [ext32 ha,ext32 hb,← BitVec.signExtend_xor]; exact wd_ext _
theorem wrap_wd {n:Int} (h:Wd n):wrap32 n=n:=by unfold wrap32; unfold Wd at h; omega
theorem wd_wrap (n:Int):Wd (wrap32 n):=by unfold wrap32 Wd; omega
theorem bin_op {n a b:Int} (ha:Wd a) (hb:Wd b):wrap32 (opP n a b)=binS n a b:=by
 unfold opP binS
 repeat' split
 all_goals first
  | rfl
  | (refine wrap_wd ?_; first | exact wd_and ha hb | exact wd_or ha hb | exact wd_xor ha hb | (unfold Wd at *; omega))
theorem wd_bin {n a b:Int} (ha:Wd a) (hb:Wd b):Wd (binS n a b):=by rw [← bin_op ha hb]; exact wd_wrap _
/-- Rounded towards nothing, and then down: rounded down. -/
theorem quo_eq {a b:Int} (hb:b≠0):(if Int.tdiv a b*b≠a∧(decide (a<0)≠decide (b<0)) then Int.tdiv a b - 1 else Int.tdiv a b)=quoS a b:=by
 unfold quoS
 rw [if_neg hb,Int.fdiv_eq_tdiv]
 have hd:b ∣ a↔Int.tdiv a b*b=a:=⟨fun h=>Int.tdiv_mul_cancel h,fun h=>⟨Int.tdiv a b,by rw [Int.mul_comm]; exact h.symm⟩⟩
 by_cases e:Int.tdiv a b*b=a
 ·rw [if_neg (fun h=>h.1 e),if_pos (hd.2 e)]; omega
 ·have hnd:¬ b ∣ a:=fun h=>e (hd.1 h)
  have ha0:a≠0:=fun h=>e (by subst h; simp)
  rw [if_neg hnd]
  by_cases h1:0≤a
  ·rw [if_pos h1]
   by_cases h2:0≤b
   ·rw [if_pos h2,if_neg (fun h=>h.2 (by rw [decide_eq_false (by omega),decide_eq_false (by omega)]))]; omega
   ·rw [if_neg h2,if_pos ⟨e,by rw [decide_eq_false (by omega),decide_eq_true (by omega)]; simp⟩]
  ·rw [if_neg h1]
   by_cases h2:0≤b
   ·rw [if_pos ⟨e,by rw [decide_eq_true (by omega),decide_eq_false (by omega)]; simp⟩,Int.sign_eq_one_of_pos (by omega),if_pos h2]
   ·rw [if_neg (fun h=>h.2 (by rw [decide_eq_true (by omega),decide_eq_true (by omega)])),Int.sign_eq_neg_one_of_neg (by omega)]; omega
theorem tdiv_abs (a b:Int):(Int.tdiv a b).natAbs≤a.natAbs:=by
 rw [Int.natAbs_tdiv]; exact Nat.div_le_self _ _
theorem tdiv_mul_abs (a b:Int):(Int.tdiv a b*b).natAbs≤a.natAbs:=by
 rw [Int.natAbs_mul,Int.natAbs_tdiv]; exact Nat.div_mul_le_self _ _
theorem quo_mul_abs {a b:Int} (ha:Wd a) (h:Wd b) (hb:b≠0):(b*quoS a b).natAbs≤4294967296:=by
 rw [← quo_eq hb]
 have h1:=tdiv_mul_abs a b
 unfold Wd at ha h
 rw [Int.mul_comm]
 split
 ·rw [Int.sub_mul]; omega
 ·omega
end Go.Proofs.YtdiacobmhkmljaaDoor
/- What calls are worth without memory; memory changes nothing; where two evaluations part. -/
namespace Go.Proofs.YtdiacobmhkmljaaDoor
def finP (V:Key→Int) (cells:List Int) (arg op n:Int) (ws:List Int):Int × List Dp :=
  if op=2 then (at0 cells (cellAt cells (at0 ws 0)),[cellD (cellAt cells (at0 ws 0)) (at0 cells (cellAt cells (at0 ws 0)))])
  else if op=3 then (binS n (at0 ws 0) (at0 ws 1),[])
  else if op=4 then (if at0 ws 0<at0 ws 1 then 1 else 0,[])
  else if 0≤at0 ws 0∧at0 ws 0<arg then (V (n,at0 ws 0),[gotD (n,at0 ws 0) (V (n,at0 ws 0))])
  else (0,[])
mutual
/-- An expression's word, and what it depends on. -/
def evP (V:Key→Int) (cells:List Int) (arg:Int):Ex→Int × List Dp
  | .nd op n l =>
    if op=0 then (n,[]) else if op=1 then (arg,[])
    else if op=5 then ifP V cells arg l
    else ((finP V cells arg op n (evsP V cells arg l).1).1,(evsP V cells arg l).2++(finP V cells arg op n (evsP V cells arg l).1).2)
def evsP (V:Key→Int) (cells:List Int) (arg:Int):List Ex→List Int × List Dp
  | []=>([],[])
  | x::r=>((evP V cells arg x).1::(evsP V cells arg r).1,(evP V cells arg x).2++(evsP V cells arg r).2)
def ifP (V:Key→Int) (cells:List Int) (arg:Int):List Ex→Int × List Dp
  | [c,x,y]=>if (evP V cells arg c).1≠0 then ((evP V cells arg x).1,(evP V cells arg c).2++(evP V cells arg x).2) else ((evP V cells arg y).1,(evP V cells arg c).2++(evP V cells arg y).2)
  | _=>(0,[])
end
/-- The functions' bodies. -/
def fnE (funs:List Ex) (k:Key):Ex:=funs.getD k.1.toNat noE
def VS (funs:List Ex) (cells:List Int):Nat→Key→Int
  | 0,_=>0
  | f+1,k=>(evP (VS funs cells f) cells k.2 (fnE funs k)).1
/-- Induction over expressions, and lists of them. -/
theorem Ex.ind {M:Ex→Prop} {ML:List Ex→Prop} (h1:∀ op n l,ML l→(∀ x∈l,M x)→M (.nd op n l)) (h2:ML []) (h3:∀ x r,M x→ML r→ML (x::r)):(∀ e,M e)∧∀ l,ML l:=by
  have key:∀ e,M e:=fun e=>Ex.rec (motive_1:=M) (motive_2:=fun l=>ML l∧∀ x∈l,M x) (fun op n l h=>h1 op n l h.1 h.2) ⟨h2,by simp⟩ (fun x r hx hr=>⟨h3 x r hx hr.1,fun y hy=>by
    rcases List.mem_cons.1 hy with rfl | h
    · exact hx
    · exact hr.2 y h⟩) e
  exact ⟨key,fun l=>by
    induction l with
    | nil=>exact h2
    | cons x r ih=>exact h3 x r (key x) ih⟩
/-- Only calls of lesser arguments count. -/
theorem evP_congr {V V':Key→Int} {cells:List Int} {arg:Int} (h:∀ k:Key,0≤k.2→k.2<arg→V k=V' k):(∀ e,evP V cells arg e=evP V' cells arg e)∧∀ l,evsP V cells arg l=evsP V' cells arg l:=by
  refine Ex.ind (fun op n l hl he=>?_) rfl (fun x r hx hr=>?_)
  · unfold evP
    rw [hl]
    have hf:∀ ws,finP V cells arg op n ws=finP V' cells arg op n ws:=fun ws=>by
      unfold finP
      split
      · rfl
      split
      · rfl
      split
      · rfl
      split
      · rename_i hc; rw [h _ hc.1 hc.2]
      · rfl
    rw [hf]
    have hi:ifP V cells arg l=ifP V' cells arg l:=by
      match l,he with
      | [c,x,y],he =>
        unfold ifP
        rw [he c (by simp),he x (by simp),he y (by simp)]
      | [],_=>rfl
      | [_],_=>rfl
      | [_,_],_=>rfl
      | _::_::_::_::_,_=>rfl
    rw [hi]
  · unfold evsP
    rw [hx,hr]
theorem VS_any {funs:List Ex} {cells:List Int}:∀ (f g:Nat) (k:Key),0≤k.2→k.2<f→k.2<g→VS funs cells f k=VS funs cells g k
  | 0,_,k,h0,h1,_=>by omega
  | _+1,0,k,h0,_,h2=>by omega
  | f+1,g+1,k,h0,h1,h2=>by
    unfold VS
    rw [(evP_congr (V:=VS funs cells f) (V':=VS funs cells g) fun k' h3 h4=>VS_any f g k' h3 (by omega) (by omega)).1]
def V (funs:List Ex) (cells:List Int):Key→Int:=VS funs cells 201
def D (funs:List Ex) (cells:List Int) (k:Key):List Dp:=(evP (V funs cells) cells k.2 (fnE funs k)).2
theorem V_eq {funs:List Ex} {cells:List Int} {k:Key} (h0:0≤k.2) (h1:k.2≤200):V funs cells k=(evP (V funs cells) cells k.2 (fnE funs k)).1:=by
  have:V funs cells k=(evP (VS funs cells 200) cells k.2 (fnE funs k)).1:=rfl
  rw [this,(evP_congr (V:=VS funs cells 200) (V':=V funs cells) fun k' h3 h4=>VS_any 200 201 k' h3 (by omega) (by omega)).1]

/-! Where two evaluations part -/
/-- Two lists part: behind what is the same, the same is asked and another word comes back. -/
def Part (l m:List Dp):Prop:=∃ p d d' r r',l=p++d::r∧m=p++d'::r'∧d.call=d'.call∧d.cell=d'.cell∧d.key=d'.key∧d.word≠d'.word
/-- The same, or they part. -/
def Alike {α:Type} (x y:α × List Dp):Prop:=x=y∨Part x.2 y.2
/-- What is asked: a call of a lesser argument, of a function that there is. -/
theorem ev_asks {V:Key→Int} {cells:List Int} {funs:Int} {arg:Int}:(∀ e,rightE funs e=true→∀ d∈(evP V cells arg e).2,(d.call=true→0≤d.key.1∧d.key.1<funs∧0≤d.key.2∧d.key.2<arg∧d.word=V d.key∧d.cell=0)∧(d.call=false→d.key=(0,0)∧∃ w,d.cell=(cellAt cells w:Nat)∧d.word=at0 cells (cellAt cells w)))∧∀ l,rightsE funs l=true→∀ d∈(evsP V cells arg l).2,(d.call=true→0≤d.key.1∧d.key.1<funs∧0≤d.key.2∧d.key.2<arg∧d.word=V d.key∧d.cell=0)∧(d.call=false→d.key=(0,0)∧∃ w,d.cell=(cellAt cells w:Nat)∧d.word=at0 cells (cellAt cells w)):=by
  refine Ex.ind (fun op n l hl he hr d hd=>?_) (fun _ d hd=>by simp [evsP] at hd) (fun x r hx hr h d hd=>?_)
  · simp only [rightE,Bool.and_eq_true,decide_eq_true_eq] at hr
    obtain ⟨⟨hp,hn⟩,hrs⟩:=hr
    unfold evP at hd
    split at hd
    · simp at hd
    split at hd
    · simp at hd
    split at hd
    · rename_i h0 h1 h5
      match l,he,hrs,hd with
      | [c,x,y],he,hrs,hd =>
        simp only [rightsE,Bool.and_eq_true] at hrs
        unfold ifP at hd
        split at hd
        · rcases List.mem_append.1 hd with h | h
          · exact he c (by simp) hrs.1 d h
          · exact he x (by simp) hrs.2.1 d h
        · rcases List.mem_append.1 hd with h | h
          · exact he c (by simp) hrs.1 d h
          · exact he y (by simp) hrs.2.2.1 d h
      | [],_,_,hd=>simp [ifP] at hd
      | [_],_,_,hd=>simp [ifP] at hd
      | [_,_],_,_,hd=>simp [ifP] at hd
      | _::_::_::_::_,_,_,hd=>simp [ifP] at hd
    · rename_i h0 h1 h5
      rcases List.mem_append.1 hd with h | h
      · exact hl hrs d h
      · unfold finP at h
        split at h
        · rw [List.mem_singleton.1 h]
          exact ⟨fun h=>by simp [cellD] at h,fun _=>⟨rfl,_,rfl,rfl⟩⟩
        split at h
        · simp at h
        split at h
        · simp at h
        split at h
        · rename_i h2 h3 h4 hc
          rw [List.mem_singleton.1 h]
          have h6:op=6:=by
            unfold partsS at hp
            by_cases e:op=6
            · exact e
            · rw [if_neg (by omega),if_neg (by omega),if_neg (by omega),if_neg h5] at hp
              omega
          have h7:0≤n∧n≤funs - 1:=by
            unfold okN at hn
            simp only [h6,decide_true,Bool.true_and,Bool.and_eq_true,Bool.not_eq_true',Bool.not_eq_false',decide_eq_true_eq] at hn
            exact hn.2
          exact ⟨fun _=>⟨h7.1,by show n<funs; omega,hc.1,hc.2,rfl,rfl⟩,fun h=>by simp [gotD] at h⟩
        · simp at h
  · simp only [rightsE,Bool.and_eq_true] at h
    unfold evsP at hd
    rcases List.mem_append.1 hd with h2 | h2
    · exact hx h.1 d h2
    · exact hr h.2 d h2
end Go.Proofs.YtdiacobmhkmljaaDoor
/- Memory changes nothing: what is remembered is right, each call once, and closed. -/
namespace Go.Proofs.YtdiacobmhkmljaaDoor
theorem findN_some {ns:List Nd} {k:Key} {x:Nd} (h:findN ns k=some x):x∈ns∧x.key=k:=⟨List.mem_of_find?_eq_some h,by simpa using List.find?_some h⟩
theorem hasN_iff {ns:List Nd} {k:Key}:hasN ns k=true↔k∈keysN ns:=by
  unfold hasN findN keysN
  rw [List.find?_isSome,List.mem_map]
  constructor
  · rintro ⟨x,h1,h2⟩; exact ⟨x,h1,by simpa using h2⟩
  · rintro ⟨x,h1,h2⟩; exact ⟨x,h1,by simpa using h2⟩
theorem hasN_app {ns m:List Nd} {k:Key}:hasN (ns++m) k=(hasN ns k || hasN m k):=by
  rw [Bool.eq_iff_iff,hasN_iff,Bool.or_eq_true,hasN_iff,hasN_iff]
  simp [keysN]
theorem hasN_left {ns m:List Nd} {k:Key} (h:hasN ns k=true):hasN (ns++m) k=true:=by rw [hasN_app,h]; rfl
theorem findN_mem {ns:List Nd} {x:Nd} (hn:(keysN ns).Nodup) (h:x∈ns):findN ns x.key=some x:=by
  induction ns with
  | nil=>simp at h
  | cons y r ih =>
    unfold findN
    rw [List.find?_cons]
    simp only [keysN,List.map_cons,List.nodup_cons] at hn
    by_cases e:y.key=x.key
    · rw [decide_eq_true e]
      rcases List.mem_cons.1 h with rfl | h
      · rfl
      · exact absurd (e ▸ List.mem_map_of_mem (f:=(·.key)) h) hn.1
    · rw [decide_eq_false e]
      rcases List.mem_cons.1 h with rfl | h
      · exact absurd rfl e
      · exact ih hn.2 h
theorem findN_none {ns:List Nd} {k:Key}:findN ns k=none↔k ∉ keysN ns:=by
  rw [← hasN_iff]; unfold hasN
  cases findN ns k <;> simp
/-- Functions that are right. -/
def RightF (funs:List Ex):Prop:=∀ i,i<funs.length→rightE funs.length (funs.getD i noE)=true
structure Good (funs:List Ex) (cells:List Int) (ns:List Nd):Prop where
  nd:(keysN ns).Nodup
  ok:∀ x∈ns,0≤x.key.1∧x.key.1<funs.length∧0≤x.key.2∧x.key.2≤200∧x.word=V funs cells x.key∧x.deps=D funs cells x.key∧∀ d∈x.deps,d.call=true→hasN ns d.key=true
theorem Good.nil (funs:List Ex) (cells:List Int):Good funs cells []:=⟨by simp [keysN],by simp⟩
/-- What holds of a call holds of all that it asks for. -/
def Clo (funs:List Ex) (cells:List Int) (X:Key→Prop):Prop:=∀ k,X k→∀ d∈D funs cells k,d.call=true→X d.key
def CallOk (funs:List Ex) (cells:List Int) (C:List Nd→Key→List Nd × Int) (arg:Int):Prop :=
  ∀ ns (k:Key),Good funs cells ns→0≤k.1→k.1<funs.length→0≤k.2→k.2<arg→∃ m,(C ns k).1=ns++m∧Good funs cells (ns++m)∧(C ns k).2=V funs cells k∧hasN (ns++m) k=true∧(∀ x∈m,x.key.2<arg)∧∀ X,Clo funs cells X→X k→∀ x∈m,X x.key
def EvOk (funs:List Ex) (cells:List Int) (C:List Nd→Key→List Nd × Int) (arg:Int) (e:Ex):Prop :=
  rightE funs.length e=true→∀ ns ds,Good funs cells ns→∃ m,evalS C cells arg e ns ds=(ns++m,(evP (V funs cells) cells arg e).1,ds++(evP (V funs cells) cells arg e).2)∧Good funs cells (ns++m)∧(∀ d∈(evP (V funs cells) cells arg e).2,d.call=true→hasN (ns++m) d.key=true)∧(∀ x∈m,x.key.2<arg)∧∀ X,Clo funs cells X→(∀ d∈(evP (V funs cells) cells arg e).2,d.call=true→X d.key)→∀ x∈m,X x.key
def EvsOk (funs:List Ex) (cells:List Int) (C:List Nd→Key→List Nd × Int) (arg:Int) (l:List Ex):Prop :=
  rightsE funs.length l=true→∀ ns ds,Good funs cells ns→∃ m,evalsS C cells arg l ns ds=(ns++m,(evsP (V funs cells) cells arg l).1,ds++(evsP (V funs cells) cells arg l).2)∧Good funs cells (ns++m)∧(∀ d∈(evsP (V funs cells) cells arg l).2,d.call=true→hasN (ns++m) d.key=true)∧(∀ x∈m,x.key.2<arg)∧∀ X,Clo funs cells X→(∀ d∈(evsP (V funs cells) cells arg l).2,d.call=true→X d.key)→∀ x∈m,X x.key
theorem mem_two {α:Type} {P:α→Prop} {a b:List α} (h1:∀ x∈a,P x) (h2:∀ x∈b,P x):∀ x∈a++b,P x:=fun x hx=>(List.mem_append.1 hx).elim (h1 x) (h2 x)
theorem ev_ok {funs:List Ex} {cells:List Int} {C:List Nd→Key→List Nd × Int} {arg:Int} (hC:CallOk funs cells C arg):(∀ e,EvOk funs cells C arg e)∧∀ l,EvsOk funs cells C arg l:=by
  refine Ex.ind (fun op n l hl he hr ns ds hg=>?_) (fun _ ns ds hg=>⟨[],by simp [evalsS,evsP],by simpa using hg,by simp [evsP],by simp,by simp⟩) (fun x r hx hr h ns ds hg=>?_)
  · have hr0:=hr
    simp only [rightE,Bool.and_eq_true,decide_eq_true_eq] at hr
    obtain ⟨⟨hp,hn⟩,hrs⟩:=hr
    unfold evalS evP
    split
    · exact ⟨[],by simp,by simpa using hg,by simp,by simp,by simp⟩
    split
    · exact ⟨[],by simp,by simpa using hg,by simp,by simp,by simp⟩
    split
    · match l,he,hrs with
      | [c,x,y],he,hrs =>
        simp only [rightsE,Bool.and_eq_true] at hrs
        obtain ⟨m1,e1,g1,d1,k1,x1⟩:=he c (by simp) hrs.1 ns ds hg
        unfold ifS ifP
        rw [e1]
        dsimp only
        split
        · obtain ⟨m2,e2,g2,d2,k2,x2⟩:=he x (by simp) hrs.2.1 (ns++m1) (ds++(evP (V funs cells) cells arg c).2) g1
          rw [e2]
          exact ⟨m1++m2,by simp,by rw [← List.append_assoc]; exact g2,by
            rw [← List.append_assoc]
            exact mem_two (fun d hd hc=>hasN_left (d1 d hd hc)) d2,mem_two k1 k2,fun X hX hd=>mem_two (x1 X hX fun d h=>hd d (List.mem_append_left _ h)) (x2 X hX fun d h=>hd d (List.mem_append_right _ h))⟩
        · obtain ⟨m2,e2,g2,d2,k2,x2⟩:=he y (by simp) hrs.2.2.1 (ns++m1) (ds++(evP (V funs cells) cells arg c).2) g1
          rw [e2]
          exact ⟨m1++m2,by simp,by rw [← List.append_assoc]; exact g2,by
            rw [← List.append_assoc]
            exact mem_two (fun d hd hc=>hasN_left (d1 d hd hc)) d2,mem_two k1 k2,fun X hX hd=>mem_two (x1 X hX fun d h=>hd d (List.mem_append_left _ h)) (x2 X hX fun d h=>hd d (List.mem_append_right _ h))⟩
      | [],_,_=>exact ⟨[],by simp [ifS,ifP],by simpa using hg,by simp [ifP],by simp,by simp⟩
      | [_],_,_=>exact ⟨[],by simp [ifS,ifP],by simpa using hg,by simp [ifP],by simp,by simp⟩
      | [_,_],_,_=>exact ⟨[],by simp [ifS,ifP],by simpa using hg,by simp [ifP],by simp,by simp⟩
      | _::_::_::_::_,_,_=>exact ⟨[],by simp [ifS,ifP],by simpa using hg,by simp [ifP],by simp,by simp⟩
    · rename_i h0 h1 h5
      obtain ⟨m,e1,g1,d1,k1,x1⟩:=hl hrs ns ds hg
      rw [e1]
      dsimp only
      unfold finS finP
      split
      · exact ⟨m,by simp,g1,mem_two d1 (by simp [cellD]),k1,fun X hX hd=>x1 X hX fun d h=>hd d (List.mem_append_left _ h)⟩
      split
      · exact ⟨m,by simp,g1,mem_two d1 (by simp),k1,fun X hX hd=>x1 X hX fun d h=>hd d (List.mem_append_left _ h)⟩
      split
      · exact ⟨m,by simp,g1,mem_two d1 (by simp),k1,fun X hX hd=>x1 X hX fun d h=>hd d (List.mem_append_left _ h)⟩
      split
      · rename_i h2 h3 h4 hc
        have h6:op=6:=by
          unfold partsS at hp
          by_cases e:op=6
          · exact e
          · rw [if_neg (by omega),if_neg (by omega),if_neg (by omega),if_neg h5] at hp
            omega
        have h7:0≤n∧n≤(funs.length:Int)-1:=by
          unfold okN at hn
          simp only [h6,decide_true,Bool.true_and,Bool.and_eq_true,Bool.not_eq_true',Bool.not_eq_false',decide_eq_true_eq] at hn
          exact hn.2
        obtain ⟨m2,e2,g2,w2,s2,k2,x2⟩:=hC (ns++m) (n,at0 (evsP (V funs cells) cells arg l).1 0) g1 h7.1 (by show n<_; omega) hc.1 hc.2
        refine ⟨m++m2,by rw [e2,w2]; simp,by rw [← List.append_assoc]; exact g2,?_,mem_two k1 k2,fun X hX hd=>mem_two (x1 X hX fun d h=>hd d (List.mem_append_left _ h)) (x2 X hX (hd _ (List.mem_append_right _ (List.mem_singleton.2 rfl)) rfl))⟩
        rw [← List.append_assoc]
        exact mem_two (fun d hd hcl=>hasN_left (d1 d hd hcl)) (fun d hd _=>by rw [List.mem_singleton.1 hd]; exact s2)
      · exact ⟨m,by simp,g1,mem_two d1 (by simp),k1,fun X hX hd=>x1 X hX fun d h=>hd d (List.mem_append_left _ h)⟩
  · simp only [rightsE,Bool.and_eq_true] at h
    obtain ⟨m1,e1,g1,d1,k1,x1⟩:=hx h.1 ns ds hg
    obtain ⟨m2,e2,g2,d2,k2,x2⟩:=hr h.2 (ns++m1) (ds++(evP (V funs cells) cells arg x).2) g1
    unfold evalsS evsP
    rw [e1]
    dsimp only
    rw [e2]
    refine ⟨m1++m2,by simp,by rw [← List.append_assoc]; exact g2,?_,mem_two k1 k2,fun X hX hd=>mem_two (x1 X hX fun d h=>hd d (List.mem_append_left _ h)) (x2 X hX fun d h=>hd d (List.mem_append_right _ h))⟩
    rw [← List.append_assoc]
    exact mem_two (fun d hd hc=>hasN_left (d1 d hd hc)) d2
theorem run_ok {funs : List Ex} {cells : List Int} (hf : RightF funs) : ∀ (f : Nat), f ≤ 201 → ∀ ns (k : Key), Good funs cells ns → 0 ≤ k.1 → k.1 < funs.length → 0 ≤ k.2 → k.2 < f →
    ∃ m,(runS funs cells f ns k).1=ns++m∧Good funs cells (ns++m)∧(runS funs cells f ns k).2=V funs cells k∧hasN (ns++m) k=true∧(∀ x∈m,x.key.2≤k.2)∧∀ X,Clo funs cells X→X k→∀ x∈m,X x.key
  | 0,_,_,k,_,_,_,_,_=>by omega
  | f+1,hf1,ns,k,hg,h1,h2,h3,h4=>by
    unfold runS
    cases hfn:findN ns k with
    | some x =>
      dsimp only
      obtain ⟨hm,hk⟩:=findN_some hfn
      exact ⟨[],by simp,by simpa using hg,by rw [← hk]; exact (hg.ok x hm).2.2.2.2.1,by rw [List.append_nil]; unfold hasN; rw [hfn]; rfl,by simp,by simp⟩
    | none =>
      dsimp only
      have hC:CallOk funs cells (runS funs cells f) k.2:=fun ns' k' hg' q1 q2 q3 q4=>by
        obtain ⟨m,e1,g1,w1,s1,k1,x1⟩:=run_ok hf f (by omega) ns' k' hg' q1 q2 q3 (by omega)
        exact ⟨m,e1,g1,w1,s1,fun x hx=>by have:=k1 x hx; omega,x1⟩
      have hri:rightE funs.length (fnE funs k)=true:=hf k.1.toNat (by omega)
      obtain ⟨m,e1,g1,d1,k1,x1⟩:=(ev_ok hC).1 (fnE funs k) hri ns [] hg
      unfold fnE at e1
      rw [e1]
      dsimp only
      have hVk:(evP (V funs cells) cells k.2 (funs.getD k.1.toNat noE)).1=V funs cells k:=(V_eq h3 (by omega)).symm
      have hnk:k ∉ keysN (ns++m):=fun hk=>by
        unfold keysN at hk
        rw [List.map_append,List.mem_append] at hk
        rcases hk with hk | hk
        · exact findN_none.1 hfn hk
        · obtain ⟨x,hx,he⟩:=List.mem_map.1 hk
          have:=k1 x hx
          rw [he] at this; omega
      refine ⟨m++[⟨k,V funs cells k,D funs cells k⟩],by rw [hVk]; simp [D,fnE],⟨?_,?_⟩,hVk,?_,?_,fun X hX hk=>mem_two (x1 X hX fun d hd=>hX k hk d hd) (fun x hx=>by rw [List.mem_singleton.1 hx]; exact hk)⟩
      · unfold keysN at hnk ⊢
        rw [← List.append_assoc,List.map_append,List.nodup_append]
        refine ⟨g1.nd,by simp,?_⟩
        intro a ha b hb e
        simp only [List.map_cons,List.map_nil,List.mem_singleton] at hb
        exact hnk (hb ▸ e ▸ ha)
      · rw [← List.append_assoc]
        refine mem_two (fun x hx=>?_) (fun x hx=>?_)
        · obtain ⟨a1,a2,a3,a4,a5,a6,a7⟩:=g1.ok x hx
          exact ⟨a1,a2,a3,a4,a5,a6,fun d hd hc=>hasN_left (a7 d hd hc)⟩
        · rw [List.mem_singleton.1 hx]
          exact ⟨h1,h2,h3,by show k.2≤200; omega,rfl,rfl,fun d hd hc=>hasN_left (d1 d hd hc)⟩
      · rw [← List.append_assoc,hasN_app]
        have:hasN [(⟨k,V funs cells k,D funs cells k⟩:Nd)] k=true:=hasN_iff.2 (by simp [keysN])
        rw [this,Bool.or_true]
      · exact mem_two (fun x hx=>Int.le_of_lt (k1 x hx)) (fun x hx=>by rw [List.mem_singleton.1 hx]; exact Int.le_refl _)
end Go.Proofs.YtdiacobmhkmljaaDoor
/- Rounds: what is new, run again, kept and dropped, by lists in order. -/
namespace Go.Proofs.YtdiacobmhkmljaaDoor
theorem kLt_iff {a b:Key}:kLt a b=true↔a.1<b.1∨a.1=b.1∧a.2<b.2:=by simp [kLt]
def KUp (l:List Key):Prop:=l.Pairwise fun a b=>kLt a b=true
theorem kup_nodup {l:List Key} (h:KUp l):l.Nodup:=h.imp fun {a b} hab e=>by
  subst e
  rw [kLt_iff] at hab; omega
theorem kup_ext:∀ {l m:List Key},KUp l→KUp m→(∀ x,x∈l↔x∈m)→l=m
  | [],[],_,_,_=>rfl
  | [],y::m,_,_,h=>by have:=(h y).2 (by simp); simp at this
  | x::l,[],_,_,h=>by have:=(h x).1 (by simp); simp at this
  | x::l,y::m,hl,hm,h=>by
    have hl':=List.pairwise_cons.1 hl
    have hm':=List.pairwise_cons.1 hm
    have e:x=y:=by
      rcases List.mem_cons.1 ((h x).1 (by simp)) with e | h1
      · exact e
      · rcases List.mem_cons.1 ((h y).2 (by simp)) with e | h2
        · exact e.symm
        · have a1:=kLt_iff.1 (hm'.1 x h1)
          have a2:=kLt_iff.1 (hl'.1 y h2)
          omega
    subst e
    refine congrArg _ (kup_ext hl'.2 hm'.2 fun z=>?_)
    have hz:=h z
    simp only [List.mem_cons] at hz
    constructor
    · intro h1
      rcases hz.1 (.inr h1) with e | h2
      · subst e; exact absurd h1 (List.nodup_cons.1 (kup_nodup hl)).1
      · exact h2
    · intro h1
      rcases hz.2 (.inr h1) with e | h2
      · subst e; exact absurd h1 (List.nodup_cons.1 (kup_nodup hm)).1
      · exact h2
theorem mem_insN {x z:Nd}:∀ {l:List Nd},z∈insN x l↔z=x∨z∈l
  | []=>by simp [insN]
  | y::r=>by
    unfold insN
    split
    · simp
    · simp only [List.mem_cons,mem_insN]
      constructor
      · rintro (h | h | h)
        · exact .inr (.inl h)
        · exact .inl h
        · exact .inr (.inr h)
      · rintro (h | h | h)
        · exact .inr (.inl h)
        · exact .inl h
        · exact .inr (.inr h)
theorem insN_up {x:Nd}:∀ {l:List Nd},KUp (keysN l)→x.key ∉ keysN l→KUp (keysN (insN x l))
  | [],_,_=>by simp [insN,keysN,KUp]
  | y::r,h,hn=>by
    unfold insN
    have h':=List.pairwise_cons.1 h
    split
    · rename_i hxy
      refine List.pairwise_cons.2 ⟨fun z hz=>?_,h⟩
      rcases List.mem_cons.1 hz with rfl | hz
      · exact hxy
      · have a1:=kLt_iff.1 hxy
        have a2:y.key.1<z.1∨y.key.1=z.1∧y.key.2<z.2:=kLt_iff.1 (h'.1 z hz)
        exact kLt_iff.2 (show x.key.1<z.1∨x.key.1=z.1∧x.key.2<z.2 by omega)
    · rename_i hxy
      simp only [keysN,List.map_cons,List.mem_cons,not_or] at hn
      refine List.pairwise_cons.2 ⟨fun z hz=>?_,insN_up h'.2 hn.2⟩
      obtain ⟨w,hw,rfl⟩:=List.mem_map.1 hz
      rcases mem_insN.1 hw with rfl | hw
      · have a1:¬ (w.key.1<y.key.1∨w.key.1=y.key.1∧w.key.2<y.key.2):=fun q=>hxy (kLt_iff.2 q)
        have a2:¬ (w.key.1=y.key.1∧w.key.2=y.key.2):=fun q=>hn.1 (Prod.ext q.1 q.2)
        exact kLt_iff.2 (show y.key.1<w.key.1∨y.key.1=w.key.1∧y.key.2<w.key.2 by omega)
      · exact h'.1 _ (List.mem_map_of_mem hw)
theorem sortN_go:∀ {l acc:List Nd},KUp (keysN acc)→(keysN (acc++l)).Nodup→KUp (keysN (l.foldl (fun l x=>insN x l) acc))∧∀ z,z∈l.foldl (fun l x=>insN x l) acc↔z∈acc∨z∈l
  | [],acc,h,_=>⟨h,by simp⟩
  | x::l,acc,h,hn=>by
    have hx:x.key ∉ keysN acc:=fun hm=>by
      unfold keysN at hn hm
      rw [List.map_append,List.nodup_append] at hn
      exact hn.2.2 _ hm _ (by simp) rfl
    have hn2:(keysN (insN x acc++l)).Nodup:=by
      unfold keysN at hn ⊢
      rw [List.map_append,List.nodup_append] at hn ⊢
      refine ⟨kup_nodup (insN_up h hx),(List.nodup_cons.1 hn.2.1).2,fun a ha b hb e=>?_⟩
      obtain ⟨w,hw,rfl⟩:=List.mem_map.1 ha
      rcases mem_insN.1 hw with rfl | hw
      · exact (List.nodup_cons.1 hn.2.1).1 (show w.key∈_ by rw [show w.key=b from e]; exact hb)
      · exact hn.2.2 _ (List.mem_map_of_mem hw) b (List.mem_cons_of_mem _ hb) e
    obtain ⟨h1,h2⟩:=sortN_go (insN_up h hx) hn2
    refine ⟨h1,fun z=>?_⟩
    rw [List.foldl_cons,h2,mem_insN,List.mem_cons]
    constructor
    · rintro ((h | h) | h)
      · exact .inr (.inl h)
      · exact .inl h
      · exact .inr (.inr h)
    · rintro (h | h | h)
      · exact .inl (.inr h)
      · exact .inl (.inl h)
      · exact .inr h
theorem sortN_up {l:List Nd} (h:(keysN l).Nodup):KUp (keysN (sortN l)):=(sortN_go (acc:=[]) (by simp [KUp,keysN]) (by simpa using h)).1
theorem mem_sortN {l:List Nd} (h:(keysN l).Nodup) {z:Nd}:z∈sortN l↔z∈l:=by
  have:=(sortN_go (l:=l) (acc:=[]) (by simp [KUp,keysN]) (by simpa using h)).2 z
  simpa [sortN] using this
def fitsB (x:Rnd) (old now:List Nd):Bool :=
  decide (now.length=x.new.length+x.again.length+x.kept.length) && decide (old.length=x.dropped.length+x.again.length+x.kept.length) &&
    (now.all fun n=>(decide (n.key∈x.new) != hasN old n.key) && (decide (n.key∈x.kept) == keptB old n) && (decide (n.key∈x.again) == againB old n)) && old.all fun n=>decide (n.key∈x.dropped) != hasN now n.key
theorem sub_len {α:Type} [DecidableEq α]:∀ {l m:List α},l.Nodup→(∀ x∈l,x∈m)→l.length≤m.length
  | [],_,_,_=>Nat.zero_le _
  | x::r,m,hn,h=>by
    have hx:=h x (by simp)
    have h1:=List.nodup_cons.1 hn
    have:=sub_len (l:=r) (m:=m.erase x) h1.2 fun y hy=>(List.mem_erase_of_ne (fun e:y=x=>h1.1 (by rw [← e]; exact hy))).2 (h y (by simp [hy]))
    rw [List.length_erase_of_mem hx] at this
    have:=List.length_pos_of_mem hx
    simp only [List.length_cons]; omega
/-- What calls depend on, if they were made. -/
def fd (l:List Nd) (k:Key):Option (List Dp):=(findN l k).map (·.deps)
def diffK (a b:List Nd):List Key:=keysN (b.filter fun x=>!hasN a x.key)++(keysN (b.filter (againB a))++keysN (a.filter fun x=>!hasN b x.key))
end Go.Proofs.YtdiacobmhkmljaaDoor
/- Traces: in order, right, closed and the least ones; what changes of cells can do. -/
namespace Go.Proofs.YtdiacobmhkmljaaDoor
structure Tra (funs:List Ex) (cells:List Int) (top:Key) (l:List Nd):Prop where
  up:KUp (keysN l)
  ok:∀ x∈l,0≤x.key.1∧x.key.1<funs.length∧0≤x.key.2∧x.key.2≤200∧x.word=V funs cells x.key∧x.deps=D funs cells x.key∧∀ d∈x.deps,d.call=true→hasN l d.key=true
  tops:hasN l top=true
  least:∀ X,Clo funs cells X→X top→∀ x∈l,X x.key
theorem hasN_sort {l:List Nd} (h:(keysN l).Nodup) {k:Key}:hasN (sortN l) k=hasN l k:=by
  rw [Bool.eq_iff_iff,hasN_iff,hasN_iff]
  unfold keysN
  rw [List.mem_map,List.mem_map]
  simp only [mem_sortN h]
theorem calls_ok {funs : List Ex} {cells : List Int} {top : Key} (hf : RightF funs) (h1 : 0 ≤ top.1) (h2 : top.1 < funs.length) (h3 : 0 ≤ top.2) (h4 : top.2 ≤ 200) :
    Good funs cells (callsS funs cells top).1∧(callsS funs cells top).2=V funs cells top∧Tra funs cells top (traceS funs cells top):=by
  obtain ⟨m,e1,g1,w1,s1,_,x1⟩:=run_ok (cells:=cells) hf 201 (Nat.le_refl _) [] top (Good.nil _ _) h1 h2 h3 (by omega)
  rw [List.nil_append] at e1 g1 s1
  have e:(callsS funs cells top).1=m:=e1
  refine ⟨by rw [e]; exact g1,w1,?_⟩
  unfold traceS
  rw [e]
  refine ⟨sortN_up g1.nd,fun x hx=>?_,by rw [hasN_sort g1.nd]; exact s1,fun X hX ht x hx=>x1 X hX ht x ((mem_sortN g1.nd).1 hx)⟩
  obtain ⟨a1,a2,a3,a4,a5,a6,a7⟩:=g1.ok x ((mem_sortN g1.nd).1 hx)
  exact ⟨a1,a2,a3,a4,a5,a6,fun d hd hc=>by rw [hasN_sort g1.nd]; exact a7 d hd hc⟩
theorem Tra.find {funs:List Ex} {cells:List Int} {top:Key} {l:List Nd} (h:Tra funs cells top l) {k:Key} (hk:hasN l k=true):∃ x,x∈l∧x.key=k∧findN l k=some x∧x.word=V funs cells k∧x.deps=D funs cells k:=by
  unfold hasN at hk
  obtain ⟨x,hx⟩:=Option.isSome_iff_exists.1 hk
  obtain ⟨h1,h2⟩:=findN_some hx
  obtain ⟨_,_,_,_,a5,a6,_⟩:=h.ok x h1
  exact ⟨x,h1,h2,hx,h2 ▸ a5,h2 ▸ a6⟩
section
variable {funs:List Ex} {a b:List Int} {top:Key} {l m:List Nd}
/-- Cells that a trace has not read, or whose words are the same. -/
def StableC (l:List Nd) (a b:List Int):Prop:=∀ x∈l,∀ d∈x.deps,d.call=false→at0 b d.cell.toNat=at0 a d.cell.toNat
theorem asks (hf:RightF funs) {k:Key} (h1:0≤k.1) (h2:k.1<funs.length):∀ d∈D funs a k,(d.call=true→0≤d.key.1∧d.key.1<funs.length∧0≤d.key.2∧d.key.2<k.2∧d.word=V funs a d.key∧d.cell=0)∧(d.call=false→d.key=(0,0)∧∃ w,d.cell=(cellAt a w:Nat)∧d.word=at0 a (cellAt a w)) :=
  ev_asks.1 (fnE funs k) (hf k.1.toNat (by omega))
end
end Go.Proofs.YtdiacobmhkmljaaDoor
/- How long lists of what is depended on are; words stay words; what is made piece by piece. -/
namespace Go.Proofs.YtdiacobmhkmljaaDoor
theorem deps_len {V:Key→Int} {cells:List Int} {arg:Int}:(∀ e,(evP V cells arg e).2.length≤sizeE e)∧∀ l,(evsP V cells arg l).2.length≤sizesE l:=by
  refine Ex.ind (fun op n l hl he=>?_) (by simp [evsP]) (fun x r hx hr=>?_)
  · unfold evP
    rw [sizeE]
    split
    · simp
    split
    · simp
    split
    · match l,he with
      | [c,x,y],he =>
        have h1:=he c (by simp)
        have h2:=he x (by simp)
        have h3:=he y (by simp)
        unfold ifP
        simp only [sizesE]
        split <;> (simp only [List.length_append]; omega)
      | [],_=>simp [ifP]
      | [_],_=>simp [ifP]
      | [_,_],_=>simp [ifP]
      | _::_::_::_::_,_=>simp [ifP]
    · have:(finP V cells arg op n (evsP V cells arg l).1).2.length≤1:=by
        unfold finP
        split
        · simp
        split
        · simp
        split
        · simp
        split <;> simp
      simp only [List.length_append]; omega
  · rw [evsP,sizesE]
    simp only [List.length_append]; omega
theorem wd_at {cells:List Int} (h:∀ n∈cells,isW n=true) (i:Nat):Wd (at0 cells i):=by
  unfold at0
  by_cases hi:i<cells.length
  · rw [List.getD_eq_getElem?_getD,List.getElem?_eq_getElem hi]
    have:=h _ (List.getElem_mem hi)
    simp only [isW,Bool.and_eq_true,decide_eq_true_eq] at this
    exact this
  · rw [List.getD_eq_getElem?_getD,List.getElem?_eq_none (by omega)]; simp [Wd]
theorem wd_at' {ws:List Int} (h:∀ n∈ws,Wd n) (i:Nat):Wd (at0 ws i):=by
  unfold at0
  by_cases hi:i<ws.length
  · rw [List.getD_eq_getElem?_getD,List.getElem?_eq_getElem hi]; exact h _ (List.getElem_mem hi)
  · rw [List.getD_eq_getElem?_getD,List.getElem?_eq_none (by omega)]; simp [Wd]
theorem wd_ev {V : Key → Int} {cells : List Int} {funs arg : Int} (hV : ∀ k : Key, 0 ≤ k.1 → k.1 < funs → 0 ≤ k.2 → k.2 < arg → Wd (V k)) (hc : ∀ n ∈ cells, isW n = true) (ha : Wd arg) :
    (∀ e,rightE funs e=true→Wd (evP V cells arg e).1)∧∀ l,rightsE funs l=true→∀ x∈(evsP V cells arg l).1,Wd x:=by
  refine Ex.ind (fun op n l hl he hr=>?_) (fun _ x hx=>by simp [evsP] at hx) (fun x r hx hr h y hy=>?_)
  · simp only [rightE,Bool.and_eq_true,decide_eq_true_eq] at hr
    obtain ⟨⟨hp,hn⟩,hrs⟩:=hr
    unfold evP
    split
    · rename_i h0
      subst h0
      simp only [okN,decide_true,Bool.true_and,Bool.and_eq_true,Bool.not_eq_true',Bool.not_eq_false'] at hn
      have:=hn.1.1
      simp only [isW,Bool.and_eq_true,decide_eq_true_eq] at this
      exact this
    split
    · exact ha
    split
    · match l,he,hrs with
      | [c,x,y],he,hrs =>
        simp only [rightsE,Bool.and_eq_true] at hrs
        unfold ifP
        split
        · exact he x (by simp) hrs.2.1
        · exact he y (by simp) hrs.2.2.1
      | [],_,_=>simp [ifP,Wd]
      | [_],_,_=>simp [ifP,Wd]
      | [_,_],_,_=>simp [ifP,Wd]
      | _::_::_::_::_,_,_=>simp [ifP,Wd]
    · rename_i h0 h1 h5
      have hw:=wd_at' (hl hrs)
      unfold finP
      split
      · exact wd_at hc _
      split
      · exact wd_bin (hw 0) (hw 1)
      split
      · dsimp only; split <;> simp [Wd]
      split
      · rename_i h2 h3 h4 hq
        have h6:op=6:=by
          unfold partsS at hp
          by_cases e:op=6
          · exact e
          · rw [if_neg (by omega),if_neg (by omega),if_neg (by omega),if_neg h5] at hp
            omega
        have h7:0≤n∧n≤funs - 1:=by
          unfold okN at hn
          simp only [h6,decide_true,Bool.true_and,Bool.and_eq_true,Bool.not_eq_true',Bool.not_eq_false',decide_eq_true_eq] at hn
          exact hn.2
        exact hV _ h7.1 (by show n<funs; omega) hq.1 hq.2
      · simp [Wd]
  · simp only [rightsE,Bool.and_eq_true] at h
    rw [evsP] at hy
    rcases List.mem_cons.1 hy with rfl | hy
    · exact hx h.1
    · exact hr h.2 y hy
/-- What is valid: functions, and cells. -/
structure Scn (funs:List Ex) (cells:List Int):Prop where
  right:RightF funs
  size:∀ i,i<funs.length→sizeE (funs.getD i noE)≤40
  many:funs.length≤8
  c1:1≤cells.length
  c2:cells.length≤100
  word:∀ n∈cells,isW n=true
theorem wd_VS {funs:List Ex} {cells:List Int} (hs:Scn funs cells):∀ (f:Nat) (k:Key),0≤k.1→k.1<funs.length→0≤k.2→k.2≤200→Wd (VS funs cells f k)
  | 0,_,_,_,_,_=>by simp [VS,Wd]
  | f+1,k,h1,h2,h3,h4=>by
    unfold VS
    exact (wd_ev (funs:=funs.length) (fun k' a1 a2 a3 a4=>wd_VS hs f k' a1 a2 a3 (by omega)) hs.word (by unfold Wd; omega)).1 _ (hs.right k.1.toNat (by omega))
theorem wd_V {funs:List Ex} {cells:List Int} (hs:Scn funs cells) {k:Key} (h1:0≤k.1) (h2:k.1<funs.length) (h3:0≤k.2) (h4:k.2≤200):Wd (V funs cells k):=wd_VS hs 201 k h1 h2 h3 h4
/-- How many calls there can be. -/
theorem good_len {funs:List Ex} {cells:List Int} {ns:List Nd} (hs:Scn funs cells) (h:Good funs cells ns):ns.length≤1608:=by
  have hk:(keysN ns).length≤((List.range 1608).map fun i:Nat=>((((i / 201:Nat):Int),((i % 201:Nat):Int)):Key)).length:=by
    refine sub_len h.nd fun k hk=>?_
    obtain ⟨x,hx,rfl⟩:=List.mem_map.1 hk
    obtain ⟨a1,a2,a3,a4,_⟩:=h.ok x hx
    have hm:=hs.many
    refine List.mem_map.2 ⟨x.key.1.toNat*201+x.key.2.toNat,List.mem_range.2 (by omega),?_⟩
    refine Prod.ext ?_ ?_
    · show (((x.key.1.toNat*201+x.key.2.toNat) / 201:Nat):Int)=x.key.1
      omega
    · show (((x.key.1.toNat*201+x.key.2.toNat) % 201:Nat):Int)=x.key.2
      omega
  simpa [keysN] using hk
/-- Parts, one behind the other. -/
theorem evalsS_app {C : List Nd → Key → List Nd × Int} {cells : List Int} {arg : Int} : ∀ (l m : List Ex) (ns : List Nd) (ds : List Dp),
    evalsS C cells arg (l++m) ns ds=((evalsS C cells arg m (evalsS C cells arg l ns ds).1 (evalsS C cells arg l ns ds).2.2).1,(evalsS C cells arg l ns ds).2.1++(evalsS C cells arg m (evalsS C cells arg l ns ds).1 (evalsS C cells arg l ns ds).2.2).2.1,(evalsS C cells arg m (evalsS C cells arg l ns ds).1 (evalsS C cells arg l ns ds).2.2).2.2)
  | [],m,ns,ds=>by simp [evalsS]
  | x::r,m,ns,ds=>by
    rw [List.cons_append,evalsS,evalsS_app r m,evalsS]
    simp
theorem evalsS_snoc {C : List Nd → Key → List Nd × Int} {cells : List Int} {arg : Int} (l : List Ex) (x : Ex) (ns : List Nd) (ds : List Dp) :
    evalsS C cells arg (l++[x]) ns ds=((evalS C cells arg x (evalsS C cells arg l ns ds).1 (evalsS C cells arg l ns ds).2.2).1,(evalsS C cells arg l ns ds).2.1++[(evalS C cells arg x (evalsS C cells arg l ns ds).1 (evalsS C cells arg l ns ds).2.2).2.1],(evalS C cells arg x (evalsS C cells arg l ns ds).1 (evalsS C cells arg l ns ds).2.2).2.2):=by
  rw [evalsS_app,evalsS,evalsS]
theorem evalsS_len {C:List Nd→Key→List Nd × Int} {cells:List Int} {arg:Int}:∀ (l:List Ex) (ns:List Nd) (ds:List Dp),(evalsS C cells arg l ns ds).2.1.length=l.length
  | [],_,_=>rfl
  | x::r,ns,ds=>by rw [evalsS,List.length_cons,List.length_cons,evalsS_len r]
theorem evS_0 {C:List Nd→Key→List Nd × Int} {cells:List Int} {arg n op:Int} {l:List Ex} {ns:List Nd} {ds:List Dp} (h:op=0):evalS C cells arg (.nd op n l) ns ds=(ns,n,ds):=by rw [evalS,if_pos h]
theorem evS_1 {C:List Nd→Key→List Nd × Int} {cells:List Int} {arg n op:Int} {l:List Ex} {ns:List Nd} {ds:List Dp} (h:op=1):evalS C cells arg (.nd op n l) ns ds=(ns,arg,ds):=by rw [evalS,if_neg (by omega),if_pos h]
theorem evS_5 {C:List Nd→Key→List Nd × Int} {cells:List Int} {arg n op:Int} {c x y:Ex} {ns:List Nd} {ds:List Dp} (h:op=5):evalS C cells arg (.nd op n [c,x,y]) ns ds=if (evalS C cells arg c ns ds).2.1≠0 then evalS C cells arg x (evalS C cells arg c ns ds).1 (evalS C cells arg c ns ds).2.2 else evalS C cells arg y (evalS C cells arg c ns ds).1 (evalS C cells arg c ns ds).2.2:=by
  rw [evalS,if_neg (by omega),if_neg (by omega),if_pos h,ifS]
theorem evS_f {C:List Nd→Key→List Nd × Int} {cells:List Int} {arg n op:Int} {l:List Ex} {ns:List Nd} {ds:List Dp} (h0:op≠0) (h1:op≠1) (h5:op≠5):evalS C cells arg (.nd op n l) ns ds=finS C cells arg op n (evalsS C cells arg l ns ds).2.1 (evalsS C cells arg l ns ds).1 (evalsS C cells arg l ns ds).2.2:=by
  rw [evalS,if_neg h0,if_neg h1,if_neg h5]
/-- A call that may be made. -/
def KOk (funs:List Ex) (f:Int) (k:Key):Prop:=0≤k.1∧k.1<funs.length∧0≤k.2∧k.2<f
/-- What is known behind an expression. -/
theorem ev_facts {funs : List Ex} {cells : List Int} {f : Nat} (hs : Scn funs cells) (hf : f ≤ 201) {arg : Int} (h0 : 0 ≤ arg) (h1 : arg ≤ f) (h2 : arg ≤ 200) {e : Ex} (hr : rightE funs.length e = true) {ns : List Nd} (hg : Good funs cells ns) (ds : List Dp) :
    Good funs cells (evalS (runS funs cells f) cells arg e ns ds).1∧Wd (evalS (runS funs cells f) cells arg e ns ds).2.1∧(evalS (runS funs cells f) cells arg e ns ds).2.2.length≤ds.length+sizeE e:=by
  have hC:CallOk funs cells (runS funs cells f) arg:=fun ns' k' hg' q1 q2 q3 q4=>by
    obtain ⟨m,e1,g1,w1,s1,k1,x1⟩:=run_ok hs.right f hf ns' k' hg' q1 q2 q3 (by omega)
    exact ⟨m,e1,g1,w1,s1,fun x hx=>by have:=k1 x hx; omega,x1⟩
  obtain ⟨m,e1,g1,_⟩:=(ev_ok hC).1 e hr ns ds hg
  rw [e1]
  refine ⟨g1,?_,?_⟩
  · exact (wd_ev (funs:=funs.length) (fun k a1 a2 a3 a4=>wd_V hs a1 a2 a3 (by omega)) hs.word (by unfold Wd; omega)).1 e hr
  · have:=deps_len (V:=V funs cells) (cells:=cells) (arg:=arg).1 e
    simp only [List.length_append]; omega
theorem evs_facts {funs : List Ex} {cells : List Int} {f : Nat} (hs : Scn funs cells) (hf : f ≤ 201) {arg : Int} (h0 : 0 ≤ arg) (h1 : arg ≤ f) (h2 : arg ≤ 200) {l : List Ex} (hr : rightsE funs.length l = true) {ns : List Nd} (hg : Good funs cells ns) (ds : List Dp) :
    Good funs cells (evalsS (runS funs cells f) cells arg l ns ds).1∧(∀ x∈(evalsS (runS funs cells f) cells arg l ns ds).2.1,Wd x)∧(evalsS (runS funs cells f) cells arg l ns ds).2.2.length≤ds.length+sizesE l:=by
  have hC:CallOk funs cells (runS funs cells f) arg:=fun ns' k' hg' q1 q2 q3 q4=>by
    obtain ⟨m,e1,g1,w1,s1,k1,x1⟩:=run_ok hs.right f hf ns' k' hg' q1 q2 q3 (by omega)
    exact ⟨m,e1,g1,w1,s1,fun x hx=>by have:=k1 x hx; omega,x1⟩
  obtain ⟨m,e1,g1,_⟩:=(ev_ok hC).2 l hr ns ds hg
  rw [e1]
  refine ⟨g1,?_,?_⟩
  · exact (wd_ev (funs:=funs.length) (fun k a1 a2 a3 a4=>wd_V hs a1 a2 a3 (by omega)) hs.word (by unfold Wd; omega)).2 l hr
  · have:=deps_len (V:=V funs cells) (cells:=cells) (arg:=arg).2 l
    simp only [List.length_append]; omega
theorem run_facts {funs : List Ex} {cells : List Int} {f : Nat} (hs : Scn funs cells) (hf : f ≤ 201) {k : Key} (hk : KOk funs f k) {ns : List Nd} (hg : Good funs cells ns) :
    Good funs cells (runS funs cells f ns k).1∧Wd (runS funs cells f ns k).2:=by
  obtain ⟨q1,q2,q3,q4⟩:=hk
  obtain ⟨m,e1,g1,w1,_⟩:=run_ok hs.right f hf ns k hg q1 q2 q3 q4
  rw [e1,w1]
  exact ⟨g1,wd_V hs q1 q2 q3 (by omega)⟩
theorem rightsE_take {funs:Int}:∀ {l:List Ex} (i:Nat),rightsE funs l=true→rightsE funs (l.take i)=true
  | [],i,h=>by simpa using h
  | x::r,0,h=>rfl
  | x::r,i+1,h=>by
    simp only [rightsE,Bool.and_eq_true,List.take_succ_cons] at h ⊢
    exact ⟨h.1,rightsE_take i h.2⟩
theorem sizesE_take:∀ (l:List Ex) (i:Nat),sizesE (l.take i)≤sizesE l
  | [],i=>by simp
  | x::r,0=>by simp [sizesE]
  | x::r,i+1=>by
    simp only [List.take_succ_cons,sizesE]
    have:=sizesE_take r i
    omega
theorem mod_turn {w:Int} {n:Nat} (h:0<n):Int.tmod (Int.tmod w n+n) n=w % n:=by
  have h1:(0:Int)<n:=by omega
  have e:=Int.tmod_eq_emod (a:=w) (b:=(n:Int))
  have e1:=Int.emod_nonneg w (show (n:Int)≠0 by omega)
  have e2:=Int.emod_lt_of_pos w h1
  have hq:0≤Int.tmod w n+n:=by
    rw [e]; split <;> simp <;> omega
  rw [Int.tmod_eq_emod_of_nonneg hq,Int.add_emod_right,e]
  split
  · simp
  · simp
end Go.Proofs.YtdiacobmhkmljaaDoor
/- Expressions, keys, what calls depend on, and calls, as memory holds them. -/
namespace Go.Proofs.YtdiacobmhkmljaaDoor
open Go.Sl
variable {S:Nat→Prop} {w0:World} {η:Heap}
theorem mixed:Tryd.prog.follows .mixedOrders=true:=by kernel_rfl
theorem osl_cap {e:TypeId} {sz n cap:Nat} {a:Option Addr} {xs:List Value} {seg:Seg} (h:OSl e sz (.slice a n cap) n xs seg):n≤cap:=by
  rcases h.2 with ⟨h0,hn,_⟩ | ⟨g,c2,cur,hv,_,hc,_⟩
  · omega
  · simp only [Value.slice.injEq,true_and] at hv; omega
theorem osl_empty {e:TypeId} {sz b:Nat}:OSl e sz (.slice (some ⟨b,0,Option.none⟩) 0 0) 0 [] [(b,.cells #[] e (0,0))]:=⟨by simp,.inr ⟨b,0,#[],rfl,rfl,Nat.le_refl _,by simp,by simp⟩⟩

/-! Expressions -/
/-- An expression with where its parts lie. -/
inductive TE where
  | nd (op n:Int) (a:Option Addr) (c:Nat) (l:List TE)
def TE.op:TE→Int | .nd op _ _ _ _=>op
def TE.n:TE→Int | .nd _ n _ _ _=>n
def TE.a:TE→Option Addr | .nd _ _ a _ _=>a
def TE.c:TE→Nat | .nd _ _ _ c _=>c
def TE.l:TE→List TE | .nd _ _ _ _ l=>l
def teC (x:TE):List Value:=[.int .i64 x.op,.int .i64 x.n,.slice x.a x.l.length x.c]
theorem teC_len (x:TE):(teC x).length=3:=rfl
theorem teC1 (x:TE):∀ v∈teC x,v.oneCell'=true:=by intro v hv; simp only [teC,List.mem_cons,List.not_mem_nil,or_false] at hv; rcases hv with rfl | rfl | rfl <;> rfl
mutual
def TE.ex:TE→Ex
  | .nd op n _ _ l=>.nd op n (TE.exs l)
def TE.exs:List TE→List Ex
  | []=>[]
  | x::r=>TE.ex x::TE.exs r
end
theorem exs_map:∀ l:List TE,TE.exs l=l.map TE.ex
  | []=>rfl
  | x::r=>by rw [TE.exs,exs_map r,List.map_cons]
theorem ex_eq (x:TE):x.ex = .nd x.op x.n (x.l.map TE.ex):=by cases x with | nd op n a c l=>rw [TE.ex,exs_map]; rfl
mutual
/-- Where an expression's parts are read. -/
def Tr (S:Nat→Prop) (w0:World) (η:Heap):TE→Prop
  | .nd _ _ a c l=>(Row S w0 η a (l.flatMap teC)∧l.length≤c∧l.length<9223372036854775808)∧Trs S w0 η l
def Trs (S:Nat→Prop) (w0:World) (η:Heap):List TE→Prop
  | []=>True
  | x::r=>Tr S w0 η x∧Trs S w0 η r
end
theorem trs_iff:∀ {l:List TE},Trs S w0 η l↔∀ x∈l,Tr S w0 η x
  | []=>by simp [Trs]
  | x::r=>by simp [Trs,trs_iff (l:=r)]
theorem tr_iff {x:TE}:Tr S w0 η x↔(Row S w0 η x.a (x.l.flatMap teC)∧x.l.length≤x.c∧x.l.length<9223372036854775808)∧∀ y∈x.l,Tr S w0 η y:=by
  cases x with | nd op n a c l=>simp only [Tr,trs_iff]; rfl
theorem TE.ind {M:TE→Prop} (h:∀ x:TE,(∀ y∈x.l,M y)→M x):∀ x,M x:=fun x =>
  TE.rec (motive_1:=M) (motive_2:=fun l=>∀ y∈l,M y) (fun op n a c l hl=>h (.nd op n a c l) hl) (by simp) (fun x r hx hr y hy=>by
    rcases List.mem_cons.1 hy with rfl | h
    · exact hx
    · exact hr y h) x
theorem Tr.map {S':Nat→Prop} {w1:World} {η':Heap} (hm:∀ a cs,Row S w0 η a cs→Row S' w1 η' a cs):∀ {x:TE},Tr S w0 η x→Tr S' w1 η' x:=fun {x}=>by
  refine TE.ind (M:=fun x=>Tr S w0 η x→Tr S' w1 η' x) (fun x ih h=>?_) x
  have h2:=tr_iff.1 h
  exact tr_iff.2 ⟨⟨hm _ _ h2.1.1,h2.1.2⟩,fun y hy=>ih y hy (h2.2 y hy)⟩
/-- Functions, in a row. -/
structure Fs (S:Nat→Prop) (w0:World) (η:Heap) (a:Option Addr) (l:List TE):Prop where
  row:Row S w0 η a (l.flatMap teC)
  item:∀ x∈l,Tr S w0 η x
theorem Fs.map {S':Nat→Prop} {w1:World} {η':Heap} (hm:∀ a cs,Row S w0 η a cs→Row S' w1 η' a cs) {a:Option Addr} {l:List TE} (h:Fs S w0 η a l):Fs S' w1 η' a l:=⟨hm _ _ h.row,fun x hx=>(h.item x hx).map hm⟩
theorem Tr.up {η':Heap} {x:TE} (h:Tr S w0 η x) (hs:∀ s∈η,s∈η'):Tr S w0 η' x:=h.map fun _ _ hr=>hr.up hs
theorem Tr.frz {S':Nat→Prop} {w1:World} {ηr:Heap} {x:TE} (h:Tr S w0 ηr x) (hz:Frz S S' w0 w1 ηr):Tr S' w1 [] x:=h.map fun _ _ hr=>hr.frz hz
theorem Tr.old {S':Nat→Prop} {w1:World} {ηr:Heap} {x:TE} (h:Tr S w0 [] x) (hz:Frz S S' w0 w1 ηr):Tr S' w1 [] x:=h.map fun _ _ hr=>hr.old hz
theorem Fs.up {η':Heap} {a:Option Addr} {l:List TE} (h:Fs S w0 η a l) (hs:∀ s∈η,s∈η'):Fs S w0 η' a l:=h.map fun _ _ hr=>hr.up hs
theorem Fs.ro {η':Heap} {a:Option Addr} {l:List TE} (h:Fs S w0 [] a l):Fs S w0 η' a l:=h.up (by simp)
theorem Fs.frz {S':Nat→Prop} {w1:World} {ηr:Heap} {a:Option Addr} {l:List TE} (h:Fs S w0 ηr a l) (hz:Frz S S' w0 w1 ηr):Fs S' w1 [] a l:=h.map fun _ _ hr=>hr.frz hz
theorem Fs.old {S':Nat→Prop} {w1:World} {ηr:Heap} {a:Option Addr} {l:List TE} (h:Fs S w0 [] a l) (hz:Frz S S' w0 w1 ηr):Fs S' w1 [] a l:=h.map fun _ _ hr=>hr.old hz
theorem Fs.atA {a:Option Addr} {l:List TE} (h:Fs S w0 η a l) {i:Nat} (hi:i<l.length):∀ j v,(teC l[i])[j]?=some v→At S w0 η ⟨(sAt a (i*3)).block,(sAt a (i*3)).off+j,none⟩ v:=h.row.tabA teC_len hi
theorem Fs.ad {a:Option Addr} {l:List TE} (h:Fs S w0 η a l) {i:Nat} (hi:i<l.length):∃ ad,a=some ad∧ad.spot=none:=h.row.tad teC_len (by decide) hi
theorem Tr.fs {x:TE} (h:Tr S w0 η x):Fs S w0 η x.a x.l:=⟨(tr_iff.1 h).1.1,(tr_iff.1 h).2⟩
theorem Tr.len {x:TE} (h:Tr S w0 η x):x.l.length<9223372036854775808:=(tr_iff.1 h).1.2.2
theorem Tr.part {x:TE} (h:Tr S w0 η x) {i:Nat} (hi:i<x.l.length):Tr S w0 η x.l[i]:=(tr_iff.1 h).2 _ (List.getElem_mem hi)
theorem size_part:∀ {l:List TE} {x:TE},x∈l→sizeE x.ex≤sizesE (TE.exs l)
  | y::r,x,h=>by
    rw [TE.exs,sizesE]
    rcases List.mem_cons.1 h with rfl | h
    · omega
    · have:=size_part h; omega
theorem size_lt {x:TE} {i:Nat} (hi:i<x.l.length):sizeE x.l[i].ex<sizeE x.ex:=by
  have h:=size_part (List.getElem_mem hi)
  have e:sizeE x.ex=1+sizesE (TE.exs x.l):=by cases x; rfl
  omega

/-! Keys, and what calls depend on -/
def kC (k:Key):List Value:=[.int .i64 k.1,.int .i64 k.2]
abbrev kV (k:Key):Value:=.agg #[.int .i64 k.1,.int .i64 k.2]
theorem kC_len (k:Key):(kC k).length=2:=rfl
theorem kC1 (k:Key):∀ v∈kC k,v.oneCell'=true:=by intro v hv; simp only [kC,List.mem_cons,List.not_mem_nil,or_false] at hv; rcases hv with rfl | rfl <;> rfl
def dpC (d:Dp):List Value:=[.bool d.call,.int .i64 d.cell,.int .i64 d.key.1,.int .i64 d.key.2,.int .i64 d.word]
theorem dpC_len (d:Dp):(dpC d).length=5:=rfl
theorem dpC1 (d:Dp):∀ v∈dpC d,v.oneCell'=true:=by intro v hv; simp only [dpC,List.mem_cons,List.not_mem_nil,or_false] at hv; rcases hv with rfl | rfl | rfl | rfl | rfl <;> rfl
/-- A call, with where lies what it depends on. -/
structure NH where
  nd:Nd
  a:Option Addr
  c:Nat
def nhC (x:NH):List Value:=[.int .i64 x.nd.key.1,.int .i64 x.nd.key.2,.int .i64 x.nd.word,.slice x.a x.nd.deps.length x.c]
theorem nhC_len (x:NH):(nhC x).length=4:=rfl
theorem nhC1 (x:NH):∀ v∈nhC x,v.oneCell'=true:=by intro v hv; simp only [nhC,List.mem_cons,List.not_mem_nil,or_false] at hv; rcases hv with rfl | rfl | rfl | rfl <;> rfl
def nds (l:List NH):List Nd:=l.map (·.nd)
theorem nds_len (l:List NH):(nds l).length=l.length:=by simp [nds]
structure Deps (S:Nat→Prop) (w0:World) (η:Heap) (x:NH):Prop where
  row:Row S w0 η x.a (x.nd.deps.flatMap dpC)
  cap:x.nd.deps.length≤x.c
  len:x.nd.deps.length<4294967296
structure NL (S:Nat→Prop) (w0:World) (η:Heap) (a:Option Addr) (l:List NH):Prop where
  row:Row S w0 η a (l.flatMap nhC)
  item:∀ x∈l,Deps S w0 η x
theorem NL.map {S':Nat→Prop} {w1:World} {η':Heap} (hm:∀ a cs,Row S w0 η a cs→Row S' w1 η' a cs) {a:Option Addr} {l:List NH} (h:NL S w0 η a l):NL S' w1 η' a l:=⟨hm _ _ h.row,fun x hx=>⟨hm _ _ (h.item x hx).row,(h.item x hx).cap,(h.item x hx).len⟩⟩
theorem NL.up {η':Heap} {a:Option Addr} {l:List NH} (h:NL S w0 η a l) (hs:∀ s∈η,s∈η'):NL S w0 η' a l:=h.map fun _ _ hr=>hr.up hs
theorem NL.ro {η':Heap} {a:Option Addr} {l:List NH} (h:NL S w0 [] a l):NL S w0 η' a l:=h.up (by simp)
theorem NL.frz {S':Nat→Prop} {w1:World} {ηr:Heap} {a:Option Addr} {l:List NH} (h:NL S w0 ηr a l) (hz:Frz S S' w0 w1 ηr):NL S' w1 [] a l:=h.map fun _ _ hr=>hr.frz hz
theorem NL.old {S':Nat→Prop} {w1:World} {ηr:Heap} {a:Option Addr} {l:List NH} (h:NL S w0 [] a l) (hz:Frz S S' w0 w1 ηr):NL S' w1 [] a l:=h.map fun _ _ hr=>hr.old hz
theorem NL.none:NL S w0 η none []:=⟨Row.none,fun p hp=>by simp at hp⟩
theorem NL.atA {a:Option Addr} {l:List NH} (h:NL S w0 η a l) {i:Nat} (hi:i<l.length):∀ j v,(nhC l[i])[j]?=some v→At S w0 η ⟨(sAt a (i*4)).block,(sAt a (i*4)).off+j,Option.none⟩ v:=h.row.tabA nhC_len hi
theorem NL.ad {a:Option Addr} {l:List NH} (h:NL S w0 η a l) {i:Nat} (hi:i<l.length):∃ ad,a=some ad∧ad.spot=Option.none:=h.row.tad nhC_len (by decide) hi
theorem NL.it {a:Option Addr} {l:List NH} (h:NL S w0 η a l) {i:Nat} (hi:i<l.length):Deps S w0 η l[i]:=h.item _ (List.getElem_mem hi)
/-- A row of keys. -/
abbrev KRow (S:Nat→Prop) (w0:World) (η:Heap) (a:Option Addr) (l:List Key):Prop:=Row S w0 η a (l.flatMap kC)
/-! Lists of lists of numbers -/
/-- A header: where the numbers lie, the numbers, and the room. -/
abbrev HL:=Option Addr × List Int × Nat
def hc (p:HL):Value:=.slice p.1 p.2.1.length p.2.2
def tx (ps:List HL):List (List Int):=ps.map (·.2.1)
structure LL (S:Nat→Prop) (w0:World) (η:Heap) (a:Option Addr) (ps:List HL):Prop where
  row:Row S w0 η a (ps.map hc)
  item:∀ p∈ps,Row S w0 η p.1 (ints p.2.1)
theorem LL.at {a:Option Addr} {ps:List HL} (h:LL S w0 η a ps) {i:Nat} (hi:i<ps.length):At S w0 η (sAt a (i*1)) (hc ps[i]):=by
  rw [Nat.mul_one]; exact h.row.cell i _ (by simp [hi])
theorem LL.ad {a:Option Addr} {ps:List HL} (h:LL S w0 η a ps) {i:Nat} (hi:i<ps.length):∃ ad,a=some ad∧ad.spot=none:=h.row.adi (i:=i) (by simpa using hi)
theorem LL.it {a:Option Addr} {ps:List HL} (h:LL S w0 η a ps) {i:Nat} (hi:i<ps.length):Row S w0 η ps[i].1 (ints ps[i].2.1):=h.item _ (List.getElem_mem hi)
theorem LL.up {η':Heap} {a:Option Addr} {ps:List HL} (h:LL S w0 η a ps) (hs:∀ x∈η,x∈η'):LL S w0 η' a ps:=⟨h.row.up hs,fun p hp=>(h.item p hp).up hs⟩
end Go.Proofs.YtdiacobmhkmljaaDoor
/- Expressions: what is formed, piece by piece. -/
namespace Go.Proofs.YtdiacobmhkmljaaDoor
open Go.Sl
abbrev teV (x:TE):Value:=.agg #[.int .i64 x.op,.int .i64 x.n,.slice x.a x.l.length x.c]
theorem right_iff {funs:Int} {e:TE}:rightE funs e.ex=true↔(e.l.length:Int)=partsS e.op∧okN funs e.op e.n=true∧∀ x∈e.l,rightE funs x.ex=true:=by
  have key:∀ l:List TE,rightsE funs (l.map TE.ex)=true↔∀ x∈l,rightE funs x.ex=true:=fun l=>by
    induction l with
    | nil=>simp [rightsE]
    | cons x r ih=>simp [rightsE,ih]
  rw [ex_eq,rightE]
  simp only [Bool.and_eq_true,decide_eq_true_eq,List.length_map,key,and_assoc]
theorem deps_iff {l:List TE} {d:Nat}:depsE (l.map TE.ex)≤d↔∀ x∈l,depE x.ex≤d:=by
  induction l with
  | nil=>simp [depsE]
  | cons x r ih=>simp only [List.map_cons,depsE,List.mem_cons,forall_eq_or_imp,← ih]; omega
theorem dep_iff {e:TE} {d:Nat}:depE e.ex≤d+1↔∀ x∈e.l,depE x.ex≤d:=by
  rw [ex_eq,depE,← deps_iff]; omega
theorem dep_pos (e:Ex):1≤depE e:=by cases e; rw [depE]; omega
theorem size_pos (e:Ex):1≤sizeE e:=by cases e; rw [sizeE]; omega
def szs (l:List TE):Nat:=sizesE (l.map TE.ex)
theorem szs_app (l m:List TE):szs (l++m)=szs l+szs m:=by
  unfold szs
  induction l with
  | nil=>simp [sizesE]
  | cons x r ih=>simp only [List.cons_append,List.map_cons,sizesE,ih]; omega
theorem szs_take {l:List TE} {k:Nat} (h:k<l.length):szs (l.take (k+1))=szs (l.take k)+sizeE l[k].ex:=by
  rw [List.take_succ_eq_append_getElem h,szs_app]; simp [szs,sizesE]
theorem szs_le (l:List TE) (k:Nat):szs (l.take k)≤szs l:=by
  have:=szs_app (l.take k) (l.drop k)
  rw [List.take_append_drop] at this; omega
theorem size_eq (e:TE):sizeE e.ex=1+szs e.l:=by rw [ex_eq,sizeE]; rfl
theorem size_get {e:TE} {k:Nat} (h:k<e.l.length):sizeE e.l[k].ex<sizeE e.ex:=by
  rw [size_eq e]
  have:=szs_take h
  have:=szs_le e.l (k+1)
  omega
/-- What a look at an expression says, and how many nodes are left. -/
def FR (e:TE) (left deep funs:Int) (b:Bool) (l':Int):Prop :=
  -1≤l'∧l'≤left∧(b=true↔((sizeE e.ex:Int)≤left∧deep+depE e.ex≤21∧rightE funs e.ex=true))∧(b=true→l'=left - sizeE e.ex)
theorem FR.no {e:TE} {left deep funs l':Int} (h1 : -1≤l') (h2:l'≤left) (h:¬ ((sizeE e.ex:Int)≤left∧deep+depE e.ex≤21∧rightE funs e.ex=true)):FR e left deep funs false l' :=
  ⟨h1,h2,⟨fun q=>(by cases q),fun q=>absurd q h⟩,fun q=>(by cases q)⟩
theorem FR.op {e:TE} {left deep funs l':Int} (h1 : -1≤l') (h2:l'≤left) (h:(e.l.length:Int)≠partsS e.op):FR e left deep funs false l':=.no h1 h2 fun q=>h (right_iff.1 q.2.2).1
theorem FR.n {e:TE} {left deep funs l':Int} (h1 : -1≤l') (h2:l'≤left) (h:okN funs e.op e.n=false):FR e left deep funs false l':=.no h1 h2 fun q=>by have:=(right_iff.1 q.2.2).2.1; rw [h] at this; cases this
theorem parts_out {op:Int} (h:op<0∨7≤op):partsS op = -1:=by unfold partsS; rw [if_neg (by omega),if_neg (by omega),if_neg (by omega),if_neg (by omega)]
/-- What holds ahead of a part. -/
def FL (l:List TE) (left deep funs:Int) (k:Nat) (lv:Int):Prop:=0≤lv∧lv=left - 1 - szs (l.take k)∧∀ x∈l.take k,deep+1+depE x.ex≤21∧rightE funs x.ex=true
theorem FL.start {l:List TE} {left deep funs:Int} (h:0≤left - 1):FL l left deep funs 0 (left - 1):=⟨h,by simp [szs,sizesE],by simp⟩
theorem FL.step {l:List TE} {left deep funs lv l':Int} {k:Nat} (hk:k<l.length) (h:FL l left deep funs k lv) (hr:FR l[k] lv (deep+1) funs true l'):FL l left deep funs (k+1) l':=by
  obtain ⟨h1,h2,h3⟩:=h
  obtain ⟨r1,r2,r3,r4⟩:=hr
  have r5:=r3.1 rfl
  have r6:=r4 rfl
  refine ⟨by omega,by rw [szs_take hk]; omega,fun x hx=>?_⟩
  rw [List.take_succ_eq_append_getElem hk] at hx
  rcases List.mem_append.1 hx with hx | hx
  · exact h3 x hx
  · rw [List.mem_singleton.1 hx]; exact ⟨r5.2.1,r5.2.2⟩
theorem FL.no {e:TE} {left deep funs lv l':Int} {k:Nat} (hk:k<e.l.length) (h:FL e.l left deep funs k lv) (hr:FR e.l[k] lv (deep+1) funs false l'):FR e left deep funs false l':=by
  obtain ⟨h1,h2,h3⟩:=h
  obtain ⟨r1,r2,r3,r4⟩:=hr
  refine .no r1 (by omega) fun q=>?_
  have:(false:Bool)=true:=r3.2 ⟨?_,?_,?_⟩
  · cases this
  · have:=q.1
    rw [size_eq] at this
    have:=szs_take hk
    have:=szs_le e.l (k+1)
    omega
  · have hd:=q.2.1
    obtain ⟨d,hd2⟩:∃ d,depE e.ex=d+1:=⟨depE e.ex - 1,by have:=dep_pos e.ex; omega⟩
    have:=dep_iff.1 (Nat.le_of_eq hd2) e.l[k] (List.getElem_mem hk)
    omega
  · exact (right_iff.1 q.2.2).2.2 _ (List.getElem_mem hk)
theorem FL.done {e:TE} {left deep funs lv:Int} {k:Nat} (hk:e.l.length≤k) (h:FL e.l left deep funs k lv) (hd:deep≤20) (hp:(e.l.length:Int)=partsS e.op) (hn:okN funs e.op e.n=true):FR e left deep funs true lv:=by
  obtain ⟨h1,h2,h3⟩:=h
  rw [List.take_of_length_le hk] at h2 h3
  have e1:=size_eq e
  refine ⟨by omega,by omega,⟨fun _=>⟨by omega,?_,right_iff.2 ⟨hp,hn,fun x hx=>(h3 x hx).2⟩⟩,fun _=>rfl⟩,fun _=>by omega⟩
  have:depE e.ex≤(20 - deep).toNat+1:=dep_iff.2 fun x hx=>by have:=(h3 x hx).1; omega
  omega
theorem five (a b c d:Prop):a∨(¬ a∧b)∨(¬ a∧¬ b∧c)∨(¬ a∧¬ b∧¬ c∧d)∨(¬ a∧¬ b∧¬ c∧¬ d):=by
  by_cases ha:a
  · exact .inl ha
  · by_cases hb:b
    · exact .inr (.inl ⟨ha,hb⟩)
    · by_cases hc:c
      · exact .inr (.inr (.inl ⟨ha,hb,hc⟩))
      · by_cases hd:d
        · exact .inr (.inr (.inr (.inl ⟨ha,hb,hc,hd⟩)))
        · exact .inr (.inr (.inr (.inr ⟨ha,hb,hc,hd⟩)))
end Go.Proofs.YtdiacobmhkmljaaDoor
/- The library's sorts, laid at this program (printed by a tool of the kit). -/
namespace Go.Proofs
open Go.Shelf
def Tryd.sortK_ren:Go.Shelf.Ren:=⟨fun | 6=>59 | 15=>70 | 14=>69 | 28=>81 | 29=>82 | 20=>73 | 21=>74 | 22=>75 | 23=>76 | 24=>77 | 25=>78 | 26=>79 | 27=>80 | 46=>91 | 47=>92 | 48=>93 | 49=>94 | 50=>95 | 57=>99 | n=>n,fun | 22=>46 | 24=>25 | 25=>95 | 3=>3 | 39=>144 | 0=>0 | 53=>159 | 55=>161 | 4=>4 | 46=>152 | 45=>151 | 50=>156 | 5=>5 | 9=>9 | 66=>167 | 70=>112 | 76=>174 | 77=>175 | n=>n,fun | n=>n⟩
theorem Tryd.sortK:Go.Proofs.SlLaysF0.n6 Tryd.prog Tryd.sortK_ren:={
  mixed:=by kernel_rfl
  f6:=⟨Tryd.f59.name,by decide,Tryd.func59.trans (congrArg some (by kernel_rfl))⟩
  f14:=⟨Tryd.f69.name,by decide,Tryd.func69.trans (congrArg some (by kernel_rfl))⟩
  f15:=Tryd.func70.trans (congrArg some (by kernel_rfl))
  f20:=⟨Tryd.f73.name,by decide,Tryd.func73.trans (congrArg some (by kernel_rfl))⟩
  f21:=⟨Tryd.f74.name,by decide,Tryd.func74.trans (congrArg some (by kernel_rfl))⟩
  f22:=⟨Tryd.f75.name,by decide,Tryd.func75.trans (congrArg some (by kernel_rfl))⟩
  f23:=⟨Tryd.f76.name,by decide,Tryd.func76.trans (congrArg some (by kernel_rfl))⟩
  f24:=⟨Tryd.f77.name,by decide,Tryd.func77.trans (congrArg some (by kernel_rfl))⟩
  f25:=⟨Tryd.f78.name,by decide,Tryd.func78.trans (congrArg some (by kernel_rfl))⟩
  f26:=⟨Tryd.f79.name,by decide,Tryd.func79.trans (congrArg some (by kernel_rfl))⟩
  f27:=⟨Tryd.f80.name,by decide,Tryd.func80.trans (congrArg some (by kernel_rfl))⟩
  f28:=Tryd.func81.trans (congrArg some (by kernel_rfl))
  f29:=Tryd.func82.trans (congrArg some (by kernel_rfl))
  f46:=⟨Tryd.f91.name,by decide,Tryd.func91.trans (congrArg some (by kernel_rfl))⟩
  f47:=Tryd.func92.trans (congrArg some (by kernel_rfl))
  f48:=Tryd.func93.trans (congrArg some (by kernel_rfl))
  f49:=⟨Tryd.f94.name,by decide,Tryd.func94.trans (congrArg some (by kernel_rfl))⟩
  f50:=⟨Tryd.f95.name,by decide,Tryd.func95.trans (congrArg some (by kernel_rfl))⟩
  f57:=⟨Tryd.f99.name,by decide,Tryd.func99.trans (congrArg some (by kernel_rfl))⟩
  t0:=Tryd.underlying0
  a0:=Tryd.isAgg0
  z0:=Tryd.sizeOf0
  v0:=Tryd.zeroValue0
  t3:=Tryd.underlying3
  a3:=Tryd.isAgg3
  z3:=Tryd.sizeOf3
  v3:=Tryd.zeroValue3
  t4:=Tryd.underlying4
  a4:=Tryd.isAgg4
  z4:=Tryd.sizeOf4
  v4:=Tryd.zeroValue4
  t5:=Tryd.underlying5
  a5:=Tryd.isAgg5
  z5:=Tryd.sizeOf5
  v5:=Tryd.zeroValue5
  t9:=Tryd.underlying9
  a9:=Tryd.isAgg9
  z9:=Tryd.sizeOf9
  v9:=Tryd.zeroValue9
  t22:=Tryd.underlying46
  a22:=Tryd.isAgg46
  z22:=Tryd.sizeOf46
  v22:=Tryd.zeroValue46
  t25:=Tryd.underlying95
  a25:=Tryd.isAgg95
  z25:=Tryd.sizeOf95
  v25:=Tryd.zeroValue95
  t39:=Tryd.underlying144
  a39:=Tryd.isAgg144
  z39:=Tryd.sizeOf144
  v39:=Tryd.zeroValue144
  t45:=Tryd.underlying151
  a45:=Tryd.isAgg151
  z45:=Tryd.sizeOf151
  v45:=Tryd.zeroValue151
  t46:=Tryd.underlying152
  a46:=Tryd.isAgg152
  z46:=Tryd.sizeOf152
  v46:=Tryd.zeroValue152
  t50:=Tryd.underlying156
  a50:=Tryd.isAgg156
  z50:=Tryd.sizeOf156
  v50:=Tryd.zeroValue156
  t53:=Tryd.underlying159
  a53:=Tryd.isAgg159
  z53:=Tryd.sizeOf159
  v53:=Tryd.zeroValue159
  t55:=Tryd.underlying161
  a55:=Tryd.isAgg161
  z55:=Tryd.sizeOf161
  v55:=Tryd.zeroValue161
  t66:=Tryd.underlying167
  a66:=Tryd.isAgg167
  z66:=Tryd.sizeOf167
  v66:=Tryd.zeroValue167
  t70:=Tryd.underlying112
  a70:=Tryd.isAgg112
  z70:=Tryd.sizeOf112
  v70:=Tryd.zeroValue112
  t76:=Tryd.underlying174
  a76:=Tryd.isAgg174
  z76:=Tryd.sizeOf174
  v76:=Tryd.zeroValue174
  t77:=Tryd.underlying175
  a77:=Tryd.isAgg175
  z77:=Tryd.sizeOf175
  v77:=Tryd.zeroValue175 }
def Tryd.sortI_ren:Go.Shelf.Ren:=⟨fun | 6=>61 | 15=>70 | 14=>71 | 28=>81 | 29=>82 | 20=>83 | 21=>84 | 22=>85 | 23=>86 | 24=>87 | 25=>88 | 26=>89 | 27=>90 | 46=>96 | 47=>92 | 48=>93 | 49=>97 | 50=>98 | 57=>100 | n=>n,fun | 22=>22 | 24=>3 | 25=>63 | 3=>3 | 39=>144 | 0=>0 | 53=>159 | 55=>161 | 4=>4 | 46=>152 | 45=>151 | 50=>156 | 5=>5 | 9=>9 | 66=>167 | 70=>112 | 76=>174 | 77=>175 | n=>n,fun | n=>n⟩
theorem Tryd.sortI:Go.Proofs.SlLaysF.n6 Tryd.prog Tryd.sortI_ren:={
  mixed:=by kernel_rfl
  f6:=⟨Tryd.f61.name,by decide,Tryd.func61.trans (congrArg some (by kernel_rfl))⟩
  f14:=⟨Tryd.f71.name,by decide,Tryd.func71.trans (congrArg some (by kernel_rfl))⟩
  f15:=Tryd.func70.trans (congrArg some (by kernel_rfl))
  f20:=⟨Tryd.f83.name,by decide,Tryd.func83.trans (congrArg some (by kernel_rfl))⟩
  f21:=⟨Tryd.f84.name,by decide,Tryd.func84.trans (congrArg some (by kernel_rfl))⟩
  f22:=⟨Tryd.f85.name,by decide,Tryd.func85.trans (congrArg some (by kernel_rfl))⟩
  f23:=⟨Tryd.f86.name,by decide,Tryd.func86.trans (congrArg some (by kernel_rfl))⟩
  f24:=⟨Tryd.f87.name,by decide,Tryd.func87.trans (congrArg some (by kernel_rfl))⟩
  f25:=⟨Tryd.f88.name,by decide,Tryd.func88.trans (congrArg some (by kernel_rfl))⟩
  f26:=⟨Tryd.f89.name,by decide,Tryd.func89.trans (congrArg some (by kernel_rfl))⟩
  f27:=⟨Tryd.f90.name,by decide,Tryd.func90.trans (congrArg some (by kernel_rfl))⟩
  f28:=Tryd.func81.trans (congrArg some (by kernel_rfl))
  f29:=Tryd.func82.trans (congrArg some (by kernel_rfl))
  f46:=⟨Tryd.f96.name,by decide,Tryd.func96.trans (congrArg some (by kernel_rfl))⟩
  f47:=Tryd.func92.trans (congrArg some (by kernel_rfl))
  f48:=Tryd.func93.trans (congrArg some (by kernel_rfl))
  f49:=⟨Tryd.f97.name,by decide,Tryd.func97.trans (congrArg some (by kernel_rfl))⟩
  f50:=⟨Tryd.f98.name,by decide,Tryd.func98.trans (congrArg some (by kernel_rfl))⟩
  f57:=⟨Tryd.f100.name,by decide,Tryd.func100.trans (congrArg some (by kernel_rfl))⟩
  t0:=Tryd.underlying0
  a0:=Tryd.isAgg0
  z0:=Tryd.sizeOf0
  v0:=Tryd.zeroValue0
  t3:=Tryd.underlying3
  a3:=Tryd.isAgg3
  z3:=Tryd.sizeOf3
  v3:=Tryd.zeroValue3
  t4:=Tryd.underlying4
  a4:=Tryd.isAgg4
  z4:=Tryd.sizeOf4
  v4:=Tryd.zeroValue4
  t5:=Tryd.underlying5
  a5:=Tryd.isAgg5
  z5:=Tryd.sizeOf5
  v5:=Tryd.zeroValue5
  t9:=Tryd.underlying9
  a9:=Tryd.isAgg9
  z9:=Tryd.sizeOf9
  v9:=Tryd.zeroValue9
  t22:=Tryd.underlying22
  a22:=Tryd.isAgg22
  z22:=Tryd.sizeOf22
  v22:=Tryd.zeroValue22
  a24:=Tryd.isAgg3
  z24:=Tryd.sizeOf3
  t25:=Tryd.underlying63
  a25:=Tryd.isAgg63
  z25:=Tryd.sizeOf63
  v25:=Tryd.zeroValue63
  t39:=Tryd.underlying144
  a39:=Tryd.isAgg144
  z39:=Tryd.sizeOf144
  v39:=Tryd.zeroValue144
  t45:=Tryd.underlying151
  a45:=Tryd.isAgg151
  z45:=Tryd.sizeOf151
  v45:=Tryd.zeroValue151
  t46:=Tryd.underlying152
  a46:=Tryd.isAgg152
  z46:=Tryd.sizeOf152
  v46:=Tryd.zeroValue152
  t50:=Tryd.underlying156
  a50:=Tryd.isAgg156
  z50:=Tryd.sizeOf156
  v50:=Tryd.zeroValue156
  t53:=Tryd.underlying159
  a53:=Tryd.isAgg159
  z53:=Tryd.sizeOf159
  v53:=Tryd.zeroValue159
  t55:=Tryd.underlying161
  a55:=Tryd.isAgg161
  z55:=Tryd.sizeOf161
  v55:=Tryd.zeroValue161
  t66:=Tryd.underlying167
  a66:=Tryd.isAgg167
  z66:=Tryd.sizeOf167
  v66:=Tryd.zeroValue167
  t70:=Tryd.underlying112
  a70:=Tryd.isAgg112
  z70:=Tryd.sizeOf112
  v70:=Tryd.zeroValue112
  t76:=Tryd.underlying174
  a76:=Tryd.isAgg174
  z76:=Tryd.sizeOf174
  v76:=Tryd.zeroValue174
  t77:=Tryd.underlying175
  a77:=Tryd.isAgg175
  z77:=Tryd.sizeOf175
  v77:=Tryd.zeroValue175 }
end Go.Proofs
/- Leaves: numbers, words, lists of numbers. -/
namespace Go.Proofs.YtdiacobmhkmljaaDoor
open Go.Sl
variable {S:Nat→Prop} {w0:World} {η:Heap}
/-- A number from 0 to one less than another one. -/
def turnI (n m:Int):Int:=if m<1 then 0 else n % m
set_option maxHeartbeats 2000000 in
theorem Equal_fn {a b : Option Addr} {xs ys : List Int} {ca cb : Nat} (hx : Row S w0 η a (ints xs)) (hy : Row S w0 η b (ints ys)) (hl : xs.length < 2 ^ 63) :
  Rt Tryd.prog 45 [.slice a xs.length ca,.slice b ys.length cb].toArray S w0 η (fun v η'=>v = .bool (decide (xs=ys))∧η'=η):=by
 have hF:=open_wide
 refine Rt.of (fn:=Tryd.f45) Tryd.func45 rfl rfl ?_
 refine T.seq ?_
 refine T.region ?_
 refine TL.assign hF rfl rfl ?_
 refine TL.nil ?_
 refine TQ.then_n ?_
 refine T.seq ?_
 refine T.region ?_
 refine TL.move hF rfl rfl ?_
 refine TL.len hF rfl rfl ?_
 refine TL.move hF rfl rfl ?_
 refine TL.len hF rfl rfl ?_
 refine TL.bin hF rfl rfl rfl rfl ?_
 refine TL.assign hF rfl rfl ?_
 refine TL.nil ?_
 refine TQ.then_n ?_
 refine T.seq ?_
 refine T.seq ?_
 refine T.region ?_
 refine TL.assign hF rfl rfl ?_
 refine TL.nil ?_
 refine TQ.then_n ?_
 refine T.block ?_
 refine T.loop (ι:=Nat × Bool) (fun i=>i.1≤xs.length∧(i.2=true→xs.length=ys.length∧xs.take i.1=ys.take i.1)∧(i.2=false→xs≠ys)) (fun i=>[(0,.slice a xs.length ca),(1,.slice b ys.length cb),(5,.bool i.2),(6,.int .i64 (i.1:Int))]) (fun _=>η) (fun i=>xs.length - i.1) (0,decide ((xs.length:Int)=ys.length)) ⟨Nat.zero_le _,fun h=>⟨by simpa [Int.ofNat_inj] using h,by simp⟩,fun h e=>by subst e; simp at h⟩ ⟨rfl,rfl,rfl,rfl,trivial⟩ rfl ?_
 rintro ⟨k,s⟩ ⟨hk,hs1,hs2⟩
 simp only at hk hs1 hs2
 refine T.seq ?_
 refine T.seq ?_
 refine T.region ?_
 refine TL.move hF rfl rfl ?_
 refine TL.move hF rfl rfl ?_
 refine TL.gb (t:=13) rfl (fun g3_13=>?_) (fun g3_13=>?_)
 ·refine TL.on rfl rfl rfl g3_13 ?_
  refine TL.move hF rfl rfl ?_
  refine TL.on rfl rfl rfl g3_13 ?_
  refine TL.move hF rfl rfl ?_
  refine TL.on rfl rfl rfl g3_13 ?_
  refine TL.len hF rfl rfl ?_
  refine TL.on rfl rfl rfl g3_13 ?_
  refine TL.bin hF rfl rfl rfl rfl ?_
  refine TL.pickT hF rfl g3_13 rfl rfl ?_
  refine TL.nil ?_
  refine TQ.then_n ?_
  first | refine T.cond_d rfl (fun ht18=>?_) (fun ht18=>?_) | refine T.cond _ rfl (fun ht18=>?_) (fun ht18=>?_)
  ·refine T.skip ?_
   refine TQ.then_n ?_
   refine T.seq ?_
   refine T.block ?_
   refine T.draw ?_
   refine DR.stepV [_] rfl [(0,_,none)] rfl rfl ⟨⟨rfl,by kernel_rfl⟩,trivial⟩ (fun ext=>TL.move hF rfl rfl TL.fin) ?_
   refine DR.stepV [_,_] rfl [(6,_,none)] rfl rfl ⟨⟨rfl,by kernel_rfl⟩,trivial⟩ (fun ext=>TL.move hF rfl rfl TL.fin) ?_
   refine DR.stepV [_,_,_] rfl [(21,_,some 0),(22,_,some 1)] rfl rfl ⟨⟨rfl,rfl,rfl⟩,⟨rfl,rfl,rfl⟩,trivial⟩ (fun ext=>TL.indexAddr hF rfl rfl (hx.adi (i:=k) (by simp; omega)) (by omega) (by omega) rfl TL.fin) ?_
   refine DR.stepV [_,_,_,_] rfl [(23,_,some 2)] rfl rfl ⟨⟨rfl,rfl,rfl⟩,trivial⟩ (fun ext=>TL.load hF rfl (hx.int (i:=k) (by omega)) rfl TL.fin) ?_
   refine DR.stepV [_,_,_,_,_] rfl [(1,_,none)] rfl rfl ⟨⟨rfl,by kernel_rfl⟩,trivial⟩ (fun ext=>TL.move hF rfl rfl TL.fin) ?_
   refine DR.stepV [_,_,_,_,_,_] rfl [(6,_,none)] rfl rfl ⟨⟨rfl,by kernel_rfl⟩,trivial⟩ (fun ext=>TL.move hF rfl rfl TL.fin) ?_
   refine DR.stepV [_,_,_,_,_,_,_] rfl [(25,_,some 4),(26,_,some 5)] rfl rfl ⟨⟨rfl,rfl,rfl⟩,⟨rfl,rfl,rfl⟩,trivial⟩ (fun ext=>TL.indexAddr hF rfl rfl (hy.adi (i:=k) (by simp; have:=(hs1 g3_13).1; omega)) (by omega) (by have:=(hs1 g3_13).1; omega) rfl TL.fin) ?_
   refine DR.stepV [_,_,_,_,_,_,_,_] rfl [(27,_,some 6)] rfl rfl ⟨⟨rfl,rfl,rfl⟩,trivial⟩ (fun ext=>TL.load hF rfl (hy.int (i:=k) (by have:=(hs1 g3_13).1; omega)) rfl TL.fin) ?_
   refine DR.done [(28,_),(27,_),(26,_),(25,_),(24,_),(23,_),(22,_),(21,_)] [_,_] mixed (by kernel_rfl) (by kernel_rfl) (by kernel_rfl) rfl rfl ?_
   refine TL.bin hF rfl rfl rfl rfl ?_
   refine TL.assign hF rfl rfl ?_
   refine TL.nil ?_
   refine TQ.block_n ?_
   refine TQ.then_n ?_
   refine T.region ?_
   refine TL.move hF rfl rfl ?_
   refine TL.add hF rfl rfl (by omega) (by omega) rfl ?_
   refine TL.assign hF rfl rfl ?_
   refine TL.nil ?_
   refine TQ.round (k+1,decide (xs[k]'(by omega)=ys[k]'(by have:=(hs1 g3_13).1; omega))) ⟨by simp only; omega,fun h=>⟨(hs1 g3_13).1,take_succ_eq _ _ (hs1 g3_13).2 (of_decide_eq_true h)⟩,fun h=>ne_of_getElem _ _ (of_decide_eq_false h)⟩ (by simp only; omega) ⟨rfl,rfl,rfl,rfl,trivial⟩ rfl
  ·refine T.exit ?_
   refine TQ.then_x ?_
   refine TQ.then_x ?_
   refine TQ.block_x ?_
   refine TQ.then_n ?_
   refine T.seq ?_
   refine T.region ?_
   refine TL.move hF rfl rfl ?_
   refine TL.assign hF rfl rfl ?_
   refine TL.nil ?_
   refine TQ.then_n ?_
   refine T.ret ?_
   refine TQ.rets [4] _ rfl rfl rfl ?_
   subst g3_13
   have h1:=hs1 rfl
   have h2:xs=ys:=by have:=h1.2; rwa [List.take_of_length_le (by omega),List.take_of_length_le (by omega)] at this
   exact ⟨by simp [retVal,h2],rfl⟩
 ·refine TL.off hF rfl rfl rfl g3_13 rfl ?_
  refine TL.off hF rfl rfl rfl g3_13 rfl ?_
  refine TL.off hF rfl rfl rfl g3_13 rfl ?_
  refine TL.off hF rfl rfl rfl g3_13 rfl ?_
  refine TL.pickF hF rfl g3_13 rfl rfl ?_
  refine TL.nil ?_
  refine TQ.then_n ?_
  refine T.cond_f rfl rfl ?_
  refine T.exit ?_
  refine TQ.then_x ?_
  refine TQ.then_x ?_
  refine TQ.block_x ?_
  refine TQ.then_n ?_
  refine T.seq ?_
  refine T.region ?_
  refine TL.move hF rfl rfl ?_
  refine TL.assign hF rfl rfl ?_
  refine TL.nil ?_
  refine TQ.then_n ?_
  refine T.ret ?_
  refine TQ.rets [4] _ rfl rfl rfl ?_
  subst g3_13
  exact ⟨by simp [retVal,hs2 rfl],rfl⟩
set_option maxHeartbeats 2000000 in
theorem isWord_fn (n : Int) :
  Rt Tryd.prog 36 [.int .i64 n].toArray S w0 η (fun v η'=>v = .bool (isW n)∧η'=η):=by
 have hF:=open_wide
 refine Rt.of (fn:=Tryd.f36) Tryd.func36 rfl rfl ?_
 refine T.seq ?_
 refine T.region ?_
 refine TL.assign hF rfl rfl ?_
 refine TL.nil ?_
 refine TQ.then_n ?_
 refine T.seq ?_
 refine T.region ?_
 refine TL.move hF rfl rfl ?_
 refine TL.bin hF rfl rfl rfl rfl ?_
 refine TL.move hF rfl rfl ?_
 refine TL.gd (t:=5) rfl (fun g1_5=>?_) (fun g1_5=>?_)
 ·refine TL.on rfl rfl rfl (decide_eq_true g1_5) ?_
  refine TL.move hF rfl rfl ?_
  refine TL.on rfl rfl rfl (decide_eq_true g1_5) ?_
  refine TL.bin hF rfl rfl rfl rfl ?_
  refine TL.pickT hF rfl (decide_eq_true g1_5) rfl rfl ?_
  refine TL.assign hF rfl rfl ?_
  refine TL.nil ?_
  refine TQ.then_n ?_
  refine T.ret ?_
  refine TQ.rets [2] _ rfl rfl rfl ?_
  exact ⟨by simp only [retVal,isW, *]; simp,rfl⟩
 ·refine TL.off hF rfl rfl rfl (decide_eq_false g1_5) rfl ?_
  refine TL.off hF rfl rfl rfl (decide_eq_false g1_5) rfl ?_
  refine TL.pickF hF rfl (decide_eq_false g1_5) rfl rfl ?_
  refine TL.assign hF rfl rfl ?_
  refine TL.nil ?_
  refine TQ.then_n ?_
  refine T.ret ?_
  refine TQ.rets [2] _ rfl rfl rfl ?_
  exact ⟨by simp only [retVal,isW, *]; simp,rfl⟩
set_option maxHeartbeats 2000000 in
theorem Clone_fn {a : Option Addr} {cs : List Value} {n c : Nat} (hx : Row S w0 η a cs) (hn : cs.length = n) (h1 : ∀ u ∈ cs, u.oneCell' = true) (hl : n < 1099511627776) :
  Rt Tryd.prog 38 [.slice a n c].toArray S w0 η (fun v η'=>∃ a' cap seg,v = .slice a' n cap∧OSl 3 1 (.slice a' n cap) n cs seg∧η'=seg::η):=by
 have hF:=open_wide
 refine Rt.of (fn:=Tryd.f38) Tryd.func38 rfl rfl ?_
 refine T.seq ?_
 refine T.region ?_
 refine TL.assign hF rfl rfl ?_
 refine TL.nil ?_
 refine TQ.then_n ?_
 refine T.seq ?_
 refine T.seq ?_
 refine T.region ?_
 refine TL.move hF rfl rfl ?_
 refine TL.nilSl hF rfl rfl rfl ?_
 refine TL.nil ?_
 refine TQ.then_n ?_
 refine T.cond _ rfl (fun ht4=>?_) (fun ht4=>?_)
 ·refine T.seq ?_
  refine T.region ?_
  refine TL.assign hF rfl rfl ?_
  refine TL.nil ?_
  refine TQ.then_n ?_
  refine T.ret ?_
  refine TQ.then_r ?_
  have ha:a=none:=Option.isNone_iff_eq_none.1 ht4
  have hcs:cs=[]:=by
   cases cs with
   | nil=>rfl
   | cons x r=>obtain ⟨_,e,_⟩:=hx.ad (by simp); rw [ha] at e; cases e
  subst hcs
  subst hn
  refine TQ.hnil ?_
  refine TQ.rets [2] _ rfl rfl rfl ?_
  exact ⟨none,0,[],rfl,OSl.nil _ _,rfl⟩
 ·refine T.skip ?_
  refine TQ.then_n ?_
  refine T.seq ?_
  refine T.region ?_
  refine TL.buildSlice hF rfl (cs:=#[]) (e:=3) (fun w=>by kernel_rfl) rfl (fun b5=>?_)
  refine TL.move hF rfl rfl ?_
  refine TL.append hF 0 rfl rfl rfl osl_empty (hx.up upc).src rfl (by simp [hn,Value.cells]) h1 (by omega) (by omega) rfl (fun a' cap' seg' ho'=>?_)
  rw [Nat.zero_add,List.nil_append] at ho'
  rw [Nat.zero_add]
  refine TL.assign hF rfl rfl ?_
  refine TL.nil ?_
  refine TQ.then_n ?_
  refine T.ret ?_
  refine TQ.rets [2] _ rfl rfl rfl ?_
  exact ⟨_,_,_,rfl,ho',rfl⟩
/-- The number at a place of a list, round and round. -/
def nthI (l:List Int) (at':Int):Int:=if l.length=0 then 0 else l.getD (turnI at' l.length).toNat 0
end Go.Proofs.YtdiacobmhkmljaaDoor
/- What operations make of words, by the program; the tables of parts and of operations. -/
namespace Go.Proofs.YtdiacobmhkmljaaDoor
open Go.Sl
variable {S:Nat→Prop} {w0:World} {η:Heap}
theorem wrap_i32 {n:Int}:IntKind.i32.wrap n=wrap32 n:=by
 unfold wrap32
 simp only [IntKind.wrap,IntKind.bits,IntKind.signed]
 simp; omega
set_option maxHeartbeats 2000000 in
theorem wrap_fn {n : Int} :
  Rt Tryd.prog 65 [.int .i64 n].toArray S w0 η (fun v η'=>v = .int .i64 (wrap32 n)∧η'=η):=by
 have hF:=open_wide
 refine Rt.of (fn:=Tryd.f65) Tryd.func65 rfl rfl ?_
 refine T.seq ?_
 refine T.region ?_
 refine TL.assign hF rfl rfl ?_
 refine TL.nil ?_
 refine TQ.then_n ?_
 refine T.seq ?_
 refine T.region ?_
 refine TL.move hF rfl rfl ?_
 refine TL.convK hF (r:=wrap32 n) rfl wrap_i32 rfl ?_
 have hw:=wd_wrap n
 unfold Wd at hw
 refine TL.convK hF (r:=wrap32 n) rfl (wrap_i64 (by omega) (by omega)) rfl ?_
 refine TL.assign hF rfl rfl ?_
 refine TL.nil ?_
 refine TQ.then_n ?_
 refine T.ret ?_
 refine TQ.rets [2] _ rfl rfl rfl ?_
 exact ⟨rfl,rfl⟩
set_option maxHeartbeats 2000000 in
theorem w_add {a b : Int} (ha : Wd a) (hb : Wd b) :
  Rt Tryd.prog 116 [.int .i64 a,.int .i64 b].toArray S w0 η (fun v η'=>v = .int .i64 (a+b)∧η'=η):=by
 unfold Wd at ha hb
 have hF:=open_wide
 refine Rt.of (fn:=Tryd.f116) Tryd.func116 rfl rfl ?_
 refine T.seq ?_
 refine T.region ?_
 refine TL.assign hF rfl rfl ?_
 refine TL.nil ?_
 refine TQ.then_n ?_
 refine T.seq ?_
 refine T.region ?_
 refine TL.move hF rfl rfl ?_
 refine TL.move hF rfl rfl ?_
 refine TL.add hF rfl rfl (by omega) (by omega) rfl ?_
 refine TL.assign hF rfl rfl ?_
 refine TL.nil ?_
 refine TQ.then_n ?_
 refine T.ret ?_
 refine TQ.rets [4] _ rfl rfl rfl ?_
 exact ⟨rfl,rfl⟩
set_option maxHeartbeats 2000000 in
theorem w_sub {a b : Int} (ha : Wd a) (hb : Wd b) :
  Rt Tryd.prog 120 [.int .i64 a,.int .i64 b].toArray S w0 η (fun v η'=>v = .int .i64 (a - b)∧η'=η):=by
 unfold Wd at ha hb
 have hF:=open_wide
 refine Rt.of (fn:=Tryd.f120) Tryd.func120 rfl rfl ?_
 refine T.seq ?_
 refine T.region ?_
 refine TL.assign hF rfl rfl ?_
 refine TL.nil ?_
 refine TQ.then_n ?_
 refine T.seq ?_
 refine T.region ?_
 refine TL.move hF rfl rfl ?_
 refine TL.move hF rfl rfl ?_
 refine TL.sub hF rfl rfl (by omega) (by omega) rfl ?_
 refine TL.assign hF rfl rfl ?_
 refine TL.nil ?_
 refine TQ.then_n ?_
 refine T.ret ?_
 refine TQ.rets [4] _ rfl rfl rfl ?_
 exact ⟨rfl,rfl⟩
theorem mul_bnd {a b:Int} (ha:Wd a) (hb:Wd b) : -4611686018427387904≤a*b∧a*b≤4611686018427387904:=by
 unfold Wd at ha hb
 have h:(a*b).natAbs≤2147483648*2147483648:=by
  rw [Int.natAbs_mul]
  exact Nat.mul_le_mul (by omega) (by omega)
 omega
set_option maxHeartbeats 2000000 in
theorem w_mul {a b : Int} (ha : Wd a) (hb : Wd b) :
  Rt Tryd.prog 121 [.int .i64 a,.int .i64 b].toArray S w0 η (fun v η'=>v = .int .i64 (a*b)∧η'=η):=by
 have hm:=mul_bnd ha hb
 have hF:=open_wide
 refine Rt.of (fn:=Tryd.f121) Tryd.func121 rfl rfl ?_
 refine T.seq ?_
 refine T.region ?_
 refine TL.assign hF rfl rfl ?_
 refine TL.nil ?_
 refine TQ.then_n ?_
 refine T.seq ?_
 refine T.region ?_
 refine TL.move hF rfl rfl ?_
 refine TL.move hF rfl rfl ?_
 refine TL.mul hF rfl rfl (by omega) (by omega) rfl ?_
 refine TL.assign hF rfl rfl ?_
 refine TL.nil ?_
 refine TQ.then_n ?_
 refine T.ret ?_
 refine TQ.rets [4] _ rfl rfl rfl ?_
 exact ⟨rfl,rfl⟩
set_option maxHeartbeats 2000000 in
theorem w_div {a b : Int} (ha : Wd a) (hb : Wd b) :
  Rt Tryd.prog 122 [.int .i64 a,.int .i64 b].toArray S w0 η (fun v η'=>v = .int .i64 (quoS a b)∧η'=η):=by
 have hq:=tdiv_abs a b
 have hm:=tdiv_mul_abs a b
 have _:=hb
 unfold Wd at ha
 have hF:=open_wide
 refine Rt.of (fn:=Tryd.f122) Tryd.func122 rfl rfl ?_
 refine T.seq ?_
 refine T.region ?_
 refine TL.assign hF rfl rfl ?_
 refine TL.nil ?_
 refine TQ.then_n ?_
 refine T.seq ?_
 refine T.seq ?_
 refine T.region ?_
 refine TL.move hF rfl rfl ?_
 refine TL.bin hF rfl rfl rfl rfl ?_
 refine TL.nil ?_
 refine TQ.then_n ?_
 refine T.cond_d rfl (fun ht7=>?_) (fun ht7=>?_)
 ·refine T.seq ?_
  refine T.region ?_
  refine TL.assign hF rfl rfl ?_
  refine TL.nil ?_
  refine TQ.then_n ?_
  refine T.ret ?_
  refine TQ.then_r ?_
  refine TQ.rets [4] _ rfl rfl rfl ?_
  exact ⟨by unfold quoS; rw [if_pos ht7]; rfl,rfl⟩
 ·refine T.skip ?_
  refine TQ.then_n ?_
  refine T.seq ?_
  refine T.region ?_
  refine TL.move hF rfl rfl ?_
  refine TL.move hF rfl rfl ?_
  refine TL.quoI hF rfl rfl ht7 (wrap_i64 (by omega) (by omega)) rfl ?_
  refine TL.assign hF rfl rfl ?_
  refine TL.nil ?_
  refine TQ.then_n ?_
  refine T.seq ?_
  refine T.seq ?_
  refine T.region ?_
  refine TL.move hF rfl rfl ?_
  refine TL.move hF rfl rfl ?_
  refine TL.mul hF rfl rfl (by omega) (by omega) rfl ?_
  refine TL.move hF rfl rfl ?_
  refine TL.bin hF rfl rfl rfl rfl ?_
  refine TL.move hF rfl rfl ?_
  refine TL.gb (t:=16) rfl (fun g4_16=>?_) (fun g4_16=>?_)
  ·refine TL.on rfl rfl rfl g4_16 ?_
   refine TL.move hF rfl rfl ?_
   refine TL.on rfl rfl rfl g4_16 ?_
   refine TL.bin hF rfl rfl rfl rfl ?_
   refine TL.on rfl rfl rfl g4_16 ?_
   refine TL.move hF rfl rfl ?_
   refine TL.on rfl rfl rfl g4_16 ?_
   refine TL.bin hF rfl rfl rfl rfl ?_
   refine TL.on rfl rfl rfl g4_16 ?_
   refine TL.neqB hF rfl rfl rfl ?_
   refine TL.pickT hF rfl g4_16 rfl rfl ?_
   refine TL.nil ?_
   refine TQ.then_n ?_
   refine T.cond _ rfl (fun ht22=>?_) (fun ht22=>?_)
   ·refine T.region ?_
    refine TL.move hF rfl rfl ?_
    refine TL.sub hF rfl rfl (by omega) (by omega) rfl ?_
    refine TL.assign hF rfl rfl ?_
    refine TL.nil ?_
    refine TQ.then_n ?_
    refine T.seq ?_
    refine T.region ?_
    refine TL.move hF rfl rfl ?_
    refine TL.assign hF rfl rfl ?_
    refine TL.nil ?_
    refine TQ.then_n ?_
    refine T.ret ?_
    refine TQ.rets [4] _ rfl rfl rfl ?_
    have h1:Int.tdiv a b*b≠a:=by simpa using g4_16
    have h2:(decide (a<0))≠(decide (b<0)):=by simpa using ht22
    have e:=quo_eq (a:=a) ht7
    rw [if_pos ⟨h1,h2⟩] at e
    exact ⟨by rw [← e]; rfl,rfl⟩
   ·refine T.skip ?_
    refine TQ.then_n ?_
    refine T.seq ?_
    refine T.region ?_
    refine TL.move hF rfl rfl ?_
    refine TL.assign hF rfl rfl ?_
    refine TL.nil ?_
    refine TQ.then_n ?_
    refine T.ret ?_
    refine TQ.rets [4] _ rfl rfl rfl ?_
    have h2:¬ ((decide (a<0))≠(decide (b<0))):=by simpa using ht22
    have e:=quo_eq (a:=a) ht7
    rw [if_neg (fun h=>h2 h.2)] at e
    exact ⟨by rw [← e]; rfl,rfl⟩
  ·refine TL.off hF rfl rfl rfl g4_16 rfl ?_
   refine TL.off hF rfl rfl rfl g4_16 rfl ?_
   refine TL.off hF rfl rfl rfl g4_16 rfl ?_
   refine TL.off hF rfl rfl rfl g4_16 rfl ?_
   refine TL.off hF rfl rfl rfl g4_16 rfl ?_
   refine TL.pickF hF rfl g4_16 rfl rfl ?_
   refine TL.nil ?_
   refine TQ.then_n ?_
   refine T.cond_f rfl rfl ?_
   refine T.skip ?_
   refine TQ.then_n ?_
   refine T.seq ?_
   refine T.region ?_
   refine TL.move hF rfl rfl ?_
   refine TL.assign hF rfl rfl ?_
   refine TL.nil ?_
   refine TQ.then_n ?_
   refine T.ret ?_
   refine TQ.rets [4] _ rfl rfl rfl ?_
   have h1:¬ (Int.tdiv a b*b≠a):=by simpa using g4_16
   have e:=quo_eq (a:=a) ht7
   rw [if_neg (fun h=>h1 h.1)] at e
   exact ⟨by rw [← e]; rfl,rfl⟩
set_option maxHeartbeats 2000000 in
theorem w_mod {a b : Int} (ha : Wd a) (hb : Wd b) :
  Rt Tryd.prog 123 [.int .i64 a,.int .i64 b].toArray S w0 η (fun v η'=>v = .int .i64 (if b=0 then 0 else a - b*quoS a b)∧η'=η):=by
 have hF:=open_wide
 refine Rt.of (fn:=Tryd.f123) Tryd.func123 rfl rfl ?_
 refine T.seq ?_
 refine T.region ?_
 refine TL.assign hF rfl rfl ?_
 refine TL.nil ?_
 refine TQ.then_n ?_
 refine T.seq ?_
 refine T.seq ?_
 refine T.region ?_
 refine TL.move hF rfl rfl ?_
 refine TL.bin hF rfl rfl rfl rfl ?_
 refine TL.nil ?_
 refine TQ.then_n ?_
 refine T.cond_d rfl (fun ht6=>?_) (fun ht6=>?_)
 ·refine T.seq ?_
  refine T.region ?_
  refine TL.assign hF rfl rfl ?_
  refine TL.nil ?_
  refine TQ.then_n ?_
  refine T.ret ?_
  refine TQ.then_r ?_
  refine TQ.rets [4] _ rfl rfl rfl ?_
  exact ⟨by rw [if_pos ht6]; rfl,rfl⟩
 ·refine T.skip ?_
  refine TQ.then_n ?_
  refine T.seq ?_
  refine T.region ?_
  refine TL.move hF rfl rfl ?_
  refine TL.move hF rfl rfl ?_
  refine TL.move hF rfl rfl ?_
  refine TL.move hF rfl rfl ?_
  refine TL.callV hF (w_div ha hb) rfl rfl ?_
  have hm:=quo_mul_abs ha hb ht6
  have ha2:=ha
  unfold Wd at ha2
  refine TL.mul hF rfl rfl (by omega) (by omega) rfl ?_
  refine TL.sub hF rfl rfl (by omega) (by omega) rfl ?_
  refine TL.assign hF rfl rfl ?_
  refine TL.nil ?_
  refine TQ.then_n ?_
  refine T.ret ?_
  refine TQ.rets [4] _ rfl rfl rfl ?_
  exact ⟨by rw [if_neg ht6]; rfl,rfl⟩
set_option maxHeartbeats 2000000 in
theorem w_min {a b : Int} (_ha : Wd a) (_hb : Wd b) :
  Rt Tryd.prog 124 [.int .i64 a,.int .i64 b].toArray S w0 η (fun v η'=>v = .int .i64 (min a b)∧η'=η):=by
 have hF:=open_wide
 refine Rt.of (fn:=Tryd.f124) Tryd.func124 rfl rfl ?_
 refine T.seq ?_
 refine T.region ?_
 refine TL.assign hF rfl rfl ?_
 refine TL.nil ?_
 refine TQ.then_n ?_
 refine T.seq ?_
 refine T.region ?_
 refine TL.move hF rfl rfl ?_
 refine TL.move hF rfl rfl ?_
 refine TL.min2 hF rfl rfl rfl ?_
 refine TL.assign hF rfl rfl ?_
 refine TL.nil ?_
 refine TQ.then_n ?_
 refine T.ret ?_
 refine TQ.rets [4] _ rfl rfl rfl ?_
 exact ⟨rfl,rfl⟩
set_option maxHeartbeats 2000000 in
theorem w_max {a b : Int} (_ha : Wd a) (_hb : Wd b) :
  Rt Tryd.prog 125 [.int .i64 a,.int .i64 b].toArray S w0 η (fun v η'=>v = .int .i64 (max a b)∧η'=η):=by
 have hF:=open_wide
 refine Rt.of (fn:=Tryd.f125) Tryd.func125 rfl rfl ?_
 refine T.seq ?_
 refine T.region ?_
 refine TL.assign hF rfl rfl ?_
 refine TL.nil ?_
 refine TQ.then_n ?_
 refine T.seq ?_
 refine T.region ?_
 refine TL.move hF rfl rfl ?_
 refine TL.move hF rfl rfl ?_
 refine TL.max2 hF rfl rfl rfl ?_
 refine TL.assign hF rfl rfl ?_
 refine TL.nil ?_
 refine TQ.then_n ?_
 refine T.ret ?_
 refine TQ.rets [4] _ rfl rfl rfl ?_
 exact ⟨rfl,rfl⟩
set_option maxHeartbeats 2000000 in
theorem w_and {a b : Int} (_ha : Wd a) (_hb : Wd b) :
  Rt Tryd.prog 126 [.int .i64 a,.int .i64 b].toArray S w0 η (fun v η'=>v = .int .i64 (andI a b)∧η'=η):=by
 have hF:=open_wide
 refine Rt.of (fn:=Tryd.f126) Tryd.func126 rfl rfl ?_
 refine T.seq ?_
 refine T.region ?_
 refine TL.assign hF rfl rfl ?_
 refine TL.nil ?_
 refine TQ.then_n ?_
 refine T.seq ?_
 refine T.region ?_
 refine TL.move hF rfl rfl ?_
 refine TL.move hF rfl rfl ?_
 refine TL.andZ hF rfl rfl rfl ?_
 refine TL.assign hF rfl rfl ?_
 refine TL.nil ?_
 refine TQ.then_n ?_
 refine T.ret ?_
 refine TQ.rets [4] _ rfl rfl rfl ?_
 exact ⟨rfl,rfl⟩
set_option maxHeartbeats 2000000 in
theorem w_or {a b : Int} (_ha : Wd a) (_hb : Wd b) :
  Rt Tryd.prog 127 [.int .i64 a,.int .i64 b].toArray S w0 η (fun v η'=>v = .int .i64 (orI a b)∧η'=η):=by
 have hF:=open_wide
 refine Rt.of (fn:=Tryd.f127) Tryd.func127 rfl rfl ?_
 refine T.seq ?_
 refine T.region ?_
 refine TL.assign hF rfl rfl ?_
 refine TL.nil ?_
 refine TQ.then_n ?_
 refine T.seq ?_
 refine T.region ?_
 refine TL.move hF rfl rfl ?_
 refine TL.move hF rfl rfl ?_
 refine TL.orZ hF rfl rfl rfl ?_
 refine TL.assign hF rfl rfl ?_
 refine TL.nil ?_
 refine TQ.then_n ?_
 refine T.ret ?_
 refine TQ.rets [4] _ rfl rfl rfl ?_
 exact ⟨rfl,rfl⟩
set_option maxHeartbeats 2000000 in
theorem w_xor {a b : Int} (_ha : Wd a) (_hb : Wd b) :
  Rt Tryd.prog 128 [.int .i64 a,.int .i64 b].toArray S w0 η (fun v η'=>v = .int .i64 (xorI a b)∧η'=η):=by
 have hF:=open_wide
 refine Rt.of (fn:=Tryd.f128) Tryd.func128 rfl rfl ?_
 refine T.seq ?_
 refine T.region ?_
 refine TL.assign hF rfl rfl ?_
 refine TL.nil ?_
 refine TQ.then_n ?_
 refine T.seq ?_
 refine T.region ?_
 refine TL.move hF rfl rfl ?_
 refine TL.move hF rfl rfl ?_
 refine TL.xorZ hF rfl rfl rfl ?_
 refine TL.assign hF rfl rfl ?_
 refine TL.nil ?_
 refine TQ.then_n ?_
 refine T.ret ?_
 refine TQ.rets [4] _ rfl rfl rfl ?_
 exact ⟨rfl,rfl⟩
/-- The table of operations. -/
def opF (n:Nat):Nat:=if n=0 then 116 else if n=1 then 120 else if n=2 then 121 else if n=3 then 122 else if n=4 then 123 else if n=5 then 124 else if n=6 then 125 else if n=7 then 126 else if n=8 then 127 else 128
abbrev opV (n:Nat):Value:=.func (.func (opF n)) #[] #[]
theorem ten {n:Nat} (h:n<10):n=0∨n=1∨n=2∨n=3∨n=4∨n=5∨n=6∨n=7∨n=8∨n=9:=by omega
theorem op_ent {n:Nat} (h:n<10):Ent Tryd.prog (opF n):=by
 rcases ten h with rfl | rfl | rfl | rfl | rfl | rfl | rfl | rfl | rfl | rfl
 ·exact inferInstanceAs (Ent Tryd.prog 116)
 ·exact inferInstanceAs (Ent Tryd.prog 120)
 ·exact inferInstanceAs (Ent Tryd.prog 121)
 ·exact inferInstanceAs (Ent Tryd.prog 122)
 ·exact inferInstanceAs (Ent Tryd.prog 123)
 ·exact inferInstanceAs (Ent Tryd.prog 124)
 ·exact inferInstanceAs (Ent Tryd.prog 125)
 ·exact inferInstanceAs (Ent Tryd.prog 126)
 ·exact inferInstanceAs (Ent Tryd.prog 127)
 ·exact inferInstanceAs (Ent Tryd.prog 128)
theorem op_fn {n:Nat} (h:n<10) {a b:Int} (ha:Wd a) (hb:Wd b):Rt Tryd.prog (opF n) [.int .i64 a,.int .i64 b].toArray S w0 η (fun v η'=>v = .int .i64 (opP (n:Int) a b)∧η'=η):=by
 rcases ten h with rfl | rfl | rfl | rfl | rfl | rfl | rfl | rfl | rfl | rfl
 ·exact w_add ha hb
 ·exact w_sub ha hb
 ·exact w_mul ha hb
 ·exact w_div ha hb
 ·exact w_mod ha hb
 ·exact w_min ha hb
 ·exact w_max ha hb
 ·exact w_and ha hb
 ·exact w_or ha hb
 ·exact w_xor ha hb
/-- What the program's start lays: how many parts operations have, and what they make of words. -/
structure Tabs (S:Nat→Prop) (w0:World):Prop where
 parts:∀ o:Nat,o<7→At S w0 [] ⟨0,o,none⟩ (.int .i64 (partsS o))
 words:∀ o:Nat,o<10→At S w0 [] ⟨1,o,none⟩ (opV o)
theorem Tabs.old {S':Nat→Prop} {w1:World} {ηr:Heap} (h:Tabs S w0) (hz:Frz S S' w0 w1 ηr):Tabs S' w1:=⟨fun o ho=>hz.old (h.parts o ho),fun o ho=>hz.old (h.words o ho)⟩
theorem Tabs.part (h:Tabs S w0) {op:Int} (h0:0≤op) (h1:op<7):At S w0 η ⟨0,0+op.toNat*1,none⟩ (.int .i64 (partsS op)):=by
 have:=(h.parts op.toNat (by omega)).up (η':=η) (by simp)
 rw [show ((op.toNat:Nat):Int)=op by omega] at this
 simpa using this
theorem Tabs.op (h:Tabs S w0) {n:Int} (h0:0≤n) (h1:n<10):At S w0 η ⟨1,0+n.toNat*1,none⟩ (opV n.toNat):=by
 have:=(h.words n.toNat (by omega)).up (η':=η) (by simp)
 simpa using this
end Go.Proofs.YtdiacobmhkmljaaDoor
/- What is formed, by the program; Check. -/
namespace Go.Proofs.YtdiacobmhkmljaaDoor
open Go.Sl
variable {S:Nat→Prop} {w0:World} {η:Heap}
theorem okN0 {funs op n:Int} (h:op=0):okN funs op n=isW n:=by subst h; simp [okN]
theorem okN3 {funs op n:Int} (h:op=3):okN funs op n=(decide (0≤n) && decide (n≤9)):=by subst h; simp [okN]
theorem okN6 {funs op n:Int} (h:op=6):okN funs op n=(decide (0≤n) && decide (n≤funs - 1)):=by subst h; simp [okN]
theorem okN_ {funs op n:Int} (h0:op≠0) (h3:op≠3) (h6:op≠6):okN funs op n=true:=by simp [okN,h0,h3,h6]
set_option maxHeartbeats 4000000 in
theorem formed_step {lb : Nat} {funs : Int} (hT : Tabs S w0) (m : Nat) (IH : ∀ x : TE, sizeE x.ex < m → Tr S w0 [] x → ∀ (left deep : Int) (η : Heap), 0 ≤ left → left ≤ 40 → 1 ≤ deep → deep ≤ 21 → Rt Tryd.prog 52 [teV x, .int .i64 funs, ptr lb, .int .i64 deep].toArray S w0 ([(lb, Obj.cells #[.int .i64 (left)] 3 (0, 0))] :: η) (fun v η' => ∃ (b : Bool) (l' : Int), v = .bool b ∧ η' = [(lb, Obj.cells #[.int .i64 (l')] 3 (0, 0))] :: η ∧ FR x left deep funs b l')) (e : TE) (hm : sizeE e.ex ≤ m) (he : Tr S w0 [] e) (left deep : Int) (η : Heap) (hl0 : 0 ≤ left) (hl1 : left ≤ 40) (hd0 : 1 ≤ deep) (hd1 : deep ≤ 21) :
  Rt Tryd.prog 52 [teV e,.int .i64 funs,ptr lb,.int .i64 deep].toArray S w0 ([(lb,Obj.cells #[.int .i64 (left)] 3 (0,0))]::η) (fun v η'=>∃ (b:Bool) (l':Int),v = .bool b∧η'=[(lb,Obj.cells #[.int .i64 (l')] 3 (0,0))]::η∧FR e left deep funs b l'):=by
 have hlen:=he.len
 have hF:=open_wide
 refine Rt.of (fn:=Tryd.f52) Tryd.func52 rfl rfl ?_
 refine T.seq ?_
 refine T.region ?_
 refine TL.box hF rfl rfl (fun b4=>?_)
 refine TL.assign hF rfl rfl ?_
 refine TL.nil ?_
 refine TQ.then_n ?_
 refine T.seq ?_
 refine T.seq ?_
 refine T.region ?_
 refine TL.move hF rfl rfl ?_
 refine TL.nilCheck hF rfl rfl ?_
 refine TL.load hF rfl (own_mem (cs:=#[.int .i64 left]) (e:=3) (fz:=(0,0)) (by simp) rfl) rfl ?_
 refine TL.sub hF rfl rfl (by omega) (by omega) rfl ?_
 refine TL.nilCheck hF rfl rfl ?_
 refine TL.storeI hF 1 rfl rfl rfl rfl (by simp) ?_
 refine TL.nil ?_
 refine TQ.then_n ?_
 refine T.seq ?_
 rcases five (left - 1<0) (deep>20) (e.op<0) (7≤e.op) with h1 | ⟨h1,h2⟩ | ⟨h1,h2,h3⟩ | ⟨h1,h2,h3,h4⟩ | ⟨h1,h2,h3,h4⟩
 ·refine T.draw ?_
  refine DR.stepV [_] rfl [(2,_,none)] rfl rfl ⟨⟨rfl,by kernel_rfl⟩,trivial⟩ (fun ext=>TL.move hF rfl rfl TL.fin) ?_
  refine DR.stepV [_,_] rfl [(16,_,some 0)] rfl rfl ⟨⟨rfl,rfl,rfl⟩,trivial⟩ (fun ext=>TL.nilCheck hF rfl rfl TL.fin) ?_
  refine DR.stepV [_,_,_] rfl [(17,_,some 1)] rfl rfl ⟨⟨rfl,rfl,rfl⟩,trivial⟩ (fun ext=>TL.load hF rfl (own_mem (cs:=#[.int .i64 (left - 1)]) (e:=3) (fz:=(0,0)) (by simp) rfl) rfl TL.fin) ?_
  refine DR.stepV [_,_,_,_] rfl [(18,_,some 2)] rfl rfl ⟨⟨rfl,rfl,rfl⟩,trivial⟩ (fun ext=>TL.bin hF rfl rfl rfl rfl TL.fin) ?_
  refine DR.stepV [_,_,_,_,_] rfl [(19,_,some 3)] rfl rfl ⟨⟨rfl,rfl,rfl⟩,trivial⟩ (fun ext=>TL.move hF rfl rfl TL.fin) ?_
  refine DR.stepV [_,_,_,_,_,_] rfl [(3,_,none),(20,_,some 4)] rfl rfl ⟨⟨rfl,by kernel_rfl⟩,⟨rfl,rfl,rfl⟩,trivial⟩ (fun ext=>TL.off hF rfl rfl rfl (decide_eq_true h1) rfl TL.fin) ?_
  refine DR.stepV [_,_,_,_,_,_,_] rfl [(21,_,some 5),(20,_,some 4)] rfl rfl ⟨⟨rfl,rfl,rfl⟩,⟨rfl,rfl,rfl⟩,trivial⟩ (fun ext=>TL.off hF rfl rfl rfl (decide_eq_true h1) rfl TL.fin) ?_
  refine DR.stepV [_,_,_,_,_,_,_,_] rfl [(20,_,some 4),(22,_,some 6)] rfl rfl ⟨⟨rfl,rfl,rfl⟩,⟨rfl,rfl,rfl⟩,trivial⟩ (fun ext=>TL.pickT hF rfl (decide_eq_true h1) rfl rfl TL.fin) ?_
  refine DR.stepV [_,_,_,_,_,_,_,_,_] rfl [(23,_,some 7)] rfl rfl ⟨⟨rfl,rfl,rfl⟩,trivial⟩ (fun ext=>TL.move hF rfl rfl TL.fin) ?_
  refine DR.stepV [_,_,_,_,_,_,_,_,_,_] rfl [(4,_,none),(24,_,some 8)] rfl rfl ⟨⟨rfl,by kernel_rfl⟩,⟨rfl,rfl,rfl⟩,trivial⟩ (fun ext=>TL.off hF rfl rfl rfl rfl rfl TL.fin) ?_
  refine DR.stepV [_,_,_,_,_,_,_,_,_,_,_] rfl [(25,_,some 9),(24,_,some 8)] rfl rfl ⟨⟨rfl,rfl,rfl⟩,⟨rfl,rfl,rfl⟩,trivial⟩ (fun ext=>TL.off hF rfl rfl rfl rfl rfl TL.fin) ?_
  refine DR.stepV [_,_,_,_,_,_,_,_,_,_,_,_] rfl [(26,_,some 10),(24,_,some 8)] rfl rfl ⟨⟨rfl,rfl,rfl⟩,⟨rfl,rfl,rfl⟩,trivial⟩ (fun ext=>TL.off hF rfl rfl rfl rfl rfl TL.fin) ?_
  refine DR.stepV [_,_,_,_,_,_,_,_,_,_,_,_,_] rfl [(24,_,some 8),(27,_,some 11)] rfl rfl ⟨⟨rfl,rfl,rfl⟩,⟨rfl,rfl,rfl⟩,trivial⟩ (fun ext=>TL.pickT hF rfl rfl rfl rfl TL.fin) ?_
  refine DR.stepV [_,_,_,_,_,_,_,_,_,_,_,_,_,_] rfl [(28,_,some 12)] rfl rfl ⟨⟨rfl,rfl,rfl⟩,trivial⟩ (fun ext=>TL.move hF rfl rfl TL.fin) ?_
  refine DR.stepV [_,_,_,_,_,_,_,_,_,_,_,_,_,_,_] rfl [(4,_,none),(29,_,some 13)] rfl rfl ⟨⟨rfl,by kernel_rfl⟩,⟨rfl,rfl,rfl⟩,trivial⟩ (fun ext=>TL.off hF rfl rfl rfl rfl rfl TL.fin) ?_
  refine DR.stepV [_,_,_,_,_,_,_,_,_,_,_,_,_,_,_,_] rfl [(30,_,some 14),(29,_,some 13)] rfl rfl ⟨⟨rfl,rfl,rfl⟩,⟨rfl,rfl,rfl⟩,trivial⟩ (fun ext=>TL.off hF rfl rfl rfl rfl rfl TL.fin) ?_
  refine DR.stepV [_,_,_,_,_,_,_,_,_,_,_,_,_,_,_,_,_] rfl [(31,_,some 15),(29,_,some 13)] rfl rfl ⟨⟨rfl,rfl,rfl⟩,⟨rfl,rfl,rfl⟩,trivial⟩ (fun ext=>TL.off hF rfl rfl rfl rfl rfl TL.fin) ?_
  refine DR.stepV [_,_,_,_,_,_,_,_,_,_,_,_,_,_,_,_,_,_] rfl [(29,_,some 13),(32,_,some 16)] rfl rfl ⟨⟨rfl,rfl,rfl⟩,⟨rfl,rfl,rfl⟩,trivial⟩ (fun ext=>TL.pickT hF rfl rfl rfl rfl TL.fin) ?_
  refine DR.stepV [_,_,_,_,_,_,_,_,_,_,_,_,_,_,_,_,_,_,_] rfl [(33,_,some 17)] rfl rfl ⟨⟨rfl,rfl,rfl⟩,trivial⟩ (fun ext=>TL.move hF rfl rfl TL.fin) ?_
  refine DR.stepV [_,_,_,_,_,_,_,_,_,_,_,_,_,_,_,_,_,_,_,_] rfl [(4,_,none),(34,_,some 18)] rfl rfl ⟨⟨rfl,by kernel_rfl⟩,⟨rfl,rfl,rfl⟩,trivial⟩ (fun ext=>TL.off hF rfl rfl rfl rfl rfl TL.fin) ?_
  refine DR.stepV [_,_,_,_,_,_,_,_,_,_,_,_,_,_,_,_,_,_,_,_,_] rfl [(35,_,some 19),(34,_,some 18)] rfl rfl ⟨⟨rfl,rfl,rfl⟩,⟨rfl,rfl,rfl⟩,trivial⟩ (fun ext=>TL.off hF rfl rfl rfl rfl rfl TL.fin) ?_
  refine DR.stepV [_,_,_,_,_,_,_,_,_,_,_,_,_,_,_,_,_,_,_,_,_,_] rfl [(36,_,some 20),(34,_,some 18)] rfl rfl ⟨⟨rfl,rfl,rfl⟩,⟨rfl,rfl,rfl⟩,trivial⟩ (fun ext=>TL.off hF rfl rfl rfl rfl rfl TL.fin) ?_
  refine DR.stepV [_,_,_,_,_,_,_,_,_,_,_,_,_,_,_,_,_,_,_,_,_,_,_] rfl [(4,_,none),(34,_,some 18)] rfl rfl ⟨⟨rfl,by kernel_rfl⟩,⟨rfl,rfl,rfl⟩,trivial⟩ (fun ext=>TL.off hF rfl rfl rfl rfl rfl TL.fin) ?_
  refine DR.stepV [_,_,_,_,_,_,_,_,_,_,_,_,_,_,_,_,_,_,_,_,_,_,_,_] rfl [(38,_,some 22),(34,_,some 18)] rfl rfl ⟨⟨rfl,rfl,rfl⟩,⟨rfl,rfl,rfl⟩,trivial⟩ (fun ext=>TL.off hF rfl rfl rfl rfl rfl TL.fin) ?_
  refine DR.stepV [_,_,_,_,_,_,_,_,_,_,_,_,_,_,_,_,_,_,_,_,_,_,_,_,_] rfl [(39,_,some 23),(34,_,some 18)] rfl rfl ⟨⟨rfl,rfl,rfl⟩,⟨rfl,rfl,rfl⟩,trivial⟩ (fun ext=>TL.off hF rfl rfl rfl rfl rfl TL.fin) ?_
  refine DR.stepV [_,_,_,_,_,_,_,_,_,_,_,_,_,_,_,_,_,_,_,_,_,_,_,_,_,_] rfl [(40,_,some 24),(34,_,some 18)] rfl rfl ⟨⟨rfl,rfl,rfl⟩,⟨rfl,rfl,rfl⟩,trivial⟩ (fun ext=>TL.off hF rfl rfl rfl rfl rfl TL.fin) ?_
  refine DR.done [(41,_),(40,_),(39,_),(38,_),(37,_),(36,_),(35,_),(34,_),(33,_),(32,_),(31,_),(30,_),(29,_),(28,_),(27,_),(26,_),(25,_),(24,_),(23,_),(22,_),(21,_),(20,_),(19,_),(18,_),(17,_),(16,_)] [_,_] mixed (by kernel_rfl) (by kernel_rfl) (by kernel_rfl) rfl rfl ?_
  refine TL.off hF rfl rfl rfl rfl rfl ?_
  refine TL.pickT hF rfl rfl rfl rfl ?_
  refine TL.nil ?_
  refine TQ.then_n ?_
  refine T.cond_t rfl rfl ?_
  refine T.seq ?_
  refine T.region ?_
  refine TL.assign hF rfl rfl ?_
  refine TL.nil ?_
  refine TQ.then_n ?_
  refine T.ret ?_
  refine TQ.then_r ?_
  refine TQ.pop ?_
  refine TQ.rets [8] _ rfl rfl rfl ?_
  exact ⟨false,left - 1,rfl,rfl,.no (by omega) (by omega) (fun q=>by have:=size_pos e.ex; omega)⟩
 ·refine T.draw ?_
  refine DR.stepV [_] rfl [(2,_,none)] rfl rfl ⟨⟨rfl,by kernel_rfl⟩,trivial⟩ (fun ext=>TL.move hF rfl rfl TL.fin) ?_
  refine DR.stepV [_,_] rfl [(16,_,some 0)] rfl rfl ⟨⟨rfl,rfl,rfl⟩,trivial⟩ (fun ext=>TL.nilCheck hF rfl rfl TL.fin) ?_
  refine DR.stepV [_,_,_] rfl [(17,_,some 1)] rfl rfl ⟨⟨rfl,rfl,rfl⟩,trivial⟩ (fun ext=>TL.load hF rfl (own_mem (cs:=#[.int .i64 (left - 1)]) (e:=3) (fz:=(0,0)) (by simp) rfl) rfl TL.fin) ?_
  refine DR.stepV [_,_,_,_] rfl [(18,_,some 2)] rfl rfl ⟨⟨rfl,rfl,rfl⟩,trivial⟩ (fun ext=>TL.bin hF rfl rfl rfl rfl TL.fin) ?_
  refine DR.stepV [_,_,_,_,_] rfl [(19,_,some 3)] rfl rfl ⟨⟨rfl,rfl,rfl⟩,trivial⟩ (fun ext=>TL.move hF rfl rfl TL.fin) ?_
  refine DR.stepV [_,_,_,_,_,_] rfl [(3,_,none),(20,_,some 4)] rfl rfl ⟨⟨rfl,by kernel_rfl⟩,⟨rfl,rfl,rfl⟩,trivial⟩ (fun ext=>TL.on rfl rfl rfl (decide_eq_false h1) <| TL.move hF rfl rfl TL.fin) ?_
  refine DR.stepV [_,_,_,_,_,_,_] rfl [(21,_,some 5),(20,_,some 4)] rfl rfl ⟨⟨rfl,rfl,rfl⟩,⟨rfl,rfl,rfl⟩,trivial⟩ (fun ext=>TL.on rfl rfl rfl (decide_eq_false h1) <| TL.bin hF rfl rfl rfl rfl TL.fin) ?_
  refine DR.stepV [_,_,_,_,_,_,_,_] rfl [(20,_,some 4),(22,_,some 6)] rfl rfl ⟨⟨rfl,rfl,rfl⟩,⟨rfl,rfl,rfl⟩,trivial⟩ (fun ext=>TL.pickF hF rfl (decide_eq_false h1) rfl rfl TL.fin) ?_
  refine DR.stepV [_,_,_,_,_,_,_,_,_] rfl [(23,_,some 7)] rfl rfl ⟨⟨rfl,rfl,rfl⟩,trivial⟩ (fun ext=>TL.move hF rfl rfl TL.fin) ?_
  refine DR.stepV [_,_,_,_,_,_,_,_,_,_] rfl [(4,_,none),(24,_,some 8)] rfl rfl ⟨⟨rfl,by kernel_rfl⟩,⟨rfl,rfl,rfl⟩,trivial⟩ (fun ext=>TL.off hF rfl rfl rfl (decide_eq_true h2) rfl TL.fin) ?_
  refine DR.stepV [_,_,_,_,_,_,_,_,_,_,_] rfl [(25,_,some 9),(24,_,some 8)] rfl rfl ⟨⟨rfl,rfl,rfl⟩,⟨rfl,rfl,rfl⟩,trivial⟩ (fun ext=>TL.off hF rfl rfl rfl (decide_eq_true h2) rfl TL.fin) ?_
  refine DR.stepV [_,_,_,_,_,_,_,_,_,_,_,_] rfl [(26,_,some 10),(24,_,some 8)] rfl rfl ⟨⟨rfl,rfl,rfl⟩,⟨rfl,rfl,rfl⟩,trivial⟩ (fun ext=>TL.off hF rfl rfl rfl (decide_eq_true h2) rfl TL.fin) ?_
  refine DR.stepV [_,_,_,_,_,_,_,_,_,_,_,_,_] rfl [(24,_,some 8),(27,_,some 11)] rfl rfl ⟨⟨rfl,rfl,rfl⟩,⟨rfl,rfl,rfl⟩,trivial⟩ (fun ext=>TL.pickT hF rfl (decide_eq_true h2) rfl rfl TL.fin) ?_
  refine DR.stepV [_,_,_,_,_,_,_,_,_,_,_,_,_,_] rfl [(28,_,some 12)] rfl rfl ⟨⟨rfl,rfl,rfl⟩,trivial⟩ (fun ext=>TL.move hF rfl rfl TL.fin) ?_
  refine DR.stepV [_,_,_,_,_,_,_,_,_,_,_,_,_,_,_] rfl [(4,_,none),(29,_,some 13)] rfl rfl ⟨⟨rfl,by kernel_rfl⟩,⟨rfl,rfl,rfl⟩,trivial⟩ (fun ext=>TL.off hF rfl rfl rfl rfl rfl TL.fin) ?_
  refine DR.stepV [_,_,_,_,_,_,_,_,_,_,_,_,_,_,_,_] rfl [(30,_,some 14),(29,_,some 13)] rfl rfl ⟨⟨rfl,rfl,rfl⟩,⟨rfl,rfl,rfl⟩,trivial⟩ (fun ext=>TL.off hF rfl rfl rfl rfl rfl TL.fin) ?_
  refine DR.stepV [_,_,_,_,_,_,_,_,_,_,_,_,_,_,_,_,_] rfl [(31,_,some 15),(29,_,some 13)] rfl rfl ⟨⟨rfl,rfl,rfl⟩,⟨rfl,rfl,rfl⟩,trivial⟩ (fun ext=>TL.off hF rfl rfl rfl rfl rfl TL.fin) ?_
  refine DR.stepV [_,_,_,_,_,_,_,_,_,_,_,_,_,_,_,_,_,_] rfl [(29,_,some 13),(32,_,some 16)] rfl rfl ⟨⟨rfl,rfl,rfl⟩,⟨rfl,rfl,rfl⟩,trivial⟩ (fun ext=>TL.pickT hF rfl rfl rfl rfl TL.fin) ?_
  refine DR.stepV [_,_,_,_,_,_,_,_,_,_,_,_,_,_,_,_,_,_,_] rfl [(33,_,some 17)] rfl rfl ⟨⟨rfl,rfl,rfl⟩,trivial⟩ (fun ext=>TL.move hF rfl rfl TL.fin) ?_
  refine DR.stepV [_,_,_,_,_,_,_,_,_,_,_,_,_,_,_,_,_,_,_,_] rfl [(4,_,none),(34,_,some 18)] rfl rfl ⟨⟨rfl,by kernel_rfl⟩,⟨rfl,rfl,rfl⟩,trivial⟩ (fun ext=>TL.off hF rfl rfl rfl rfl rfl TL.fin) ?_
  refine DR.stepV [_,_,_,_,_,_,_,_,_,_,_,_,_,_,_,_,_,_,_,_,_] rfl [(35,_,some 19),(34,_,some 18)] rfl rfl ⟨⟨rfl,rfl,rfl⟩,⟨rfl,rfl,rfl⟩,trivial⟩ (fun ext=>TL.off hF rfl rfl rfl rfl rfl TL.fin) ?_
  refine DR.stepV [_,_,_,_,_,_,_,_,_,_,_,_,_,_,_,_,_,_,_,_,_,_] rfl [(36,_,some 20),(34,_,some 18)] rfl rfl ⟨⟨rfl,rfl,rfl⟩,⟨rfl,rfl,rfl⟩,trivial⟩ (fun ext=>TL.off hF rfl rfl rfl rfl rfl TL.fin) ?_
  refine DR.stepV [_,_,_,_,_,_,_,_,_,_,_,_,_,_,_,_,_,_,_,_,_,_,_] rfl [(4,_,none),(34,_,some 18)] rfl rfl ⟨⟨rfl,by kernel_rfl⟩,⟨rfl,rfl,rfl⟩,trivial⟩ (fun ext=>TL.off hF rfl rfl rfl rfl rfl TL.fin) ?_
  refine DR.stepV [_,_,_,_,_,_,_,_,_,_,_,_,_,_,_,_,_,_,_,_,_,_,_,_] rfl [(38,_,some 22),(34,_,some 18)] rfl rfl ⟨⟨rfl,rfl,rfl⟩,⟨rfl,rfl,rfl⟩,trivial⟩ (fun ext=>TL.off hF rfl rfl rfl rfl rfl TL.fin) ?_
  refine DR.stepV [_,_,_,_,_,_,_,_,_,_,_,_,_,_,_,_,_,_,_,_,_,_,_,_,_] rfl [(39,_,some 23),(34,_,some 18)] rfl rfl ⟨⟨rfl,rfl,rfl⟩,⟨rfl,rfl,rfl⟩,trivial⟩ (fun ext=>TL.off hF rfl rfl rfl rfl rfl TL.fin) ?_
  refine DR.stepV [_,_,_,_,_,_,_,_,_,_,_,_,_,_,_,_,_,_,_,_,_,_,_,_,_,_] rfl [(40,_,some 24),(34,_,some 18)] rfl rfl ⟨⟨rfl,rfl,rfl⟩,⟨rfl,rfl,rfl⟩,trivial⟩ (fun ext=>TL.off hF rfl rfl rfl rfl rfl TL.fin) ?_
  refine DR.done [(41,_),(40,_),(39,_),(38,_),(37,_),(36,_),(35,_),(34,_),(33,_),(32,_),(31,_),(30,_),(29,_),(28,_),(27,_),(26,_),(25,_),(24,_),(23,_),(22,_),(21,_),(20,_),(19,_),(18,_),(17,_),(16,_)] [_,_] mixed (by kernel_rfl) (by kernel_rfl) (by kernel_rfl) rfl rfl ?_
  refine TL.off hF rfl rfl rfl rfl rfl ?_
  refine TL.pickT hF rfl rfl rfl rfl ?_
  refine TL.nil ?_
  refine TQ.then_n ?_
  refine T.cond_t rfl rfl ?_
  refine T.seq ?_
  refine T.region ?_
  refine TL.assign hF rfl rfl ?_
  refine TL.nil ?_
  refine TQ.then_n ?_
  refine T.ret ?_
  refine TQ.then_r ?_
  refine TQ.pop ?_
  refine TQ.rets [8] _ rfl rfl rfl ?_
  exact ⟨false,left - 1,rfl,rfl,.no (by omega) (by omega) (fun q=>by have:=dep_pos e.ex; omega)⟩
 ·refine T.draw ?_
  refine DR.stepV [_] rfl [(2,_,none)] rfl rfl ⟨⟨rfl,by kernel_rfl⟩,trivial⟩ (fun ext=>TL.move hF rfl rfl TL.fin) ?_
  refine DR.stepV [_,_] rfl [(16,_,some 0)] rfl rfl ⟨⟨rfl,rfl,rfl⟩,trivial⟩ (fun ext=>TL.nilCheck hF rfl rfl TL.fin) ?_
  refine DR.stepV [_,_,_] rfl [(17,_,some 1)] rfl rfl ⟨⟨rfl,rfl,rfl⟩,trivial⟩ (fun ext=>TL.load hF rfl (own_mem (cs:=#[.int .i64 (left - 1)]) (e:=3) (fz:=(0,0)) (by simp) rfl) rfl TL.fin) ?_
  refine DR.stepV [_,_,_,_] rfl [(18,_,some 2)] rfl rfl ⟨⟨rfl,rfl,rfl⟩,trivial⟩ (fun ext=>TL.bin hF rfl rfl rfl rfl TL.fin) ?_
  refine DR.stepV [_,_,_,_,_] rfl [(19,_,some 3)] rfl rfl ⟨⟨rfl,rfl,rfl⟩,trivial⟩ (fun ext=>TL.move hF rfl rfl TL.fin) ?_
  refine DR.stepV [_,_,_,_,_,_] rfl [(3,_,none),(20,_,some 4)] rfl rfl ⟨⟨rfl,by kernel_rfl⟩,⟨rfl,rfl,rfl⟩,trivial⟩ (fun ext=>TL.on rfl rfl rfl (decide_eq_false h1) <| TL.move hF rfl rfl TL.fin) ?_
  refine DR.stepV [_,_,_,_,_,_,_] rfl [(21,_,some 5),(20,_,some 4)] rfl rfl ⟨⟨rfl,rfl,rfl⟩,⟨rfl,rfl,rfl⟩,trivial⟩ (fun ext=>TL.on rfl rfl rfl (decide_eq_false h1) <| TL.bin hF rfl rfl rfl rfl TL.fin) ?_
  refine DR.stepV [_,_,_,_,_,_,_,_] rfl [(20,_,some 4),(22,_,some 6)] rfl rfl ⟨⟨rfl,rfl,rfl⟩,⟨rfl,rfl,rfl⟩,trivial⟩ (fun ext=>TL.pickF hF rfl (decide_eq_false h1) rfl rfl TL.fin) ?_
  refine DR.stepV [_,_,_,_,_,_,_,_,_] rfl [(23,_,some 7)] rfl rfl ⟨⟨rfl,rfl,rfl⟩,trivial⟩ (fun ext=>TL.move hF rfl rfl TL.fin) ?_
  refine DR.stepV [_,_,_,_,_,_,_,_,_,_] rfl [(4,_,none),(24,_,some 8)] rfl rfl ⟨⟨rfl,by kernel_rfl⟩,⟨rfl,rfl,rfl⟩,trivial⟩ (fun ext=>TL.on rfl rfl rfl (decide_eq_false h2) <| TL.fieldAddr hF rfl rfl TL.fin) ?_
  refine DR.stepV [_,_,_,_,_,_,_,_,_,_,_] rfl [(25,_,some 9),(24,_,some 8)] rfl rfl ⟨⟨rfl,rfl,rfl⟩,⟨rfl,rfl,rfl⟩,trivial⟩ (fun ext=>TL.on rfl rfl rfl (decide_eq_false h2) <| TL.load hF rfl (by first | exact At.own' (i:=0) rfl rfl | exact At.own' (i:=1) rfl rfl | exact At.own' (i:=2) rfl rfl | exact At.own' (i:=3) rfl rfl | exact At.own' (i:=4) rfl rfl | exact At.own' (i:=5) rfl rfl | exact At.own' (i:=6) rfl rfl | exact At.own' (i:=7) rfl rfl | exact At.own' (i:=8) rfl rfl | exact At.own' (i:=9) rfl rfl | exact At.own' (i:=10) rfl rfl | exact At.own' (i:=11) rfl rfl | exact At.own' (i:=12) rfl rfl) rfl TL.fin) ?_
  refine DR.stepV [_,_,_,_,_,_,_,_,_,_,_,_] rfl [(26,_,some 10),(24,_,some 8)] rfl rfl ⟨⟨rfl,rfl,rfl⟩,⟨rfl,rfl,rfl⟩,trivial⟩ (fun ext=>TL.on rfl rfl rfl (decide_eq_false h2) <| TL.bin hF rfl rfl rfl rfl TL.fin) ?_
  refine DR.stepV [_,_,_,_,_,_,_,_,_,_,_,_,_] rfl [(24,_,some 8),(27,_,some 11)] rfl rfl ⟨⟨rfl,rfl,rfl⟩,⟨rfl,rfl,rfl⟩,trivial⟩ (fun ext=>TL.pickF hF rfl (decide_eq_false h2) rfl rfl TL.fin) ?_
  refine DR.stepV [_,_,_,_,_,_,_,_,_,_,_,_,_,_] rfl [(28,_,some 12)] rfl rfl ⟨⟨rfl,rfl,rfl⟩,trivial⟩ (fun ext=>TL.move hF rfl rfl TL.fin) ?_
  refine DR.stepV [_,_,_,_,_,_,_,_,_,_,_,_,_,_,_] rfl [(4,_,none),(29,_,some 13)] rfl rfl ⟨⟨rfl,by kernel_rfl⟩,⟨rfl,rfl,rfl⟩,trivial⟩ (fun ext=>TL.off hF rfl rfl rfl (decide_eq_true h3) rfl TL.fin) ?_
  refine DR.stepV [_,_,_,_,_,_,_,_,_,_,_,_,_,_,_,_] rfl [(30,_,some 14),(29,_,some 13)] rfl rfl ⟨⟨rfl,rfl,rfl⟩,⟨rfl,rfl,rfl⟩,trivial⟩ (fun ext=>TL.off hF rfl rfl rfl (decide_eq_true h3) rfl TL.fin) ?_
  refine DR.stepV [_,_,_,_,_,_,_,_,_,_,_,_,_,_,_,_,_] rfl [(31,_,some 15),(29,_,some 13)] rfl rfl ⟨⟨rfl,rfl,rfl⟩,⟨rfl,rfl,rfl⟩,trivial⟩ (fun ext=>TL.off hF rfl rfl rfl (decide_eq_true h3) rfl TL.fin) ?_
  refine DR.stepV [_,_,_,_,_,_,_,_,_,_,_,_,_,_,_,_,_,_] rfl [(29,_,some 13),(32,_,some 16)] rfl rfl ⟨⟨rfl,rfl,rfl⟩,⟨rfl,rfl,rfl⟩,trivial⟩ (fun ext=>TL.pickT hF rfl (decide_eq_true h3) rfl rfl TL.fin) ?_
  refine DR.stepV [_,_,_,_,_,_,_,_,_,_,_,_,_,_,_,_,_,_,_] rfl [(33,_,some 17)] rfl rfl ⟨⟨rfl,rfl,rfl⟩,trivial⟩ (fun ext=>TL.move hF rfl rfl TL.fin) ?_
  refine DR.stepV [_,_,_,_,_,_,_,_,_,_,_,_,_,_,_,_,_,_,_,_] rfl [(4,_,none),(34,_,some 18)] rfl rfl ⟨⟨rfl,by kernel_rfl⟩,⟨rfl,rfl,rfl⟩,trivial⟩ (fun ext=>TL.off hF rfl rfl rfl rfl rfl TL.fin) ?_
  refine DR.stepV [_,_,_,_,_,_,_,_,_,_,_,_,_,_,_,_,_,_,_,_,_] rfl [(35,_,some 19),(34,_,some 18)] rfl rfl ⟨⟨rfl,rfl,rfl⟩,⟨rfl,rfl,rfl⟩,trivial⟩ (fun ext=>TL.off hF rfl rfl rfl rfl rfl TL.fin) ?_
  refine DR.stepV [_,_,_,_,_,_,_,_,_,_,_,_,_,_,_,_,_,_,_,_,_,_] rfl [(36,_,some 20),(34,_,some 18)] rfl rfl ⟨⟨rfl,rfl,rfl⟩,⟨rfl,rfl,rfl⟩,trivial⟩ (fun ext=>TL.off hF rfl rfl rfl rfl rfl TL.fin) ?_
  refine DR.stepV [_,_,_,_,_,_,_,_,_,_,_,_,_,_,_,_,_,_,_,_,_,_,_] rfl [(4,_,none),(34,_,some 18)] rfl rfl ⟨⟨rfl,by kernel_rfl⟩,⟨rfl,rfl,rfl⟩,trivial⟩ (fun ext=>TL.off hF rfl rfl rfl rfl rfl TL.fin) ?_
  refine DR.stepV [_,_,_,_,_,_,_,_,_,_,_,_,_,_,_,_,_,_,_,_,_,_,_,_] rfl [(38,_,some 22),(34,_,some 18)] rfl rfl ⟨⟨rfl,rfl,rfl⟩,⟨rfl,rfl,rfl⟩,trivial⟩ (fun ext=>TL.off hF rfl rfl rfl rfl rfl TL.fin) ?_
  refine DR.stepV [_,_,_,_,_,_,_,_,_,_,_,_,_,_,_,_,_,_,_,_,_,_,_,_,_] rfl [(39,_,some 23),(34,_,some 18)] rfl rfl ⟨⟨rfl,rfl,rfl⟩,⟨rfl,rfl,rfl⟩,trivial⟩ (fun ext=>TL.off hF rfl rfl rfl rfl rfl TL.fin) ?_
  refine DR.stepV [_,_,_,_,_,_,_,_,_,_,_,_,_,_,_,_,_,_,_,_,_,_,_,_,_,_] rfl [(40,_,some 24),(34,_,some 18)] rfl rfl ⟨⟨rfl,rfl,rfl⟩,⟨rfl,rfl,rfl⟩,trivial⟩ (fun ext=>TL.off hF rfl rfl rfl rfl rfl TL.fin) ?_
  refine DR.done [(41,_),(40,_),(39,_),(38,_),(37,_),(36,_),(35,_),(34,_),(33,_),(32,_),(31,_),(30,_),(29,_),(28,_),(27,_),(26,_),(25,_),(24,_),(23,_),(22,_),(21,_),(20,_),(19,_),(18,_),(17,_),(16,_)] [_,_] mixed (by kernel_rfl) (by kernel_rfl) (by kernel_rfl) rfl rfl ?_
  refine TL.off hF rfl rfl rfl rfl rfl ?_
  refine TL.pickT hF rfl rfl rfl rfl ?_
  refine TL.nil ?_
  refine TQ.then_n ?_
  refine T.cond_t rfl rfl ?_
  refine T.seq ?_
  refine T.region ?_
  refine TL.assign hF rfl rfl ?_
  refine TL.nil ?_
  refine TQ.then_n ?_
  refine T.ret ?_
  refine TQ.then_r ?_
  refine TQ.pop ?_
  refine TQ.rets [8] _ rfl rfl rfl ?_
  exact ⟨false,left - 1,rfl,rfl,.op (by omega) (by omega) (by rw [parts_out (.inl h3)]; omega)⟩
 ·refine T.draw ?_
  refine DR.stepV [_] rfl [(2,_,none)] rfl rfl ⟨⟨rfl,by kernel_rfl⟩,trivial⟩ (fun ext=>TL.move hF rfl rfl TL.fin) ?_
  refine DR.stepV [_,_] rfl [(16,_,some 0)] rfl rfl ⟨⟨rfl,rfl,rfl⟩,trivial⟩ (fun ext=>TL.nilCheck hF rfl rfl TL.fin) ?_
  refine DR.stepV [_,_,_] rfl [(17,_,some 1)] rfl rfl ⟨⟨rfl,rfl,rfl⟩,trivial⟩ (fun ext=>TL.load hF rfl (own_mem (cs:=#[.int .i64 (left - 1)]) (e:=3) (fz:=(0,0)) (by simp) rfl) rfl TL.fin) ?_
  refine DR.stepV [_,_,_,_] rfl [(18,_,some 2)] rfl rfl ⟨⟨rfl,rfl,rfl⟩,trivial⟩ (fun ext=>TL.bin hF rfl rfl rfl rfl TL.fin) ?_
  refine DR.stepV [_,_,_,_,_] rfl [(19,_,some 3)] rfl rfl ⟨⟨rfl,rfl,rfl⟩,trivial⟩ (fun ext=>TL.move hF rfl rfl TL.fin) ?_
  refine DR.stepV [_,_,_,_,_,_] rfl [(3,_,none),(20,_,some 4)] rfl rfl ⟨⟨rfl,by kernel_rfl⟩,⟨rfl,rfl,rfl⟩,trivial⟩ (fun ext=>TL.on rfl rfl rfl (decide_eq_false h1) <| TL.move hF rfl rfl TL.fin) ?_
  refine DR.stepV [_,_,_,_,_,_,_] rfl [(21,_,some 5),(20,_,some 4)] rfl rfl ⟨⟨rfl,rfl,rfl⟩,⟨rfl,rfl,rfl⟩,trivial⟩ (fun ext=>TL.on rfl rfl rfl (decide_eq_false h1) <| TL.bin hF rfl rfl rfl rfl TL.fin) ?_
  refine DR.stepV [_,_,_,_,_,_,_,_] rfl [(20,_,some 4),(22,_,some 6)] rfl rfl ⟨⟨rfl,rfl,rfl⟩,⟨rfl,rfl,rfl⟩,trivial⟩ (fun ext=>TL.pickF hF rfl (decide_eq_false h1) rfl rfl TL.fin) ?_
  refine DR.stepV [_,_,_,_,_,_,_,_,_] rfl [(23,_,some 7)] rfl rfl ⟨⟨rfl,rfl,rfl⟩,trivial⟩ (fun ext=>TL.move hF rfl rfl TL.fin) ?_
  refine DR.stepV [_,_,_,_,_,_,_,_,_,_] rfl [(4,_,none),(24,_,some 8)] rfl rfl ⟨⟨rfl,by kernel_rfl⟩,⟨rfl,rfl,rfl⟩,trivial⟩ (fun ext=>TL.on rfl rfl rfl (decide_eq_false h2) <| TL.fieldAddr hF rfl rfl TL.fin) ?_
  refine DR.stepV [_,_,_,_,_,_,_,_,_,_,_] rfl [(25,_,some 9),(24,_,some 8)] rfl rfl ⟨⟨rfl,rfl,rfl⟩,⟨rfl,rfl,rfl⟩,trivial⟩ (fun ext=>TL.on rfl rfl rfl (decide_eq_false h2) <| TL.load hF rfl (by first | exact At.own' (i:=0) rfl rfl | exact At.own' (i:=1) rfl rfl | exact At.own' (i:=2) rfl rfl | exact At.own' (i:=3) rfl rfl | exact At.own' (i:=4) rfl rfl | exact At.own' (i:=5) rfl rfl | exact At.own' (i:=6) rfl rfl | exact At.own' (i:=7) rfl rfl | exact At.own' (i:=8) rfl rfl | exact At.own' (i:=9) rfl rfl | exact At.own' (i:=10) rfl rfl | exact At.own' (i:=11) rfl rfl | exact At.own' (i:=12) rfl rfl) rfl TL.fin) ?_
  refine DR.stepV [_,_,_,_,_,_,_,_,_,_,_,_] rfl [(26,_,some 10),(24,_,some 8)] rfl rfl ⟨⟨rfl,rfl,rfl⟩,⟨rfl,rfl,rfl⟩,trivial⟩ (fun ext=>TL.on rfl rfl rfl (decide_eq_false h2) <| TL.bin hF rfl rfl rfl rfl TL.fin) ?_
  refine DR.stepV [_,_,_,_,_,_,_,_,_,_,_,_,_] rfl [(24,_,some 8),(27,_,some 11)] rfl rfl ⟨⟨rfl,rfl,rfl⟩,⟨rfl,rfl,rfl⟩,trivial⟩ (fun ext=>TL.pickF hF rfl (decide_eq_false h2) rfl rfl TL.fin) ?_
  refine DR.stepV [_,_,_,_,_,_,_,_,_,_,_,_,_,_] rfl [(28,_,some 12)] rfl rfl ⟨⟨rfl,rfl,rfl⟩,trivial⟩ (fun ext=>TL.move hF rfl rfl TL.fin) ?_
  refine DR.stepV [_,_,_,_,_,_,_,_,_,_,_,_,_,_,_] rfl [(4,_,none),(29,_,some 13)] rfl rfl ⟨⟨rfl,by kernel_rfl⟩,⟨rfl,rfl,rfl⟩,trivial⟩ (fun ext=>TL.on rfl rfl rfl (decide_eq_false h3) <| TL.fieldAddr hF rfl rfl TL.fin) ?_
  refine DR.stepV [_,_,_,_,_,_,_,_,_,_,_,_,_,_,_,_] rfl [(30,_,some 14),(29,_,some 13)] rfl rfl ⟨⟨rfl,rfl,rfl⟩,⟨rfl,rfl,rfl⟩,trivial⟩ (fun ext=>TL.on rfl rfl rfl (decide_eq_false h3) <| TL.load hF rfl (by first | exact At.own' (i:=0) rfl rfl | exact At.own' (i:=1) rfl rfl | exact At.own' (i:=2) rfl rfl | exact At.own' (i:=3) rfl rfl | exact At.own' (i:=4) rfl rfl | exact At.own' (i:=5) rfl rfl | exact At.own' (i:=6) rfl rfl | exact At.own' (i:=7) rfl rfl | exact At.own' (i:=8) rfl rfl | exact At.own' (i:=9) rfl rfl | exact At.own' (i:=10) rfl rfl | exact At.own' (i:=11) rfl rfl | exact At.own' (i:=12) rfl rfl) rfl TL.fin) ?_
  refine DR.stepV [_,_,_,_,_,_,_,_,_,_,_,_,_,_,_,_,_] rfl [(31,_,some 15),(29,_,some 13)] rfl rfl ⟨⟨rfl,rfl,rfl⟩,⟨rfl,rfl,rfl⟩,trivial⟩ (fun ext=>TL.on rfl rfl rfl (decide_eq_false h3) <| TL.bin hF rfl rfl rfl rfl TL.fin) ?_
  refine DR.stepV [_,_,_,_,_,_,_,_,_,_,_,_,_,_,_,_,_,_] rfl [(29,_,some 13),(32,_,some 16)] rfl rfl ⟨⟨rfl,rfl,rfl⟩,⟨rfl,rfl,rfl⟩,trivial⟩ (fun ext=>TL.pickF hF rfl (decide_eq_false h3) rfl rfl TL.fin) ?_
  refine DR.stepV [_,_,_,_,_,_,_,_,_,_,_,_,_,_,_,_,_,_,_] rfl [(33,_,some 17)] rfl rfl ⟨⟨rfl,rfl,rfl⟩,trivial⟩ (fun ext=>TL.move hF rfl rfl TL.fin) ?_
  refine DR.stepV [_,_,_,_,_,_,_,_,_,_,_,_,_,_,_,_,_,_,_,_] rfl [(4,_,none),(34,_,some 18)] rfl rfl ⟨⟨rfl,by kernel_rfl⟩,⟨rfl,rfl,rfl⟩,trivial⟩ (fun ext=>TL.off hF rfl rfl rfl (decide_eq_true (by omega)) rfl TL.fin) ?_
  refine DR.stepV [_,_,_,_,_,_,_,_,_,_,_,_,_,_,_,_,_,_,_,_,_] rfl [(35,_,some 19),(34,_,some 18)] rfl rfl ⟨⟨rfl,rfl,rfl⟩,⟨rfl,rfl,rfl⟩,trivial⟩ (fun ext=>TL.off hF rfl rfl rfl (decide_eq_true (by omega)) rfl TL.fin) ?_
  refine DR.stepV [_,_,_,_,_,_,_,_,_,_,_,_,_,_,_,_,_,_,_,_,_,_] rfl [(36,_,some 20),(34,_,some 18)] rfl rfl ⟨⟨rfl,rfl,rfl⟩,⟨rfl,rfl,rfl⟩,trivial⟩ (fun ext=>TL.off hF rfl rfl rfl (decide_eq_true (by omega)) rfl TL.fin) ?_
  refine DR.stepV [_,_,_,_,_,_,_,_,_,_,_,_,_,_,_,_,_,_,_,_,_,_,_] rfl [(4,_,none),(34,_,some 18)] rfl rfl ⟨⟨rfl,by kernel_rfl⟩,⟨rfl,rfl,rfl⟩,trivial⟩ (fun ext=>TL.off hF rfl rfl rfl (decide_eq_true (by omega)) rfl TL.fin) ?_
  refine DR.stepV [_,_,_,_,_,_,_,_,_,_,_,_,_,_,_,_,_,_,_,_,_,_,_,_] rfl [(38,_,some 22),(34,_,some 18)] rfl rfl ⟨⟨rfl,rfl,rfl⟩,⟨rfl,rfl,rfl⟩,trivial⟩ (fun ext=>TL.off hF rfl rfl rfl (decide_eq_true (by omega)) rfl TL.fin) ?_
  refine DR.stepV [_,_,_,_,_,_,_,_,_,_,_,_,_,_,_,_,_,_,_,_,_,_,_,_,_] rfl [(39,_,some 23),(34,_,some 18)] rfl rfl ⟨⟨rfl,rfl,rfl⟩,⟨rfl,rfl,rfl⟩,trivial⟩ (fun ext=>TL.off hF rfl rfl rfl (decide_eq_true (by omega)) rfl TL.fin) ?_
  refine DR.stepV [_,_,_,_,_,_,_,_,_,_,_,_,_,_,_,_,_,_,_,_,_,_,_,_,_,_] rfl [(40,_,some 24),(34,_,some 18)] rfl rfl ⟨⟨rfl,rfl,rfl⟩,⟨rfl,rfl,rfl⟩,trivial⟩ (fun ext=>TL.off hF rfl rfl rfl (decide_eq_true (by omega)) rfl TL.fin) ?_
  refine DR.done [(41,_),(40,_),(39,_),(38,_),(37,_),(36,_),(35,_),(34,_),(33,_),(32,_),(31,_),(30,_),(29,_),(28,_),(27,_),(26,_),(25,_),(24,_),(23,_),(22,_),(21,_),(20,_),(19,_),(18,_),(17,_),(16,_)] [_,_] mixed (by kernel_rfl) (by kernel_rfl) (by kernel_rfl) rfl rfl ?_
  refine TL.off hF rfl rfl rfl (decide_eq_true (by omega)) rfl ?_
  refine TL.pickT hF rfl (decide_eq_true (by omega)) rfl rfl ?_
  refine TL.nil ?_
  refine TQ.then_n ?_
  refine T.cond_t rfl rfl ?_
  refine T.seq ?_
  refine T.region ?_
  refine TL.assign hF rfl rfl ?_
  refine TL.nil ?_
  refine TQ.then_n ?_
  refine T.ret ?_
  refine TQ.then_r ?_
  refine TQ.pop ?_
  refine TQ.rets [8] _ rfl rfl rfl ?_
  exact ⟨false,left - 1,rfl,rfl,.op (by omega) (by omega) (by rw [parts_out (.inr h4)]; omega)⟩
 ·refine T.draw ?_
  refine DR.stepV [_] rfl [(2,_,none)] rfl rfl ⟨⟨rfl,by kernel_rfl⟩,trivial⟩ (fun ext=>TL.move hF rfl rfl TL.fin) ?_
  refine DR.stepV [_,_] rfl [(16,_,some 0)] rfl rfl ⟨⟨rfl,rfl,rfl⟩,trivial⟩ (fun ext=>TL.nilCheck hF rfl rfl TL.fin) ?_
  refine DR.stepV [_,_,_] rfl [(17,_,some 1)] rfl rfl ⟨⟨rfl,rfl,rfl⟩,trivial⟩ (fun ext=>TL.load hF rfl (own_mem (cs:=#[.int .i64 (left - 1)]) (e:=3) (fz:=(0,0)) (by simp) rfl) rfl TL.fin) ?_
  refine DR.stepV [_,_,_,_] rfl [(18,_,some 2)] rfl rfl ⟨⟨rfl,rfl,rfl⟩,trivial⟩ (fun ext=>TL.bin hF rfl rfl rfl rfl TL.fin) ?_
  refine DR.stepV [_,_,_,_,_] rfl [(19,_,some 3)] rfl rfl ⟨⟨rfl,rfl,rfl⟩,trivial⟩ (fun ext=>TL.move hF rfl rfl TL.fin) ?_
  refine DR.stepV [_,_,_,_,_,_] rfl [(3,_,none),(20,_,some 4)] rfl rfl ⟨⟨rfl,by kernel_rfl⟩,⟨rfl,rfl,rfl⟩,trivial⟩ (fun ext=>TL.on rfl rfl rfl (decide_eq_false h1) <| TL.move hF rfl rfl TL.fin) ?_
  refine DR.stepV [_,_,_,_,_,_,_] rfl [(21,_,some 5),(20,_,some 4)] rfl rfl ⟨⟨rfl,rfl,rfl⟩,⟨rfl,rfl,rfl⟩,trivial⟩ (fun ext=>TL.on rfl rfl rfl (decide_eq_false h1) <| TL.bin hF rfl rfl rfl rfl TL.fin) ?_
  refine DR.stepV [_,_,_,_,_,_,_,_] rfl [(20,_,some 4),(22,_,some 6)] rfl rfl ⟨⟨rfl,rfl,rfl⟩,⟨rfl,rfl,rfl⟩,trivial⟩ (fun ext=>TL.pickF hF rfl (decide_eq_false h1) rfl rfl TL.fin) ?_
  refine DR.stepV [_,_,_,_,_,_,_,_,_] rfl [(23,_,some 7)] rfl rfl ⟨⟨rfl,rfl,rfl⟩,trivial⟩ (fun ext=>TL.move hF rfl rfl TL.fin) ?_
  refine DR.stepV [_,_,_,_,_,_,_,_,_,_] rfl [(4,_,none),(24,_,some 8)] rfl rfl ⟨⟨rfl,by kernel_rfl⟩,⟨rfl,rfl,rfl⟩,trivial⟩ (fun ext=>TL.on rfl rfl rfl (decide_eq_false h2) <| TL.fieldAddr hF rfl rfl TL.fin) ?_
  refine DR.stepV [_,_,_,_,_,_,_,_,_,_,_] rfl [(25,_,some 9),(24,_,some 8)] rfl rfl ⟨⟨rfl,rfl,rfl⟩,⟨rfl,rfl,rfl⟩,trivial⟩ (fun ext=>TL.on rfl rfl rfl (decide_eq_false h2) <| TL.load hF rfl (by first | exact At.own' (i:=0) rfl rfl | exact At.own' (i:=1) rfl rfl | exact At.own' (i:=2) rfl rfl | exact At.own' (i:=3) rfl rfl | exact At.own' (i:=4) rfl rfl | exact At.own' (i:=5) rfl rfl | exact At.own' (i:=6) rfl rfl | exact At.own' (i:=7) rfl rfl | exact At.own' (i:=8) rfl rfl | exact At.own' (i:=9) rfl rfl | exact At.own' (i:=10) rfl rfl | exact At.own' (i:=11) rfl rfl | exact At.own' (i:=12) rfl rfl) rfl TL.fin) ?_
  refine DR.stepV [_,_,_,_,_,_,_,_,_,_,_,_] rfl [(26,_,some 10),(24,_,some 8)] rfl rfl ⟨⟨rfl,rfl,rfl⟩,⟨rfl,rfl,rfl⟩,trivial⟩ (fun ext=>TL.on rfl rfl rfl (decide_eq_false h2) <| TL.bin hF rfl rfl rfl rfl TL.fin) ?_
  refine DR.stepV [_,_,_,_,_,_,_,_,_,_,_,_,_] rfl [(24,_,some 8),(27,_,some 11)] rfl rfl ⟨⟨rfl,rfl,rfl⟩,⟨rfl,rfl,rfl⟩,trivial⟩ (fun ext=>TL.pickF hF rfl (decide_eq_false h2) rfl rfl TL.fin) ?_
  refine DR.stepV [_,_,_,_,_,_,_,_,_,_,_,_,_,_] rfl [(28,_,some 12)] rfl rfl ⟨⟨rfl,rfl,rfl⟩,trivial⟩ (fun ext=>TL.move hF rfl rfl TL.fin) ?_
  refine DR.stepV [_,_,_,_,_,_,_,_,_,_,_,_,_,_,_] rfl [(4,_,none),(29,_,some 13)] rfl rfl ⟨⟨rfl,by kernel_rfl⟩,⟨rfl,rfl,rfl⟩,trivial⟩ (fun ext=>TL.on rfl rfl rfl (decide_eq_false h3) <| TL.fieldAddr hF rfl rfl TL.fin) ?_
  refine DR.stepV [_,_,_,_,_,_,_,_,_,_,_,_,_,_,_,_] rfl [(30,_,some 14),(29,_,some 13)] rfl rfl ⟨⟨rfl,rfl,rfl⟩,⟨rfl,rfl,rfl⟩,trivial⟩ (fun ext=>TL.on rfl rfl rfl (decide_eq_false h3) <| TL.load hF rfl (by first | exact At.own' (i:=0) rfl rfl | exact At.own' (i:=1) rfl rfl | exact At.own' (i:=2) rfl rfl | exact At.own' (i:=3) rfl rfl | exact At.own' (i:=4) rfl rfl | exact At.own' (i:=5) rfl rfl | exact At.own' (i:=6) rfl rfl | exact At.own' (i:=7) rfl rfl | exact At.own' (i:=8) rfl rfl | exact At.own' (i:=9) rfl rfl | exact At.own' (i:=10) rfl rfl | exact At.own' (i:=11) rfl rfl | exact At.own' (i:=12) rfl rfl) rfl TL.fin) ?_
  refine DR.stepV [_,_,_,_,_,_,_,_,_,_,_,_,_,_,_,_,_] rfl [(31,_,some 15),(29,_,some 13)] rfl rfl ⟨⟨rfl,rfl,rfl⟩,⟨rfl,rfl,rfl⟩,trivial⟩ (fun ext=>TL.on rfl rfl rfl (decide_eq_false h3) <| TL.bin hF rfl rfl rfl rfl TL.fin) ?_
  refine DR.stepV [_,_,_,_,_,_,_,_,_,_,_,_,_,_,_,_,_,_] rfl [(29,_,some 13),(32,_,some 16)] rfl rfl ⟨⟨rfl,rfl,rfl⟩,⟨rfl,rfl,rfl⟩,trivial⟩ (fun ext=>TL.pickF hF rfl (decide_eq_false h3) rfl rfl TL.fin) ?_
  refine DR.stepV [_,_,_,_,_,_,_,_,_,_,_,_,_,_,_,_,_,_,_] rfl [(33,_,some 17)] rfl rfl ⟨⟨rfl,rfl,rfl⟩,trivial⟩ (fun ext=>TL.move hF rfl rfl TL.fin) ?_
  refine DR.stepV [_,_,_,_,_,_,_,_,_,_,_,_,_,_,_,_,_,_,_,_] rfl [(4,_,none),(34,_,some 18)] rfl rfl ⟨⟨rfl,by kernel_rfl⟩,⟨rfl,rfl,rfl⟩,trivial⟩ (fun ext=>TL.on rfl rfl rfl (decide_eq_false (by omega)) <| TL.fieldAddr hF rfl rfl TL.fin) ?_
  refine DR.stepV [_,_,_,_,_,_,_,_,_,_,_,_,_,_,_,_,_,_,_,_,_] rfl [(35,_,some 19),(34,_,some 18)] rfl rfl ⟨⟨rfl,rfl,rfl⟩,⟨rfl,rfl,rfl⟩,trivial⟩ (fun ext=>TL.on rfl rfl rfl (decide_eq_false (by omega)) <| TL.load hF rfl (by first | exact At.own' (i:=0) rfl rfl | exact At.own' (i:=1) rfl rfl | exact At.own' (i:=2) rfl rfl | exact At.own' (i:=3) rfl rfl | exact At.own' (i:=4) rfl rfl | exact At.own' (i:=5) rfl rfl | exact At.own' (i:=6) rfl rfl | exact At.own' (i:=7) rfl rfl | exact At.own' (i:=8) rfl rfl | exact At.own' (i:=9) rfl rfl | exact At.own' (i:=10) rfl rfl | exact At.own' (i:=11) rfl rfl | exact At.own' (i:=12) rfl rfl) rfl TL.fin) ?_
  refine DR.stepV [_,_,_,_,_,_,_,_,_,_,_,_,_,_,_,_,_,_,_,_,_,_] rfl [(36,_,some 20),(34,_,some 18)] rfl rfl ⟨⟨rfl,rfl,rfl⟩,⟨rfl,rfl,rfl⟩,trivial⟩ (fun ext=>TL.on rfl rfl rfl (decide_eq_false (by omega)) <| TL.len hF rfl rfl TL.fin) ?_
  refine DR.stepV [_,_,_,_,_,_,_,_,_,_,_,_,_,_,_,_,_,_,_,_,_,_,_] rfl [(4,_,none),(34,_,some 18)] rfl rfl ⟨⟨rfl,by kernel_rfl⟩,⟨rfl,rfl,rfl⟩,trivial⟩ (fun ext=>TL.on rfl rfl rfl (decide_eq_false (by omega)) <| TL.fieldAddr hF rfl rfl TL.fin) ?_
  refine DR.stepV [_,_,_,_,_,_,_,_,_,_,_,_,_,_,_,_,_,_,_,_,_,_,_,_] rfl [(38,_,some 22),(34,_,some 18)] rfl rfl ⟨⟨rfl,rfl,rfl⟩,⟨rfl,rfl,rfl⟩,trivial⟩ (fun ext=>TL.on rfl rfl rfl (decide_eq_false (by omega)) <| TL.load hF rfl (by first | exact At.own' (i:=0) rfl rfl | exact At.own' (i:=1) rfl rfl | exact At.own' (i:=2) rfl rfl | exact At.own' (i:=3) rfl rfl | exact At.own' (i:=4) rfl rfl | exact At.own' (i:=5) rfl rfl | exact At.own' (i:=6) rfl rfl | exact At.own' (i:=7) rfl rfl | exact At.own' (i:=8) rfl rfl | exact At.own' (i:=9) rfl rfl | exact At.own' (i:=10) rfl rfl | exact At.own' (i:=11) rfl rfl | exact At.own' (i:=12) rfl rfl) rfl TL.fin) ?_
  refine DR.stepV [_,_,_,_,_,_,_,_,_,_,_,_,_,_,_,_,_,_,_,_,_,_,_,_,_] rfl [(39,_,some 23),(34,_,some 18)] rfl rfl ⟨⟨rfl,rfl,rfl⟩,⟨rfl,rfl,rfl⟩,trivial⟩ (fun ext=>TL.on rfl rfl rfl (decide_eq_false (by omega)) <| TL.indexAddrA hF rfl rfl (by omega) (by omega) rfl TL.fin) ?_
  refine DR.stepV [_,_,_,_,_,_,_,_,_,_,_,_,_,_,_,_,_,_,_,_,_,_,_,_,_,_] rfl [(40,_,some 24),(34,_,some 18)] rfl rfl ⟨⟨rfl,rfl,rfl⟩,⟨rfl,rfl,rfl⟩,trivial⟩ (fun ext=>TL.on rfl rfl rfl (decide_eq_false (by omega)) <| TL.load hF rfl (hT.part (by omega) (by omega)) rfl TL.fin) ?_
  refine DR.done [(41,_),(40,_),(39,_),(38,_),(37,_),(36,_),(35,_),(34,_),(33,_),(32,_),(31,_),(30,_),(29,_),(28,_),(27,_),(26,_),(25,_),(24,_),(23,_),(22,_),(21,_),(20,_),(19,_),(18,_),(17,_),(16,_)] [_,_] mixed (by kernel_rfl) (by kernel_rfl) (by kernel_rfl) rfl rfl ?_
  refine TL.on rfl rfl rfl (decide_eq_false (by omega)) ?_
  refine TL.bin hF rfl rfl rfl rfl ?_
  refine TL.pickF hF rfl (decide_eq_false (by omega)) rfl rfl ?_
  refine TL.nil ?_
  refine TQ.then_n ?_
  first | refine T.cond_d rfl (fun ht43=>?_) (fun ht43=>?_) | refine T.cond _ rfl (fun ht43=>?_) (fun ht43=>?_)
  ·refine T.seq ?_
   refine T.region ?_
   refine TL.assign hF rfl rfl ?_
   refine TL.nil ?_
   refine TQ.then_n ?_
   refine T.ret ?_
   refine TQ.then_r ?_
   refine TQ.pop ?_
   refine TQ.rets [8] _ rfl rfl rfl ?_
   exact ⟨false,left - 1,rfl,rfl,.op (by omega) (by omega) ht43⟩
  ·refine T.skip ?_
   refine TQ.then_n ?_
   have hpr:(e.l.length:Int)=partsS e.op:=by simpa using ht43
   refine T.cut (ι:=Unit) (fun _=>okN funs e.op e.n=true) (fun _=>[(1,.int .i64 funs),(2,ptr lb),(3,.int .i64 deep),(4,ptr b4),(8,.bool false)]) (fun _=>[(b4,Obj.cells #[.int .i64 e.op,.int .i64 e.n,.slice e.a e.l.length e.c] 72 (0,0))]::[(lb,Obj.cells #[.int .i64 (left - 1)] 3 (0,0))]::η) ?_ ?_
   ·refine T.seq ?_
    refine T.region ?_
    refine TL.fieldAddr hF rfl rfl ?_
    refine TL.load hF rfl (by first | exact At.own' (i:=0) rfl rfl | exact At.own' (i:=1) rfl rfl | exact At.own' (i:=2) rfl rfl | exact At.own' (i:=3) rfl rfl | exact At.own' (i:=4) rfl rfl | exact At.own' (i:=5) rfl rfl | exact At.own' (i:=6) rfl rfl | exact At.own' (i:=7) rfl rfl | exact At.own' (i:=8) rfl rfl | exact At.own' (i:=9) rfl rfl | exact At.own' (i:=10) rfl rfl | exact At.own' (i:=11) rfl rfl | exact At.own' (i:=12) rfl rfl) rfl ?_
    refine TL.nil ?_
    refine TQ.then_n ?_
    refine T.block ?_
    refine T.seq ?_
    refine T.region ?_
    refine TL.bin hF rfl rfl rfl rfl ?_
    refine TL.assign hF rfl rfl ?_
    refine TL.nil ?_
    refine TQ.then_n ?_
    first | refine T.cond_d rfl (fun ht46=>?_) (fun ht46=>?_) | refine T.cond _ rfl (fun ht46=>?_) (fun ht46=>?_)
    ·refine T.seq ?_
     refine T.region ?_
     refine TL.fieldAddr hF rfl rfl ?_
     refine TL.load hF rfl (by first | exact At.own' (i:=0) rfl rfl | exact At.own' (i:=1) rfl rfl | exact At.own' (i:=2) rfl rfl | exact At.own' (i:=3) rfl rfl | exact At.own' (i:=4) rfl rfl | exact At.own' (i:=5) rfl rfl | exact At.own' (i:=6) rfl rfl | exact At.own' (i:=7) rfl rfl | exact At.own' (i:=8) rfl rfl | exact At.own' (i:=9) rfl rfl | exact At.own' (i:=10) rfl rfl | exact At.own' (i:=11) rfl rfl | exact At.own' (i:=12) rfl rfl) rfl ?_
     refine TL.callV hF (isWord_fn _) rfl rfl ?_
     refine TL.not hF rfl rfl ?_
     refine TL.nil ?_
     refine TQ.then_n ?_
     first | refine T.cond_d rfl (fun ht51=>?_) (fun ht51=>?_) | refine T.cond _ rfl (fun ht51=>?_) (fun ht51=>?_)
     ·refine T.seq ?_
      refine T.region ?_
      refine TL.assign hF rfl rfl ?_
      refine TL.nil ?_
      refine TQ.then_n ?_
      refine T.ret ?_
      refine TQ.block_r ?_
      refine TQ.then_r ?_
      refine TQ.pop ?_
      refine TQ.rets [8] _ rfl rfl rfl ?_
      exact ⟨false,left - 1,rfl,rfl,.n (by omega) (by omega) (by rw [okN0 ht46]; simpa using ht51)⟩
     ·refine T.skip ?_
      refine TQ.block_n ?_
      exact TQ.cut () (by rw [okN0 ht46]; simpa using ht51) ⟨rfl,rfl,rfl,rfl,rfl,trivial⟩ rfl
    ·refine T.seq ?_
     refine T.region ?_
     refine TL.bin hF rfl rfl rfl rfl ?_
     refine TL.assign hF rfl rfl ?_
     refine TL.nil ?_
     refine TQ.then_n ?_
     first | refine T.cond_d rfl (fun ht52=>?_) (fun ht52=>?_) | refine T.cond _ rfl (fun ht52=>?_) (fun ht52=>?_)
     ·refine T.seq ?_
      refine T.region ?_
      refine TL.fieldAddr hF rfl rfl ?_
      refine TL.load hF rfl (by first | exact At.own' (i:=0) rfl rfl | exact At.own' (i:=1) rfl rfl | exact At.own' (i:=2) rfl rfl | exact At.own' (i:=3) rfl rfl | exact At.own' (i:=4) rfl rfl | exact At.own' (i:=5) rfl rfl | exact At.own' (i:=6) rfl rfl | exact At.own' (i:=7) rfl rfl | exact At.own' (i:=8) rfl rfl | exact At.own' (i:=9) rfl rfl | exact At.own' (i:=10) rfl rfl | exact At.own' (i:=11) rfl rfl | exact At.own' (i:=12) rfl rfl) rfl ?_
      refine TL.bin hF rfl rfl rfl rfl ?_
      refine TL.move hF rfl rfl ?_
      refine TL.gd (t:=57) rfl (fun g9_57=>?_) (fun g9_57=>?_)
      ·refine TL.off hF rfl rfl rfl (decide_eq_true g9_57) rfl ?_
       refine TL.off hF rfl rfl rfl (decide_eq_true g9_57) rfl ?_
       refine TL.off hF rfl rfl rfl (decide_eq_true g9_57) rfl ?_
       refine TL.pickT hF rfl (decide_eq_true g9_57) rfl rfl ?_
       refine TL.nil ?_
       refine TQ.then_n ?_
       refine T.cond_t rfl rfl ?_
       refine T.seq ?_
       refine T.region ?_
       refine TL.assign hF rfl rfl ?_
       refine TL.nil ?_
       refine TQ.then_n ?_
       refine T.ret ?_
       refine TQ.block_r ?_
       refine TQ.then_r ?_
       refine TQ.pop ?_
       refine TQ.rets [8] _ rfl rfl rfl ?_
       exact ⟨false,left - 1,rfl,rfl,.n (by omega) (by omega) (by rw [okN3 ht52,decide_eq_false (by omega)]; rfl)⟩
      ·refine TL.on rfl rfl rfl (decide_eq_false g9_57) ?_
       refine TL.fieldAddr hF rfl rfl ?_
       refine TL.on rfl rfl rfl (decide_eq_false g9_57) ?_
       refine TL.load hF rfl (by first | exact At.own' (i:=0) rfl rfl | exact At.own' (i:=1) rfl rfl | exact At.own' (i:=2) rfl rfl | exact At.own' (i:=3) rfl rfl | exact At.own' (i:=4) rfl rfl | exact At.own' (i:=5) rfl rfl | exact At.own' (i:=6) rfl rfl | exact At.own' (i:=7) rfl rfl | exact At.own' (i:=8) rfl rfl | exact At.own' (i:=9) rfl rfl | exact At.own' (i:=10) rfl rfl | exact At.own' (i:=11) rfl rfl | exact At.own' (i:=12) rfl rfl) rfl ?_
       refine TL.on rfl rfl rfl (decide_eq_false g9_57) ?_
       refine TL.bin hF rfl rfl rfl rfl ?_
       refine TL.pickF hF rfl (decide_eq_false g9_57) rfl rfl ?_
       refine TL.nil ?_
       refine TQ.then_n ?_
       first | refine T.cond_d rfl (fun ht61=>?_) (fun ht61=>?_) | refine T.cond _ rfl (fun ht61=>?_) (fun ht61=>?_)
       ·refine T.seq ?_
        refine T.region ?_
        refine TL.assign hF rfl rfl ?_
        refine TL.nil ?_
        refine TQ.then_n ?_
        refine T.ret ?_
        refine TQ.block_r ?_
        refine TQ.then_r ?_
        refine TQ.pop ?_
        refine TQ.rets [8] _ rfl rfl rfl ?_
        exact ⟨false,left - 1,rfl,rfl,.n (by omega) (by omega) (by rw [okN3 ht52,decide_eq_false (show ¬ e.n≤9 by omega),Bool.and_false])⟩
       ·refine T.skip ?_
        refine TQ.block_n ?_
        exact TQ.cut () (by rw [okN3 ht52]; simp only [Bool.and_eq_true,decide_eq_true_eq]; omega) ⟨rfl,rfl,rfl,rfl,rfl,trivial⟩ rfl
     ·refine T.seq ?_
      refine T.region ?_
      refine TL.bin hF rfl rfl rfl rfl ?_
      refine TL.assign hF rfl rfl ?_
      refine TL.nil ?_
      refine TQ.then_n ?_
      first | refine T.cond_d rfl (fun ht62=>?_) (fun ht62=>?_) | refine T.cond _ rfl (fun ht62=>?_) (fun ht62=>?_)
      ·refine T.seq ?_
       refine T.region ?_
       refine TL.fieldAddr hF rfl rfl ?_
       refine TL.load hF rfl (by first | exact At.own' (i:=0) rfl rfl | exact At.own' (i:=1) rfl rfl | exact At.own' (i:=2) rfl rfl | exact At.own' (i:=3) rfl rfl | exact At.own' (i:=4) rfl rfl | exact At.own' (i:=5) rfl rfl | exact At.own' (i:=6) rfl rfl | exact At.own' (i:=7) rfl rfl | exact At.own' (i:=8) rfl rfl | exact At.own' (i:=9) rfl rfl | exact At.own' (i:=10) rfl rfl | exact At.own' (i:=11) rfl rfl | exact At.own' (i:=12) rfl rfl) rfl ?_
       refine TL.bin hF rfl rfl rfl rfl ?_
       refine TL.move hF rfl rfl ?_
       refine TL.gd (t:=67) rfl (fun g12_67=>?_) (fun g12_67=>?_)
       ·refine TL.off hF rfl rfl rfl (decide_eq_true g12_67) rfl ?_
        refine TL.off hF rfl rfl rfl (decide_eq_true g12_67) rfl ?_
        refine TL.off hF rfl rfl rfl (decide_eq_true g12_67) rfl ?_
        refine TL.off hF rfl rfl rfl (decide_eq_true g12_67) rfl ?_
        refine TL.pickT hF rfl (decide_eq_true g12_67) rfl rfl ?_
        refine TL.nil ?_
        refine TQ.then_n ?_
        refine T.cond_t rfl rfl ?_
        refine T.seq ?_
        refine T.region ?_
        refine TL.assign hF rfl rfl ?_
        refine TL.nil ?_
        refine TQ.then_n ?_
        refine T.ret ?_
        refine TQ.block_r ?_
        refine TQ.then_r ?_
        refine TQ.pop ?_
        refine TQ.rets [8] _ rfl rfl rfl ?_
        exact ⟨false,left - 1,rfl,rfl,.n (by omega) (by omega) (by rw [okN6 ht62,decide_eq_false (by omega)]; rfl)⟩
       ·refine TL.on rfl rfl rfl (decide_eq_false g12_67) ?_
        refine TL.fieldAddr hF rfl rfl ?_
        refine TL.on rfl rfl rfl (decide_eq_false g12_67) ?_
        refine TL.load hF rfl (by first | exact At.own' (i:=0) rfl rfl | exact At.own' (i:=1) rfl rfl | exact At.own' (i:=2) rfl rfl | exact At.own' (i:=3) rfl rfl | exact At.own' (i:=4) rfl rfl | exact At.own' (i:=5) rfl rfl | exact At.own' (i:=6) rfl rfl | exact At.own' (i:=7) rfl rfl | exact At.own' (i:=8) rfl rfl | exact At.own' (i:=9) rfl rfl | exact At.own' (i:=10) rfl rfl | exact At.own' (i:=11) rfl rfl | exact At.own' (i:=12) rfl rfl) rfl ?_
        refine TL.on rfl rfl rfl (decide_eq_false g12_67) ?_
        refine TL.move hF rfl rfl ?_
        refine TL.on rfl rfl rfl (decide_eq_false g12_67) ?_
        refine TL.bin hF rfl rfl rfl rfl ?_
        refine TL.pickF hF rfl (decide_eq_false g12_67) rfl rfl ?_
        refine TL.nil ?_
        refine TQ.then_n ?_
        first | refine T.cond_d rfl (fun ht72=>?_) (fun ht72=>?_) | refine T.cond _ rfl (fun ht72=>?_) (fun ht72=>?_)
        ·refine T.seq ?_
         refine T.region ?_
         refine TL.assign hF rfl rfl ?_
         refine TL.nil ?_
         refine TQ.then_n ?_
         refine T.ret ?_
         refine TQ.block_r ?_
         refine TQ.then_r ?_
         refine TQ.pop ?_
         refine TQ.rets [8] _ rfl rfl rfl ?_
         exact ⟨false,left - 1,rfl,rfl,.n (by omega) (by omega) (by rw [okN6 ht62,decide_eq_false (show ¬ e.n≤funs - 1 by omega),Bool.and_false])⟩
        ·refine T.skip ?_
         refine TQ.block_n ?_
         exact TQ.cut () (by rw [okN6 ht62]; simp only [Bool.and_eq_true,decide_eq_true_eq]; omega) ⟨rfl,rfl,rfl,rfl,rfl,trivial⟩ rfl
      ·refine T.skip ?_
       refine TQ.block_n ?_
       exact TQ.cut () (okN_ ht46 ht52 ht62) ⟨rfl,rfl,rfl,rfl,rfl,trivial⟩ rfl
   ·rintro _ hn
    refine T.seq ?_
    refine T.seq ?_
    refine T.region ?_
    refine TL.fieldAddr hF rfl rfl ?_
    refine TL.load hF rfl (by first | exact At.own' (i:=0) rfl rfl | exact At.own' (i:=1) rfl rfl | exact At.own' (i:=2) rfl rfl | exact At.own' (i:=3) rfl rfl | exact At.own' (i:=4) rfl rfl | exact At.own' (i:=5) rfl rfl | exact At.own' (i:=6) rfl rfl | exact At.own' (i:=7) rfl rfl | exact At.own' (i:=8) rfl rfl | exact At.own' (i:=9) rfl rfl | exact At.own' (i:=10) rfl rfl | exact At.own' (i:=11) rfl rfl | exact At.own' (i:=12) rfl rfl) rfl ?_
    refine TL.len hF rfl rfl ?_
    refine TL.move hF rfl rfl ?_
    refine TL.nil ?_
    refine TQ.then_n ?_
    refine T.block ?_
    refine T.pick [1] [_,_] rfl rfl rfl ?_
    refine T.loop (ι:=Nat × Int) (fun i=>i.1≤e.l.length∧FL e.l left deep funs i.1 i.2) (fun i=>[(1,.int .i64 funs),(2,ptr lb),(3,.int .i64 deep),(8,.bool false),(74,.slice e.a e.l.length e.c),(75,.int .i64 (e.l.length:Int)),(76,.int .i64 (i.1:Int))]) (fun i=>[(lb,Obj.cells #[.int .i64 (i.2)] 3 (0,0))]::η) (fun i=>e.l.length - i.1) (0,left - 1) ⟨Nat.zero_le _,FL.start (by omega)⟩ ⟨rfl,rfl,rfl,rfl,rfl,rfl,rfl,trivial⟩ rfl ?_
    rintro ⟨k,lv⟩ ⟨hk,hfl⟩
    dsimp only at hk hfl
    refine T.seq ?_
    refine T.region ?_
    refine TL.bin hF rfl rfl rfl rfl ?_
    refine TL.nil ?_
    refine TQ.then_n ?_
    refine T.seq ?_
    first | refine T.cond_d rfl (fun ht77=>?_) (fun ht77=>?_) | refine T.cond _ rfl (fun ht77=>?_) (fun ht77=>?_)
    ·refine T.skip ?_
     refine TQ.then_n ?_
     refine T.seq ?_
     refine T.block ?_
     refine T.seq ?_
     refine T.region ?_
     have hkl:k<e.l.length:=by have h:(k:Int)<(e.l.length:Int):=ht77; omega
     refine TL.indexAddr hF rfl rfl (he.fs.ad hkl) (by omega) (by omega) rfl ?_
     refine TL.loadA hF (teC e.l[k]) rfl rfl (he.fs.ro.atA (i:=k) hkl) rfl ?_
     refine TL.alloc hF rfl (fun b10=>?_)
     refine TL.storeAI hF [.int .i64 e.l[k].op,.int .i64 e.l[k].n,.slice e.l[k].a e.l[k].l.length e.l[k].c] 0 rfl rfl rfl rfl (teC1 _) (by simp [Value.cells]) ?_
     refine TL.nil ?_
     refine TQ.then_n ?_
     refine T.seq ?_
     refine T.region ?_
     refine TL.loadA hF [.int .i64 e.l[k].op,.int .i64 e.l[k].n,.slice e.l[k].a e.l[k].l.length e.l[k].c] rfl rfl (own_list (i:=0) rfl) rfl ?_
     refine TL.move hF rfl rfl ?_
     refine TL.move hF rfl rfl ?_
     refine TL.move hF rfl rfl ?_
     refine TL.add hF rfl rfl (by omega) (by omega) rfl ?_
     have hfr:=hfl
     obtain ⟨hl0,hl1,_⟩:=hfl
     refine TL.hsub ([(lb,Obj.cells #[.int .i64 (lv)] 3 (0,0))]::η) (List.sublist_cons_self _ _) ?_
     refine TL.call hF (IH e.l[k] (by have:=size_get hkl; omega) (he.part hkl) lv (deep+1) η hl0 (by omega) (by omega) (by omega)) rfl rfl ?_
     rintro _ _ ⟨b,l',rfl,rfl,hr⟩
     refine TL.not hF rfl rfl ?_
     refine TL.nil ?_
     refine TQ.then_n ?_
     first | refine T.cond_d rfl (fun ht86=>?_) (fun ht86=>?_) | refine T.cond _ rfl (fun ht86=>?_) (fun ht86=>?_)
     ·refine T.seq ?_
      refine T.region ?_
      refine TL.assign hF rfl rfl ?_
      refine TL.nil ?_
      refine TQ.then_n ?_
      refine T.ret ?_
      refine TQ.block_r ?_
      refine TQ.then_r ?_
      refine TQ.then_r ?_
      refine TQ.block_r ?_
      refine TQ.then_r ?_
      have hb:b=false:=by simpa using ht86
      subst hb
      refine TQ.rets [8] _ rfl rfl rfl ?_
      exact ⟨false,l',rfl,rfl,hfr.no hkl hr⟩
     ·refine T.skip ?_
      refine TQ.block_n ?_
      refine TQ.then_n ?_
      refine T.region ?_
      refine TL.add hF rfl rfl (by omega) (by omega) rfl ?_
      refine TL.move hF rfl rfl ?_
      refine TL.nil ?_
      have hb:b=true:=by simpa using ht86
      subst hb
      refine TQ.round (k+1,l') ⟨by dsimp only; omega,hfr.step hkl hr⟩ (by dsimp only; omega) ⟨rfl,rfl,rfl,rfl,rfl,rfl,rfl,trivial⟩ rfl
    ·refine T.exit ?_
     refine TQ.then_x ?_
     refine TQ.then_x ?_
     refine TQ.block_x ?_
     refine TQ.then_n ?_
     refine T.seq ?_
     refine T.region ?_
     refine TL.assign hF rfl rfl ?_
     refine TL.nil ?_
     refine TQ.then_n ?_
     refine T.ret ?_
     refine TQ.rets [8] _ rfl rfl rfl ?_
     exact ⟨true,lv,rfl,rfl,hfl.done (by have h:¬ (k:Int)<(e.l.length:Int):=ht77; omega) (by omega) hpr hn⟩
theorem formed_all {lb:Nat} {funs:Int} (hT:Tabs S w0):∀ m:Nat,∀ x:TE,sizeE x.ex<m→Tr S w0 [] x→∀ (left deep:Int) (η:Heap),0≤left→left≤40→1≤deep→deep≤21→Rt Tryd.prog 52 [teV x,.int .i64 funs,ptr lb,.int .i64 deep].toArray S w0 ([(lb,Obj.cells #[.int .i64 (left)] 3 (0,0))]::η) (fun v η'=>∃ (b:Bool) (l':Int),v = .bool b∧η'=[(lb,Obj.cells #[.int .i64 (l')] 3 (0,0))]::η∧FR x left deep funs b l')
 | 0,x,h=>by omega
 | m+1,x,h=>fun hx left deep η h0 h1 h2 h3=>formed_step hT m (formed_all hT m) x (by omega) hx left deep η h0 h1 h2 h3
theorem formed_fn {lb : Nat} {funs : Int} (hT : Tabs S w0) (x : TE) (hx : Tr S w0 [] x) (left deep : Int) (η : Heap) (h0 : 0 ≤ left) (h1 : left ≤ 40) (h2 : 1 ≤ deep) (h3 : deep ≤ 21) :
  Rt Tryd.prog 52 [teV x,.int .i64 funs,ptr lb,.int .i64 deep].toArray S w0 ([(lb,Obj.cells #[.int .i64 (left)] 3 (0,0))]::η) (fun v η'=>∃ (b:Bool) (l':Int),v = .bool b∧η'=[(lb,Obj.cells #[.int .i64 (l')] 3 (0,0))]::η∧FR x left deep funs b l'):=formed_all hT _ x (Nat.lt_succ_self _) hx left deep η h0 h1 h2 h3
theorem okE_fr {x:TE} {funs l':Int} {b:Bool} (h:FR x 40 1 funs b l'):okE funs x.ex=b:=by
 obtain ⟨_,_,h3,_⟩:=h
 rw [Bool.eq_iff_iff,h3]
 unfold okE
 simp only [Bool.and_eq_true,decide_eq_true_eq,and_assoc]
 constructor
 ·rintro ⟨a,b,c⟩; exact ⟨by omega,by omega,c⟩
 ·rintro ⟨a,b,c⟩; exact ⟨by omega,by omega,c⟩
theorem checkS_all {l:List TE} (h:1≤l.length∧l.length≤8):checkS (l.map TE.ex)=if l.all (fun x=>okE l.length x.ex)=true then 0 else 1:=by
 unfold checkS
 simp only [List.length_map,List.all_map,h,true_and,and_self,Function.comp_def]
theorem checkS_len {l:List TE} (h:¬ (1≤l.length∧l.length≤8)):checkS (l.map TE.ex)=1:=by
 unfold checkS
 rw [if_neg]
 rintro ⟨h2,_⟩
 rw [List.length_map] at h2
 exact h h2
set_option maxHeartbeats 2000000 in
theorem Check_fn {a : Option Addr} {l : List TE} {c : Nat} (hT : Tabs S w0) (hf : Fs S w0 [] a l) (hl : l.length < 9223372036854775808) :
  Rt Tryd.prog 32 [.slice a l.length c].toArray S w0 η (fun v η'=>v = .int .i64 (checkS (l.map TE.ex))∧η'=η):=by
 have hF:=open_wide
 refine Rt.of (fn:=Tryd.f32) Tryd.func32 rfl rfl ?_
 refine T.seq ?_
 refine T.region ?_
 refine TL.assign hF rfl rfl ?_
 refine TL.nil ?_
 refine TQ.then_n ?_
 refine T.seq ?_
 refine T.seq ?_
 refine T.region ?_
 refine TL.move hF rfl rfl ?_
 refine TL.len hF rfl rfl ?_
 refine TL.bin hF rfl rfl rfl rfl ?_
 refine TL.move hF rfl rfl ?_
 refine TL.gd (t:=9) rfl (fun g1_9=>?_) (fun g1_9=>?_)
 ·refine TL.off hF rfl rfl rfl (decide_eq_true g1_9) rfl ?_
  refine TL.off hF rfl rfl rfl (decide_eq_true g1_9) rfl ?_
  refine TL.off hF rfl rfl rfl (decide_eq_true g1_9) rfl ?_
  refine TL.pickT hF rfl (decide_eq_true g1_9) rfl rfl ?_
  refine TL.nil ?_
  refine TQ.then_n ?_
  refine T.cond_t rfl rfl ?_
  refine T.seq ?_
  refine T.region ?_
  refine TL.assign hF rfl rfl ?_
  refine TL.nil ?_
  refine TQ.then_n ?_
  refine T.ret ?_
  refine TQ.then_r ?_
  refine TQ.rets [2] _ rfl rfl rfl ?_
  exact ⟨by rw [checkS_len (by omega)]; rfl,rfl⟩
 ·refine TL.on rfl rfl rfl (decide_eq_false g1_9) ?_
  refine TL.move hF rfl rfl ?_
  refine TL.on rfl rfl rfl (decide_eq_false g1_9) ?_
  refine TL.len hF rfl rfl ?_
  refine TL.on rfl rfl rfl (decide_eq_false g1_9) ?_
  refine TL.bin hF rfl rfl rfl rfl ?_
  refine TL.pickF hF rfl (decide_eq_false g1_9) rfl rfl ?_
  refine TL.nil ?_
  refine TQ.then_n ?_
  first | refine T.cond_d rfl (fun ht13=>?_) (fun ht13=>?_) | refine T.cond _ rfl (fun ht13=>?_) (fun ht13=>?_)
  ·refine T.seq ?_
   refine T.region ?_
   refine TL.assign hF rfl rfl ?_
   refine TL.nil ?_
   refine TQ.then_n ?_
   refine T.ret ?_
   refine TQ.then_r ?_
   refine TQ.rets [2] _ rfl rfl rfl ?_
   exact ⟨by rw [checkS_len (by omega)]; rfl,rfl⟩
  ·refine T.skip ?_
   refine TQ.then_n ?_
   refine T.seq ?_
   refine T.seq ?_
   refine T.region ?_
   refine TL.move hF rfl rfl ?_
   refine TL.len hF rfl rfl ?_
   refine TL.move hF rfl rfl ?_
   refine TL.nil ?_
   refine TQ.then_n ?_
   refine T.block ?_
   have hrange:1≤l.length∧l.length≤8:=by omega
   refine T.loop (ι:=Nat) (fun k=>k≤l.length∧∀ x∈l.take k,okE l.length x.ex=true) (fun k=>[(0,.slice a l.length c),(2,.int .i64 0),(14,.slice a l.length c),(15,.int .i64 (l.length:Int)),(16,.int .i64 (k:Int))]) (fun _=>η) (fun k=>l.length - k) 0 ⟨Nat.zero_le _,by simp⟩ ⟨rfl,rfl,rfl,rfl,rfl,trivial⟩ rfl ?_
   rintro k ⟨hk,hno⟩
   refine T.seq ?_
   refine T.region ?_
   refine TL.bin hF rfl rfl rfl rfl ?_
   refine TL.nil ?_
   refine TQ.then_n ?_
   refine T.seq ?_
   first | refine T.cond_d rfl (fun ht17=>?_) (fun ht17=>?_) | refine T.cond _ rfl (fun ht17=>?_) (fun ht17=>?_)
   ·refine T.skip ?_
    refine TQ.then_n ?_
    refine T.seq ?_
    refine T.block ?_
    refine T.seq ?_
    refine T.region ?_
    have hkl:k<l.length:=by have h:(k:Int)<(l.length:Int):=ht17; omega
    refine TL.indexAddr hF rfl rfl (hf.ad hkl) (by omega) (by omega) rfl ?_
    refine TL.loadA hF (teC l[k]) rfl rfl (hf.ro.atA (i:=k) hkl) rfl ?_
    refine TL.alloc hF rfl (fun b4=>?_)
    refine TL.storeAI hF [.int .i64 l[k].op,.int .i64 l[k].n,.slice l[k].a l[k].l.length l[k].c] 0 rfl rfl rfl rfl (teC1 _) (by simp [Value.cells]) ?_
    refine TL.nil ?_
    refine TQ.then_n ?_
    refine T.seq ?_
    refine T.region ?_
    refine TL.alloc hF rfl (fun b5=>?_)
    first | refine TL.storeI hF 0 rfl rfl rfl rfl (by first | decide | simp) ?_ | refine TL.storeI hF 1 rfl rfl rfl rfl (by first | decide | simp) ?_ | refine TL.storeI hF 2 rfl rfl rfl rfl (by first | decide | simp) ?_ | refine TL.storeI hF 3 rfl rfl rfl rfl (by first | decide | simp) ?_ | refine TL.storeI hF 4 rfl rfl rfl rfl (by first | decide | simp) ?_ | refine TL.storeI hF 5 rfl rfl rfl rfl (by first | decide | simp) ?_
    refine TL.nil ?_
    refine TQ.then_n ?_
    refine T.seq ?_
    refine T.region ?_
    refine TL.loadA hF [.int .i64 l[k].op,.int .i64 l[k].n,.slice l[k].a l[k].l.length l[k].c] rfl rfl (own_list (i:=1) rfl) rfl ?_
    refine TL.move hF rfl rfl ?_
    refine TL.len hF rfl rfl ?_
    refine TL.call hF (formed_fn (funs:=(l.length:Int)) hT l[k] (hf.item _ (List.getElem_mem hkl)) 40 1 _ (by omega) (by omega) (by omega) (by omega)) rfl rfl ?_
    rintro _ _ ⟨b,l',rfl,rfl,hr⟩
    have hb:=okE_fr hr
    refine TL.not hF rfl rfl ?_
    refine TL.nil ?_
    refine TQ.then_n ?_
    first | refine T.cond_d rfl (fun ht24=>?_) (fun ht24=>?_) | refine T.cond _ rfl (fun ht24=>?_) (fun ht24=>?_)
    ·refine T.seq ?_
     refine T.region ?_
     refine TL.assign hF rfl rfl ?_
     refine TL.nil ?_
     refine TQ.then_n ?_
     refine T.ret ?_
     refine TQ.block_r ?_
     refine TQ.then_r ?_
     refine TQ.then_r ?_
     refine TQ.block_r ?_
     refine TQ.then_r ?_
     have hbf:b=false:=by simpa using ht24
     rw [hbf] at hb
     refine TQ.pop (TQ.pop ?_)
     refine TQ.rets [2] _ rfl rfl rfl ?_
     refine ⟨?_,rfl⟩
     rw [checkS_all hrange,if_neg]; rfl
     intro h
     rw [List.all_eq_true] at h
     have:=h l[k] (List.getElem_mem hkl)
     rw [hb] at this; cases this
    ·refine T.skip ?_
     refine TQ.block_n ?_
     refine TQ.then_n ?_
     refine T.region ?_
     refine TL.add hF rfl rfl (by omega) (by omega) rfl ?_
     refine TL.move hF rfl rfl ?_
     refine TL.nil ?_
     have hbt:b=true:=by simpa using ht24
     rw [hbt] at hb
     refine TQ.pop (TQ.pop ?_)
     refine TQ.round (k+1) ⟨by omega,fun x hx=>?_⟩ (by omega) ⟨rfl,rfl,rfl,rfl,rfl,trivial⟩ rfl
     rw [List.take_succ_eq_append_getElem hkl] at hx
     rcases List.mem_append.1 hx with h | h
     ·exact hno x h
     ·rw [List.mem_singleton.1 h]; exact hb
   ·refine T.exit ?_
    refine TQ.then_x ?_
    refine TQ.then_x ?_
    refine TQ.block_x ?_
    refine TQ.then_n ?_
    refine T.seq ?_
    refine T.region ?_
    refine TL.assign hF rfl rfl ?_
    refine TL.nil ?_
    refine TQ.then_n ?_
    refine T.ret ?_
    refine TQ.rets [2] _ rfl rfl rfl ?_
    refine ⟨?_,rfl⟩
    rw [checkS_all hrange,if_pos]; rfl
    rw [List.all_eq_true]
    intro x hx
    exact hno x (by rw [List.take_of_length_le (by have h:¬ (k:Int)<(l.length:Int):=ht17; omega)]; exact hx)
end Go.Proofs.YtdiacobmhkmljaaDoor
