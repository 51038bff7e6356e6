/- Several texts in one. -/
import Derived.Test.YtbajelldegijkaaDoorVd
import Derived.Test.YtbajelldegijkaaDoorVb
import Derived.Test.YtbajelldegijkaaDoorVc
/- The library's stable sort, whole; rows by time. -/
namespace Go.Proofs.YtbajelldegijkaaDoor
open Go.Sl
variable {S:Nat→Prop} {w0:World} {η:Heap}
/-- From a place on, pieces of one size that are each in order. -/
def BL (d:List Rw) (bs lo:Nat):Prop:=∀ k,SrtR d (lo+k*bs) (min d.length (lo+k*bs+bs))
/-- So many pieces in order, from the front. -/
def ML (d:List Rw) (w c:Nat):Prop:=∀ q,q<c→SrtR d (q*w) (q*w+w)
theorem BL.two {d:List Rw} {bs a:Nat} (h:BL d bs a):SrtR d a (min d.length (a+bs))∧SrtR d (a+bs) (min d.length (a+2*bs)):=by
 have h0:=h 0
 have h1:=h 1
 rw [Nat.zero_mul,Nat.add_zero] at h0
 rw [Nat.one_mul,show a+bs+bs=a+2*bs by omega] at h1
 exact ⟨h0,h1⟩
theorem BL.next {d d':List Rw} {bs a:Nat} (h:BL d bs a) (c:Ch a (a+2*bs) d d'):BL d' bs (a+2*bs):=fun k=>by
 have hk:=h (k+2)
 rw [Nat.add_mul,c.len.symm,show a+(k*bs+2*bs)=a+2*bs+k*bs by omega] at hk
 exact hk.same fun i h1 h2=>c.tm (.inr (by omega))
theorem ML.next {d d':List Rw} {w c a:Nat} (h:ML d w c) (ha:a=c*w) (ch:Ch a (a+w) d d') (s:SrtR d' a (a+w)):ML d' w (c+1):=fun q hq=>by
 rcases Nat.lt_or_ge q c with u | u
 ·have h1:(q+1)*w≤c*w:=Nat.mul_le_mul_right _ u
  rw [Nat.add_mul,Nat.one_mul] at h1
  exact (h q u).same fun i h2 h3=>ch.tm (.inl (by omega))
 ·rw [show q=c by omega,← ha]; exact s
theorem ML.last {d d':List Rw} {w c a n:Nat} (h:ML d w c) (ha:a=c*w) (hn:n=d.length) (han:a≤n) (hw:n<a+w) (ch:Ch a n d d') (s:SrtR d' a n):BL d' w 0:=fun k=>by
 rw [Nat.zero_add,ch.len,← hn]
 rcases Nat.lt_trichotomy k c with u | u | u
 ·have h1:(k+1)*w≤c*w:=Nat.mul_le_mul_right _ u
  rw [Nat.add_mul,Nat.one_mul] at h1
  rw [Nat.min_eq_right (by omega)]
  exact (h k u).same fun i h2 h3=>ch.tm (.inl (by omega))
 ·rw [u,← ha,Nat.min_eq_left (by omega)]; exact s
 ·have h1:(c+1)*w≤k*w:=Nat.mul_le_mul_right _ u
  rw [Nat.add_mul,Nat.one_mul] at h1
  exact SrtR.one (by omega)
theorem ML.zero {d:List Rw} {w:Nat}:ML d w 0:=fun q h=>by omega
set_option maxHeartbeats 8000000 in
theorem stable_fn {g : Nat} {d : List Rw} (hd : d.length < 100000) (hb0 : TB d) :
  Rt Tryd.prog 116 [.slice (some ⟨g,0,none⟩) d.length d.length,.int .i64 (d.length:Int),.func (.func 115) #[] #[]].toArray S w0 ([(g,Obj.cells ((d).flatMap rwC).toArray 57 (0,0))]::η) (fun _v η'=>∃ d',d'.Perm d∧SrtR d' 0 d.length∧η'=[(g,Obj.cells ((d').flatMap rwC).toArray 57 (0,0))]::η):=by
 have hF:=open_wide
 refine Rt.of (fn:=Tryd.f116) Tryd.func116 rfl rfl ?_
 refine T.seq ?_
 refine T.region ?_
 refine TL.assign hF rfl rfl ?_
 refine TL.nil ?_
 refine TQ.then_n ?_
 refine T.seq ?_
 refine T.region ?_
 refine TL.move hF rfl rfl ?_
 refine TL.assign hF rfl rfl ?_
 refine TL.assign hF rfl rfl ?_
 refine TL.nil ?_
 refine TQ.then_n ?_
 refine T.seq ?_
 refine T.block ?_
 refine T.loop (ι:=Nat × Nat × List Rw) (fun s=>s.2.1=s.1*20∧s.2.1≤d.length∧ML s.2.2 20 s.1∧Ch 0 d.length d s.2.2) (fun s=>[(0,.slice (some ⟨g,0,none⟩) d.length d.length),(1,.int .i64 (d.length:Int)),(2,.func (.func 115) #[] #[]),(6,.int .i64 20),(7,.int .i64 (s.2.1:Int)),(8,.int .i64 ((s.2.1+20:Nat):Int))]) (fun s=>[(g,Obj.cells ((s.2.2).flatMap rwC).toArray 57 (0,0))]::η) (fun s=>d.length - s.2.1) (0,0,d) ⟨rfl,Nat.zero_le _,ML.zero,Ch.refl⟩ ⟨rfl,rfl,rfl,rfl,rfl,rfl,trivial⟩ rfl ?_
 rintro ⟨c,a,d1⟩ ⟨hac,han,hml,hch⟩
 dsimp only at hac han hml hch
 have hl1:=hch.len
 refine T.seq ?_
 refine T.seq ?_
 refine T.region ?_
 refine TL.move hF rfl rfl ?_
 refine TL.move hF rfl rfl ?_
 refine TL.bin hF rfl rfl rfl rfl ?_
 refine TL.nil ?_
 refine TQ.then_n ?_
 first | refine T.cond_d rfl (fun ht13=>?_) (fun ht13=>?_) | refine T.cond _ rfl (fun ht13=>?_) (fun ht13=>?_)
 ·refine T.skip ?_
  refine TQ.then_n ?_
  refine T.block ?_
  refine T.seq ?_
  refine T.region ?_
  refine TL.move hF rfl rfl ?_
  refine TL.move hF rfl rfl ?_
  refine TL.move hF rfl rfl ?_
  refine TL.move hF rfl rfl ?_
  have hbn:a+20≤d.length:=by have h:((a+20:Nat):Int)≤(d.length:Int):=ht13; omega
  have hsr:=ins_fn (S:=S) (w0:=w0) (η:=η) (g:=g) (d:=d1) (a:=a) (b:=a+20) rfl rfl (by omega) (hb0.ch hch) (by omega) (by omega)
  refine TL.call hF (Rt.args hsr (by rw [hl1] <;> rfl)) rfl rfl ?_
  rintro _ _ ⟨d2,hc2,hs2,rfl⟩
  refine TL.nil ?_
  refine TQ.then_n ?_
  refine T.seq ?_
  refine T.region ?_
  refine TL.move hF rfl rfl ?_
  refine TL.assign hF rfl rfl ?_
  refine TL.nil ?_
  refine TQ.then_n ?_
  refine T.region ?_
  refine TL.move hF rfl rfl ?_
  refine TL.move hF rfl rfl ?_
  refine TL.add hF rfl rfl (by first | omega | (dsimp only; omega)) (by first | omega | (dsimp only; omega)) rfl ?_
  refine TL.assign hF rfl rfl ?_
  refine TL.nil ?_
  refine TQ.block_n ?_
  exact TQ.round (c+1,a+20,d2) ⟨by dsimp only; omega,by dsimp only; omega,hml.next hac hc2 hs2,hch.trans (hc2.wide (by omega) (by omega))⟩ (by dsimp only; omega) ⟨rfl,rfl,rfl,rfl,rfl,congrArg (fun z=>some (Value.int .i64 z)) (by first | rfl | omega | (dsimp only; omega)),trivial⟩ rfl
 ·refine T.exit ?_
  refine TQ.then_x ?_
  refine TQ.then_x ?_
  refine TQ.block_x ?_
  refine TQ.then_n ?_
  refine T.seq ?_
  refine T.region ?_
  refine TL.move hF rfl rfl ?_
  refine TL.move hF rfl rfl ?_
  refine TL.move hF rfl rfl ?_
  refine TL.move hF rfl rfl ?_
  have hbn:d.length<a+20:=by have h:¬ ((a+20:Nat):Int)≤(d.length:Int):=ht13; omega
  have hsr:=ins_fn (S:=S) (w0:=w0) (η:=η) (g:=g) (d:=d1) (a:=a) (b:=d.length) rfl rfl (by omega) (hb0.ch hch) (by omega) (by omega)
  refine TL.call hF (Rt.args hsr (by rw [hl1] <;> rfl)) rfl rfl ?_
  rintro _ _ ⟨d2,hc2,hs2,rfl⟩
  have hbl0:BL d2 20 0:=hml.last hac hl1.symm han hbn hc2 hs2
  have hch0:Ch 0 d.length d d2:=hch.trans (hc2.wide (by omega) (by omega))
  refine TL.nil ?_
  refine TQ.then_n ?_
  refine T.block ?_
  clear hch hml hac han hbn hs2 hc2 hl1 hsr
  refine T.loop (ι:=Nat × List Rw) (fun s=>0<s.1∧s.1≤20+2*d.length∧BL s.2 s.1 0∧Ch 0 d.length d s.2) (fun s=>[(0,.slice (some ⟨g,0,none⟩) d.length d.length),(1,.int .i64 (d.length:Int)),(2,.func (.func 115) #[] #[]),(6,.int .i64 (s.1:Int))]) (fun s=>[(g,Obj.cells ((s.2).flatMap rwC).toArray 57 (0,0))]::η) (fun s=>d.length - s.1) (20,d2) ⟨Nat.succ_pos _,by dsimp only; omega,hbl0,hch0⟩ ⟨rfl,rfl,rfl,rfl,trivial⟩ rfl ?_
  clear hbl0 hch0
  rintro ⟨bs,d1⟩ ⟨hbs,hbn,hbl,hch⟩
  dsimp only at hbs hbn hbl hch
  have hl1:=hch.len
  refine T.seq ?_
  refine T.seq ?_
  refine T.region ?_
  refine TL.move hF rfl rfl ?_
  refine TL.move hF rfl rfl ?_
  refine TL.bin hF rfl rfl rfl rfl ?_
  refine TL.nil ?_
  refine TQ.then_n ?_
  first | refine T.cond_d rfl (fun ht30=>?_) (fun ht30=>?_) | refine T.cond _ rfl (fun ht30=>?_) (fun ht30=>?_)
  ·refine T.skip ?_
   refine TQ.then_n ?_
   refine T.block ?_
   refine T.seq ?_
   refine T.region ?_
   refine TL.move hF rfl rfl ?_
   refine TL.mul hF rfl rfl (by first | omega | (dsimp only; omega)) (by first | omega | (dsimp only; omega)) rfl ?_
   refine TL.assign hF rfl rfl ?_
   refine TL.assign hF rfl rfl ?_
   refine TL.nil ?_
   refine TQ.then_n ?_
   refine T.seq ?_
   refine T.block ?_
   have hlt:bs<d.length:=by have h:(bs:Int)<(d.length:Int):=ht30; omega
   refine T.loop (ι:=Nat × Nat × List Rw) (fun s=>s.2.1=s.1*(2*bs)∧s.2.1≤d.length∧ML s.2.2 (2*bs) s.1∧BL s.2.2 bs s.2.1∧Ch 0 d.length d s.2.2) (fun s=>[(0,.slice (some ⟨g,0,none⟩) d.length d.length),(1,.int .i64 (d.length:Int)),(2,.func (.func 115) #[] #[]),(6,.int .i64 (bs:Int)),(7,.int .i64 (s.2.1:Int)),(8,.int .i64 ((s.2.1+2*bs:Nat):Int))]) (fun s=>[(g,Obj.cells ((s.2.2).flatMap rwC).toArray 57 (0,0))]::η) (fun s=>d.length - s.2.1) (0,0,d1) ⟨by simp,Nat.zero_le _,ML.zero,hbl,hch⟩ ⟨rfl,rfl,rfl,rfl,rfl,congrArg (fun z=>some (Value.int .i64 z)) (by first | rfl | omega | (dsimp only; omega)),trivial⟩ rfl ?_
   rintro ⟨c,a,d2⟩ ⟨hac,han,hml,hbl2,hch2⟩
   dsimp only at hac han hml hbl2 hch2
   have hl2:=hch2.len
   obtain ⟨hq1,hq2⟩:=hbl2.two
   refine T.seq ?_
   refine T.seq ?_
   refine T.region ?_
   refine TL.move hF rfl rfl ?_
   refine TL.move hF rfl rfl ?_
   refine TL.bin hF rfl rfl rfl rfl ?_
   refine TL.nil ?_
   refine TQ.then_n ?_
   first | refine T.cond_d rfl (fun ht35=>?_) (fun ht35=>?_) | refine T.cond _ rfl (fun ht35=>?_) (fun ht35=>?_)
   ·refine T.skip ?_
    refine TQ.then_n ?_
    refine T.block ?_
    refine T.seq ?_
    refine T.region ?_
    refine TL.move hF rfl rfl ?_
    refine TL.move hF rfl rfl ?_
    refine TL.move hF rfl rfl ?_
    refine TL.move hF rfl rfl ?_
    refine TL.add hF rfl rfl (by first | omega | (dsimp only; omega)) (by first | omega | (dsimp only; omega)) rfl ?_
    refine TL.move hF rfl rfl ?_
    refine TL.move hF rfl rfl ?_
    have h2n:a+2*bs≤d.length:=by have h:((a+2*bs:Nat):Int)≤(d.length:Int):=ht35; omega
    rw [Nat.min_eq_right (by omega)] at hq1 hq2
    have hsr:=sym_fn (a+2*bs - a) (S:=S) (w0:=w0) (η:=η) (g:=g) (d:=d2) (a:=a) (m:=a+bs) (b:=a+2*bs) (x:=((a:Nat):Int)) (y:=((a:Nat):Int)+((bs:Nat):Int)) (z:=((a+2*bs:Nat):Int)) rfl (by omega) rfl (Nat.le_refl _) (by omega) (hb0.ch hch2) (by omega) (by omega) (by omega) hq1 hq2
    refine TL.call hF (Rt.args hsr (by rw [hl2] <;> rfl)) rfl rfl ?_
    rintro _ _ ⟨d3,hc3,hs3,rfl⟩
    refine TL.nil ?_
    refine TQ.then_n ?_
    refine T.seq ?_
    refine T.region ?_
    refine TL.move hF rfl rfl ?_
    refine TL.assign hF rfl rfl ?_
    refine TL.nil ?_
    refine TQ.then_n ?_
    refine T.region ?_
    refine TL.move hF rfl rfl ?_
    refine TL.move hF rfl rfl ?_
    refine TL.mul hF rfl rfl (by first | omega | (dsimp only; omega)) (by first | omega | (dsimp only; omega)) rfl ?_
    refine TL.add hF rfl rfl (by first | omega | (dsimp only; omega)) (by first | omega | (dsimp only; omega)) rfl ?_
    refine TL.assign hF rfl rfl ?_
    refine TL.nil ?_
    refine TQ.block_n ?_
    have e:a+2*bs=(c+1)*(2*bs):=by rw [Nat.add_mul,Nat.one_mul,← hac]
    exact TQ.round (c+1,a+2*bs,d3) ⟨e,by dsimp only; omega,hml.next hac hc3 hs3,hbl2.next hc3,hch2.trans (hc3.wide (by omega) (by omega))⟩ (by dsimp only; omega) ⟨rfl,rfl,rfl,rfl,rfl,congrArg (fun z=>some (Value.int .i64 z)) (by first | rfl | omega | (dsimp only; omega)),trivial⟩ rfl
   ·refine T.exit ?_
    refine TQ.then_x ?_
    refine TQ.then_x ?_
    refine TQ.block_x ?_
    refine TQ.then_n ?_
    refine T.seq ?_
    refine T.seq ?_
    refine T.region ?_
    refine TL.move hF rfl rfl ?_
    refine TL.move hF rfl rfl ?_
    refine TL.add hF rfl rfl (by first | omega | (dsimp only; omega)) (by first | omega | (dsimp only; omega)) rfl ?_
    refine TL.assign hF rfl rfl ?_
    refine TL.nil ?_
    refine TQ.then_n ?_
    refine T.seq ?_
    refine T.region ?_
    refine TL.move hF rfl rfl ?_
    refine TL.move hF rfl rfl ?_
    refine TL.bin hF rfl rfl rfl rfl ?_
    refine TL.nil ?_
    refine TQ.then_n ?_
    have h2n:d.length<a+2*bs:=by have h:¬ ((a+2*bs:Nat):Int)≤(d.length:Int):=ht35; omega
    refine T.cond_d rfl (fun ht54=>?_) (fun ht54=>?_)
    ·refine T.region ?_
     refine TL.move hF rfl rfl ?_
     refine TL.move hF rfl rfl ?_
     refine TL.move hF rfl rfl ?_
     refine TL.move hF rfl rfl ?_
     refine TL.move hF rfl rfl ?_
     have hmn:a+bs<d.length:=by have h:(a:Int)+(bs:Int)<(d.length:Int):=ht54; omega
     rw [Nat.min_eq_right (by omega)] at hq1
     rw [Nat.min_eq_left (by omega),hl2] at hq2
     have hsr:=sym_fn (d.length - a) (S:=S) (w0:=w0) (η:=η) (g:=g) (d:=d2) (a:=a) (m:=a+bs) (b:=d.length) (x:=((a:Nat):Int)) (y:=((a:Nat):Int)+((bs:Nat):Int)) (z:=((d.length:Nat):Int)) rfl (by omega) rfl (Nat.le_refl _) (by omega) (hb0.ch hch2) (by omega) (by omega) (by omega) hq1 hq2
     refine TL.call hF (Rt.args hsr (by rw [hl2] <;> rfl)) rfl rfl ?_
     rintro _ _ ⟨d3,hc3,hs3,rfl⟩
     refine TL.nil ?_
     refine TQ.then_n ?_
     refine T.region ?_
     refine TL.move hF rfl rfl ?_
     refine TL.mul hF rfl rfl (by first | omega | (dsimp only; omega)) (by first | omega | (dsimp only; omega)) rfl ?_
     refine TL.assign hF rfl rfl ?_
     refine TL.nil ?_
     refine TQ.block_n ?_
     exact TQ.round (2*bs,d3) ⟨by dsimp only; omega,by dsimp only; omega,hml.last hac hl2.symm han h2n hc3 hs3,hch2.trans (hc3.wide (by omega) (by omega))⟩ (by dsimp only; omega) ⟨rfl,rfl,rfl,congrArg (fun z=>some (Value.int .i64 z)) (by first | rfl | omega | (dsimp only; omega)),trivial⟩ rfl
    ·refine T.skip ?_
     refine TQ.then_n ?_
     refine T.region ?_
     refine TL.move hF rfl rfl ?_
     refine TL.mul hF rfl rfl (by first | omega | (dsimp only; omega)) (by first | omega | (dsimp only; omega)) rfl ?_
     refine TL.assign hF rfl rfl ?_
     refine TL.nil ?_
     refine TQ.block_n ?_
     have hmn:d.length≤a+bs:=by have h:¬ (a:Int)+(bs:Int)<(d.length:Int):=ht54; omega
     rw [Nat.min_eq_left (by omega),hl2] at hq1
     exact TQ.round (2*bs,d2) ⟨by dsimp only; omega,by dsimp only; omega,hml.last hac hl2.symm han h2n Ch.refl hq1,hch2⟩ (by dsimp only; omega) ⟨rfl,rfl,rfl,congrArg (fun z=>some (Value.int .i64 z)) (by first | rfl | omega | (dsimp only; omega)),trivial⟩ rfl
  ·refine T.exit ?_
   refine TQ.then_x ?_
   refine TQ.then_x ?_
   refine TQ.block_x ?_
   refine TQ.norm ?_
   have hge:d.length≤bs:=by have h:¬ (bs:Int)<(d.length:Int):=ht30; omega
   refine TQ.rets [] _ rfl rfl rfl ⟨d1,hch.perm,?_,rfl⟩
   have h0:=hbl 0
   rw [Nat.zero_mul,Nat.add_zero,Nat.zero_add,Nat.min_eq_left (by omega),hl1] at h0
   exact h0
set_option maxHeartbeats 2000000 in
theorem sortStable_fn {g : Nat} {d : List Rw} (hd : d.length < 100000) (hb0 : TB d) :
  Rt Tryd.prog 114 [.slice (some ⟨g,0,none⟩) d.length d.length,.func (.func 115) #[] #[]].toArray S w0 ([(g,Obj.cells ((d).flatMap rwC).toArray 57 (0,0))]::η) (fun _v η'=>∃ d',d'.Perm d∧SrtR d' 0 d.length∧η'=[(g,Obj.cells ((d').flatMap rwC).toArray 57 (0,0))]::η):=by
 have hF:=open_wide
 refine Rt.of (fn:=Tryd.f114) Tryd.func114 rfl rfl ?_
 refine T.region ?_
 refine TL.move hF rfl rfl ?_
 refine TL.move hF rfl rfl ?_
 refine TL.len hF rfl rfl ?_
 refine TL.move hF rfl rfl ?_
 refine TL.call hF (stable_fn (g:=g) hd hb0) rfl rfl ?_
 rintro _ _ ⟨d2,hp,hs,rfl⟩
 refine TL.nil ?_
 refine TQ.norm ?_
 exact TQ.rets [] _ rfl rfl rfl ⟨d2,hp,hs,rfl⟩
theorem zero_rows (k:Nat):((Array.range (k*3)).map fun i=>(Value.agg #[.int .i64 0,.int .i64 0,.int .i64 0]).cells[i % (Value.agg #[.int .i64 0,.int .i64 0,.int .i64 0]).cells.size]!)=(List.replicate (k*3) (Value.int .i64 0)).toArray:=by
 apply Array.ext
 ·simp
 ·intro i h1 h2
  simp only [Array.getElem_map,Array.getElem_range,List.getElem_toArray,List.getElem_replicate]
  show (#[Value.int .i64 0,Value.int .i64 0,Value.int .i64 0]:Array Value)[i % 3]! = _
  have:i % 3=0∨i % 3=1∨i % 3=2:=by omega
  rcases this with e | e | e <;> rw [e] <;> rfl
set_option maxHeartbeats 2000000 in
theorem byTime_fn {a : Option Addr} {l : List Rw} {c : Nat} (hr : RRow S w0 η a l) (hd : l.length < 100000) (hb0 : TB l) :
  Rt Tryd.prog 112 [.slice a l.length c].toArray S w0 η (fun v η'=>∃ g d,v = .slice (some ⟨g,0,none⟩) d.length d.length∧d.Perm l∧SrtR d 0 d.length∧η'=[(g,Obj.cells ((d).flatMap rwC).toArray 57 (0,0))]::η):=by
 have hF:=open_wide
 refine Rt.of (fn:=Tryd.f112) Tryd.func112 rfl rfl ?_
 refine T.seq ?_
 refine T.region ?_
 refine TL.assign hF rfl rfl ?_
 refine TL.nil ?_
 refine TQ.then_n ?_
 refine T.seq ?_
 refine T.region ?_
 refine TL.move hF rfl rfl ?_
 refine TL.len hF rfl rfl ?_
 refine TL.makeSliceZ hF (k:=l.length) rfl rfl (List.replicate (l.length*3) (.int .i64 0)) (fun _=>zero_rows _) (fun h=>by rw [h]; rfl) (by decide) (by omega) (by omega) rfl (fun g=>?_)
 refine TL.assign hF rfl rfl ?_
 refine TL.nil ?_
 refine TQ.then_n ?_
 refine T.seq ?_
 refine T.region ?_
 refine TL.move hF rfl rfl ?_
 refine TL.move hF rfl rfl ?_
 refine TL.copy hF 0 (news:=l.flatMap rwC) (new:=l.flatMap rwC) rfl rfl rfl (by simp) (hr.up (fun _ hs=>List.mem_cons_of_mem _ hs)) (flat3 l) (rwC_mem1 l) (by simp) (by simp) rfl ?_
 refine TL.nil ?_
 refine TQ.then_n ?_
 refine T.seq ?_
 refine T.region ?_
 refine TL.move hF rfl rfl ?_
 refine TL.heap (η':=[(g,Obj.cells ((l).flatMap rwC).toArray 57 (0,0))]::η) rfl ?_
 refine TL.call hF (sortStable_fn (g:=g) hd hb0) rfl rfl ?_
 rintro _ _ ⟨d2,hp,hs,rfl⟩
 refine TL.nil ?_
 refine TQ.then_n ?_
 refine T.seq ?_
 refine T.region ?_
 refine TL.move hF rfl rfl ?_
 refine TL.move hF rfl rfl ?_
 refine TL.len hF rfl rfl ?_
 refine TL.move hF rfl rfl ?_
 refine TL.len hF rfl rfl ?_
 refine TL.slice3 hF rfl rfl rfl rfl ?_
 refine TL.assign hF rfl rfl ?_
 refine TL.nil ?_
 refine TQ.then_n ?_
 refine T.ret ?_
 refine TQ.rets [2] _ rfl rfl rfl ⟨g,d2,by rw [hp.length_eq]; rfl,hp,by rw [hp.length_eq]; exact hs,rfl⟩
end Go.Proofs.YtbajelldegijkaaDoor
/- Sessions: what a row takes in, and all of them. -/
namespace Go.Proofs.YtbajelldegijkaaDoor
open Go.Sl
variable {S:Nat→Prop} {w0:World} {η:Heap}
/-- Times as they are asked for. -/
def Tms (l:List Rw):Prop:=∀ r∈l,0≤r.time∧r.time≤1048576
theorem takeS_cons (s:Wsp) (key:Int) (r:Rw) (t:List Rw) (to w:Int):takeS s key (r::t) to w=if r.key=key then (if to≤r.time then (to,w) else takeS s key t (r.time+s.size) (twoF s.fold w (oneF s.fold r.word))) else takeS s key t to w:=rfl
theorem fn_cell {b:Nat} {v:Value} {e:TypeId} (h:[(b,Obj.cells #[v] e (0,0))]∈η):At S w0 η ⟨b,0,none⟩ v:=own_mem (cs:=#[v]) h rfl
set_option maxHeartbeats 4000000 in
theorem take_fn {s : Wsp} {pf ps pm mb : Nat} (hs0 : 0 ≤ s.size) (hs1 : s.size ≤ 1000) : ∀ (n : Nat) {S : Nat → Prop} {w0 : World} {η : Heap} {rest : List Rw} {a : Option Addr} {c clock : Nat} {k : K3} {w : Int} {m : Mp} {es : Array MapEntry}, [(pf, Obj.cells #[.func (.func 113) #[] #[ptr pf, ptr ps, ptr pm]] 175 (0, 0))] ∈ η → [(ps, Obj.cells (spC s).toArray 124 (0, 0))] ∈ η → [(pm, Obj.cells #[.map (some mb)] 91 (0, 0))] ∈ η → rest.length < n → RRow S w0 η a rest → rest.length ≤ c → rest.length < 1000000 → Tms rest → Ws rest → Wd w → MObj k3V iV m es clock →
  Rt Tryd.prog 113 [k3V k,.int .i64 w,.slice a rest.length c,ptr pf,ptr ps,ptr pm].toArray S w0 ([(mb,Obj.map es clock)]::η) (fun _v η'=>∃ es' clock',MObj k3V iV (mput (k.1,(takeS s k.2.2 rest k.2.1 w).1,k.2.2) (takeS s k.2.2 rest k.2.1 w).2 m) es' clock'∧η'=[(mb,Obj.map es' clock')]::η):=by
 intro n
 induction n with
 | zero=>intro S w0 η rest a c clock k w m es hpf hps hpm hn; omega
 | succ n ih =>
 intro S w0 η rest a c clock k w m es hpf hps hpm hn hr hc hl hts hws hw hm
 have hF:=open_wide
 refine Rt.of (fn:=Tryd.f113) Tryd.func113 rfl rfl ?_
 refine T.seq ?_
 refine T.region ?_
 refine TL.box hF rfl rfl (fun b6=>?_)
 refine TL.nil ?_
 refine TQ.then_n ?_
 refine T.seq ?_
 refine T.seq ?_
 refine T.region ?_
 refine TL.move hF rfl rfl ?_
 refine TL.len hF rfl rfl ?_
 refine TL.move hF rfl rfl ?_
 refine TL.nil ?_
 refine TQ.then_n ?_
 refine T.block ?_
 refine T.loop (ι:=Nat) (fun i=>i≤rest.length∧takeS s k.2.2 rest k.2.1 w=takeS s k.2.2 (rest.drop i) k.2.1 w) (fun i=>[(1,.int .i64 w),(2,.slice a rest.length c),(3,ptr pf),(4,ptr ps),(5,ptr pm),(6,ptr b6),(11,.slice a rest.length c),(12,.int .i64 (rest.length:Int)),(13,.int .i64 (i:Int))]) (fun _=>[(b6,Obj.cells (k3C k).toArray 119 (0,0))]::[(mb,Obj.map es clock)]::η) (fun i=>rest.length - i) 0 ⟨Nat.zero_le _,rfl⟩ ⟨rfl,rfl,rfl,rfl,rfl,rfl,rfl,rfl,rfl,trivial⟩ rfl ?_
 rintro i ⟨hi,htk⟩
 refine T.seq ?_
 refine T.region ?_
 refine TL.bin hF rfl rfl rfl rfl ?_
 refine TL.nil ?_
 refine TQ.then_n ?_
 refine T.seq ?_
 first | refine T.cond_d rfl (fun ht14=>?_) (fun ht14=>?_) | refine T.cond _ rfl (fun ht14=>?_) (fun ht14=>?_)
 ·refine T.skip ?_
  refine TQ.then_n ?_
  refine T.seq ?_
  refine T.block ?_
  refine T.seq ?_
  refine T.region ?_
  refine TL.move hF rfl rfl ?_
  have hil:i<rest.length:=by have h:(i:Int)<(rest.length:Int):=ht14; omega
  have hti:=hts _ (List.getElem_mem hil)
  have hwi:Wd rest[i].word:=hws _ (List.getElem_mem hil)
  have hdr:rest.drop i=rest[i]::rest.drop (i+1):=List.drop_eq_getElem_cons hil
  refine TL.indexAddr hF rfl rfl (rr_ad hr (i:=i) hil) (by first | omega | (dsimp only; omega)) (by first | omega | (dsimp only; omega)) rfl ?_
  refine TL.loadA hF (rwC rest[i]) rfl rfl (rr_at (hr.up (fun _ hs=>List.mem_cons_of_mem _ (List.mem_cons_of_mem _ hs))) (i:=i) hil) rfl ?_
  refine TL.alloc hF rfl (fun b10=>?_)
  refine TL.assign hF rfl rfl ?_
  refine TL.storeAs hF (rwC rest[i]) (rwC rest[i]) 0 (cs:=[.int .i64 0,.int .i64 0,.int .i64 0]) rfl rfl rfl rfl (rwC1 _) (Nat.le_refl 3) rfl ?_
  refine TL.nil ?_
  refine TQ.then_n ?_
  refine T.seq ?_
  refine T.region ?_
  refine TL.fieldAddr hF rfl rfl ?_
  refine TL.load hF rfl (own_mem (b:=b10) (cs:=(rwC rest[i]).toArray) (e:=57) (fz:=(0,0)) (by simp) rfl) rfl ?_
  refine TL.fieldAddr hF rfl rfl ?_
  refine TL.load hF rfl (own_mem (b:=b6) (cs:=(k3V k).cells) (e:=119) (fz:=(0,0)) (List.mem_cons_of_mem _ List.mem_cons_self) rfl) rfl ?_
  refine TL.bin hF rfl rfl rfl rfl ?_
  refine TL.nil ?_
  refine TQ.then_n ?_
  first | refine T.cond_d rfl (fun ht22=>?_) (fun ht22=>?_) | refine T.cond _ rfl (fun ht22=>?_) (fun ht22=>?_)
  ·refine T.seq ?_
   refine T.seq ?_
   refine T.region ?_
   refine TL.fieldAddr hF rfl rfl ?_
   refine TL.load hF rfl (own_mem (b:=b10) (cs:=(rwC rest[i]).toArray) (e:=57) (fz:=(0,0)) (by simp) rfl) rfl ?_
   refine TL.fieldAddr hF rfl rfl ?_
   refine TL.load hF rfl (own_mem (b:=b6) (cs:=(k3V k).cells) (e:=119) (fz:=(0,0)) (List.mem_cons_of_mem _ List.mem_cons_self) rfl) rfl ?_
   refine TL.bin hF rfl rfl rfl rfl ?_
   refine TL.nil ?_
   refine TQ.then_n ?_
   first | refine T.cond_d rfl (fun ht27=>?_) (fun ht27=>?_) | refine T.cond _ rfl (fun ht27=>?_) (fun ht27=>?_)
   ·refine T.exit ?_
    refine TQ.then_x ?_
    refine TQ.block_o rfl ?_
    refine TQ.then_x ?_
    refine TQ.then_x ?_
    refine TQ.block_x ?_
    refine TQ.then_n ?_
    refine T.region ?_
    refine TL.load hF rfl (fn_cell (List.mem_cons_of_mem _ (List.mem_cons_of_mem _ (List.mem_cons_of_mem _ hpm)))) rfl ?_
    refine TL.loadA hF (k3C k) rfl rfl (own_list (i:=1) (cs:=k3C k) rfl) rfl ?_
    refine TL.move hF rfl rfl ?_
    refine TL.mapUpdate hF 2 iV k w rfl rfl rfl rfl hm (fun es8 clock8 hm8=>?_)
    refine TL.nil ?_
    refine TQ.norm ?_
    have e1:takeS s k.2.2 rest k.2.1 w=(k.2.1,w):=by rw [htk,hdr,takeS_cons,if_pos (show rest[i].key=k.2.2 from ht22),if_pos (show k.2.1≤rest[i].time from ht27)]
    rw [e1]
    refine TQ.pop (TQ.pop ?_)
    exact TQ.rets [] _ rfl rfl rfl ⟨es8,clock8,hm8,rfl⟩
   ·refine T.skip ?_
    refine TQ.then_n ?_
    refine T.seq ?_
    refine T.draw ?_
    refine DR.stepV [_] rfl [(3,_,none)] rfl rfl ⟨⟨rfl,by kernel_rfl⟩,trivial⟩ (fun ext=>TL.load hF rfl (fn_cell (List.mem_cons_of_mem _ (List.mem_cons_of_mem _ (List.mem_cons_of_mem _ hpf)))) rfl TL.fin) ?_
    refine DR.stepV [_,_] rfl [(6,_,none)] rfl rfl ⟨⟨rfl,by kernel_rfl⟩,trivial⟩ (fun ext=>TL.fieldAddr hF rfl rfl TL.fin) ?_
    refine DR.stepV [_,_,_] rfl [(29,_,some 1)] rfl rfl ⟨⟨rfl,rfl,rfl⟩,trivial⟩ (fun ext=>TL.load hF rfl (own_mem (b:=b6) (cs:=(k3V k).cells) (e:=119) (fz:=(0,0)) (List.mem_cons_of_mem _ List.mem_cons_self) rfl) rfl TL.fin) ?_
    refine DR.stepV [_,_,_,_] rfl [(10,_,none)] rfl rfl ⟨⟨rfl,by kernel_rfl⟩,trivial⟩ (fun ext=>TL.fieldAddr hF rfl rfl TL.fin) ?_
    refine DR.stepV [_,_,_,_,_] rfl [(31,_,some 3)] rfl rfl ⟨⟨rfl,rfl,rfl⟩,trivial⟩ (fun ext=>TL.load hF rfl (own_mem (b:=b10) (cs:=(rwC rest[i]).toArray) (e:=57) (fz:=(0,0)) (by simp) rfl) rfl TL.fin) ?_
    refine DR.stepV [_,_,_,_,_,_] rfl [(4,_,none)] rfl rfl ⟨⟨rfl,by kernel_rfl⟩,trivial⟩ (fun ext=>TL.fieldAddr hF rfl rfl TL.fin) ?_
    refine DR.stepV [_,_,_,_,_,_,_] rfl [(33,_,some 5)] rfl rfl ⟨⟨rfl,rfl,rfl⟩,trivial⟩ (fun ext=>TL.fieldAddr hF rfl rfl TL.fin) ?_
    refine DR.stepV [_,_,_,_,_,_,_,_] rfl [(34,_,some 6)] rfl rfl ⟨⟨rfl,rfl,rfl⟩,trivial⟩ (fun ext=>TL.fieldAddr hF rfl rfl TL.fin) ?_
    refine DR.stepV [_,_,_,_,_,_,_,_,_] rfl [(35,_,some 7)] rfl rfl ⟨⟨rfl,rfl,rfl⟩,trivial⟩ (fun ext=>TL.load hF rfl (own_mem (b:=ps) (cs:=(spC s).toArray) (e:=124) (fz:=(0,0)) (List.mem_cons_of_mem _ (List.mem_cons_of_mem _ (List.mem_cons_of_mem _ hps))) rfl) rfl TL.fin) ?_
    refine DR.stepV [_,_,_,_,_,_,_,_,_,_] rfl [(32,_,some 4),(36,_,some 8)] rfl rfl ⟨⟨rfl,rfl,rfl⟩,⟨rfl,rfl,rfl⟩,trivial⟩ (fun ext=>TL.add hF rfl rfl (by first | omega | (dsimp only; omega)) (by first | omega | (dsimp only; omega)) rfl TL.fin) ?_
    refine DR.stepV [_,_,_,_,_,_,_,_,_,_,_] rfl [(6,_,none)] rfl rfl ⟨⟨rfl,by kernel_rfl⟩,trivial⟩ (fun ext=>TL.fieldAddr hF rfl rfl TL.fin) ?_
    refine DR.stepV [_,_,_,_,_,_,_,_,_,_,_,_] rfl [(38,_,some 10)] rfl rfl ⟨⟨rfl,rfl,rfl⟩,trivial⟩ (fun ext=>TL.load hF rfl (own_mem (b:=b6) (cs:=(k3V k).cells) (e:=119) (fz:=(0,0)) (List.mem_cons_of_mem _ List.mem_cons_self) rfl) rfl TL.fin) ?_
    refine DR.stepV [_,_,_,_,_,_,_,_,_,_,_,_,_] rfl [(30,_,some 2),(37,_,some 9),(39,_,some 11)] rfl rfl ⟨⟨rfl,rfl,rfl⟩,⟨rfl,rfl,rfl⟩,⟨rfl,rfl,rfl⟩,trivial⟩ (fun ext=>TL.build hF rfl (r:=k3V (k.1,rest[i].time+s.size,k.2.2)) (fun w=>by kernel_rfl) rfl TL.fin) ?_
    refine DR.stepV [_,_,_,_,_,_,_,_,_,_,_,_,_,_] rfl [(4,_,none)] rfl rfl ⟨⟨rfl,by kernel_rfl⟩,trivial⟩ (fun ext=>TL.fieldAddr hF rfl rfl TL.fin) ?_
    refine DR.stepV [_,_,_,_,_,_,_,_,_,_,_,_,_,_,_] rfl [(41,_,some 13)] rfl rfl ⟨⟨rfl,rfl,rfl⟩,trivial⟩ (fun ext=>TL.fieldAddr hF rfl rfl TL.fin) ?_
    refine DR.stepV [_,_,_,_,_,_,_,_,_,_,_,_,_,_,_,_] rfl [(42,_,some 14)] rfl rfl ⟨⟨rfl,rfl,rfl⟩,trivial⟩ (fun ext=>TL.fieldAddr hF rfl rfl TL.fin) ?_
    refine DR.stepV [_,_,_,_,_,_,_,_,_,_,_,_,_,_,_,_,_] rfl [(43,_,some 15)] rfl rfl ⟨⟨rfl,rfl,rfl⟩,trivial⟩ (fun ext=>TL.load hF rfl (own_mem (b:=ps) (cs:=(spC s).toArray) (e:=124) (fz:=(0,0)) (List.mem_cons_of_mem _ (List.mem_cons_of_mem _ (List.mem_cons_of_mem _ hps))) rfl) rfl TL.fin) ?_
    refine DR.stepV [_,_,_,_,_,_,_,_,_,_,_,_,_,_,_,_,_,_] rfl [(1,_,none)] rfl rfl ⟨⟨rfl,by kernel_rfl⟩,trivial⟩ (fun ext=>TL.move hF rfl rfl TL.fin) ?_
    refine DR.stepV [_,_,_,_,_,_,_,_,_,_,_,_,_,_,_,_,_,_,_] rfl [(4,_,none)] rfl rfl ⟨⟨rfl,by kernel_rfl⟩,trivial⟩ (fun ext=>TL.fieldAddr hF rfl rfl TL.fin) ?_
    refine DR.stepV [_,_,_,_,_,_,_,_,_,_,_,_,_,_,_,_,_,_,_,_] rfl [(46,_,some 18)] rfl rfl ⟨⟨rfl,rfl,rfl⟩,trivial⟩ (fun ext=>TL.fieldAddr hF rfl rfl TL.fin) ?_
    refine DR.stepV [_,_,_,_,_,_,_,_,_,_,_,_,_,_,_,_,_,_,_,_,_] rfl [(47,_,some 19)] rfl rfl ⟨⟨rfl,rfl,rfl⟩,trivial⟩ (fun ext=>TL.fieldAddr hF rfl rfl TL.fin) ?_
    refine DR.stepV [_,_,_,_,_,_,_,_,_,_,_,_,_,_,_,_,_,_,_,_,_,_] rfl [(48,_,some 20)] rfl rfl ⟨⟨rfl,rfl,rfl⟩,trivial⟩ (fun ext=>TL.load hF rfl (own_mem (b:=ps) (cs:=(spC s).toArray) (e:=124) (fz:=(0,0)) (List.mem_cons_of_mem _ (List.mem_cons_of_mem _ (List.mem_cons_of_mem _ hps))) rfl) rfl TL.fin) ?_
    refine DR.stepV [_,_,_,_,_,_,_,_,_,_,_,_,_,_,_,_,_,_,_,_,_,_,_] rfl [(10,_,none)] rfl rfl ⟨⟨rfl,by kernel_rfl⟩,trivial⟩ (fun ext=>TL.fieldAddr hF rfl rfl TL.fin) ?_
    refine DR.stepV [_,_,_,_,_,_,_,_,_,_,_,_,_,_,_,_,_,_,_,_,_,_,_,_] rfl [(50,_,some 22)] rfl rfl ⟨⟨rfl,rfl,rfl⟩,trivial⟩ (fun ext=>TL.load hF rfl (own_mem (b:=b10) (cs:=(rwC rest[i]).toArray) (e:=57) (fz:=(0,0)) (by simp) rfl) rfl TL.fin) ?_
    refine DR.stepV [_,_,_,_,_,_,_,_,_,_,_,_,_,_,_,_,_,_,_,_,_,_,_,_,_] rfl [(49,_,some 21),(51,_,some 23)] rfl rfl ⟨⟨rfl,rfl,rfl⟩,⟨rfl,rfl,rfl⟩,trivial⟩ (fun ext=>TL.callV hF (one_fn (f:=s.fold) (w:=rest[i].word)) rfl rfl TL.fin) ?_
    refine DR.stepV [_,_,_,_,_,_,_,_,_,_,_,_,_,_,_,_,_,_,_,_,_,_,_,_,_,_] rfl [(44,_,some 16),(45,_,some 17),(52,_,some 24)] rfl rfl ⟨⟨rfl,rfl,rfl⟩,⟨rfl,rfl,rfl⟩,⟨rfl,rfl,rfl⟩,trivial⟩ (fun ext=>TL.callV hF (two_fn (f:=s.fold) hw (wd_one hwi)) rfl rfl TL.fin) ?_
    refine DR.stepV [_,_,_,_,_,_,_,_,_,_,_,_,_,_,_,_,_,_,_,_,_,_,_,_,_,_,_] rfl [(2,_,none)] rfl rfl ⟨⟨rfl,by kernel_rfl⟩,trivial⟩ (fun ext=>TL.move hF rfl rfl TL.fin) ?_
    refine DR.stepV [_,_,_,_,_,_,_,_,_,_,_,_,_,_,_,_,_,_,_,_,_,_,_,_,_,_,_,_] rfl [(9,_,none)] rfl rfl ⟨⟨rfl,by kernel_rfl⟩,trivial⟩ (fun ext=>TL.move hF rfl rfl TL.fin) ?_
    refine DR.stepV [_,_,_,_,_,_,_,_,_,_,_,_,_,_,_,_,_,_,_,_,_,_,_,_,_,_,_,_,_] rfl [(55,_,some 27)] rfl rfl ⟨⟨rfl,rfl,rfl⟩,trivial⟩ (fun ext=>TL.add hF rfl rfl (by first | omega | (dsimp only; omega)) (by first | omega | (dsimp only; omega)) rfl TL.fin) ?_
    refine DR.stepV [_,_,_,_,_,_,_,_,_,_,_,_,_,_,_,_,_,_,_,_,_,_,_,_,_,_,_,_,_,_] rfl [(54,_,some 26),(56,_,some 28)] rfl rfl ⟨⟨rfl,rfl,rfl⟩,⟨rfl,rfl,rfl⟩,trivial⟩ (fun ext=>TL.slice hF (i:=i+1) (j:=rest.length) rfl rfl rfl (by omega) (by omega) rfl TL.fin) ?_
    refine DR.done [(57,_),(56,_),(55,_),(54,_),(53,_),(52,_),(51,_),(50,_),(49,_),(48,_),(47,_),(46,_),(45,_),(44,_),(43,_),(42,_),(41,_),(40,_),(39,_),(38,_),(37,_),(36,_),(35,_),(34,_),(33,_),(32,_),(31,_),(30,_),(29,_),(28,_)] [_] mixed (by kernel_rfl) (by kernel_rfl) (by kernel_rfl) rfl rfl ?_
    have hdl:(rest.drop (i+1)).length=rest.length - (i+1):=List.length_drop
    have hcut:=Row.cutF rwC_len (k:=i+1) (cap:=c) hr hc
    refine TL.pick' [2,0,1] [_,_,_] rfl rfl rfl ?_
    have hrec:=ih (η:=[(b10,Obj.cells (rwC rest[i]).toArray 57 (0,0))]::[(b6,Obj.cells (k3C k).toArray 119 (0,0))]::η) (rest:=rest.drop (i+1)) (c:=c - (i+1)) (k:=(k.1,rest[i].time+s.size,k.2.2)) (w:=twoF s.fold w (oneF s.fold rest[i].word)) (List.mem_cons_of_mem _ (List.mem_cons_of_mem _ hpf)) (List.mem_cons_of_mem _ (List.mem_cons_of_mem _ hps)) (List.mem_cons_of_mem _ (List.mem_cons_of_mem _ hpm)) (by omega) (hcut.up (fun _ hs=>List.mem_cons_of_mem _ (List.mem_cons_of_mem _ hs))) (by omega) (by omega) (fun r hr=>hts r (List.mem_of_mem_drop hr)) (fun r hr=>hws r (List.mem_of_mem_drop hr)) (wd_two hw (wd_one hwi)) hm
    rw [hdl] at hrec
    refine TL.call hF hrec rfl rfl ?_
    rintro _ _ ⟨es2,clock2,hm2,rfl⟩
    refine TL.nil ?_
    refine TQ.then_n ?_
    refine T.ret ?_
    refine TQ.block_r ?_
    refine TQ.then_r ?_
    refine TQ.then_r ?_
    refine TQ.block_r ?_
    refine TQ.then_r ?_
    have e1:takeS s k.2.2 rest k.2.1 w=takeS s k.2.2 (rest.drop (i+1)) (rest[i].time+s.size) (twoF s.fold w (oneF s.fold rest[i].word)):=by rw [htk,hdr,takeS_cons,if_pos (show rest[i].key=k.2.2 from ht22),if_neg (show ¬ k.2.1≤rest[i].time from ht27)]
    rw [e1]
    refine TQ.hsub ([(mb,Obj.map es2 clock2)]::η) (List.Sublist.cons_cons _ (List.Sublist.cons _ (List.sublist_cons_self _ _))) ?_
    exact TQ.rets [] _ rfl rfl rfl ⟨es2,clock2,hm2,rfl⟩
  ·refine T.skip ?_
   refine TQ.block_n ?_
   refine TQ.then_n ?_
   refine T.region ?_
   refine TL.add hF rfl rfl (by first | omega | (dsimp only; omega)) (by first | omega | (dsimp only; omega)) rfl ?_
   refine TL.move hF rfl rfl ?_
   refine TL.nil ?_
   have hne:¬ rest[i].key=k.2.2:=ht22
   refine TQ.pop ?_
   refine TQ.round (i+1) ⟨by omega,?_⟩ (by omega) ⟨rfl,rfl,rfl,rfl,rfl,rfl,rfl,rfl,rfl,trivial⟩ rfl
   rw [htk,hdr,takeS_cons,if_neg hne]
 ·refine T.exit ?_
  refine TQ.then_x ?_
  refine TQ.then_x ?_
  refine TQ.block_x ?_
  refine TQ.then_n ?_
  refine T.region ?_
  refine TL.load hF rfl (fn_cell (List.mem_cons_of_mem _ (List.mem_cons_of_mem _ hpm))) rfl ?_
  refine TL.loadA hF (k3C k) rfl rfl (own_list (i:=0) (cs:=k3C k) rfl) rfl ?_
  refine TL.move hF rfl rfl ?_
  refine TL.mapUpdate hF 1 iV k w rfl rfl rfl rfl hm (fun es8 clock8 hm8=>?_)
  refine TL.nil ?_
  refine TQ.norm ?_
  have hie:rest.length≤i:=by have h:¬ (i:Int)<(rest.length:Int):=ht14; omega
  have e1:takeS s k.2.2 rest k.2.1 w=(k.2.1,w):=by rw [htk,List.drop_of_length_le hie]; rfl
  rw [e1]
  refine TQ.pop ?_
  exact TQ.rets [] _ rfl rfl rfl ⟨es8,clock8,hm8,rfl⟩
end Go.Proofs.YtbajelldegijkaaDoor
/- All sessions; what is kept as rows come. -/
namespace Go.Proofs.YtbajelldegijkaaDoor
open Go.Sl
variable {S:Nat→Prop} {w0:World} {η:Heap}
theorem rising_of {d:List Rw} (h:SrtR d 0 d.length):Rising d:=by
 refine List.pairwise_iff_getElem.2 fun i j hi hj hij=>?_
 have:=h i j (Nat.zero_le _) hij hj
 rwa [← tmA_eq hi,← tmA_eq hj] at this
theorem sess_next {s:Wsp} {l:List Rw} {n:Nat}:sessMap s l (n+1)=putAt s l (sessMap s l n) n:=by unfold sessMap; rw [List.range_succ,List.foldl_append]; rfl
theorem find_skip {l:List Rw} {k:Nat} {key:Int} (hk:k<l.length) (h:l[k].key≠key):(l.take (k+1)).reverse.find? (fun x=>decide (x.key=key))=(l.take k).reverse.find? (fun x=>decide (x.key=key)):=by
 rw [List.take_succ_eq_append_getElem hk,List.reverse_append,List.reverse_singleton,List.singleton_append,List.find?_cons_of_neg (by simpa using h)]
theorem find_hit {l:List Rw} {k:Nat} {key:Int} (hk:k<l.length) (h:l[k].key=key):(l.take (k+1)).reverse.find? (fun x=>decide (x.key=key))=some l[k]:=by
 rw [List.take_succ_eq_append_getElem hk,List.reverse_append,List.reverse_singleton,List.singleton_append,List.find?_cons_of_pos (by simpa using h)]
set_option maxHeartbeats 4000000 in
theorem sspans_fn {s : Wsp} (hs0 : 0 ≤ s.size) (hs1 : s.size ≤ 1000) {a : Option Addr} {l : List Rw} {c : Nat} (hr : RRow S w0 η a l) (hl : l.length < 100000) (hts : Tms l) (hws : Ws l) :
  Rt Tryd.prog 111 [spV s,.slice a l.length c].toArray S w0 η (fun v η'=>∃ mb es clock d,v = .map (some mb)∧MObj k3V iV (sessMap s d d.length) es clock∧d.Perm l∧Rising d∧η'=[(mb,Obj.map es clock)]::η):=by
 have hF:=open_wide
 refine Rt.of (fn:=Tryd.f111) Tryd.func111 rfl rfl ?_
 refine T.seq ?_
 refine T.region ?_
 refine TL.box hF rfl rfl (fun b2=>?_)
 refine TL.assign hF rfl rfl ?_
 refine TL.nil ?_
 refine TQ.then_n ?_
 refine T.scope ?_
 refine T.seq ?_
 refine T.region ?_
 refine TL.makeMap hF rfl (fun b11=>?_)
 refine TL.alloc hF rfl (fun b5=>?_)
 refine TL.storeI hF 0 rfl rfl rfl rfl (by decide) ?_
 refine TL.nil ?_
 refine TQ.then_n ?_
 refine T.seq ?_
 refine T.region ?_
 refine TL.move hF rfl rfl ?_
 refine TL.call hF (byTime_fn (c:=c) (hr.up (fun _ hs=>List.mem_cons_of_mem _ (List.mem_cons_of_mem _ (List.mem_cons_of_mem _ hs)))) (by omega) (fun r hr=>by have:=hts r hr; omega)) rfl rfl ?_
 rintro _ _ ⟨g,d,rfl,hpd,hsd,rfl⟩
 have hld:=hpd.length_eq
 have htd:Tms d:=fun r hr=>hts r (hpd.mem_iff.1 hr)
 have hwd:Ws d:=fun r hr=>hws r (hpd.mem_iff.1 hr)
 refine TL.assign hF rfl rfl ?_
 refine TL.nil ?_
 refine TQ.then_n ?_
 refine T.seq ?_
 refine T.region ?_
 refine TL.alloc hF rfl (fun b7=>?_)
 refine TL.nil ?_
 refine TQ.then_n ?_
 refine T.seq ?_
 refine T.region ?_
 refine TL.makeFunc hF rfl rfl rfl ?_
 refine TL.storeI hF 0 rfl rfl rfl rfl (by decide) ?_
 refine TL.nil ?_
 refine TQ.then_n ?_
 refine T.seq ?_
 refine T.label ?_
 refine TQ.then_n ?_
 refine T.seq ?_
 refine T.seq ?_
 refine T.region ?_
 refine TL.move hF rfl rfl ?_
 refine TL.len hF rfl rfl ?_
 refine TL.move hF rfl rfl ?_
 refine TL.nil ?_
 refine TQ.then_n ?_
 refine T.block ?_
 refine T.heap (η':=[(b7,Obj.cells #[.func (.func 113) #[] #[ptr b7,ptr b2,ptr b5]] 175 (0,0))]::[(g,Obj.cells ((d).flatMap rwC).toArray 57 (0,0))]::[(b5,Obj.cells #[.map (some b11)] 91 (0,0))]::[(b11,Obj.map #[] 0)]::[(b2,Obj.cells (spC s).toArray 124 (0,0))]::η) rfl ?_
 refine T.pick [3,0,1,2,4] [_,_,_,_,_] rfl rfl rfl ?_
 refine T.loop (ι:=Nat × Array MapEntry × Nat) (fun z=>z.1≤d.length∧MObj k3V iV (sessMap s d z.1) z.2.1 z.2.2) (fun z=>[(2,ptr b2),(4,.map none),(5,ptr b5),(6,.slice (some ⟨g,0,none⟩) d.length d.length),(7,ptr b7),(15,.slice (some ⟨g,0,none⟩) d.length d.length),(16,.int .i64 (d.length:Int)),(17,.int .i64 (z.1:Int))]) (fun z=>[(b11,Obj.map z.2.1 z.2.2)]::[(b7,Obj.cells #[.func (.func 113) #[] #[ptr b7,ptr b2,ptr b5]] 175 (0,0))]::[(g,Obj.cells ((d).flatMap rwC).toArray 57 (0,0))]::[(b5,Obj.cells #[.map (some b11)] 91 (0,0))]::[(b2,Obj.cells (spC s).toArray 124 (0,0))]::η) (fun z=>d.length - z.1) (0,#[],0) ⟨Nat.zero_le _,MObj.nil _ _⟩ ⟨rfl,rfl,rfl,rfl,rfl,rfl,rfl,rfl,trivial⟩ rfl ?_
 rintro ⟨i,es,clock⟩ ⟨hi,hm⟩
 dsimp only at hi hm
 refine T.seq ?_
 refine T.region ?_
 refine TL.bin hF rfl rfl rfl rfl ?_
 refine TL.nil ?_
 refine TQ.then_n ?_
 refine T.seq ?_
 first | refine T.cond_d rfl (fun ht18=>?_) (fun ht18=>?_) | refine T.cond _ rfl (fun ht18=>?_) (fun ht18=>?_)
 ·refine T.skip ?_
  refine TQ.then_n ?_
  refine T.seq ?_
  refine T.block ?_
  refine T.seq ?_
  refine T.region ?_
  refine TL.move hF rfl rfl ?_
  have hil:i<d.length:=by have h:(i:Int)<(d.length:Int):=ht18; omega
  have hti:=htd _ (List.getElem_mem hil)
  refine TL.indexAddr hF rfl rfl ⟨_,rfl,rfl⟩ (by first | omega | (dsimp only; omega)) (by first | omega | (dsimp only; omega)) rfl ?_
  refine TL.loadA hF (rwC d[i]) rfl rfl (rr_at (row_own (cs:=d.flatMap rwC) (e:=57) (by simp)) (i:=i) hil) rfl ?_
  refine TL.alloc hF rfl (fun b9=>?_)
  refine TL.assign hF rfl rfl ?_
  refine TL.storeAs hF (rwC d[i]) (rwC d[i]) 0 (cs:=[.int .i64 0,.int .i64 0,.int .i64 0]) rfl rfl rfl rfl (rwC1 _) (Nat.le_refl 3) rfl ?_
  refine TL.nil ?_
  refine TQ.then_n ?_
  refine T.seq ?_
  refine T.seq ?_
  refine T.region ?_
  refine TL.move hF rfl rfl ?_
  refine TL.sub hF rfl rfl (by first | omega | (dsimp only; omega)) (by first | omega | (dsimp only; omega)) rfl ?_
  refine TL.assign hF rfl rfl ?_
  refine TL.nil ?_
  refine TQ.then_n ?_
  refine T.block ?_
  refine T.loop (ι:=Nat) (fun kk=>kk≤i∧(d.take i).reverse.find? (fun x=>decide (x.key=d[i].key))=(d.take kk).reverse.find? (fun x=>decide (x.key=d[i].key))) (fun kk=>[(2,ptr b2),(4,.map none),(5,ptr b5),(6,.slice (some ⟨g,0,none⟩) d.length d.length),(7,ptr b7),(8,.int .i64 (i:Int)),(9,ptr b9),(10,.int .i64 ((kk:Int)-1)),(15,.slice (some ⟨g,0,none⟩) d.length d.length),(16,.int .i64 (d.length:Int)),(17,.int .i64 (i:Int))]) (fun _=>[(b9,Obj.cells (rwC d[i]).toArray 57 (0,0))]::[(b11,Obj.map es clock)]::[(b7,Obj.cells #[.func (.func 113) #[] #[ptr b7,ptr b2,ptr b5]] 175 (0,0))]::[(g,Obj.cells ((d).flatMap rwC).toArray 57 (0,0))]::[(b5,Obj.cells #[.map (some b11)] 91 (0,0))]::[(b2,Obj.cells (spC s).toArray 124 (0,0))]::η) (fun kk=>kk) i ⟨Nat.le_refl _,rfl⟩ ⟨rfl,rfl,rfl,rfl,rfl,rfl,rfl,rfl,rfl,rfl,rfl,trivial⟩ rfl ?_
  rintro kk ⟨hki,hfd⟩
  refine T.seq ?_
  refine T.seq ?_
  refine T.region ?_
  refine TL.move hF rfl rfl ?_
  refine TL.bin hF rfl rfl rfl rfl ?_
  refine TL.nil ?_
  refine TQ.then_n ?_
  first | refine T.cond_d rfl (fun ht25=>?_) (fun ht25=>?_) | refine T.cond _ rfl (fun ht25=>?_) (fun ht25=>?_)
  ·refine T.skip ?_
   refine TQ.then_n ?_
   refine T.seq ?_
   refine T.block ?_
   refine T.seq ?_
   have hk0:0<kk:=by have h:(0:Int)≤(kk:Int)-1:=ht25; omega
   have hkn:((kk:Int)-1).toNat=kk - 1:=by omega
   have hkl:kk - 1<d.length:=by omega
   refine T.draw ?_
   refine DR.stepV [_] rfl [(6,_,none)] rfl rfl ⟨⟨rfl,by kernel_rfl⟩,trivial⟩ (fun ext=>TL.move hF rfl rfl TL.fin) ?_
   refine DR.stepV [_,_] rfl [(10,_,none)] rfl rfl ⟨⟨rfl,by kernel_rfl⟩,trivial⟩ (fun ext=>TL.move hF rfl rfl TL.fin) ?_
   refine DR.stepV [_,_,_] rfl [(28,_,some 0),(29,_,some 1)] rfl rfl ⟨⟨rfl,rfl,rfl⟩,⟨rfl,rfl,rfl⟩,trivial⟩ (fun ext=>TL.indexAddr hF rfl rfl ⟨_,rfl,rfl⟩ (by first | omega | (dsimp only; omega)) (by first | omega | (dsimp only; omega)) rfl TL.fin) ?_
   refine DR.stepV [_,_,_,_] rfl [(30,_,some 2)] rfl rfl ⟨⟨rfl,rfl,rfl⟩,trivial⟩ (fun ext=>TL.fieldAddr hF rfl rfl TL.fin) ?_
   refine DR.stepV [_,_,_,_,_] rfl [(31,_,some 3)] rfl rfl ⟨⟨rfl,rfl,rfl⟩,trivial⟩ (fun ext=>TL.load hF rfl (by rw [hkn]; exact rr_at (row_own (cs:=d.flatMap rwC) (e:=57) (by simp)) (i:=kk - 1) hkl 1 _ rfl) rfl TL.fin) ?_
   refine DR.stepV [_,_,_,_,_,_] rfl [(9,_,none)] rfl rfl ⟨⟨rfl,by kernel_rfl⟩,trivial⟩ (fun ext=>TL.fieldAddr hF rfl rfl TL.fin) ?_
   refine DR.stepV [_,_,_,_,_,_,_] rfl [(33,_,some 5)] rfl rfl ⟨⟨rfl,rfl,rfl⟩,trivial⟩ (fun ext=>TL.load hF rfl (own_mem (b:=b9) (cs:=(rwC d[i]).toArray) (e:=57) (fz:=(0,0)) (by simp) rfl) rfl TL.fin) ?_
   refine DR.done [(34,_),(33,_),(32,_),(31,_),(30,_),(29,_),(28,_)] [_] mixed (by kernel_rfl) (by kernel_rfl) (by kernel_rfl) rfl rfl ?_
   refine TL.bin hF rfl rfl rfl rfl ?_
   refine TL.nil ?_
   refine TQ.then_n ?_
   first | refine T.cond_d rfl (fun ht35=>?_) (fun ht35=>?_) | refine T.cond _ rfl (fun ht35=>?_) (fun ht35=>?_)
   ·refine T.seq ?_
    refine T.seq ?_
    have htk:=htd _ (List.getElem_mem hkl)
    refine T.draw ?_
    refine DR.stepV [_] rfl [(6,_,none)] rfl rfl ⟨⟨rfl,by kernel_rfl⟩,trivial⟩ (fun ext=>TL.move hF rfl rfl TL.fin) ?_
    refine DR.stepV [_,_] rfl [(10,_,none)] rfl rfl ⟨⟨rfl,by kernel_rfl⟩,trivial⟩ (fun ext=>TL.move hF rfl rfl TL.fin) ?_
    refine DR.stepV [_,_,_] rfl [(36,_,some 0),(37,_,some 1)] rfl rfl ⟨⟨rfl,rfl,rfl⟩,⟨rfl,rfl,rfl⟩,trivial⟩ (fun ext=>TL.indexAddr hF rfl rfl ⟨_,rfl,rfl⟩ (by first | omega | (dsimp only; omega)) (by first | omega | (dsimp only; omega)) rfl TL.fin) ?_
    refine DR.stepV [_,_,_,_] rfl [(38,_,some 2)] rfl rfl ⟨⟨rfl,rfl,rfl⟩,trivial⟩ (fun ext=>TL.fieldAddr hF rfl rfl TL.fin) ?_
    refine DR.stepV [_,_,_,_,_] rfl [(39,_,some 3)] rfl rfl ⟨⟨rfl,rfl,rfl⟩,trivial⟩ (fun ext=>TL.load hF rfl (by rw [hkn]; exact rr_at (row_own (cs:=d.flatMap rwC) (e:=57) (by simp)) (i:=kk - 1) hkl 0 _ rfl) rfl TL.fin) ?_
    refine DR.stepV [_,_,_,_,_,_] rfl [(2,_,none)] rfl rfl ⟨⟨rfl,by kernel_rfl⟩,trivial⟩ (fun ext=>TL.fieldAddr hF rfl rfl TL.fin) ?_
    refine DR.stepV [_,_,_,_,_,_,_] rfl [(41,_,some 5)] rfl rfl ⟨⟨rfl,rfl,rfl⟩,trivial⟩ (fun ext=>TL.fieldAddr hF rfl rfl TL.fin) ?_
    refine DR.stepV [_,_,_,_,_,_,_,_] rfl [(42,_,some 6)] rfl rfl ⟨⟨rfl,rfl,rfl⟩,trivial⟩ (fun ext=>TL.fieldAddr hF rfl rfl TL.fin) ?_
    refine DR.stepV [_,_,_,_,_,_,_,_,_] rfl [(43,_,some 7)] rfl rfl ⟨⟨rfl,rfl,rfl⟩,trivial⟩ (fun ext=>TL.load hF rfl (own_mem (b:=b2) (cs:=(spC s).toArray) (e:=124) (fz:=(0,0)) (by simp) rfl) rfl TL.fin) ?_
    refine DR.stepV [_,_,_,_,_,_,_,_,_,_] rfl [(40,_,some 4),(44,_,some 8)] rfl rfl ⟨⟨rfl,rfl,rfl⟩,⟨rfl,rfl,rfl⟩,trivial⟩ (fun ext=>TL.add hF rfl rfl (by first | omega | (dsimp only; omega)) (by first | omega | (dsimp only; omega)) rfl TL.fin) ?_
    refine DR.stepV [_,_,_,_,_,_,_,_,_,_,_] rfl [(9,_,none)] rfl rfl ⟨⟨rfl,by kernel_rfl⟩,trivial⟩ (fun ext=>TL.fieldAddr hF rfl rfl TL.fin) ?_
    refine DR.stepV [_,_,_,_,_,_,_,_,_,_,_,_] rfl [(46,_,some 10)] rfl rfl ⟨⟨rfl,rfl,rfl⟩,trivial⟩ (fun ext=>TL.load hF rfl (own_mem (b:=b9) (cs:=(rwC d[i]).toArray) (e:=57) (fz:=(0,0)) (by simp) rfl) rfl TL.fin) ?_
    refine DR.done [(47,_),(46,_),(45,_),(44,_),(43,_),(42,_),(41,_),(40,_),(39,_),(38,_),(37,_),(36,_)] [_] mixed (by kernel_rfl) (by kernel_rfl) (by kernel_rfl) rfl rfl ?_
    refine TL.bin hF rfl rfl rfl rfl ?_
    refine TL.nil ?_
    refine TQ.then_n ?_
    first | refine T.cond_d rfl (fun ht48=>?_) (fun ht48=>?_) | refine T.cond _ rfl (fun ht48=>?_) (fun ht48=>?_)
    ·refine T.exit ?_
     refine TQ.then_x ?_
     refine TQ.block_o rfl ?_
     refine TQ.then_x ?_
     refine TQ.then_x ?_
     refine TQ.block_o rfl ?_
     refine TQ.then_x ?_
     refine TQ.block_x ?_
     refine TQ.then_n ?_
     refine T.region ?_
     refine TL.add hF rfl rfl (by first | omega | (dsimp only; omega)) (by first | omega | (dsimp only; omega)) rfl ?_
     refine TL.move hF rfl rfl ?_
     refine TL.nil ?_
     have hb:begAt s d i=false:=by
      unfold begAt begS
      rw [rwAt_eq hil,hfd]
      have h9:=find_hit hkl (show d[kk - 1].key=d[i].key from ht35)
      rw [show kk - 1+1=kk by omega] at h9
      rw [h9]
      exact decide_eq_false (by have h:d[i].time<d[kk - 1].time+s.size:=ht48; omega)
     refine TQ.pop ?_
     exact TQ.round (i+1,es,clock) ⟨by dsimp only; omega,by dsimp only; rw [sess_next]; unfold putAt; rw [hb]; exact hm⟩ (by dsimp only; omega) ⟨rfl,rfl,rfl,rfl,rfl,rfl,rfl,rfl,trivial⟩ rfl
    ·refine T.skip ?_
     refine TQ.then_n ?_
     refine T.exit ?_
     refine TQ.block_o rfl ?_
     refine TQ.then_x ?_
     refine TQ.then_x ?_
     refine TQ.block_x ?_
     refine TQ.then_n ?_
     refine T.draw ?_
     refine DR.stepV [_] rfl [(7,_,none)] rfl rfl ⟨⟨rfl,by kernel_rfl⟩,trivial⟩ (fun ext=>TL.load hF rfl (fn_cell (b:=b7) (v:=.func (.func 113) #[] #[ptr b7,ptr b2,ptr b5]) (e:=175) (by simp)) rfl TL.fin) ?_
     refine DR.stepV [_,_] rfl [(9,_,none)] rfl rfl ⟨⟨rfl,by kernel_rfl⟩,trivial⟩ (fun ext=>TL.fieldAddr hF rfl rfl TL.fin) ?_
     refine DR.stepV [_,_,_] rfl [(50,_,some 1)] rfl rfl ⟨⟨rfl,rfl,rfl⟩,trivial⟩ (fun ext=>TL.load hF rfl (own_mem (b:=b9) (cs:=(rwC d[i]).toArray) (e:=57) (fz:=(0,0)) (by simp) rfl) rfl TL.fin) ?_
     refine DR.stepV [_,_,_,_] rfl [(9,_,none)] rfl rfl ⟨⟨rfl,by kernel_rfl⟩,trivial⟩ (fun ext=>TL.fieldAddr hF rfl rfl TL.fin) ?_
     refine DR.stepV [_,_,_,_,_] rfl [(52,_,some 3)] rfl rfl ⟨⟨rfl,rfl,rfl⟩,trivial⟩ (fun ext=>TL.load hF rfl (own_mem (b:=b9) (cs:=(rwC d[i]).toArray) (e:=57) (fz:=(0,0)) (by simp) rfl) rfl TL.fin) ?_
     refine DR.stepV [_,_,_,_,_,_] rfl [(2,_,none)] rfl rfl ⟨⟨rfl,by kernel_rfl⟩,trivial⟩ (fun ext=>TL.fieldAddr hF rfl rfl TL.fin) ?_
     refine DR.stepV [_,_,_,_,_,_,_] rfl [(54,_,some 5)] rfl rfl ⟨⟨rfl,rfl,rfl⟩,trivial⟩ (fun ext=>TL.fieldAddr hF rfl rfl TL.fin) ?_
     refine DR.stepV [_,_,_,_,_,_,_,_] rfl [(55,_,some 6)] rfl rfl ⟨⟨rfl,rfl,rfl⟩,trivial⟩ (fun ext=>TL.fieldAddr hF rfl rfl TL.fin) ?_
     refine DR.stepV [_,_,_,_,_,_,_,_,_] rfl [(56,_,some 7)] rfl rfl ⟨⟨rfl,rfl,rfl⟩,trivial⟩ (fun ext=>TL.load hF rfl (own_mem (b:=b2) (cs:=(spC s).toArray) (e:=124) (fz:=(0,0)) (by simp) rfl) rfl TL.fin) ?_
     refine DR.stepV [_,_,_,_,_,_,_,_,_,_] rfl [(53,_,some 4),(57,_,some 8)] rfl rfl ⟨⟨rfl,rfl,rfl⟩,⟨rfl,rfl,rfl⟩,trivial⟩ (fun ext=>TL.add hF rfl rfl (by first | omega | (dsimp only; omega)) (by first | omega | (dsimp only; omega)) rfl TL.fin) ?_
     refine DR.stepV [_,_,_,_,_,_,_,_,_,_,_] rfl [(9,_,none)] rfl rfl ⟨⟨rfl,by kernel_rfl⟩,trivial⟩ (fun ext=>TL.fieldAddr hF rfl rfl TL.fin) ?_
     refine DR.stepV [_,_,_,_,_,_,_,_,_,_,_,_] rfl [(59,_,some 10)] rfl rfl ⟨⟨rfl,rfl,rfl⟩,trivial⟩ (fun ext=>TL.load hF rfl (own_mem (b:=b9) (cs:=(rwC d[i]).toArray) (e:=57) (fz:=(0,0)) (by simp) rfl) rfl TL.fin) ?_
     refine DR.stepV [_,_,_,_,_,_,_,_,_,_,_,_,_] rfl [(51,_,some 2),(58,_,some 9),(60,_,some 11)] rfl rfl ⟨⟨rfl,rfl,rfl⟩,⟨rfl,rfl,rfl⟩,⟨rfl,rfl,rfl⟩,trivial⟩ (fun ext=>TL.build hF rfl (r:=k3V (d[i].time,d[i].time+s.size,d[i].key)) (fun w=>by kernel_rfl) rfl TL.fin) ?_
     refine DR.stepV [_,_,_,_,_,_,_,_,_,_,_,_,_,_] rfl [(2,_,none)] rfl rfl ⟨⟨rfl,by kernel_rfl⟩,trivial⟩ (fun ext=>TL.fieldAddr hF rfl rfl TL.fin) ?_
     refine DR.stepV [_,_,_,_,_,_,_,_,_,_,_,_,_,_,_] rfl [(62,_,some 13)] rfl rfl ⟨⟨rfl,rfl,rfl⟩,trivial⟩ (fun ext=>TL.fieldAddr hF rfl rfl TL.fin) ?_
     refine DR.stepV [_,_,_,_,_,_,_,_,_,_,_,_,_,_,_,_] rfl [(63,_,some 14)] rfl rfl ⟨⟨rfl,rfl,rfl⟩,trivial⟩ (fun ext=>TL.fieldAddr hF rfl rfl TL.fin) ?_
     refine DR.stepV [_,_,_,_,_,_,_,_,_,_,_,_,_,_,_,_,_] rfl [(64,_,some 15)] rfl rfl ⟨⟨rfl,rfl,rfl⟩,trivial⟩ (fun ext=>TL.load hF rfl (own_mem (b:=b2) (cs:=(spC s).toArray) (e:=124) (fz:=(0,0)) (by simp) rfl) rfl TL.fin) ?_
     refine DR.stepV [_,_,_,_,_,_,_,_,_,_,_,_,_,_,_,_,_,_] rfl [(9,_,none)] rfl rfl ⟨⟨rfl,by kernel_rfl⟩,trivial⟩ (fun ext=>TL.fieldAddr hF rfl rfl TL.fin) ?_
     refine DR.stepV [_,_,_,_,_,_,_,_,_,_,_,_,_,_,_,_,_,_,_] rfl [(66,_,some 17)] rfl rfl ⟨⟨rfl,rfl,rfl⟩,trivial⟩ (fun ext=>TL.load hF rfl (own_mem (b:=b9) (cs:=(rwC d[i]).toArray) (e:=57) (fz:=(0,0)) (by simp) rfl) rfl TL.fin) ?_
     refine DR.stepV [_,_,_,_,_,_,_,_,_,_,_,_,_,_,_,_,_,_,_,_] rfl [(65,_,some 16),(67,_,some 18)] rfl rfl ⟨⟨rfl,rfl,rfl⟩,⟨rfl,rfl,rfl⟩,trivial⟩ (fun ext=>TL.callV hF (one_fn (f:=s.fold) (w:=d[i].word)) rfl rfl TL.fin) ?_
     refine DR.stepV [_,_,_,_,_,_,_,_,_,_,_,_,_,_,_,_,_,_,_,_,_] rfl [(6,_,none)] rfl rfl ⟨⟨rfl,by kernel_rfl⟩,trivial⟩ (fun ext=>TL.move hF rfl rfl TL.fin) ?_
     refine DR.stepV [_,_,_,_,_,_,_,_,_,_,_,_,_,_,_,_,_,_,_,_,_,_] rfl [(8,_,none)] rfl rfl ⟨⟨rfl,by kernel_rfl⟩,trivial⟩ (fun ext=>TL.move hF rfl rfl TL.fin) ?_
     refine DR.stepV [_,_,_,_,_,_,_,_,_,_,_,_,_,_,_,_,_,_,_,_,_,_,_] rfl [(70,_,some 21)] rfl rfl ⟨⟨rfl,rfl,rfl⟩,trivial⟩ (fun ext=>TL.add hF rfl rfl (by first | omega | (dsimp only; omega)) (by first | omega | (dsimp only; omega)) rfl TL.fin) ?_
     refine DR.stepV [_,_,_,_,_,_,_,_,_,_,_,_,_,_,_,_,_,_,_,_,_,_,_,_] rfl [(69,_,some 20),(71,_,some 22)] rfl rfl ⟨⟨rfl,rfl,rfl⟩,⟨rfl,rfl,rfl⟩,trivial⟩ (fun ext=>TL.slice hF (i:=i+1) (j:=d.length) rfl rfl rfl (by omega) (by omega) rfl TL.fin) ?_
     refine DR.done [(72,_),(71,_),(70,_),(69,_),(68,_),(67,_),(66,_),(65,_),(64,_),(63,_),(62,_),(61,_),(60,_),(59,_),(58,_),(57,_),(56,_),(55,_),(54,_),(53,_),(52,_),(51,_),(50,_),(49,_)] [_] mixed (by kernel_rfl) (by kernel_rfl) (by kernel_rfl) rfl rfl ?_
     have hb:begAt s d i=true:=by
      unfold begAt begS
      rw [rwAt_eq hil,hfd]
      have h9:=find_hit hkl (show d[kk - 1].key=d[i].key from ht35)
      rw [show kk - 1+1=kk by omega] at h9
      rw [h9]
      exact decide_eq_true (by have h:¬ d[i].time<d[kk - 1].time+s.size:=ht48; omega)
     have hdl:(d.drop (i+1)).length=d.length - (i+1):=List.length_drop
     have hcut:=Row.cutF rwC_len (k:=i+1) (cap:=d.length) (row_own (S:=S) (w0:=w0) (η:=[(b9,Obj.cells (rwC d[i]).toArray 57 (0,0))]::[(b7,Obj.cells #[.func (.func 113) #[] #[ptr b7,ptr b2,ptr b5]] 175 (0,0))]::[(g,Obj.cells ((d).flatMap rwC).toArray 57 (0,0))]::[(b5,Obj.cells #[.map (some b11)] 91 (0,0))]::[(b2,Obj.cells (spC s).toArray 124 (0,0))]::η) (cs:=d.flatMap rwC) (e:=57) (b:=g) (by simp)) (Nat.le_refl _)
     refine TL.pick' [1,0] [_,_] rfl rfl rfl ?_
     have hrec:=take_fn hs0 hs1 (d.length) (pf:=b7) (ps:=b2) (pm:=b5) (mb:=b11) (η:=[(b9,Obj.cells (rwC d[i]).toArray 57 (0,0))]::[(b7,Obj.cells #[.func (.func 113) #[] #[ptr b7,ptr b2,ptr b5]] 175 (0,0))]::[(g,Obj.cells ((d).flatMap rwC).toArray 57 (0,0))]::[(b5,Obj.cells #[.map (some b11)] 91 (0,0))]::[(b2,Obj.cells (spC s).toArray 124 (0,0))]::η) (rest:=d.drop (i+1)) (c:=d.length - (i+1)) (k:=(d[i].time,d[i].time+s.size,d[i].key)) (w:=oneF s.fold d[i].word) (by simp) (by simp) (by simp) (by omega) hcut (by omega) (by omega) (fun r hr=>htd r (List.mem_of_mem_drop hr)) (fun r hr=>hwd r (List.mem_of_mem_drop hr)) (wd_one (hwd _ (List.getElem_mem hil))) hm
     rw [hdl] at hrec
     refine TL.call hF hrec rfl rfl ?_
     rintro _ _ ⟨es2,clock2,hm2,rfl⟩
     have hm3:MObj k3V iV (mput ((rwAt d i).time,(tkAt s d i).1,(rwAt d i).key) (tkAt s d i).2 (sessMap s d i)) es2 clock2:=by unfold tkAt; rw [rwAt_eq hil]; exact hm2
     refine TL.nil ?_
     refine TQ.block_n ?_
     refine TQ.then_n ?_
     refine T.region ?_
     refine TL.add hF rfl rfl (by first | omega | (dsimp only; omega)) (by first | omega | (dsimp only; omega)) rfl ?_
     refine TL.move hF rfl rfl ?_
     refine TL.nil ?_
     refine TQ.hperm ([(b9,Obj.cells (rwC d[i]).toArray 57 (0,0))]::[(b11,Obj.map es2 clock2)]::[(b7,Obj.cells #[.func (.func 113) #[] #[ptr b7,ptr b2,ptr b5]] 175 (0,0))]::[(g,Obj.cells ((d).flatMap rwC).toArray 57 (0,0))]::[(b5,Obj.cells #[.map (some b11)] 91 (0,0))]::[(b2,Obj.cells (spC s).toArray 124 (0,0))]::η) (List.Perm.swap _ _ _) ?_
     refine TQ.pop ?_
     exact TQ.round (i+1,es2,clock2) ⟨by dsimp only; omega,by dsimp only; rw [sess_next]; unfold putAt; rw [hb]; exact hm3⟩ (by dsimp only; omega) ⟨rfl,rfl,rfl,rfl,rfl,rfl,rfl,rfl,trivial⟩ rfl
   ·refine T.skip ?_
    refine TQ.block_n ?_
    refine TQ.then_n ?_
    refine T.region ?_
    refine TL.move hF rfl rfl ?_
    refine TL.sub hF rfl rfl (by first | omega | (dsimp only; omega)) (by first | omega | (dsimp only; omega)) rfl ?_
    refine TL.assign hF rfl rfl ?_
    refine TL.nil ?_
    have hne:d[kk - 1].key≠d[i].key:=ht35
    refine TQ.round (kk - 1) ⟨by omega,?_⟩ (by omega) ⟨rfl,rfl,rfl,rfl,rfl,rfl,rfl,congrArg (fun z=>some (Value.int .i64 z)) (by first | omega | (dsimp only; omega)),rfl,rfl,rfl,trivial⟩ rfl
    rw [hfd]
    have h9:=find_skip hkl hne
    rwa [show kk - 1+1=kk by omega] at h9
  ·refine T.exit ?_
   refine TQ.then_x ?_
   refine TQ.then_x ?_
   refine TQ.block_x ?_
   refine TQ.then_n ?_
   refine T.draw ?_
   refine DR.stepV [_] rfl [(7,_,none)] rfl rfl ⟨⟨rfl,by kernel_rfl⟩,trivial⟩ (fun ext=>TL.load hF rfl (fn_cell (b:=b7) (v:=.func (.func 113) #[] #[ptr b7,ptr b2,ptr b5]) (e:=175) (by simp)) rfl TL.fin) ?_
   refine DR.stepV [_,_] rfl [(9,_,none)] rfl rfl ⟨⟨rfl,by kernel_rfl⟩,trivial⟩ (fun ext=>TL.fieldAddr hF rfl rfl TL.fin) ?_
   refine DR.stepV [_,_,_] rfl [(50,_,some 1)] rfl rfl ⟨⟨rfl,rfl,rfl⟩,trivial⟩ (fun ext=>TL.load hF rfl (own_mem (b:=b9) (cs:=(rwC d[i]).toArray) (e:=57) (fz:=(0,0)) (by simp) rfl) rfl TL.fin) ?_
   refine DR.stepV [_,_,_,_] rfl [(9,_,none)] rfl rfl ⟨⟨rfl,by kernel_rfl⟩,trivial⟩ (fun ext=>TL.fieldAddr hF rfl rfl TL.fin) ?_
   refine DR.stepV [_,_,_,_,_] rfl [(52,_,some 3)] rfl rfl ⟨⟨rfl,rfl,rfl⟩,trivial⟩ (fun ext=>TL.load hF rfl (own_mem (b:=b9) (cs:=(rwC d[i]).toArray) (e:=57) (fz:=(0,0)) (by simp) rfl) rfl TL.fin) ?_
   refine DR.stepV [_,_,_,_,_,_] rfl [(2,_,none)] rfl rfl ⟨⟨rfl,by kernel_rfl⟩,trivial⟩ (fun ext=>TL.fieldAddr hF rfl rfl TL.fin) ?_
   refine DR.stepV [_,_,_,_,_,_,_] rfl [(54,_,some 5)] rfl rfl ⟨⟨rfl,rfl,rfl⟩,trivial⟩ (fun ext=>TL.fieldAddr hF rfl rfl TL.fin) ?_
   refine DR.stepV [_,_,_,_,_,_,_,_] rfl [(55,_,some 6)] rfl rfl ⟨⟨rfl,rfl,rfl⟩,trivial⟩ (fun ext=>TL.fieldAddr hF rfl rfl TL.fin) ?_
   refine DR.stepV [_,_,_,_,_,_,_,_,_] rfl [(56,_,some 7)] rfl rfl ⟨⟨rfl,rfl,rfl⟩,trivial⟩ (fun ext=>TL.load hF rfl (own_mem (b:=b2) (cs:=(spC s).toArray) (e:=124) (fz:=(0,0)) (by simp) rfl) rfl TL.fin) ?_
   refine DR.stepV [_,_,_,_,_,_,_,_,_,_] rfl [(53,_,some 4),(57,_,some 8)] rfl rfl ⟨⟨rfl,rfl,rfl⟩,⟨rfl,rfl,rfl⟩,trivial⟩ (fun ext=>TL.add hF rfl rfl (by first | omega | (dsimp only; omega)) (by first | omega | (dsimp only; omega)) rfl TL.fin) ?_
   refine DR.stepV [_,_,_,_,_,_,_,_,_,_,_] rfl [(9,_,none)] rfl rfl ⟨⟨rfl,by kernel_rfl⟩,trivial⟩ (fun ext=>TL.fieldAddr hF rfl rfl TL.fin) ?_
   refine DR.stepV [_,_,_,_,_,_,_,_,_,_,_,_] rfl [(59,_,some 10)] rfl rfl ⟨⟨rfl,rfl,rfl⟩,trivial⟩ (fun ext=>TL.load hF rfl (own_mem (b:=b9) (cs:=(rwC d[i]).toArray) (e:=57) (fz:=(0,0)) (by simp) rfl) rfl TL.fin) ?_
   refine DR.stepV [_,_,_,_,_,_,_,_,_,_,_,_,_] rfl [(51,_,some 2),(58,_,some 9),(60,_,some 11)] rfl rfl ⟨⟨rfl,rfl,rfl⟩,⟨rfl,rfl,rfl⟩,⟨rfl,rfl,rfl⟩,trivial⟩ (fun ext=>TL.build hF rfl (r:=k3V (d[i].time,d[i].time+s.size,d[i].key)) (fun w=>by kernel_rfl) rfl TL.fin) ?_
   refine DR.stepV [_,_,_,_,_,_,_,_,_,_,_,_,_,_] rfl [(2,_,none)] rfl rfl ⟨⟨rfl,by kernel_rfl⟩,trivial⟩ (fun ext=>TL.fieldAddr hF rfl rfl TL.fin) ?_
   refine DR.stepV [_,_,_,_,_,_,_,_,_,_,_,_,_,_,_] rfl [(62,_,some 13)] rfl rfl ⟨⟨rfl,rfl,rfl⟩,trivial⟩ (fun ext=>TL.fieldAddr hF rfl rfl TL.fin) ?_
   refine DR.stepV [_,_,_,_,_,_,_,_,_,_,_,_,_,_,_,_] rfl [(63,_,some 14)] rfl rfl ⟨⟨rfl,rfl,rfl⟩,trivial⟩ (fun ext=>TL.fieldAddr hF rfl rfl TL.fin) ?_
   refine DR.stepV [_,_,_,_,_,_,_,_,_,_,_,_,_,_,_,_,_] rfl [(64,_,some 15)] rfl rfl ⟨⟨rfl,rfl,rfl⟩,trivial⟩ (fun ext=>TL.load hF rfl (own_mem (b:=b2) (cs:=(spC s).toArray) (e:=124) (fz:=(0,0)) (by simp) rfl) rfl TL.fin) ?_
   refine DR.stepV [_,_,_,_,_,_,_,_,_,_,_,_,_,_,_,_,_,_] rfl [(9,_,none)] rfl rfl ⟨⟨rfl,by kernel_rfl⟩,trivial⟩ (fun ext=>TL.fieldAddr hF rfl rfl TL.fin) ?_
   refine DR.stepV [_,_,_,_,_,_,_,_,_,_,_,_,_,_,_,_,_,_,_] rfl [(66,_,some 17)] rfl rfl ⟨⟨rfl,rfl,rfl⟩,trivial⟩ (fun ext=>TL.load hF rfl (own_mem (b:=b9) (cs:=(rwC d[i]).toArray) (e:=57) (fz:=(0,0)) (by simp) rfl) rfl TL.fin) ?_
   refine DR.stepV [_,_,_,_,_,_,_,_,_,_,_,_,_,_,_,_,_,_,_,_] rfl [(65,_,some 16),(67,_,some 18)] rfl rfl ⟨⟨rfl,rfl,rfl⟩,⟨rfl,rfl,rfl⟩,trivial⟩ (fun ext=>TL.callV hF (one_fn (f:=s.fold) (w:=d[i].word)) rfl rfl TL.fin) ?_
   refine DR.stepV [_,_,_,_,_,_,_,_,_,_,_,_,_,_,_,_,_,_,_,_,_] rfl [(6,_,none)] rfl rfl ⟨⟨rfl,by kernel_rfl⟩,trivial⟩ (fun ext=>TL.move hF rfl rfl TL.fin) ?_
   refine DR.stepV [_,_,_,_,_,_,_,_,_,_,_,_,_,_,_,_,_,_,_,_,_,_] rfl [(8,_,none)] rfl rfl ⟨⟨rfl,by kernel_rfl⟩,trivial⟩ (fun ext=>TL.move hF rfl rfl TL.fin) ?_
   refine DR.stepV [_,_,_,_,_,_,_,_,_,_,_,_,_,_,_,_,_,_,_,_,_,_,_] rfl [(70,_,some 21)] rfl rfl ⟨⟨rfl,rfl,rfl⟩,trivial⟩ (fun ext=>TL.add hF rfl rfl (by first | omega | (dsimp only; omega)) (by first | omega | (dsimp only; omega)) rfl TL.fin) ?_
   refine DR.stepV [_,_,_,_,_,_,_,_,_,_,_,_,_,_,_,_,_,_,_,_,_,_,_,_] rfl [(69,_,some 20),(71,_,some 22)] rfl rfl ⟨⟨rfl,rfl,rfl⟩,⟨rfl,rfl,rfl⟩,trivial⟩ (fun ext=>TL.slice hF (i:=i+1) (j:=d.length) rfl rfl rfl (by omega) (by omega) rfl TL.fin) ?_
   refine DR.done [(72,_),(71,_),(70,_),(69,_),(68,_),(67,_),(66,_),(65,_),(64,_),(63,_),(62,_),(61,_),(60,_),(59,_),(58,_),(57,_),(56,_),(55,_),(54,_),(53,_),(52,_),(51,_),(50,_),(49,_)] [_] mixed (by kernel_rfl) (by kernel_rfl) (by kernel_rfl) rfl rfl ?_
   have hb:begAt s d i=true:=by
    unfold begAt begS
    have hk0:kk=0:=by have h:¬ (0:Int)≤(kk:Int)-1:=ht25; omega
    rw [rwAt_eq hil,hfd,hk0]; rfl
   have hdl:(d.drop (i+1)).length=d.length - (i+1):=List.length_drop
   have hcut:=Row.cutF rwC_len (k:=i+1) (cap:=d.length) (row_own (S:=S) (w0:=w0) (η:=[(b9,Obj.cells (rwC d[i]).toArray 57 (0,0))]::[(b7,Obj.cells #[.func (.func 113) #[] #[ptr b7,ptr b2,ptr b5]] 175 (0,0))]::[(g,Obj.cells ((d).flatMap rwC).toArray 57 (0,0))]::[(b5,Obj.cells #[.map (some b11)] 91 (0,0))]::[(b2,Obj.cells (spC s).toArray 124 (0,0))]::η) (cs:=d.flatMap rwC) (e:=57) (b:=g) (by simp)) (Nat.le_refl _)
   refine TL.pick' [1,0] [_,_] rfl rfl rfl ?_
   have hrec:=take_fn hs0 hs1 (d.length) (pf:=b7) (ps:=b2) (pm:=b5) (mb:=b11) (η:=[(b9,Obj.cells (rwC d[i]).toArray 57 (0,0))]::[(b7,Obj.cells #[.func (.func 113) #[] #[ptr b7,ptr b2,ptr b5]] 175 (0,0))]::[(g,Obj.cells ((d).flatMap rwC).toArray 57 (0,0))]::[(b5,Obj.cells #[.map (some b11)] 91 (0,0))]::[(b2,Obj.cells (spC s).toArray 124 (0,0))]::η) (rest:=d.drop (i+1)) (c:=d.length - (i+1)) (k:=(d[i].time,d[i].time+s.size,d[i].key)) (w:=oneF s.fold d[i].word) (by simp) (by simp) (by simp) (by omega) hcut (by omega) (by omega) (fun r hr=>htd r (List.mem_of_mem_drop hr)) (fun r hr=>hwd r (List.mem_of_mem_drop hr)) (wd_one (hwd _ (List.getElem_mem hil))) hm
   rw [hdl] at hrec
   refine TL.call hF hrec rfl rfl ?_
   rintro _ _ ⟨es2,clock2,hm2,rfl⟩
   have hm3:MObj k3V iV (mput ((rwAt d i).time,(tkAt s d i).1,(rwAt d i).key) (tkAt s d i).2 (sessMap s d i)) es2 clock2:=by unfold tkAt; rw [rwAt_eq hil]; exact hm2
   refine TL.nil ?_
   refine TQ.block_n ?_
   refine TQ.then_n ?_
   refine T.region ?_
   refine TL.add hF rfl rfl (by first | omega | (dsimp only; omega)) (by first | omega | (dsimp only; omega)) rfl ?_
   refine TL.move hF rfl rfl ?_
   refine TL.nil ?_
   refine TQ.hperm ([(b9,Obj.cells (rwC d[i]).toArray 57 (0,0))]::[(b11,Obj.map es2 clock2)]::[(b7,Obj.cells #[.func (.func 113) #[] #[ptr b7,ptr b2,ptr b5]] 175 (0,0))]::[(g,Obj.cells ((d).flatMap rwC).toArray 57 (0,0))]::[(b5,Obj.cells #[.map (some b11)] 91 (0,0))]::[(b2,Obj.cells (spC s).toArray 124 (0,0))]::η) (List.Perm.swap _ _ _) ?_
   refine TQ.pop ?_
   exact TQ.round (i+1,es2,clock2) ⟨by dsimp only; omega,by dsimp only; rw [sess_next]; unfold putAt; rw [hb]; exact hm3⟩ (by dsimp only; omega) ⟨rfl,rfl,rfl,rfl,rfl,rfl,rfl,rfl,trivial⟩ rfl
 ·refine T.exit ?_
  refine TQ.then_x ?_
  refine TQ.then_x ?_
  refine TQ.block_x ?_
  refine TQ.then_n ?_
  refine T.seq ?_
  refine T.region ?_
  refine TL.load hF rfl (fn_cell (b:=b5) (v:=.map (some b11)) (e:=91) (by simp)) rfl ?_
  refine TL.assign hF rfl rfl ?_
  refine TL.nil ?_
  refine TQ.then_n ?_
  refine T.ret ?_
  refine TQ.scope_r ?_
  have hie:i=d.length:=by have h:¬ (i:Int)<(d.length:Int):=ht18; omega
  subst hie
  refine TQ.hsub ([(b11,Obj.map es clock)]::η) (List.Sublist.cons_cons _ (List.Sublist.cons _ (List.Sublist.cons _ (List.Sublist.cons _ (List.sublist_cons_self _ _))))) ?_
  exact TQ.rets [4] _ rfl rfl rfl ⟨b11,es,clock,d,rfl,hm,hpd,rising_of hsd,rfl⟩
set_option maxHeartbeats 2000000 in
theorem sgrown_fn {s : Wsp} (hs0 : 0 ≤ s.size) (hs1 : s.size ≤ 1000) {a : Option Addr} {l : List Rw} {c : Nat} (hr : RRow S w0 η a l) (hl : l.length < 100000) (hts : Tms l) (hws : Ws l) {mv : Value} :
  Rt Tryd.prog 110 [spV s,mv,.slice a l.length c].toArray S w0 η (fun v η'=>∃ mb es clock d,v = .map (some mb)∧MObj k3V iV (sessMap s d d.length) es clock∧d.Perm l∧Rising d∧η'=[(mb,Obj.map es clock)]::η):=by
 have hF:=open_wide
 refine Rt.of (fn:=Tryd.f110) Tryd.func110 rfl rfl ?_
 refine T.seq ?_
 refine T.region ?_
 refine TL.box hF rfl rfl (fun b3=>?_)
 refine TL.assign hF rfl rfl ?_
 refine TL.nil ?_
 refine TQ.then_n ?_
 refine T.seq ?_
 refine T.region ?_
 refine TL.loadA hF (spC s) rfl rfl (own_list (i:=0) (cs:=spC s) rfl) rfl ?_
 refine TL.move hF rfl rfl ?_
 refine TL.call hF (sspans_fn (c:=c) hs0 hs1 (hr.up (fun _ hs=>List.mem_cons_of_mem _ hs)) hl hts hws) rfl rfl ?_
 rintro _ _ ⟨mb,es,clock,d,rfl,hm,hpd,hrd,rfl⟩
 refine TL.assign hF rfl rfl ?_
 refine TL.nil ?_
 refine TQ.then_n ?_
 refine T.ret ?_
 refine TQ.hsub ([(mb,Obj.map es clock)]::η) (List.Sublist.cons_cons _ (List.sublist_cons_self _ _)) ?_
 exact TQ.rets [6] _ rfl rfl rfl ⟨mb,es,clock,d,rfl,hm,hpd,hrd,rfl⟩
end Go.Proofs.YtbajelldegijkaaDoor
/- What is asked; all windows; Whole. -/
namespace Go.Proofs.YtbajelldegijkaaDoor
open Go.Sl
variable {S:Nat→Prop} {w0:World} {η:Heap}
/-- A way to cut, and rows, as they are asked for. -/
structure Askd (s:Wsp) (l:List Rw):Prop where
 ok:okS s=true
 len:l.length≤300
 rows:l.all okR=true
theorem Askd.asked {s:Wsp} {l:List Rw} (h:Askd s l):askedS s l=0:=by
 have:=h.len
 unfold askedS; rw [if_pos h.ok,if_neg (by omega),if_pos h.rows]
theorem asked_rows {s:Wsp} {l:List Rw} {e:Int} (h:okS s=true) (he:(e=3∧300<l.length)∨(e=2∧¬ 300<l.length∧l.all okR=false)):askedS s l=e∧e≠0:=by
 unfold askedS; rw [if_pos h]
 rcases he with ⟨rfl,h⟩ | ⟨rfl,h,h2⟩
 ·rw [if_pos h]; exact ⟨rfl,by decide⟩
 ·rw [if_neg h,if_neg (by rw [h2]; exact Bool.false_ne_true)]; exact ⟨rfl,by decide⟩
theorem asked_way {s:Wsp} {l:List Rw} (h:okS s=false):askedS s l=1:=by unfold askedS; rw [if_neg (by rw [h]; exact Bool.false_ne_true)]
theorem Askd.row {s:Wsp} {l:List Rw} (h:Askd s l) {r:Rw} (hr:r∈l):(0≤r.time∧r.time≤1048576)∧(0≤r.key∧r.key≤999)∧Wd r.word:=by
 have:=List.all_eq_true.1 h.rows r hr
 unfold okR okT at this
 simp only [Bool.and_eq_true,decide_eq_true_eq] at this
 exact ⟨⟨this.1.1.1.1,this.1.1.1.2⟩,⟨this.1.1.2,this.1.2⟩,isW_iff.1 this.2⟩
theorem Askd.tms {s:Wsp} {l:List Rw} (h:Askd s l):Tms l:=fun _ hr=>(h.row hr).1
theorem Askd.ws {s:Wsp} {l:List Rw} (h:Askd s l):Ws l:=fun _ hr=>(h.row hr).2.2
theorem Askd.w {s:Wsp} {l:List Rw} (h:Askd s l):WOk s:=okS_w h.ok
theorem Askd.size {s:Wsp} {l:List Rw} (h:Askd s l):1≤s.size∧s.size≤1000∧0≤s.late∧s.late≤1000:=by
 have:=h.ok
 unfold okS at this
 simp only [Bool.and_eq_true,decide_eq_true_eq] at this
 omega
theorem Askd.time {s:Wsp} {l:List Rw} (h:Askd s l) (hk:s.kind=0) {r:Rw} (hr:r∈l):TimeOk s r.time:=⟨h.w.sp hk,h.size.2.1,(h.row hr).1.1,(h.row hr).1.2⟩
theorem Askd.sub {s:Wsp} {l l':List Rw} (h:Askd s l) (hs:∀ r∈l',r∈l) (hl:l'.length≤300):Askd s l':=⟨h.ok,hl,List.all_eq_true.2 fun r hr=>List.all_eq_true.1 h.rows r (hs r hr)⟩
theorem putS_len (x:Ot):∀ o:List Ot,(putS x o).length≤o.length+1
 | []=>Nat.le_refl _
 | y::r=>by
  unfold putS
  split
  ·exact Nat.le_succ _
  ·split
   ·exact Nat.le_refl _
   ·exact Nat.succ_le_succ (putS_len x r)
theorem fold_len:∀ (l o:List Ot),(l.foldl (fun o x=>putS x o) o).length≤o.length+l.length
 | [],o=>Nat.le_refl _
 | x::r,o=>by
  rw [List.foldl_cons]
  have h1:=fold_len r (putS x o)
  have h2:=putS_len x o
  rw [List.length_cons]; omega
theorem all_len {s:Wsp} {l:List Rw} (h:Askd s l):(allS s l).length≤314573100:=by
 have h1:∀ t:List Rw,(∀ r∈t,r∈l)→(t.flatMap (outsOf s l)).length≤t.length*1048577:=by
  intro t
  induction t with
  | nil=>intro _; exact Nat.le_refl _
  | cons r t ih =>
   intro ht
   have ih':=ih fun x hx=>ht x (List.mem_cons_of_mem _ hx)
   have h2:(outsOf s l r).length≤1048577:=by
    unfold outsOf winsS
    rw [List.length_map]
    split
    ·rename_i hk
     rw [spans_len]; exact count_le (h.time hk (ht r (by simp)))
    ·exact Nat.succ_le_succ (Nat.zero_le _)
   rw [List.flatMap_cons,List.length_append,List.length_cons]; omega
 have h2:=h1 l fun _ hr=>hr
 have h3:=fold_len (l.flatMap (outsOf s l)) []
 have h4:=h.len
 unfold allS
 simp only [List.length_nil,Nat.zero_add] at h3
 omega
theorem win_range {s:Wsp} {l:List Rw} (h:Askd s l) {r:Rw} (hr:r∈l) {w:Int × Int} (hw:w∈winsS s l r):0≤w.1∧w.1≤1048576∧0≤w.2∧w.2≤1049576:=by
 have hsz:=h.size
 have ht:=h.row hr
 unfold winsS at hw
 split at hw
 ·rename_i hk
  have hsp:=h.w.sp hk
  obtain ⟨⟨j,hj,rfl⟩,h1,h2⟩:=(mem_spans hsp).1 hw
  have h3:0≤j*s.step:=Int.mul_nonneg hj (by have:=hsp.step; omega)
  simp only at h1 h2 ⊢
  omega
 ·rw [List.mem_singleton.1 hw,sessS_eq]
  have hs:=sess_ok (s:=s) hr
  have hc:Closed s r.key l (0,1048576):=fun x hx _ _ _=>(h.row hx).1
  have:=hs.least _ hc ht.1.1 ht.1.2
  have h1:=hs.lo
  have h2:=hs.hi
  unfold Within at this
  simp only at this ⊢
  omega
theorem all_small {s:Wsp} {l:List Rw} (h:Askd s l):∀ x∈allS s l,SmO x:=by
 intro x hx
 obtain ⟨r,hr,w,hw,rfl⟩:=(mem_all h.w).1 hx
 have h1:=win_range h hr hw
 have h2:=h.row hr
 unfold SmO outS
 simp only
 omega
theorem map_len {m:Mp} {L:List Ot} (h:Holds m L):m.length≤L.length:=by
 have h1:∀ k∈m.map (·.1),k∈L.map (fun x=>(x.fr,x.to,x.key)):=by
  intro k hk
  obtain ⟨⟨k',v⟩,hp,rfl⟩:=List.mem_map.1 hk
  have:=(h.mem k' v).1 (mget_of_mem h.nd hp)
  exact List.mem_map.2 ⟨_,this,rfl⟩
 have:=sub_len h.nd h1
 rwa [List.length_map,List.length_map] at this
theorem holds_at {m:Mp} {L:List Ot} (h:Holds m L) (x:Ot):x∈L↔mget (x.fr,x.to,x.key) m=some x.word:=(h.mem (x.fr,x.to,x.key) x.word).symm
open Go in
/-- All windows, either way. -/
theorem TL_cutS {F : Fence} {n : Nat} {Q : Exit → Act → World → Prop} {ds : List Deferred} {σ : Env} {ops : Array Oper} {rest : List Oper} {d : Nat} {ty : TypeId} {pos : String} {af : Array Edge} (hF : Sl.Open F) {rv : Operand} {args : Array Operand} {ats : Array TypeId} {s : Wsp} {a : Option Addr} {l : List Rw} {c : Nat} (hrv : ev σ rv = some (cutV s)) (ha : evs σ args.toList = some [.slice a l.length c]) (hr : RRow S w0 η a l) (hc : l.length ≤ c) (hq : Askd s l) (hn : Nat.blt d n = true)
  (h:∀ mb es clock m,MObj k3V iV m es clock→Holds m (allS s l)→TL F Tryd.prog S w0 n ops Q rest ds ((d,.map (some mb))::σ) ([(mb,Obj.map es clock)]::η)) :
  TL F Tryd.prog S w0 n ops Q (⟨some d, .call ⟨.invoke rv "deltaworks/window.spans", args, ats⟩, ty, pos, af, none⟩ :: rest) ds σ η := by
 have hl:=hq.len
 have hz:=hq.size
 unfold cutV at hrv
 by_cases hk:s.kind=0
 ·rw [if_neg (by omega)] at hrv
  refine TL.invoke hF hrv ha (g:=122) (rcv:=spV s) (fun w=>by kernel_rfl) (spans_fn hr (by omega) hc (fun r hr=>hq.time hk hr) hq.ws) hn ?_
  rintro _ _ ⟨mb,es,clock,rfl,hm,rfl⟩
  exact h mb es clock _ hm (slide_holds hk hq.w l hq.ws)
 ·have hk1:s.kind=1:=by rcases hq.w.kind with h | h <;> omega
  rw [if_pos hk1] at hrv
  refine TL.invoke hF hrv ha (g:=111) (rcv:=spV s) (fun w=>by kernel_rfl) (sspans_fn (by omega) hz.2.1 hr (by omega) hq.tms hq.ws) hn ?_
  rintro _ _ ⟨mb,es,clock,d,rfl,hm,hpd,hrd,rfl⟩
  exact h mb es clock _ hm (sess_holds hk hq.w hpd hrd hq.ws)
set_option maxHeartbeats 4000000 in
theorem Whole_fn (ht : Tabs S w0) (s : Wsp) {a : Option Addr} {l : List Rw} {c : Nat} (hx : RRow S w0 [] a l) (hl : l.length < 9223372036854775808) (hc : l.length ≤ c) :
  Rt Tryd.prog 16 [wsV s,.slice a l.length c].toArray S w0 η (fun v η'=>∃ a cap segs,v = .tuple #[.slice a (wholeS s l).1.length cap,.int .i64 (wholeS s l).2]∧ORow S w0 segs a (wholeS s l).1∧η'=segs++η):=by
 have hF:=open_wide
 refine Rt.ofL (fn:=Tryd.f16) Tryd.func16 rfl rfl ?_
 refine T.seq ?_
 refine T.region ?_
 refine TL.box hF rfl rfl (fun b2=>?_)
 refine TL.assign hF rfl rfl ?_
 refine TL.alloc hF rfl (fun b5=>?_)
 refine TL.nil ?_
 refine TQ.then_n ?_
 refine T.seq ?_
 refine T.region ?_
 refine TL.makeFunc hF rfl rfl rfl ?_
 refine TL.defer hF rfl rfl ?_
 refine TL.nil ?_
 refine TQ.then_n ?_
 refine T.seq ?_
 refine T.region ?_
 refine TL.loadA hF (wsC s) rfl rfl (own_list (i:=1) (cs:=wsC s) rfl) rfl ?_
 refine TL.callE hF (checked_fn ht s) rfl rfl ?_ ?_
 ·rintro _ _ ⟨hok,rfl,rfl⟩
  refine TL.alloc hF rfl (fun b6=>?_)
  refine TL.storeAs hF (spC s) (spC s) 0 (cs:=[.int .i64 0,.int .i64 0,.int .i64 0,.int .i64 0,.int .i64 0,.int .i64 0,.nilFunc,.nilFunc]) rfl rfl rfl rfl (spC1 s) (Nat.le_refl 8) rfl ?_
  refine TL.nil ?_
  refine TQ.then_n ?_
  refine T.seq ?_
  refine T.region ?_
  refine TL.move hF rfl rfl ?_
  refine TL.callE hF (stream_fn hx hl) rfl rfl ?_ ?_
  ·rintro _ _ ⟨hlen,hall,rfl⟩
   have hq:Askd s l:=⟨hok,hlen,hall⟩
   refine TL.nil ?_
   refine TQ.then_n ?_
   refine T.seq ?_
   refine T.region ?_
   refine TL.loadA hF (spC s) rfl rfl (own_list (i:=0) (cs:=spC s) rfl) rfl ?_
   refine TL.callV hF (cutter_fn s) rfl rfl ?_
   refine TL.move hF rfl rfl ?_
   refine TL_cutS hF rfl rfl (hx.up (by simp)) hc hq rfl ?_
   intro mb es clock m hm hh
   have hml:=map_len hh
   have hal:=all_len hq
   refine TL.call hF (listed_fn (e:=false) (L:=allS s l) (mb:=mb) (by simp) hm (by omega) (all_up hq.w l) (holds_at hh) (all_small hq)) rfl rfl ?_
   rintro _ _ ⟨oa,oc,og,rfl,ho,rfl⟩
   refine TL.assign hF rfl rfl ?_
   refine TL.storeI hF 3 rfl rfl rfl rfl (by decide) ?_
   refine TL.nil ?_
   refine TQ.then_n ?_
   refine T.ret ?_
   refine TQ.hsub (og::[(b5,Obj.cells #[.int .i64 0] ERR (0,0))]::η) (List.Sublist.cons_cons _ (List.Sublist.cons _ (List.Sublist.cons _ (List.Sublist.cons_cons _ (List.sublist_cons_self _ _))))) ?_
   refine TQ.retL [4] [_] stop44 (stopped_nil _) rfl rfl rfl (At.own' (i:=1) rfl rfl) ?_
   have e:wholeS s l=(allS s l,0):=by unfold wholeS; rw [if_pos hq.asked]
   rw [e]
   exact ⟨oa,oc,[og,_],rfl,ho.row (by simp),rfl⟩
  ·rintro _ _ ⟨er,hes,rfl,rfl⟩
   refine TQ.then_p ?_
   refine TQ.pop ?_
   refine TQ.panL [4] [.slice none 0 0] stop44 (stopped_err _) rfl rfl rfl (At.own' (i:=0) rfl rfl) ?_
   have e:wholeS s l=([],er):=by 
    obtain ⟨h1,h2⟩:=asked_rows hok hes
    unfold wholeS; rw [if_neg (by rw [h1]; exact h2),h1]
   rw [e]
   exact ⟨none,0,[_,_],rfl,Row.none,rfl⟩
 ·rintro _ _ ⟨hok,rfl,rfl⟩
  refine TQ.then_p ?_
  refine TQ.panL [4] [.slice none 0 0] stop44 (stopped_err _) rfl rfl rfl (At.own' (i:=0) rfl rfl) ?_
  have e:wholeS s l=([],1):=by unfold wholeS; rw [if_neg (by rw [asked_way hok]; exact (by decide:(1:Int)≠0)),asked_way hok]
  rw [e]
  exact ⟨none,0,[_,_],rfl,Row.none,rfl⟩
end Go.Proofs.YtbajelldegijkaaDoor
/- The player: what is over, what a row adds. -/
namespace Go.Proofs.YtbajelldegijkaaDoor
open Go.Sl
variable {S:Nat→Prop} {w0:World} {η:Heap}
structure SH where
 st:Stp
 a:Option Addr
 c:Nat
def shC (x:SH):List Value:=[.slice x.a x.st.outs.length x.c,.bool x.st.late]
theorem shC_len (x:SH):(shC x).length=2:=rfl
theorem shC1 (x:SH):∀ v∈shC x,v.oneCell'=true:=by intro v hv; simp only [shC,List.mem_cons,List.not_mem_nil,or_false] at hv; rcases hv with rfl | rfl <;> rfl
/-- Steps in memory. -/
structure SLs (S:Nat→Prop) (w0:World) (η:Heap) (a:Option Addr) (l:List SH):Prop where
 row:Row S w0 η a (l.flatMap shC)
 item:∀ x∈l,ORow S w0 η x.a x.st.outs
/-- What a player holds. -/
def plC (s:Wsp) (ra:Option Addr) (n rc mb:Nat) (mark:Int):Array Value:=#[cutV s,.slice ra n rc,.map (some mb),.int .i64 mark,.int .i64 s.late]
def PlH (s:Wsp) (pb:Nat) (had:List Rw) (mark:Int) (hp:Heap):Prop:=∃ ra rc rg mb es clock m,hp=[rg,[(mb,Obj.map es clock)],[(pb,Obj.cells (plC s ra had.length rc mb mark) 99 (0,0))]]∧OSl 57 3 (.slice ra had.length rc) had.length (had.flatMap rwC) rg∧MObj k3V iV m es clock∧Holds m (allS s had)
theorem wd_all {s:Wsp} {l:List Rw} (hw:WOk s) (hl:Ws l):∀ x∈allS s l,Wd x.word:=by
 intro x hx
 obtain ⟨r,hr,w,hw,rfl⟩:=(mem_all hw).1 hx
 exact wd_fold (hl.filter _)
theorem holds_wd {s:Wsp} {l:List Rw} {m:Mp} (hw:WOk s) (hl:Ws l) (h:Holds m (allS s l)):VWd m:=fun k v hk=>wd_all hw hl _ ((h.mem k v).1 hk)
structure OI where
 done:List K3
 out:Mp
 seen:Array Nat
 es:Array MapEntry
 clock:Nat
/-- What was taken so far, of what is over. -/
def OvOk (m:Mp) (old now:Int) (done:List K3) (out:Mp):Prop:=(out.map (·.1)).Nodup∧∀ k v,mget k out=some v↔k∈done∧mget k m=some v∧old<k.2.1∧k.2.1≤now
theorem ov_put {m:Mp} (hn:(m.map (·.1)).Nodup) {old now:Int} {done:List K3} {out:Mp} (h:OvOk m old now done out) {p:K3 × Int} (hp:p∈m) (ho:old<p.1.2.1∧p.1.2.1≤now):OvOk m old now (p.1::done) (mput p.1 p.2 out):=by
 have hg:mget p.1 m=some p.2:=mget_of_mem hn hp
 refine ⟨mput_nodup h.1,fun k v=>?_⟩
 rw [mget_mput,List.mem_cons]
 by_cases hk:k=p.1
 ·subst hk
  rw [if_pos rfl,hg]
  constructor
  ·intro e; exact ⟨.inl rfl,e,ho⟩
  ·intro e; exact e.2.1
 ·rw [if_neg hk,h.2]
  constructor
  ·rintro ⟨a,b⟩; exact ⟨.inr a,b⟩
  ·rintro ⟨a | a,b⟩
   ·exact absurd a hk
   ·exact ⟨a,b⟩
theorem ov_skip {m:Mp} {old now:Int} {done:List K3} {out:Mp} (h:OvOk m old now done out) {k0:K3} (ho:¬ (old<k0.2.1∧k0.2.1≤now)):OvOk m old now (k0::done) out:=by
 refine ⟨h.1,fun k v=>?_⟩
 rw [h.2,List.mem_cons]
 constructor
 ·rintro ⟨a,b⟩; exact ⟨.inr a,b⟩
 ·rintro ⟨a | a,b⟩
  ·subst a; exact absurd b.2 ho
  ·exact ⟨a,b⟩
set_option maxHeartbeats 4000000 in
theorem over_fn {s : Wsp} {ra : Option Addr} {n rc mb pb clock : Nat} {mark old now : Int} {m : Mp} {es : Array MapEntry} (hpb : [(pb, Obj.cells (plC s ra n rc mb mark) 99 (0, 0))] ∈ η) (hmb : [(mb, Obj.map es clock)] ∈ η) (hm : MObj k3V iV m es clock) :
  Rt Tryd.prog 52 [ptr pb,.int .i64 old,.int .i64 now].toArray S w0 η (fun v η'=>∃ ob es' clock' out,v = .map (some ob)∧MObj k3V iV out es' clock'∧(out.map (·.1)).Nodup∧(∀ k v,mget k out=some v↔mget k m=some v∧old<k.2.1∧k.2.1≤now)∧η'=[(ob,Obj.map es' clock')]::η):=by
 have hF:=open_wide
 refine Rt.of (fn:=Tryd.f52) Tryd.func52 rfl rfl ?_
 refine T.seq ?_
 refine T.region ?_
 refine TL.assign hF rfl rfl ?_
 refine TL.nil ?_
 refine TQ.then_n ?_
 refine T.seq ?_
 refine T.region ?_
 refine TL.makeMap hF rfl (fun b10=>?_)
 refine TL.assign hF rfl rfl ?_
 refine TL.nil ?_
 refine TQ.then_n ?_
 refine T.seq ?_
 refine T.seq ?_
 refine T.region ?_
 refine TL.move hF rfl rfl ?_
 refine TL.move hF rfl rfl ?_
 refine TL.bin hF rfl rfl rfl rfl ?_
 refine TL.nil ?_
 refine TQ.then_n ?_
 refine T.cond_d rfl (fun ht13=>?_) (fun ht13=>?_)
 ·refine T.seq ?_
  refine T.region ?_
  refine TL.move hF rfl rfl ?_
  refine TL.assign hF rfl rfl ?_
  refine TL.nil ?_
  refine TQ.then_n ?_
  refine T.ret ?_
  refine TQ.then_r ?_
  have hon:now=old:=ht13
  subst hon
  refine TQ.rets [6] _ rfl rfl rfl ⟨b10,#[],0,[],rfl,MObj.nil _ _,by simp,fun k v=>?_,rfl⟩
  constructor
  ·intro h; simp [mget] at h
  ·rintro ⟨_,h1,h2⟩; omega
 ·refine T.skip ?_
  refine TQ.then_n ?_
  refine T.seq ?_
  refine T.seq ?_
  refine T.region ?_
  refine TL.move hF rfl rfl ?_
  refine TL.nilCheck hF rfl rfl ?_
  refine TL.fieldAddr hF rfl rfl ?_
  refine TL.load hF rfl (own_mem (b:=pb) (cs:=(plC s ra n rc mb mark)) (e:=99) (fz:=(0,0)) (List.mem_cons_of_mem _ hpb) rfl) rfl ?_
  refine TL.range hF rfl (List.mem_cons_of_mem _ hmb) rfl (fun b19=>?_)
  refine TL.nil ?_
  refine TQ.then_n ?_
  refine T.block ?_
  refine T.loop (ι:=OI) (fun z=>OvOk m old now z.done z.out∧ItOk m es z.seen z.done∧z.done.Nodup∧(∀ k∈z.done,k∈m.map (·.1))∧MObj k3V iV z.out z.es z.clock) (fun _=>[(1,.int .i64 old),(2,.int .i64 now),(6,.map none),(7,.map (some b10)),(19,ptr b19)]) (fun z=>[(b19,Obj.mapIter (some mb) clock z.seen clock)]::[(b10,Obj.map z.es z.clock)]::η) (fun z=>(m.map (·.1)).length - z.done.length) ⟨[],[],#[],#[],0⟩ ⟨⟨List.nodup_nil,fun k v=>by simp [mget]⟩,ItOk.start m es,List.nodup_nil,by simp,MObj.nil _ _⟩ ⟨rfl,rfl,rfl,rfl,rfl,trivial⟩ rfl ?_
  rintro ⟨done,out,seen,es1,clock1⟩ ⟨hov,hit,hnd,hsub,hmo⟩
  dsimp only at hov hit hnd hsub hmo
  refine T.seq ?_
  refine T.region ?_
  refine TL.next hF 0 rfl rfl (List.mem_cons_of_mem _ (List.mem_cons_of_mem _ hmb)) hm hit rfl (fun hover=>?_) (fun p20 seen20 hp20 hnd20 hit20 hent20=>?_)
  ·refine TL.extract hF rfl rfl rfl ?_
   refine TL.nil ?_
   refine TQ.then_n ?_
   refine T.seq ?_
   refine T.cond_f rfl rfl ?_
   refine T.exit ?_
   refine TQ.then_x ?_
   refine TQ.then_x ?_
   refine TQ.block_x ?_
   refine TQ.then_n ?_
   refine T.seq ?_
   refine T.region ?_
   refine TL.move hF rfl rfl ?_
   refine TL.assign hF rfl rfl ?_
   refine TL.nil ?_
   refine TQ.then_n ?_
   refine T.ret ?_
   refine TQ.pop ?_
   refine TQ.rets [6] _ rfl rfl rfl ⟨b10,es1,clock1,out,rfl,hmo,hov.1,fun k v=>?_,rfl⟩
   rw [hov.2]
   constructor
   ·exact fun h=>h.2
   ·exact fun h=>⟨hover _ (mget_mem h.1),h⟩
  ·refine TL.extract hF rfl rfl rfl ?_
   refine TL.nil ?_
   refine TQ.then_n ?_
   refine T.seq ?_
   refine T.cond_t rfl rfl ?_
   refine T.skip ?_
   refine TQ.then_n ?_
   refine T.block ?_
   refine T.seq ?_
   refine T.region ?_
   refine TL.entry hF rfl (List.mem_cons_self) (List.mem_cons_of_mem _ (List.mem_cons_of_mem _ hmb)) hm hent20 rfl ?_
   refine TL.extract hF rfl rfl rfl ?_
   refine TL.extract hF rfl rfl rfl ?_
   refine TL.alloc hF rfl (fun b8=>?_)
   refine TL.storeAs hF (k3C p20.1) (k3C p20.1) 0 (cs:=[.int .i64 0,.int .i64 0,.int .i64 0]) rfl rfl rfl rfl (k3C1 _) (Nat.le_refl 3) rfl ?_
   refine TL.assign hF rfl rfl ?_
   refine TL.nil ?_
   refine TQ.then_n ?_
   refine T.seq ?_
   refine T.region ?_
   refine TL.fieldAddr hF rfl rfl ?_
   refine TL.load hF rfl (own_mem (b:=b8) (cs:=(k3C p20.1).toArray) (e:=119) (fz:=(0,0)) (by simp) rfl) rfl ?_
   refine TL.move hF rfl rfl ?_
   refine TL.bin hF rfl rfl rfl rfl ?_
   refine TL.move hF rfl rfl ?_
   refine TL.join [_,_,_,_,_] 34 (.bool (decide (p20.1.2.1≤now) && decide (old<p20.1.2.1))) rfl ?_ ?_
   ·refine TL.gd (t:=29) rfl (fun g7_29=>?_) (fun g7_29=>?_)
    ·refine TL.on rfl rfl rfl (decide_eq_true g7_29) ?_
     refine TL.fieldAddr hF rfl rfl ?_
     refine TL.on rfl rfl rfl (decide_eq_true g7_29) ?_
     refine TL.load hF rfl (own_mem (b:=b8) (cs:=(k3C p20.1).toArray) (e:=119) (fz:=(0,0)) (by simp) rfl) rfl ?_
     refine TL.on rfl rfl rfl (decide_eq_true g7_29) ?_
     refine TL.move hF rfl rfl ?_
     refine TL.on rfl rfl rfl (decide_eq_true g7_29) ?_
     refine TL.bin hF rfl rfl rfl rfl ?_
     refine TL.pickT hF rfl (decide_eq_true g7_29) rfl rfl ?_
     refine TL.finJ ⟨?_,by repeat (first | exact trivial | refine ⟨rfl,?_⟩)⟩
     exact congrArg (fun z=>some (Value.bool z)) (by first | (rw [(decide_eq_true g7_29)]; rfl) | (rw [(decide_eq_true g7_29)]; simp; done) | (simp [*]; done))
    ·refine TL.off hF rfl rfl rfl (decide_eq_false g7_29) rfl ?_
     refine TL.off hF rfl rfl rfl (decide_eq_false g7_29) rfl ?_
     refine TL.off hF rfl rfl rfl (decide_eq_false g7_29) rfl ?_
     refine TL.off hF rfl rfl rfl (decide_eq_false g7_29) rfl ?_
     refine TL.pickF hF rfl (decide_eq_false g7_29) rfl rfl ?_
     refine TL.finJ ⟨?_,by repeat (first | exact trivial | refine ⟨rfl,?_⟩)⟩
     exact congrArg (fun z=>some (Value.bool z)) (by first | (rw [(decide_eq_false g7_29)]; rfl) | (rw [(decide_eq_false g7_29)]; simp; done) | (simp [*]; done))
   ·refine TL.nil ?_
    refine TQ.then_n ?_
    refine T.cond _ rfl (fun ht34=>?_) (fun ht34=>?_)
    ·refine T.region ?_
     refine TL.move hF rfl rfl ?_
     refine TL.loadA hF (k3C p20.1) rfl rfl (own_list (i:=0) (cs:=k3C p20.1) rfl) rfl ?_
     refine TL.move hF rfl rfl ?_
     refine TL.mapUpdate hF 2 iV p20.1 p20.2 rfl rfl rfl rfl hmo (fun es8 clock8 hm8=>?_)
     refine TL.nil ?_
     refine TQ.block_n ?_
     have hsub2:∀ k∈p20.1::done,k∈m.map (·.1):=fun k hk=>by
      rcases List.mem_cons.1 hk with rfl | hk
      ·exact List.mem_map_of_mem hp20
      ·exact hsub k hk
     simp only [Bool.and_eq_true,decide_eq_true_eq] at ht34
     refine TQ.pop ?_
     refine TQ.round ⟨p20.1::done,mput p20.1 p20.2 out,seen20,es8,clock8⟩ ⟨ov_put hm.nd hov hp20 ⟨ht34.2,ht34.1⟩,hit20,List.nodup_cons.2 ⟨hnd20,hnd⟩,fun k hk=>?_,hm8⟩ (by have hdl:=sub_len (List.nodup_cons.2 ⟨hnd20,hnd⟩) hsub2; dsimp only; simp only [List.length_cons] at hdl ⊢; omega) ⟨rfl,rfl,rfl,rfl,rfl,trivial⟩ rfl
     exact hsub2 k hk
    ·refine T.skip ?_
     refine TQ.block_n ?_
     have hsub2:∀ k∈p20.1::done,k∈m.map (·.1):=fun k hk=>by
      rcases List.mem_cons.1 hk with rfl | hk
      ·exact List.mem_map_of_mem hp20
      ·exact hsub k hk
     rw [← Bool.not_eq_true] at ht34
     simp only [Bool.and_eq_true,decide_eq_true_eq] at ht34
     refine TQ.pop ?_
     refine TQ.round ⟨p20.1::done,out,seen20,es1,clock1⟩ ⟨ov_skip hov (fun h=>ht34 ⟨h.2,h.1⟩),hit20,List.nodup_cons.2 ⟨hnd20,hnd⟩,fun k hk=>?_,hmo⟩ (by have hdl:=sub_len (List.nodup_cons.2 ⟨hnd20,hnd⟩) hsub2; dsimp only; simp only [List.length_cons] at hdl ⊢; omega) ⟨rfl,rfl,rfl,rfl,rfl,trivial⟩ rfl
     exact hsub2 k hk
end Go.Proofs.YtbajelldegijkaaDoor
/- The player: what a row adds. -/
namespace Go.Proofs.YtbajelldegijkaaDoor
open Go.Sl
variable {S:Nat→Prop} {w0:World} {η:Heap}
theorem last_snoc (l:List Rw) (r:Rw) (h:(l++[r]).length - 1<(l++[r]).length):(l++[r])[(l++[r]).length - 1]=r:=by simp
open Go in
/-- What one more row makes of the windows, either way. -/
theorem TL_cutG {F : Fence} {n : Nat} {Q : Exit → Act → World → Prop} {ds : List Deferred} {σ : Env} {ops : Array Oper} {rest : List Oper} {d : Nat} {ty : TypeId} {pos : String} {af : Array Edge} (hF : Sl.Open F) {rv : Operand} {args : Array Operand} {ats : Array TypeId} {s : Wsp} {a : Option Addr} {l : List Rw} {r : Rw} {c mb clock : Nat} {es : Array MapEntry} {m : Mp} (hrv : ev σ rv = some (cutV s)) (ha : evs σ args.toList = some [.map (some mb), .slice a (l ++ [r]).length c]) (hr : RRow S w0 η a (l ++ [r])) (hm : MObj k3V iV m es clock) (hh : Holds m (allS s l)) (hq : Askd s (l ++ [r])) (hn : Nat.blt d n = true)
  (h:∀ mb' es' clock' m',MObj k3V iV m' es' clock'→Holds m' (allS s (l++[r]))→TL F Tryd.prog S w0 n ops Q rest ds ((d,.map (some mb'))::σ) ([(mb',Obj.map es' clock')]::η)) :
  TL F Tryd.prog S w0 n ops Q (⟨some d, .call ⟨.invoke rv "deltaworks/window.grown", args, ats⟩, ty, pos, af, none⟩ :: rest) ds σ ([(mb, Obj.map es clock)] :: η) := by
 have hl:=hq.len
 have hz:=hq.size
 have hrm:r∈l++[r]:=by simp
 have hwl:Ws l:=fun x hx=>hq.ws x (by simp [hx])
 unfold cutV at hrv
 by_cases hk:s.kind=0
 ·rw [if_neg (by omega)] at hrv
  refine TL.invoke hF hrv ha (g:=121) (rcv:=spV s) (fun w=>by kernel_rfl) (grown_fn hm (holds_wd hq.w hwl hh) hr (by omega) (by simp) (last_snoc l r (by simp)) (hq.time hk hrm) (hq.ws r hrm)) hn ?_
  rintro _ _ ⟨es',clock',rfl,hm',rfl⟩
  exact h mb es' clock' _ hm' (grown_holds hk hq.w hwl (hq.ws r hrm) hh)
 ·have hk1:s.kind=1:=by rcases hq.w.kind with h | h <;> omega
  rw [if_pos hk1] at hrv
  refine TL.invoke hF hrv ha (g:=110) (rcv:=spV s) (fun w=>by kernel_rfl) (sgrown_fn (by omega) hz.2.1 (hr.up (fun _ hs=>List.mem_cons_of_mem _ hs)) (by omega) hq.tms hq.ws) hn ?_
  rintro _ _ ⟨mb',es',clock',d',rfl,hm',hpd,hrd,rfl⟩
  exact TL.hsub _ (List.Sublist.cons_cons _ (List.sublist_cons_self _ _)) (h mb' es' clock' _ hm' (sess_holds hk hq.w hpd hrd hq.ws))
set_option maxHeartbeats 8000000 in
theorem add_fn {s : Wsp} {pb : Nat} {had : List Rw} {mark : Int} {r : Rw} {hp : Heap} (hpl : PlH s pb had mark hp) (hq : Askd s (had ++ [r])) (_hmk : 0 ≤ mark ∧ mark ≤ 1048576) :
  Rt Tryd.prog 51 [ptr pb,rwV r].toArray S w0 (hp++η) (fun v η'=>∃ x had' mark' segs hp',(∀ st,stepS s (st,had,mark) r=(st++[x.st],had',mark'))∧v = .agg (shC x).toArray∧ORow S w0 segs x.a x.st.outs∧PlH s pb had' mark' hp'∧(∀ q∈had',q∈had∨q=r)∧η'=segs++(hp'++η)):=by
 obtain ⟨ra,rc,rg,mb,es,clock,m,rfl,ho,hm,hh⟩:=hpl
 have hlen:=hq.len
 have hsz:=hq.size
 have htr:=(hq.row (r:=r) (by simp)).1
 rw [List.length_append,List.length_singleton] at hlen
 have hF:=open_wide
 refine Rt.of (fn:=Tryd.f51) Tryd.func51 rfl rfl ?_
 refine T.seq ?_
 refine T.region ?_
 refine TL.box hF rfl rfl (fun b3=>?_)
 refine TL.alloc hF rfl (fun b4=>?_)
 refine TL.nil ?_
 refine TQ.then_n ?_
 refine T.seq ?_
 refine T.seq ?_
 refine T.heap (η':=[(b4,Obj.cells #[.slice none 0 0,.bool false] 42 (0,0))]::[(b3,Obj.cells (rwC r).toArray 57 (0,0))]::rg::[(mb,Obj.map es clock)]::[(pb,Obj.cells (plC s ra had.length rc mb mark) 99 (0,0))]::η) rfl ?_
 refine T.draw ?_
 refine DR.stepV [_] rfl [(3,_,none)] rfl rfl ⟨⟨rfl,by kernel_rfl⟩,trivial⟩ (fun ext=>TL.fieldAddr hF rfl rfl TL.fin) ?_
 refine DR.stepV [_,_] rfl [(6,_,some 0)] rfl rfl ⟨⟨rfl,rfl,rfl⟩,trivial⟩ (fun ext=>TL.load hF rfl (own_mem (b:=b3) (cs:=(rwC r).toArray) (e:=57) (fz:=(0,0)) (by simp) rfl) rfl TL.fin) ?_
 refine DR.stepV [_,_,_] rfl [(0,_,none)] rfl rfl ⟨⟨rfl,by kernel_rfl⟩,trivial⟩ (fun ext=>TL.move hF rfl rfl TL.fin) ?_
 refine DR.stepV [_,_,_,_] rfl [(8,_,some 2)] rfl rfl ⟨⟨rfl,rfl,rfl⟩,trivial⟩ (fun ext=>TL.nilCheck hF rfl rfl TL.fin) ?_
 refine DR.stepV [_,_,_,_,_] rfl [(9,_,some 3)] rfl rfl ⟨⟨rfl,rfl,rfl⟩,trivial⟩ (fun ext=>TL.fieldAddr hF rfl rfl TL.fin) ?_
 refine DR.stepV [_,_,_,_,_,_] rfl [(10,_,some 4)] rfl rfl ⟨⟨rfl,rfl,rfl⟩,trivial⟩ (fun ext=>TL.load hF rfl (own_mem (b:=pb) (cs:=(plC s ra had.length rc mb mark)) (e:=99) (fz:=(0,0)) (by simp) rfl) rfl TL.fin) ?_
 refine DR.done [(11,_),(10,_),(9,_),(8,_),(7,_),(6,_)] [_] mixed (by kernel_rfl) (by kernel_rfl) (by kernel_rfl) rfl rfl ?_
 refine TL.bin hF rfl rfl rfl rfl ?_
 refine TL.nil ?_
 refine TQ.then_n ?_
 refine T.cond_d rfl (fun ht12=>?_) (fun ht12=>?_)
 ·refine T.seq ?_
  refine T.region ?_
  refine TL.fieldAddr hF rfl rfl ?_
  refine TL.storeI hF 0 rfl rfl rfl rfl (by decide) ?_
  refine TL.nil ?_
  refine TQ.then_n ?_
  refine T.seq ?_
  refine T.region ?_
  refine TL.loadA hF [.slice none 0 0,.bool true] rfl rfl (own_list (i:=0) (cs:=[.slice none 0 0,.bool true]) rfl) rfl ?_
  refine TL.storeAs hF [.slice none 0 0,.bool true] [.slice none 0 0,.bool true] 0 (cs:=[.slice none 0 0,.bool true]) rfl rfl rfl rfl (by simp [Value.oneCell']) (Nat.le_refl 2) rfl ?_
  refine TL.nil ?_
  refine TQ.then_n ?_
  refine T.ret ?_
  refine TQ.then_r ?_
  refine TQ.retC [.slice none 0 0,.bool true] (rg::[(mb,Obj.map es clock)]::[(pb,Obj.cells (plC s ra had.length rc mb mark) 99 (0,0))]::η) rfl rfl rfl (own_list (i:=0) (cs:=[.slice none 0 0,.bool true]) rfl) (List.Sublist.cons _ (List.sublist_cons_self _ _)) ?_
  refine ⟨⟨⟨true,[]⟩,none,0⟩,had,mark,[],_,fun st=>?_,rfl,Row.none,⟨ra,rc,rg,mb,es,clock,m,rfl,ho,hm,hh⟩,fun q hq2=>.inl hq2,rfl⟩
  unfold stepS; rw [if_pos (show r.time<mark from ht12)]
 ·refine T.skip ?_
  refine TQ.then_n ?_
  refine T.seq ?_
  refine T.drawH 8 mixed ?_
  refine DH.pure (i:=0) [(0,_,none)] rfl rfl rfl rfl ⟨⟨rfl,by kernel_rfl⟩,trivial⟩ (fun _ ext=>TL.move hF rfl rfl TL.fin) ?_
  refine DH.pure (i:=1) [(0,_,none)] rfl rfl rfl rfl ⟨⟨rfl,by kernel_rfl⟩,trivial⟩ (fun _ ext=>TL.move hF rfl rfl TL.fin) ?_
  refine DH.pure (i:=2) [(16,_,some 1)] rfl rfl rfl rfl ⟨⟨rfl,rfl,rfl⟩,trivial⟩ (fun _ ext=>TL.nilCheck hF rfl rfl TL.fin) ?_
  refine DH.pure (i:=3) [(17,_,some 2)] rfl rfl rfl rfl ⟨⟨rfl,rfl,rfl⟩,trivial⟩ (fun _ ext=>TL.fieldAddr hF rfl rfl TL.fin) ?_
  refine DH.read (i:=4) [(18,_,some 3)] rfl rfl rfl rfl ⟨⟨rfl,rfl,rfl⟩,trivial⟩ (fun ext=>TL.load hF rfl (own_mem (b:=pb) (cs:=(plC s ra had.length rc mb mark)) (e:=99) (fz:=(0,0)) (by simp) rfl) rfl TL.fin) ?_
  refine DH.read (i:=5) [(3,_,none)] rfl rfl rfl rfl ⟨⟨rfl,by kernel_rfl⟩,trivial⟩ (fun ext=>TL.loadA hF (rwC r) rfl rfl (own_listM (b:=b3) (cs:=rwC r) (e:=57) (fz:=(0,0)) (by simp)) rfl TL.fin) ?_
  refine DH.k1 (by kernel_rfl) (by kernel_rfl) (by kernel_rfl) (by kernel_rfl) (HBK.mk (h:=6) [4] [(20,_,some 5)] rfl rfl rfl ⟨⟨rfl,rfl,rfl⟩,trivial⟩ (by kernel_rfl) (fun ext=>?_))
  refine TL.buildSlice hF rfl (cs:=(rwC r).toArray) (e:=57) (fun w=>by kernel_rfl) rfl (fun bq=>?_)
  refine TL.finK ⟨⟨_,rfl,_,_,[(18,_,some 3)],rfl,rfl,⟨⟨rfl,rfl,rfl⟩,trivial⟩,fun ext=>TL.load hF rfl (own_mem (b:=pb) (cs:=(plC s ra had.length rc mb mark)) (e:=99) (fz:=(0,0)) (by simp) rfl) rfl TL.fin⟩,trivial⟩ ?_
  refine DH.heavy 7 [(19,_,some 4),(21,_,some 6)] (by kernel_rfl) (by kernel_rfl) (by kernel_rfl) (by kernel_rfl) rfl rfl rfl rfl ⟨⟨rfl,rfl,rfl⟩,⟨rfl,rfl,rfl⟩,trivial⟩ (by kernel_rfl) (fun ext=>?_)
  refine TL.append hF 3 rfl rfl rfl ho (row_own (cs:=rwC r) (e:=57) (b:=bq) (by simp)).src rfl rfl (rwC1 r) (by omega) (by omega) rfl (fun pa pc pg ph=>?_)
  rw [flat_snoc] at ph
  refine TL.finD ?_
  refine DH.done [(22,_),(21,_),(20,_),(19,_),(18,_),(17,_),(16,_),(15,_)] [_,_,_] (by kernel_rfl) (by kernel_rfl) (by kernel_rfl) (by kernel_rfl) rfl rfl ?_
  refine TL.nilCheck hF rfl rfl ?_
  refine TL.fieldAddr hF rfl rfl ?_
  refine TL.storeI hF 5 rfl rfl rfl rfl (by simp [plC]) ?_
  refine TL.nil ?_
  refine TQ.then_n ?_
  refine T.seq ?_
  refine T.heap (η':=[(bq,Obj.cells (rwC r).toArray 57 (0,0))]::[(b4,Obj.cells #[.slice none 0 0,.bool false] 42 (0,0))]::[(b3,Obj.cells (rwC r).toArray 57 (0,0))]::pg::[(mb,Obj.map es clock)]::[(pb,Obj.cells (plC s pa (had.length+1) pc mb mark) 99 (0,0))]::η) rfl ?_
  refine T.drawH 16 mixed ?_
  refine DH.pure (i:=0) [(0,_,none)] rfl rfl rfl rfl ⟨⟨rfl,by kernel_rfl⟩,trivial⟩ (fun _ ext=>TL.move hF rfl rfl TL.fin) ?_
  refine DH.pure (i:=1) [(0,_,none)] rfl rfl rfl rfl ⟨⟨rfl,by kernel_rfl⟩,trivial⟩ (fun _ ext=>TL.move hF rfl rfl TL.fin) ?_
  refine DH.pure (i:=2) [(26,_,some 1)] rfl rfl rfl rfl ⟨⟨rfl,rfl,rfl⟩,trivial⟩ (fun _ ext=>TL.nilCheck hF rfl rfl TL.fin) ?_
  refine DH.pure (i:=3) [(27,_,some 2)] rfl rfl rfl rfl ⟨⟨rfl,rfl,rfl⟩,trivial⟩ (fun _ ext=>TL.fieldAddr hF rfl rfl TL.fin) ?_
  refine DH.read (i:=4) [(28,_,some 3)] rfl rfl rfl rfl ⟨⟨rfl,rfl,rfl⟩,trivial⟩ (fun ext=>TL.load hF rfl (own_mem (b:=pb) (cs:=(plC s pa (had.length+1) pc mb mark)) (e:=99) (fz:=(0,0)) (by simp) rfl) rfl TL.fin) ?_
  refine DH.pure (i:=5) [(0,_,none)] rfl rfl rfl rfl ⟨⟨rfl,by kernel_rfl⟩,trivial⟩ (fun _ ext=>TL.move hF rfl rfl TL.fin) ?_
  refine DH.pure (i:=6) [(30,_,some 5)] rfl rfl rfl rfl ⟨⟨rfl,rfl,rfl⟩,trivial⟩ (fun _ ext=>TL.nilCheck hF rfl rfl TL.fin) ?_
  refine DH.pure (i:=7) [(31,_,some 6)] rfl rfl rfl rfl ⟨⟨rfl,rfl,rfl⟩,trivial⟩ (fun _ ext=>TL.fieldAddr hF rfl rfl TL.fin) ?_
  refine DH.read (i:=8) [(32,_,some 7)] rfl rfl rfl rfl ⟨⟨rfl,rfl,rfl⟩,trivial⟩ (fun ext=>TL.load hF rfl (own_mem (b:=pb) (cs:=(plC s pa (had.length+1) pc mb mark)) (e:=99) (fz:=(0,0)) (by simp) rfl) rfl TL.fin) ?_
  refine DH.pure (i:=9) [(0,_,none)] rfl rfl rfl rfl ⟨⟨rfl,by kernel_rfl⟩,trivial⟩ (fun _ ext=>TL.move hF rfl rfl TL.fin) ?_
  refine DH.pure (i:=10) [(34,_,some 9)] rfl rfl rfl rfl ⟨⟨rfl,rfl,rfl⟩,trivial⟩ (fun _ ext=>TL.nilCheck hF rfl rfl TL.fin) ?_
  refine DH.pure (i:=11) [(35,_,some 10)] rfl rfl rfl rfl ⟨⟨rfl,rfl,rfl⟩,trivial⟩ (fun _ ext=>TL.fieldAddr hF rfl rfl TL.fin) ?_
  refine DH.read (i:=12) [(36,_,some 11)] rfl rfl rfl rfl ⟨⟨rfl,rfl,rfl⟩,trivial⟩ (fun ext=>TL.load hF rfl (own_mem (b:=pb) (cs:=(plC s pa (had.length+1) pc mb mark)) (e:=99) (fz:=(0,0)) (by simp) rfl) rfl TL.fin) ?_
  refine DH.pure (i:=13) [(29,_,some 4)] rfl rfl rfl rfl ⟨⟨rfl,rfl,rfl⟩,trivial⟩ (fun _ ext=>TL.nilCheckI hF rfl rfl TL.fin) ?_
  refine DH.pure (i:=14) [(29,_,some 4)] rfl rfl rfl rfl ⟨⟨rfl,rfl,rfl⟩,trivial⟩ (fun _ ext=>TL.move hF rfl rfl TL.fin) ?_
  refine DH.heavy 15 [(39,_,some 14),(33,_,some 8),(37,_,some 12)] (by kernel_rfl) (by kernel_rfl) (by kernel_rfl) (by kernel_rfl) rfl rfl rfl rfl ⟨⟨rfl,rfl,rfl⟩,⟨rfl,rfl,rfl⟩,⟨rfl,rfl,rfl⟩,trivial⟩ (by kernel_rfl) (fun ext=>?_)
  refine TL.pick' [4,0,1,2,3,5] [_,_,_,_,_,_] rfl rfl rfl ?_
  have hlen1:(had++[r]).length=had.length+1:=by simp
  refine TL_cutG hF rfl (l:=had) (r:=r) (a:=pa) (c:=pc) (by rw [hlen1]; rfl) (ph.row (by simp)) hm hh hq rfl ?_
  intro mb2 es2 clock2 m2 hm2 hh2
  refine TL.finD ?_
  refine DH.done [(40,_),(39,_),(38,_),(37,_),(36,_),(35,_),(34,_),(33,_),(32,_),(31,_),(30,_),(29,_),(28,_),(27,_),(26,_),(25,_)] [_,_,_] (by kernel_rfl) (by kernel_rfl) (by kernel_rfl) (by kernel_rfl) rfl rfl ?_
  refine TL.nilCheck hF rfl rfl ?_
  refine TL.fieldAddr hF rfl rfl ?_
  refine TL.storeI hF 5 rfl rfl rfl rfl (by simp [plC]) ?_
  refine TL.nil ?_
  refine TQ.then_n ?_
  refine T.seq ?_
  refine T.region ?_
  refine TL.heap (η':=[(mb2,Obj.map es2 clock2)]::[(bq,Obj.cells (rwC r).toArray 57 (0,0))]::[(b4,Obj.cells #[.slice none 0 0,.bool false] 42 (0,0))]::[(b3,Obj.cells (rwC r).toArray 57 (0,0))]::pg::[(pb,Obj.cells (plC s pa (had.length+1) pc mb2 mark) 99 (0,0))]::η) rfl ?_
  refine TL.move hF rfl rfl ?_
  refine TL.nilCheck hF rfl rfl ?_
  refine TL.fieldAddr hF rfl rfl ?_
  refine TL.load hF rfl (own_mem (b:=pb) (cs:=(plC s pa (had.length+1) pc mb2 mark)) (e:=99) (fz:=(0,0)) (by simp) rfl) rfl ?_
  refine TL.assign hF rfl rfl ?_
  refine TL.nil ?_
  refine TQ.then_n ?_
  refine T.seq ?_
  refine T.draw ?_
  refine DR.stepV [_] rfl [(0,_,none)] rfl rfl ⟨⟨rfl,by kernel_rfl⟩,trivial⟩ (fun ext=>TL.move hF rfl rfl TL.fin) ?_
  refine DR.stepV [_,_] rfl [(0,_,none)] rfl rfl ⟨⟨rfl,by kernel_rfl⟩,trivial⟩ (fun ext=>TL.move hF rfl rfl TL.fin) ?_
  refine DR.stepV [_,_,_] rfl [(48,_,some 1)] rfl rfl ⟨⟨rfl,rfl,rfl⟩,trivial⟩ (fun ext=>TL.nilCheck hF rfl rfl TL.fin) ?_
  refine DR.stepV [_,_,_,_] rfl [(49,_,some 2)] rfl rfl ⟨⟨rfl,rfl,rfl⟩,trivial⟩ (fun ext=>TL.fieldAddr hF rfl rfl TL.fin) ?_
  refine DR.stepV [_,_,_,_,_] rfl [(50,_,some 3)] rfl rfl ⟨⟨rfl,rfl,rfl⟩,trivial⟩ (fun ext=>TL.load hF rfl (own_mem (b:=pb) (cs:=(plC s pa (had.length+1) pc mb2 mark)) (e:=99) (fz:=(0,0)) (by simp) rfl) rfl TL.fin) ?_
  refine DR.stepV [_,_,_,_,_,_] rfl [(3,_,none)] rfl rfl ⟨⟨rfl,by kernel_rfl⟩,trivial⟩ (fun ext=>TL.fieldAddr hF rfl rfl TL.fin) ?_
  refine DR.stepV [_,_,_,_,_,_,_] rfl [(52,_,some 5)] rfl rfl ⟨⟨rfl,rfl,rfl⟩,trivial⟩ (fun ext=>TL.load hF rfl (own_mem (b:=b3) (cs:=(rwC r).toArray) (e:=57) (fz:=(0,0)) (by simp) rfl) rfl TL.fin) ?_
  refine DR.stepV [_,_,_,_,_,_,_,_] rfl [(0,_,none)] rfl rfl ⟨⟨rfl,by kernel_rfl⟩,trivial⟩ (fun ext=>TL.move hF rfl rfl TL.fin) ?_
  refine DR.stepV [_,_,_,_,_,_,_,_,_] rfl [(54,_,some 7)] rfl rfl ⟨⟨rfl,rfl,rfl⟩,trivial⟩ (fun ext=>TL.nilCheck hF rfl rfl TL.fin) ?_
  refine DR.stepV [_,_,_,_,_,_,_,_,_,_] rfl [(55,_,some 8)] rfl rfl ⟨⟨rfl,rfl,rfl⟩,trivial⟩ (fun ext=>TL.fieldAddr hF rfl rfl TL.fin) ?_
  refine DR.stepV [_,_,_,_,_,_,_,_,_,_,_] rfl [(56,_,some 9)] rfl rfl ⟨⟨rfl,rfl,rfl⟩,trivial⟩ (fun ext=>TL.load hF rfl (own_mem (b:=pb) (cs:=(plC s pa (had.length+1) pc mb2 mark)) (e:=99) (fz:=(0,0)) (by simp) rfl) rfl TL.fin) ?_
  refine DR.stepV [_,_,_,_,_,_,_,_,_,_,_,_] rfl [(53,_,some 6),(57,_,some 10)] rfl rfl ⟨⟨rfl,rfl,rfl⟩,⟨rfl,rfl,rfl⟩,trivial⟩ (fun ext=>TL.sub hF rfl rfl (by first | omega | (dsimp only; omega)) (by first | omega | (dsimp only; omega)) rfl TL.fin) ?_
  refine DR.stepV [_,_,_,_,_,_,_,_,_,_,_,_,_] rfl [(51,_,some 4),(58,_,some 11)] rfl rfl ⟨⟨rfl,rfl,rfl⟩,⟨rfl,rfl,rfl⟩,trivial⟩ (fun ext=>TL.max2 hF rfl rfl rfl TL.fin) ?_
  refine DR.done [(59,_),(58,_),(57,_),(56,_),(55,_),(54,_),(53,_),(52,_),(51,_),(50,_),(49,_),(48,_),(47,_)] [_,_,_] mixed (by kernel_rfl) (by kernel_rfl) (by kernel_rfl) rfl rfl ?_
  refine TL.nilCheck hF rfl rfl ?_
  refine TL.fieldAddr hF rfl rfl ?_
  refine TL.storeI hF 5 rfl rfl rfl rfl (by simp [plC]) ?_
  refine TL.nil ?_
  refine TQ.then_n ?_
  refine T.seq ?_
  refine T.region ?_
  refine TL.heap (η':=[(mb2,Obj.map es2 clock2)]::[(bq,Obj.cells (rwC r).toArray 57 (0,0))]::[(b4,Obj.cells #[.slice none 0 0,.bool false] 42 (0,0))]::[(b3,Obj.cells (rwC r).toArray 57 (0,0))]::pg::[(pb,Obj.cells (plC s pa (had.length+1) pc mb2 (max mark (r.time - s.late))) 99 (0,0))]::η) rfl ?_
  refine TL.move hF rfl rfl ?_
  refine TL.move hF rfl rfl ?_
  refine TL.move hF rfl rfl ?_
  refine TL.nilCheck hF rfl rfl ?_
  refine TL.fieldAddr hF rfl rfl ?_
  refine TL.load hF rfl (own_mem (b:=pb) (cs:=(plC s pa (had.length+1) pc mb2 (max mark (r.time - s.late)))) (e:=99) (fz:=(0,0)) (by simp) rfl) rfl ?_
  have hpl:[(pb,Obj.cells (plC s pa (had.length+1) pc mb2 (max mark (r.time - s.late))) 99 (0,0))]∈[(mb2,Obj.map es2 clock2)]::[(bq,Obj.cells (rwC r).toArray 57 (0,0))]::[(b4,Obj.cells #[.slice none 0 0,.bool false] 42 (0,0))]::[(b3,Obj.cells (rwC r).toArray 57 (0,0))]::pg::[(pb,Obj.cells (plC s pa (had.length+1) pc mb2 (max mark (r.time - s.late))) 99 (0,0))]::η:=by simp
  refine TL.call hF (over_fn (s:=s) (mb:=mb2) (pb:=pb) (m:=m2) hpl (by simp) hm2) rfl rfl ?_
  rintro _ _ ⟨ob,es3,clock3,out,rfl,hm3,hnd3,hov3,rfl⟩
  have hup:Up (ltO true) (overS (allS s (had++[r])) mark (max mark (r.time - s.late))):=over_up (all_up hq.w _) _ _
  have hL:∀ x:Ot,x∈(overS (allS s (had++[r])) mark (max mark (r.time - s.late)))↔mget (x.fr,x.to,x.key) out=some x.word:=fun x=>by
   rw [mem_over (all_up hq.w _),hov3,holds_at hh2]
  have hol:out.length<1000000000:=by
   have h1:=sub_len (m:=m2.map (·.1)) hnd3 fun k hk=>by
    obtain ⟨⟨k',v⟩,hp,rfl⟩:=List.mem_map.1 hk
    exact List.mem_map_of_mem (mget_mem ((hov3 k' v).1 (mget_of_mem hnd3 hp)).1)
   have h2:=map_len hh2
   have h3:=all_len hq
   rw [List.length_map,List.length_map] at h1
   omega
  refine TL.call hF (listed_fn (e:=true) (mb:=ob) (L:=(overS (allS s (had++[r])) mark (max mark (r.time - s.late)))) (by simp) hm3 hol hup hL (fun x hx=>all_small hq x ((mem_over (all_up hq.w _)).1 hx).1)) rfl rfl ?_
  rintro _ _ ⟨oa,oc,og,rfl,ho3,rfl⟩
  refine TL.fieldAddr hF rfl rfl ?_
  refine TL.storeI hF 4 rfl rfl rfl rfl (by decide) ?_
  refine TL.nil ?_
  refine TQ.then_n ?_
  refine T.seq ?_
  refine T.region ?_
  refine TL.loadA hF [.slice oa (overS (allS s (had++[r])) mark (max mark (r.time - s.late))).length oc,.bool false] rfl rfl (own_list (i:=4) (cs:=[.slice oa (overS (allS s (had++[r])) mark (max mark (r.time - s.late))).length oc,.bool false]) rfl) rfl ?_
  refine TL.storeAs hF [.slice oa (overS (allS s (had++[r])) mark (max mark (r.time - s.late))).length oc,.bool false] [.slice oa (overS (allS s (had++[r])) mark (max mark (r.time - s.late))).length oc,.bool false] 4 (cs:=[.slice oa (overS (allS s (had++[r])) mark (max mark (r.time - s.late))).length oc,.bool false]) rfl rfl rfl rfl (by simp [Value.oneCell']) (Nat.le_refl 2) rfl ?_
  refine TL.nil ?_
  refine TQ.then_n ?_
  refine T.ret ?_
  refine TQ.heap (η':=og::[(ob,Obj.map es3 clock3)]::[(mb2,Obj.map es2 clock2)]::[(bq,Obj.cells (rwC r).toArray 57 (0,0))]::[(b4,Obj.cells #[.slice oa (overS (allS s (had++[r])) mark (max mark (r.time - s.late))).length oc,.bool false] 42 (0,0))]::[(b3,Obj.cells (rwC r).toArray 57 (0,0))]::pg::[(pb,Obj.cells (plC s pa (had.length+1) pc mb2 (max mark (r.time - s.late))) 99 (0,0))]::η) rfl ?_
  refine TQ.hperm ([(b4,Obj.cells #[.slice oa (overS (allS s (had++[r])) mark (max mark (r.time - s.late))).length oc,.bool false] 42 (0,0))]::[(ob,Obj.map es3 clock3)]::[(bq,Obj.cells (rwC r).toArray 57 (0,0))]::[(b3,Obj.cells (rwC r).toArray 57 (0,0))]::og::pg::[(mb2,Obj.map es2 clock2)]::[(pb,Obj.cells (plC s pa (had.length+1) pc mb2 (max mark (r.time - s.late))) 99 (0,0))]::η) (perm_cnt fun f=>by simp only [List.map_cons,List.sum_cons]; try omega) ?_
  refine TQ.retC [.slice oa (overS (allS s (had++[r])) mark (max mark (r.time - s.late))).length oc,.bool false] (og::pg::[(mb2,Obj.map es2 clock2)]::[(pb,Obj.cells (plC s pa (had.length+1) pc mb2 (max mark (r.time - s.late))) 99 (0,0))]::η) rfl rfl rfl (own_list (i:=0) (cs:=[.slice oa (overS (allS s (had++[r])) mark (max mark (r.time - s.late))).length oc,.bool false]) rfl) (List.Sublist.cons _ (List.Sublist.cons _ (List.Sublist.cons _ (List.sublist_cons_self _ _)))) ?_
  refine ⟨⟨⟨false,(overS (allS s (had++[r])) mark (max mark (r.time - s.late)))⟩,oa,oc⟩,had++[r],(max mark (r.time - s.late)),[og],_,fun st=>?_,rfl,ho3.row (by simp),⟨pa,pc,pg,mb2,es2,clock2,m2,by rw [hlen1],by rw [hlen1]; exact ph,hm2,hh2⟩,fun q hq2=>?_,rfl⟩
  ·unfold stepS; rw [if_neg (show ¬ r.time<mark from ht12)]
  ·rcases List.mem_append.1 hq2 with h | h
   ·exact .inl h
   ·exact .inr (List.mem_singleton.1 h)
end Go.Proofs.YtbajelldegijkaaDoor
/- Play. -/
namespace Go.Proofs.YtbajelldegijkaaDoor
open Go.Sl
variable {S:Nat→Prop} {w0:World} {η:Heap}
theorem step_keep {s:Wsp} {st st':List Stp} {had had':List Rw} {mark mark':Int} {r:Rw} (h:stepS s (st,had,mark) r=(st',had',mark')):(had'=had∧mark'=mark)∨(had'=had++[r]∧mark'=max mark (r.time - s.late)):=by
 unfold stepS at h
 split at h
 ·simp only [Prod.mk.injEq] at h; exact .inl ⟨h.2.1.symm,h.2.2.symm⟩
 ·simp only [Prod.mk.injEq] at h; exact .inr ⟨h.2.1.symm,h.2.2.symm⟩
theorem left_up {s:Wsp} (hw:WOk s) (l:List Rw):Up (ltO false) (leftS s l):=(all_up hw _).sublist List.filter_sublist
structure PI where
 i:Nat
 xs:List SH
 had:List Rw
 mark:Int
 hp:Heap
 H:Heap
 la:Option Addr
 lc:Nat
 lg:Seg
set_option maxHeartbeats 8000000 in
theorem Play_fn (ht : Tabs S w0) (s : Wsp) {a : Option Addr} {l : List Rw} {c : Nat} (hx : RRow S w0 [] a l) (hl : l.length < 9223372036854775808) :
  Rt Tryd.prog 21 [wsV s,.slice a l.length c].toArray S w0 η (fun v η'=>∃ la lc xs oa oc segs,v = .tuple #[.slice la xs.length lc,.slice oa (playS s l).2.1.length oc,.int .i64 (playS s l).2.2]∧xs.map (·.st)=(playS s l).1∧SLs S w0 segs la xs∧ORow S w0 segs oa (playS s l).2.1∧η'=segs++η):=by
 have hF:=open_wide
 refine Rt.ofL (fn:=Tryd.f21) Tryd.func21 rfl rfl ?_
 refine T.seq ?_
 refine T.region ?_
 refine TL.box hF rfl rfl (fun b2=>?_)
 refine TL.assign hF rfl rfl ?_
 refine TL.assign hF rfl rfl ?_
 refine TL.alloc hF rfl (fun b6=>?_)
 refine TL.nil ?_
 refine TQ.then_n ?_
 refine T.seq ?_
 refine T.region ?_
 refine TL.makeFunc hF rfl rfl rfl ?_
 refine TL.defer hF rfl rfl ?_
 refine TL.nil ?_
 refine TQ.then_n ?_
 refine T.seq ?_
 refine T.region ?_
 refine TL.loadA hF (wsC s) rfl rfl (own_list (i:=1) (cs:=wsC s) rfl) rfl ?_
 refine TL.callE hF (checked_fn ht s) rfl rfl ?_ ?_
 ·rintro _ _ ⟨hok,rfl,rfl⟩
  refine TL.alloc hF rfl (fun b7=>?_)
  refine TL.storeAs hF (spC s) (spC s) 0 (cs:=[.int .i64 0,.int .i64 0,.int .i64 0,.int .i64 0,.int .i64 0,.int .i64 0,.nilFunc,.nilFunc]) rfl rfl rfl rfl (spC1 s) (Nat.le_refl 8) rfl ?_
  refine TL.nil ?_
  refine TQ.then_n ?_
  refine T.seq ?_
  refine T.region ?_
  refine TL.move hF rfl rfl ?_
  refine TL.callE hF (stream_fn hx hl) rfl rfl ?_ ?_
  ·rintro _ _ ⟨hlen,hall,rfl⟩
   have hq:Askd s l:=⟨hok,hlen,hall⟩
   refine TL.nil ?_
   refine TQ.then_n ?_
   refine T.seq ?_
   refine T.heap (η':=([(b7,Obj.cells (spC s).toArray 78 (0,0))]::[(b6,Obj.cells #[.int .i64 0] ERR (0,0))]::[(b2,Obj.cells (wsC s).toArray 23 (0,0))]::η)) rfl ?_
   refine T.drawH 5 mixed ?_
   refine DH.read (i:=0) [(7,_,none)] rfl rfl rfl rfl ⟨⟨rfl,by kernel_rfl⟩,trivial⟩ (fun ext=>TL.loadA hF (spC s) rfl rfl (own_listM (b:=b7) (cs:=spC s) (e:=78) (fz:=(0,0)) (by simp)) rfl TL.fin) ?_
   refine DH.read (i:=1) [(17,_,some 0)] rfl rfl rfl rfl ⟨⟨rfl,rfl,rfl⟩,trivial⟩ (fun ext=>TL.callV hF (cutter_fn s) rfl rfl TL.fin) ?_
   refine DH.pure (i:=3) [(2,_,none)] rfl rfl rfl rfl ⟨⟨rfl,by kernel_rfl⟩,trivial⟩ (fun _ ext=>TL.fieldAddr hF rfl rfl TL.fin) ?_
   refine DH.read (i:=4) [(20,_,some 3)] rfl rfl rfl rfl ⟨⟨rfl,rfl,rfl⟩,trivial⟩ (fun ext=>TL.load hF rfl (own_mem (b:=b2) (cs:=(wsC s).toArray) (e:=23) (fz:=(0,0)) (by simp) rfl) rfl TL.fin) ?_
   refine DH.k1 (by kernel_rfl) (by kernel_rfl) (by kernel_rfl) (by kernel_rfl) (HBK.mk (h:=2) [0,1,4] [] rfl rfl rfl trivial (by kernel_rfl) (fun ext=>?_))
   refine TL.makeMap hF rfl (fun b19=>?_)
   refine TL.finK ⟨⟨_,rfl,_,_,[(7,_,none)],rfl,rfl,⟨⟨rfl,by kernel_rfl⟩,trivial⟩,fun ext=>TL.loadA hF (spC s) rfl rfl (own_listM (b:=b7) (cs:=spC s) (e:=78) (fz:=(0,0)) (by simp)) rfl TL.fin⟩,⟨_,rfl,_,_,[(17,_,some 0)],rfl,rfl,⟨⟨rfl,rfl,rfl⟩,trivial⟩,fun ext=>TL.callV hF (cutter_fn s) rfl rfl TL.fin⟩,⟨_,rfl,_,_,[(20,_,some 3)],rfl,rfl,⟨⟨rfl,rfl,rfl⟩,trivial⟩,fun ext=>TL.load hF rfl (own_mem (b:=b2) (cs:=(wsC s).toArray) (e:=23) (fz:=(0,0)) (by simp) rfl) rfl TL.fin⟩,trivial⟩ ?_
   refine DH.done [(19,_),(21,_),(20,_),(18,_),(17,_)] [_,_,_] (by kernel_rfl) (by kernel_rfl) (by kernel_rfl) (by kernel_rfl) rfl rfl ?_
   refine TL.build hF rfl (r:=.agg #[cutV s,.slice none 0 0,.map (some b19),.int .i64 0,.int .i64 s.late]) (fun w=>by kernel_rfl) rfl ?_
   refine TL.box hF rfl rfl (fun b23=>?_)
   refine TL.assign hF rfl rfl ?_
   refine TL.nil ?_
   refine TQ.then_n ?_
   refine T.seq ?_
   refine T.region ?_
   refine TL.assign hF rfl rfl ?_
   refine TL.nil ?_
   refine TQ.then_n ?_
   refine T.seq ?_
   refine T.seq ?_
   refine T.region ?_
   refine TL.move hF rfl rfl ?_
   refine TL.len hF rfl rfl ?_
   refine TL.move hF rfl rfl ?_
   refine TL.nil ?_
   refine TQ.then_n ?_
   refine T.block ?_
   refine T.hnil ?_
   refine T.heap (η':=[]::[(b23,Obj.cells (plC s none ([]:List Rw).length 0 b19 0) 99 (0,0))]::[(b19,Obj.map #[] 0)]::([(b7,Obj.cells (spC s).toArray 78 (0,0))]::[(b6,Obj.cells #[.int .i64 0] ERR (0,0))]::[(b2,Obj.cells (wsC s).toArray 23 (0,0))]::η)) rfl ?_
   refine T.hnil ?_
   refine T.pick [0,1,3,2] [_,_,_,_] rfl rfl rfl ?_
   have hp0:PlH s b23 [] 0 [[],[(b19,Obj.map #[] 0)],[(b23,Obj.cells (plC s none ([]:List Rw).length 0 b19 0) 99 (0,0))]]:=⟨none,0,[],b19,#[],0,[],rfl,OSl.nil _ _,MObj.nil _ _,holds_nil hq.w⟩
   refine T.loop (ι:=PI) (fun z=>z.i≤l.length∧runS s (l.take z.i)=(z.xs.map (·.st),z.had,z.mark)∧PlH s b23 z.had z.mark z.hp∧(∀ q∈z.had,q∈l)∧z.had.length≤z.i∧(0≤z.mark∧z.mark≤1048576)∧OSl 42 2 (.slice z.la z.xs.length z.lc) z.xs.length (z.xs.flatMap shC) z.lg∧(∀ x∈z.xs,ORow S w0 z.H x.a x.st.outs)∧z.xs.length=z.i) (fun z=>[(1,.slice a l.length c),(4,.slice none 0 0),(5,.slice none 0 0),(6,ptr b6),(8,ptr b23),(24,.slice a l.length c),(25,.int .i64 (l.length:Int)),(9,.slice z.la z.xs.length z.lc),(26,.int .i64 (z.i:Int))]) (fun z=>z.lg::(z.H++(z.hp++([(b7,Obj.cells (spC s).toArray 78 (0,0))]::[(b6,Obj.cells #[.int .i64 0] ERR (0,0))]::[(b2,Obj.cells (wsC s).toArray 23 (0,0))]::η)))) (fun z=>l.length - z.i) ⟨0,[],[],0,_,[],none,0,[]⟩ ⟨Nat.zero_le _,rfl,hp0,by simp,Nat.le_refl _,by simp,OSl.nil _ _,by simp,rfl⟩ ⟨rfl,rfl,rfl,rfl,rfl,rfl,rfl,rfl,rfl,trivial⟩ rfl ?_
   clear hp0
   rintro ⟨i,xs,had,mark,hp,HH,la,lc,lg⟩ ⟨hi,hrun,hpl,hin,hhl,hmk,hxo,hxi,hxl⟩
   dsimp only at hi hrun hpl hin hhl hmk hxo hxi hxl
   refine T.seq ?_
   refine T.region ?_
   refine TL.bin hF rfl rfl rfl rfl ?_
   refine TL.nil ?_
   refine TQ.then_n ?_
   refine T.seq ?_
   first | refine T.cond_d rfl (fun ht27=>?_) (fun ht27=>?_) | refine T.cond _ rfl (fun ht27=>?_) (fun ht27=>?_)
   ·refine T.skip ?_
    refine TQ.then_n ?_
    refine T.seq ?_
    refine T.block ?_
    refine T.seq ?_
    refine T.region ?_
    have hil:i<l.length:=by have h:(i:Int)<(l.length:Int):=ht27; omega
    have hq2:Askd s (had++[l[i]]):=hq.sub (fun q h=>by
     rcases List.mem_append.1 h with h | h
     ·exact hin q h
     ·rw [List.mem_singleton.1 h]; exact List.getElem_mem hil) (by rw [List.length_append,List.length_singleton]; omega)
    have hri:=(hq.row (List.getElem_mem hil)).1
    have hsz:=hq.size
    refine TL.indexAddr hF rfl rfl (rr_ad hx (i:=i) hil) (by first | omega | (dsimp only; omega)) (by first | omega | (dsimp only; omega)) rfl ?_
    refine TL.loadA hF (rwC l[i]) rfl rfl (rr_at (hx.up (by simp)) (i:=i) hil) rfl ?_
    refine TL.alloc hF rfl (fun b11=>?_)
    refine TL.storeAs hF (rwC l[i]) (rwC l[i]) 0 (cs:=[.int .i64 0,.int .i64 0,.int .i64 0]) rfl rfl rfl rfl (rwC1 _) (Nat.le_refl 3) rfl ?_
    refine TL.nil ?_
    refine TQ.then_n ?_
    refine T.region ?_
    refine TL.move hF rfl rfl ?_
    refine TL.move hF rfl rfl ?_
    refine TL.loadA hF (rwC l[i]) rfl rfl (own_list (i:=0) (cs:=rwC l[i]) rfl) rfl ?_
    refine TL.heap (η':=[(b11,Obj.cells (rwC l[i]).toArray 57 (0,0))]::lg::(HH++(hp++([(b7,Obj.cells (spC s).toArray 78 (0,0))]::[(b6,Obj.cells #[.int .i64 0] ERR (0,0))]::[(b2,Obj.cells (wsC s).toArray 23 (0,0))]::η)))) rfl ?_
    refine TL.hperm (hp++([(b11,Obj.cells (rwC l[i]).toArray 57 (0,0))]::lg::(HH++([(b7,Obj.cells (spC s).toArray 78 (0,0))]::[(b6,Obj.cells #[.int .i64 0] ERR (0,0))]::[(b2,Obj.cells (wsC s).toArray 23 (0,0))]::η)))) (perm_cnt fun f=>by simp only [List.map_append,List.map_cons,List.sum_append,List.sum_cons]; try omega) ?_
    refine TL.call hF (add_fn hpl hq2 hmk) rfl rfl ?_
    rintro _ _ ⟨x,had2,mark2,segs,hp2,hst,rfl,hxr,hpl2,hin2,rfl⟩
    have hkp:=step_keep (hst [])
    have hlg:(xs++[x]).length=xs.length+1:=by simp
    refine TL.buildSlice hF rfl (cs:=(shC x).toArray) (e:=42) (fun w=>by kernel_rfl) rfl (fun bq=>?_)
    refine TL.hperm ([(bq,Obj.cells (shC x).toArray 42 (0,0))]::lg::(segs++(hp2++([(b11,Obj.cells (rwC l[i]).toArray 57 (0,0))]::(HH++([(b7,Obj.cells (spC s).toArray 78 (0,0))]::[(b6,Obj.cells #[.int .i64 0] ERR (0,0))]::[(b2,Obj.cells (wsC s).toArray 23 (0,0))]::η)))))) (perm_cnt fun f=>by simp only [List.map_append,List.map_cons,List.sum_append,List.sum_cons]; try omega) ?_
    refine TL.append hF 1 rfl rfl rfl hxo (row_own (cs:=shC x) (e:=42) (b:=bq) (by simp)).src rfl rfl (shC1 x) (by omega) (by omega) rfl (fun pa pc pg ph=>?_)
    rw [flat_snoc] at ph
    refine TL.assign hF rfl rfl ?_
    refine TL.nil ?_
    refine TQ.block_n ?_
    refine TQ.then_n ?_
    refine T.region ?_
    refine TL.add hF rfl rfl (by first | omega | (dsimp only; omega)) (by first | omega | (dsimp only; omega)) rfl ?_
    refine TL.move hF rfl rfl ?_
    refine TL.nil ?_
    refine TQ.heap (η':=[(bq,Obj.cells (shC x).toArray 42 (0,0))]::pg::(segs++(hp2++([(b11,Obj.cells (rwC l[i]).toArray 57 (0,0))]::(HH++([(b7,Obj.cells (spC s).toArray 78 (0,0))]::[(b6,Obj.cells #[.int .i64 0] ERR (0,0))]::[(b2,Obj.cells (wsC s).toArray 23 (0,0))]::η)))))) rfl ?_
    refine TQ.hperm ([(bq,Obj.cells (shC x).toArray 42 (0,0))]::[(b11,Obj.cells (rwC l[i]).toArray 57 (0,0))]::pg::((segs++HH)++(hp2++([(b7,Obj.cells (spC s).toArray 78 (0,0))]::[(b6,Obj.cells #[.int .i64 0] ERR (0,0))]::[(b2,Obj.cells (wsC s).toArray 23 (0,0))]::η)))) (perm_cnt fun f=>by simp only [List.map_append,List.map_cons,List.sum_append,List.sum_cons]; try omega) ?_
    refine TQ.pop (TQ.pop ?_)
    refine TQ.round ⟨i+1,xs++[x],had2,mark2,hp2,segs++HH,pa,pc,pg⟩ ⟨by dsimp only; omega,?_,hpl2,fun q h=>?_,?_,?_,by dsimp only; rw [hlg]; exact ph,fun y hy=>?_,by dsimp only; rw [hlg,hxl]⟩ (by dsimp only; omega) ⟨rfl,rfl,rfl,rfl,rfl,rfl,rfl,by dsimp only; rw [hlg]; rfl,rfl,trivial⟩ rfl
    ·dsimp only
     rw [List.take_succ_eq_append_getElem hil,runS_snoc,hrun,hst,List.map_append]; rfl
    ·rcases hin2 q h with h | h
     ·exact hin q h
     ·rw [h]; exact List.getElem_mem hil
    ·dsimp only
     rcases hkp with ⟨h1,_⟩ | ⟨h1,_⟩
     ·rw [h1]; omega
     ·rw [h1,List.length_append,List.length_singleton]; omega
    ·dsimp only
     rcases hkp with ⟨_,h1⟩ | ⟨_,h1⟩ <;> rw [h1] <;> omega
    ·rcases List.mem_append.1 hy with h | h
     ·exact (hxi y h).up (fun _ hs=>List.mem_append_right _ hs)
     ·rw [List.mem_singleton.1 h]; exact hxr.up (fun _ hs=>List.mem_append_left _ hs)
   ·refine T.exit ?_
    refine TQ.then_x ?_
    refine TQ.then_x ?_
    refine TQ.block_x ?_
    refine TQ.then_n ?_
    refine T.seq ?_
    refine T.region ?_
    have hie:i=l.length:=by have h:¬ (i:Int)<(l.length:Int):=ht27; omega
    subst hie
    rw [List.take_length] at hrun
    obtain ⟨ra,rc,rg,mb,es,clock,m,rfl,ho,hm,hh⟩:=hpl
    have hq3:Askd s had:=hq.sub hin (by omega)
    refine TL.heap (η':=lg::(HH++(rg::[(mb,Obj.map es clock)]::[(b23,Obj.cells (plC s ra had.length rc mb mark) 99 (0,0))]::([(b7,Obj.cells (spC s).toArray 78 (0,0))]::[(b6,Obj.cells #[.int .i64 0] ERR (0,0))]::[(b2,Obj.cells (wsC s).toArray 23 (0,0))]::η)))) rfl ?_
    refine TL.hperm ([(mb,Obj.map es clock)]::[(b23,Obj.cells (plC s ra had.length rc mb mark) 99 (0,0))]::[(b6,Obj.cells #[.int .i64 0] ERR (0,0))]::lg::(HH++(rg::[(b7,Obj.cells (spC s).toArray 78 (0,0))]::[(b2,Obj.cells (wsC s).toArray 23 (0,0))]::η))) (perm_cnt fun f=>by simp only [List.map_append,List.map_cons,List.sum_append,List.sum_cons]; try omega) ?_
    refine TL.move hF rfl rfl ?_
    refine TL.move hF rfl rfl ?_
    refine TL.move hF rfl rfl ?_
    refine TL.nilCheck hF rfl rfl ?_
    refine TL.fieldAddr hF rfl rfl ?_
    refine TL.load hF rfl (own_mem (b:=b23) (cs:=(plC s ra had.length rc mb mark)) (e:=99) (fz:=(0,0)) (by simp) rfl) rfl ?_
    refine TL.call hF (over_fn (s:=s) (ra:=ra) (n:=had.length) (rc:=rc) (mark:=mark) (old:=mark) (now:=1099511627776) (mb:=mb) (pb:=b23) (m:=m) (es:=es) (clock:=clock) (by simp) (by simp) hm) rfl rfl ?_
    rintro _ _ ⟨ob,es3,clock3,out,rfl,hm3,hnd3,hov3,rfl⟩
    have hup:Up (ltO false) (leftS s l):=left_up hq.w l
    have hlm:∀ x:Ot,x∈leftS s l↔x∈allS s had∧mark<x.to:=fun x=>by
     unfold leftS; rw [hrun,List.mem_filter,decide_eq_true_eq]
    have hL:∀ x:Ot,x∈leftS s l↔mget (x.fr,x.to,x.key) out=some x.word:=fun x=>by
     rw [hlm,hov3,← holds_at hh]
     constructor
     ·rintro ⟨h1,h2⟩
      have h3:=(all_small hq3 x h1).2.1
      exact ⟨h1,h2,by show x.to≤_; omega⟩
     ·rintro ⟨h1,h2,_⟩; exact ⟨h1,h2⟩
    have hol:out.length<1000000000:=by
     have h1:=sub_len (m:=m.map (·.1)) hnd3 fun k hk=>by
      obtain ⟨⟨k',v⟩,hp,rfl⟩:=List.mem_map.1 hk
      exact List.mem_map_of_mem (mget_mem ((hov3 k' v).1 (mget_of_mem hnd3 hp)).1)
     have h2:=map_len hh
     have h3:=all_len hq3
     rw [List.length_map,List.length_map] at h1
     omega
    refine TL.call hF (listed_fn (e:=false) (mb:=ob) (L:=leftS s l) (by simp) hm3 hol hup hL (fun x hx=>all_small hq3 x ((hlm x).1 hx).1)) rfl rfl ?_
    rintro _ _ ⟨oa,oc,og,rfl,ho3,rfl⟩
    refine TL.assign hF rfl rfl ?_
    refine TL.assign hF rfl rfl ?_
    refine TL.storeI hF 4 rfl rfl rfl rfl (by decide) ?_
    refine TL.nil ?_
    refine TQ.then_n ?_
    refine T.ret ?_
    refine TQ.heap (η':=og::[(ob,Obj.map es3 clock3)]::[(mb,Obj.map es clock)]::[(b23,Obj.cells (plC s ra had.length rc mb mark) 99 (0,0))]::[(b6,Obj.cells #[.int .i64 0] ERR (0,0))]::lg::(HH++(rg::[(b7,Obj.cells (spC s).toArray 78 (0,0))]::[(b2,Obj.cells (wsC s).toArray 23 (0,0))]::η))) rfl ?_
    refine TQ.hperm ([(ob,Obj.map es3 clock3)]::[(mb,Obj.map es clock)]::[(b23,Obj.cells (plC s ra had.length rc mb mark) 99 (0,0))]::[(b7,Obj.cells (spC s).toArray 78 (0,0))]::[(b2,Obj.cells (wsC s).toArray 23 (0,0))]::rg::[(b6,Obj.cells #[.int .i64 0] ERR (0,0))]::((og::lg::HH)++η)) (perm_cnt fun f=>by simp only [List.map_append,List.map_cons,List.sum_append,List.sum_cons]; try omega) ?_
    refine TQ.pop (TQ.pop (TQ.pop (TQ.pop (TQ.pop (TQ.pop ?_)))))
    refine TQ.retL [4,5] [_,_] stop50 (stopped_nil _) rfl rfl rfl (At.own' (i:=0) rfl rfl) ?_
    have e:playS s l=((runS s l).1,leftS s l,0):=by unfold playS; rw [if_pos hq.asked]
    rw [e,hrun]
    exact ⟨la,lc,xs,oa,oc,[(b6,Obj.cells #[.int .i64 0] ERR (0,0))]::og::lg::HH,rfl,rfl,⟨hxo.row (by simp),fun x hx=>(hxi x hx).up (fun _ hs=>by simp [hs])⟩,ho3.row (by simp),rfl⟩
  ·rintro _ _ ⟨er,hes,rfl,rfl⟩
   refine TQ.then_p ?_
   refine TQ.pop ?_
   refine TQ.panL [4,5] [.slice none 0 0,.slice none 0 0] stop50 (stopped_err _) rfl rfl rfl (At.own' (i:=0) rfl rfl) ?_
   have e:playS s l=([],[],er):=by 
    obtain ⟨h1,h2⟩:=asked_rows hok hes
    unfold playS; rw [if_neg (by rw [h1]; exact h2),h1]
   rw [e]
   exact ⟨none,0,[],none,0,[_,_],rfl,rfl,⟨Row.none,by simp⟩,Row.none,rfl⟩
 ·rintro _ _ ⟨hok,rfl,rfl⟩
  refine TQ.then_p ?_
  refine TQ.panL [4,5] [.slice none 0 0,.slice none 0 0] stop50 (stopped_err _) rfl rfl rfl (At.own' (i:=0) rfl rfl) ?_
  have e:playS s l=([],[],1):=by unfold playS; rw [if_neg (by rw [asked_way hok]; exact (by decide:(1:Int)≠0)),asked_way hok]
  rw [e]
  exact ⟨none,0,[],none,0,[_,_],rfl,rfl,⟨Row.none,by simp⟩,Row.none,rfl⟩
end Go.Proofs.YtbajelldegijkaaDoor
/- Stacks, and a queue of two of them. -/
namespace Go.Proofs.YtbajelldegijkaaDoor
open Go.Sl
variable {S:Nat→Prop} {w0:World} {η:Heap}
/-- The top of a stack, or none. -/
def topL (xs:List Int):Int:=xs.getLast?.getD 0
theorem topL_at {xs:List Int} (h:0<xs.length):xs[xs.length - 1]=topL xs:=by
 unfold topL
 rw [List.getLast?_eq_getElem?,List.getElem?_eq_getElem (by omega)]; rfl
theorem topL_snoc (xs:List Int) (x:Int):topL (xs++[x])=x:=by simp [topL]
theorem ints_at {η:Heap} {a:Option Addr} {xs:List Int} (h:Row S w0 η a (ints xs)) {n:Int} (_h0:0≤n) {i:Nat} (hn:n.toNat=i) (hi:i<xs.length):At S w0 η (sAt a (n.toNat*1)) (.int .i64 xs[i]):=by
 rw [hn,Nat.mul_one]
 exact h.cell i _ (by unfold ints; rw [List.getElem?_map,List.getElem?_eq_getElem hi]; rfl)
theorem OSl.less {e:TypeId} {n k c:Nat} {a:Option Addr} {xs:List Value} {g:Seg} (h:OSl e 1 (.slice a n c) n xs g) (hk:k≤n):OSl e 1 (.slice a k c) k (xs.take k) g:=by
 obtain ⟨h1,h2⟩:=h
 refine ⟨by rw [List.length_take]; omega,?_⟩
 rcases h2 with ⟨hv,h0,hs⟩ | ⟨b,cap,cur,hv,hs,hc,hz,ht⟩
 ·left
  simp only [Value.slice.injEq] at hv
  obtain ⟨rfl,_,rfl⟩:=hv
  exact ⟨by rw [show k=0 by omega],by omega,hs⟩
 ·right
  simp only [Value.slice.injEq,true_and] at hv
  obtain ⟨rfl,rfl⟩:=hv
  refine ⟨b,c,cur,rfl,hs,by omega,hz,?_⟩
  rw [← ht,List.take_take]; congr 1; omega
set_option maxHeartbeats 2000000 in
theorem top_fn {q o : Nat} {a : Option Addr} {xs : List Int} {c : Nat} (hq : At S w0 η ⟨q, o, none⟩ (.slice a xs.length c)) (hr : Row S w0 η a (ints xs)) (hl : xs.length < 1000000) :
  Rt Tryd.prog 71 [(.pointer (some ⟨q,o,none⟩))].toArray S w0 η (fun v η'=>v = .tuple #[.int .i64 (topL xs),.bool (decide (0<xs.length))]∧η'=η):=by
 have hF:=open_wide
 refine Rt.of (fn:=Tryd.f71) Tryd.func71 rfl rfl ?_
 refine T.seq ?_
 refine T.region ?_
 refine TL.assign hF rfl rfl ?_
 refine TL.assign hF rfl rfl ?_
 refine TL.nil ?_
 refine TQ.then_n ?_
 refine T.seq ?_
 refine T.seq ?_
 refine T.region ?_
 refine TL.move hF rfl rfl ?_
 refine TL.nilCheck hF rfl rfl ?_
 refine TL.fieldAddr hF rfl rfl ?_
 refine TL.load hF rfl hq rfl ?_
 refine TL.len hF rfl rfl ?_
 refine TL.bin hF rfl rfl rfl rfl ?_
 refine TL.nil ?_
 refine TQ.then_n ?_
 refine T.cond_d rfl (fun ht9=>?_) (fun ht9=>?_)
 ·refine T.seq ?_
  refine T.region ?_
  refine TL.move hF rfl rfl ?_
  refine TL.assign hF rfl rfl ?_
  refine TL.assign hF rfl rfl ?_
  refine TL.nil ?_
  refine TQ.then_n ?_
  refine T.ret ?_
  refine TQ.then_r ?_
  have h0:xs=[]:=List.length_eq_zero_iff.1 (by have h:(xs.length:Int)=0:=ht9; omega)
  subst h0
  exact TQ.rets [2,3] _ rfl rfl rfl ⟨rfl,rfl⟩
 ·refine T.skip ?_
  refine TQ.then_n ?_
  refine T.seq ?_
  have hx0:0<xs.length:=by have h:¬ (xs.length:Int)=0:=ht9; omega
  refine T.draw ?_
  refine DR.stepV [_] rfl [(0,_,none)] rfl rfl ⟨⟨rfl,by kernel_rfl⟩,trivial⟩ (fun ext=>TL.move hF rfl rfl TL.fin) ?_
  refine DR.stepV [_,_] rfl [(11,_,some 0)] rfl rfl ⟨⟨rfl,rfl,rfl⟩,trivial⟩ (fun ext=>TL.nilCheck hF rfl rfl TL.fin) ?_
  refine DR.stepV [_,_,_] rfl [(12,_,some 1)] rfl rfl ⟨⟨rfl,rfl,rfl⟩,trivial⟩ (fun ext=>TL.fieldAddr hF rfl rfl TL.fin) ?_
  refine DR.stepV [_,_,_,_] rfl [(13,_,some 2)] rfl rfl ⟨⟨rfl,rfl,rfl⟩,trivial⟩ (fun ext=>TL.load hF rfl hq rfl TL.fin) ?_
  refine DR.stepV [_,_,_,_,_] rfl [(0,_,none)] rfl rfl ⟨⟨rfl,by kernel_rfl⟩,trivial⟩ (fun ext=>TL.move hF rfl rfl TL.fin) ?_
  refine DR.stepV [_,_,_,_,_,_] rfl [(15,_,some 4)] rfl rfl ⟨⟨rfl,rfl,rfl⟩,trivial⟩ (fun ext=>TL.nilCheck hF rfl rfl TL.fin) ?_
  refine DR.stepV [_,_,_,_,_,_,_] rfl [(16,_,some 5)] rfl rfl ⟨⟨rfl,rfl,rfl⟩,trivial⟩ (fun ext=>TL.fieldAddr hF rfl rfl TL.fin) ?_
  refine DR.stepV [_,_,_,_,_,_,_,_] rfl [(17,_,some 6)] rfl rfl ⟨⟨rfl,rfl,rfl⟩,trivial⟩ (fun ext=>TL.load hF rfl hq rfl TL.fin) ?_
  refine DR.stepV [_,_,_,_,_,_,_,_,_] rfl [(18,_,some 7)] rfl rfl ⟨⟨rfl,rfl,rfl⟩,trivial⟩ (fun ext=>TL.len hF rfl rfl TL.fin) ?_
  refine DR.stepV [_,_,_,_,_,_,_,_,_,_] rfl [(19,_,some 8)] rfl rfl ⟨⟨rfl,rfl,rfl⟩,trivial⟩ (fun ext=>TL.sub hF rfl rfl (by first | omega | (dsimp only; omega)) (by first | omega | (dsimp only; omega)) rfl TL.fin) ?_
  refine DR.done [(20,_),(19,_),(18,_),(17,_),(16,_),(15,_),(14,_),(13,_),(12,_),(11,_)] [_,_,_,_] mixed (by kernel_rfl) (by kernel_rfl) (by kernel_rfl) rfl rfl ?_
  refine TL.indexAddr hF rfl rfl (hr.ad (by unfold ints; rw [List.length_map]; exact hx0)) (by omega) (by omega) rfl ?_
  refine TL.load hF rfl (ints_at hr (i:=xs.length - 1) (by omega) (by omega) (by omega)) rfl ?_
  refine TL.assign hF rfl rfl ?_
  refine TL.assign hF rfl rfl ?_
  refine TL.nil ?_
  refine TQ.then_n ?_
  refine T.ret ?_
  refine TQ.rets [2,3] _ rfl rfl rfl ⟨?_,rfl⟩
  rw [decide_eq_true hx0,← topL_at hx0]; rfl
set_option maxHeartbeats 2000000 in
theorem pop_fn {q o : Nat} {cs : Array Value} {a : Option Addr} {xs : List Int} {c : Nat} (hcs : cs[o]? = some (.slice a xs.length c)) (hr0 : Row S w0 η a (ints xs)) (hl : xs.length < 1000000) (hc : xs.length ≤ c) :
    Rt Tryd.prog 73 [(.pointer (some ⟨q,o,none⟩))].toArray S w0 ([(q,Obj.cells cs 110 (0,0))]::η) (fun v η'=>v = .tuple #[.int .i64 (topL xs),.bool (decide (0<xs.length))]∧η'=(if xs.length=0 then [(q,Obj.cells cs 110 (0,0))] else [(q,Obj.cells (cs.setIfInBounds o (.slice a (xs.length - 1) c)) 110 (0,0))])::η):=by
  have hq2:At S w0 ([(q,Obj.cells cs 110 (0,0))]::η) ⟨q,o,none⟩ (.slice a xs.length c):=own_mem (cs:=cs) List.mem_cons_self hcs
  have hr:Row S w0 ([(q,Obj.cells cs 110 (0,0))]::η) a (ints xs):=hr0.up (fun _ hs=>List.mem_cons_of_mem _ hs)
  have hF:=open_wide
  refine Rt.of (fn:=Tryd.f73) Tryd.func73 rfl rfl ?_
  refine T.seq ?_
  refine T.region ?_
  refine TL.assign hF rfl rfl ?_
  refine TL.assign hF rfl rfl ?_
  refine TL.nil ?_
  refine TQ.then_n ?_
  refine T.seq ?_
  refine T.seq ?_
  refine T.region ?_
  refine TL.move hF rfl rfl ?_
  refine TL.nilCheck hF rfl rfl ?_
  refine TL.fieldAddr hF rfl rfl ?_
  refine TL.load hF rfl hq2 rfl ?_
  refine TL.len hF rfl rfl ?_
  refine TL.bin hF rfl rfl rfl rfl ?_
  refine TL.nil ?_
  refine TQ.then_n ?_
  refine T.cond_d rfl (fun ht9=>?_) (fun ht9=>?_)
  · refine T.seq ?_
    refine T.region ?_
    refine TL.move hF rfl rfl ?_
    refine TL.assign hF rfl rfl ?_
    refine TL.assign hF rfl rfl ?_
    refine TL.nil ?_
    refine TQ.then_n ?_
    refine T.ret ?_
    refine TQ.then_r ?_
    have h0:xs=[]:=List.length_eq_zero_iff.1 (by have h:(xs.length:Int)=0:=ht9; omega)
    subst h0
    refine TQ.rets [2,3] _ rfl rfl rfl ⟨rfl,?_⟩
    simp
  · refine T.skip ?_
    refine TQ.then_n ?_
    refine T.seq ?_
    have hx0:0<xs.length:=by have h:¬ (xs.length:Int)=0:=ht9; omega
    refine T.draw ?_
    refine DR.stepV [_] rfl [(0,_,none)] rfl rfl ⟨⟨rfl,by kernel_rfl⟩,trivial⟩ (fun ext=>TL.move hF rfl rfl TL.fin) ?_
    refine DR.stepV [_,_] rfl [(11,_,some 0)] rfl rfl ⟨⟨rfl,rfl,rfl⟩,trivial⟩ (fun ext=>TL.nilCheck hF rfl rfl TL.fin) ?_
    refine DR.stepV [_,_,_] rfl [(12,_,some 1)] rfl rfl ⟨⟨rfl,rfl,rfl⟩,trivial⟩ (fun ext=>TL.fieldAddr hF rfl rfl TL.fin) ?_
    refine DR.stepV [_,_,_,_] rfl [(13,_,some 2)] rfl rfl ⟨⟨rfl,rfl,rfl⟩,trivial⟩ (fun ext=>TL.load hF rfl hq2 rfl TL.fin) ?_
    refine DR.stepV [_,_,_,_,_] rfl [(0,_,none)] rfl rfl ⟨⟨rfl,by kernel_rfl⟩,trivial⟩ (fun ext=>TL.move hF rfl rfl TL.fin) ?_
    refine DR.stepV [_,_,_,_,_,_] rfl [(15,_,some 4)] rfl rfl ⟨⟨rfl,rfl,rfl⟩,trivial⟩ (fun ext=>TL.nilCheck hF rfl rfl TL.fin) ?_
    refine DR.stepV [_,_,_,_,_,_,_] rfl [(16,_,some 5)] rfl rfl ⟨⟨rfl,rfl,rfl⟩,trivial⟩ (fun ext=>TL.fieldAddr hF rfl rfl TL.fin) ?_
    refine DR.stepV [_,_,_,_,_,_,_,_] rfl [(17,_,some 6)] rfl rfl ⟨⟨rfl,rfl,rfl⟩,trivial⟩ (fun ext=>TL.load hF rfl hq2 rfl TL.fin) ?_
    refine DR.stepV [_,_,_,_,_,_,_,_,_] rfl [(18,_,some 7)] rfl rfl ⟨⟨rfl,rfl,rfl⟩,trivial⟩ (fun ext=>TL.len hF rfl rfl TL.fin) ?_
    refine DR.stepV [_,_,_,_,_,_,_,_,_,_] rfl [(19,_,some 8)] rfl rfl ⟨⟨rfl,rfl,rfl⟩,trivial⟩ (fun ext=>TL.sub hF rfl rfl (by first | omega | (dsimp only; omega)) (by first | omega | (dsimp only; omega)) rfl TL.fin) ?_
    refine DR.done [(20,_),(19,_),(18,_),(17,_),(16,_),(15,_),(14,_),(13,_),(12,_),(11,_)] [_,_,_] mixed (by kernel_rfl) (by kernel_rfl) (by kernel_rfl) rfl rfl ?_
    refine TL.indexAddr hF rfl rfl (hr.ad (by unfold ints; rw [List.length_map]; exact hx0)) (by omega) (by omega) rfl ?_
    refine TL.load hF rfl (ints_at hr (i:=xs.length - 1) (by omega) (by omega) (by omega)) rfl ?_
    refine TL.assign hF rfl rfl ?_
    refine TL.nil ?_
    refine TQ.then_n ?_
    refine T.seq ?_
    refine T.draw ?_
    refine DR.stepV [_] rfl [(0,_,none)] rfl rfl ⟨⟨rfl,by kernel_rfl⟩,trivial⟩ (fun ext=>TL.move hF rfl rfl TL.fin) ?_
    refine DR.stepV [_,_] rfl [(0,_,none)] rfl rfl ⟨⟨rfl,by kernel_rfl⟩,trivial⟩ (fun ext=>TL.move hF rfl rfl TL.fin) ?_
    refine DR.stepV [_,_,_] rfl [(24,_,some 1)] rfl rfl ⟨⟨rfl,rfl,rfl⟩,trivial⟩ (fun ext=>TL.nilCheck hF rfl rfl TL.fin) ?_
    refine DR.stepV [_,_,_,_] rfl [(25,_,some 2)] rfl rfl ⟨⟨rfl,rfl,rfl⟩,trivial⟩ (fun ext=>TL.fieldAddr hF rfl rfl TL.fin) ?_
    refine DR.stepV [_,_,_,_,_] rfl [(26,_,some 3)] rfl rfl ⟨⟨rfl,rfl,rfl⟩,trivial⟩ (fun ext=>TL.load hF rfl (hq2) rfl TL.fin) ?_
    refine DR.stepV [_,_,_,_,_,_] rfl [(0,_,none)] rfl rfl ⟨⟨rfl,by kernel_rfl⟩,trivial⟩ (fun ext=>TL.move hF rfl rfl TL.fin) ?_
    refine DR.stepV [_,_,_,_,_,_,_] rfl [(28,_,some 5)] rfl rfl ⟨⟨rfl,rfl,rfl⟩,trivial⟩ (fun ext=>TL.nilCheck hF rfl rfl TL.fin) ?_
    refine DR.stepV [_,_,_,_,_,_,_,_] rfl [(29,_,some 6)] rfl rfl ⟨⟨rfl,rfl,rfl⟩,trivial⟩ (fun ext=>TL.fieldAddr hF rfl rfl TL.fin) ?_
    refine DR.stepV [_,_,_,_,_,_,_,_,_] rfl [(30,_,some 7)] rfl rfl ⟨⟨rfl,rfl,rfl⟩,trivial⟩ (fun ext=>TL.load hF rfl hq2 rfl TL.fin) ?_
    refine DR.stepV [_,_,_,_,_,_,_,_,_,_] rfl [(31,_,some 8)] rfl rfl ⟨⟨rfl,rfl,rfl⟩,trivial⟩ (fun ext=>TL.len hF rfl rfl TL.fin) ?_
    refine DR.stepV [_,_,_,_,_,_,_,_,_,_,_] rfl [(32,_,some 9)] rfl rfl ⟨⟨rfl,rfl,rfl⟩,trivial⟩ (fun ext=>TL.sub hF rfl rfl (by first | omega | (dsimp only; omega)) (by first | omega | (dsimp only; omega)) rfl TL.fin) ?_
    refine DR.stepV [_,_,_,_,_,_,_,_,_,_,_,_] rfl [(27,_,some 4),(33,_,some 10)] rfl rfl ⟨⟨rfl,rfl,rfl⟩,⟨rfl,rfl,rfl⟩,trivial⟩ (fun ext=>(by
          refine TL.slice hF (i:=0) (j:=xs.length - 1) rfl rfl (congrArg (fun z=>some (Value.int .i64 z)) (by omega)) (by omega) (by omega) rfl ?_
          rw [cut0']
          exact TL.fin)) ?_
    refine DR.done [(34,_),(33,_),(32,_),(31,_),(30,_),(29,_),(28,_),(27,_),(26,_),(25,_),(24,_),(23,_)] [_,_,_] mixed (by kernel_rfl) (by kernel_rfl) (by kernel_rfl) rfl rfl ?_
    refine TL.nilCheck hF rfl rfl ?_
    refine TL.fieldAddr hF rfl rfl ?_
    refine TL.storeI hF 0 rfl rfl rfl rfl (by have:=(Array.getElem?_eq_some_iff.1 hcs).1; omega) ?_
    refine TL.nil ?_
    refine TQ.then_n ?_
    refine T.seq ?_
    refine T.region ?_
    refine TL.move hF rfl rfl ?_
    refine TL.assign hF rfl rfl ?_
    refine TL.assign hF rfl rfl ?_
    refine TL.nil ?_
    refine TQ.then_n ?_
    refine T.ret ?_
    refine TQ.rets [2,3] _ rfl rfl rfl ⟨?_,?_⟩
    · rw [decide_eq_true hx0,← topL_at hx0]; rfl
    · rw [if_neg (by omega)]; rfl
set_option maxHeartbeats 2000000 in
theorem push_fn {q o : Nat} {cs : Array Value} {a : Option Addr} {xs : List Int} {c : Nat} {sg : Seg} {w : Int} (hcs : cs[o]? = some (.slice a xs.length c)) (ho : OSl 72 1 (.slice a xs.length c) xs.length (ints xs) sg) (hl : xs.length < 1000000) :
  Rt Tryd.prog 74 [(.pointer (some ⟨q,o,none⟩)),.int .i64 w].toArray S w0 (sg::[(q,Obj.cells cs 110 (0,0))]::η) (fun _v η'=>∃ a' c' sg',OSl 72 1 (.slice a' (xs.length+1) c') (xs.length+1) (ints (xs++[w])) sg'∧η'=sg'::[(q,Obj.cells (cs.setIfInBounds o (.slice a' (xs.length+1) c')) 110 (0,0))]::η):=by
 have hF:=open_wide
 refine Rt.of (fn:=Tryd.f74) Tryd.func74 rfl rfl ?_
 refine T.region ?_
 refine TL.move hF rfl rfl ?_
 refine TL.move hF rfl rfl ?_
 refine TL.nilCheck hF rfl rfl ?_
 refine TL.fieldAddr hF rfl rfl ?_
 refine TL.load hF rfl (own_mem (cs:=cs) (e:=110) (fz:=(0,0)) (List.mem_cons_of_mem _ List.mem_cons_self) hcs) rfl ?_
 refine TL.move hF rfl rfl ?_
 refine TL.buildSlice hF rfl (cs:=#[.int .i64 w]) (e:=72) (fun w=>by kernel_rfl) rfl (fun bq=>?_)
 refine TL.append hF 1 rfl rfl rfl ho (row_own (cs:=[.int .i64 w]) (e:=72) (b:=bq) (by simp)).src rfl rfl (by simp [Value.oneCell']) (by omega) (by omega) rfl (fun pa pc pg ph=>?_)
 refine TL.nilCheck hF rfl rfl ?_
 refine TL.fieldAddr hF rfl rfl ?_
 refine TL.storeI hF 2 rfl rfl rfl rfl (by have:=(Array.getElem?_eq_some_iff.1 hcs).1; omega) ?_
 refine TL.nil ?_
 refine TQ.norm ?_
 refine TQ.pop ?_
 have e:ints xs++[.int .i64 w]=ints (xs++[w]):=by simp [ints]
 rw [e] at ph
 exact TQ.rets [] _ rfl rfl rfl ⟨pa,pc,pg,ph,rfl⟩
def qC (f:Int) (b:Value) (made:Int) (a:Value) (j:Int):Array Value:=#[.int .i64 (noneF f),oneV f,twoV f,b,.int .i64 made,a,.int .i64 j]
set_option maxHeartbeats 2000000 in
theorem qjoin_fn {q : Nat} {f : Int} {bv av : Value} {mk jo x y : Int} (ha : Wd x) (hb : Wd y) (hj : 0 ≤ jo ∧ jo < 1000000) :
  Rt Tryd.prog 72 [.pointer (some ⟨q,0,none⟩),.int .i64 x,.int .i64 y].toArray S w0 ([(q,Obj.cells (qC f bv mk av jo) 110 (0,0))]::η) (fun v η'=>v = .int .i64 (twoF f x y)∧η'=[(q,Obj.cells (qC f bv mk av (jo+1)) 110 (0,0))]::η):=by
 have hF:=open_wide
 refine Rt.of (fn:=Tryd.f72) Tryd.func72 rfl rfl ?_
 refine T.seq ?_
 refine T.region ?_
 refine TL.assign hF rfl rfl ?_
 refine TL.nil ?_
 refine TQ.then_n ?_
 refine T.seq ?_
 refine T.region ?_
 refine TL.move hF rfl rfl ?_
 refine TL.nilCheck hF rfl rfl ?_
 refine TL.fieldAddr hF rfl rfl ?_
 refine TL.load hF rfl (own_mem (cs:=(qC f bv mk av jo)) (e:=110) (fz:=(0,0)) List.mem_cons_self rfl) rfl ?_
 refine TL.add hF rfl rfl (by first | omega | (dsimp only; omega)) (by first | omega | (dsimp only; omega)) rfl ?_
 refine TL.nilCheck hF rfl rfl ?_
 refine TL.fieldAddr hF rfl rfl ?_
 refine TL.storeI hF 0 rfl rfl rfl rfl (by simp [qC]) ?_
 refine TL.nil ?_
 refine TQ.then_n ?_
 refine T.seq ?_
 refine T.region ?_
 refine TL.move hF rfl rfl ?_
 refine TL.nilCheck hF rfl rfl ?_
 refine TL.fieldAddr hF rfl rfl ?_
 refine TL.fieldAddr hF rfl rfl ?_
 refine TL.load hF rfl (own_mem (cs:=(qC f bv mk av jo).setIfInBounds 6 (.int .i64 (jo+1))) (e:=110) (fz:=(0,0)) List.mem_cons_self rfl) rfl ?_
 refine TL.move hF rfl rfl ?_
 refine TL.move hF rfl rfl ?_
 refine TL.callV hF (two_fn (f:=f) ha hb) rfl rfl ?_
 refine TL.assign hF rfl rfl ?_
 refine TL.nil ?_
 refine TQ.then_n ?_
 refine T.ret ?_
 exact TQ.rets [6] _ rfl rfl rfl ⟨rfl,rfl⟩
end Go.Proofs.YtbajelldegijkaaDoor
/- The queue: put, off, all. -/
namespace Go.Proofs.YtbajelldegijkaaDoor
open Go.Sl
variable {S:Nat→Prop} {w0:World} {η:Heap}
/-- A queue in memory: the stack behind, what is made of it, the stack ahead. -/
def QS (q:Nat) (f:Int) (xb:List Int) (mk:Int) (xa:List Int) (jo:Int) (hp:Heap):Prop:=∃ ba bc bg aa ac ag,hp=[bg,ag,[(q,Obj.cells (qC f (.slice ba xb.length bc) mk (.slice aa xa.length ac) jo) 110 (0,0))]]∧OSl 72 1 (.slice ba xb.length bc) xb.length (ints xb) bg∧OSl 72 1 (.slice aa xa.length ac) xa.length (ints xa) ag
def QM (q:Nat) (f:Int) (s:QuS) (hp:Heap):Prop:=QS q f (s.qb.map (oneF f)) s.made (aheadS f s.qa) s.joins hp
theorem ints_wd {xs:List Int} (h:∀ x∈xs,Wd x):Wd (topL xs):=by
 unfold topL
 cases hl:xs.getLast? with
 | none=>exact ⟨by decide,by decide⟩
 | some x=>exact h x (List.mem_of_getLast? hl)
set_option maxHeartbeats 2000000 in
theorem put_fn {q : Nat} {f : Int} {xb xa : List Int} {mk jo w : Int} {hp : Heap} (hqs : QS q f xb mk xa jo hp) (hw : Wd w) (hmk : Wd mk) (hj : 0 ≤ jo ∧ jo < 1000000) (hl : xb.length < 1000000) :
  Rt Tryd.prog 57 [.pointer (some ⟨q,0,none⟩),.int .i64 w].toArray S w0 (hp++η) (fun _v η'=>∃ hp',QS q f (xb++[oneF f w]) (if xb=[] then oneF f w else twoF f mk (oneF f w)) xa (if xb=[] then jo else jo+1) hp'∧η'=hp'++η):=by
 obtain ⟨ba,bc,bg,aa,ac,ag,rfl,hob,hoa⟩:=hqs
 have hF:=open_wide
 refine Rt.of (fn:=Tryd.f57) Tryd.func57 rfl rfl ?_
 refine T.seq ?_
 refine T.region ?_
 refine TL.move hF rfl rfl ?_
 refine TL.nilCheck hF rfl rfl ?_
 refine TL.fieldAddr hF rfl rfl ?_
 refine TL.fieldAddr hF rfl rfl ?_
 refine TL.load hF rfl (own_mem (cs:=(qC f (.slice ba xb.length bc) mk (.slice aa xa.length ac) jo)) (e:=110) (fz:=(0,0)) (by simp) rfl) rfl ?_
 refine TL.move hF rfl rfl ?_
 refine TL.callV hF (one_fn (f:=f) (w:=w)) rfl rfl ?_
 refine TL.assign hF rfl rfl ?_
 refine TL.nil ?_
 refine TQ.then_n ?_
 refine T.seq ?_
 refine T.seq ?_
 refine T.region ?_
 refine TL.move hF rfl rfl ?_
 refine TL.nilCheck hF rfl rfl ?_
 refine TL.fieldAddr hF rfl rfl ?_
 refine TL.fieldAddr hF rfl rfl ?_
 refine TL.load hF rfl (own_mem (cs:=(qC f (.slice ba xb.length bc) mk (.slice aa xa.length ac) jo)) (e:=110) (fz:=(0,0)) (by simp) rfl) rfl ?_
 refine TL.len hF rfl rfl ?_
 refine TL.bin hF rfl rfl rfl rfl ?_
 refine TL.nil ?_
 refine TQ.then_n ?_
 refine T.cond_d rfl (fun ht17=>?_) (fun ht17=>?_)
 ·refine T.region ?_
  refine TL.move hF rfl rfl ?_
  refine TL.move hF rfl rfl ?_
  refine TL.nilCheck hF rfl rfl ?_
  refine TL.fieldAddr hF rfl rfl ?_
  refine TL.storeI hF 2 rfl rfl rfl rfl (by simp [qC]) ?_
  refine TL.nil ?_
  refine TQ.then_n ?_
  refine T.region ?_
  refine TL.move hF rfl rfl ?_
  refine TL.nilCheck hF rfl rfl ?_
  refine TL.fieldAddr hF rfl rfl ?_
  refine TL.move hF rfl rfl ?_
  refine TL.pick' [0,2,1] [_,_,_] rfl rfl rfl ?_
  refine TL.call hF (push_fn (q:=q) (o:=3) (cs:=(qC f (.slice ba xb.length bc) (oneF f w) (.slice aa xa.length ac) jo)) (xs:=xb) rfl hob (by omega)) rfl rfl ?_
  rintro _ _ ⟨a2,c2,sg2,ho2,rfl⟩
  refine TL.nil ?_
  refine TQ.norm ?_
  refine TQ.pick [0,2,1] [_,_,_] rfl rfl rfl ?_
  have hl1:(xb++[oneF f w]).length=xb.length+1:=by simp
  have h0:xb=[]:=List.length_eq_zero_iff.1 (by have h:(xb.length:Int)=0:=ht17; omega)
  rw [if_pos h0,if_pos h0]
  refine TQ.rets [] _ rfl rfl rfl ⟨_,⟨a2,c2,sg2,aa,ac,ag,rfl,by rw [hl1]; exact ho2,hoa⟩,?_⟩
  rw [hl1]; rfl
 ·refine T.region ?_
  refine TL.move hF rfl rfl ?_
  refine TL.move hF rfl rfl ?_
  refine TL.move hF rfl rfl ?_
  refine TL.nilCheck hF rfl rfl ?_
  refine TL.fieldAddr hF rfl rfl ?_
  refine TL.load hF rfl (own_mem (cs:=(qC f (.slice ba xb.length bc) mk (.slice aa xa.length ac) jo)) (e:=110) (fz:=(0,0)) (by simp) rfl) rfl ?_
  refine TL.move hF rfl rfl ?_
  refine TL.pick' [2,0,1] [_,_,_] rfl rfl rfl ?_
  refine TL.call hF (qjoin_fn hmk (wd_one hw) hj) rfl rfl ?_
  rintro _ _ ⟨rfl,rfl⟩
  refine TL.nilCheck hF rfl rfl ?_
  refine TL.fieldAddr hF rfl rfl ?_
  refine TL.storeI hF 0 rfl rfl rfl rfl (by simp [qC]) ?_
  refine TL.nil ?_
  refine TQ.then_n ?_
  refine T.region ?_
  refine TL.move hF rfl rfl ?_
  refine TL.nilCheck hF rfl rfl ?_
  refine TL.fieldAddr hF rfl rfl ?_
  refine TL.move hF rfl rfl ?_
  refine TL.pick' [1,0,2] [_,_,_] rfl rfl rfl ?_
  refine TL.call hF (push_fn (q:=q) (o:=3) (cs:=(qC f (.slice ba xb.length bc) (twoF f mk (oneF f w)) (.slice aa xa.length ac) (jo+1))) (xs:=xb) rfl hob (by omega)) rfl rfl ?_
  rintro _ _ ⟨a2,c2,sg2,ho2,rfl⟩
  refine TL.nil ?_
  refine TQ.norm ?_
  refine TQ.pick [0,2,1] [_,_,_] rfl rfl rfl ?_
  have hl1:(xb++[oneF f w]).length=xb.length+1:=by simp
  have h0:¬ xb=[]:=fun h=>ht17 (by rw [h]; rfl)
  rw [if_neg h0,if_neg h0]
  refine TQ.rets [] _ rfl rfl rfl ⟨_,⟨a2,c2,sg2,aa,ac,ag,rfl,by rw [hl1]; exact ho2,hoa⟩,?_⟩
  rw [hl1]; rfl
def allW (f:Int) (xb:List Int) (mk:Int) (xa:List Int):Int:=if 0<xa.length then (if 0<xb.length then twoF f (topL xa) mk else topL xa) else (if 0<xb.length then mk else noneF f)
set_option maxHeartbeats 2000000 in
theorem all_fn {q : Nat} {f : Int} {xb xa : List Int} {mk jo : Int} {hp : Heap} (hqs : QS q f xb mk xa jo hp) (hwa : ∀ x ∈ xa, Wd x) (hmk : Wd mk) (hj : 0 ≤ jo ∧ jo < 1000000) (hl : xb.length < 1000000) (hl2 : xa.length < 1000000) :
  Rt Tryd.prog 58 [.pointer (some ⟨q,0,none⟩)].toArray S w0 (hp++η) (fun v η'=>v = .int .i64 (allW f xb mk xa)∧∃ hp',QS q f xb mk xa (if 0<xa.length∧0<xb.length then jo+1 else jo) hp'∧η'=hp'++η):=by
 obtain ⟨ba,bc,bg,aa,ac,ag,rfl,hob,hoa⟩:=hqs
 have hF:=open_wide
 refine Rt.of (fn:=Tryd.f58) Tryd.func58 rfl rfl ?_
 refine T.seq ?_
 refine T.region ?_
 refine TL.assign hF rfl rfl ?_
 refine TL.nil ?_
 refine TQ.then_n ?_
 refine T.seq ?_
 refine T.region ?_
 refine TL.move hF rfl rfl ?_
 refine TL.nilCheck hF rfl rfl ?_
 refine TL.fieldAddr hF rfl rfl ?_
 refine TL.call hF (top_fn (q:=q) (o:=5) (xs:=xa) (c:=ac) (own_mem (cs:=(qC f (.slice ba xb.length bc) mk (.slice aa xa.length ac) jo)) (e:=110) (fz:=(0,0)) (by simp) rfl) (hoa.row (by simp)) (by omega)) rfl rfl ?_
 rintro _ _ ⟨rfl,rfl⟩
 refine TL.move hF rfl rfl ?_
 refine TL.extract hF rfl rfl rfl ?_
 refine TL.extract hF rfl rfl rfl ?_
 refine TL.assign hF rfl rfl ?_
 refine TL.assign hF rfl rfl ?_
 refine TL.nil ?_
 refine TQ.then_n ?_
 refine T.seq ?_
 refine T.block ?_
 refine T.seq ?_
 refine T.region ?_
 refine TL.move hF rfl rfl ?_
 refine TL.move hF rfl rfl ?_
 refine TL.join [_,_,_,_,_,_,_,_] 22 (.bool (decide (0<xa.length) && decide ((0:Int)<(xb.length:Int)))) rfl ?_ ?_
 ·refine TL.gd (t:=14) rfl (fun g2_14=>?_) (fun g2_14=>?_)
  ·refine TL.on rfl rfl rfl (decide_eq_true g2_14) ?_
   refine TL.move hF rfl rfl ?_
   refine TL.on rfl rfl rfl (decide_eq_true g2_14) ?_
   refine TL.nilCheck hF rfl rfl ?_
   refine TL.on rfl rfl rfl (decide_eq_true g2_14) ?_
   refine TL.fieldAddr hF rfl rfl ?_
   refine TL.on rfl rfl rfl (decide_eq_true g2_14) ?_
   refine TL.fieldAddr hF rfl rfl ?_
   refine TL.on rfl rfl rfl (decide_eq_true g2_14) ?_
   refine TL.load hF rfl (own_mem (cs:=(qC f (.slice ba xb.length bc) mk (.slice aa xa.length ac) jo)) (e:=110) (fz:=(0,0)) (by simp) rfl) rfl ?_
   refine TL.on rfl rfl rfl (decide_eq_true g2_14) ?_
   refine TL.len hF rfl rfl ?_
   refine TL.on rfl rfl rfl (decide_eq_true g2_14) ?_
   refine TL.bin hF rfl rfl rfl rfl ?_
   refine TL.pickT hF rfl (decide_eq_true g2_14) rfl rfl ?_
   refine TL.finJ ⟨?_,by repeat (first | exact trivial | refine ⟨rfl,?_⟩)⟩
   exact congrArg (fun z=>some (Value.bool z)) (by first | (rw [(decide_eq_true g2_14)]; rfl) | (rw [(decide_eq_true g2_14)]; simp; done) | (simp [*]; done))
  ·refine TL.off hF rfl rfl rfl (decide_eq_false g2_14) rfl ?_
   refine TL.off hF rfl rfl rfl (decide_eq_false g2_14) rfl ?_
   refine TL.off hF rfl rfl rfl (decide_eq_false g2_14) rfl ?_
   refine TL.off hF rfl rfl rfl (decide_eq_false g2_14) rfl ?_
   refine TL.off hF rfl rfl rfl (decide_eq_false g2_14) rfl ?_
   refine TL.off hF rfl rfl rfl (decide_eq_false g2_14) rfl ?_
   refine TL.off hF rfl rfl rfl (decide_eq_false g2_14) rfl ?_
   refine TL.pickF hF rfl (decide_eq_false g2_14) rfl rfl ?_
   refine TL.finJ ⟨?_,by repeat (first | exact trivial | refine ⟨rfl,?_⟩)⟩
   exact congrArg (fun z=>some (Value.bool z)) (by first | (rw [(decide_eq_false g2_14)]; rfl) | (rw [(decide_eq_false g2_14)]; simp; done) | (simp [*]; done))
 ·refine TL.assign hF rfl rfl ?_
  refine TL.nil ?_
  refine TQ.then_n ?_
  refine T.cond _ rfl (fun ht12=>?_) (fun ht12=>?_)
  ·refine T.seq ?_
   refine T.region ?_
   refine TL.move hF rfl rfl ?_
   refine TL.move hF rfl rfl ?_
   refine TL.move hF rfl rfl ?_
   refine TL.nilCheck hF rfl rfl ?_
   refine TL.fieldAddr hF rfl rfl ?_
   refine TL.load hF rfl (own_mem (cs:=(qC f (.slice ba xb.length bc) mk (.slice aa xa.length ac) jo)) (e:=110) (fz:=(0,0)) (by simp) rfl) rfl ?_
   refine TL.pick' [2,0,1] [_,_,_] rfl rfl rfl ?_
   refine TL.call hF (qjoin_fn (ints_wd hwa) hmk hj) rfl rfl ?_
   rintro _ _ ⟨rfl,rfl⟩
   refine TL.assign hF rfl rfl ?_
   refine TL.nil ?_
   refine TQ.then_n ?_
   refine T.ret ?_
   refine TQ.block_r ?_
   refine TQ.then_r ?_
   simp only [Bool.and_eq_true,decide_eq_true_eq] at ht12
   refine TQ.pick [1,2,0] [_,_,_] rfl rfl rfl ?_
   refine TQ.rets [2] _ rfl rfl rfl ⟨?_,_,⟨ba,bc,bg,aa,ac,ag,rfl,hob,hoa⟩,?_⟩
   ·unfold allW; rw [if_pos ht12.1,if_pos (by omega)]; rfl
   ·rw [if_pos (by omega)]; rfl
  ·refine T.seq ?_
   refine T.region ?_
   refine TL.move hF rfl rfl ?_
   refine TL.assign hF rfl rfl ?_
   refine TL.nil ?_
   refine TQ.then_n ?_
   refine T.cond_d rfl (fun ht30=>?_) (fun ht30=>?_)
   ·refine T.seq ?_
    refine T.region ?_
    refine TL.move hF rfl rfl ?_
    refine TL.assign hF rfl rfl ?_
    refine TL.nil ?_
    refine TQ.then_n ?_
    refine T.ret ?_
    refine TQ.block_r ?_
    refine TQ.then_r ?_
    rw [← Bool.not_eq_true] at ht12
    simp only [Bool.and_eq_true,decide_eq_true_eq] at ht12
    refine TQ.rets [2] _ rfl rfl rfl ⟨?_,_,⟨ba,bc,bg,aa,ac,ag,rfl,hob,hoa⟩,?_⟩
    ·unfold allW; rw [if_pos ht30,if_neg (by omega)]; rfl
    ·rw [if_neg (by omega)] <;> rfl
   ·refine T.seq ?_
    refine T.region ?_
    refine TL.move hF rfl rfl ?_
    refine TL.nilCheck hF rfl rfl ?_
    refine TL.fieldAddr hF rfl rfl ?_
    refine TL.fieldAddr hF rfl rfl ?_
    refine TL.load hF rfl (own_mem (cs:=(qC f (.slice ba xb.length bc) mk (.slice aa xa.length ac) jo)) (e:=110) (fz:=(0,0)) (by simp) rfl) rfl ?_
    refine TL.len hF rfl rfl ?_
    refine TL.bin hF rfl rfl rfl rfl ?_
    refine TL.assign hF rfl rfl ?_
    refine TL.nil ?_
    refine TQ.then_n ?_
    refine T.cond_d rfl (fun ht33=>?_) (fun ht33=>?_)
    ·refine T.seq ?_
     refine T.region ?_
     refine TL.move hF rfl rfl ?_
     refine TL.nilCheck hF rfl rfl ?_
     refine TL.fieldAddr hF rfl rfl ?_
     refine TL.load hF rfl (own_mem (cs:=(qC f (.slice ba xb.length bc) mk (.slice aa xa.length ac) jo)) (e:=110) (fz:=(0,0)) (by simp) rfl) rfl ?_
     refine TL.assign hF rfl rfl ?_
     refine TL.nil ?_
     refine TQ.then_n ?_
     refine T.ret ?_
     refine TQ.block_r ?_
     refine TQ.then_r ?_
     refine TQ.rets [2] _ rfl rfl rfl ⟨?_,_,⟨ba,bc,bg,aa,ac,ag,rfl,hob,hoa⟩,?_⟩
     ·unfold allW; rw [if_neg ht30,if_pos (by omega)]; rfl
     ·rw [if_neg (by omega)] <;> rfl
    ·refine T.skip ?_
     refine TQ.block_n ?_
     refine TQ.then_n ?_
     refine T.seq ?_
     refine T.region ?_
     refine TL.move hF rfl rfl ?_
     refine TL.nilCheck hF rfl rfl ?_
     refine TL.fieldAddr hF rfl rfl ?_
     refine TL.fieldAddr hF rfl rfl ?_
     refine TL.load hF rfl (own_mem (cs:=(qC f (.slice ba xb.length bc) mk (.slice aa xa.length ac) jo)) (e:=110) (fz:=(0,0)) (by simp) rfl) rfl ?_
     refine TL.assign hF rfl rfl ?_
     refine TL.nil ?_
     refine TQ.then_n ?_
     refine T.ret ?_
     refine TQ.rets [2] _ rfl rfl rfl ⟨?_,_,⟨ba,bc,bg,aa,ac,ag,rfl,hob,hoa⟩,?_⟩
     ·unfold allW; rw [if_neg ht30,if_neg (by omega)]; rfl
     ·rw [if_neg (by omega)] <;> rfl
set_option maxHeartbeats 2000000 in
theorem make_fn {q b1 : Nat} {f : Int} {bv : Value} {mk jo w : Int} {aa : Option Addr} {xa : List Int} {ac : Nat} (hb1 : [(b1, Obj.cells #[.pointer (some ⟨q, 0, none⟩)] 104 (0, 0))] ∈ η) (hra : Row S w0 η aa (ints xa)) (hw : Wd w) (hwa : ∀ x ∈ xa, Wd x) (hj : 0 ≤ jo ∧ jo < 1000000) (hl2 : xa.length < 1000000) :
  Rt Tryd.prog 70 [.int .i64 w,ptr b1].toArray S w0 ([(q,Obj.cells (qC f bv mk (.slice aa xa.length ac) jo) 110 (0,0))]::η) (fun v η'=>v = .int .i64 (if 0<xa.length then twoF f w (topL xa) else w)∧η'=[(q,Obj.cells (qC f bv mk (.slice aa xa.length ac) (if 0<xa.length then jo+1 else jo)) 110 (0,0))]::η):=by
 have hF:=open_wide
 refine Rt.of (fn:=Tryd.f70) Tryd.func70 rfl rfl ?_
 refine T.seq ?_
 refine T.region ?_
 refine TL.assign hF rfl rfl ?_
 refine TL.nil ?_
 refine TQ.then_n ?_
 refine T.seq ?_
 refine T.seq ?_
 refine T.region ?_
 refine TL.load hF rfl (own_mem (cs:=#[.pointer (some ⟨q,0,none⟩)]) (List.mem_cons_of_mem _ hb1) rfl) rfl ?_
 refine TL.nilCheck hF rfl rfl ?_
 refine TL.fieldAddr hF rfl rfl ?_
 refine TL.call hF (top_fn (q:=q) (o:=5) (xs:=xa) (c:=ac) (own_mem (cs:=(qC f bv mk (.slice aa xa.length ac) jo)) (e:=110) (fz:=(0,0)) List.mem_cons_self rfl) (hra.up (fun _ hs=>List.mem_cons_of_mem _ hs)) (by omega)) rfl rfl ?_
 rintro _ _ ⟨rfl,rfl⟩
 refine TL.move hF rfl rfl ?_
 refine TL.extract hF rfl rfl rfl ?_
 refine TL.extract hF rfl rfl rfl ?_
 refine TL.assign hF rfl rfl ?_
 refine TL.assign hF rfl rfl ?_
 refine TL.nil ?_
 refine TQ.then_n ?_
 refine T.seq ?_
 refine T.region ?_
 refine TL.move hF rfl rfl ?_
 refine TL.nil ?_
 refine TQ.then_n ?_
 refine T.cond_d rfl (fun ht13=>?_) (fun ht13=>?_)
 ·refine T.seq ?_
  refine T.region ?_
  refine TL.load hF rfl (own_mem (cs:=#[.pointer (some ⟨q,0,none⟩)]) (List.mem_cons_of_mem _ hb1) rfl) rfl ?_
  refine TL.move hF rfl rfl ?_
  refine TL.move hF rfl rfl ?_
  refine TL.call hF (qjoin_fn hw (ints_wd hwa) hj) rfl rfl ?_
  rintro _ _ ⟨rfl,rfl⟩
  refine TL.assign hF rfl rfl ?_
  refine TL.nil ?_
  refine TQ.then_n ?_
  refine T.ret ?_
  refine TQ.then_r ?_
  refine TQ.rets [3] _ rfl rfl rfl ⟨?_,?_⟩
  ·rw [if_pos ht13]; rfl
  ·rw [if_pos ht13]
 ·refine T.skip ?_
  refine TQ.then_n ?_
  refine T.seq ?_
  refine T.region ?_
  refine TL.move hF rfl rfl ?_
  refine TL.assign hF rfl rfl ?_
  refine TL.nil ?_
  refine TQ.then_n ?_
  refine T.ret ?_
  refine TQ.rets [3] _ rfl rfl rfl ⟨?_,?_⟩
  ·rw [if_neg ht13]; rfl
  ·rw [if_neg ht13]
end Go.Proofs.YtbajelldegijkaaDoor
/- The queue: words move from one stack to the other; what goes off. -/
namespace Go.Proofs.YtbajelldegijkaaDoor
open Go.Sl
variable {S:Nat→Prop} {w0:World} {η:Heap}
theorem ahead_step {f y:Int} {r:List Int} (hy:Wd y) (hr:∀ w∈r,Wd w):aheadS f (y::r)=aheadS f r++[if 0<(aheadS f r).length then twoF f (oneF f y) (topL (aheadS f r)) else oneF f y]:=by
 show aheadS f r++[foldS f (y::r)]=_
 congr 2
 cases r with
 | nil=>rw [if_neg (by simp [aheadS]),fold_one hy]
 | cons z t =>
  rw [if_pos (by simp [aheadS]),fold_cons hy hr]
  congr 1
  show _=topL (aheadS f t++[foldS f (z::t)])
  rw [topL_snoc]
theorem topL_take {l:List Int} {g:Int→Int} {j:Nat} (hj:j<l.length):topL ((l.map g).take (j+1))=g l[j]:=by
 rw [← List.map_take,List.take_succ_eq_append_getElem hj,List.map_append,List.map_cons,List.map_nil,topL_snoc]
theorem pop_cells {q:Nat} {f mk jo:Int} {ba:Option Addr} {bc n:Nat} {av:Value}:(if n=0 then [(q,Obj.cells (qC f (.slice ba n bc) mk av jo) 110 (0,0))] else [(q,Obj.cells ((qC f (.slice ba n bc) mk av jo).setIfInBounds 3 (.slice ba (n - 1) bc)) 110 (0,0))])=[(q,Obj.cells (qC f (.slice ba (n - 1) bc) mk av jo) 110 (0,0))]:=by
 split
 ·rename_i h; subst h; rfl
 ·rfl
structure MI where
 j:Nat
 jo:Int
 aa:Option Addr
 ac:Nat
 ag:Seg
set_option maxHeartbeats 4000000 in
theorem moved_fn {q b1 : Nat} {f : Int} {qb : List Int} {mk jo : Int} {ba aa : Option Addr} {bc ac : Nat} {bg ag : Seg} (hb1 : [(b1, Obj.cells #[.pointer (some ⟨q, 0, none⟩)] 104 (0, 0))] ∈ η) (hob : OSl 72 1 (.slice ba qb.length bc) qb.length (ints (qb.map (oneF f))) bg) (hoa : OSl 72 1 (.slice aa 0 ac) 0 (ints []) ag) (hw : ∀ w ∈ qb, Wd w) (hj0 : 0 ≤ jo ∧ jo < 900000) (hl : qb.length < 90000) :
  Rt Tryd.prog 69 [.pointer (some ⟨q,3,none⟩),.pointer (some ⟨q,5,none⟩),.func (.func 70) #[] #[ptr b1]].toArray S w0 ([(q,Obj.cells (qC f (.slice ba qb.length bc) mk (.slice aa 0 ac) jo) 110 (0,0))]::bg::ag::η) (fun _v η'=>∃ jo' aa' ac' ag',jo≤jo'∧jo'≤jo+qb.length∧OSl 72 1 (.slice aa' qb.length ac') qb.length (ints (aheadS f qb)) ag'∧η'=[(q,Obj.cells (qC f (.slice ba 0 bc) mk (.slice aa' qb.length ac') jo') 110 (0,0))]::bg::ag'::η):=by
 have hF:=open_wide
 refine Rt.of (fn:=Tryd.f69) Tryd.func69 rfl rfl ?_
 refine T.seq ?_
 refine T.region ?_
 refine TL.move hF rfl rfl ?_
 have hlx:(qb.map (oneF f)).length=qb.length:=List.length_map _
 have hpo:=pop_fn (S:=S) (w0:=w0) (η:=bg::ag::η) (q:=q) (o:=3) (cs:=(qC f (.slice ba qb.length bc) mk (.slice aa 0 ac) jo)) (xs:=(qb.map (oneF f))) (c:=bc) (by rw [hlx]; rfl) (by rw [← hlx] at hob; exact hob.row (by simp)) (by omega) (by have:=osl_cap hob; omega)
 rw [hlx,pop_cells] at hpo
 refine TL.call hF hpo rfl rfl ?_
 rintro _ _ ⟨rfl,rfl⟩
 refine TL.move hF rfl rfl ?_
 refine TL.extract hF rfl rfl rfl ?_
 refine TL.extract hF rfl rfl rfl ?_
 refine TL.assign hF rfl rfl ?_
 refine TL.assign hF rfl rfl ?_
 refine TL.nil ?_
 refine TQ.then_n ?_
 refine T.block ?_
 refine T.loop (ι:=MI) (fun z=>z.j≤qb.length∧jo≤z.jo∧z.jo+z.j≤jo+qb.length∧OSl 72 1 (.slice z.aa (qb.length - z.j) z.ac) (qb.length - z.j) (ints (aheadS f (qb.drop z.j))) z.ag) (fun z=>[(0,.pointer (some ⟨q,3,none⟩)),(1,.pointer (some ⟨q,5,none⟩)),(2,.func (.func 70) #[] #[ptr b1]),(6,.int .i64 (topL ((qb.map (oneF f)).take z.j))),(7,.bool (decide (0<z.j)))]) (fun z=>[(q,Obj.cells (qC f (.slice ba (z.j - 1) bc) mk (.slice z.aa (qb.length - z.j) z.ac) z.jo) 110 (0,0))]::bg::z.ag::η) (fun z=>z.j) ⟨qb.length,jo,aa,ac,ag⟩ ⟨Nat.le_refl _,Int.le_refl _,Int.le_refl _,by dsimp only; rw [Nat.sub_self,List.drop_length]; exact hoa⟩ ⟨rfl,rfl,rfl,by dsimp only; rw [List.take_of_length_le (by omega)]; rfl,rfl,trivial⟩ (by dsimp only; rw [Nat.sub_self]) ?_
 clear hoa ag aa ac hpo
 rintro ⟨j,j2,aa,ac,ag⟩ ⟨hj,hj1,hj2,hoa⟩
 dsimp only at hj hj1 hj2 hoa
 refine T.seq ?_
 refine T.seq ?_
 refine T.region ?_
 refine TL.move hF rfl rfl ?_
 refine TL.nil ?_
 refine TQ.then_n ?_
 refine T.cond_d rfl (fun ht13=>?_) (fun ht13=>?_)
 ·refine T.skip ?_
  refine TQ.then_n ?_
  refine T.seq ?_
  refine T.block ?_
  refine T.region ?_
  refine TL.move hF rfl rfl ?_
  refine TL.move hF rfl rfl ?_
  refine TL.move hF rfl rfl ?_
  have hjp:0<j:=ht13
  have hy:Wd qb[j - 1]:=hw _ (List.getElem_mem (by omega))
  have hr:∀ w∈qb.drop j,Wd w:=fun w h=>hw w (List.mem_of_mem_drop h)
  have hdl:(aheadS f (qb.drop j)).length=qb.length - j:=by rw [ahead_len,List.length_drop]
  have htp:topL ((qb.map (oneF f)).take j)=oneF f qb[j - 1]:=by
   have:=topL_take (g:=oneF f) (show j - 1<qb.length by omega)
   rwa [show j - 1+1=j by omega] at this
  have hmk:=make_fn (S:=S) (w0:=w0) (η:=bg::ag::η) (q:=q) (b1:=b1) (f:=f) (bv:=.slice ba (j - 1) bc) (mk:=mk) (jo:=j2) (w:=oneF f qb[j - 1]) (aa:=aa) (xa:=aheadS f (qb.drop j)) (ac:=ac) (by simp [hb1]) (hoa.row (by simp)) (wd_one hy) (wd_ahead hr) (by omega) (by omega)
  rw [hdl] at hmk
  rw [htp]
  refine TL.call hF hmk rfl rfl ?_
  rintro _ _ ⟨rfl,rfl⟩
  refine TL.pick' [2,0,1] [_,_,_] rfl rfl rfl ?_
  have hpu:=push_fn (S:=S) (w0:=w0) (η:=bg::η) (q:=q) (o:=5) (cs:=(qC f (.slice ba (j - 1) bc) mk (.slice aa (qb.length - j) ac) (if 0<qb.length - j then j2+1 else j2))) (a:=aa) (xs:=aheadS f (qb.drop j)) (c:=ac) (sg:=ag) (w:=(if 0<qb.length - j then twoF f (oneF f qb[j - 1]) (topL (aheadS f (qb.drop j))) else oneF f qb[j - 1])) (by rw [hdl]; rfl) (by rw [hdl]; exact hoa) (by omega)
  refine TL.call hF hpu rfl rfl ?_
  rintro _ _ ⟨a2,c2,ag2,hoa2,rfl⟩
  have hst:aheadS f (qb.drop (j - 1))=aheadS f (qb.drop j)++[if 0<qb.length - j then twoF f (oneF f qb[j - 1]) (topL (aheadS f (qb.drop j))) else oneF f qb[j - 1]]:=by
   have h9:=ahead_step (f:=f) hy hr
   rw [hdl] at h9
   rw [← h9,List.drop_eq_getElem_cons (show j - 1<qb.length by omega),show j - 1+1=j by omega]
  rw [hdl,← hst,show qb.length - j+1=qb.length - (j - 1) by omega] at hoa2
  refine TL.nil ?_
  refine TQ.block_n ?_
  refine TQ.then_n ?_
  refine T.region ?_
  refine TL.move hF rfl rfl ?_
  refine TL.pick' [1,2,0] [_,_,_] rfl rfl rfl ?_
  refine TL.heap (η':=[(q,Obj.cells (qC f (.slice ba (j - 1) bc) mk (.slice a2 (qb.length - (j - 1)) c2) (if 0<qb.length - j then j2+1 else j2)) 110 (0,0))]::bg::ag2::η) (by rw [hdl,show qb.length - j+1=qb.length - (j - 1) by omega]; rfl) ?_
  have hlx:((qb.map (oneF f)).take (j - 1)).length=j - 1:=by rw [List.length_take,List.length_map]; omega
  have hob1:OSl 72 1 (.slice ba (j - 1) bc) (j - 1) (ints ((qb.map (oneF f)).take (j - 1))) bg:=by
   have h9:=OSl.less hob (k:=j - 1) (by omega)
   rwa [show (ints (qb.map (oneF f))).take (j - 1)=ints ((qb.map (oneF f)).take (j - 1)) from (List.map_take).symm] at h9
  have hpo:=pop_fn (S:=S) (w0:=w0) (η:=bg::ag2::η) (q:=q) (o:=3) (cs:=(qC f (.slice ba (j - 1) bc) mk (.slice a2 (qb.length - (j - 1)) c2) (if 0<qb.length - j then j2+1 else j2))) (xs:=(qb.map (oneF f)).take (j - 1)) (c:=bc) (by rw [hlx]; rfl) (hob1.row (by simp)) (by omega) (by have:=osl_cap hob; omega)
  rw [hlx,pop_cells] at hpo
  refine TL.call hF hpo rfl rfl ?_
  rintro _ _ ⟨rfl,rfl⟩
  refine TL.move hF rfl rfl ?_
  refine TL.extract hF rfl rfl rfl ?_
  refine TL.extract hF rfl rfl rfl ?_
  refine TL.assign hF rfl rfl ?_
  refine TL.assign hF rfl rfl ?_
  refine TL.nil ?_
  refine TQ.round ⟨j - 1,(if 0<qb.length - j then j2+1 else j2),a2,c2,ag2⟩ ⟨by dsimp only; omega,by dsimp only; split <;> omega,by dsimp only; split <;> omega,hoa2⟩ (by dsimp only; omega) ⟨rfl,rfl,rfl,rfl,rfl,trivial⟩ rfl
 ·refine T.exit ?_
  refine TQ.then_x ?_
  refine TQ.then_x ?_
  refine TQ.block_x ?_
  refine TQ.norm ?_
  have hj0:j=0:=by have h:¬ 0<j:=ht13; omega
  subst hj0
  rw [Nat.sub_zero,List.drop_zero] at hoa
  exact TQ.rets [] _ rfl rfl rfl ⟨j2,aa,ac,ag,hj1,by omega,hoa,rfl⟩
end Go.Proofs.YtbajelldegijkaaDoor
/- The queue: what goes off; Queue. -/
namespace Go.Proofs.YtbajelldegijkaaDoor
open Go.Sl
variable {S:Nat→Prop} {w0:World} {η:Heap}
theorem pop_cells5 {q:Nat} {f mk jo:Int} {aa:Option Addr} {ac n:Nat} {bv:Value}:(if n=0 then [(q,Obj.cells (qC f bv mk (.slice aa n ac) jo) 110 (0,0))] else [(q,Obj.cells ((qC f bv mk (.slice aa n ac) jo).setIfInBounds 5 (.slice aa (n - 1) ac)) 110 (0,0))])=[(q,Obj.cells (qC f bv mk (.slice aa (n - 1) ac) jo) 110 (0,0))]:=by
 split
 ·rename_i h; subst h; rfl
 ·rfl
theorem ahead_drop (f:Int) (l:List Int):(aheadS f l).take (l.length - 1)=aheadS f (l.drop 1):=by
 cases l with
 | nil=>rfl
 | cons x r =>
  have:=ahead_pop (f:=f) (x:=x) (r:=r)
  rw [ahead_len] at this
  exact this
set_option maxHeartbeats 4000000 in
theorem off_fn {q : Nat} {f : Int} {qb qa : List Int} {mk jo : Int} {hp : Heap} (hqs : QS q f (qb.map (oneF f)) mk (aheadS f qa) jo hp) (hw : ∀ w ∈ qb, Wd w) (hj : 0 ≤ jo ∧ jo < 900000) (hl : qb.length < 90000) (hla : qa.length < 90000) :
  Rt Tryd.prog 56 [.pointer (some ⟨q,0,none⟩)].toArray S w0 (hp++η) (fun _v η'=>∃ qa' qb' jo' hp',qa'++qb'=(qa++qb).drop 1∧(qb'=[]∨qb'=qb)∧jo≤jo'∧jo'+qb'.length≤jo+qb.length∧QS q f (qb'.map (oneF f)) mk (aheadS f qa') jo' hp'∧η'=hp'++η):=by
 obtain ⟨ba,bc,bg,aa,ac,ag,rfl,hob,hoa⟩:=hqs
 rw [List.length_map] at hob ⊢
 rw [ahead_len] at hoa ⊢
 have hF:=open_wide
 refine Rt.of (fn:=Tryd.f56) Tryd.func56 rfl rfl ?_
 refine T.seq ?_
 refine T.region ?_
 refine TL.box hF rfl rfl (fun b1=>?_)
 refine TL.nil ?_
 refine TQ.then_n ?_
 refine T.seq ?_
 refine T.seq ?_
 refine T.region ?_
 refine TL.load hF rfl (by first | exact At.own' (i:=0) rfl rfl | exact At.own' (i:=1) rfl rfl | exact At.own' (i:=2) rfl rfl | exact At.own' (i:=3) rfl rfl | exact At.own' (i:=4) rfl rfl | exact At.own' (i:=5) rfl rfl | exact At.own' (i:=6) rfl rfl | exact At.own' (i:=7) rfl rfl | exact At.own' (i:=8) rfl rfl | exact At.own' (i:=9) rfl rfl | exact At.own' (i:=10) rfl rfl | exact At.own' (i:=11) rfl rfl | exact At.own' (i:=12) rfl rfl) rfl ?_
 refine TL.nilCheck hF rfl rfl ?_
 refine TL.fieldAddr hF rfl rfl ?_
 refine TL.fieldAddr hF rfl rfl ?_
 refine TL.load hF rfl (own_mem (cs:=(qC f (.slice ba qb.length bc) mk (.slice aa qa.length ac) jo)) (e:=110) (fz:=(0,0)) (by simp) rfl) rfl ?_
 refine TL.len hF rfl rfl ?_
 refine TL.bin hF rfl rfl rfl rfl ?_
 refine TL.nil ?_
 refine TQ.then_n ?_
 refine T.cond_d rfl (fun ht8=>?_) (fun ht8=>?_)
 ·refine T.draw ?_
  refine DR.stepV [_] rfl [(1,_,none)] rfl rfl ⟨⟨rfl,by kernel_rfl⟩,trivial⟩ (fun ext=>TL.load hF rfl (own_mem (cs:=#[.pointer (some ⟨q,0,none⟩)]) (e:=104) (fz:=(0,0)) List.mem_cons_self rfl) rfl TL.fin) ?_
  refine DR.stepV [_,_] rfl [(9,_,some 0)] rfl rfl ⟨⟨rfl,rfl,rfl⟩,trivial⟩ (fun ext=>TL.nilCheck hF rfl rfl TL.fin) ?_
  refine DR.stepV [_,_,_] rfl [(10,_,some 1)] rfl rfl ⟨⟨rfl,rfl,rfl⟩,trivial⟩ (fun ext=>TL.fieldAddr hF rfl rfl TL.fin) ?_
  refine DR.stepV [_,_,_,_] rfl [(1,_,none)] rfl rfl ⟨⟨rfl,by kernel_rfl⟩,trivial⟩ (fun ext=>TL.load hF rfl (own_mem (cs:=#[.pointer (some ⟨q,0,none⟩)]) (e:=104) (fz:=(0,0)) List.mem_cons_self rfl) rfl TL.fin) ?_
  refine DR.stepV [_,_,_,_,_] rfl [(12,_,some 3)] rfl rfl ⟨⟨rfl,rfl,rfl⟩,trivial⟩ (fun ext=>TL.nilCheck hF rfl rfl TL.fin) ?_
  refine DR.stepV [_,_,_,_,_,_] rfl [(13,_,some 4)] rfl rfl ⟨⟨rfl,rfl,rfl⟩,trivial⟩ (fun ext=>TL.fieldAddr hF rfl rfl TL.fin) ?_
  refine DR.stepV [_,_,_,_,_,_,_] rfl [(1,_,none)] rfl rfl ⟨⟨rfl,by kernel_rfl⟩,trivial⟩ (fun ext=>TL.makeFunc hF rfl rfl rfl TL.fin) ?_
  refine DR.done [(15,_),(14,_),(13,_),(12,_),(11,_),(10,_),(9,_)] [_] mixed (by kernel_rfl) (by kernel_rfl) (by kernel_rfl) rfl rfl ?_
  have hq0:qa=[]:=List.length_eq_zero_iff.1 (by have h:(qa.length:Int)=0:=ht8; omega)
  subst hq0
  refine TL.pick' [3,1,2,0] [_,_,_,_] rfl rfl rfl ?_
  refine TL.call hF (moved_fn (η:=[(b1,Obj.cells #[.pointer (some ⟨q,0,none⟩)] 104 (0,0))]::η) (b1:=b1) (by simp) hob hoa hw hj (by omega)) rfl rfl ?_
  rintro _ _ ⟨jo2,aa2,ac2,ag2,hj1,hj2,hoa2,rfl⟩
  refine TL.nil ?_
  refine TQ.then_n ?_
  refine T.region ?_
  refine TL.load hF rfl (own_mem (b:=b1) (cs:=#[.pointer (some ⟨q,0,none⟩)]) (e:=104) (fz:=(0,0)) (by simp) rfl) rfl ?_
  refine TL.nilCheck hF rfl rfl ?_
  refine TL.fieldAddr hF rfl rfl ?_
  have hlx:(aheadS f qb).length=qb.length:=ahead_len f _
  have hpo:=pop_fn (S:=S) (w0:=w0) (η:=bg::ag2::[(b1,Obj.cells #[.pointer (some ⟨q,0,none⟩)] 104 (0,0))]::η) (q:=q) (o:=5) (cs:=(qC f (.slice ba 0 bc) mk (.slice aa2 qb.length ac2) jo2)) (xs:=aheadS f qb) (by rw [hlx]; rfl) ((show OSl _ _ _ _ _ _ from hoa2).row (by simp)) (by omega) (by rw [hlx]; exact osl_cap (show OSl _ _ _ _ _ _ from hoa2))
  rw [hlx,pop_cells5] at hpo
  refine TL.call hF hpo rfl rfl ?_
  rintro _ _ ⟨rfl,rfl⟩
  refine TL.nil ?_
  refine TQ.norm ?_
  have hless:=OSl.less hoa2 (k:=qb.length - 1) (by omega)
  rw [show (ints (aheadS f qb)).take (qb.length - 1)=ints (aheadS f (qb.drop 1)) from by rw [← ahead_drop]; exact (List.map_take).symm] at hless
  have hob0:=OSl.less hob (k:=0) (by omega)
  have hdl:(aheadS f (qb.drop 1)).length=qb.length - 1:=by rw [ahead_len,List.length_drop]
  refine TQ.hperm ([(b1,Obj.cells #[.pointer (some ⟨q,0,none⟩)] 104 (0,0))]::bg::ag2::[(q,Obj.cells (qC f (.slice ba 0 bc) mk (.slice aa2 (qb.length - 1) ac2) jo2) 110 (0,0))]::η) (perm_cnt fun f=>by simp only [List.map_cons,List.sum_cons]; omega) ?_
  refine TQ.pop ?_
  refine TQ.rets [] _ rfl rfl rfl ⟨qb.drop 1,[],jo2,_,by simp,.inl rfl,by omega,by simp only [List.length_nil]; omega,⟨ba,bc,bg,aa2,ac2,ag2,rfl,hob0,by rw [hdl]; exact hless⟩,?_⟩
  rw [hdl]; rfl
 ·refine T.skip ?_
  refine TQ.then_n ?_
  refine T.region ?_
  refine TL.load hF rfl (own_mem (b:=b1) (cs:=#[.pointer (some ⟨q,0,none⟩)]) (e:=104) (fz:=(0,0)) List.mem_cons_self rfl) rfl ?_
  refine TL.nilCheck hF rfl rfl ?_
  refine TL.fieldAddr hF rfl rfl ?_
  refine TL.pick' [3,1,2,0] [_,_,_,_] rfl rfl rfl ?_
  have hlx:(aheadS f qa).length=qa.length:=ahead_len f _
  have hpo:=pop_fn (S:=S) (w0:=w0) (η:=bg::ag::[(b1,Obj.cells #[.pointer (some ⟨q,0,none⟩)] 104 (0,0))]::η) (q:=q) (o:=5) (cs:=(qC f (.slice ba qb.length bc) mk (.slice aa qa.length ac) jo)) (xs:=aheadS f qa) (by rw [hlx]; rfl) (hoa.row (by simp)) (by omega) (by rw [hlx]; exact osl_cap hoa)
  rw [hlx,pop_cells5] at hpo
  refine TL.call hF hpo rfl rfl ?_
  rintro _ _ ⟨rfl,rfl⟩
  refine TL.nil ?_
  refine TQ.norm ?_
  have hq1:qa≠[]:=fun h=>ht8 (by rw [h]; rfl)
  have hless:=OSl.less hoa (k:=qa.length - 1) (by omega)
  rw [show (ints (aheadS f qa)).take (qa.length - 1)=ints (aheadS f (qa.drop 1)) from by rw [← ahead_drop]; exact (List.map_take).symm] at hless
  have hdl:(aheadS f (qa.drop 1)).length=qa.length - 1:=by rw [ahead_len,List.length_drop]
  refine TQ.hperm ([(b1,Obj.cells #[.pointer (some ⟨q,0,none⟩)] 104 (0,0))]::bg::ag::[(q,Obj.cells (qC f (.slice ba qb.length bc) mk (.slice aa (qa.length - 1) ac) jo) 110 (0,0))]::η) (perm_cnt fun f=>by simp only [List.map_cons,List.sum_cons]; omega) ?_
  refine TQ.pop ?_
  refine TQ.rets [] _ rfl rfl rfl ⟨qa.drop 1,qb,jo,_,by cases qa with
   | nil=>exact absurd rfl hq1
   | cons x r=>rfl,.inr rfl,by omega,by omega,⟨ba,bc,bg,aa,ac,ag,rfl,by rw [List.length_map]; exact hob,by rw [hdl]; exact hless⟩,?_⟩
  rw [hdl,List.length_map]; rfl
end Go.Proofs.YtbajelldegijkaaDoor
/- Queue. -/
namespace Go.Proofs.YtbajelldegijkaaDoor
open Go.Sl
variable {S:Nat→Prop} {w0:World} {η:Heap}
theorem allW_eq {f:Int} {q:List Int} {n:Nat} {s:QuS} (h:QOk f q n s):allW f (s.qb.map (oneF f)) s.made (aheadS f s.qa)=foldS f q:=by
 rw [h.fold]
 unfold allW
 rw [ahead_len,List.length_map]
 by_cases h1:s.qa=[]
 ·rw [if_pos h1,h1,if_neg (by simp)]
  by_cases h2:s.qb=[]
  ·rw [if_pos h2,h2,if_neg (by simp)]
  ·rw [if_neg h2,if_pos (List.length_pos_iff.2 h2)]
 ·rw [if_neg h1,if_pos (List.length_pos_iff.2 h1)]
  have ht:topL (aheadS f s.qa)=foldS f s.qa:=by
   cases hq:s.qa with
   | nil=>exact absurd hq h1
   | cons x r=>exact topL_snoc _ _
  rw [ht]
  by_cases h2:s.qb=[]
  ·rw [if_pos h2,h2,if_neg (by simp)]
  ·rw [if_neg h2,if_pos (List.length_pos_iff.2 h2)]
theorem QOk.put2 {f:Int} {q:List Int} {n:Nat} {s:QuS} (h:QOk f q n s) {w:Int} (hw:Wd w):QOk f (q++[w]) (n+1) ⟨s.qa,s.qb++[w],if s.qb=[] then oneF f w else twoF f s.made (oneF f w),if s.qb=[] then s.joins else s.joins+1⟩∧(if s.qb=[] then s.joins else s.joins+1)+(s.qb++[w]).length≤3*n+2:=by
 obtain ⟨mk,jo,h1,h2,h3,h4,h5,h6,h7⟩:=h.put hw
 have e:mk=(if s.qb=[] then oneF f w else twoF f s.made (oneF f w))∧jo=(if s.qb=[] then s.joins else s.joins+1):=by
  split at h1
  ·simp only [Prod.mk.injEq] at h1; rename_i hq; rw [if_pos hq,if_pos hq]; exact h1
  ·simp only [Prod.mk.injEq] at h1; rename_i hq; rw [if_neg hq,if_neg hq]; exact h1
 rw [← e.1,← e.2]
 exact ⟨⟨h5,h3,h4,h6,h2,by dsimp only; omega⟩,h7⟩
theorem QOk.off2 {f:Int} {q:List Int} {n:Nat} {s:QuS} (h:QOk f q n s) {qa qb:List Int} {jo:Int} (h1:qa++qb=(s.qa++s.qb).drop 1) (h2:qb=[]∨qb=s.qb) (h3:s.joins≤jo) (h4:jo+qb.length≤s.joins+s.qb.length):QOk f (q.drop 1) (n+1) ⟨qa,qb,s.made,jo⟩∧jo+qb.length≤3*n+2:=by
 have hn:=h.jn
 have h0:=h.j0
 refine ⟨⟨by rw [← h.all]; exact h1,fun hq=>?_,h.wm,fun w hw=>h.words w (List.mem_of_mem_drop hw),by dsimp only; omega,by dsimp only; omega⟩,by omega⟩
 dsimp only at hq ⊢
 rcases h2 with h2 | h2
 ·exact absurd h2 hq
 ·rw [h2] at hq ⊢; exact h.made hq
theorem QOk.joined {f:Int} {q:List Int} {n:Nat} {s:QuS} (h:QOk f q (n+1) s) (hb:s.joins+s.qb.length≤3*n+2) (p:Prop) [Decidable p]:QOk f q (n+1) ⟨s.qa,s.qb,s.made,if p then s.joins+1 else s.joins⟩:=by
 have h0:=h.j0
 refine ⟨h.all,h.made,h.wm,h.words,?_,?_⟩
 ·dsimp only; split <;> omega
 ·dsimp only; split <;> omega
theorem que_len (q:List Int) (n:Int):(queS q n).length≤q.length+1:=by
 unfold queS
 split
 ·rw [List.length_drop]; omega
 ·simp
theorem queAll_len:∀ (ops q:List Int),(queAll q ops).length≤q.length+ops.length
 | [],q=>Nat.le_refl _
 | n::r,q=>by
  have h1:=queAll_len r (queS q n)
  have h2:=que_len q n
  show (queAll (queS q n) r).length≤_
  rw [List.length_cons]; omega
structure QI where
 i:Nat
 s:QuS
 hp:Heap
 la:Option Addr
 lc:Nat
 lg:Seg
set_option maxHeartbeats 8000000 in
theorem Queue_fn (ht : Tabs S w0) {f : Int} {a : Option Addr} {ops : List Int} {c : Nat} (hx : Row S w0 [] a (ints ops)) (hl : ops.length < 9223372036854775808) :
  Rt Tryd.prog 23 [.int .i64 f,.slice a ops.length c].toArray S w0 η (fun v η'=>∃ a c joins segs,v = .tuple #[.agg #[.slice a (queueS f ops).1.length c,.int .i64 joins],.int .i64 (queueS f ops).2]∧Row S w0 segs a (ints (queueS f ops).1)∧(0≤joins∧joins≤3*ops.length∧((queueS f ops).2=0∨joins=0))∧η'=segs++η):=by
 have hF:=open_wide
 refine Rt.ofL (fn:=Tryd.f23) Tryd.func23 rfl rfl ?_
 refine T.seq ?_
 refine T.region ?_
 refine TL.alloc hF rfl (fun b4=>?_)
 refine TL.alloc hF rfl (fun b5=>?_)
 refine TL.nil ?_
 refine TQ.then_n ?_
 refine T.seq ?_
 refine T.region ?_
 refine TL.makeFunc hF rfl rfl rfl ?_
 refine TL.defer hF rfl rfl ?_
 refine TL.nil ?_
 refine TQ.then_n ?_
 refine T.seq ?_
 refine T.region ?_
 refine TL.move hF rfl rfl ?_
 refine TL.bin hF rfl rfl rfl rfl ?_
 refine TL.move hF rfl rfl ?_
 refine TL.join [_,_,_] 18 (.bool (decide (0≤f) && decide (f<4))) rfl ?_ ?_
 ·refine TL.gd (t:=15) rfl (fun g2_15=>?_) (fun g2_15=>?_)
  ·refine TL.on rfl rfl rfl (decide_eq_true g2_15) ?_
   refine TL.move hF rfl rfl ?_
   refine TL.on rfl rfl rfl (decide_eq_true g2_15) ?_
   refine TL.bin hF rfl rfl rfl rfl ?_
   refine TL.pickT hF rfl (decide_eq_true g2_15) rfl rfl ?_
   refine TL.finJ ⟨?_,by repeat (first | exact trivial | refine ⟨rfl,?_⟩)⟩
   exact congrArg (fun z=>some (Value.bool z)) (by first | (rw [(decide_eq_true g2_15)]; rfl) | (rw [(decide_eq_true g2_15)]; simp; done) | (simp [*]; done))
  ·refine TL.off hF rfl rfl rfl (decide_eq_false g2_15) rfl ?_
   refine TL.off hF rfl rfl rfl (decide_eq_false g2_15) rfl ?_
   refine TL.pickF hF rfl (decide_eq_false g2_15) rfl rfl ?_
   refine TL.finJ ⟨?_,by repeat (first | exact trivial | refine ⟨rfl,?_⟩)⟩
   exact congrArg (fun z=>some (Value.bool z)) (by first | (rw [(decide_eq_false g2_15)]; rfl) | (rw [(decide_eq_false g2_15)]; simp; done) | (simp [*]; done))
 ·refine TL.callM hF (must_fn (decide (0≤f) && decide (f<4)) 1) rfl rfl (fun hm1 vm1=>?_) (fun hm1=>?_)
  ·skip
   refine TL.nil ?_
   refine TQ.then_n ?_
   refine T.seq ?_
   refine T.region ?_
   refine TL.move hF rfl rfl ?_
   refine TL.len hF rfl rfl ?_
   refine TL.bin hF rfl rfl rfl rfl ?_
   refine TL.callM hF (must_fn _ 3) rfl rfl (fun hm2 vm2=>?_) (fun hm2=>?_)
   ·skip
    refine TL.nil ?_
    refine TQ.then_n ?_
    refine T.seq ?_
    refine T.seq ?_
    refine T.region ?_
    refine TL.move hF rfl rfl ?_
    refine TL.len hF rfl rfl ?_
    refine TL.move hF rfl rfl ?_
    refine TL.nil ?_
    refine TQ.then_n ?_
    refine T.block ?_
    have hf04:0≤f∧f<4:=by simpa using hm1
    have hl300:ops.length≤300:=by have h:=of_decide_eq_true hm2; omega
    refine T.loop (ι:=Nat) (fun k=>k≤ops.length∧∀ x∈ops.take k,okOp x=true) (fun k=>[(0,.int .i64 f),(1,.slice a ops.length c),(4,ptr b4),(5,ptr b5),(24,.slice a ops.length c),(25,.int .i64 (ops.length:Int)),(26,.int .i64 (k:Int))]) (fun _=>([(b5,Obj.cells #[.int .i64 0] ERR (0,0))]::[(b4,Obj.cells #[.slice none 0 0,.int .i64 0] 45 (0,0))]::η)) (fun k=>ops.length - k) 0 ⟨Nat.zero_le _,by simp⟩ ⟨rfl,rfl,rfl,rfl,rfl,rfl,rfl,trivial⟩ rfl ?_
    rintro k ⟨hk,hall⟩
    refine T.seq ?_
    refine T.region ?_
    refine TL.bin hF rfl rfl rfl rfl ?_
    refine TL.nil ?_
    refine TQ.then_n ?_
    refine T.seq ?_
    first | refine T.cond_d rfl (fun ht27=>?_) (fun ht27=>?_) | refine T.cond _ rfl (fun ht27=>?_) (fun ht27=>?_)
    ·refine T.skip ?_
     refine TQ.then_n ?_
     refine T.seq ?_
     refine T.block ?_
     refine T.seq ?_
     refine T.region ?_
     have hkl:k<ops.length:=by have h:(k:Int)<(ops.length:Int):=ht27; omega
     refine TL.indexAddr hF rfl rfl (hx.ad (by unfold ints; rw [List.length_map]; omega)) (by omega) (by omega) rfl ?_
     refine TL.load hF rfl (ints_at (hx.up (by simp)) (n:=(k:Int)) (i:=k) (by omega) (by omega) (by omega)) rfl ?_
     refine TL.assign hF rfl rfl ?_
     refine TL.nil ?_
     refine TQ.then_n ?_
     refine T.region ?_
     refine TL.move hF rfl rfl ?_
     refine TL.callV hF (isWord_fn ops[k]) rfl rfl ?_
     refine TL.move hF rfl rfl ?_
     refine TL.join [_,_,_] 35 (.bool (okOp ops[k])) rfl ?_ ?_
     ·refine TL.gb (t:=32) rfl (fun g7_32=>?_) (fun g7_32=>?_)
      ·refine TL.off hF rfl rfl rfl g7_32 rfl ?_
       refine TL.off hF rfl rfl rfl g7_32 rfl ?_
       refine TL.pickT hF rfl g7_32 rfl rfl ?_
       refine TL.finJ ⟨?_,by repeat (first | exact trivial | refine ⟨rfl,?_⟩)⟩
       exact congrArg (fun z=>some (Value.bool z)) (by unfold okOp; rw [g7_32]; rfl)
      ·refine TL.on rfl rfl rfl g7_32 ?_
       refine TL.move hF rfl rfl ?_
       refine TL.on rfl rfl rfl g7_32 ?_
       refine TL.bin hF rfl rfl rfl rfl ?_
       refine TL.pickF hF rfl g7_32 rfl rfl ?_
       refine TL.finJ ⟨?_,by repeat (first | exact trivial | refine ⟨rfl,?_⟩)⟩
       exact congrArg (fun z=>some (Value.bool z)) (by unfold okOp; rw [g7_32]; rfl)
     ·refine TL.callM hF (must_fn (okOp ops[k]) 2) rfl rfl (fun hm3 vm3=>?_) (fun hm3=>?_)
      ·skip
       refine TL.nil ?_
       refine TQ.block_n ?_
       refine TQ.then_n ?_
       refine T.region ?_
       refine TL.add hF rfl rfl (by first | omega | (dsimp only; omega)) (by first | omega | (dsimp only; omega)) rfl ?_
       refine TL.move hF rfl rfl ?_
       refine TL.nil ?_
       refine TQ.round (k+1) ⟨by omega,fun x hx2=>?_⟩ (by omega) ⟨rfl,rfl,rfl,rfl,rfl,rfl,rfl,trivial⟩ rfl
       rw [List.take_succ_eq_append_getElem hkl] at hx2
       rcases List.mem_append.1 hx2 with h | h
       ·exact hall x h
       ·rw [List.mem_singleton.1 h]; exact hm3
      ·skip
       refine TQ.block_p ?_
       refine TQ.then_p ?_
       refine TQ.then_p ?_
       refine TQ.block_p ?_
       refine TQ.then_p ?_
       refine TQ.panLA [.slice none 0 0,.int .i64 0] stop54 (stopped_err _) rfl rfl rfl rfl (own_list (i:=1) (cs:=[.slice none 0 0,.int .i64 0]) rfl) (At.own' (i:=0) rfl rfl) ?_
       have e:queueS f ops=([],2):=by unfold queueS; rw [if_pos (by omega),if_neg (by omega),if_neg (fun h=>by have:=List.all_eq_true.1 h _ (List.getElem_mem hkl); rw [hm3] at this; cases this)]
       rw [e]
       exact ⟨none,0,0,[_,_],rfl,Row.none,⟨Int.le_refl _,by omega,.inr rfl⟩,rfl⟩
    ·refine T.exit ?_
     refine TQ.then_x ?_
     refine TQ.then_x ?_
     refine TQ.block_x ?_
     refine TQ.then_n ?_
     refine T.seq ?_
     refine T.region ?_
     have hke:ops.length≤k:=by have h:¬ (k:Int)<(ops.length:Int):=ht27; omega
     rw [List.take_of_length_le hke] at hall
     refine TL.move hF rfl rfl ?_
     refine TL.indexAddrA hF rfl rfl hf04.1 hf04.2 rfl ?_
     refine TL.loadA hF (foldC f) rfl rfl (ht.get hf04.1 hf04.2) rfl ?_
     refine TL.build hF rfl (r:=.agg #[.int .i64 (noneF f),oneV f,twoV f,.slice none 0 0,.int .i64 0,.slice none 0 0,.int .i64 0]) (fun w=>by kernel_rfl) rfl ?_
     refine TL.box hF rfl rfl (fun b42=>?_)
     refine TL.assign hF rfl rfl ?_
     refine TL.nil ?_
     refine TQ.then_n ?_
     refine T.seq ?_
     refine T.region ?_
     refine TL.alloc hF rfl (fun b9=>?_)
     refine TL.nil ?_
     refine TQ.then_n ?_
     refine T.seq ?_
     refine T.seq ?_
     refine T.region ?_
     refine TL.move hF rfl rfl ?_
     refine TL.len hF rfl rfl ?_
     refine TL.move hF rfl rfl ?_
     refine TL.nil ?_
     refine TQ.then_n ?_
     refine T.block ?_
     refine T.hnil ?_
     refine T.hnil ?_
     refine T.hnil ?_
     refine T.heap (η':=[]::[]::[]::[(b9,Obj.cells #[.slice none 0 0,.int .i64 0] 45 (0,0))]::[(b42,Obj.cells (qC f (.slice none ([]:List Int).length 0) 0 (.slice none ([]:List Int).length 0) 0) 110 (0,0))]::([(b5,Obj.cells #[.int .i64 0] ERR (0,0))]::[(b4,Obj.cells #[.slice none 0 0,.int .i64 0] 45 (0,0))]::η)) rfl ?_
     refine T.pick [3,0,1,2,4] [_,_,_,_,_] rfl rfl rfl ?_
     have hqm0:QM b42 f ⟨[],[],0,0⟩ [[],[],[(b42,Obj.cells (qC f (.slice none ([]:List Int).length 0) 0 (.slice none ([]:List Int).length 0) 0) 110 (0,0))]]:=⟨none,0,[],none,0,[],rfl,OSl.nil _ _,OSl.nil _ _⟩
     have hqk0:QOk f [] 0 ⟨[],[],0,0⟩:=⟨rfl,fun h=>absurd rfl h,⟨by decide,by decide⟩,by simp,Int.le_refl _,by simp⟩
     refine T.loop (ι:=QI) (fun z=>z.i≤ops.length∧QOk f (queAll [] (ops.take z.i)) z.i z.s∧QM b42 f z.s z.hp∧OSl 3 1 (.slice z.la z.i z.lc) z.i (ints (queWords f [] (ops.take z.i))) z.lg) (fun z=>[(4,ptr b4),(5,ptr b5),(8,ptr b42),(9,ptr b9),(43,.slice a ops.length c),(44,.int .i64 (ops.length:Int)),(45,.int .i64 (z.i:Int))]) (fun z=>[(b9,Obj.cells #[.slice z.la z.i z.lc,.int .i64 0] 45 (0,0))]::z.lg::(z.hp++([(b5,Obj.cells #[.int .i64 0] ERR (0,0))]::[(b4,Obj.cells #[.slice none 0 0,.int .i64 0] 45 (0,0))]::η))) (fun z=>ops.length - z.i) ⟨0,⟨[],[],0,0⟩,_,none,0,[]⟩ ⟨Nat.zero_le _,hqk0,hqm0,OSl.nil _ _⟩ ⟨rfl,rfl,rfl,rfl,rfl,rfl,rfl,trivial⟩ rfl ?_
     clear hqm0 hqk0
     rintro ⟨i,s,hp,la,lc,lg⟩ ⟨hi,hqk,hqm,hlo⟩
     dsimp only at hi hqk hqm hlo
     have hql:=queAll_len (ops.take i) []
     rw [List.length_take,List.length_nil] at hql
     have hqs:s.qa.length+s.qb.length=(queAll [] (ops.take i)).length:=by rw [← hqk.all,List.length_append]
     have hjn:=hqk.jn
     have hj0:=hqk.j0
     have hwb:∀ w∈s.qb,Wd w:=fun w hw=>hqk.words w (by rw [← hqk.all]; simp [hw])
     refine T.seq ?_
     refine T.region ?_
     refine TL.bin hF rfl rfl rfl rfl ?_
     refine TL.nil ?_
     refine TQ.then_n ?_
     refine T.seq ?_
     first | refine T.cond_d rfl (fun ht46=>?_) (fun ht46=>?_) | refine T.cond _ rfl (fun ht46=>?_) (fun ht46=>?_)
     ·refine T.skip ?_
      refine TQ.then_n ?_
      refine T.seq ?_
      refine T.block ?_
      refine T.seq ?_
      refine T.region ?_
      have hil:i<ops.length:=by have h:(i:Int)<(ops.length:Int):=ht46; omega
      have htk:ops.take (i+1)=ops.take i++[ops[i]]:=List.take_succ_eq_append_getElem hil
      refine TL.indexAddr hF rfl rfl (hx.ad (by unfold ints; rw [List.length_map]; omega)) (by omega) (by omega) rfl ?_
      refine TL.load hF rfl (ints_at (hx.up (by simp)) (n:=(i:Int)) (i:=i) (by omega) (by omega) (by omega)) rfl ?_
      refine TL.assign hF rfl rfl ?_
      refine TL.nil ?_
      refine TQ.then_n ?_
      refine T.seq ?_
      refine T.seq ?_
      refine T.region ?_
      refine TL.move hF rfl rfl ?_
      refine TL.bin hF rfl rfl rfl rfl ?_
      refine TL.nil ?_
      refine TQ.then_n ?_
      refine T.cond_d rfl (fun ht50=>?_) (fun ht50=>?_)
      ·refine T.region ?_
       refine TL.move hF rfl rfl ?_
       refine TL.hperm (hp++([(b9,Obj.cells #[.slice la i lc,.int .i64 0] 45 (0,0))]::lg::([(b5,Obj.cells #[.int .i64 0] ERR (0,0))]::[(b4,Obj.cells #[.slice none 0 0,.int .i64 0] 45 (0,0))]::η))) (perm_cnt fun f=>by simp only [List.map_append,List.map_cons,List.sum_append,List.sum_cons]; try omega) ?_
       refine TL.call hF (off_fn hqm hwb (by omega) (by omega) (by omega)) rfl rfl ?_
       rintro _ _ ⟨qa2,qb2,jo2,hp2,ho1,ho2,ho3,ho4,hqm2',rfl⟩
       obtain ⟨hqk2,hbd2⟩:=hqk.off2 ho1 ho2 ho3 ho4
       obtain ⟨s2,hs2⟩:∃ s2:QuS,s2=⟨qa2,qb2,s.made,jo2⟩:=⟨_,rfl⟩
       have hqm2:QM b42 f s2 hp2:=by rw [hs2]; exact hqm2'
       rw [← hs2] at hqk2
       replace hbd2:s2.joins+s2.qb.length≤3*i+2:=by rw [hs2]; exact hbd2
       have hnx:(queAll [] (ops.take i)).drop 1=queAll [] (ops.take (i+1)):=by rw [htk,queAll_snoc]; unfold queS; rw [if_pos ht50]
       rw [hnx] at hqk2
       clear hqm2' hs2 ho1 ho2 ho3 ho4
       refine TL.nil ?_
       refine TQ.then_n ?_
       have hql2:=queAll_len (ops.take (i+1)) []
       rw [List.length_take,List.length_nil] at hql2
       have hqs2:s2.qa.length+s2.qb.length=(queAll [] (ops.take (i+1))).length:=by rw [← hqk2.all,List.length_append]
       have hj2:=hqk2.j0
       refine T.drawH 5 mixed ?_
       refine DH.pure (i:=0) [(9,_,none)] rfl rfl rfl rfl ⟨⟨rfl,by kernel_rfl⟩,trivial⟩ (fun _ ext=>TL.fieldAddr hF rfl rfl TL.fin) ?_
       refine DH.read (i:=1) [(56,_,some 0)] rfl rfl rfl rfl ⟨⟨rfl,rfl,rfl⟩,trivial⟩ (fun ext=>TL.load hF rfl (own_mem (b:=b9) (cs:=#[.slice la i lc,.int .i64 0]) (e:=45) (fz:=(0,0)) (by simp) rfl) rfl TL.fin) ?_
       refine DH.pure (i:=2) [(8,_,none)] rfl rfl rfl rfl ⟨⟨rfl,by kernel_rfl⟩,trivial⟩ (fun _ ext=>TL.move hF rfl rfl TL.fin) ?_
       refine DH.k1 (by kernel_rfl) (by kernel_rfl) (by kernel_rfl) (by kernel_rfl) (HBK.mk (h:=3) [1] [(58,_,some 2)] rfl rfl rfl ⟨⟨rfl,rfl,rfl⟩,trivial⟩ (by kernel_rfl) (fun ext=>?_))
       refine TL.call hF (all_fn hqm2 (wd_ahead fun w hw=>hqk2.words w (by rw [← hqk2.all]; simp [hw])) hqk2.wm (by omega) (by rw [List.length_map]; omega) (by rw [ahead_len]; omega)) rfl rfl ?_
       rintro _ _ ⟨rfl,hp3,hqm3,rfl⟩
       rw [allW_eq hqk2]
       refine TL.finK ⟨⟨_,rfl,_,_,[(56,_,some 0)],rfl,rfl,⟨⟨rfl,rfl,rfl⟩,trivial⟩,fun ext=>TL.load hF rfl (own_mem (b:=b9) (cs:=#[.slice la i lc,.int .i64 0]) (e:=45) (fz:=(0,0)) (by simp) rfl) rfl TL.fin⟩,trivial⟩ ?_
       refine DH.k1 (by kernel_rfl) (by kernel_rfl) (by kernel_rfl) (by kernel_rfl) (HBK.mk (h:=4) [1] [(59,_,some 3)] rfl rfl rfl ⟨⟨rfl,rfl,rfl⟩,trivial⟩ (by kernel_rfl) (fun ext=>?_))
       refine TL.buildSlice hF rfl (cs:=#[.int .i64 (foldS f (queAll [] (ops.take (i+1))))]) (e:=3) (fun w=>by kernel_rfl) rfl (fun bq=>?_)
       refine TL.finK ⟨⟨_,rfl,_,_,[(56,_,some 0)],rfl,rfl,⟨⟨rfl,rfl,rfl⟩,trivial⟩,fun ext=>TL.load hF rfl (own_mem (b:=b9) (cs:=#[.slice la i lc,.int .i64 0]) (e:=45) (fz:=(0,0)) (by simp) rfl) rfl TL.fin⟩,trivial⟩ ?_
       refine DH.done [(60,_),(59,_),(58,_),(57,_),(56,_)] [_,_,_] (by kernel_rfl) (by kernel_rfl) (by kernel_rfl) (by kernel_rfl) rfl rfl ?_
       refine TL.hperm ([(bq,Obj.cells #[.int .i64 (foldS f (queAll [] (ops.take (i+1))))] 3 (0,0))]::lg::([(b9,Obj.cells #[.slice la i lc,.int .i64 0] 45 (0,0))]::(hp3++([(b5,Obj.cells #[.int .i64 0] ERR (0,0))]::[(b4,Obj.cells #[.slice none 0 0,.int .i64 0] 45 (0,0))]::η)))) (perm_cnt fun f=>by simp only [List.map_append,List.map_cons,List.sum_append,List.sum_cons]; try omega) ?_
       refine TL.append hF 1 rfl rfl rfl hlo (row_own (cs:=[.int .i64 (foldS f (queAll [] (ops.take (i+1))))]) (e:=3) (b:=bq) (by simp)).src rfl rfl (by simp [Value.oneCell']) (by omega) (by omega) rfl (fun pa pc pg ph=>?_)
       have ew:ints (queWords f [] (ops.take i))++[.int .i64 (foldS f (queAll [] (ops.take (i+1))))]=ints (queWords f [] (ops.take (i+1))):=by
        rw [htk,queWords_snoc,← queAll_snoc]; simp [ints]
       rw [ew] at ph
       refine TL.fieldAddr hF rfl rfl ?_
       refine TL.storeI hF 2 rfl rfl rfl rfl (by simp) ?_
       refine TL.nil ?_
       refine TQ.block_n ?_
       refine TQ.then_n ?_
       refine T.region ?_
       refine TL.add hF rfl rfl (by first | omega | (dsimp only; omega)) (by first | omega | (dsimp only; omega)) rfl ?_
       refine TL.move hF rfl rfl ?_
       refine TL.nil ?_
       refine TQ.heap (η':=[(bq,Obj.cells #[.int .i64 (foldS f (queAll [] (ops.take (i+1))))] 3 (0,0))]::pg::([(b9,Obj.cells #[.slice pa (i+1) pc,.int .i64 0] 45 (0,0))]::(hp3++([(b5,Obj.cells #[.int .i64 0] ERR (0,0))]::[(b4,Obj.cells #[.slice none 0 0,.int .i64 0] 45 (0,0))]::η)))) rfl ?_
       refine TQ.hperm ([(bq,Obj.cells #[.int .i64 (foldS f (queAll [] (ops.take (i+1))))] 3 (0,0))]::[(b9,Obj.cells #[.slice pa (i+1) pc,.int .i64 0] 45 (0,0))]::pg::(hp3++([(b5,Obj.cells #[.int .i64 0] ERR (0,0))]::[(b4,Obj.cells #[.slice none 0 0,.int .i64 0] 45 (0,0))]::η))) (perm_cnt fun f=>by simp only [List.map_append,List.map_cons,List.sum_append,List.sum_cons]; try omega) ?_
       refine TQ.pop ?_
       exact TQ.round ⟨i+1,⟨s2.qa,s2.qb,s2.made,if 0<(aheadS f s2.qa).length∧0<(s2.qb.map (oneF f)).length then s2.joins+1 else s2.joins⟩,hp3,pa,pc,pg⟩ ⟨by dsimp only; omega,hqk2.joined hbd2 _,hqm3,ph⟩ (by dsimp only; omega) ⟨rfl,rfl,rfl,rfl,rfl,rfl,rfl,trivial⟩ rfl
      ·refine T.region ?_
       refine TL.move hF rfl rfl ?_
       refine TL.move hF rfl rfl ?_
       refine TL.hperm (hp++([(b9,Obj.cells #[.slice la i lc,.int .i64 0] 45 (0,0))]::lg::([(b5,Obj.cells #[.int .i64 0] ERR (0,0))]::[(b4,Obj.cells #[.slice none 0 0,.int .i64 0] 45 (0,0))]::η))) (perm_cnt fun f=>by simp only [List.map_append,List.map_cons,List.sum_append,List.sum_cons]; try omega) ?_
       have hwn:Wd ops[i]:=by
        have h:=hall _ (List.getElem_mem hil)
        unfold okOp at h
        rw [decide_eq_false ht50,Bool.or_false] at h
        exact isW_iff.1 h
       refine TL.call hF (put_fn hqm hwn hqk.wm (by omega) (by rw [List.length_map]; omega)) rfl rfl ?_
       rintro _ _ ⟨hp2,hqm2',rfl⟩
       obtain ⟨hqk2,hbd2⟩:=hqk.put2 hwn
       have hmn:(s.qb.map (oneF f)=[])=(s.qb=[]):=by simp
       simp only [hmn] at hqm2'
       obtain ⟨s2,hs2⟩:∃ s2:QuS,s2=⟨s.qa,s.qb++[ops[i]],if s.qb=[] then oneF f ops[i] else twoF f s.made (oneF f ops[i]),if s.qb=[] then s.joins else s.joins+1⟩:=⟨_,rfl⟩
       have hqm2:QM b42 f s2 hp2:=by rw [hs2]; unfold QM; dsimp only; rw [List.map_append]; exact hqm2'
       rw [← hs2] at hqk2
       replace hbd2:s2.joins+s2.qb.length≤3*i+2:=by rw [hs2]; exact hbd2
       have hnx:queAll [] (ops.take i)++[ops[i]]=queAll [] (ops.take (i+1)):=by rw [htk,queAll_snoc]; unfold queS; rw [if_neg ht50]
       rw [hnx] at hqk2
       clear hqm2' hs2
       refine TL.nil ?_
       refine TQ.then_n ?_
       have hql2:=queAll_len (ops.take (i+1)) []
       rw [List.length_take,List.length_nil] at hql2
       have hqs2:s2.qa.length+s2.qb.length=(queAll [] (ops.take (i+1))).length:=by rw [← hqk2.all,List.length_append]
       have hj2:=hqk2.j0
       refine T.drawH 5 mixed ?_
       refine DH.pure (i:=0) [(9,_,none)] rfl rfl rfl rfl ⟨⟨rfl,by kernel_rfl⟩,trivial⟩ (fun _ ext=>TL.fieldAddr hF rfl rfl TL.fin) ?_
       refine DH.read (i:=1) [(56,_,some 0)] rfl rfl rfl rfl ⟨⟨rfl,rfl,rfl⟩,trivial⟩ (fun ext=>TL.load hF rfl (own_mem (b:=b9) (cs:=#[.slice la i lc,.int .i64 0]) (e:=45) (fz:=(0,0)) (by simp) rfl) rfl TL.fin) ?_
       refine DH.pure (i:=2) [(8,_,none)] rfl rfl rfl rfl ⟨⟨rfl,by kernel_rfl⟩,trivial⟩ (fun _ ext=>TL.move hF rfl rfl TL.fin) ?_
       refine DH.k1 (by kernel_rfl) (by kernel_rfl) (by kernel_rfl) (by kernel_rfl) (HBK.mk (h:=3) [1] [(58,_,some 2)] rfl rfl rfl ⟨⟨rfl,rfl,rfl⟩,trivial⟩ (by kernel_rfl) (fun ext=>?_))
       refine TL.call hF (all_fn hqm2 (wd_ahead fun w hw=>hqk2.words w (by rw [← hqk2.all]; simp [hw])) hqk2.wm (by omega) (by rw [List.length_map]; omega) (by rw [ahead_len]; omega)) rfl rfl ?_
       rintro _ _ ⟨rfl,hp3,hqm3,rfl⟩
       rw [allW_eq hqk2]
       refine TL.finK ⟨⟨_,rfl,_,_,[(56,_,some 0)],rfl,rfl,⟨⟨rfl,rfl,rfl⟩,trivial⟩,fun ext=>TL.load hF rfl (own_mem (b:=b9) (cs:=#[.slice la i lc,.int .i64 0]) (e:=45) (fz:=(0,0)) (by simp) rfl) rfl TL.fin⟩,trivial⟩ ?_
       refine DH.k1 (by kernel_rfl) (by kernel_rfl) (by kernel_rfl) (by kernel_rfl) (HBK.mk (h:=4) [1] [(59,_,some 3)] rfl rfl rfl ⟨⟨rfl,rfl,rfl⟩,trivial⟩ (by kernel_rfl) (fun ext=>?_))
       refine TL.buildSlice hF rfl (cs:=#[.int .i64 (foldS f (queAll [] (ops.take (i+1))))]) (e:=3) (fun w=>by kernel_rfl) rfl (fun bq=>?_)
       refine TL.finK ⟨⟨_,rfl,_,_,[(56,_,some 0)],rfl,rfl,⟨⟨rfl,rfl,rfl⟩,trivial⟩,fun ext=>TL.load hF rfl (own_mem (b:=b9) (cs:=#[.slice la i lc,.int .i64 0]) (e:=45) (fz:=(0,0)) (by simp) rfl) rfl TL.fin⟩,trivial⟩ ?_
       refine DH.done [(60,_),(59,_),(58,_),(57,_),(56,_)] [_,_,_] (by kernel_rfl) (by kernel_rfl) (by kernel_rfl) (by kernel_rfl) rfl rfl ?_
       refine TL.hperm ([(bq,Obj.cells #[.int .i64 (foldS f (queAll [] (ops.take (i+1))))] 3 (0,0))]::lg::([(b9,Obj.cells #[.slice la i lc,.int .i64 0] 45 (0,0))]::(hp3++([(b5,Obj.cells #[.int .i64 0] ERR (0,0))]::[(b4,Obj.cells #[.slice none 0 0,.int .i64 0] 45 (0,0))]::η)))) (perm_cnt fun f=>by simp only [List.map_append,List.map_cons,List.sum_append,List.sum_cons]; try omega) ?_
       refine TL.append hF 1 rfl rfl rfl hlo (row_own (cs:=[.int .i64 (foldS f (queAll [] (ops.take (i+1))))]) (e:=3) (b:=bq) (by simp)).src rfl rfl (by simp [Value.oneCell']) (by omega) (by omega) rfl (fun pa pc pg ph=>?_)
       have ew:ints (queWords f [] (ops.take i))++[.int .i64 (foldS f (queAll [] (ops.take (i+1))))]=ints (queWords f [] (ops.take (i+1))):=by
        rw [htk,queWords_snoc,← queAll_snoc]; simp [ints]
       rw [ew] at ph
       refine TL.fieldAddr hF rfl rfl ?_
       refine TL.storeI hF 2 rfl rfl rfl rfl (by simp) ?_
       refine TL.nil ?_
       refine TQ.block_n ?_
       refine TQ.then_n ?_
       refine T.region ?_
       refine TL.add hF rfl rfl (by first | omega | (dsimp only; omega)) (by first | omega | (dsimp only; omega)) rfl ?_
       refine TL.move hF rfl rfl ?_
       refine TL.nil ?_
       refine TQ.heap (η':=[(bq,Obj.cells #[.int .i64 (foldS f (queAll [] (ops.take (i+1))))] 3 (0,0))]::pg::([(b9,Obj.cells #[.slice pa (i+1) pc,.int .i64 0] 45 (0,0))]::(hp3++([(b5,Obj.cells #[.int .i64 0] ERR (0,0))]::[(b4,Obj.cells #[.slice none 0 0,.int .i64 0] 45 (0,0))]::η)))) rfl ?_
       refine TQ.hperm ([(bq,Obj.cells #[.int .i64 (foldS f (queAll [] (ops.take (i+1))))] 3 (0,0))]::[(b9,Obj.cells #[.slice pa (i+1) pc,.int .i64 0] 45 (0,0))]::pg::(hp3++([(b5,Obj.cells #[.int .i64 0] ERR (0,0))]::[(b4,Obj.cells #[.slice none 0 0,.int .i64 0] 45 (0,0))]::η))) (perm_cnt fun f=>by simp only [List.map_append,List.map_cons,List.sum_append,List.sum_cons]; try omega) ?_
       refine TQ.pop ?_
       exact TQ.round ⟨i+1,⟨s2.qa,s2.qb,s2.made,if 0<(aheadS f s2.qa).length∧0<(s2.qb.map (oneF f)).length then s2.joins+1 else s2.joins⟩,hp3,pa,pc,pg⟩ ⟨by dsimp only; omega,hqk2.joined hbd2 _,hqm3,ph⟩ (by dsimp only; omega) ⟨rfl,rfl,rfl,rfl,rfl,rfl,rfl,trivial⟩ rfl
     ·refine T.exit ?_
      refine TQ.then_x ?_
      refine TQ.then_x ?_
      refine TQ.block_x ?_
      refine TQ.then_n ?_
      refine T.seq ?_
      refine T.region ?_
      have hie:i=ops.length:=by have h:¬ (i:Int)<(ops.length:Int):=ht46; omega
      subst hie
      rw [List.take_length] at hlo
      obtain ⟨ba,bc,bg,aa,ac,ag,rfl,hob,hoa⟩:=hqm
      refine TL.heap (η':=[(b9,Obj.cells #[.slice la ops.length lc,.int .i64 0] 45 (0,0))]::lg::bg::ag::[(b42,Obj.cells (qC f (.slice ba (s.qb.map (oneF f)).length bc) s.made (.slice aa (aheadS f s.qa).length ac) s.joins) 110 (0,0))]::([(b5,Obj.cells #[.int .i64 0] ERR (0,0))]::[(b4,Obj.cells #[.slice none 0 0,.int .i64 0] 45 (0,0))]::η)) rfl ?_
      refine TL.move hF rfl rfl ?_
      refine TL.nilCheck hF rfl rfl ?_
      refine TL.fieldAddr hF rfl rfl ?_
      refine TL.load hF rfl (own_mem (cs:=(qC f (.slice ba (s.qb.map (oneF f)).length bc) s.made (.slice aa (aheadS f s.qa).length ac) s.joins)) (e:=110) (fz:=(0,0)) (by simp) rfl) rfl ?_
      refine TL.fieldAddr hF rfl rfl ?_
      refine TL.storeI hF 0 rfl rfl rfl rfl (by simp) ?_
      refine TL.nil ?_
      refine TQ.then_n ?_
      refine T.seq ?_
      refine T.region ?_
      refine TL.loadA hF [.slice la ops.length lc,.int .i64 s.joins] rfl rfl (own_list (i:=0) (cs:=[.slice la ops.length lc,.int .i64 s.joins]) rfl) rfl ?_
      refine TL.storeAs hF [.slice la ops.length lc,.int .i64 s.joins] [.slice la ops.length lc,.int .i64 s.joins] 6 (cs:=[.slice none 0 0,.int .i64 0]) rfl rfl rfl rfl (by simp [Value.oneCell']) (Nat.le_refl 2) rfl ?_
      refine TL.storeI hF 5 rfl rfl rfl rfl (by decide) ?_
      refine TL.nil ?_
      refine TQ.then_n ?_
      refine T.ret ?_
      refine TQ.retLA [.slice la ops.length lc,.int .i64 s.joins] stop54 (stopped_nil _) rfl rfl rfl rfl (own_list (i:=6) (cs:=[.slice la ops.length lc,.int .i64 s.joins]) rfl) (At.own' (i:=5) rfl rfl) ?_
      have e:queueS f ops=(queWords f [] ops,0):=by unfold queueS; rw [if_pos (by omega),if_neg (by omega),if_pos (List.all_eq_true.2 hall)]
      rw [e]
      exact ⟨la,lc,s.joins,[_,lg,bg,ag,_,_,_],by rw [queWords_len]; rfl,hlo.row (by simp),⟨hj0,by omega,.inl rfl⟩,rfl⟩
   ·skip
    refine TQ.then_p ?_
    refine TQ.panLA [.slice none 0 0,.int .i64 0] stop54 (stopped_err _) rfl rfl rfl rfl (own_list (i:=1) (cs:=[.slice none 0 0,.int .i64 0]) rfl) (At.own' (i:=0) rfl rfl) ?_
    have e:queueS f ops=([],3):=by 
     have hf04:0≤f∧f<4:=by simpa using hm1
     have h:=of_decide_eq_false hm2
     unfold queueS; rw [if_pos (by omega),if_pos (by omega)]
    rw [e]
    exact ⟨none,0,0,[_,_],rfl,Row.none,⟨Int.le_refl _,by omega,.inr rfl⟩,rfl⟩
  ·skip
   refine TQ.then_p ?_
   refine TQ.panLA [.slice none 0 0,.int .i64 0] stop54 (stopped_err _) rfl rfl rfl rfl (own_list (i:=1) (cs:=[.slice none 0 0,.int .i64 0]) rfl) (At.own' (i:=0) rfl rfl) ?_
   have e:queueS f ops=([],1):=by 
    have h:¬ (0≤f∧f<4):=by simpa using hm1
    unfold queueS; rw [if_neg (by omega)]
   rw [e]
   exact ⟨none,0,0,[_,_],rfl,Row.none,⟨Int.le_refl _,by omega,.inr rfl⟩,rfl⟩
end Go.Proofs.YtbajelldegijkaaDoor
