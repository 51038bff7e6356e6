/- Play answers as the chapter says, for every input. No condition. -/
import Derived.Test.YtdiacobmhkmljaaGreatDoorUg
import Derived.Test.YtdiacobmhkmljaaGreatDoorUh
import Derived.Test.YtdiacobmhkmljaaGreatDoorCards
import Derived.Test.YtdiacobmhkmljaaGreatDoorTie
/- The laws of runs, and of distances. -/
namespace Go.Proofs.YtdiacobmhkmljaaGreatDoor
open Go.Sl
variable {S:Nat→Prop} {w0:World} {η:Heap}
set_option maxHeartbeats 4000000 in
theorem TraceRuns_fn {fa ca : Option Addr} {fl : List TE} {fc cc : Nat} {cells : List Int} {top : Key} (hT : Tabs S w0) (hf : Fs S w0 [] fa fl) (hfl : fl.length < 9223372036854775808) (hc : Row S w0 [] ca (ints cells)) (hcl : cells.length < 9223372036854775808) :
  Rt Tryz.prog 3 [.slice fa fl.length fc,.slice ca cells.length cc,kV top].toArray S w0 η (fun v _=>v = .bool true):=by
 have hF:=open_wide
 refine Rt.of (fn:=Tryz.f3) Tryz.func3 rfl rfl ?_
 refine T.seq ?_
 refine T.region ?_
 refine TL.box hF rfl rfl (fun b5=>?_)
 refine TL.assign hF rfl rfl ?_
 refine TL.nil ?_
 refine TQ.then_n ?_
 refine T.seq ?_
 refine T.seq ?_
 refine T.region ?_
 refine TL.heap (η':=[(b5,Obj.cells (kC top).toArray 25 (0,0))]::η) rfl ?_
 refine TL.fieldAddr hF rfl rfl ?_
 refine TL.load hF rfl (own_mem (b:=b5) (cs:=(kC top).toArray) (e:=25) (fz:=(0,0)) (by simp) rfl) rfl ?_
 refine TL.callV hF (Lies_fn top.2 31 200) rfl rfl ?_
 refine TL.nil ?_
 refine TQ.then_n ?_
 refine T.cond _ rfl (fun ht17=>?_) (fun ht17=>?_)
 ·refine T.seq ?_
  refine T.region ?_
  refine TL.call hF (traced_law hT) rfl rfl ?_
  rintro _ _ rfl
  refine TL.assign hF rfl rfl ?_
  refine TL.nil ?_
  refine TQ.then_n ?_
  refine T.ret ?_
  refine TQ.then_r ?_
  refine TQ.rets [6] _ rfl rfl rfl rfl
 ·refine T.skip ?_
  refine TQ.then_n ?_
  refine T.seq ?_
  refine T.region ?_
  refine TL.move hF rfl rfl ?_
  refine TL.move hF rfl rfl ?_
  refine TL.loadA hF (kC top) rfl rfl (own_listM (b:=b5) (cs:=kC top) (e:=25) (fz:=(0,0)) (by simp)) rfl ?_
  refine TL.call hF (Run_fn (cc:=cc) (fc:=fc) hT hf hfl hc hcl) rfl rfl ?_
  rintro _ _ ⟨a1,c1,l1,s1,rfl,hn1,hl1,hp1,rfl⟩
  refine TL.move hF rfl rfl ?_
  refine TL.extract hF rfl rfl rfl ?_
  refine TL.extract hF rfl rfl rfl ?_
  refine TL.assign hF rfl rfl ?_
  refine TL.assign hF rfl rfl ?_
  refine TL.nil ?_
  refine TQ.then_n ?_
  refine T.seq ?_
  refine T.region ?_
  refine TL.move hF rfl rfl ?_
  refine TL.move hF rfl rfl ?_
  refine TL.loadA hF (kC top) rfl rfl (own_listM (b:=b5) (cs:=kC top) (e:=25) (fz:=(0,0)) (by simp)) rfl ?_
  refine TL.call hF (RunR_fn (cc:=cc) (fc:=fc) hf hfl hc hcl) rfl rfl ?_
  rintro _ _ ⟨a2,c2,l2,s2,rfl,hn2,hl2,hp2,rfl⟩
  refine TL.move hF rfl rfl ?_
  refine TL.extract hF rfl rfl rfl ?_
  refine TL.extract hF rfl rfl rfl ?_
  refine TL.assign hF rfl rfl ?_
  refine TL.assign hF rfl rfl ?_
  refine TL.nil ?_
  refine TQ.then_n ?_
  refine T.seq ?_
  refine T.region ?_
  refine TL.move hF rfl rfl ?_
  refine TL.move hF rfl rfl ?_
  refine TL.loadA hF (kC top) rfl rfl (own_listM (b:=b5) (cs:=kC top) (e:=25) (fz:=(0,0)) (by simp)) rfl ?_
  refine TL.call hF (Needs_fn (cc:=cc) (fc:=fc) hT hf hfl hc hcl) rfl rfl ?_
  rintro _ _ ⟨a3,c3,s3,rfl,hl3,rfl⟩
  refine TL.move hF rfl rfl ?_
  refine TL.extract hF rfl rfl rfl ?_
  refine TL.extract hF rfl rfl rfl ?_
  refine TL.assign hF rfl rfl ?_
  refine TL.assign hF rfl rfl ?_
  refine TL.nil ?_
  refine TQ.then_n ?_
  refine T.seq ?_
  refine T.region ?_
  refine TL.move hF rfl rfl ?_
  refine TL.move hF rfl rfl ?_
  refine TL.loadA hF (kC top) rfl rfl (own_listM (b:=b5) (cs:=kC top) (e:=25) (fz:=(0,0)) (by simp)) rfl ?_
  refine TL.call hF (NeedsR_fn (cc:=cc) (fc:=fc) hf hfl hc hcl) rfl rfl ?_
  rintro _ _ ⟨a4,c4,s4,rfl,hl4,rfl⟩
  have hll:l1.length<9223372036854775808:=by
   rw [← nds_len,hn1]
   unfold runE
   split
   ·rename_i h
    obtain ⟨hsc,hk⟩:=scn_of h
    have:=trace_len hsc hk
    show (traceS _ _ _).length<_
    omega
   ·simp
  have hnl:(needsS (fl.map TE.ex) cells top).1.length<9223372036854775808:=by
   unfold needsS
   split
   ·rename_i h
    obtain ⟨hsc,hk⟩:=scn_of h
    have:=(ris_len (l:=cellsOf (traceS (fl.map TE.ex) cells top)) (fun x hx=>by
     obtain ⟨y,hy,d,hd,h1,rfl⟩:=mem_cellsOf.1 hx
     exact tra_rng hsc hk y hy d hd h1)).1
    show ((cellsOf (traceS (fl.map TE.ex) cells top)).foldl risI []).length<_
    omega
   ·simp
  refine TL.move hF rfl rfl ?_
  refine TL.extract hF rfl rfl rfl ?_
  refine TL.extract hF rfl rfl rfl ?_
  refine TL.assign hF rfl rfl ?_
  refine TL.assign hF rfl rfl ?_
  refine TL.nil ?_
  refine TQ.then_n ?_
  refine T.seq ?_
  refine T.region ?_
  refine TL.move hF rfl rfl ?_
  refine TL.callV hF (Check_fn hT hf hfl) rfl rfl ?_
  refine TL.move hF rfl rfl ?_
  refine TL.callV hF (CheckR_fn hf hfl) rfl rfl ?_
  refine TL.bin hF rfl rfl rfl rfl ?_
  refine TL.move hF rfl rfl ?_
  refine TL.on rfl rfl rfl (decide_eq_true rfl) ?_
  refine TL.move hF rfl rfl ?_
  refine TL.on rfl rfl rfl (decide_eq_true rfl) ?_
  refine TL.move hF rfl rfl ?_
  refine TL.on rfl rfl rfl (decide_eq_true rfl) ?_
  refine TL.callV hF (nodesL_fn (hl1.up (by intro s hs; simp [hs])) (hl2.up (by intro s hs; simp [hs])) hll) rfl rfl ?_
  refine TL.pickT hF rfl (decide_eq_true rfl) rfl rfl ?_
  refine TL.move hF rfl rfl ?_
  refine TL.on rfl rfl rfl (decide_eq_true (hn1.trans hn2.symm)) ?_
  refine TL.move hF rfl rfl ?_
  refine TL.on rfl rfl rfl (decide_eq_true (hn1.trans hn2.symm)) ?_
  refine TL.move hF rfl rfl ?_
  refine TL.on rfl rfl rfl (decide_eq_true (hn1.trans hn2.symm)) ?_
  refine TL.bin hF rfl rfl rfl rfl ?_
  refine TL.pickT hF rfl (decide_eq_true (hn1.trans hn2.symm)) rfl rfl ?_
  refine TL.move hF rfl rfl ?_
  refine TL.on rfl rfl rfl (decide_eq_true rfl) ?_
  refine TL.move hF rfl rfl ?_
  refine TL.on rfl rfl rfl (decide_eq_true rfl) ?_
  refine TL.move hF rfl rfl ?_
  refine TL.on rfl rfl rfl (decide_eq_true rfl) ?_
  refine TL.callV hF (Equal_fn (hl3.up (by intro s hs; simp [hs])) (hl4.up (by intro s hs; simp [hs])) hnl) rfl rfl ?_
  refine TL.pickT hF rfl (decide_eq_true rfl) rfl rfl ?_
  refine TL.move hF rfl rfl ?_
  refine TL.on rfl rfl rfl (decide_eq_true rfl) ?_
  refine TL.move hF rfl rfl ?_
  refine TL.on rfl rfl rfl (decide_eq_true rfl) ?_
  refine TL.move hF rfl rfl ?_
  refine TL.on rfl rfl rfl (decide_eq_true rfl) ?_
  refine TL.bin hF rfl rfl rfl rfl ?_
  refine TL.pickT hF rfl (decide_eq_true rfl) rfl rfl ?_
  refine TL.move hF rfl rfl ?_
  refine TL.on rfl rfl rfl (decide_eq_true rfl) ?_
  refine TL.call hF (traced_law hT) rfl rfl ?_
  rintro _ _ rfl
  refine TL.pickT hF rfl (decide_eq_true rfl) rfl rfl ?_
  refine TL.assign hF rfl rfl ?_
  refine TL.nil ?_
  refine TQ.then_n ?_
  refine T.ret ?_
  refine TQ.rets [6] _ rfl rfl rfl rfl
set_option maxHeartbeats 4000000 in
theorem TraceApart_fn {fa ca da : Option Addr} {fl : List TE} {fc cc dc : Nat} {cells others : List Int} {top : Key} (hT : Tabs S w0) (hf : Fs S w0 [] fa fl) (hfl : fl.length < 9223372036854775808) (hc : Row S w0 [] ca (ints cells)) (hcl : cells.length < 9223372036854775808) (hd : Row S w0 [] da (ints others)) (hdl : others.length < 9223372036854775808) :
  Rt Tryz.prog 5 [.slice fa fl.length fc,.slice ca cells.length cc,.slice da others.length dc,kV top].toArray S w0 η (fun v _=>v = .bool true):=by
 have hF:=open_wide
 refine Rt.of (fn:=Tryz.f5) Tryz.func5 rfl rfl ?_
 refine T.seq ?_
 refine T.region ?_
 refine TL.box hF rfl rfl (fun b7=>?_)
 refine TL.assign hF rfl rfl ?_
 refine TL.nil ?_
 refine TQ.then_n ?_
 refine T.seq ?_
 refine T.seq ?_
 refine T.region ?_
 refine TL.heap (η':=[(b7,Obj.cells (kC top).toArray 25 (0,0))]::η) rfl ?_
 refine TL.fieldAddr hF rfl rfl ?_
 refine TL.load hF rfl (own_mem (b:=b7) (cs:=(kC top).toArray) (e:=25) (fz:=(0,0)) (by simp) rfl) rfl ?_
 refine TL.callV hF (Lies_fn top.2 31 200) rfl rfl ?_
 refine TL.nil ?_
 refine TQ.then_n ?_
 refine T.cond _ rfl (fun ht15=>?_) (fun ht15=>?_)
 ·refine T.seq ?_
  refine T.region ?_
  refine TL.call hF (traced_law hT) rfl rfl ?_
  rintro _ _ rfl
  refine TL.assign hF rfl rfl ?_
  refine TL.nil ?_
  refine TQ.then_n ?_
  refine T.ret ?_
  refine TQ.then_r ?_
  refine TQ.rets [8] _ rfl rfl rfl rfl
 ·refine T.skip ?_
  refine TQ.then_n ?_
  refine T.seq ?_
  refine T.region ?_
  refine TL.move hF rfl rfl ?_
  refine TL.move hF rfl rfl ?_
  refine TL.move hF rfl rfl ?_
  refine TL.loadA hF (kC top) rfl rfl (own_listM (b:=b7) (cs:=kC top) (e:=25) (fz:=(0,0)) (by simp)) rfl ?_
  refine TL.call hF (Distance_fn (cc:=cc) (fc:=fc) (dc:=dc) hT hf hfl hc hcl hd hdl) rfl rfl ?_
  rintro _ _ ⟨rfl,rfl⟩
  refine TL.move hF rfl rfl ?_
  refine TL.extract hF rfl rfl rfl ?_
  refine TL.extract hF rfl rfl rfl ?_
  refine TL.assign hF rfl rfl ?_
  refine TL.assign hF rfl rfl ?_
  refine TL.nil ?_
  refine TQ.then_n ?_
  refine T.seq ?_
  refine T.region ?_
  refine TL.move hF rfl rfl ?_
  refine TL.move hF rfl rfl ?_
  refine TL.move hF rfl rfl ?_
  refine TL.loadA hF (kC top) rfl rfl (own_listM (b:=b7) (cs:=kC top) (e:=25) (fz:=(0,0)) (by simp)) rfl ?_
  refine TL.call hF (DistanceR_fn (cc:=cc) (fc:=fc) (dc:=dc) hf hfl hc hcl hd hdl) rfl rfl ?_
  rintro _ _ ⟨s1,rfl,rfl⟩
  refine TL.move hF rfl rfl ?_
  refine TL.extract hF rfl rfl rfl ?_
  refine TL.extract hF rfl rfl rfl ?_
  refine TL.assign hF rfl rfl ?_
  refine TL.assign hF rfl rfl ?_
  refine TL.nil ?_
  refine TQ.then_n ?_
  refine T.seq ?_
  refine T.region ?_
  refine TL.move hF rfl rfl ?_
  refine TL.move hF rfl rfl ?_
  refine TL.bin hF rfl rfl rfl rfl ?_
  refine TL.move hF rfl rfl ?_
  refine TL.on rfl rfl rfl (decide_eq_true rfl) ?_
  refine TL.move hF rfl rfl ?_
  refine TL.on rfl rfl rfl (decide_eq_true rfl) ?_
  refine TL.move hF rfl rfl ?_
  refine TL.on rfl rfl rfl (decide_eq_true rfl) ?_
  refine TL.bin hF rfl rfl rfl rfl ?_
  refine TL.pickT hF rfl (decide_eq_true rfl) rfl rfl ?_
  refine TL.move hF rfl rfl ?_
  refine TL.on rfl rfl rfl (decide_eq_true rfl) ?_
  refine TL.call hF (traced_law hT) rfl rfl ?_
  rintro _ _ rfl
  refine TL.pickT hF rfl (decide_eq_true rfl) rfl rfl ?_
  refine TL.assign hF rfl rfl ?_
  refine TL.nil ?_
  refine TQ.then_n ?_
  refine T.ret ?_
  refine TQ.rets [8] _ rfl rfl rfl rfl
end Go.Proofs.YtdiacobmhkmljaaGreatDoor
/- The reference: Play; the law of Play. -/
namespace Go.Proofs.YtdiacobmhkmljaaGreatDoor
open Go.Sl
variable {S:Nat→Prop} {w0:World} {η:Heap}
theorem TraceN_fn {fa ca : Option Addr} {fl : List TE} {fc cc n : Nat} {cells : List Int} {top : Key} (hn : n = cells.length) (hf : Fs S w0 [] fa fl) (hfl : fl.length < 9223372036854775808) (hc : Row S w0 η ca (ints cells)) (hsc : Scn (fl.map TE.ex) cells) (hk : KOk (fl.map TE.ex) (201 : Nat) top) :
  Rt Tryz.prog 29 [.slice fa fl.length fc,.slice ca n cc,kV top].toArray S w0 η (fun v η'=>∃ a cap l segs,v = .slice a l.length cap∧nds l=traceS (fl.map TE.ex) cells top∧NL S w0 segs a l∧l.length≤cap∧η'=segs++η):=by
 subst hn; exact TraceG_fn hf hfl hc hsc hk
theorem word_of {F:List Ex} {cells:List Int} {top:Key} (hs:Scn F cells) (hk:KOk F (201:Nat) top):wordOf (traceS F cells top) top=(callsS F cells top).2:=by
 obtain ⟨k1,k2,k3,k4⟩:=hk
 obtain ⟨_,h1,ht⟩:=calls_ok (cells:=cells) hs.right k1 k2 k3 (by omega)
 obtain ⟨x,h2,h3⟩:=ht.word
 unfold wordOf
 rw [h2,h1]; exact h3
structure PR2 where
 i:Nat
 l:List RH
 a:Option Addr
 c:Nat
 g:Seg
 lo:List NH
 oa:Option Addr
 oc:Nat
 cur:List Int
 arr:Array Value
 H:Heap
def longB (ps:List EH) (i:Nat):Bool:=decide ((30:Int)<(ps.length:Int)) || (ps.take i).any fun p=>decide ((30:Int)<(p.2.1.length:Int))
theorem longB_snoc {ps:List EH} {i:Nat} (h:i<ps.length):longB ps (i+1)=(longB ps i || decide ((30:Int)<(ps[i].2.1.length:Int))):=by
 unfold longB
 rw [List.take_succ_eq_append_getElem h,List.any_append]
 simp [Bool.or_assoc]
theorem longB_all {ps:List EH} {i:Nat} (h:ps.length≤i):longB ps i=longS (erounds ps):=by
 unfold longB longS erounds
 rw [List.take_of_length_le h,List.length_map,List.any_map]
 rw [show decide ((30:Int)<(ps.length:Int))=decide (30<ps.length) from decide_eq_decide.2 (by omega)]
 congr 1
 congr 1
 funext p
 show decide ((30:Int)<(p.2.1.length:Int))=decide (30<p.2.1.length)
 exact decide_eq_decide.2 (by omega)
set_option maxHeartbeats 8000000 in
theorem PlayR_fn {fa ca ra : Option Addr} {fl : List TE} {fc cc rc : Nat} {cells : List Int} {top : Key} {ps : List EH} (hf : Fs S w0 [] fa fl) (hfl : fl.length < 9223372036854775808) (hc : Row S w0 [] ca (ints cells)) (hcl : cells.length < 9223372036854775808) (hr : GL kC S w0 [] ra ps) (hrl0 : ps.length < 9223372036854775808) (hrl1 : ∀ p ∈ ps, p.2.1.length < 9223372036854775808) :
  Rt Tryz.prog 17 [.slice fa fl.length fc,.slice ca cells.length cc,kV top,.slice ra ps.length rc].toArray S w0 η (fun v η'=>∃ a cap l segs,v = .tuple #[.slice a l.length cap,.int .i64 (playS (fl.map TE.ex) cells top (erounds ps)).2]∧l.map (·.r)=(playS (fl.map TE.ex) cells top (erounds ps)).1∧RL S w0 segs a l∧l.length≤cap∧η'=segs++η):=by
 have hF:=open_wide
 refine Rt.of (fn:=Tryz.f17) Tryz.func17 rfl rfl ?_
 refine T.seq ?_
 refine T.region ?_
 refine TL.box hF rfl rfl (fun b6=>?_)
 refine TL.assign hF rfl rfl ?_
 refine TL.assign hF rfl rfl ?_
 refine TL.nil ?_
 refine TQ.then_n ?_
 refine T.seq ?_
 refine T.seq ?_
 refine T.region ?_
 refine TL.move hF rfl rfl ?_
 refine TL.move hF rfl rfl ?_
 refine TL.heap (η':=[(b6,Obj.cells (kC top).toArray 25 (0,0))]::η) rfl ?_
 refine TL.loadA hF (kC top) rfl rfl (own_list (i:=0) (cs:=kC top) rfl) rfl ?_
 refine TL.callV hF (asked_fn hf hfl hc hcl) rfl rfl ?_
 refine TL.assign hF rfl rfl ?_
 refine TL.nil ?_
 refine TQ.then_n ?_
 refine T.seq ?_
 refine T.region ?_
 refine TL.move hF rfl rfl ?_
 refine TL.bin hF rfl rfl rfl rfl ?_
 refine TL.nil ?_
 refine TQ.then_n ?_
 refine T.cond_d rfl (fun ht25=>?_) (fun ht25=>?_)
 ·refine T.seq ?_
  refine T.region ?_
  refine TL.move hF rfl rfl ?_
  refine TL.assign hF rfl rfl ?_
  refine TL.assign hF rfl rfl ?_
  refine TL.nil ?_
  refine TQ.then_n ?_
  refine T.ret ?_
  refine TQ.then_r ?_
  refine TQ.pop ?_
  refine TQ.rets [8,9] _ rfl rfl rfl ?_
  have e:playS (fl.map TE.ex) cells top (erounds ps)=([],askedS (fl.map TE.ex) cells top):=by unfold playS; rw [if_neg ht25]
  rw [e]
  exact ⟨none,0,[],[],rfl,rfl,RL.none,Nat.le_refl _,rfl⟩
 ·refine T.skip ?_
  refine TQ.then_n ?_
  refine T.seq ?_
  refine T.region ?_
  refine TL.move hF rfl rfl ?_
  refine TL.len hF rfl rfl ?_
  refine TL.bin hF rfl rfl rfl rfl ?_
  refine TL.assign hF rfl rfl ?_
  refine TL.nil ?_
  refine TQ.then_n ?_
  refine T.seq ?_
  refine T.seq ?_
  refine T.region ?_
  refine TL.assign hF rfl rfl ?_
  refine TL.nil ?_
  refine TQ.then_n ?_
  refine T.block ?_
  have hask:askedS (fl.map TE.ex) cells top=0:=Classical.not_not.1 ht25
  obtain ⟨hsc,hk⟩:=scn_of hask
  refine T.loop (ι:=Nat) (fun i=>i≤ps.length) (fun i=>[(0,.slice fa fl.length fc),(1,.slice ca cells.length cc),(3,.slice ra ps.length rc),(6,ptr b6),(8,.slice none 0 0),(9,.int .i64 0),(11,.bool (longB ps i)),(12,.int .i64 (i:Int))]) (fun _=>[(b6,Obj.cells (kC top).toArray 25 (0,0))]::η) (fun i=>ps.length - i) 0 (Nat.zero_le _) ⟨rfl,rfl,rfl,rfl,rfl,rfl,congrArg (fun z=>some (Value.bool z)) (by simp [longB]),rfl,trivial⟩ rfl ?_
  rintro i hi
  refine T.seq ?_
  refine T.seq ?_
  refine T.region ?_
  refine TL.move hF rfl rfl ?_
  refine TL.move hF rfl rfl ?_
  refine TL.len hF rfl rfl ?_
  refine TL.bin hF rfl rfl rfl rfl ?_
  refine TL.nil ?_
  refine TQ.then_n ?_
  first | refine T.cond_d rfl (fun ht33=>?_) (fun ht33=>?_) | refine T.cond _ rfl (fun ht33=>?_) (fun ht33=>?_)
  ·refine T.skip ?_
   refine TQ.then_n ?_
   refine T.seq ?_
   refine T.block ?_
   refine T.region ?_
   have hil:i<ps.length:=by have h:(i:Int)<(ps.length:Int):=ht33; omega
   refine TL.move hF rfl rfl ?_
   refine TL.move hF rfl rfl ?_
   refine TL.join [_,_,_,_,_,_,_] 44 (.bool (longB ps i || decide ((30:Int)<(ps[i].2.1.length:Int)))) rfl ?_ ?_
   ·refine TL.gb (t:=37) rfl (fun g8_37=>?_) (fun g8_37=>?_)
    ·refine TL.off hF rfl rfl rfl g8_37 rfl ?_
     refine TL.off hF rfl rfl rfl g8_37 rfl ?_
     refine TL.off hF rfl rfl rfl g8_37 rfl ?_
     refine TL.off hF rfl rfl rfl g8_37 rfl ?_
     refine TL.off hF rfl rfl rfl g8_37 rfl ?_
     refine TL.off hF rfl rfl rfl g8_37 rfl ?_
     refine TL.pickT hF rfl g8_37 rfl rfl ?_
     refine TL.finJ ⟨?_,by repeat (first | exact trivial | refine ⟨rfl,?_⟩)⟩
     exact congrArg (fun z=>some (Value.bool z)) (by first | (rw [g8_37]; rfl) | (rw [g8_37]; simp; done) | (simp [*]; done))
    ·refine TL.on rfl rfl rfl g8_37 ?_
     refine TL.move hF rfl rfl ?_
     refine TL.on rfl rfl rfl g8_37 ?_
     refine TL.move hF rfl rfl ?_
     refine TL.on rfl rfl rfl g8_37 ?_
     refine TL.indexAddr hF rfl rfl (hr.ad hil) (by omega) (by omega) rfl ?_
     refine TL.on rfl rfl rfl g8_37 ?_
     refine TL.load hF rfl ((hr.up (by simp)).at (i:=i) hil) rfl ?_
     refine TL.on rfl rfl rfl g8_37 ?_
     refine TL.len hF rfl rfl ?_
     refine TL.on rfl rfl rfl g8_37 ?_
     refine TL.bin hF rfl rfl rfl rfl ?_
     refine TL.pickF hF rfl g8_37 rfl rfl ?_
     refine TL.finJ ⟨?_,by repeat (first | exact trivial | refine ⟨rfl,?_⟩)⟩
     exact congrArg (fun z=>some (Value.bool z)) (by first | (rw [g8_37]; rfl) | (rw [g8_37]; simp; done) | (simp [*]; done))
   ·refine TL.assign hF rfl rfl ?_
    refine TL.nil ?_
    refine TQ.block_n ?_
    refine TQ.then_n ?_
    refine T.region ?_
    refine TL.move hF rfl rfl ?_
    refine TL.add hF rfl rfl (by omega) (by omega) rfl ?_
    refine TL.assign hF rfl rfl ?_
    refine TL.nil ?_
    refine TQ.round (i+1) (by omega) (by omega) ⟨rfl,rfl,rfl,rfl,rfl,rfl,congrArg (fun z=>some (Value.bool z)) (longB_snoc hil).symm,rfl,trivial⟩ rfl
  ·refine T.exit ?_
   refine TQ.then_x ?_
   refine TQ.then_x ?_
   refine TQ.block_x ?_
   refine TQ.then_n ?_
   refine T.seq ?_
   refine T.seq ?_
   refine T.region ?_
   refine TL.move hF rfl rfl ?_
   refine TL.nil ?_
   refine TQ.then_n ?_
   refine T.cond _ rfl (fun ht45=>?_) (fun ht45=>?_)
   ·refine T.seq ?_
    refine T.region ?_
    refine TL.assign hF rfl rfl ?_
    refine TL.assign hF rfl rfl ?_
    refine TL.nil ?_
    refine TQ.then_n ?_
    refine T.ret ?_
    refine TQ.then_r ?_
    have hie:ps.length≤i:=by have h:¬ (i:Int)<(ps.length:Int):=ht33; omega
    rw [longB_all hie] at ht45
    refine TQ.pop ?_
    refine TQ.rets [8,9] _ rfl rfl rfl ?_
    have e:playS (fl.map TE.ex) cells top (erounds ps)=([],3):=by unfold playS; rw [if_pos hask,if_pos ht45]
    rw [e]
    exact ⟨none,0,[],[],rfl,rfl,RL.none,Nat.le_refl _,rfl⟩
   ·refine T.skip ?_
    refine TQ.then_n ?_
    refine T.seq ?_
    have hie:ps.length≤i:=by have h:¬ (i:Int)<(ps.length:Int):=ht33; omega
    rw [longB_all hie] at ht45
    refine T.drawH 5 mixed ?_
    refine DH.pure (i:=0) [(1,_,none)] rfl rfl rfl rfl ⟨⟨rfl,by kernel_rfl⟩,trivial⟩ (fun _ ext=>TL.move hF rfl rfl TL.fin) ?_
    refine DH.pure (i:=2) [(0,_,none)] rfl rfl rfl rfl ⟨⟨rfl,by kernel_rfl⟩,trivial⟩ (fun _ ext=>TL.move hF rfl rfl TL.fin) ?_
    refine DH.pure (i:=3) [(1,_,none)] rfl rfl rfl rfl ⟨⟨rfl,by kernel_rfl⟩,trivial⟩ (fun _ ext=>TL.move hF rfl rfl TL.fin) ?_
    refine DH.read (i:=4) [(6,_,none)] rfl rfl rfl rfl ⟨⟨rfl,by kernel_rfl⟩,trivial⟩ (fun ext=>TL.loadA hF (kC top) rfl rfl (own_listM (b:=b6) (cs:=kC top) (e:=25) (fz:=(0,0)) (by simp)) rfl TL.fin) ?_
    refine DH.k1 (by kernel_rfl) (by kernel_rfl) (by kernel_rfl) (by kernel_rfl) (HBK.mk (h:=1) [4] [(46,_,some 0)] rfl rfl rfl ⟨⟨rfl,rfl,rfl⟩,trivial⟩ (by kernel_rfl) (fun ext=>?_))
    refine TL.call hF (Copy_fn (c:=cc) hc.ro (by have:=hsc.c2; omega)) rfl rfl ?_
    rintro _ _ ⟨na,nc,cg,rfl,hcg,rfl⟩
    refine TL.finK ⟨⟨_,rfl,_,_,[(6,_,none)],rfl,rfl,⟨⟨rfl,by kernel_rfl⟩,trivial⟩,fun ext=>TL.loadA hF (kC top) rfl rfl (own_listM (b:=b6) (cs:=kC top) (e:=25) (fz:=(0,0)) (by simp)) rfl TL.fin⟩,trivial⟩ ?_
    refine DH.done [(47,_),(50,_),(49,_),(48,_),(46,_)] [_,_,_] (by kernel_rfl) (by kernel_rfl) (by kernel_rfl) (by kernel_rfl) rfl rfl ?_
    refine TL.call hF (Trace_fn (cc:=cc) (fc:=fc) hf hfl hc hsc hk) rfl rfl ?_
    rintro _ _ ⟨oa,oc,lo,segs,rfl,hlo,hnl,_,rfl⟩
    refine TL.assign hF rfl rfl ?_
    refine TL.assign hF rfl rfl ?_
    refine TL.nil ?_
    refine TQ.then_n ?_
    refine T.seq ?_
    refine T.region ?_
    refine TL.buildSlice hF rfl (cs:=#[]) (e:=45) (fun w=>by kernel_rfl) rfl (fun b52=>?_)
    refine TL.assign hF rfl rfl ?_
    refine TL.nil ?_
    refine TQ.then_n ?_
    refine T.seq ?_
    refine T.seq ?_
    refine T.region ?_
    refine TL.assign hF rfl rfl ?_
    refine TL.nil ?_
    refine TQ.then_n ?_
    refine T.block ?_
    have hcl100:=hsc.c2
    have hc1:=hsc.c1
    obtain ⟨gb,gcap,gcur,hgv,rfl,hgsz⟩:=OSl.ex hcg (by omega)
    simp only [Value.slice.injEq,true_and] at hgv
    obtain ⟨rfl,rfl⟩:=hgv
    refine T.hperm ([(b52,Obj.cells #[] 45 (0,0))]::[(gb,Obj.cells gcur 3 (0,0))]::(segs++([(b6,Obj.cells (kC top).toArray 25 (0,0))]::η))) (perm_cnt fun f=>by simp only [List.map_append,List.map_cons,List.sum_append,List.sum_cons]; try omega) ?_
    refine T.loop (ι:=PR2) (fun s=>s.i≤ps.length∧s.l.length=s.i∧(∀ x∈s.l,RM S w0 s.H x)∧NL S w0 s.H s.oa s.lo∧nds s.lo=traceS (fl.map TE.ex) s.cur top∧s.cur.length=cells.length∧askedS (fl.map TE.ex) s.cur top=0∧(∀ p∈ps.take s.i,∀ x∈p.2.1,okEdit cells.length x=true)∧s.l.map (·.r)++roundsS (fl.map TE.ex) top ((erounds ps).drop s.i) s.cur (traceS (fl.map TE.ex) s.cur top)=roundsS (fl.map TE.ex) top (erounds ps) cells (traceS (fl.map TE.ex) cells top)∧OSl 45 5 (.slice s.a s.l.length s.c) s.l.length (s.l.flatMap rhC) s.g∧OSl 3 1 (.slice (some ⟨gb,0,none⟩) cells.length nc) cells.length (ints s.cur) [(gb,Obj.cells s.arr 3 (0,0))]) (fun s=>[(0,.slice fa fl.length fc),(1,.slice ca cells.length cc),(3,.slice ra ps.length rc),(6,ptr b6),(8,.slice none 0 0),(9,.int .i64 0),(13,.slice (some ⟨gb,0,none⟩) cells.length nc),(14,.slice s.oa s.lo.length s.oc),(15,.slice s.a s.l.length s.c),(16,.int .i64 (s.i:Int))]) (fun s=>s.g::[(gb,Obj.cells s.arr 3 (0,0))]::(s.H++([(b6,Obj.cells (kC top).toArray 25 (0,0))]::η))) (fun s=>ps.length - s.i) ⟨0,[],some ⟨b52,0,none⟩,0,[(b52,Obj.cells #[] 45 (0,0))],lo,oa,oc,cells,gcur,segs⟩ ⟨Nat.zero_le _,rfl,by simp,hnl,hlo,rfl,hask,by simp,rfl,osl_empty,hcg⟩ ⟨rfl,rfl,rfl,rfl,rfl,rfl,rfl,rfl,rfl,rfl,trivial⟩ rfl ?_
    rintro ⟨i,l,pa,pc,pg,lo2,oa2,oc2,cur,arr,H⟩ ⟨hi,hll,hrm,hno,hnd,hcl2,hask2,hok,hsum,ho,hcu⟩
    dsimp only at hi hll hrm hno hnd hcl2 hask2 hok hsum ho hcu
    refine T.seq ?_
    refine T.seq ?_
    refine T.region ?_
    refine TL.move hF rfl rfl ?_
    refine TL.move hF rfl rfl ?_
    refine TL.len hF rfl rfl ?_
    refine TL.bin hF rfl rfl rfl rfl ?_
    refine TL.nil ?_
    refine TQ.then_n ?_
    first | refine T.cond_d rfl (fun ht56=>?_) (fun ht56=>?_) | refine T.cond _ rfl (fun ht56=>?_) (fun ht56=>?_)
    ·refine T.skip ?_
     refine TQ.then_n ?_
     refine T.seq ?_
     refine T.block ?_
     refine T.seq ?_
     refine T.seq ?_
     refine T.region ?_
     refine TL.assign hF rfl rfl ?_
     refine TL.nil ?_
     refine TQ.then_n ?_
     refine T.block ?_
     have hil:i<ps.length:=by have h:(i:Int)<(ps.length:Int):=ht56; omega
     have hpl:=hrl1 _ (List.getElem_mem hil)
     have hl30:longS (erounds ps)=false:=ht45
     refine T.loop (ι:=Nat × Array Value) (fun s=>s.1≤ps[i].2.1.length∧(∀ x∈ps[i].2.1.take s.1,okEdit cells.length x=true)∧OSl 3 1 (.slice (some ⟨gb,0,none⟩) cells.length nc) cells.length (ints (editS cur (ps[i].2.1.take s.1))) [(gb,Obj.cells s.2 3 (0,0))]) (fun s=>[(0,.slice fa fl.length fc),(1,.slice ca cells.length cc),(3,.slice ra ps.length rc),(6,ptr b6),(8,.slice none 0 0),(9,.int .i64 0),(13,.slice (some ⟨gb,0,none⟩) cells.length nc),(14,.slice oa2 lo2.length oc2),(15,.slice pa l.length pc),(16,.int .i64 (i:Int)),(17,.int .i64 (s.1:Int))]) (fun s=>pg::[(gb,Obj.cells s.2 3 (0,0))]::(H++([(b6,Obj.cells (kC top).toArray 25 (0,0))]::η))) (fun s=>ps[i].2.1.length - s.1) (0,arr) ⟨Nat.zero_le _,by simp,hcu⟩ ⟨rfl,rfl,rfl,rfl,rfl,rfl,rfl,rfl,rfl,rfl,rfl,trivial⟩ rfl ?_
     rintro ⟨k,ar2⟩ ⟨hk1,hek,hck⟩
     dsimp only at hk1 hek hck
     refine T.seq ?_
     refine T.seq ?_
     refine T.region ?_
     refine TL.move hF rfl rfl ?_
     refine TL.move hF rfl rfl ?_
     refine TL.move hF rfl rfl ?_
     refine TL.indexAddr hF rfl rfl (hr.ad hil) (by first | omega | (dsimp only; omega)) (by first | omega | (dsimp only; omega)) rfl ?_
     refine TL.load hF rfl ((hr.up (by simp)).at (i:=i) hil) rfl ?_
     refine TL.len hF rfl rfl ?_
     refine TL.bin hF rfl rfl rfl rfl ?_
     refine TL.nil ?_
     refine TQ.then_n ?_
     first | refine T.cond_d rfl (fun ht65=>?_) (fun ht65=>?_) | refine T.cond _ rfl (fun ht65=>?_) (fun ht65=>?_)
     ·refine T.skip ?_
      refine TQ.then_n ?_
      refine T.seq ?_
      refine T.block ?_
      refine T.seq ?_
      refine T.region ?_
      refine TL.move hF rfl rfl ?_
      refine TL.move hF rfl rfl ?_
      have hkl:k<ps[i].2.1.length:=by have h:(k:Int)<(ps[i].2.1.length:Int):=ht65; omega
      have htk:ps[i].2.1.take (k+1)=ps[i].2.1.take k++[ps[i].2.1[k]]:=List.take_succ_eq_append_getElem hkl
      have hno2:=edits_no (m:=cells.length) hil hkl
      refine TL.indexAddr hF rfl rfl (hr.ad hil) (by first | omega | (dsimp only; omega)) (by first | omega | (dsimp only; omega)) rfl ?_
      refine TL.load hF rfl ((hr.up (by simp)).at (i:=i) hil) rfl ?_
      refine TL.move hF rfl rfl ?_
      refine TL.indexAddr hF rfl rfl ((hr.it hil).tad kC_len (by decide) hkl) (by first | omega | (dsimp only; omega)) (by first | omega | (dsimp only; omega)) rfl ?_
      refine TL.loadA hF (kC ps[i].2.1[k]) rfl rfl ((hr.it hil).ro.tabA kC_len (i:=k) hkl) rfl ?_
      refine TL.alloc hF rfl (fun b18=>?_)
      refine TL.storeAs hF (kC ps[i].2.1[k]) (kC ps[i].2.1[k]) 0 (cs:=[.int .i64 0,.int .i64 0]) rfl rfl rfl rfl (kC1 _) (Nat.le_refl 2) rfl ?_
      refine TL.nil ?_
      refine TQ.then_n ?_
      refine T.seq ?_
      refine T.seq ?_
      refine T.region ?_
      refine TL.fieldAddr hF rfl rfl ?_
      refine TL.load hF rfl (by first | exact At.own' (i:=0) rfl rfl | exact At.own' (i:=1) rfl rfl | exact At.own' (i:=2) rfl rfl | exact At.own' (i:=3) rfl rfl | exact At.own' (i:=4) rfl rfl | exact At.own' (i:=5) rfl rfl | exact At.own' (i:=6) rfl rfl | exact At.own' (i:=7) rfl rfl | exact At.own' (i:=8) rfl rfl | exact At.own' (i:=9) rfl rfl | exact At.own' (i:=10) rfl rfl | exact At.own' (i:=11) rfl rfl | exact At.own' (i:=12) rfl rfl) rfl ?_
      refine TL.move hF rfl rfl ?_
      refine TL.len hF rfl rfl ?_
      refine TL.sub hF rfl rfl (by omega) (by omega) rfl ?_
      refine TL.callV hF (Lies_fn ps[i].2.1[k].1 0 ((cells.length:Int)-1)) rfl rfl ?_
      refine TL.not hF rfl rfl ?_
      refine TL.move hF rfl rfl ?_
      refine TL.join [_,_,_,_,_] 87 (.bool (!(decide (0≤ps[i].2.1[k].1) && decide (ps[i].2.1[k].1≤(cells.length:Int)-1)) || !(isW ps[i].2.1[k].2))) rfl ?_ ?_
      ·refine TL.gb (t:=82) rfl (fun g20_82=>?_) (fun g20_82=>?_)
       ·refine TL.off hF rfl rfl rfl g20_82 rfl ?_
        refine TL.off hF rfl rfl rfl g20_82 rfl ?_
        refine TL.off hF rfl rfl rfl g20_82 rfl ?_
        refine TL.off hF rfl rfl rfl g20_82 rfl ?_
        refine TL.pickT hF rfl g20_82 rfl rfl ?_
        refine TL.finJ ⟨?_,by repeat (first | exact trivial | refine ⟨rfl,?_⟩)⟩
        exact congrArg (fun z=>some (Value.bool z)) (by first | (rw [g20_82]; rfl) | (rw [g20_82]; simp; done) | (simp [*]; done))
       ·refine TL.on rfl rfl rfl g20_82 ?_
        refine TL.fieldAddr hF rfl rfl ?_
        refine TL.on rfl rfl rfl g20_82 ?_
        refine TL.load hF rfl (by first | exact At.own' (i:=0) rfl rfl | exact At.own' (i:=1) rfl rfl | exact At.own' (i:=2) rfl rfl | exact At.own' (i:=3) rfl rfl | exact At.own' (i:=4) rfl rfl | exact At.own' (i:=5) rfl rfl | exact At.own' (i:=6) rfl rfl | exact At.own' (i:=7) rfl rfl | exact At.own' (i:=8) rfl rfl | exact At.own' (i:=9) rfl rfl | exact At.own' (i:=10) rfl rfl | exact At.own' (i:=11) rfl rfl | exact At.own' (i:=12) rfl rfl) rfl ?_
        refine TL.on rfl rfl rfl g20_82 ?_
        refine TL.callV hF (IsWord_fn ps[i].2.1[k].2) rfl rfl ?_
        refine TL.on rfl rfl rfl g20_82 ?_
        refine TL.not hF rfl rfl ?_
        refine TL.pickF hF rfl g20_82 rfl rfl ?_
        refine TL.finJ ⟨?_,by repeat (first | exact trivial | refine ⟨rfl,?_⟩)⟩
        exact congrArg (fun z=>some (Value.bool z)) (by first | (rw [g20_82]; rfl) | (rw [g20_82]; simp; done) | (simp [*]; done))
      ·refine TL.nil ?_
       refine TQ.then_n ?_
       refine T.cond _ rfl (fun ht87=>?_) (fun ht87=>?_)
       ·refine T.seq ?_
        refine T.region ?_
        refine TL.assign hF rfl rfl ?_
        refine TL.assign hF rfl rfl ?_
        refine TL.nil ?_
        refine TQ.then_n ?_
        refine T.ret ?_
        refine TQ.then_r ?_
        refine TQ.block_r ?_
        refine TQ.then_r ?_
        refine TQ.then_r ?_
        refine TQ.block_r ?_
        refine TQ.then_r ?_
        refine TQ.block_r ?_
        refine TQ.then_r ?_
        refine TQ.then_r ?_
        refine TQ.block_r ?_
        refine TQ.then_r ?_
        have hxk:okEdit cells.length ps[i].2.1[k]=false:=by
         unfold okEdit
         cases h1:(decide (0≤ps[i].2.1[k].1) && decide (ps[i].2.1[k].1≤(cells.length:Int)-1)) <;> cases h2:isW ps[i].2.1[k].2 <;> rw [h1,h2] at ht87 <;> first | (cases ht87; done) | rfl
        have hall:=hno2 hxk
        refine TQ.rets [8,9] _ rfl rfl rfl ?_
        have e:playS (fl.map TE.ex) cells top (erounds ps)=([],2):=by unfold playS; rw [if_pos hask,if_neg (by rw [hl30]; simp),if_neg (by rw [hall]; simp)]
        rw [e]
        exact ⟨none,0,[],[(b18,Obj.cells (kC ps[i].2.1[k]).toArray 60 (0,0))]::pg::[(gb,Obj.cells ar2 3 (0,0))]::(H++[[(b6,Obj.cells (kC top).toArray 25 (0,0))]]),rfl,rfl,RL.none,Nat.le_refl _,by simp⟩
       ·refine T.skip ?_
        refine TQ.then_n ?_
        refine T.region ?_
        refine TL.move hF rfl rfl ?_
        have hxk:okEdit cells.length ps[i].2.1[k]=true:=by
         unfold okEdit
         cases h1:(decide (0≤ps[i].2.1[k].1) && decide (ps[i].2.1[k].1≤(cells.length:Int)-1)) <;> cases h2:isW ps[i].2.1[k].2 <;> rw [h1,h2] at ht87 <;> first | (cases ht87; done) | rfl
        have hxr:=okEdit_iff.1 hxk
        refine TL.fieldAddr hF rfl rfl ?_
        refine TL.load hF rfl (by first | exact At.own' (i:=0) rfl rfl | exact At.own' (i:=1) rfl rfl | exact At.own' (i:=2) rfl rfl | exact At.own' (i:=3) rfl rfl | exact At.own' (i:=4) rfl rfl | exact At.own' (i:=5) rfl rfl | exact At.own' (i:=6) rfl rfl | exact At.own' (i:=7) rfl rfl | exact At.own' (i:=8) rfl rfl | exact At.own' (i:=9) rfl rfl | exact At.own' (i:=10) rfl rfl | exact At.own' (i:=11) rfl rfl | exact At.own' (i:=12) rfl rfl) rfl ?_
        refine TL.fieldAddr hF rfl rfl ?_
        refine TL.load hF rfl (by first | exact At.own' (i:=0) rfl rfl | exact At.own' (i:=1) rfl rfl | exact At.own' (i:=2) rfl rfl | exact At.own' (i:=3) rfl rfl | exact At.own' (i:=4) rfl rfl | exact At.own' (i:=5) rfl rfl | exact At.own' (i:=6) rfl rfl | exact At.own' (i:=7) rfl rfl | exact At.own' (i:=8) rfl rfl | exact At.own' (i:=9) rfl rfl | exact At.own' (i:=10) rfl rfl | exact At.own' (i:=11) rfl rfl | exact At.own' (i:=12) rfl rfl) rfl ?_
        refine TL.indexAddr hF rfl rfl ⟨_,rfl,rfl⟩ (by first | omega | (dsimp only; omega)) (by first | omega | (dsimp only; omega)) rfl ?_
        have hasz:cells.length≤ar2.size:=by
         obtain ⟨g2,c2,cu2,h1,h2,h3⟩:=OSl.ex hck (by omega)
         simp only [Value.slice.injEq,Option.some.injEq,Addr.mk.injEq,true_and,and_true,List.cons.injEq,Prod.mk.injEq,Obj.cells.injEq] at h1 h2
         rw [h2.2]; omega
        refine TL.storeI hF 2 rfl rfl rfl rfl (by simp; omega) ?_
        refine TL.nil ?_
        refine TQ.block_n ?_
        refine TQ.then_n ?_
        refine T.region ?_
        refine TL.move hF rfl rfl ?_
        refine TL.add hF rfl rfl (by first | omega | (dsimp only; omega)) (by first | omega | (dsimp only; omega)) rfl ?_
        refine TL.assign hF rfl rfl ?_
        refine TL.nil ?_
        have hput:=OSl.put (j:=ps[i].2.1[k].1.toNat) (u:=.int .i64 ps[i].2.1[k].2) hck
        have he1:(ints (editS cur (ps[i].2.1.take k))).set ps[i].2.1[k].1.toNat (.int .i64 ps[i].2.1[k].2)=ints (editS cur (ps[i].2.1.take (k+1))):=by
         rw [htk,editS_snoc]; unfold ints; rw [List.map_set]
        rw [he1] at hput
        refine TQ.pop ?_
        refine TQ.round (k+1,ar2.setIfInBounds ps[i].2.1[k].1.toNat (.int .i64 ps[i].2.1[k].2)) ⟨by dsimp only; omega,fun y hy=>?_,hput⟩ (by dsimp only; omega) ⟨rfl,rfl,rfl,rfl,rfl,rfl,rfl,rfl,rfl,rfl,rfl,trivial⟩ (by first | rfl | simp [kC])
        rw [htk] at hy
        rcases List.mem_append.1 hy with h | h
        ·exact hek y h
        ·rw [List.mem_singleton.1 h]; exact hxk
     ·refine T.exit ?_
      refine TQ.then_x ?_
      refine TQ.then_x ?_
      refine TQ.block_x ?_
      refine TQ.then_n ?_
      refine T.seq ?_
      refine T.region ?_
      refine TL.move hF rfl rfl ?_
      refine TL.move hF rfl rfl ?_
      refine TL.loadA hF (kC top) rfl rfl (own_listM (b:=b6) (cs:=kC top) (e:=25) (fz:=(0,0)) (by simp)) rfl ?_
      have hke:ps[i].2.1.length≤k:=by have h:¬ (k:Int)<(ps[i].2.1.length:Int):=ht65; omega
      rw [List.take_of_length_le hke] at hek hck
      have hask3:askedS (fl.map TE.ex) (editS cur ps[i].2.1) top=0:=asked_edit hask2 fun x hx=>(okEdit_iff.1 (hek x hx)).2.2
      obtain ⟨hsc3,hk3⟩:=scn_of hask3
      obtain ⟨hsc2,_⟩:=scn_of hask2
      have hl3:(editS cur ps[i].2.1).length=cells.length:=by rw [editS_len]; exact hcl2
      refine TL.call hF (TraceN_fn hl3.symm hf hfl (hck.row (by simp)) hsc3 hk3) rfl rfl ?_
      rintro _ _ ⟨oa3,oc3,lo3,segs3,rfl,hlo3,hnl3,_,rfl⟩
      have hb2:lo2.length<1000000:=by rw [← nds_len,hnd]; have:=trace_len hsc2 hk; omega
      have hb3:lo3.length<1000000:=by rw [← nds_len,hlo3]; have:=trace_len hsc3 hk3; omega
      refine TL.assign hF rfl rfl ?_
      refine TL.nil ?_
      refine TQ.then_n ?_
      refine T.seq ?_
      refine T.region ?_
      refine TL.move hF rfl rfl ?_
      refine TL.move hF rfl rfl ?_
      refine TL.move hF rfl rfl ?_
      refine TL.loadA hF (kC top) rfl rfl (own_listM (b:=b6) (cs:=kC top) (e:=25) (fz:=(0,0)) (by simp)) rfl ?_
      refine TL.call hF (againstR_fn (hno.up (by intro s hs; simp [hs])) (hnl3.up (by intro s hs; simp [hs])) hb2 hb3) rfl rfl ?_
      rintro _ _ ⟨x,segs4,rfl,hx,hrx,rfl⟩
      refine TL.buildSlice hF rfl (cs:=(rhC x).toArray) (e:=45) (fun w=>by kernel_rfl) rfl (fun bq=>?_)
      have h30:ps.length≤30:=by
       have h:=hl30
       unfold longS at h
       rw [Bool.or_eq_false_iff,decide_eq_false_iff_not] at h
       have h1:=h.1
       unfold erounds at h1
       rw [List.length_map] at h1; omega
      refine TL.hperm (pg::[(bq,Obj.cells (rhC x).toArray 45 (0,0))]::[(gb,Obj.cells ar2 3 (0,0))]::(segs4++(segs3++(H++([(b6,Obj.cells (kC top).toArray 25 (0,0))]::η))))) (perm_cnt fun f=>by simp only [List.map_append,List.map_cons,List.sum_append,List.sum_cons]; try omega) ?_
      refine TL.append hF 0 rfl rfl rfl ho (row_own (cs:=rhC x) (e:=45) (b:=bq) (by simp)).src rfl rfl (rhC1 x) (by omega) (by omega) rfl (fun qa qc qg qh=>?_)
      rw [flat_snoc] at qh
      refine TL.assign hF rfl rfl ?_
      refine TL.nil ?_
      refine TQ.then_n ?_
      refine T.region ?_
      refine TL.move hF rfl rfl ?_
      refine TL.assign hF rfl rfl ?_
      refine TL.nil ?_
      refine TQ.block_n ?_
      refine TQ.then_n ?_
      refine T.region ?_
      refine TL.move hF rfl rfl ?_
      refine TL.add hF rfl rfl (by first | omega | (dsimp only; omega)) (by first | omega | (dsimp only; omega)) rfl ?_
      refine TL.assign hF rfl rfl ?_
      refine TL.nil ?_
      have hlx:(l++[x]).length=l.length+1:=by simp
      refine TQ.heap (η':=qg::[(bq,Obj.cells (rhC x).toArray 45 (0,0))]::[(gb,Obj.cells ar2 3 (0,0))]::(segs4++(segs3++(H++([(b6,Obj.cells (kC top).toArray 25 (0,0))]::η))))) rfl ?_
      refine TQ.hperm ([(bq,Obj.cells (rhC x).toArray 45 (0,0))]::qg::[(gb,Obj.cells ar2 3 (0,0))]::((segs4++(segs3++H))++([(b6,Obj.cells (kC top).toArray 25 (0,0))]::η))) (perm_cnt fun f=>by simp only [List.map_append,List.map_cons,List.sum_append,List.sum_cons]; try omega) ?_
      refine TQ.pop ?_
      refine TQ.round ⟨i+1,l++[x],qa,qc,qg,lo3,oa3,oc3,editS cur ps[i].2.1,ar2,segs4++(segs3++H)⟩ ⟨by dsimp only; omega,by dsimp only; omega,fun y hy=>?_,hnl3.up (by intro s hs; simp [hs]),hlo3,hl3,hask3,fun p hp=>?_,?_,by dsimp only; rw [hlx]; exact qh,hck⟩ (by dsimp only; omega) ⟨rfl,rfl,rfl,rfl,rfl,rfl,rfl,rfl,by dsimp only; rw [hlx]; rfl,rfl,trivial⟩ rfl
      ·rcases List.mem_append.1 hy with hy | hy
       ·exact (hrm y hy).up (by intro s hs; simp [hs])
       ·rw [List.mem_singleton.1 hy]; exact hrx.up (by intro s hs; simp [hs])
      ·rw [List.take_succ_eq_append_getElem hil] at hp
       rcases List.mem_append.1 hp with h | h
       ·exact hok p h
       ·rw [List.mem_singleton.1 h]; exact hek
      ·dsimp only
       rw [← hsum,List.map_append,List.append_assoc]
       congr 1
       have hdr:(erounds ps).drop i=ps[i].2.1::(erounds ps).drop (i+1):=by
        unfold erounds
        rw [List.drop_eq_getElem_cons (by simpa using hil)]; simp
       rw [hdr,roundsS]
       have hw:=word_of hsc3 hk3
       rw [← hw,← hlo3,← hnd,List.map_cons,List.map_nil,hx]
       rfl
    ·refine T.exit ?_
     refine TQ.then_x ?_
     refine TQ.then_x ?_
     refine TQ.block_x ?_
     refine TQ.then_n ?_
     refine T.seq ?_
     refine T.region ?_
     refine TL.move hF rfl rfl ?_
     refine TL.assign hF rfl rfl ?_
     refine TL.assign hF rfl rfl ?_
     refine TL.nil ?_
     refine TQ.then_n ?_
     refine T.ret ?_
     have hie:ps.length≤i:=by have h:¬ (i:Int)<(ps.length:Int):=ht56; omega
     have hl30:longS (erounds ps)=false:=ht45
     rw [List.take_of_length_le hie] at hok
     have hall:=edits_yes hok
     rw [List.drop_of_length_le (by unfold erounds; rw [List.length_map]; exact hie)] at hsum
     refine TQ.rets [8,9] _ rfl rfl rfl ?_
     have e:playS (fl.map TE.ex) cells top (erounds ps)=(roundsS (fl.map TE.ex) top (erounds ps) cells (traceS (fl.map TE.ex) cells top),0):=by unfold playS; rw [if_pos hask,if_neg (by rw [hl30]; simp),if_pos hall]
     rw [e]
     refine ⟨pa,pc,l,pg::[(gb,Obj.cells arr 3 (0,0))]::(H++[[(b6,Obj.cells (kC top).toArray 25 (0,0))]]),rfl,?_,⟨ho.row (by simp),fun x hx=>(hrm x hx).up (by intro s hs; simp [hs])⟩,osl_cap ho,by simp⟩
     show _=roundsS (fl.map TE.ex) top (erounds ps) cells (traceS (fl.map TE.ex) cells top)
     rw [← hsum]
     simp [roundsS]
def rlen (r:Rnd):Prop:=r.again.length<2 ^ 63∧r.new.length<2 ^ 63∧r.kept.length<2 ^ 63∧r.dropped.length<2 ^ 63
theorem against_len {a b:List Nd} {w:Int} (ha:a.length<10000) (hb:b.length<10000):rlen (againstS a b w):=by
 unfold rlen againstS keysN
 simp only [List.length_map]
 have h1:=List.length_filter_le (againB a) b
 have h2:=List.length_filter_le (fun x:Nd=>!hasN a x.key) b
 have h3:=List.length_filter_le (keptB a) b
 have h4:=List.length_filter_le (fun x:Nd=>!hasN b x.key) a
 refine ⟨?_,?_,?_,?_⟩ <;> omega
theorem asked_len {F:List Ex} {cells:List Int} {top:Key} (h:askedS F cells top=0):(traceS F cells top).length<10000:=by
 obtain ⟨hsc,hk⟩:=scn_of h
 have:=trace_len hsc hk; omega
theorem rounds_len {F:List Ex} {top:Key}:∀ (rs:List (List (Int × Int))) (cells:List Int) (old:List Nd),askedS F cells top=0→old.length<10000→(∀ l∈rs,∀ x∈l,isW x.2=true)→(∀ r∈roundsS F top rs cells old,rlen r)∧(roundsS F top rs cells old).length=rs.length
 | [],_,_,_,_,_=>⟨by simp [roundsS],rfl⟩
 | r::l,cells,old,h,ho,hr=>by
  have h1:askedS F (editS cells r) top=0:=asked_edit h fun x hx=>hr r (by simp) x hx
  have h2:=rounds_len l (editS cells r) (traceS F (editS cells r) top) h1 (asked_len h1) fun y hy=>hr y (by simp [hy])
  rw [roundsS]
  refine ⟨fun x hx=>?_,by rw [List.length_cons,h2.2,List.length_cons]⟩
  rcases List.mem_cons.1 hx with rfl | hx
  ·exact against_len ho (asked_len h1)
  ·exact h2.1 x hx
theorem play_len {F:List Ex} {cells:List Int} {top:Key} {rs:List (List (Int × Int))}:(∀ r∈(playS F cells top rs).1,rlen r)∧(playS F cells top rs).1.length≤rs.length:=by
 unfold playS
 by_cases h:askedS F cells top=0
 ·rw [if_pos h]
  by_cases h2:longS rs=true
  ·rw [if_pos h2]; exact ⟨by simp,Nat.zero_le _⟩
  ·rw [if_neg h2]
   by_cases h3:rs.all (fun l=>l.all (okEdit cells.length))=true
   ·rw [if_pos h3]
    have h4:=rounds_len rs cells (traceS F cells top) h (asked_len h) fun l hl x hx=>(okEdit_iff.1 (List.all_eq_true.1 (List.all_eq_true.1 h3 l hl) x hx)).2.2
    exact ⟨h4.1,Nat.le_of_eq h4.2⟩
   ·rw [if_neg h3]; exact ⟨by simp,Nat.zero_le _⟩
 ·rw [if_neg h]; exact ⟨by simp,Nat.zero_le _⟩
theorem roundT_fn {x y:RH} (hx:RM S w0 η x) (hy:RM S w0 η y) (e:y.r=x.r) (hl:rlen x.r):Rt Tryz.prog 18 [.agg (rhC x).toArray,.agg (rhC y).toArray].toArray S w0 η (fun v η'=>v = .bool true∧η'=η):=by
 have h:=round_fn hx hy hl
 rw [decide_eq_true e.symm] at h; exact h
set_option maxHeartbeats 4000000 in
theorem TracePlays_fn {fa ca ra : Option Addr} {fl : List TE} {fc cc rc : Nat} {cells : List Int} {top : Key} {ps : List EH} (hT : Tabs S w0) (hf : Fs S w0 [] fa fl) (hfl : fl.length < 9223372036854775808) (hc : Row S w0 [] ca (ints cells)) (hcl : cells.length < 9223372036854775808) (hr : GL kC S w0 [] ra ps) (hrl0 : ps.length < 9223372036854775808) (hrl1 : ∀ p ∈ ps, p.2.1.length < 9223372036854775808) :
  Rt Tryz.prog 4 [.slice fa fl.length fc,.slice ca cells.length cc,kV top,.slice ra ps.length rc].toArray S w0 η (fun v _=>v = .bool true):=by
 have hF:=open_wide
 refine Rt.of (fn:=Tryz.f4) Tryz.func4 rfl rfl ?_
 refine T.seq ?_
 refine T.region ?_
 refine TL.box hF rfl rfl (fun b6=>?_)
 refine TL.assign hF rfl rfl ?_
 refine TL.nil ?_
 refine TQ.then_n ?_
 refine T.seq ?_
 refine T.seq ?_
 refine T.region ?_
 refine TL.heap (η':=[(b6,Obj.cells (kC top).toArray 25 (0,0))]::η) rfl ?_
 refine TL.fieldAddr hF rfl rfl ?_
 refine TL.load hF rfl (own_mem (b:=b6) (cs:=(kC top).toArray) (e:=25) (fz:=(0,0)) (by simp) rfl) rfl ?_
 refine TL.callV hF (Lies_fn top.2 21 200) rfl rfl ?_
 refine TL.nil ?_
 refine TQ.then_n ?_
 refine T.cond _ rfl (fun ht16=>?_) (fun ht16=>?_)
 ·refine T.seq ?_
  refine T.region ?_
  refine TL.call hF (traced_law hT) rfl rfl ?_
  rintro _ _ rfl
  refine TL.assign hF rfl rfl ?_
  refine TL.nil ?_
  refine TQ.then_n ?_
  refine T.ret ?_
  refine TQ.then_r ?_
  refine TQ.rets [8] _ rfl rfl rfl rfl
 ·refine T.skip ?_
  refine TQ.then_n ?_
  refine T.seq ?_
  refine T.region ?_
  refine TL.move hF rfl rfl ?_
  refine TL.move hF rfl rfl ?_
  refine TL.loadA hF (kC top) rfl rfl (own_listM (b:=b6) (cs:=kC top) (e:=25) (fz:=(0,0)) (by simp)) rfl ?_
  refine TL.move hF rfl rfl ?_
  refine TL.call hF (Play_fn (cc:=cc) (fc:=fc) (rc:=rc) hT hf hfl hc hcl hr hrl0 hrl1) rfl rfl ?_
  rintro _ _ ⟨a1,c1,l1,s1,rfl,hm1,hl1,hp1,rfl⟩
  refine TL.move hF rfl rfl ?_
  refine TL.extract hF rfl rfl rfl ?_
  refine TL.extract hF rfl rfl rfl ?_
  refine TL.assign hF rfl rfl ?_
  refine TL.assign hF rfl rfl ?_
  refine TL.nil ?_
  refine TQ.then_n ?_
  refine T.seq ?_
  refine T.region ?_
  refine TL.move hF rfl rfl ?_
  refine TL.move hF rfl rfl ?_
  refine TL.loadA hF (kC top) rfl rfl (own_listM (b:=b6) (cs:=kC top) (e:=25) (fz:=(0,0)) (by simp)) rfl ?_
  refine TL.move hF rfl rfl ?_
  refine TL.call hF (PlayR_fn (cc:=cc) (fc:=fc) (rc:=rc) hf hfl hc hcl hr hrl0 hrl1) rfl rfl ?_
  rintro _ _ ⟨a2,c2,l2,s2,rfl,hm2,hl2,hp2,rfl⟩
  refine TL.move hF rfl rfl ?_
  refine TL.extract hF rfl rfl rfl ?_
  refine TL.extract hF rfl rfl rfl ?_
  refine TL.assign hF rfl rfl ?_
  refine TL.assign hF rfl rfl ?_
  refine TL.nil ?_
  refine TQ.then_n ?_
  refine T.seq ?_
  refine T.seq ?_
  refine T.region ?_
  have hpl:=play_len (F:=(fl.map TE.ex)) (cells:=cells) (top:=top) (rs:=erounds ps)
  have hll:l1.length=l2.length:=by rw [← List.length_map (f:=fun x:RH=>x.r),hm1,← hm2,List.length_map]
  have hlt:l1.length<9223372036854775808:=by
   have h:=hpl.2
   rw [← hm1,List.length_map] at h
   unfold erounds at h
   rw [List.length_map] at h; omega
  refine TL.move hF rfl rfl ?_
  refine TL.move hF rfl rfl ?_
  refine TL.bin hF rfl rfl rfl rfl ?_
  refine TL.move hF rfl rfl ?_
  refine TL.on rfl rfl rfl (by simp) ?_
  refine TL.move hF rfl rfl ?_
  refine TL.on rfl rfl rfl (by simp) ?_
  refine TL.len hF rfl rfl ?_
  refine TL.on rfl rfl rfl (by simp) ?_
  refine TL.move hF rfl rfl ?_
  refine TL.on rfl rfl rfl (by simp) ?_
  refine TL.len hF rfl rfl ?_
  refine TL.on rfl rfl rfl (by simp) ?_
  refine TL.bin hF rfl rfl rfl rfl ?_
  refine TL.pickF hF rfl (by simp) rfl rfl ?_
  refine TL.nil ?_
  refine TQ.then_n ?_
  refine T.cond_f rfl (by simp [hll]) ?_
  refine T.skip ?_
  refine TQ.then_n ?_
  refine T.seq ?_
  refine T.seq ?_
  refine T.region ?_
  refine TL.assign hF rfl rfl ?_
  refine TL.nil ?_
  refine TQ.then_n ?_
  refine T.block ?_
  refine T.loop (ι:=Nat) (fun i=>i≤l1.length) (fun i=>[(0,.slice fa fl.length fc),(1,.slice ca cells.length cc),(3,.slice ra ps.length rc),(6,ptr b6),(8,.bool false),(9,.slice a1 l1.length c1),(10,.int .i64 (playS (fl.map TE.ex) cells top (erounds ps)).2),(11,.slice a2 l2.length c2),(12,.int .i64 (playS (fl.map TE.ex) cells top (erounds ps)).2),(13,.int .i64 (i:Int))]) (fun _=>s2++(s1++([(b6,Obj.cells (kC top).toArray 25 (0,0))]::η))) (fun i=>l1.length - i) 0 (Nat.zero_le _) ⟨rfl,rfl,rfl,rfl,rfl,rfl,rfl,rfl,rfl,rfl,trivial⟩ rfl ?_
  rintro i hi
  refine T.seq ?_
  refine T.seq ?_
  refine T.region ?_
  refine TL.move hF rfl rfl ?_
  refine TL.move hF rfl rfl ?_
  refine TL.len hF rfl rfl ?_
  refine TL.bin hF rfl rfl rfl rfl ?_
  refine TL.nil ?_
  refine TQ.then_n ?_
  first | refine T.cond_d rfl (fun ht47=>?_) (fun ht47=>?_) | refine T.cond _ rfl (fun ht47=>?_) (fun ht47=>?_)
  ·refine T.skip ?_
   refine TQ.then_n ?_
   refine T.seq ?_
   refine T.block ?_
   refine T.seq ?_
   have hil:i<l1.length:=by have h:(i:Int)<(l1.length:Int):=ht47; omega
   have hil2:i<l2.length:=by omega
   have hxr:l2[i].r=l1[i].r:=by
    have h1:(l1.map (·.r))[i]?=some l1[i].r:=by simp [hil]
    have h2:(l2.map (·.r))[i]?=some l2[i].r:=by simp [hil2]
    rw [hm1] at h1; rw [hm2] at h2
    exact Option.some.inj (h2.symm.trans h1)
   have hbl:rlen l1[i].r:=hpl.1 _ (by rw [← hm1]; exact List.mem_map_of_mem (List.getElem_mem hil))
   refine T.draw ?_
   refine DR.stepV [_] rfl [(9,_,none)] rfl rfl ⟨⟨rfl,by kernel_rfl⟩,trivial⟩ (fun ext=>TL.move hF rfl rfl TL.fin) ?_
   refine DR.stepV [_,_] rfl [(13,_,none)] rfl rfl ⟨⟨rfl,by kernel_rfl⟩,trivial⟩ (fun ext=>TL.move hF rfl rfl TL.fin) ?_
   refine DR.stepV [_,_,_] rfl [(50,_,some 0),(51,_,some 1)] rfl rfl ⟨⟨rfl,rfl,rfl⟩,⟨rfl,rfl,rfl⟩,trivial⟩ (fun ext=>TL.indexAddr hF rfl rfl (hl1.row.tad rhC_len (by decide) hil) (by omega) (by omega) rfl TL.fin) ?_
   refine DR.stepV [_,_,_,_] rfl [(52,_,some 2)] rfl rfl ⟨⟨rfl,rfl,rfl⟩,trivial⟩ (fun ext=>TL.loadA hF (rhC l1[i]) rfl rfl ((hl1.up (by intro s hs; simp [hs])).atA hil) rfl TL.fin) ?_
   refine DR.stepV [_,_,_,_,_] rfl [(11,_,none)] rfl rfl ⟨⟨rfl,by kernel_rfl⟩,trivial⟩ (fun ext=>TL.move hF rfl rfl TL.fin) ?_
   refine DR.stepV [_,_,_,_,_,_] rfl [(13,_,none)] rfl rfl ⟨⟨rfl,by kernel_rfl⟩,trivial⟩ (fun ext=>TL.move hF rfl rfl TL.fin) ?_
   refine DR.stepV [_,_,_,_,_,_,_] rfl [(54,_,some 4),(55,_,some 5)] rfl rfl ⟨⟨rfl,rfl,rfl⟩,⟨rfl,rfl,rfl⟩,trivial⟩ (fun ext=>TL.indexAddr hF rfl rfl (hl2.row.tad rhC_len (by decide) hil2) (by omega) (by omega) rfl TL.fin) ?_
   refine DR.stepV [_,_,_,_,_,_,_,_] rfl [(56,_,some 6)] rfl rfl ⟨⟨rfl,rfl,rfl⟩,trivial⟩ (fun ext=>TL.loadA hF (rhC l2[i]) rfl rfl ((hl2.up (by intro s hs; simp [hs])).atA hil2) rfl TL.fin) ?_
   refine DR.done [(57,_),(56,_),(55,_),(54,_),(53,_),(52,_),(51,_),(50,_)] [_,_] mixed (by kernel_rfl) (by kernel_rfl) (by kernel_rfl) rfl rfl ?_
   refine TL.callV hF (roundT_fn ((hl1.item _ (List.getElem_mem hil)).up (by intro s hs; simp [hs])) ((hl2.item _ (List.getElem_mem hil2)).up (by intro s hs; simp [hs])) hxr hbl) rfl rfl ?_
   refine TL.not hF rfl rfl ?_
   refine TL.nil ?_
   refine TQ.then_n ?_
   refine T.cond_f rfl rfl ?_
   refine T.skip ?_
   refine TQ.block_n ?_
   refine TQ.then_n ?_
   refine T.region ?_
   refine TL.move hF rfl rfl ?_
   refine TL.add hF rfl rfl (by omega) (by omega) rfl ?_
   refine TL.assign hF rfl rfl ?_
   refine TL.nil ?_
   refine TQ.round (i+1) (by omega) (by omega) ⟨rfl,rfl,rfl,rfl,rfl,rfl,rfl,rfl,rfl,rfl,trivial⟩ rfl
  ·refine T.exit ?_
   refine TQ.then_x ?_
   refine TQ.then_x ?_
   refine TQ.block_x ?_
   refine TQ.then_n ?_
   refine T.seq ?_
   refine T.region ?_
   refine TL.call hF (traced_law hT) rfl rfl ?_
   rintro _ _ rfl
   refine TL.assign hF rfl rfl ?_
   refine TL.nil ?_
   refine TQ.then_n ?_
   refine T.ret ?_
   refine TQ.rets [8] _ rfl rfl rfl rfl
end Go.Proofs.YtdiacobmhkmljaaGreatDoor
namespace Go.Proofs.YtdiacobmhkmljaaGreatDoor
open Go.Sl Go.ChangeShapes Go.WideShapes Go.ChangeAt Go.RowKit
set_option maxRecDepth 100000 in
theorem tracePlays_lifted (os : Os) (started : os.Started) (H : Type) (enc : TypeId × Value → H) :
    ReturnsInHanded {} Tryz.checked os 4 .any (fun w args=>(Rows.tracePlaysSpec.pre enc Tryz.prog Tryz.f4 [] false w args∧laidMetH Tryz.prog laidL w)∧sizedMet enc Tryz.prog Tryz.f4 (OpenSpec.ofChange Rows.tracePlaysSpec) false w args)
      (Rows.tracePlaysSpec.post enc Tryz.prog Tryz.f4 false true false false):=by
  refine returnsInHanded_of_change_and (C:=Tryz.checked) (X:=fun w _=>laidMetH Tryz.prog laidL w) (fun _ _ _ hh h=>h.of_heap hh) Tryz.own started (by kernel_rfl) Tryz.func4
    (ChangeSpec.witness_shaped (enc:=enc) (C:=Tryz.checked) (os:=os) (X:=fun w _=>laidMetH Tryz.prog laidL w) false (World.doorLaid Tryz.prog 2000 os) #[.slice none 0 0,.slice none 0 0,.agg #[.int .i64 0,.int .i64 0],.slice none 0 0] 8 rfl (World.shaped_of_RefB (by kernel_rfl) (by kernel_rfl)) (by kernel_rfl) (by kernel_rfl) (by kernel_rfl) (door_met os _)) ?_
  intro W base args ds gs before hval0 hW _ hwt hL _
  have hval':∀ (j:Nat) t v,Tryz.f4.params[j]?=some t→args[j]?=some v→Value.okWide Tryz.prog W .any base t v:=hval0
  have hW':=hW
  obtain ⟨p,q,hA0,hV,rfl,hfz,hnd⟩:=hW
  have hA:DataW.TrodAll enc Tryz.prog W 0 (fun _=>true) true [22,23,25,38] args.toList ds p:=hA0
  obtain ⟨v0,v1,v2,v3,d0,d1,d2,d3,p0,p1,p2,p3,rfl,rfl,rfl,h0,h1,h2,h3⟩:=trodAll_four hA
  obtain ⟨_,_,_,rfl⟩:=okWide_slice u22 (hval' 0 22 v0 rfl rfl)
  obtain ⟨_,h0⟩:=h0
  obtain ⟨a0,xs0,c0,e0,hx0,hl0⟩:=exps_read h0
  obtain ⟨_,_,_,rfl⟩:=okWide_slice uIs (hval' 1 23 v1 rfl rfl)
  obtain ⟨_,h1⟩:=h1
  obtain ⟨a1,xs1,c1,e1,hx1,hl1⟩:=ints_arg h1
  obtain ⟨k2,rfl⟩:=key_open (hval' 2 25 v2 rfl rfl) h2
  obtain ⟨_,_,_,rfl⟩:=okWide_slice u38 (hval' 3 38 v3 rfl rfl)
  obtain ⟨_,h3⟩:=h3
  obtain ⟨a3,xs3,c3,e3,hx3,hl3,hb3⟩:=rounds_read h3
  rw [e0,e1,e3] at hW' ⊢
  refine (calls_true (TracePlays_fn (tabs_of_laid hL) hx0 hl0 hx1 hl1 hx3 hl3 hb3)).mono fun e W' ⟨he,hw⟩=>⟨_,he,?_⟩
  exact law_post (f:=Tryz.f4) Tryz.laidOut rfl 4 rfl u4 hW' rfl (by decide +kernel) hw
theorem tracePlays_said:Rows.TracePlaysSaid :=
  OpenClaim.holds_of_wide 4 Tryz.f4 rfl rfl rfl rfl rfl rfl rfl ⟨rfl,rfl,rfl,rfl,rfl⟩ rfl rfl rfl rfl rfl (by kernel_rfl) Tryz.func4 (by kernel_rfl)
    (of_decide_eq_true (by kernel_rfl)) (by unfold Func.isWrapper; first | (rw [if_pos (by decide +kernel)]; kernel_rfl) | (rw [if_neg (by decide +kernel)]; exact ⟨rfl,rfl⟩))
    (fun os started H enc _=>tracePlays_lifted os started H enc)
theorem tracePlays_holds:Rows.TracePlaysCardSaid :=
  Claim7.holds_tied_plain_at .later [] [.funcs, .data] true (true, "4072cded81eb3aa3507c01493a83d7939adc71604a631b74f272a8f05637049e") false
    tracePlays_said (fun _ h=>by cases h) (by kernel_rfl) (fun _ h=>by cases h) tracePlays_row_tie rfl ⟨rfl,rfl⟩ (by kernel_rfl) rfl
    (fun f fn hf hfn=>by
      obtain rfl : f = 4 := Option.some.inj ((show Tryz.prog.funcNamed "deltaworks/deltaworkslaw24.TracePlays" = some 4 by kernel_rfl).symm.trans hf) |>.symm
      obtain rfl:fn=Tryz.f4:=(Option.some.inj (Tryz.func4.symm.trans hfn)).symm
      exact ⟨by kernel_rfl,fun j t ht=>by
        have ht2:(#[22,23,25,38]:Array TypeId)[j]?=some t:=ht
        have hm:t∈([22,23,25,38]:List TypeId):=by simpa using Array.mem_of_getElem? ht2
        have hall:(([22,23,25,38]:List TypeId).all fun u=>!Tryz.prog.wantsStandIn u)=true:=by kernel_rfl
        exact (show Tryz.prog.wantsStandIn t=false by simpa using List.all_eq_true.1 hall t hm)⟩)
    (by kernel_rfl)
#print axioms tracePlays_holds
end Go.Proofs.YtdiacobmhkmljaaGreatDoor
