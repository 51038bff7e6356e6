/- Distance answers as the chapter says, for every input. No condition. -/
import Derived.Test.YtdiacobmhkmljaaGreatDoorUg
import Derived.Test.YtdiacobmhkmljaaGreatDoorUh
import Derived.Test.YtdiacobmhkmljaaGreatDoorCards
import Derived.Test.YtdiacobmhkmljaaGreatDoorTie
/- The laws of runs, and of distances. -/
namespace Go.Proofs.YtdiacobmhkmljaaGreatDoor
open Go.Sl
variable {S:Nat→Prop} {w0:World} {η:Heap}
set_option maxHeartbeats 4000000 in
theorem TraceRuns_fn {fa ca : Option Addr} {fl : List TE} {fc cc : Nat} {cells : List Int} {top : Key} (hT : Tabs S w0) (hf : Fs S w0 [] fa fl) (hfl : fl.length < 9223372036854775808) (hc : Row S w0 [] ca (ints cells)) (hcl : cells.length < 9223372036854775808) :
  Rt Tryz.prog 3 [.slice fa fl.length fc,.slice ca cells.length cc,kV top].toArray S w0 η (fun v _=>v = .bool true):=by
 have hF:=open_wide
 refine Rt.of (fn:=Tryz.f3) Tryz.func3 rfl rfl ?_
 refine T.seq ?_
 refine T.region ?_
 refine TL.box hF rfl rfl (fun b5=>?_)
 refine TL.assign hF rfl rfl ?_
 refine TL.nil ?_
 refine TQ.then_n ?_
 refine T.seq ?_
 refine T.seq ?_
 refine T.region ?_
 refine TL.heap (η':=[(b5,Obj.cells (kC top).toArray 25 (0,0))]::η) rfl ?_
 refine TL.fieldAddr hF rfl rfl ?_
 refine TL.load hF rfl (own_mem (b:=b5) (cs:=(kC top).toArray) (e:=25) (fz:=(0,0)) (by simp) rfl) rfl ?_
 refine TL.callV hF (Lies_fn top.2 31 200) rfl rfl ?_
 refine TL.nil ?_
 refine TQ.then_n ?_
 refine T.cond _ rfl (fun ht17=>?_) (fun ht17=>?_)
 ·refine T.seq ?_
  refine T.region ?_
  refine TL.call hF (traced_law hT) rfl rfl ?_
  rintro _ _ rfl
  refine TL.assign hF rfl rfl ?_
  refine TL.nil ?_
  refine TQ.then_n ?_
  refine T.ret ?_
  refine TQ.then_r ?_
  refine TQ.rets [6] _ rfl rfl rfl rfl
 ·refine T.skip ?_
  refine TQ.then_n ?_
  refine T.seq ?_
  refine T.region ?_
  refine TL.move hF rfl rfl ?_
  refine TL.move hF rfl rfl ?_
  refine TL.loadA hF (kC top) rfl rfl (own_listM (b:=b5) (cs:=kC top) (e:=25) (fz:=(0,0)) (by simp)) rfl ?_
  refine TL.call hF (Run_fn (cc:=cc) (fc:=fc) hT hf hfl hc hcl) rfl rfl ?_
  rintro _ _ ⟨a1,c1,l1,s1,rfl,hn1,hl1,hp1,rfl⟩
  refine TL.move hF rfl rfl ?_
  refine TL.extract hF rfl rfl rfl ?_
  refine TL.extract hF rfl rfl rfl ?_
  refine TL.assign hF rfl rfl ?_
  refine TL.assign hF rfl rfl ?_
  refine TL.nil ?_
  refine TQ.then_n ?_
  refine T.seq ?_
  refine T.region ?_
  refine TL.move hF rfl rfl ?_
  refine TL.move hF rfl rfl ?_
  refine TL.loadA hF (kC top) rfl rfl (own_listM (b:=b5) (cs:=kC top) (e:=25) (fz:=(0,0)) (by simp)) rfl ?_
  refine TL.call hF (RunR_fn (cc:=cc) (fc:=fc) hf hfl hc hcl) rfl rfl ?_
  rintro _ _ ⟨a2,c2,l2,s2,rfl,hn2,hl2,hp2,rfl⟩
  refine TL.move hF rfl rfl ?_
  refine TL.extract hF rfl rfl rfl ?_
  refine TL.extract hF rfl rfl rfl ?_
  refine TL.assign hF rfl rfl ?_
  refine TL.assign hF rfl rfl ?_
  refine TL.nil ?_
  refine TQ.then_n ?_
  refine T.seq ?_
  refine T.region ?_
  refine TL.move hF rfl rfl ?_
  refine TL.move hF rfl rfl ?_
  refine TL.loadA hF (kC top) rfl rfl (own_listM (b:=b5) (cs:=kC top) (e:=25) (fz:=(0,0)) (by simp)) rfl ?_
  refine TL.call hF (Needs_fn (cc:=cc) (fc:=fc) hT hf hfl hc hcl) rfl rfl ?_
  rintro _ _ ⟨a3,c3,s3,rfl,hl3,rfl⟩
  refine TL.move hF rfl rfl ?_
  refine TL.extract hF rfl rfl rfl ?_
  refine TL.extract hF rfl rfl rfl ?_
  refine TL.assign hF rfl rfl ?_
  refine TL.assign hF rfl rfl ?_
  refine TL.nil ?_
  refine TQ.then_n ?_
  refine T.seq ?_
  refine T.region ?_
  refine TL.move hF rfl rfl ?_
  refine TL.move hF rfl rfl ?_
  refine TL.loadA hF (kC top) rfl rfl (own_listM (b:=b5) (cs:=kC top) (e:=25) (fz:=(0,0)) (by simp)) rfl ?_
  refine TL.call hF (NeedsR_fn (cc:=cc) (fc:=fc) hf hfl hc hcl) rfl rfl ?_
  rintro _ _ ⟨a4,c4,s4,rfl,hl4,rfl⟩
  have hll:l1.length<9223372036854775808:=by
   rw [← nds_len,hn1]
   unfold runE
   split
   ·rename_i h
    obtain ⟨hsc,hk⟩:=scn_of h
    have:=trace_len hsc hk
    show (traceS _ _ _).length<_
    omega
   ·simp
  have hnl:(needsS (fl.map TE.ex) cells top).1.length<9223372036854775808:=by
   unfold needsS
   split
   ·rename_i h
    obtain ⟨hsc,hk⟩:=scn_of h
    have:=(ris_len (l:=cellsOf (traceS (fl.map TE.ex) cells top)) (fun x hx=>by
     obtain ⟨y,hy,d,hd,h1,rfl⟩:=mem_cellsOf.1 hx
     exact tra_rng hsc hk y hy d hd h1)).1
    show ((cellsOf (traceS (fl.map TE.ex) cells top)).foldl risI []).length<_
    omega
   ·simp
  refine TL.move hF rfl rfl ?_
  refine TL.extract hF rfl rfl rfl ?_
  refine TL.extract hF rfl rfl rfl ?_
  refine TL.assign hF rfl rfl ?_
  refine TL.assign hF rfl rfl ?_
  refine TL.nil ?_
  refine TQ.then_n ?_
  refine T.seq ?_
  refine T.region ?_
  refine TL.move hF rfl rfl ?_
  refine TL.callV hF (Check_fn hT hf hfl) rfl rfl ?_
  refine TL.move hF rfl rfl ?_
  refine TL.callV hF (CheckR_fn hf hfl) rfl rfl ?_
  refine TL.bin hF rfl rfl rfl rfl ?_
  refine TL.move hF rfl rfl ?_
  refine TL.on rfl rfl rfl (decide_eq_true rfl) ?_
  refine TL.move hF rfl rfl ?_
  refine TL.on rfl rfl rfl (decide_eq_true rfl) ?_
  refine TL.move hF rfl rfl ?_
  refine TL.on rfl rfl rfl (decide_eq_true rfl) ?_
  refine TL.callV hF (nodesL_fn (hl1.up (by intro s hs; simp [hs])) (hl2.up (by intro s hs; simp [hs])) hll) rfl rfl ?_
  refine TL.pickT hF rfl (decide_eq_true rfl) rfl rfl ?_
  refine TL.move hF rfl rfl ?_
  refine TL.on rfl rfl rfl (decide_eq_true (hn1.trans hn2.symm)) ?_
  refine TL.move hF rfl rfl ?_
  refine TL.on rfl rfl rfl (decide_eq_true (hn1.trans hn2.symm)) ?_
  refine TL.move hF rfl rfl ?_
  refine TL.on rfl rfl rfl (decide_eq_true (hn1.trans hn2.symm)) ?_
  refine TL.bin hF rfl rfl rfl rfl ?_
  refine TL.pickT hF rfl (decide_eq_true (hn1.trans hn2.symm)) rfl rfl ?_
  refine TL.move hF rfl rfl ?_
  refine TL.on rfl rfl rfl (decide_eq_true rfl) ?_
  refine TL.move hF rfl rfl ?_
  refine TL.on rfl rfl rfl (decide_eq_true rfl) ?_
  refine TL.move hF rfl rfl ?_
  refine TL.on rfl rfl rfl (decide_eq_true rfl) ?_
  refine TL.callV hF (Equal_fn (hl3.up (by intro s hs; simp [hs])) (hl4.up (by intro s hs; simp [hs])) hnl) rfl rfl ?_
  refine TL.pickT hF rfl (decide_eq_true rfl) rfl rfl ?_
  refine TL.move hF rfl rfl ?_
  refine TL.on rfl rfl rfl (decide_eq_true rfl) ?_
  refine TL.move hF rfl rfl ?_
  refine TL.on rfl rfl rfl (decide_eq_true rfl) ?_
  refine TL.move hF rfl rfl ?_
  refine TL.on rfl rfl rfl (decide_eq_true rfl) ?_
  refine TL.bin hF rfl rfl rfl rfl ?_
  refine TL.pickT hF rfl (decide_eq_true rfl) rfl rfl ?_
  refine TL.move hF rfl rfl ?_
  refine TL.on rfl rfl rfl (decide_eq_true rfl) ?_
  refine TL.call hF (traced_law hT) rfl rfl ?_
  rintro _ _ rfl
  refine TL.pickT hF rfl (decide_eq_true rfl) rfl rfl ?_
  refine TL.assign hF rfl rfl ?_
  refine TL.nil ?_
  refine TQ.then_n ?_
  refine T.ret ?_
  refine TQ.rets [6] _ rfl rfl rfl rfl
set_option maxHeartbeats 4000000 in
theorem TraceApart_fn {fa ca da : Option Addr} {fl : List TE} {fc cc dc : Nat} {cells others : List Int} {top : Key} (hT : Tabs S w0) (hf : Fs S w0 [] fa fl) (hfl : fl.length < 9223372036854775808) (hc : Row S w0 [] ca (ints cells)) (hcl : cells.length < 9223372036854775808) (hd : Row S w0 [] da (ints others)) (hdl : others.length < 9223372036854775808) :
  Rt Tryz.prog 5 [.slice fa fl.length fc,.slice ca cells.length cc,.slice da others.length dc,kV top].toArray S w0 η (fun v _=>v = .bool true):=by
 have hF:=open_wide
 refine Rt.of (fn:=Tryz.f5) Tryz.func5 rfl rfl ?_
 refine T.seq ?_
 refine T.region ?_
 refine TL.box hF rfl rfl (fun b7=>?_)
 refine TL.assign hF rfl rfl ?_
 refine TL.nil ?_
 refine TQ.then_n ?_
 refine T.seq ?_
 refine T.seq ?_
 refine T.region ?_
 refine TL.heap (η':=[(b7,Obj.cells (kC top).toArray 25 (0,0))]::η) rfl ?_
 refine TL.fieldAddr hF rfl rfl ?_
 refine TL.load hF rfl (own_mem (b:=b7) (cs:=(kC top).toArray) (e:=25) (fz:=(0,0)) (by simp) rfl) rfl ?_
 refine TL.callV hF (Lies_fn top.2 31 200) rfl rfl ?_
 refine TL.nil ?_
 refine TQ.then_n ?_
 refine T.cond _ rfl (fun ht15=>?_) (fun ht15=>?_)
 ·refine T.seq ?_
  refine T.region ?_
  refine TL.call hF (traced_law hT) rfl rfl ?_
  rintro _ _ rfl
  refine TL.assign hF rfl rfl ?_
  refine TL.nil ?_
  refine TQ.then_n ?_
  refine T.ret ?_
  refine TQ.then_r ?_
  refine TQ.rets [8] _ rfl rfl rfl rfl
 ·refine T.skip ?_
  refine TQ.then_n ?_
  refine T.seq ?_
  refine T.region ?_
  refine TL.move hF rfl rfl ?_
  refine TL.move hF rfl rfl ?_
  refine TL.move hF rfl rfl ?_
  refine TL.loadA hF (kC top) rfl rfl (own_listM (b:=b7) (cs:=kC top) (e:=25) (fz:=(0,0)) (by simp)) rfl ?_
  refine TL.call hF (Distance_fn (cc:=cc) (fc:=fc) (dc:=dc) hT hf hfl hc hcl hd hdl) rfl rfl ?_
  rintro _ _ ⟨rfl,rfl⟩
  refine TL.move hF rfl rfl ?_
  refine TL.extract hF rfl rfl rfl ?_
  refine TL.extract hF rfl rfl rfl ?_
  refine TL.assign hF rfl rfl ?_
  refine TL.assign hF rfl rfl ?_
  refine TL.nil ?_
  refine TQ.then_n ?_
  refine T.seq ?_
  refine T.region ?_
  refine TL.move hF rfl rfl ?_
  refine TL.move hF rfl rfl ?_
  refine TL.move hF rfl rfl ?_
  refine TL.loadA hF (kC top) rfl rfl (own_listM (b:=b7) (cs:=kC top) (e:=25) (fz:=(0,0)) (by simp)) rfl ?_
  refine TL.call hF (DistanceR_fn (cc:=cc) (fc:=fc) (dc:=dc) hf hfl hc hcl hd hdl) rfl rfl ?_
  rintro _ _ ⟨s1,rfl,rfl⟩
  refine TL.move hF rfl rfl ?_
  refine TL.extract hF rfl rfl rfl ?_
  refine TL.extract hF rfl rfl rfl ?_
  refine TL.assign hF rfl rfl ?_
  refine TL.assign hF rfl rfl ?_
  refine TL.nil ?_
  refine TQ.then_n ?_
  refine T.seq ?_
  refine T.region ?_
  refine TL.move hF rfl rfl ?_
  refine TL.move hF rfl rfl ?_
  refine TL.bin hF rfl rfl rfl rfl ?_
  refine TL.move hF rfl rfl ?_
  refine TL.on rfl rfl rfl (decide_eq_true rfl) ?_
  refine TL.move hF rfl rfl ?_
  refine TL.on rfl rfl rfl (decide_eq_true rfl) ?_
  refine TL.move hF rfl rfl ?_
  refine TL.on rfl rfl rfl (decide_eq_true rfl) ?_
  refine TL.bin hF rfl rfl rfl rfl ?_
  refine TL.pickT hF rfl (decide_eq_true rfl) rfl rfl ?_
  refine TL.move hF rfl rfl ?_
  refine TL.on rfl rfl rfl (decide_eq_true rfl) ?_
  refine TL.call hF (traced_law hT) rfl rfl ?_
  rintro _ _ rfl
  refine TL.pickT hF rfl (decide_eq_true rfl) rfl rfl ?_
  refine TL.assign hF rfl rfl ?_
  refine TL.nil ?_
  refine TQ.then_n ?_
  refine T.ret ?_
  refine TQ.rets [8] _ rfl rfl rfl rfl
end Go.Proofs.YtdiacobmhkmljaaGreatDoor
namespace Go.Proofs.YtdiacobmhkmljaaGreatDoor
open Go.Sl Go.ChangeShapes Go.WideShapes Go.ChangeAt Go.RowKit
set_option maxRecDepth 100000 in
theorem traceApart_lifted (os : Os) (started : os.Started) (H : Type) (enc : TypeId × Value → H) :
    ReturnsInHanded {} Tryz.checked os 5 .any (fun w args=>(Rows.traceApartSpec.pre enc Tryz.prog Tryz.f5 [] false w args∧laidMetH Tryz.prog laidL w)∧sizedMet enc Tryz.prog Tryz.f5 (OpenSpec.ofChange Rows.traceApartSpec) false w args)
      (Rows.traceApartSpec.post enc Tryz.prog Tryz.f5 false true false false):=by
  refine returnsInHanded_of_change_and (C:=Tryz.checked) (X:=fun w _=>laidMetH Tryz.prog laidL w) (fun _ _ _ hh h=>h.of_heap hh) Tryz.own started (by kernel_rfl) Tryz.func5
    (ChangeSpec.witness_shaped (enc:=enc) (C:=Tryz.checked) (os:=os) (X:=fun w _=>laidMetH Tryz.prog laidL w) false (World.doorLaid Tryz.prog 2000 os) #[.slice none 0 0,.slice none 0 0,.slice none 0 0,.agg #[.int .i64 0,.int .i64 0]] 8 rfl (World.shaped_of_RefB (by kernel_rfl) (by kernel_rfl)) (by kernel_rfl) (by kernel_rfl) (by kernel_rfl) (door_met os _)) ?_
  intro W base args ds gs before hval0 hW _ hwt hL _
  have hval':∀ (j:Nat) t v,Tryz.f5.params[j]?=some t→args[j]?=some v→Value.okWide Tryz.prog W .any base t v:=hval0
  have hW':=hW
  obtain ⟨p,q,hA0,hV,rfl,hfz,hnd⟩:=hW
  have hA:DataW.TrodAll enc Tryz.prog W 0 (fun _=>true) true [22,23,23,25] args.toList ds p:=hA0
  obtain ⟨v0,v1,v2,v3,d0,d1,d2,d3,p0,p1,p2,p3,rfl,rfl,rfl,h0,h1,h2,h3⟩:=trodAll_four hA
  obtain ⟨_,_,_,rfl⟩:=okWide_slice u22 (hval' 0 22 v0 rfl rfl)
  obtain ⟨_,h0⟩:=h0
  obtain ⟨a0,xs0,c0,e0,hx0,hl0⟩:=exps_read h0
  obtain ⟨_,_,_,rfl⟩:=okWide_slice uIs (hval' 1 23 v1 rfl rfl)
  obtain ⟨_,h1⟩:=h1
  obtain ⟨a1,xs1,c1,e1,hx1,hl1⟩:=ints_arg h1
  obtain ⟨_,_,_,rfl⟩:=okWide_slice uIs (hval' 2 23 v2 rfl rfl)
  obtain ⟨_,h2⟩:=h2
  obtain ⟨a2,xs2,c2,e2,hx2,hl2⟩:=ints_arg h2
  obtain ⟨k3,rfl⟩:=key_open (hval' 3 25 v3 rfl rfl) h3
  rw [e0,e1,e2] at hW' ⊢
  refine (calls_true (TraceApart_fn (tabs_of_laid hL) hx0 hl0 hx1 hl1 hx2 hl2)).mono fun e W' ⟨he,hw⟩=>⟨_,he,?_⟩
  exact law_post (f:=Tryz.f5) Tryz.laidOut rfl 4 rfl u4 hW' rfl (by decide +kernel) hw
theorem traceApart_said:Rows.TraceApartSaid :=
  OpenClaim.holds_of_wide 5 Tryz.f5 rfl rfl rfl rfl rfl rfl rfl ⟨rfl,rfl,rfl,rfl,rfl⟩ rfl rfl rfl rfl rfl (by kernel_rfl) Tryz.func5 (by kernel_rfl)
    (of_decide_eq_true (by kernel_rfl)) (by unfold Func.isWrapper; first | (rw [if_pos (by decide +kernel)]; kernel_rfl) | (rw [if_neg (by decide +kernel)]; exact ⟨rfl,rfl⟩))
    (fun os started H enc _=>traceApart_lifted os started H enc)
theorem traceApart_holds:Rows.TraceApartCardSaid :=
  Claim7.holds_tied_plain_at .later [] [.funcs, .data] true (true, "4072cded81eb3aa3507c01493a83d7939adc71604a631b74f272a8f05637049e") false
    traceApart_said (fun _ h=>by cases h) (by kernel_rfl) (fun _ h=>by cases h) traceApart_row_tie rfl ⟨rfl,rfl⟩ (by kernel_rfl) rfl
    (fun f fn hf hfn=>by
      obtain rfl : f = 5 := Option.some.inj ((show Tryz.prog.funcNamed "deltaworks/deltaworkslaw24.TraceApart" = some 5 by kernel_rfl).symm.trans hf) |>.symm
      obtain rfl:fn=Tryz.f5:=(Option.some.inj (Tryz.func5.symm.trans hfn)).symm
      exact ⟨by kernel_rfl,fun j t ht=>by
        have ht2:(#[22,23,23,25]:Array TypeId)[j]?=some t:=ht
        have hm:t∈([22,23,23,25]:List TypeId):=by simpa using Array.mem_of_getElem? ht2
        have hall:(([22,23,23,25]:List TypeId).all fun u=>!Tryz.prog.wantsStandIn u)=true:=by kernel_rfl
        exact (show Tryz.prog.wantsStandIn t=false by simpa using List.all_eq_true.1 hall t hm)⟩)
    (by kernel_rfl)
#print axioms traceApart_holds
end Go.Proofs.YtdiacobmhkmljaaGreatDoor
