/- Windows, Whole and Check answer as the chapter says, for every input. No condition. -/
import Derived.Test.YtbajelldegijkaaDoorVg
import Derived.Test.YtbajelldegijkaaDoorCards
import Derived.Test.YtbajelldegijkaaDoorTie
/- The law: Windows, Whole and Check are the reference's. -/
namespace Go.Proofs.YtbajelldegijkaaDoor
open Go.Sl
variable {S:Nat→Prop} {w0:World} {η:Heap}
set_option maxHeartbeats 8000000 in
theorem WindowTells_fn {s : Wsp} {t : Int} {a : Option Addr} {l : List Rw} {c : Nat} (hT : Tabs S w0) (hz : -9223372036854775808 ≤ s.size ∧ s.size ≤ 9223372036854775807) (hx : RRow S w0 [] a l) (hl : l.length < 9223372036854775808) (hc : l.length ≤ c) :
  Rt Tryd.prog 3 [wsV s,.slice a l.length c,.int .i64 t].toArray S w0 η (fun v _=>v = .bool true):=by
 have hF:=open_wide
 refine Rt.of (fn:=Tryd.f3) Tryd.func3 rfl rfl ?_
 refine T.seq ?_
 refine T.region ?_
 refine TL.box hF rfl rfl (fun b3=>?_)
 refine TL.assign hF rfl rfl ?_
 refine TL.nil ?_
 refine TQ.then_n ?_
 refine T.seq ?_
 refine T.seq ?_
 refine T.region ?_
 have hb:=Back.refl S w0
 refine TL.loadA hF (wsC s) rfl rfl (own_list (i:=0) (cs:=wsC s) rfl) rfl ?_
 refine TL.move hF rfl rfl ?_
 refine TL.call hF (many_fn (s:=s) (l:=l) (c:=c) (a:=a) hz) rfl rfl ?_
 rintro _ _ ⟨⟨bb,rfl⟩,he⟩
 subst he
 refine TL.nil ?_
 refine TQ.then_n ?_
 refine T.cond _ rfl (fun ht18=>?_) (fun ht18=>?_)
 ·refine T.seq ?_
  refine T.region ?_
  refine TL.call hF (windowed_law hT) rfl rfl ?_
  rintro _ _ rfl
  refine TL.assign hF rfl rfl ?_
  refine TL.nil ?_
  refine TQ.then_n ?_
  refine T.ret ?_
  refine TQ.then_r ?_
  exact TQ.retsF [6] _ hb rfl rfl rfl (fun _=>rfl)
 ·refine T.skip ?_
  refine TQ.then_n ?_
  refine T.seq ?_
  refine T.region ?_
  refine TL.loadA hF (wsC s) rfl rfl (own_list (i:=0) (cs:=wsC s) rfl) rfl ?_
  refine TL.move hF rfl rfl ?_
  refine TL.call hF (Windows_fn hT s t) rfl rfl ?_
  rintro _ _ ⟨a1,c1,segs,rfl,h1,rfl⟩
  refine TL.freeze (segs) rfl (fun S1 w1 hz1=>?_)
  replace hb:=hb.frz hz1
  replace hT:=hT.old hz1
  replace hx:=hx.old hz1
  replace h1:=h1.frz hz1
  refine TL.move hF rfl rfl ?_
  refine TL.extract hF rfl rfl rfl ?_
  refine TL.extract hF rfl rfl rfl ?_
  refine TL.assign hF rfl rfl ?_
  refine TL.assign hF rfl rfl ?_
  refine TL.nil ?_
  refine TQ.then_n ?_
  refine T.seq ?_
  refine T.region ?_
  refine TL.loadA hF (wsC s) rfl rfl (own_list (i:=0) (cs:=wsC s) rfl) rfl ?_
  refine TL.move hF rfl rfl ?_
  refine TL.call hF (WindowsR_fn s t) rfl rfl ?_
  rintro _ _ ⟨a2,c2,segs,rfl,h2,rfl⟩
  refine TL.freeze (segs) rfl (fun S2 w2 hz2=>?_)
  replace hb:=hb.frz hz2
  replace hT:=hT.old hz2
  replace hx:=hx.old hz2
  replace h1:=h1.old hz2
  replace h2:=h2.frz hz2
  refine TL.move hF rfl rfl ?_
  refine TL.extract hF rfl rfl rfl ?_
  refine TL.extract hF rfl rfl rfl ?_
  refine TL.assign hF rfl rfl ?_
  refine TL.assign hF rfl rfl ?_
  refine TL.nil ?_
  refine TQ.then_n ?_
  refine T.seq ?_
  refine T.region ?_
  refine TL.loadA hF (wsC s) rfl rfl (own_list (i:=0) (cs:=wsC s) rfl) rfl ?_
  refine TL.move hF rfl rfl ?_
  refine TL.call hF (Whole_fn hT s hx hl hc) rfl rfl ?_
  rintro _ _ ⟨a3,c3,segs,rfl,h3,rfl⟩
  refine TL.freeze (segs) rfl (fun S3 w3 hz3=>?_)
  replace hb:=hb.frz hz3
  replace hT:=hT.old hz3
  replace hx:=hx.old hz3
  replace h1:=h1.old hz3
  replace h2:=h2.old hz3
  replace h3:=h3.frz hz3
  refine TL.move hF rfl rfl ?_
  refine TL.extract hF rfl rfl rfl ?_
  refine TL.extract hF rfl rfl rfl ?_
  refine TL.assign hF rfl rfl ?_
  refine TL.assign hF rfl rfl ?_
  refine TL.nil ?_
  refine TQ.then_n ?_
  refine T.seq ?_
  refine T.region ?_
  refine TL.loadA hF (wsC s) rfl rfl (own_list (i:=0) (cs:=wsC s) rfl) rfl ?_
  refine TL.move hF rfl rfl ?_
  refine TL.call hF (WholeR_fn (s:=s) (hx.up (by simp)) hl) rfl rfl ?_
  rintro _ _ ⟨a4,c4,segs,rfl,h4,rfl⟩
  refine TL.freeze (segs) rfl (fun S4 w4 hz4=>?_)
  replace hb:=hb.frz hz4
  replace hT:=hT.old hz4
  replace hx:=hx.old hz4
  replace h1:=h1.old hz4
  replace h2:=h2.old hz4
  replace h3:=h3.old hz4
  replace h4:=h4.frz hz4
  refine TL.move hF rfl rfl ?_
  refine TL.extract hF rfl rfl rfl ?_
  refine TL.extract hF rfl rfl rfl ?_
  refine TL.assign hF rfl rfl ?_
  refine TL.assign hF rfl rfl ?_
  refine TL.nil ?_
  refine TQ.then_n ?_
  refine T.seq ?_
  refine T.seq ?_
  have hwl:(wholeS s l).1.length<1000000000000:=by
   unfold wholeS
   split
   ·rename_i h; have:=all_len (askd_of h); show (allS s l).length<_; omega
   ·simp
  refine T.draw ?_
  refine DR.stepV [_] rfl [(3,_,none)] rfl rfl ⟨⟨rfl,by kernel_rfl⟩,trivial⟩ (fun ext=>TL.loadA hF (wsC s) rfl rfl (own_list (i:=0) (cs:=wsC s) rfl) rfl TL.fin) ?_
  refine DR.stepV [_,_] rfl [(44,_,some 0)] rfl rfl ⟨⟨rfl,rfl,rfl⟩,trivial⟩ (fun ext=>TL.callV hF (Check_fn hT s) rfl rfl TL.fin) ?_
  refine DR.stepV [_,_,_] rfl [(3,_,none)] rfl rfl ⟨⟨rfl,by kernel_rfl⟩,trivial⟩ (fun ext=>TL.loadA hF (wsC s) rfl rfl (own_list (i:=0) (cs:=wsC s) rfl) rfl TL.fin) ?_
  refine DR.stepV [_,_,_,_] rfl [(46,_,some 2)] rfl rfl ⟨⟨rfl,rfl,rfl⟩,trivial⟩ (fun ext=>TL.callV hF (CheckR_fn s) rfl rfl TL.fin) ?_
  refine DR.stepV [_,_,_,_,_] rfl [(45,_,some 1),(47,_,some 3)] rfl rfl ⟨⟨rfl,rfl,rfl⟩,⟨rfl,rfl,rfl⟩,trivial⟩ (fun ext=>TL.bin hF rfl rfl rfl rfl TL.fin) ?_
  refine DR.stepV [_,_,_,_,_,_] rfl [(48,_,some 4)] rfl rfl ⟨⟨rfl,rfl,rfl⟩,trivial⟩ (fun ext=>TL.move hF rfl rfl TL.fin) ?_
  refine DR.stepV [_,_,_,_,_,_,_] rfl [(8,_,none),(49,_,some 5)] rfl rfl ⟨⟨rfl,by kernel_rfl⟩,⟨rfl,rfl,rfl⟩,trivial⟩ (fun ext=>TL.on rfl rfl rfl (by simp) <| TL.move hF rfl rfl TL.fin) ?_
  refine DR.stepV [_,_,_,_,_,_,_,_] rfl [(10,_,none),(49,_,some 5)] rfl rfl ⟨⟨rfl,by kernel_rfl⟩,⟨rfl,rfl,rfl⟩,trivial⟩ (fun ext=>TL.on rfl rfl rfl (by simp) <| TL.move hF rfl rfl TL.fin) ?_
  refine DR.stepV [_,_,_,_,_,_,_,_,_] rfl [(50,_,some 6),(51,_,some 7),(49,_,some 5)] rfl rfl ⟨⟨rfl,rfl,rfl⟩,⟨rfl,rfl,rfl⟩,⟨rfl,rfl,rfl⟩,trivial⟩ (fun ext=>TL.on rfl rfl rfl (by simp) <| TL.bin hF rfl rfl rfl rfl TL.fin) ?_
  refine DR.stepV [_,_,_,_,_,_,_,_,_,_] rfl [(49,_,some 5),(52,_,some 8)] rfl rfl ⟨⟨rfl,rfl,rfl⟩,⟨rfl,rfl,rfl⟩,trivial⟩ (fun ext=>TL.pickF hF rfl (by simp) rfl rfl TL.fin) ?_
  refine DR.stepV [_,_,_,_,_,_,_,_,_,_,_] rfl [(53,_,some 9)] rfl rfl ⟨⟨rfl,rfl,rfl⟩,trivial⟩ (fun ext=>TL.move hF rfl rfl TL.fin) ?_
  refine DR.stepV [_,_,_,_,_,_,_,_,_,_,_,_] rfl [(12,_,none),(54,_,some 10)] rfl rfl ⟨⟨rfl,by kernel_rfl⟩,⟨rfl,rfl,rfl⟩,trivial⟩ (fun ext=>TL.on rfl rfl rfl (by simp) <| TL.move hF rfl rfl TL.fin) ?_
  refine DR.stepV [_,_,_,_,_,_,_,_,_,_,_,_,_] rfl [(14,_,none),(54,_,some 10)] rfl rfl ⟨⟨rfl,by kernel_rfl⟩,⟨rfl,rfl,rfl⟩,trivial⟩ (fun ext=>TL.on rfl rfl rfl (by simp) <| TL.move hF rfl rfl TL.fin) ?_
  refine DR.stepV [_,_,_,_,_,_,_,_,_,_,_,_,_,_] rfl [(55,_,some 11),(56,_,some 12),(54,_,some 10)] rfl rfl ⟨⟨rfl,rfl,rfl⟩,⟨rfl,rfl,rfl⟩,⟨rfl,rfl,rfl⟩,trivial⟩ (fun ext=>TL.on rfl rfl rfl (by simp) <| TL.bin hF rfl rfl rfl rfl TL.fin) ?_
  refine DR.stepV [_,_,_,_,_,_,_,_,_,_,_,_,_,_,_] rfl [(54,_,some 10),(57,_,some 13)] rfl rfl ⟨⟨rfl,rfl,rfl⟩,⟨rfl,rfl,rfl⟩,trivial⟩ (fun ext=>TL.pickF hF rfl (by simp) rfl rfl TL.fin) ?_
  refine DR.stepV [_,_,_,_,_,_,_,_,_,_,_,_,_,_,_,_] rfl [(58,_,some 14)] rfl rfl ⟨⟨rfl,rfl,rfl⟩,trivial⟩ (fun ext=>TL.move hF rfl rfl TL.fin) ?_
  refine DR.stepV [_,_,_,_,_,_,_,_,_,_,_,_,_,_,_,_,_] rfl [(7,_,none),(59,_,some 15)] rfl rfl ⟨⟨rfl,by kernel_rfl⟩,⟨rfl,rfl,rfl⟩,trivial⟩ (fun ext=>TL.on rfl rfl rfl (by simp) <| TL.move hF rfl rfl TL.fin) ?_
  refine DR.stepV [_,_,_,_,_,_,_,_,_,_,_,_,_,_,_,_,_,_] rfl [(60,_,some 16),(59,_,some 15)] rfl rfl ⟨⟨rfl,rfl,rfl⟩,⟨rfl,rfl,rfl⟩,trivial⟩ (fun ext=>TL.on rfl rfl rfl (by simp) <| TL.len hF rfl rfl TL.fin) ?_
  refine DR.stepV [_,_,_,_,_,_,_,_,_,_,_,_,_,_,_,_,_,_,_] rfl [(9,_,none),(59,_,some 15)] rfl rfl ⟨⟨rfl,by kernel_rfl⟩,⟨rfl,rfl,rfl⟩,trivial⟩ (fun ext=>TL.on rfl rfl rfl (by simp) <| TL.move hF rfl rfl TL.fin) ?_
  refine DR.stepV [_,_,_,_,_,_,_,_,_,_,_,_,_,_,_,_,_,_,_,_] rfl [(62,_,some 18),(59,_,some 15)] rfl rfl ⟨⟨rfl,rfl,rfl⟩,⟨rfl,rfl,rfl⟩,trivial⟩ (fun ext=>TL.on rfl rfl rfl (by simp) <| TL.len hF rfl rfl TL.fin) ?_
  refine DR.stepV [_,_,_,_,_,_,_,_,_,_,_,_,_,_,_,_,_,_,_,_,_] rfl [(61,_,some 17),(63,_,some 19),(59,_,some 15)] rfl rfl ⟨⟨rfl,rfl,rfl⟩,⟨rfl,rfl,rfl⟩,⟨rfl,rfl,rfl⟩,trivial⟩ (fun ext=>TL.on rfl rfl rfl (by simp) <| TL.bin hF rfl rfl rfl rfl TL.fin) ?_
  refine DR.stepV [_,_,_,_,_,_,_,_,_,_,_,_,_,_,_,_,_,_,_,_,_,_] rfl [(59,_,some 15),(64,_,some 20)] rfl rfl ⟨⟨rfl,rfl,rfl⟩,⟨rfl,rfl,rfl⟩,trivial⟩ (fun ext=>TL.pickF hF rfl (by simp) rfl rfl TL.fin) ?_
  refine DR.stepV [_,_,_,_,_,_,_,_,_,_,_,_,_,_,_,_,_,_,_,_,_,_,_] rfl [(65,_,some 21)] rfl rfl ⟨⟨rfl,rfl,rfl⟩,trivial⟩ (fun ext=>TL.move hF rfl rfl TL.fin) ?_
  refine DR.stepV [_,_,_,_,_,_,_,_,_,_,_,_,_,_,_,_,_,_,_,_,_,_,_,_] rfl [(11,_,none),(66,_,some 22)] rfl rfl ⟨⟨rfl,by kernel_rfl⟩,⟨rfl,rfl,rfl⟩,trivial⟩ (fun ext=>TL.on rfl rfl rfl (by simp) <| TL.move hF rfl rfl TL.fin) ?_
  refine DR.stepV [_,_,_,_,_,_,_,_,_,_,_,_,_,_,_,_,_,_,_,_,_,_,_,_,_] rfl [(13,_,none),(66,_,some 22)] rfl rfl ⟨⟨rfl,by kernel_rfl⟩,⟨rfl,rfl,rfl⟩,trivial⟩ (fun ext=>TL.on rfl rfl rfl (by simp) <| TL.move hF rfl rfl TL.fin) ?_
  refine DR.done [(68,_),(67,_),(66,_),(65,_),(64,_),(63,_),(62,_),(61,_),(60,_),(59,_),(58,_),(57,_),(56,_),(55,_),(54,_),(53,_),(52,_),(51,_),(50,_),(49,_),(48,_),(47,_),(46,_),(45,_),(44,_)] [_,_,_] mixed (by kernel_rfl) (by kernel_rfl) (by kernel_rfl) rfl rfl ?_
  refine TL.on rfl rfl rfl (by simp) ?_
  refine TL.callV hF (outs_fn (l:=(wholeS s l).1) (m:=(wholeS s l).1) (h3.up (by simp)) (h4.up (by simp)) hwl) rfl rfl ?_
  refine TL.on rfl rfl rfl (by simp) ?_
  refine TL.not hF rfl rfl ?_
  refine TL.pickF hF rfl (by simp) rfl rfl ?_
  refine TL.nil ?_
  refine TQ.then_n ?_
  refine T.cond_f rfl (by simp) ?_
  refine T.skip ?_
  refine TQ.then_n ?_
  refine T.seq ?_
  refine T.seq ?_
  refine T.region ?_
  refine TL.assign hF rfl rfl ?_
  refine TL.nil ?_
  refine TQ.then_n ?_
  refine T.block ?_
  have hnl:(windowsS s t).1.length<9000000000000000000:=by
   unfold windowsS
   split
   ·split
    ·split
     ·rename_i h1 h2 h3
      have hto:TimeOk s t:=by
       unfold okS at h1
       unfold okT at h2
       simp only [Bool.and_eq_true,decide_eq_true_eq] at h1 h2
       exact ⟨(okS_w (by unfold okS; simp only [Bool.and_eq_true,decide_eq_true_eq]; exact h1)).sp h3,by omega,h2.1,h2.2⟩
      show (spansS s t).length<_
      rw [spans_len]; have:=count_le hto; omega
     ·simp
    ·simp
   ·simp
  refine T.loop (ι:=Nat) (fun i=>i≤(windowsS s t).1.length) (fun i=>[(6,.bool false),(7,.slice a1 (windowsS s t).1.length c1),(9,.slice a2 (windowsS s t).1.length c2),(15,.int .i64 (i:Int))]) (fun _=>[(b3,Obj.cells (wsV s).cells 23 (0,0))]::η) (fun i=>(windowsS s t).1.length - i) 0 (Nat.zero_le _) ⟨rfl,rfl,rfl,rfl,trivial⟩ rfl ?_
  rintro i hi
  refine T.seq ?_
  refine T.seq ?_
  refine T.region ?_
  refine TL.move hF rfl rfl ?_
  refine TL.move hF rfl rfl ?_
  refine TL.len hF rfl rfl ?_
  refine TL.bin hF rfl rfl rfl rfl ?_
  refine TL.nil ?_
  refine TQ.then_n ?_
  first | refine T.cond_d rfl (fun ht75=>?_) (fun ht75=>?_) | refine T.cond _ rfl (fun ht75=>?_) (fun ht75=>?_)
  ·refine T.skip ?_
   refine TQ.then_n ?_
   refine T.seq ?_
   refine T.block ?_
   refine T.seq ?_
   have hil:i<(windowsS s t).1.length:=by have h:(i:Int)<((windowsS s t).1.length:Int):=ht75; omega
   refine T.draw ?_
   refine DR.stepV [_] rfl [(7,_,none)] rfl rfl ⟨⟨rfl,by kernel_rfl⟩,trivial⟩ (fun ext=>TL.move hF rfl rfl TL.fin) ?_
   refine DR.stepV [_,_] rfl [(15,_,none)] rfl rfl ⟨⟨rfl,by kernel_rfl⟩,trivial⟩ (fun ext=>TL.move hF rfl rfl TL.fin) ?_
   refine DR.stepV [_,_,_] rfl [(78,_,some 0),(79,_,some 1)] rfl rfl ⟨⟨rfl,rfl,rfl⟩,⟨rfl,rfl,rfl⟩,trivial⟩ (fun ext=>TL.indexAddr hF rfl rfl (h1.tad pC_len (by decide) hil) (by omega) (by omega) rfl TL.fin) ?_
   refine DR.stepV [_,_,_,_] rfl [(80,_,some 2)] rfl rfl ⟨⟨rfl,rfl,rfl⟩,trivial⟩ (fun ext=>TL.loadA hF (pC (windowsS s t).1[i]) rfl rfl ((h1.up (by simp)).tabA pC_len hil) rfl TL.fin) ?_
   refine DR.stepV [_,_,_,_,_] rfl [(9,_,none)] rfl rfl ⟨⟨rfl,by kernel_rfl⟩,trivial⟩ (fun ext=>TL.move hF rfl rfl TL.fin) ?_
   refine DR.stepV [_,_,_,_,_,_] rfl [(15,_,none)] rfl rfl ⟨⟨rfl,by kernel_rfl⟩,trivial⟩ (fun ext=>TL.move hF rfl rfl TL.fin) ?_
   refine DR.stepV [_,_,_,_,_,_,_] rfl [(82,_,some 4),(83,_,some 5)] rfl rfl ⟨⟨rfl,rfl,rfl⟩,⟨rfl,rfl,rfl⟩,trivial⟩ (fun ext=>TL.indexAddr hF rfl rfl (h2.tad pC_len (by decide) hil) (by omega) (by omega) rfl TL.fin) ?_
   refine DR.stepV [_,_,_,_,_,_,_,_] rfl [(84,_,some 6)] rfl rfl ⟨⟨rfl,rfl,rfl⟩,trivial⟩ (fun ext=>TL.loadA hF (pC (windowsS s t).1[i]) rfl rfl ((h2.up (by simp)).tabA pC_len hil) rfl TL.fin) ?_
   refine DR.done [(85,_),(84,_),(83,_),(82,_),(81,_),(80,_),(79,_),(78,_)] [_] mixed (by kernel_rfl) (by kernel_rfl) (by kernel_rfl) rfl rfl ?_
   refine TL.neqA hF rfl rfl (by kernel_rfl) (eqP2 (windowsS s t).1[i] (windowsS s t).1[i]) rfl ?_
   refine TL.nil ?_
   refine TQ.then_n ?_
   refine T.cond_f rfl (by simp) ?_
   refine T.skip ?_
   refine TQ.block_n ?_
   refine TQ.then_n ?_
   refine T.region ?_
   refine TL.move hF rfl rfl ?_
   refine TL.add hF rfl rfl (by omega) (by omega) rfl ?_
   refine TL.assign hF rfl rfl ?_
   refine TL.nil ?_
   exact TQ.round (i+1) (by omega) (by omega) ⟨rfl,rfl,rfl,rfl,trivial⟩ rfl
  ·refine T.exit ?_
   refine TQ.then_x ?_
   refine TQ.then_x ?_
   refine TQ.block_x ?_
   refine TQ.then_n ?_
   refine T.seq ?_
   refine T.region ?_
   refine TL.call hF (windowed_law hT) rfl rfl ?_
   rintro _ _ rfl
   refine TL.assign hF rfl rfl ?_
   refine TL.nil ?_
   refine TQ.then_n ?_
   refine T.ret ?_
   exact TQ.retsF [6] _ hb rfl rfl rfl (fun _=>rfl)
end Go.Proofs.YtbajelldegijkaaDoor
namespace Go.Proofs.YtbajelldegijkaaDoor
open Go.Sl Go.ChangeShapes Go.WideShapes Go.ChangeAt Go.RowKit
set_option maxRecDepth 100000 in
theorem windowTells_lifted (os : Os) (started : os.Started) (H : Type) (enc : TypeId × Value → H) :
    ReturnsInHanded {} Tryd.checked os 3 .any (fun w args=>(Rows.windowTellsSpec.pre enc Tryd.prog Tryd.f3 [] false w args∧laidMetH Tryd.prog laidL w)∧sizedMet enc Tryd.prog Tryd.f3 (OpenSpec.ofChange Rows.windowTellsSpec) false w args)
      (Rows.windowTellsSpec.post enc Tryd.prog Tryd.f3 false true false false):=by
  refine returnsInHanded_of_change_and (C:=Tryd.checked) (X:=fun w _=>laidMetH Tryd.prog laidL w) (fun _ _ _ hh h=>h.of_heap hh) Tryd.own started (by kernel_rfl) Tryd.func3
    (ChangeSpec.witness_shaped (enc:=enc) (C:=Tryd.checked) (os:=os) (X:=fun w _=>laidMetH Tryd.prog laidL w) false (World.doorLaid Tryd.prog 2000 os) #[.agg #[.int .i64 0,.int .i64 0,.int .i64 0,.int .i64 0,.int .i64 0],.slice none 0 0,.int .i64 0] 8 rfl (World.shaped_of_RefB (by kernel_rfl) (by kernel_rfl)) (by kernel_rfl) (by kernel_rfl) (by kernel_rfl) (door_met os _)) ?_
  intro W base args ds gs before hval0 hW _ hwt hL _
  have hval':∀ (j:Nat) t v,Tryd.f3.params[j]?=some t→args[j]?=some v→Value.okWide Tryd.prog W .any base t v:=hval0
  have hW':=hW
  obtain ⟨p,q,hA0,hV,rfl,hfz,hnd⟩:=hW
  have hA:DataW.TrodAll enc Tryd.prog W 0 (fun _=>true) true [23,24,3] args.toList ds p:=hA0
  obtain ⟨v0,v1,v2,d0,d1,d2,p0,p1,p2,rfl,rfl,rfl,h0,h1,h2⟩:=trodAll_three hA
  obtain ⟨s0,rfl,bs0⟩:=spec_open (hval' 0 23 v0 rfl rfl) h0
  obtain ⟨_,_,_,rfl⟩:=okWide_slice uRs (hval' 1 24 v1 rfl rfl)
  obtain ⟨_,h1⟩:=h1
  obtain ⟨a1,xs1,c1,e1,hx1,hl1,hc1⟩:=rows_read h1
  obtain ⟨z2,rfl,_,_,wz2⟩:=open_int u3 (hval' 2 3 v2 rfl rfl) h2
  have iz2:=wf_i64 wz2
  rw [e1] at hW' ⊢
  refine (calls_true (WindowTells_fn (tabs_of_laid hL) bs0.2.1 hx1 hl1 hc1)).mono fun e W' ⟨he,hw⟩=>⟨_,he,?_⟩
  exact law_post (f:=Tryd.f3) Tryd.laidOut rfl 4 rfl u4 hW' rfl (by decide +kernel) hw
theorem windowTells_said:Rows.WindowTellsSaid :=
  OpenClaim.holds_of_wide 3 Tryd.f3 rfl rfl rfl rfl rfl rfl rfl ⟨rfl,rfl,rfl,rfl,rfl⟩ rfl rfl rfl rfl rfl (by kernel_rfl) Tryd.func3 (by kernel_rfl)
    (of_decide_eq_true (by kernel_rfl)) (by unfold Func.isWrapper; first | (rw [if_pos (by decide +kernel)]; kernel_rfl) | (rw [if_neg (by decide +kernel)]; exact ⟨rfl,rfl⟩))
    (fun os started H enc _=>windowTells_lifted os started H enc)
theorem windowTells_holds:Rows.WindowTellsCardSaid :=
  Claim7.holds_tied_plain_at .later [] [.funcs] true (true, "edd8e981fe4d3e724f26595c5f9106e083d3da54a7e7e8d858f79c443b2db2cc") true
    windowTells_said (fun _ h=>by cases h) (by kernel_rfl) (fun _ h=>by cases h) windowTells_row_tie rfl ⟨rfl,rfl⟩ (by kernel_rfl) rfl
    (fun f fn hf hfn=>by
      obtain rfl : f = 3 := Option.some.inj ((show Tryd.prog.funcNamed "deltaworks/deltaworkslaw25.WindowTells" = some 3 by kernel_rfl).symm.trans hf) |>.symm
      obtain rfl:fn=Tryd.f3:=(Option.some.inj (Tryd.func3.symm.trans hfn)).symm
      exact ⟨by kernel_rfl,fun j t ht=>by
        have ht2:(#[23,24,3]:Array TypeId)[j]?=some t:=ht
        have hm:t∈([23,24,3]:List TypeId):=by simpa using Array.mem_of_getElem? ht2
        have hall:(([23,24,3]:List TypeId).all fun u=>!Tryd.prog.wantsStandIn u)=true:=by kernel_rfl
        exact (show Tryd.prog.wantsStandIn t=false by simpa using List.all_eq_true.1 hall t hm)⟩)
    (by kernel_rfl)
#print axioms windowTells_holds
end Go.Proofs.YtbajelldegijkaaDoor
