/- Several texts in one. -/
import Derived.Test.YtbajelldegijkaaDoorVf
import Derived.Test.YtbajelldegijkaaDoorVe
/- The reference: what is asked, folds. -/
namespace Go.Proofs.YtbajelldegijkaaDoor
open Go.Sl
variable {S:Nat→Prop} {w0:World} {η:Heap}
theorem okS_dd (s:Wsp):okS s = !((((!(decide (s.kind=0) && (decide (1≤s.step) && decide (s.step≤s.size))) && !(decide (s.kind=1))) || !(decide (1≤s.size) && decide (s.size≤1000))) || !(decide (0≤s.late) && decide (s.late≤1000))) || !(decide (0≤s.fold) && decide (s.fold≤3))):=by
  unfold okS
  rw [Bool.eq_iff_iff]
  simp only [Bool.and_eq_true,Bool.or_eq_true,Bool.not_eq_true',Bool.or_eq_false_iff,Bool.and_eq_false_iff,Bool.not_eq_false',decide_eq_true_eq]
  omega
set_option maxHeartbeats 2000000 in
theorem CheckR_fn (s : Wsp) :
    Rt Tryd.prog 19 [wsV s].toArray S w0 η (fun v η'=>v = .int .i64 (checkS s)∧η'=η):=by
  have hF:=open_wide
  refine Rt.of (fn:=Tryd.f19) Tryd.func19 rfl rfl ?_
  refine T.seq ?_
  refine T.region ?_
  refine TL.box hF rfl rfl (fun b1=>?_)
  refine TL.assign hF rfl rfl ?_
  refine TL.nil ?_
  refine TQ.then_n ?_
  refine T.seq ?_
  refine T.region ?_
  refine TL.fieldAddr hF rfl rfl ?_
  refine TL.load hF rfl (own_mem (b:=b1) (cs:=(wsV s).cells) (e:=23) (fz:=(0,0)) (by simp) rfl) rfl ?_
  refine TL.bin hF rfl rfl rfl rfl ?_
  refine TL.move hF rfl rfl ?_
  refine TL.join [_,_,_,_,_,_] 13 (.bool (decide (s.kind=0) && (decide (1≤s.step) && decide (s.step≤s.size)))) rfl ?_ ?_
  · refine TL.gd (t:=7) rfl (fun g1_7=>?_) (fun g1_7=>?_)
    · refine TL.on rfl rfl rfl (decide_eq_true g1_7) ?_
      refine TL.fieldAddr hF rfl rfl ?_
      refine TL.on rfl rfl rfl (decide_eq_true g1_7) ?_
      refine TL.load hF rfl (own_mem (b:=b1) (cs:=(wsV s).cells) (e:=23) (fz:=(0,0)) (by simp) rfl) rfl ?_
      refine TL.on rfl rfl rfl (decide_eq_true g1_7) ?_
      refine TL.fieldAddr hF rfl rfl ?_
      refine TL.on rfl rfl rfl (decide_eq_true g1_7) ?_
      refine TL.load hF rfl (own_mem (b:=b1) (cs:=(wsV s).cells) (e:=23) (fz:=(0,0)) (by simp) rfl) rfl ?_
      refine TL.on rfl rfl rfl (decide_eq_true g1_7) ?_
      refine TL.callV hF (Lies_fn s.step 1 s.size) rfl rfl ?_
      refine TL.pickT hF rfl (decide_eq_true g1_7) rfl rfl ?_
      refine TL.finJ ⟨?_,by repeat (first | exact trivial | refine ⟨rfl,?_⟩)⟩
      exact congrArg (fun z=>some (Value.bool z)) (by first | (rw [(decide_eq_true g1_7)]; rfl) | (rw [(decide_eq_true g1_7)]; simp; done) | (simp [*]; done))
    · refine TL.off hF rfl rfl rfl (decide_eq_false g1_7) rfl ?_
      refine TL.off hF rfl rfl rfl (decide_eq_false g1_7) rfl ?_
      refine TL.off hF rfl rfl rfl (decide_eq_false g1_7) rfl ?_
      refine TL.off hF rfl rfl rfl (decide_eq_false g1_7) rfl ?_
      refine TL.off hF rfl rfl rfl (decide_eq_false g1_7) rfl ?_
      refine TL.pickF hF rfl (decide_eq_false g1_7) rfl rfl ?_
      refine TL.finJ ⟨?_,by repeat (first | exact trivial | refine ⟨rfl,?_⟩)⟩
      exact congrArg (fun z=>some (Value.bool z)) (by first | (rw [(decide_eq_false g1_7)]; rfl) | (rw [(decide_eq_false g1_7)]; simp; done) | (simp [*]; done))
  · refine TL.assign hF rfl rfl ?_
    refine TL.nil ?_
    refine TQ.then_n ?_
    refine T.seq ?_
    refine T.seq ?_
    refine T.region ?_
    refine TL.move hF rfl rfl ?_
    refine TL.not hF rfl rfl ?_
    refine TL.move hF rfl rfl ?_
    refine TL.join [_,_,_,_] 20 (.bool (!(decide (s.kind=0) && (decide (1≤s.step) && decide (s.step≤s.size))) && !(decide (s.kind=1)))) rfl ?_ ?_
    · refine TL.gb (t:=16) rfl (fun g2_16=>?_) (fun g2_16=>?_)
      · refine TL.on rfl rfl rfl g2_16 ?_
        refine TL.fieldAddr hF rfl rfl ?_
        refine TL.on rfl rfl rfl g2_16 ?_
        refine TL.load hF rfl (own_mem (b:=b1) (cs:=(wsV s).cells) (e:=23) (fz:=(0,0)) (by simp) rfl) rfl ?_
        refine TL.on rfl rfl rfl g2_16 ?_
        refine TL.bin hF rfl rfl rfl rfl ?_
        refine TL.pickT hF rfl g2_16 rfl rfl ?_
        refine TL.finJ ⟨?_,by repeat (first | exact trivial | refine ⟨rfl,?_⟩)⟩
        exact congrArg (fun z=>some (Value.bool z)) (by first | (rw [g2_16]; rfl) | (rw [g2_16]; simp; done) | (simp [*]; done))
      · refine TL.off hF rfl rfl rfl g2_16 rfl ?_
        refine TL.off hF rfl rfl rfl g2_16 rfl ?_
        refine TL.off hF rfl rfl rfl g2_16 rfl ?_
        refine TL.pickF hF rfl g2_16 rfl rfl ?_
        refine TL.finJ ⟨?_,by repeat (first | exact trivial | refine ⟨rfl,?_⟩)⟩
        exact congrArg (fun z=>some (Value.bool z)) (by first | (rw [g2_16]; rfl) | (rw [g2_16]; simp; done) | (simp [*]; done))
    · refine TL.move hF rfl rfl ?_
      refine TL.join [_,_,_,_,_] 26 (.bool ((!(decide (s.kind=0) && (decide (1≤s.step) && decide (s.step≤s.size))) && !(decide (s.kind=1))) || !(decide (1≤s.size) && decide (s.size≤1000)))) rfl ?_ ?_
      · refine TL.gb (t:=21) rfl (fun g2_21=>?_) (fun g2_21=>?_)
        · refine TL.off hF rfl rfl rfl g2_21 rfl ?_
          refine TL.off hF rfl rfl rfl g2_21 rfl ?_
          refine TL.off hF rfl rfl rfl g2_21 rfl ?_
          refine TL.off hF rfl rfl rfl g2_21 rfl ?_
          refine TL.pickT hF rfl g2_21 rfl rfl ?_
          refine TL.finJ ⟨?_,by repeat (first | exact trivial | refine ⟨rfl,?_⟩)⟩
          exact congrArg (fun z=>some (Value.bool z)) (by first | (rw [g2_21]; rfl) | (rw [g2_21]; simp; done) | (simp [*]; done))
        · refine TL.on rfl rfl rfl g2_21 ?_
          refine TL.fieldAddr hF rfl rfl ?_
          refine TL.on rfl rfl rfl g2_21 ?_
          refine TL.load hF rfl (own_mem (b:=b1) (cs:=(wsV s).cells) (e:=23) (fz:=(0,0)) (by simp) rfl) rfl ?_
          refine TL.on rfl rfl rfl g2_21 ?_
          refine TL.callV hF (Lies_fn s.size 1 1000) rfl rfl ?_
          refine TL.on rfl rfl rfl g2_21 ?_
          refine TL.not hF rfl rfl ?_
          refine TL.pickF hF rfl g2_21 rfl rfl ?_
          refine TL.finJ ⟨?_,by repeat (first | exact trivial | refine ⟨rfl,?_⟩)⟩
          exact congrArg (fun z=>some (Value.bool z)) (by first | (rw [g2_21]; rfl) | (rw [g2_21]; simp; done) | (simp [*]; done))
      · refine TL.move hF rfl rfl ?_
        refine TL.join [_,_,_,_,_] 32 (.bool (((!(decide (s.kind=0) && (decide (1≤s.step) && decide (s.step≤s.size))) && !(decide (s.kind=1))) || !(decide (1≤s.size) && decide (s.size≤1000))) || !(decide (0≤s.late) && decide (s.late≤1000)))) rfl ?_ ?_
        · refine TL.gb (t:=27) rfl (fun g2_27=>?_) (fun g2_27=>?_)
          · refine TL.off hF rfl rfl rfl g2_27 rfl ?_
            refine TL.off hF rfl rfl rfl g2_27 rfl ?_
            refine TL.off hF rfl rfl rfl g2_27 rfl ?_
            refine TL.off hF rfl rfl rfl g2_27 rfl ?_
            refine TL.pickT hF rfl g2_27 rfl rfl ?_
            refine TL.finJ ⟨?_,by repeat (first | exact trivial | refine ⟨rfl,?_⟩)⟩
            exact congrArg (fun z=>some (Value.bool z)) (by first | (rw [g2_27]; rfl) | (rw [g2_27]; simp; done) | (simp [*]; done))
          · refine TL.on rfl rfl rfl g2_27 ?_
            refine TL.fieldAddr hF rfl rfl ?_
            refine TL.on rfl rfl rfl g2_27 ?_
            refine TL.load hF rfl (own_mem (b:=b1) (cs:=(wsV s).cells) (e:=23) (fz:=(0,0)) (by simp) rfl) rfl ?_
            refine TL.on rfl rfl rfl g2_27 ?_
            refine TL.callV hF (Lies_fn s.late 0 1000) rfl rfl ?_
            refine TL.on rfl rfl rfl g2_27 ?_
            refine TL.not hF rfl rfl ?_
            refine TL.pickF hF rfl g2_27 rfl rfl ?_
            refine TL.finJ ⟨?_,by repeat (first | exact trivial | refine ⟨rfl,?_⟩)⟩
            exact congrArg (fun z=>some (Value.bool z)) (by first | (rw [g2_27]; rfl) | (rw [g2_27]; simp; done) | (simp [*]; done))
        · refine TL.move hF rfl rfl ?_
          refine TL.join [_,_,_,_,_] 38 (.bool ((((!(decide (s.kind=0) && (decide (1≤s.step) && decide (s.step≤s.size))) && !(decide (s.kind=1))) || !(decide (1≤s.size) && decide (s.size≤1000))) || !(decide (0≤s.late) && decide (s.late≤1000))) || !(decide (0≤s.fold) && decide (s.fold≤3)))) rfl ?_ ?_
          · refine TL.gb (t:=33) rfl (fun g2_33=>?_) (fun g2_33=>?_)
            · refine TL.off hF rfl rfl rfl g2_33 rfl ?_
              refine TL.off hF rfl rfl rfl g2_33 rfl ?_
              refine TL.off hF rfl rfl rfl g2_33 rfl ?_
              refine TL.off hF rfl rfl rfl g2_33 rfl ?_
              refine TL.pickT hF rfl g2_33 rfl rfl ?_
              refine TL.finJ ⟨?_,by repeat (first | exact trivial | refine ⟨rfl,?_⟩)⟩
              exact congrArg (fun z=>some (Value.bool z)) (by first | (rw [g2_33]; rfl) | (rw [g2_33]; simp; done) | (simp [*]; done))
            · refine TL.on rfl rfl rfl g2_33 ?_
              refine TL.fieldAddr hF rfl rfl ?_
              refine TL.on rfl rfl rfl g2_33 ?_
              refine TL.load hF rfl (own_mem (b:=b1) (cs:=(wsV s).cells) (e:=23) (fz:=(0,0)) (by simp) rfl) rfl ?_
              refine TL.on rfl rfl rfl g2_33 ?_
              refine TL.callV hF (Lies_fn s.fold 0 3) rfl rfl ?_
              refine TL.on rfl rfl rfl g2_33 ?_
              refine TL.not hF rfl rfl ?_
              refine TL.pickF hF rfl g2_33 rfl rfl ?_
              refine TL.finJ ⟨?_,by repeat (first | exact trivial | refine ⟨rfl,?_⟩)⟩
              exact congrArg (fun z=>some (Value.bool z)) (by first | (rw [g2_33]; rfl) | (rw [g2_33]; simp; done) | (simp [*]; done))
          · refine TL.nil ?_
            refine TQ.then_n ?_
            refine T.cond _ rfl (fun ht38=>?_) (fun ht38=>?_)
            · refine T.seq ?_
              refine T.region ?_
              refine TL.assign hF rfl rfl ?_
              refine TL.nil ?_
              refine TQ.then_n ?_
              refine T.ret ?_
              refine TQ.then_r ?_
              refine TQ.pop ?_
              refine TQ.rets [2] _ rfl rfl rfl ⟨?_,rfl⟩
              unfold checkS; rw [okS_dd,ht38]; rfl
            · refine T.skip ?_
              refine TQ.then_n ?_
              refine T.seq ?_
              refine T.region ?_
              refine TL.assign hF rfl rfl ?_
              refine TL.nil ?_
              refine TQ.then_n ?_
              refine T.ret ?_
              refine TQ.pop ?_
              refine TQ.rets [2] _ rfl rfl rfl ⟨?_,rfl⟩
              unfold checkS; rw [okS_dd,ht38]; rfl
set_option maxHeartbeats 2000000 in
theorem askedR_fn {s : Wsp} {a : Option Addr} {l : List Rw} {c : Nat} (hr : RRow S w0 η a l) (hl : l.length < 9223372036854775808) :
    Rt Tryd.prog 42 [wsV s,.slice a l.length c].toArray S w0 η (fun v η'=>v = .int .i64 (askedS s l)∧η'=η):=by
  have hF:=open_wide
  refine Rt.of (fn:=Tryd.f42) Tryd.func42 rfl rfl ?_
  refine T.seq ?_
  refine T.region ?_
  refine TL.box hF rfl rfl (fun b2=>?_)
  refine TL.assign hF rfl rfl ?_
  refine TL.nil ?_
  refine TQ.then_n ?_
  refine T.seq ?_
  refine T.seq ?_
  refine T.region ?_
  refine TL.loadA hF (wsC s) rfl rfl (own_list (i:=0) (cs:=wsC s) rfl) rfl ?_
  refine TL.callV hF (CheckR_fn s) rfl rfl ?_
  refine TL.assign hF rfl rfl ?_
  refine TL.nil ?_
  refine TQ.then_n ?_
  refine T.seq ?_
  refine T.region ?_
  refine TL.move hF rfl rfl ?_
  refine TL.bin hF rfl rfl rfl rfl ?_
  refine TL.nil ?_
  refine TQ.then_n ?_
  refine T.cond _ rfl (fun ht10=>?_) (fun ht10=>?_)
  · refine T.seq ?_
    refine T.region ?_
    refine TL.move hF rfl rfl ?_
    refine TL.assign hF rfl rfl ?_
    refine TL.nil ?_
    refine TQ.then_n ?_
    refine T.ret ?_
    refine TQ.then_r ?_
    refine TQ.pop ?_
    refine TQ.rets [4] _ rfl rfl rfl ⟨?_,rfl⟩
    have hok:okS s=false:=by
      unfold checkS at ht10
      cases h:okS s
      · rfl
      · rw [h] at ht10; simp at ht10
    unfold askedS checkS; rw [if_neg (by rw [hok]; simp),if_neg (by rw [hok]; simp)]; rfl
  · refine T.skip ?_
    refine TQ.then_n ?_
    refine T.seq ?_
    refine T.seq ?_
    refine T.region ?_
    refine TL.move hF rfl rfl ?_
    refine TL.len hF rfl rfl ?_
    refine TL.bin hF rfl rfl rfl rfl ?_
    refine TL.nil ?_
    refine TQ.then_n ?_
    refine T.cond_d rfl (fun ht14=>?_) (fun ht14=>?_)
    · refine T.seq ?_
      refine T.region ?_
      refine TL.assign hF rfl rfl ?_
      refine TL.nil ?_
      refine TQ.then_n ?_
      refine T.ret ?_
      refine TQ.then_r ?_
      refine TQ.pop ?_
      refine TQ.rets [4] _ rfl rfl rfl ⟨?_,rfl⟩
      have hok:okS s=true:=by
        unfold checkS at ht10
        cases h:okS s
        · rw [h] at ht10; simp at ht10
        · rfl
      unfold askedS; rw [if_pos hok,if_pos (by omega)]; rfl
    · refine T.skip ?_
      refine TQ.then_n ?_
      refine T.seq ?_
      refine T.seq ?_
      refine T.region ?_
      refine TL.assign hF rfl rfl ?_
      refine TL.nil ?_
      refine TQ.then_n ?_
      refine T.block ?_
      have hok:okS s=true:=by
        unfold checkS at ht10
        cases h:okS s
        · rw [h] at ht10; simp at ht10
        · rfl
      refine T.loop (ι:=Nat) (fun i=>i≤l.length∧∀ x∈l.take i,okR x=true) (fun i=>[(1,.slice a l.length c),(4,.int .i64 0),(6,.int .i64 (i:Int))]) (fun _=>[(b2,Obj.cells (wsC s).toArray 23 (0,0))]::η) (fun i=>l.length - i) 0 ⟨Nat.zero_le _,by simp⟩ ⟨rfl,rfl,rfl,trivial⟩ rfl ?_
      rintro i ⟨hi,hall⟩
      refine T.seq ?_
      refine T.seq ?_
      refine T.region ?_
      refine TL.move hF rfl rfl ?_
      refine TL.move hF rfl rfl ?_
      refine TL.len hF rfl rfl ?_
      refine TL.bin hF rfl rfl rfl rfl ?_
      refine TL.nil ?_
      refine TQ.then_n ?_
      first | refine T.cond_d rfl (fun ht18=>?_) (fun ht18=>?_) | refine T.cond _ rfl (fun ht18=>?_) (fun ht18=>?_)
      · refine T.skip ?_
        refine TQ.then_n ?_
        refine T.seq ?_
        refine T.block ?_
        refine T.seq ?_
        refine T.region ?_
        have hil:i<l.length:=by have h:(i:Int)<(l.length:Int):=ht18; omega
        refine TL.move hF rfl rfl ?_
        refine TL.move hF rfl rfl ?_
        refine TL.indexAddr hF rfl rfl (rr_ad hr hil) (by first | omega | (dsimp only; omega)) (by first | omega | (dsimp only; omega)) rfl ?_
        refine TL.fieldAddr hF rfl rfl ?_
        refine TL.load hF rfl (rr_at (hr.up (fun _ hs=>List.mem_cons_of_mem _ hs)) hil 0 _ rfl) rfl ?_
        refine TL.callV hF (Lies_fn l[i].time 0 1048576) rfl rfl ?_
        refine TL.not hF rfl rfl ?_
        refine TL.move hF rfl rfl ?_
        refine TL.join [_,_,_,_,_,_,_,_] 36 (.bool ((!(decide (0≤l[i].time) && decide (l[i].time≤1048576))) || !(decide (0≤l[i].key) && decide (l[i].key≤999)))) rfl ?_ ?_
        · refine TL.gb (t:=28) rfl (fun g9_28=>?_) (fun g9_28=>?_)
          · refine TL.off hF rfl rfl rfl g9_28 rfl ?_
            refine TL.off hF rfl rfl rfl g9_28 rfl ?_
            refine TL.off hF rfl rfl rfl g9_28 rfl ?_
            refine TL.off hF rfl rfl rfl g9_28 rfl ?_
            refine TL.off hF rfl rfl rfl g9_28 rfl ?_
            refine TL.off hF rfl rfl rfl g9_28 rfl ?_
            refine TL.off hF rfl rfl rfl g9_28 rfl ?_
            refine TL.pickT hF rfl g9_28 rfl rfl ?_
            refine TL.finJ ⟨?_,by repeat (first | exact trivial | refine ⟨rfl,?_⟩)⟩
            exact congrArg (fun z=>some (Value.bool z)) (by first | (rw [g9_28]; rfl) | (rw [g9_28]; simp; done) | (simp [*]; done))
          · refine TL.on rfl rfl rfl g9_28 ?_
            refine TL.move hF rfl rfl ?_
            refine TL.on rfl rfl rfl g9_28 ?_
            refine TL.move hF rfl rfl ?_
            refine TL.on rfl rfl rfl g9_28 ?_
            refine TL.indexAddr hF rfl rfl (rr_ad hr hil) (by first | omega | (dsimp only; omega)) (by first | omega | (dsimp only; omega)) rfl ?_
            refine TL.on rfl rfl rfl g9_28 ?_
            refine TL.fieldAddr hF rfl rfl ?_
            refine TL.on rfl rfl rfl g9_28 ?_
            refine TL.load hF rfl (rr_at (hr.up (fun _ hs=>List.mem_cons_of_mem _ hs)) hil 1 _ rfl) rfl ?_
            refine TL.on rfl rfl rfl g9_28 ?_
            refine TL.callV hF (Lies_fn l[i].key 0 999) rfl rfl ?_
            refine TL.on rfl rfl rfl g9_28 ?_
            refine TL.not hF rfl rfl ?_
            refine TL.pickF hF rfl g9_28 rfl rfl ?_
            refine TL.finJ ⟨?_,by repeat (first | exact trivial | refine ⟨rfl,?_⟩)⟩
            exact congrArg (fun z=>some (Value.bool z)) (by first | (rw [g9_28]; rfl) | (rw [g9_28]; simp; done) | (simp [*]; done))
        · refine TL.move hF rfl rfl ?_
          refine TL.join [_,_,_,_,_,_,_,_] 45 (.bool (((!(decide (0≤l[i].time) && decide (l[i].time≤1048576))) || !(decide (0≤l[i].key) && decide (l[i].key≤999))) || !isW l[i].word)) rfl ?_ ?_
          · refine TL.gb (t:=37) rfl (fun g9_37=>?_) (fun g9_37=>?_)
            · refine TL.off hF rfl rfl rfl g9_37 rfl ?_
              refine TL.off hF rfl rfl rfl g9_37 rfl ?_
              refine TL.off hF rfl rfl rfl g9_37 rfl ?_
              refine TL.off hF rfl rfl rfl g9_37 rfl ?_
              refine TL.off hF rfl rfl rfl g9_37 rfl ?_
              refine TL.off hF rfl rfl rfl g9_37 rfl ?_
              refine TL.off hF rfl rfl rfl g9_37 rfl ?_
              refine TL.pickT hF rfl g9_37 rfl rfl ?_
              refine TL.finJ ⟨?_,by repeat (first | exact trivial | refine ⟨rfl,?_⟩)⟩
              exact congrArg (fun z=>some (Value.bool z)) (by first | (rw [g9_37]; rfl) | (rw [g9_37]; simp; done) | (simp [*]; done))
            · refine TL.on rfl rfl rfl g9_37 ?_
              refine TL.move hF rfl rfl ?_
              refine TL.on rfl rfl rfl g9_37 ?_
              refine TL.move hF rfl rfl ?_
              refine TL.on rfl rfl rfl g9_37 ?_
              refine TL.indexAddr hF rfl rfl (rr_ad hr hil) (by first | omega | (dsimp only; omega)) (by first | omega | (dsimp only; omega)) rfl ?_
              refine TL.on rfl rfl rfl g9_37 ?_
              refine TL.fieldAddr hF rfl rfl ?_
              refine TL.on rfl rfl rfl g9_37 ?_
              refine TL.load hF rfl (rr_at (hr.up (fun _ hs=>List.mem_cons_of_mem _ hs)) hil 2 _ rfl) rfl ?_
              refine TL.on rfl rfl rfl g9_37 ?_
              refine TL.callV hF (IsWord_fn l[i].word) rfl rfl ?_
              refine TL.on rfl rfl rfl g9_37 ?_
              refine TL.not hF rfl rfl ?_
              refine TL.pickF hF rfl g9_37 rfl rfl ?_
              refine TL.finJ ⟨?_,by repeat (first | exact trivial | refine ⟨rfl,?_⟩)⟩
              exact congrArg (fun z=>some (Value.bool z)) (by first | (rw [g9_37]; rfl) | (rw [g9_37]; simp; done) | (simp [*]; done))
          · refine TL.nil ?_
            refine TQ.then_n ?_
            have hoe:okR l[i] = !(((!(decide (0≤l[i].time) && decide (l[i].time≤1048576))) || !(decide (0≤l[i].key) && decide (l[i].key≤999))) || !isW l[i].word):=by
              unfold okR okT
              rw [Bool.eq_iff_iff]
              simp only [Bool.and_eq_true,Bool.not_eq_true',Bool.or_eq_false_iff,Bool.not_eq_false',decide_eq_true_eq]
              constructor
              · rintro ⟨⟨⟨h1,h2⟩,h3⟩,h4⟩; exact ⟨⟨h1,h2,h3⟩,h4⟩
              · rintro ⟨⟨h1,h2,h3⟩,h4⟩; exact ⟨⟨⟨h1,h2⟩,h3⟩,h4⟩
            refine T.cond _ rfl (fun ht45=>?_) (fun ht45=>?_)
            · refine T.seq ?_
              refine T.region ?_
              refine TL.assign hF rfl rfl ?_
              refine TL.nil ?_
              refine TQ.then_n ?_
              refine T.ret ?_
              refine TQ.block_r ?_
              refine TQ.then_r ?_
              refine TQ.then_r ?_
              refine TQ.block_r ?_
              refine TQ.then_r ?_
              refine TQ.pop ?_
              refine TQ.rets [4] _ rfl rfl rfl ⟨?_,rfl⟩
              unfold askedS; rw [if_pos hok,if_neg (by omega),if_neg (fun h=>by have h9:=List.all_eq_true.1 h _ (List.getElem_mem hil); rw [hoe,ht45] at h9; cases h9)]; rfl
            · refine T.skip ?_
              refine TQ.block_n ?_
              refine TQ.then_n ?_
              refine T.region ?_
              refine TL.move hF rfl rfl ?_
              refine TL.add hF rfl rfl (by first | omega | (dsimp only; omega)) (by first | omega | (dsimp only; omega)) rfl ?_
              refine TL.assign hF rfl rfl ?_
              refine TL.nil ?_
              refine TQ.round (i+1) ⟨by omega,fun x hx=>?_⟩ (by omega) ⟨rfl,rfl,rfl,trivial⟩ rfl
              rw [List.take_succ_eq_append_getElem hil] at hx
              rcases List.mem_append.1 hx with h | h
              · exact hall x h
              · rw [List.mem_singleton.1 h,hoe,ht45]; rfl
      · refine T.exit ?_
        refine TQ.then_x ?_
        refine TQ.then_x ?_
        refine TQ.block_x ?_
        refine TQ.then_n ?_
        refine T.seq ?_
        refine T.region ?_
        refine TL.assign hF rfl rfl ?_
        refine TL.nil ?_
        refine TQ.then_n ?_
        refine T.ret ?_
        refine TQ.pop ?_
        refine TQ.rets [4] _ rfl rfl rfl ⟨?_,rfl⟩
        have hie:l.length≤i:=by have h:¬ (i:Int)<(l.length:Int):=ht18; omega
        rw [List.take_of_length_le hie] at hall
        unfold askedS; rw [if_pos hok,if_neg (by omega),if_pos (List.all_eq_true.2 hall)]; rfl
end Go.Proofs.YtbajelldegijkaaDoor
/- The reference: folds, which window is first, windows put in, windows of a time. -/
namespace Go.Proofs.YtbajelldegijkaaDoor
open Go.Sl
variable {S:Nat→Prop} {w0:World} {η:Heap}
theorem foldS_step {f:Int} {l:List Int} {i:Nat} (h:i<l.length):foldS f (l.take (i+1))=twoF f (foldS f (l.take i)) (oneF f l[i]):=by
  unfold foldS; rw [List.take_succ_eq_append_getElem h,List.foldl_append]; rfl
set_option maxHeartbeats 2000000 in
theorem Folded_fn {f : Int} {a : Option Addr} {l : List Int} {c : Nat} (hx : Row S w0 η a (ints l)) (hl : l.length < 2147483648) (hf0 : 0 ≤ f ∧ f ≤ 3) (hw : ∀ w ∈ l, Wd w) :
    Rt Tryd.prog 60 [.int .i64 f,.slice a l.length c].toArray S w0 η (fun v η'=>v = .int .i64 (foldS f l)∧η'=η):=by
  have hF:=open_wide
  refine Rt.of (fn:=Tryd.f60) Tryd.func60 rfl rfl ?_
  refine T.seq ?_
  refine T.region ?_
  refine TL.assign hF rfl rfl ?_
  refine TL.nil ?_
  refine TQ.then_n ?_
  refine T.seq ?_
  refine T.seq ?_
  refine T.region ?_
  refine TL.move hF rfl rfl ?_
  refine TL.nil ?_
  refine TQ.then_n ?_
  refine T.block ?_
  refine T.seq ?_
  refine T.region ?_
  refine TL.bin hF rfl rfl rfl rfl ?_
  refine TL.assign hF rfl rfl ?_
  refine TL.nil ?_
  refine TQ.then_n ?_
  refine T.cond_d rfl (fun ht12=>?_) (fun ht12=>?_)
  · refine T.seq ?_
    refine T.region ?_
    refine TL.move hF rfl rfl ?_
    refine TL.len hF rfl rfl ?_
    refine TL.assign hF rfl rfl ?_
    refine TL.nil ?_
    refine TQ.then_n ?_
    refine T.ret ?_
    refine TQ.block_r ?_
    refine TQ.then_r ?_
    have hf:f=0:=ht12
    subst hf
    refine TQ.rets [4] _ rfl rfl rfl ⟨?_,rfl⟩
    rw [fold_count hl]; rfl
  · refine T.seq ?_
    refine T.region ?_
    refine TL.bin hF rfl rfl rfl rfl ?_
    refine TL.assign hF rfl rfl ?_
    refine TL.nil ?_
    refine TQ.then_n ?_
    refine T.cond_d rfl (fun ht16=>?_) (fun ht16=>?_)
    · refine T.seq ?_
      refine T.region ?_
      refine TL.assign hF rfl rfl ?_
      refine TL.nil ?_
      refine TQ.then_n ?_
      refine T.seq ?_
      refine T.seq ?_
      refine T.region ?_
      refine TL.assign hF rfl rfl ?_
      refine TL.nil ?_
      refine TQ.then_n ?_
      refine T.block ?_
      have hf:f=1:=by omega
      subst hf
      refine T.loop (ι:=Nat) (fun i=>i≤l.length) (fun i=>[(1,.slice a l.length c),(4,.int .i64 0),(5,.int .i64 (foldS 1 (l.take i))),(6,.int .i64 (i:Int)),(11,.int .i64 1)]) (fun _=>η) (fun i=>l.length - i) 0 (Nat.zero_le _) ⟨rfl,rfl,rfl,rfl,rfl,trivial⟩ rfl ?_
      rintro i hi
      have hwi:Wd (foldS 1 (l.take i)):=wd_fold fun w h=>hw w (List.mem_of_mem_take h)
      refine T.seq ?_
      refine T.seq ?_
      refine T.region ?_
      refine TL.move hF rfl rfl ?_
      refine TL.move hF rfl rfl ?_
      refine TL.len hF rfl rfl ?_
      refine TL.bin hF rfl rfl rfl rfl ?_
      refine TL.nil ?_
      refine TQ.then_n ?_
      first | refine T.cond_d rfl (fun ht21=>?_) (fun ht21=>?_) | refine T.cond _ rfl (fun ht21=>?_) (fun ht21=>?_)
      · refine T.skip ?_
        refine TQ.then_n ?_
        refine T.seq ?_
        refine T.block ?_
        refine T.region ?_
        have hil:i<l.length:=by have h:(i:Int)<(l.length:Int):=ht21; omega
        have hw2:=hw _ (List.getElem_mem hil)
        unfold Wd at hwi hw2
        refine TL.move hF rfl rfl ?_
        refine TL.move hF rfl rfl ?_
        refine TL.move hF rfl rfl ?_
        refine TL.indexAddr hF rfl rfl (hx.ad (by unfold ints; rw [List.length_map]; omega)) (by omega) (by omega) rfl ?_
        refine TL.load hF rfl (ints_at hx (n:=(i:Int)) (i:=i) (by omega) (by omega) hil) rfl ?_
        refine TL.add hF rfl rfl (by omega) (by omega) rfl ?_
        refine TL.callV hF (Word_fn (foldS 1 (l.take i)+l[i])) rfl rfl ?_
        refine TL.assign hF rfl rfl ?_
        refine TL.nil ?_
        refine TQ.block_n ?_
        refine TQ.then_n ?_
        refine T.region ?_
        refine TL.move hF rfl rfl ?_
        refine TL.add hF rfl rfl (by first | omega | (dsimp only; omega)) (by first | omega | (dsimp only; omega)) rfl ?_
        refine TL.assign hF rfl rfl ?_
        refine TL.nil ?_
        refine TQ.round (i+1) (by omega) (by omega) ⟨rfl,rfl,congrArg (fun z=>some (Value.int .i64 z)) (foldS_step (f:=1) hil).symm,rfl,rfl,trivial⟩ rfl
      · refine T.exit ?_
        refine TQ.then_x ?_
        refine TQ.then_x ?_
        refine TQ.block_x ?_
        refine TQ.then_n ?_
        refine T.seq ?_
        refine T.region ?_
        refine TL.move hF rfl rfl ?_
        refine TL.assign hF rfl rfl ?_
        refine TL.nil ?_
        refine TQ.then_n ?_
        refine T.ret ?_
        refine TQ.block_r ?_
        refine TQ.then_r ?_
        have hie:l.length≤i:=by have h:¬ (i:Int)<(l.length:Int):=ht21; omega
        rw [List.take_of_length_le hie]
        exact TQ.rets [4] _ rfl rfl rfl ⟨rfl,rfl⟩
    · refine T.seq ?_
      refine T.region ?_
      refine TL.bin hF rfl rfl rfl rfl ?_
      refine TL.assign hF rfl rfl ?_
      refine TL.nil ?_
      refine TQ.then_n ?_
      refine T.cond_d rfl (fun ht32=>?_) (fun ht32=>?_)
      · refine T.seq ?_
        refine T.region ?_
        refine TL.assign hF rfl rfl ?_
        refine TL.nil ?_
        refine TQ.then_n ?_
        refine T.seq ?_
        refine T.seq ?_
        refine T.region ?_
        refine TL.assign hF rfl rfl ?_
        refine TL.nil ?_
        refine TQ.then_n ?_
        refine T.block ?_
        have hf:f=2:=by omega
        subst hf
        refine T.loop (ι:=Nat) (fun i=>i≤l.length) (fun i=>[(1,.slice a l.length c),(4,.int .i64 0),(7,.int .i64 (foldS 2 (l.take i))),(8,.int .i64 (i:Int))]) (fun _=>η) (fun i=>l.length - i) 0 (Nat.zero_le _) ⟨rfl,rfl,rfl,rfl,trivial⟩ rfl ?_
        rintro i hi
        have hwi:Wd (foldS 2 (l.take i)):=wd_fold fun w h=>hw w (List.mem_of_mem_take h)
        refine T.seq ?_
        refine T.seq ?_
        refine T.region ?_
        refine TL.move hF rfl rfl ?_
        refine TL.move hF rfl rfl ?_
        refine TL.len hF rfl rfl ?_
        refine TL.bin hF rfl rfl rfl rfl ?_
        refine TL.nil ?_
        refine TQ.then_n ?_
        first | refine T.cond_d rfl (fun ht37=>?_) (fun ht37=>?_) | refine T.cond _ rfl (fun ht37=>?_) (fun ht37=>?_)
        · refine T.skip ?_
          refine TQ.then_n ?_
          refine T.seq ?_
          refine T.block ?_
          refine T.region ?_
          have hil:i<l.length:=by have h:(i:Int)<(l.length:Int):=ht37; omega
          have hw2:=hw _ (List.getElem_mem hil)
          unfold Wd at hwi hw2
          refine TL.move hF rfl rfl ?_
          refine TL.move hF rfl rfl ?_
          refine TL.move hF rfl rfl ?_
          refine TL.indexAddr hF rfl rfl (hx.ad (by unfold ints; rw [List.length_map]; omega)) (by omega) (by omega) rfl ?_
          refine TL.load hF rfl (ints_at hx (n:=(i:Int)) (i:=i) (by omega) (by omega) hil) rfl ?_
          refine TL.min2 hF rfl rfl rfl ?_
          refine TL.assign hF rfl rfl ?_
          refine TL.nil ?_
          refine TQ.block_n ?_
          refine TQ.then_n ?_
          refine T.region ?_
          refine TL.move hF rfl rfl ?_
          refine TL.add hF rfl rfl (by first | omega | (dsimp only; omega)) (by first | omega | (dsimp only; omega)) rfl ?_
          refine TL.assign hF rfl rfl ?_
          refine TL.nil ?_
          refine TQ.round (i+1) (by omega) (by omega) ⟨rfl,rfl,congrArg (fun z=>some (Value.int .i64 z)) (foldS_step (f:=2) hil).symm,rfl,trivial⟩ rfl
        · refine T.exit ?_
          refine TQ.then_x ?_
          refine TQ.then_x ?_
          refine TQ.block_x ?_
          refine TQ.then_n ?_
          refine T.seq ?_
          refine T.region ?_
          refine TL.move hF rfl rfl ?_
          refine TL.assign hF rfl rfl ?_
          refine TL.nil ?_
          refine TQ.then_n ?_
          refine T.ret ?_
          refine TQ.block_r ?_
          refine TQ.then_r ?_
          have hie:l.length≤i:=by have h:¬ (i:Int)<(l.length:Int):=ht37; omega
          rw [List.take_of_length_le hie]
          exact TQ.rets [4] _ rfl rfl rfl ⟨rfl,rfl⟩
      · refine T.skip ?_
        refine TQ.block_n ?_
        refine TQ.then_n ?_
        refine T.seq ?_
        refine T.region ?_
        refine TL.assign hF rfl rfl ?_
        refine TL.nil ?_
        refine TQ.then_n ?_
        refine T.seq ?_
        refine T.seq ?_
        refine T.region ?_
        refine TL.assign hF rfl rfl ?_
        refine TL.nil ?_
        refine TQ.then_n ?_
        refine T.block ?_
        have hf:f=3:=by omega
        subst hf
        refine T.loop (ι:=Nat) (fun i=>i≤l.length) (fun i=>[(1,.slice a l.length c),(4,.int .i64 0),(9,.int .i64 (foldS 3 (l.take i))),(10,.int .i64 (i:Int))]) (fun _=>η) (fun i=>l.length - i) 0 (Nat.zero_le _) ⟨rfl,rfl,rfl,rfl,trivial⟩ rfl ?_
        rintro i hi
        have hwi:Wd (foldS 3 (l.take i)):=wd_fold fun w h=>hw w (List.mem_of_mem_take h)
        refine T.seq ?_
        refine T.seq ?_
        refine T.region ?_
        refine TL.move hF rfl rfl ?_
        refine TL.move hF rfl rfl ?_
        refine TL.len hF rfl rfl ?_
        refine TL.bin hF rfl rfl rfl rfl ?_
        refine TL.nil ?_
        refine TQ.then_n ?_
        first | refine T.cond_d rfl (fun ht50=>?_) (fun ht50=>?_) | refine T.cond _ rfl (fun ht50=>?_) (fun ht50=>?_)
        · refine T.skip ?_
          refine TQ.then_n ?_
          refine T.seq ?_
          refine T.block ?_
          refine T.region ?_
          have hil:i<l.length:=by have h:(i:Int)<(l.length:Int):=ht50; omega
          have hw2:=hw _ (List.getElem_mem hil)
          unfold Wd at hwi hw2
          refine TL.move hF rfl rfl ?_
          refine TL.move hF rfl rfl ?_
          refine TL.move hF rfl rfl ?_
          refine TL.indexAddr hF rfl rfl (hx.ad (by unfold ints; rw [List.length_map]; omega)) (by omega) (by omega) rfl ?_
          refine TL.load hF rfl (ints_at hx (n:=(i:Int)) (i:=i) (by omega) (by omega) hil) rfl ?_
          refine TL.max2 hF rfl rfl rfl ?_
          refine TL.assign hF rfl rfl ?_
          refine TL.nil ?_
          refine TQ.block_n ?_
          refine TQ.then_n ?_
          refine T.region ?_
          refine TL.move hF rfl rfl ?_
          refine TL.add hF rfl rfl (by first | omega | (dsimp only; omega)) (by first | omega | (dsimp only; omega)) rfl ?_
          refine TL.assign hF rfl rfl ?_
          refine TL.nil ?_
          refine TQ.round (i+1) (by omega) (by omega) ⟨rfl,rfl,congrArg (fun z=>some (Value.int .i64 z)) (foldS_step (f:=3) hil).symm,rfl,trivial⟩ rfl
        · refine T.exit ?_
          refine TQ.then_x ?_
          refine TQ.then_x ?_
          refine TQ.block_x ?_
          refine TQ.then_n ?_
          refine T.seq ?_
          refine T.region ?_
          refine TL.move hF rfl rfl ?_
          refine TL.assign hF rfl rfl ?_
          refine TL.nil ?_
          refine TQ.then_n ?_
          refine T.ret ?_
          have hie:l.length≤i:=by have h:¬ (i:Int)<(l.length:Int):=ht50; omega
          rw [List.take_of_length_le hie]
          exact TQ.rets [4] _ rfl rfl rfl ⟨rfl,rfl⟩
set_option maxHeartbeats 2000000 in
theorem first_fn (x y : Ot) :
    Rt Tryd.prog 77 [otV x,otV y].toArray S w0 η (fun v η'=>v = .bool (oLt x y)∧η'=η):=by
  have hF:=open_wide
  refine Rt.of (fn:=Tryd.f77) Tryd.func77 rfl rfl ?_
  refine T.seq ?_
  refine T.region ?_
  refine TL.box hF rfl rfl (fun b2=>?_)
  refine TL.box hF rfl rfl (fun b3=>?_)
  refine TL.assign hF rfl rfl ?_
  refine TL.nil ?_
  refine TQ.then_n ?_
  refine T.seq ?_
  refine T.region ?_
  refine TL.fieldAddr hF rfl rfl ?_
  refine TL.load hF rfl (show At _ _ _ _ (.int .i64 x.fr) from own_mem (b:=b2) (cs:=(otV x).cells) (e:=59) (fz:=(0,0)) (by simp) rfl) rfl ?_
  refine TL.fieldAddr hF rfl rfl ?_
  refine TL.load hF rfl (show At _ _ _ _ (.int .i64 y.fr) from own_mem (b:=b3) (cs:=(otV y).cells) (e:=59) (fz:=(0,0)) (by simp) rfl) rfl ?_
  refine TL.bin hF rfl rfl rfl rfl ?_
  refine TL.move hF rfl rfl ?_
  refine TL.join [_,_,_,_,_,_,_,_,_,_,_,_,_] 23 (.bool (oLt x y)) rfl ?_ ?_
  · refine TL.gd (t:=10) rfl (fun g1_10=>?_) (fun g1_10=>?_)
    · refine TL.off hF rfl rfl rfl (decide_eq_true g1_10) rfl ?_
      refine TL.off hF rfl rfl rfl (decide_eq_true g1_10) rfl ?_
      refine TL.off hF rfl rfl rfl (decide_eq_true g1_10) rfl ?_
      refine TL.off hF rfl rfl rfl (decide_eq_true g1_10) rfl ?_
      refine TL.off hF rfl rfl rfl (decide_eq_true g1_10) rfl ?_
      refine TL.off hF rfl rfl rfl (decide_eq_true g1_10) rfl ?_
      refine TL.offU hF rfl rfl rfl rfl ?_
      refine TL.offU hF rfl rfl rfl rfl ?_
      refine TL.offU hF rfl rfl rfl rfl ?_
      refine TL.offU hF rfl rfl rfl rfl ?_
      refine TL.offU hF rfl rfl rfl rfl ?_
      refine TL.off hF rfl rfl rfl (decide_eq_true g1_10) rfl ?_
      refine TL.pickT hF rfl (decide_eq_true g1_10) rfl rfl ?_
      refine TL.finJ ⟨?_,by repeat (first | exact trivial | refine ⟨rfl,?_⟩)⟩
      first | exact congrArg (fun z=>some (Value.bool z)) (by simp [oLt, *]) | exact congrArg (fun z=>some (Value.bool z)) (by simp [*])
    · refine TL.on rfl rfl rfl (decide_eq_false g1_10) ?_
      refine TL.fieldAddr hF rfl rfl ?_
      refine TL.on rfl rfl rfl (decide_eq_false g1_10) ?_
      refine TL.load hF rfl (show At _ _ _ _ (.int .i64 x.fr) from own_mem (b:=b2) (cs:=(otV x).cells) (e:=59) (fz:=(0,0)) (by simp) rfl) rfl ?_
      refine TL.on rfl rfl rfl (decide_eq_false g1_10) ?_
      refine TL.fieldAddr hF rfl rfl ?_
      refine TL.on rfl rfl rfl (decide_eq_false g1_10) ?_
      refine TL.load hF rfl (show At _ _ _ _ (.int .i64 y.fr) from own_mem (b:=b3) (cs:=(otV y).cells) (e:=59) (fz:=(0,0)) (by simp) rfl) rfl ?_
      refine TL.on rfl rfl rfl (decide_eq_false g1_10) ?_
      refine TL.bin hF rfl rfl rfl rfl ?_
      refine TL.on rfl rfl rfl (decide_eq_false g1_10) ?_
      refine TL.move hF rfl rfl ?_
      refine TL.join [_,_,_,_,_,_] 22 (.bool (decide (x.fr=y.fr) && decide (x.key<y.key))) rfl ?_ ?_
      · refine TL.gd (t:=16) rfl (fun g1_16=>?_) (fun g1_16=>?_)
        · refine TL.on rfl rfl rfl (decide_eq_true g1_16) ?_
          refine TL.fieldAddr hF rfl rfl ?_
          refine TL.on rfl rfl rfl (decide_eq_true g1_16) ?_
          refine TL.load hF rfl (show At _ _ _ _ (.int .i64 x.key) from own_mem (b:=b2) (cs:=(otV x).cells) (e:=59) (fz:=(0,0)) (by simp) rfl) rfl ?_
          refine TL.on rfl rfl rfl (decide_eq_true g1_16) ?_
          refine TL.fieldAddr hF rfl rfl ?_
          refine TL.on rfl rfl rfl (decide_eq_true g1_16) ?_
          refine TL.load hF rfl (show At _ _ _ _ (.int .i64 y.key) from own_mem (b:=b3) (cs:=(otV y).cells) (e:=59) (fz:=(0,0)) (by simp) rfl) rfl ?_
          refine TL.on rfl rfl rfl (decide_eq_true g1_16) ?_
          refine TL.bin hF rfl rfl rfl rfl ?_
          refine TL.on rfl rfl rfl (decide_eq_false g1_10) ?_
          refine TL.pickT hF rfl (decide_eq_true g1_16) rfl rfl ?_
          refine TL.finJ ⟨?_,by repeat (first | exact trivial | refine ⟨rfl,?_⟩)⟩
          first | exact congrArg (fun z=>some (Value.bool z)) (by simp [*]) | exact congrArg (fun z=>some (Value.bool z)) (by simp [*])
        · refine TL.off hF rfl rfl rfl (decide_eq_false g1_16) rfl ?_
          refine TL.off hF rfl rfl rfl (decide_eq_false g1_16) rfl ?_
          refine TL.off hF rfl rfl rfl (decide_eq_false g1_16) rfl ?_
          refine TL.off hF rfl rfl rfl (decide_eq_false g1_16) rfl ?_
          refine TL.off hF rfl rfl rfl (decide_eq_false g1_16) rfl ?_
          refine TL.on rfl rfl rfl (decide_eq_false g1_10) ?_
          refine TL.pickF hF rfl (decide_eq_false g1_16) rfl rfl ?_
          refine TL.finJ ⟨?_,by repeat (first | exact trivial | refine ⟨rfl,?_⟩)⟩
          first | exact congrArg (fun z=>some (Value.bool z)) (by simp [*]) | exact congrArg (fun z=>some (Value.bool z)) (by simp [*])
      · refine TL.pickF hF rfl (decide_eq_false g1_10) rfl rfl ?_
        refine TL.finJ ⟨?_,by repeat (first | exact trivial | refine ⟨rfl,?_⟩)⟩
        first | exact congrArg (fun z=>some (Value.bool z)) (by simp [oLt, *]) | exact congrArg (fun z=>some (Value.bool z)) (by simp [*])
  · refine TL.assign hF rfl rfl ?_
    refine TL.nil ?_
    refine TQ.then_n ?_
    refine T.ret ?_
    refine TQ.pop (TQ.pop ?_)
    exact TQ.rets [4] _ rfl rfl rfl ⟨rfl,rfl⟩
end Go.Proofs.YtbajelldegijkaaDoor
/- The reference: the windows of a time. -/
namespace Go.Proofs.YtbajelldegijkaaDoor
open Go.Sl
variable {S:Nat→Prop} {w0:World} {η:Heap}
set_option maxHeartbeats 4000000 in
theorem spansR_fn {s : Wsp} {t : Int} (hok : TimeOk s t) :
    Rt Tryd.prog 43 [wsV s,.int .i64 t].toArray S w0 η (fun v η'=>∃ a c g,v = .slice a (spansS s t).length c∧OSl 88 2 (.slice a (spansS s t).length c) (spansS s t).length ((spansS s t).flatMap pC) g∧η'=g::η):=by
  have hsp:=hok.sp.step
  have hss:=hok.sp.size
  have hsz:=hok.size
  have ht0:=hok.t0
  have ht1:=hok.t1
  have hfn:=firstS_nonneg hok.sp t
  have hcn:=count_eq hok
  have hcle:=count_le hok
  have hq0:=Int.ediv_nonneg ht0 (show 0≤s.step by omega)
  have hq1:t / s.step≤t:=Int.ediv_le_self _ ht0
  have hqm:=mul_low hok hq0 (Int.le_refl _)
  have hfl:=first_le hok
  have hF:=open_wide
  refine Rt.of (fn:=Tryd.f43) Tryd.func43 rfl rfl ?_
  refine T.seq ?_
  refine T.region ?_
  refine TL.box hF rfl rfl (fun b2=>?_)
  refine TL.assign hF rfl rfl ?_
  refine TL.nil ?_
  refine TQ.then_n ?_
  refine T.seq ?_
  refine T.region ?_
  refine TL.buildSlice hF rfl (cs:=#[]) (e:=88) (fun w=>by kernel_rfl) rfl (fun b8=>?_)
  refine TL.assign hF rfl rfl ?_
  refine TL.assign hF rfl rfl ?_
  refine TL.nil ?_
  refine TQ.then_n ?_
  refine T.seq ?_
  refine T.seq ?_
  refine T.region ?_
  refine TL.move hF rfl rfl ?_
  refine TL.fieldAddr hF rfl rfl ?_
  refine TL.load hF rfl (show At _ _ _ _ (.int .i64 s.size) from own_mem (b:=b2) (cs:=(wsV s).cells) (e:=23) (fz:=(0,0)) (by simp) rfl) rfl ?_
  refine TL.bin hF rfl rfl rfl rfl ?_
  refine TL.nil ?_
  refine TQ.then_n ?_
  refine T.cond_d rfl (fun ht12=>?_) (fun ht12=>?_)
  · have hq2:=Int.ediv_nonneg (show 0≤t - s.size by omega) (show 0≤s.step by omega)
    have hq3:=Int.ediv_le_self s.step (show 0≤t - s.size by omega)
    have hq4:=Int.ediv_mul_le (t - s.size) (show s.step≠0 by omega)
    have hq5:0≤(t - s.size) / s.step*s.step:=Int.mul_nonneg hq2 (by omega)
    refine T.draw ?_
    refine DR.stepV [_] rfl [(1,_,none)] rfl rfl ⟨⟨rfl,by kernel_rfl⟩,trivial⟩ (fun ext=>TL.move hF rfl rfl TL.fin) ?_
    refine DR.stepV [_,_] rfl [(2,_,none)] rfl rfl ⟨⟨rfl,by kernel_rfl⟩,trivial⟩ (fun ext=>TL.fieldAddr hF rfl rfl TL.fin) ?_
    refine DR.stepV [_,_,_] rfl [(14,_,some 1)] rfl rfl ⟨⟨rfl,rfl,rfl⟩,trivial⟩ (fun ext=>TL.load hF rfl (show At _ _ _ _ (.int .i64 s.size) from own_mem (b:=b2) (cs:=(wsV s).cells) (e:=23) (fz:=(0,0)) (by simp) rfl) rfl TL.fin) ?_
    refine DR.stepV [_,_,_,_] rfl [(13,_,some 0),(15,_,some 2)] rfl rfl ⟨⟨rfl,rfl,rfl⟩,⟨rfl,rfl,rfl⟩,trivial⟩ (fun ext=>TL.sub hF rfl rfl (by first | omega | (dsimp only; omega)) (by first | omega | (dsimp only; omega)) rfl TL.fin) ?_
    refine DR.stepV [_,_,_,_,_] rfl [(2,_,none)] rfl rfl ⟨⟨rfl,by kernel_rfl⟩,trivial⟩ (fun ext=>TL.fieldAddr hF rfl rfl TL.fin) ?_
    refine DR.stepV [_,_,_,_,_,_] rfl [(17,_,some 4)] rfl rfl ⟨⟨rfl,rfl,rfl⟩,trivial⟩ (fun ext=>TL.load hF rfl (show At _ _ _ _ (.int .i64 s.step) from own_mem (b:=b2) (cs:=(wsV s).cells) (e:=23) (fz:=(0,0)) (by simp) rfl) rfl TL.fin) ?_
    refine DR.stepV [_,_,_,_,_,_,_] rfl [(16,_,some 3),(18,_,some 5)] rfl rfl ⟨⟨rfl,rfl,rfl⟩,⟨rfl,rfl,rfl⟩,trivial⟩ (fun ext=>TL.quoI hF rfl rfl (by omega) (r:=(t - s.size) / s.step) (by rw [Int.tdiv_eq_ediv_of_nonneg (by omega)]; exact wrap_i64 (by omega) (by omega)) rfl TL.fin) ?_
    refine DR.stepV [_,_,_,_,_,_,_,_] rfl [(2,_,none)] rfl rfl ⟨⟨rfl,by kernel_rfl⟩,trivial⟩ (fun ext=>TL.fieldAddr hF rfl rfl TL.fin) ?_
    refine DR.stepV [_,_,_,_,_,_,_,_,_] rfl [(20,_,some 7)] rfl rfl ⟨⟨rfl,rfl,rfl⟩,trivial⟩ (fun ext=>TL.load hF rfl (show At _ _ _ _ (.int .i64 s.step) from own_mem (b:=b2) (cs:=(wsV s).cells) (e:=23) (fz:=(0,0)) (by simp) rfl) rfl TL.fin) ?_
    refine DR.stepV [_,_,_,_,_,_,_,_,_,_] rfl [(19,_,some 6),(21,_,some 8)] rfl rfl ⟨⟨rfl,rfl,rfl⟩,⟨rfl,rfl,rfl⟩,trivial⟩ (fun ext=>TL.mul hF rfl rfl (by first | omega | (dsimp only; omega)) (by first | omega | (dsimp only; omega)) rfl TL.fin) ?_
    refine DR.stepV [_,_,_,_,_,_,_,_,_,_,_] rfl [(2,_,none)] rfl rfl ⟨⟨rfl,by kernel_rfl⟩,trivial⟩ (fun ext=>TL.fieldAddr hF rfl rfl TL.fin) ?_
    refine DR.stepV [_,_,_,_,_,_,_,_,_,_,_,_] rfl [(23,_,some 10)] rfl rfl ⟨⟨rfl,rfl,rfl⟩,trivial⟩ (fun ext=>TL.load hF rfl (show At _ _ _ _ (.int .i64 s.step) from own_mem (b:=b2) (cs:=(wsV s).cells) (e:=23) (fz:=(0,0)) (by simp) rfl) rfl TL.fin) ?_
    refine DR.done [(24,_),(23,_),(22,_),(21,_),(20,_),(19,_),(18,_),(17,_),(16,_),(15,_),(14,_),(13,_)] [_,_] mixed (by kernel_rfl) (by kernel_rfl) (by kernel_rfl) rfl rfl ?_
    refine TL.add hF rfl rfl (by first | omega | (dsimp only; omega)) (by first | omega | (dsimp only; omega)) rfl ?_
    refine TL.assign hF rfl rfl ?_
    refine TL.nil ?_
    refine TQ.then_n ?_
    refine T.seq ?_
    refine T.seq ?_
    refine T.region ?_
    refine TL.move hF rfl rfl ?_
    refine TL.assign hF rfl rfl ?_
    refine TL.nil ?_
    refine TQ.then_n ?_
    refine T.block ?_
    have hbeg:(t - s.size) / s.step*s.step+s.step=(firstS s t+((0:Nat):Int))*s.step:=by
      have:firstS s t=(t - s.size) / s.step+1:=by unfold firstS; exact if_pos ht12
      rw [this,Int.add_mul,Int.add_mul]; simp
    refine T.heap (η':=[(b8,Obj.cells #[] 88 (0,0))]::[(b2,Obj.cells (wsV s).cells 23 (0,0))]::η) rfl ?_
    refine T.loop (ι:=Nat × Option Addr × Nat × Seg) (fun z=>z.1≤countS s t∧OSl 88 2 (.slice z.2.1 z.1 z.2.2.1) z.1 (((spansS s t).take z.1).flatMap pC) z.2.2.2) (fun z=>[(1,.int .i64 t),(2,ptr b2),(4,.slice none 0 0),(5,.slice z.2.1 z.1 z.2.2.1),(7,.int .i64 ((firstS s t+z.1)*s.step))]) (fun z=>z.2.2.2::[(b2,Obj.cells (wsV s).cells 23 (0,0))]::η) (fun z=>countS s t - z.1) (0,some ⟨b8,0,none⟩,0,[(b8,Obj.cells #[] 88 (0,0))]) ⟨Nat.zero_le _,osl_empty⟩ ⟨rfl,rfl,rfl,rfl,congrArg (fun z=>some (Value.int .i64 z)) hbeg,trivial⟩ rfl ?_
    rintro ⟨i,oa,oc,og⟩ ⟨hi,ho⟩
    dsimp only at hi ho
    have hbn:0≤(firstS s t+i)*s.step∧(firstS s t+i)*s.step≤t+s.step:=by
      refine ⟨Int.mul_nonneg (by omega) (by omega),?_⟩
      have h2:=mul_low hok (j:=t / s.step) (by omega) (Int.le_refl _)
      have h3:(firstS s t+i)*s.step≤(t / s.step+1)*s.step:=Int.mul_le_mul_of_nonneg_right (by omega) (by omega)
      have e1:(t / s.step+1)*s.step=t / s.step*s.step+s.step:=by rw [Int.add_mul,Int.one_mul]
      omega
    refine T.seq ?_
    refine T.seq ?_
    refine T.region ?_
    refine TL.move hF rfl rfl ?_
    refine TL.move hF rfl rfl ?_
    refine TL.bin hF rfl rfl rfl rfl ?_
    refine TL.nil ?_
    refine TQ.then_n ?_
    first | refine T.cond_d rfl (fun ht29=>?_) (fun ht29=>?_) | refine T.cond _ rfl (fun ht29=>?_) (fun ht29=>?_)
    · refine T.skip ?_
      refine TQ.then_n ?_
      refine T.seq ?_
      refine T.block ?_
      refine T.seq ?_
      refine T.region ?_
      refine TL.move hF rfl rfl ?_
      refine TL.move hF rfl rfl ?_
      have hil:i<countS s t:=by
        have h:(firstS s t+i)*s.step≤t:=ht29
        rcases Nat.lt_or_ge i (countS s t) with q | q
        · exact q
        · exfalso
          have h3:(t / s.step+1)*s.step≤(firstS s t+i)*s.step:=Int.mul_le_mul_of_nonneg_right (by omega) (by omega)
          have h4:=Int.lt_ediv_add_one_mul_self t (show 0<s.step by omega)
          omega
      have hsl:i<(spansS s t).length:=by rw [spans_len]; exact hil
      have hsi:(spansS s t)[i]=((firstS s t+i)*s.step,(firstS s t+i)*s.step+s.size):=by
        have:=spans_at hil
        rw [List.getElem?_eq_getElem hsl] at this
        exact Option.some.inj this
      have hmm:=(mem_spans hok.sp).1 (List.getElem_mem hsl)
      rw [hsi] at hmm
      have hlt:=hmm.2.2
      dsimp only at hlt
      refine TL.fieldAddr hF rfl rfl ?_
      refine TL.load hF rfl (show At _ _ _ _ (.int .i64 s.size) from own_mem (b:=b2) (cs:=(wsV s).cells) (e:=23) (fz:=(0,0)) (by simp) rfl) rfl ?_
      refine TL.add hF rfl rfl (by first | omega | (dsimp only; omega)) (by first | omega | (dsimp only; omega)) rfl ?_
      refine TL.bin hF rfl rfl rfl rfl ?_
      refine TL.nil ?_
      refine TQ.then_n ?_
      refine T.cond_t rfl (by rw [decide_eq_true_eq]; exact hlt) ?_
      refine T.region ?_
      refine TL.move hF rfl rfl ?_
      refine TL.move hF rfl rfl ?_
      refine TL.move hF rfl rfl ?_
      refine TL.fieldAddr hF rfl rfl ?_
      refine TL.load hF rfl (show At _ _ _ _ (.int .i64 s.size) from own_mem (b:=b2) (cs:=(wsV s).cells) (e:=23) (fz:=(0,0)) (by simp) rfl) rfl ?_
      refine TL.add hF rfl rfl (by first | omega | (dsimp only; omega)) (by first | omega | (dsimp only; omega)) rfl ?_
      refine TL.build hF rfl (r:=.agg #[.int .i64 ((firstS s t+i)*s.step),.int .i64 ((firstS s t+i)*s.step+s.size)]) (fun w=>by kernel_rfl) rfl ?_
      refine TL.buildSlice hF rfl (cs:=#[.int .i64 ((firstS s t+i)*s.step),.int .i64 ((firstS s t+i)*s.step+s.size)]) (e:=88) (fun w=>by kernel_rfl) rfl (fun bq=>?_)
      refine TL.append hF 1 rfl rfl rfl ho (row_own (cs:=[.int .i64 ((firstS s t+i)*s.step),.int .i64 ((firstS s t+i)*s.step+s.size)]) (e:=88) (b:=bq) (by simp)).src rfl rfl (by simp [Value.oneCell']) (by omega) (by omega) rfl (fun pa pc pg ph=>?_)
      refine TL.assign hF rfl rfl ?_
      refine TL.nil ?_
      refine TQ.block_n ?_
      refine TQ.then_n ?_
      refine T.region ?_
      refine TL.move hF rfl rfl ?_
      refine TL.fieldAddr hF rfl rfl ?_
      refine TL.load hF rfl (show At _ _ _ _ (.int .i64 s.step) from own_mem (b:=b2) (cs:=(wsV s).cells) (e:=23) (fz:=(0,0)) (List.mem_cons_of_mem _ (List.mem_cons_of_mem _ List.mem_cons_self)) rfl) rfl ?_
      refine TL.add hF rfl rfl (by first | omega | (dsimp only; omega)) (by first | omega | (dsimp only; omega)) rfl ?_
      refine TL.assign hF rfl rfl ?_
      refine TL.nil ?_
      have e1:(spansS s t).take (i+1)=(spansS s t).take i++[((firstS s t+i)*s.step,(firstS s t+i)*s.step+s.size)]:=by rw [List.take_succ_eq_append_getElem hsl,hsi]
      have e2:((spansS s t).take (i+1)).flatMap pC=((spansS s t).take i).flatMap pC++[.int .i64 ((firstS s t+i)*s.step),.int .i64 ((firstS s t+i)*s.step+s.size)]:=by rw [e1,List.flatMap_append]; rfl
      rw [← e2] at ph
      refine TQ.pop ?_
      exact TQ.round (i+1,pa,pc,pg) ⟨hil,ph⟩ (by dsimp only; omega) ⟨rfl,rfl,rfl,rfl,congrArg (fun z=>some (Value.int .i64 z)) (by dsimp only; rw [show firstS s t+((i+1:Nat):Int)=(firstS s t+i)+1 by omega,Int.add_mul (firstS s t+(i:Int)) 1,Int.one_mul]),trivial⟩ rfl
    · refine T.exit ?_
      refine TQ.then_x ?_
      refine TQ.then_x ?_
      refine TQ.block_x ?_
      refine TQ.then_n ?_
      refine T.seq ?_
      refine T.region ?_
      refine TL.move hF rfl rfl ?_
      refine TL.assign hF rfl rfl ?_
      refine TL.nil ?_
      refine TQ.then_n ?_
      refine T.ret ?_
      have hie:i=countS s t:=by
        have h:¬ (firstS s t+i)*s.step≤t:=ht29
        rcases Nat.lt_or_ge i (countS s t) with q | q
        · exfalso
          have h3:(firstS s t+i)*s.step≤(t / s.step)*s.step:=Int.mul_le_mul_of_nonneg_right (by omega) (by omega)
          omega
        · omega
      rw [List.take_of_length_le (by rw [spans_len]; omega)] at ho
      refine TQ.hsub (og::η) (List.Sublist.cons_cons _ (List.sublist_cons_self _ _)) ?_
      exact TQ.rets [4] _ rfl rfl rfl ⟨oa,oc,og,by rw [spans_len,← hie]; rfl,by rw [spans_len,← hie]; exact ho,rfl⟩
  · refine T.skip ?_
    refine TQ.then_n ?_
    refine T.seq ?_
    refine T.seq ?_
    refine T.region ?_
    refine TL.move hF rfl rfl ?_
    refine TL.assign hF rfl rfl ?_
    refine TL.nil ?_
    refine TQ.then_n ?_
    refine T.block ?_
    have hbeg:(0:Int)=(firstS s t+((0:Nat):Int))*s.step:=by
      have:firstS s t=0:=by unfold firstS; exact if_neg ht12
      rw [this]; simp
    refine T.heap (η':=[(b8,Obj.cells #[] 88 (0,0))]::[(b2,Obj.cells (wsV s).cells 23 (0,0))]::η) rfl ?_
    refine T.loop (ι:=Nat × Option Addr × Nat × Seg) (fun z=>z.1≤countS s t∧OSl 88 2 (.slice z.2.1 z.1 z.2.2.1) z.1 (((spansS s t).take z.1).flatMap pC) z.2.2.2) (fun z=>[(1,.int .i64 t),(2,ptr b2),(4,.slice none 0 0),(5,.slice z.2.1 z.1 z.2.2.1),(7,.int .i64 ((firstS s t+z.1)*s.step))]) (fun z=>z.2.2.2::[(b2,Obj.cells (wsV s).cells 23 (0,0))]::η) (fun z=>countS s t - z.1) (0,some ⟨b8,0,none⟩,0,[(b8,Obj.cells #[] 88 (0,0))]) ⟨Nat.zero_le _,osl_empty⟩ ⟨rfl,rfl,rfl,rfl,congrArg (fun z=>some (Value.int .i64 z)) hbeg,trivial⟩ rfl ?_
    rintro ⟨i,oa,oc,og⟩ ⟨hi,ho⟩
    dsimp only at hi ho
    have hbn:0≤(firstS s t+i)*s.step∧(firstS s t+i)*s.step≤t+s.step:=by
      refine ⟨Int.mul_nonneg (by omega) (by omega),?_⟩
      have h2:=mul_low hok (j:=t / s.step) (by omega) (Int.le_refl _)
      have h3:(firstS s t+i)*s.step≤(t / s.step+1)*s.step:=Int.mul_le_mul_of_nonneg_right (by omega) (by omega)
      have e1:(t / s.step+1)*s.step=t / s.step*s.step+s.step:=by rw [Int.add_mul,Int.one_mul]
      omega
    refine T.seq ?_
    refine T.seq ?_
    refine T.region ?_
    refine TL.move hF rfl rfl ?_
    refine TL.move hF rfl rfl ?_
    refine TL.bin hF rfl rfl rfl rfl ?_
    refine TL.nil ?_
    refine TQ.then_n ?_
    first | refine T.cond_d rfl (fun ht29=>?_) (fun ht29=>?_) | refine T.cond _ rfl (fun ht29=>?_) (fun ht29=>?_)
    · refine T.skip ?_
      refine TQ.then_n ?_
      refine T.seq ?_
      refine T.block ?_
      refine T.seq ?_
      refine T.region ?_
      refine TL.move hF rfl rfl ?_
      refine TL.move hF rfl rfl ?_
      have hil:i<countS s t:=by
        have h:(firstS s t+i)*s.step≤t:=ht29
        rcases Nat.lt_or_ge i (countS s t) with q | q
        · exact q
        · exfalso
          have h3:(t / s.step+1)*s.step≤(firstS s t+i)*s.step:=Int.mul_le_mul_of_nonneg_right (by omega) (by omega)
          have h4:=Int.lt_ediv_add_one_mul_self t (show 0<s.step by omega)
          omega
      have hsl:i<(spansS s t).length:=by rw [spans_len]; exact hil
      have hsi:(spansS s t)[i]=((firstS s t+i)*s.step,(firstS s t+i)*s.step+s.size):=by
        have:=spans_at hil
        rw [List.getElem?_eq_getElem hsl] at this
        exact Option.some.inj this
      have hmm:=(mem_spans hok.sp).1 (List.getElem_mem hsl)
      rw [hsi] at hmm
      have hlt:=hmm.2.2
      dsimp only at hlt
      refine TL.fieldAddr hF rfl rfl ?_
      refine TL.load hF rfl (show At _ _ _ _ (.int .i64 s.size) from own_mem (b:=b2) (cs:=(wsV s).cells) (e:=23) (fz:=(0,0)) (by simp) rfl) rfl ?_
      refine TL.add hF rfl rfl (by first | omega | (dsimp only; omega)) (by first | omega | (dsimp only; omega)) rfl ?_
      refine TL.bin hF rfl rfl rfl rfl ?_
      refine TL.nil ?_
      refine TQ.then_n ?_
      refine T.cond_t rfl (by rw [decide_eq_true_eq]; exact hlt) ?_
      refine T.region ?_
      refine TL.move hF rfl rfl ?_
      refine TL.move hF rfl rfl ?_
      refine TL.move hF rfl rfl ?_
      refine TL.fieldAddr hF rfl rfl ?_
      refine TL.load hF rfl (show At _ _ _ _ (.int .i64 s.size) from own_mem (b:=b2) (cs:=(wsV s).cells) (e:=23) (fz:=(0,0)) (by simp) rfl) rfl ?_
      refine TL.add hF rfl rfl (by first | omega | (dsimp only; omega)) (by first | omega | (dsimp only; omega)) rfl ?_
      refine TL.build hF rfl (r:=.agg #[.int .i64 ((firstS s t+i)*s.step),.int .i64 ((firstS s t+i)*s.step+s.size)]) (fun w=>by kernel_rfl) rfl ?_
      refine TL.buildSlice hF rfl (cs:=#[.int .i64 ((firstS s t+i)*s.step),.int .i64 ((firstS s t+i)*s.step+s.size)]) (e:=88) (fun w=>by kernel_rfl) rfl (fun bq=>?_)
      refine TL.append hF 1 rfl rfl rfl ho (row_own (cs:=[.int .i64 ((firstS s t+i)*s.step),.int .i64 ((firstS s t+i)*s.step+s.size)]) (e:=88) (b:=bq) (by simp)).src rfl rfl (by simp [Value.oneCell']) (by omega) (by omega) rfl (fun pa pc pg ph=>?_)
      refine TL.assign hF rfl rfl ?_
      refine TL.nil ?_
      refine TQ.block_n ?_
      refine TQ.then_n ?_
      refine T.region ?_
      refine TL.move hF rfl rfl ?_
      refine TL.fieldAddr hF rfl rfl ?_
      refine TL.load hF rfl (show At _ _ _ _ (.int .i64 s.step) from own_mem (b:=b2) (cs:=(wsV s).cells) (e:=23) (fz:=(0,0)) (List.mem_cons_of_mem _ (List.mem_cons_of_mem _ List.mem_cons_self)) rfl) rfl ?_
      refine TL.add hF rfl rfl (by first | omega | (dsimp only; omega)) (by first | omega | (dsimp only; omega)) rfl ?_
      refine TL.assign hF rfl rfl ?_
      refine TL.nil ?_
      have e1:(spansS s t).take (i+1)=(spansS s t).take i++[((firstS s t+i)*s.step,(firstS s t+i)*s.step+s.size)]:=by rw [List.take_succ_eq_append_getElem hsl,hsi]
      have e2:((spansS s t).take (i+1)).flatMap pC=((spansS s t).take i).flatMap pC++[.int .i64 ((firstS s t+i)*s.step),.int .i64 ((firstS s t+i)*s.step+s.size)]:=by rw [e1,List.flatMap_append]; rfl
      rw [← e2] at ph
      refine TQ.pop ?_
      exact TQ.round (i+1,pa,pc,pg) ⟨hil,ph⟩ (by dsimp only; omega) ⟨rfl,rfl,rfl,rfl,congrArg (fun z=>some (Value.int .i64 z)) (by dsimp only; rw [show firstS s t+((i+1:Nat):Int)=(firstS s t+i)+1 by omega,Int.add_mul (firstS s t+(i:Int)) 1,Int.one_mul]),trivial⟩ rfl
    · refine T.exit ?_
      refine TQ.then_x ?_
      refine TQ.then_x ?_
      refine TQ.block_x ?_
      refine TQ.then_n ?_
      refine T.seq ?_
      refine T.region ?_
      refine TL.move hF rfl rfl ?_
      refine TL.assign hF rfl rfl ?_
      refine TL.nil ?_
      refine TQ.then_n ?_
      refine T.ret ?_
      have hie:i=countS s t:=by
        have h:¬ (firstS s t+i)*s.step≤t:=ht29
        rcases Nat.lt_or_ge i (countS s t) with q | q
        · exfalso
          have h3:(firstS s t+i)*s.step≤(t / s.step)*s.step:=Int.mul_le_mul_of_nonneg_right (by omega) (by omega)
          omega
        · omega
      rw [List.take_of_length_le (by rw [spans_len]; omega)] at ho
      refine TQ.hsub (og::η) (List.Sublist.cons_cons _ (List.sublist_cons_self _ _)) ?_
      exact TQ.rets [4] _ rfl rfl rfl ⟨oa,oc,og,by rw [spans_len,← hie]; rfl,by rw [spans_len,← hie]; exact ho,rfl⟩
end Go.Proofs.YtbajelldegijkaaDoor
/- The reference: the word of a window. -/
namespace Go.Proofs.YtbajelldegijkaaDoor
open Go.Sl
variable {S:Nat→Prop} {w0:World} {η:Heap}
set_option maxHeartbeats 4000000 in
theorem wordR_fn {s : Wsp} {a : Option Addr} {l : List Rw} {c : Nat} {w : Int × Int} {key : Int} (hr : RRow S w0 η a l) (hl : l.length < 1000000) (hf : 0 ≤ s.fold ∧ s.fold ≤ 3) (hw : Ws l) (hw2 : -1000000000 ≤ w.2 ∧ w.2 ≤ 1000000000) :
    Rt Tryd.prog 67 [wsV s,.slice a l.length c,.agg (pC w).toArray,.int .i64 key].toArray S w0 η (fun v η'=>v=otV (outS s l key w)∧η'=η):=by
  have hF:=open_wide
  refine Rt.of (fn:=Tryd.f67) Tryd.func67 rfl rfl ?_
  refine T.seq ?_
  refine T.region ?_
  refine TL.box hF rfl rfl (fun b4=>?_)
  refine TL.box hF rfl rfl (fun b6=>?_)
  refine TL.alloc hF rfl (fun b8=>?_)
  refine TL.nil ?_
  refine TQ.then_n ?_
  refine T.seq ?_
  refine T.region ?_
  refine TL.buildSlice hF rfl (cs:=#[]) (e:=3) (fun w=>by kernel_rfl) rfl (fun b11=>?_)
  refine TL.assign hF rfl rfl ?_
  refine TL.nil ?_
  refine TQ.then_n ?_
  refine T.seq ?_
  refine T.seq ?_
  refine T.region ?_
  refine TL.assign hF rfl rfl ?_
  refine TL.nil ?_
  refine TQ.then_n ?_
  refine T.block ?_
  refine T.heap (η':=[(b11,Obj.cells #[] 3 (0,0))]::[(b8,Obj.cells #[.int .i64 0,.int .i64 0,.int .i64 0,.int .i64 0] 59 (0,0))]::[(b6,Obj.cells (pC w).toArray 88 (0,0))]::[(b4,Obj.cells (wsC s).toArray 23 (0,0))]::η) rfl ?_
  refine T.loop (ι:=Nat × Option Addr × Nat × Seg) (fun z=>z.1≤l.length∧OSl 3 1 (.slice z.2.1 (((l.take z.1).filter (inW key w)).map (·.word)).length z.2.2.1) (((l.take z.1).filter (inW key w)).map (·.word)).length (ints (((l.take z.1).filter (inW key w)).map (·.word))) z.2.2.2) (fun z=>[(1,.slice a l.length c),(3,.int .i64 key),(4,ptr b4),(6,ptr b6),(8,ptr b8),(9,.slice z.2.1 (((l.take z.1).filter (inW key w)).map (·.word)).length z.2.2.1),(10,.int .i64 (z.1:Int))]) (fun z=>z.2.2.2::[(b8,Obj.cells #[.int .i64 0,.int .i64 0,.int .i64 0,.int .i64 0] 59 (0,0))]::[(b6,Obj.cells (pC w).toArray 88 (0,0))]::[(b4,Obj.cells (wsC s).toArray 23 (0,0))]::η) (fun z=>l.length - z.1) (0,some ⟨b11,0,none⟩,0,[(b11,Obj.cells #[] 3 (0,0))]) ⟨Nat.zero_le _,osl_empty⟩ ⟨rfl,rfl,rfl,rfl,rfl,rfl,rfl,trivial⟩ rfl ?_
  rintro ⟨i,oa,oc,og⟩ ⟨hi,ho⟩
  dsimp only at hi ho
  have hfl:(((l.take i).filter (inW key w)).map (·.word)).length≤i:=by rw [List.length_map]; have:=List.length_filter_le (inW key w) (l.take i); rw [List.length_take] at this; omega
  refine T.seq ?_
  refine T.seq ?_
  refine T.region ?_
  refine TL.move hF rfl rfl ?_
  refine TL.move hF rfl rfl ?_
  refine TL.len hF rfl rfl ?_
  refine TL.bin hF rfl rfl rfl rfl ?_
  refine TL.nil ?_
  refine TQ.then_n ?_
  first | refine T.cond_d rfl (fun ht15=>?_) (fun ht15=>?_) | refine T.cond _ rfl (fun ht15=>?_) (fun ht15=>?_)
  · refine T.skip ?_
    refine TQ.then_n ?_
    refine T.seq ?_
    refine T.block ?_
    refine T.seq ?_
    have hil:i<l.length:=by have h:(i:Int)<(l.length:Int):=ht15; omega
    have htk:l.take (i+1)=l.take i++[l[i]]:=List.take_succ_eq_append_getElem hil
    by_cases hk:l[i].key=key
    · refine T.draw ?_
      refine DR.stepV [_] rfl [(1,_,none)] rfl rfl ⟨⟨rfl,by kernel_rfl⟩,trivial⟩ (fun ext=>TL.move hF rfl rfl TL.fin) ?_
      refine DR.stepV [_,_] rfl [(10,_,none)] rfl rfl ⟨⟨rfl,by kernel_rfl⟩,trivial⟩ (fun ext=>TL.move hF rfl rfl TL.fin) ?_
      refine DR.stepV [_,_,_] rfl [(18,_,some 0),(19,_,some 1)] rfl rfl ⟨⟨rfl,rfl,rfl⟩,⟨rfl,rfl,rfl⟩,trivial⟩ (fun ext=>TL.indexAddr hF rfl rfl (rr_ad hr hil) (by first | omega | (dsimp only; omega)) (by first | omega | (dsimp only; omega)) rfl TL.fin) ?_
      refine DR.stepV [_,_,_,_] rfl [(20,_,some 2)] rfl rfl ⟨⟨rfl,rfl,rfl⟩,trivial⟩ (fun ext=>TL.fieldAddr hF rfl rfl TL.fin) ?_
      refine DR.stepV [_,_,_,_,_] rfl [(21,_,some 3)] rfl rfl ⟨⟨rfl,rfl,rfl⟩,trivial⟩ (fun ext=>TL.load hF rfl (rr_at (hr.up (fun _ hs=>List.mem_cons_of_mem _ (List.mem_cons_of_mem _ (List.mem_cons_of_mem _ (List.mem_cons_of_mem _ hs))))) hil 1 _ rfl) rfl TL.fin) ?_
      refine DR.stepV [_,_,_,_,_,_] rfl [(3,_,none)] rfl rfl ⟨⟨rfl,by kernel_rfl⟩,trivial⟩ (fun ext=>TL.move hF rfl rfl TL.fin) ?_
      refine DR.stepV [_,_,_,_,_,_,_] rfl [(22,_,some 4),(23,_,some 5)] rfl rfl ⟨⟨rfl,rfl,rfl⟩,⟨rfl,rfl,rfl⟩,trivial⟩ (fun ext=>TL.bin hF rfl rfl rfl rfl TL.fin) ?_
      refine DR.stepV [_,_,_,_,_,_,_,_] rfl [(24,_,some 6)] rfl rfl ⟨⟨rfl,rfl,rfl⟩,trivial⟩ (fun ext=>TL.move hF rfl rfl TL.fin) ?_
      refine DR.stepV [_,_,_,_,_,_,_,_,_] rfl [(1,_,none),(25,_,some 7)] rfl rfl ⟨⟨rfl,by kernel_rfl⟩,⟨rfl,rfl,rfl⟩,trivial⟩ (fun ext=>TL.on rfl rfl rfl (decide_eq_true hk) <| TL.move hF rfl rfl TL.fin) ?_
      refine DR.stepV [_,_,_,_,_,_,_,_,_,_] rfl [(10,_,none),(25,_,some 7)] rfl rfl ⟨⟨rfl,by kernel_rfl⟩,⟨rfl,rfl,rfl⟩,trivial⟩ (fun ext=>TL.on rfl rfl rfl (decide_eq_true hk) <| TL.move hF rfl rfl TL.fin) ?_
      refine DR.stepV [_,_,_,_,_,_,_,_,_,_,_] rfl [(26,_,some 8),(27,_,some 9),(25,_,some 7)] rfl rfl ⟨⟨rfl,rfl,rfl⟩,⟨rfl,rfl,rfl⟩,⟨rfl,rfl,rfl⟩,trivial⟩ (fun ext=>TL.on rfl rfl rfl (decide_eq_true hk) <| TL.indexAddr hF rfl rfl (rr_ad hr hil) (by first | omega | (dsimp only; omega)) (by first | omega | (dsimp only; omega)) rfl TL.fin) ?_
      refine DR.stepV [_,_,_,_,_,_,_,_,_,_,_,_] rfl [(28,_,some 10),(25,_,some 7)] rfl rfl ⟨⟨rfl,rfl,rfl⟩,⟨rfl,rfl,rfl⟩,trivial⟩ (fun ext=>TL.on rfl rfl rfl (decide_eq_true hk) <| TL.fieldAddr hF rfl rfl TL.fin) ?_
      refine DR.stepV [_,_,_,_,_,_,_,_,_,_,_,_,_] rfl [(29,_,some 11),(25,_,some 7)] rfl rfl ⟨⟨rfl,rfl,rfl⟩,⟨rfl,rfl,rfl⟩,trivial⟩ (fun ext=>TL.on rfl rfl rfl (decide_eq_true hk) <| TL.load hF rfl (rr_at (hr.up (fun _ hs=>List.mem_cons_of_mem _ (List.mem_cons_of_mem _ (List.mem_cons_of_mem _ (List.mem_cons_of_mem _ hs))))) hil 0 _ rfl) rfl TL.fin) ?_
      refine DR.stepV [_,_,_,_,_,_,_,_,_,_,_,_,_,_] rfl [(6,_,none),(25,_,some 7)] rfl rfl ⟨⟨rfl,by kernel_rfl⟩,⟨rfl,rfl,rfl⟩,trivial⟩ (fun ext=>TL.on rfl rfl rfl (decide_eq_true hk) <| TL.fieldAddr hF rfl rfl TL.fin) ?_
      refine DR.stepV [_,_,_,_,_,_,_,_,_,_,_,_,_,_,_] rfl [(31,_,some 13),(25,_,some 7)] rfl rfl ⟨⟨rfl,rfl,rfl⟩,⟨rfl,rfl,rfl⟩,trivial⟩ (fun ext=>TL.on rfl rfl rfl (decide_eq_true hk) <| TL.load hF rfl (show At _ _ _ _ (.int .i64 w.1) from own_mem (b:=b6) (cs:=(pC w).toArray) (e:=88) (fz:=(0,0)) (by simp) rfl) rfl TL.fin) ?_
      refine DR.stepV [_,_,_,_,_,_,_,_,_,_,_,_,_,_,_,_] rfl [(6,_,none),(25,_,some 7)] rfl rfl ⟨⟨rfl,by kernel_rfl⟩,⟨rfl,rfl,rfl⟩,trivial⟩ (fun ext=>TL.on rfl rfl rfl (decide_eq_true hk) <| TL.fieldAddr hF rfl rfl TL.fin) ?_
      refine DR.stepV [_,_,_,_,_,_,_,_,_,_,_,_,_,_,_,_,_] rfl [(33,_,some 15),(25,_,some 7)] rfl rfl ⟨⟨rfl,rfl,rfl⟩,⟨rfl,rfl,rfl⟩,trivial⟩ (fun ext=>TL.on rfl rfl rfl (decide_eq_true hk) <| TL.load hF rfl (show At _ _ _ _ (.int .i64 w.2) from own_mem (b:=b6) (cs:=(pC w).toArray) (e:=88) (fz:=(0,0)) (by simp) rfl) rfl TL.fin) ?_
      refine DR.stepV [_,_,_,_,_,_,_,_,_,_,_,_,_,_,_,_,_,_] rfl [(34,_,some 16),(25,_,some 7)] rfl rfl ⟨⟨rfl,rfl,rfl⟩,⟨rfl,rfl,rfl⟩,trivial⟩ (fun ext=>TL.on rfl rfl rfl (decide_eq_true hk) <| TL.sub hF rfl rfl (by first | omega | (dsimp only; omega)) (by first | omega | (dsimp only; omega)) rfl TL.fin) ?_
      refine DR.done [(35,_),(34,_),(33,_),(32,_),(31,_),(30,_),(29,_),(28,_),(27,_),(26,_),(25,_),(24,_),(23,_),(22,_),(21,_),(20,_),(19,_),(18,_)] [_,_] mixed (by kernel_rfl) (by kernel_rfl) (by kernel_rfl) rfl rfl ?_
      refine TL.on rfl rfl rfl (decide_eq_true hk) ?_
      refine TL.callV hF (Lies_fn l[i].time w.1 (w.2 - 1)) rfl rfl ?_
      refine TL.pickT hF rfl (decide_eq_true hk) rfl rfl ?_
      refine TL.nil ?_
      refine TQ.then_n ?_
      refine T.cond _ rfl (fun ht37=>?_) (fun ht37=>?_)
      · refine T.region ?_
        refine TL.move hF rfl rfl ?_
        refine TL.move hF rfl rfl ?_
        refine TL.move hF rfl rfl ?_
        refine TL.indexAddr hF rfl rfl (rr_ad hr hil) (by first | omega | (dsimp only; omega)) (by first | omega | (dsimp only; omega)) rfl ?_
        refine TL.fieldAddr hF rfl rfl ?_
        refine TL.load hF rfl (rr_at (hr.up (fun _ hs=>List.mem_cons_of_mem _ (List.mem_cons_of_mem _ (List.mem_cons_of_mem _ (List.mem_cons_of_mem _ hs))))) hil 2 _ rfl) rfl ?_
        refine TL.buildSlice hF rfl (cs:=#[.int .i64 l[i].word]) (e:=3) (fun w=>by kernel_rfl) rfl (fun bq=>?_)
        refine TL.append hF 1 rfl rfl rfl ho (row_own (cs:=[.int .i64 l[i].word]) (e:=3) (b:=bq) (by simp)).src rfl rfl (by simp [Value.oneCell']) (by omega) (by omega) rfl (fun pa pc pg ph=>?_)
        refine TL.assign hF rfl rfl ?_
        refine TL.nil ?_
        refine TQ.block_n ?_
        refine TQ.then_n ?_
        refine T.region ?_
        refine TL.move hF rfl rfl ?_
        refine TL.add hF rfl rfl (by first | omega | (dsimp only; omega)) (by first | omega | (dsimp only; omega)) rfl ?_
        refine TL.assign hF rfl rfl ?_
        refine TL.nil ?_
        have hin:inW key w l[i]=true:=by
          have h9:(decide (w.1≤l[i].time) && decide (l[i].time≤w.2 - 1))=true:=ht37
          unfold inW; rw [decide_eq_true hk,Bool.true_and]; exact h9
        have ew:((l.take (i+1)).filter (inW key w)).map (·.word)=((l.take i).filter (inW key w)).map (·.word)++[l[i].word]:=by rw [htk,List.filter_append,List.filter_cons_of_pos hin,List.filter_nil,List.map_append]; rfl
        have ei:ints (((l.take i).filter (inW key w)).map (·.word))++[.int .i64 l[i].word]=ints (((l.take (i+1)).filter (inW key w)).map (·.word)):=by rw [ew]; simp [ints]
        have el:(((l.take i).filter (inW key w)).map (·.word)).length+1=(((l.take (i+1)).filter (inW key w)).map (·.word)).length:=by rw [ew,List.length_append]; rfl
        rw [ei] at ph
        rw [el] at ph ⊢
        refine TQ.pop ?_
        exact TQ.round (i+1,pa,pc,pg) ⟨hil,ph⟩ (by dsimp only; omega) ⟨rfl,rfl,rfl,rfl,rfl,rfl,rfl,trivial⟩ rfl
      · refine T.skip ?_
        refine TQ.block_n ?_
        refine TQ.then_n ?_
        refine T.region ?_
        refine TL.move hF rfl rfl ?_
        refine TL.add hF rfl rfl (by first | omega | (dsimp only; omega)) (by first | omega | (dsimp only; omega)) rfl ?_
        refine TL.assign hF rfl rfl ?_
        refine TL.nil ?_
        have hin:¬ inW key w l[i]=true:=by
          have h9:(decide (w.1≤l[i].time) && decide (l[i].time≤w.2 - 1))=false:=ht37
          unfold inW; rw [decide_eq_true hk,Bool.true_and,h9]; exact Bool.false_ne_true
        have ew:((l.take (i+1)).filter (inW key w)).map (·.word)=((l.take i).filter (inW key w)).map (·.word):=by rw [htk,List.filter_append,List.filter_cons_of_neg hin,List.filter_nil,List.append_nil]
        exact TQ.round (i+1,oa,oc,og) ⟨hil,by dsimp only; rw [ew]; exact ho⟩ (by dsimp only; omega) ⟨rfl,rfl,rfl,rfl,rfl,by dsimp only; rw [ew]; rfl,rfl,trivial⟩ rfl
    · refine T.draw ?_
      refine DR.stepV [_] rfl [(1,_,none)] rfl rfl ⟨⟨rfl,by kernel_rfl⟩,trivial⟩ (fun ext=>TL.move hF rfl rfl TL.fin) ?_
      refine DR.stepV [_,_] rfl [(10,_,none)] rfl rfl ⟨⟨rfl,by kernel_rfl⟩,trivial⟩ (fun ext=>TL.move hF rfl rfl TL.fin) ?_
      refine DR.stepV [_,_,_] rfl [(18,_,some 0),(19,_,some 1)] rfl rfl ⟨⟨rfl,rfl,rfl⟩,⟨rfl,rfl,rfl⟩,trivial⟩ (fun ext=>TL.indexAddr hF rfl rfl (rr_ad hr hil) (by first | omega | (dsimp only; omega)) (by first | omega | (dsimp only; omega)) rfl TL.fin) ?_
      refine DR.stepV [_,_,_,_] rfl [(20,_,some 2)] rfl rfl ⟨⟨rfl,rfl,rfl⟩,trivial⟩ (fun ext=>TL.fieldAddr hF rfl rfl TL.fin) ?_
      refine DR.stepV [_,_,_,_,_] rfl [(21,_,some 3)] rfl rfl ⟨⟨rfl,rfl,rfl⟩,trivial⟩ (fun ext=>TL.load hF rfl (rr_at (hr.up (fun _ hs=>List.mem_cons_of_mem _ (List.mem_cons_of_mem _ (List.mem_cons_of_mem _ (List.mem_cons_of_mem _ hs))))) hil 1 _ rfl) rfl TL.fin) ?_
      refine DR.stepV [_,_,_,_,_,_] rfl [(3,_,none)] rfl rfl ⟨⟨rfl,by kernel_rfl⟩,trivial⟩ (fun ext=>TL.move hF rfl rfl TL.fin) ?_
      refine DR.stepV [_,_,_,_,_,_,_] rfl [(22,_,some 4),(23,_,some 5)] rfl rfl ⟨⟨rfl,rfl,rfl⟩,⟨rfl,rfl,rfl⟩,trivial⟩ (fun ext=>TL.bin hF rfl rfl rfl rfl TL.fin) ?_
      refine DR.stepV [_,_,_,_,_,_,_,_] rfl [(24,_,some 6)] rfl rfl ⟨⟨rfl,rfl,rfl⟩,trivial⟩ (fun ext=>TL.move hF rfl rfl TL.fin) ?_
      refine DR.stepV [_,_,_,_,_,_,_,_,_] rfl [(1,_,none),(25,_,some 7)] rfl rfl ⟨⟨rfl,by kernel_rfl⟩,⟨rfl,rfl,rfl⟩,trivial⟩ (fun ext=>TL.off hF rfl rfl rfl (decide_eq_false hk) rfl TL.fin) ?_
      refine DR.stepV [_,_,_,_,_,_,_,_,_,_] rfl [(10,_,none),(25,_,some 7)] rfl rfl ⟨⟨rfl,by kernel_rfl⟩,⟨rfl,rfl,rfl⟩,trivial⟩ (fun ext=>TL.off hF rfl rfl rfl (decide_eq_false hk) rfl TL.fin) ?_
      refine DR.stepV [_,_,_,_,_,_,_,_,_,_,_] rfl [(26,_,some 8),(27,_,some 9),(25,_,some 7)] rfl rfl ⟨⟨rfl,rfl,rfl⟩,⟨rfl,rfl,rfl⟩,⟨rfl,rfl,rfl⟩,trivial⟩ (fun ext=>TL.off hF rfl rfl rfl (decide_eq_false hk) rfl TL.fin) ?_
      refine DR.stepV [_,_,_,_,_,_,_,_,_,_,_,_] rfl [(28,_,some 10),(25,_,some 7)] rfl rfl ⟨⟨rfl,rfl,rfl⟩,⟨rfl,rfl,rfl⟩,trivial⟩ (fun ext=>TL.off hF rfl rfl rfl (decide_eq_false hk) rfl TL.fin) ?_
      refine DR.stepV [_,_,_,_,_,_,_,_,_,_,_,_,_] rfl [(29,_,some 11),(25,_,some 7)] rfl rfl ⟨⟨rfl,rfl,rfl⟩,⟨rfl,rfl,rfl⟩,trivial⟩ (fun ext=>TL.off hF rfl rfl rfl (decide_eq_false hk) rfl TL.fin) ?_
      refine DR.stepV [_,_,_,_,_,_,_,_,_,_,_,_,_,_] rfl [(6,_,none),(25,_,some 7)] rfl rfl ⟨⟨rfl,by kernel_rfl⟩,⟨rfl,rfl,rfl⟩,trivial⟩ (fun ext=>TL.off hF rfl rfl rfl (decide_eq_false hk) rfl TL.fin) ?_
      refine DR.stepV [_,_,_,_,_,_,_,_,_,_,_,_,_,_,_] rfl [(31,_,some 13),(25,_,some 7)] rfl rfl ⟨⟨rfl,rfl,rfl⟩,⟨rfl,rfl,rfl⟩,trivial⟩ (fun ext=>TL.off hF rfl rfl rfl (decide_eq_false hk) rfl TL.fin) ?_
      refine DR.stepV [_,_,_,_,_,_,_,_,_,_,_,_,_,_,_,_] rfl [(6,_,none),(25,_,some 7)] rfl rfl ⟨⟨rfl,by kernel_rfl⟩,⟨rfl,rfl,rfl⟩,trivial⟩ (fun ext=>TL.off hF rfl rfl rfl (decide_eq_false hk) rfl TL.fin) ?_
      refine DR.stepV [_,_,_,_,_,_,_,_,_,_,_,_,_,_,_,_,_] rfl [(33,_,some 15),(25,_,some 7)] rfl rfl ⟨⟨rfl,rfl,rfl⟩,⟨rfl,rfl,rfl⟩,trivial⟩ (fun ext=>TL.off hF rfl rfl rfl (decide_eq_false hk) rfl TL.fin) ?_
      refine DR.stepV [_,_,_,_,_,_,_,_,_,_,_,_,_,_,_,_,_,_] rfl [(34,_,some 16),(25,_,some 7)] rfl rfl ⟨⟨rfl,rfl,rfl⟩,⟨rfl,rfl,rfl⟩,trivial⟩ (fun ext=>TL.off hF rfl rfl rfl (decide_eq_false hk) rfl TL.fin) ?_
      refine DR.done [(35,_),(34,_),(33,_),(32,_),(31,_),(30,_),(29,_),(28,_),(27,_),(26,_),(25,_),(24,_),(23,_),(22,_),(21,_),(20,_),(19,_),(18,_)] [_,_] mixed (by kernel_rfl) (by kernel_rfl) (by kernel_rfl) rfl rfl ?_
      refine TL.off hF rfl rfl rfl (decide_eq_false hk) rfl ?_
      refine TL.pickF hF rfl (decide_eq_false hk) rfl rfl ?_
      refine TL.nil ?_
      refine TQ.then_n ?_
      refine T.cond_f rfl rfl ?_
      refine T.skip ?_
      refine TQ.block_n ?_
      refine TQ.then_n ?_
      refine T.region ?_
      refine TL.move hF rfl rfl ?_
      refine TL.add hF rfl rfl (by first | omega | (dsimp only; omega)) (by first | omega | (dsimp only; omega)) rfl ?_
      refine TL.assign hF rfl rfl ?_
      refine TL.nil ?_
      have hin:¬ inW key w l[i]=true:=by
        unfold inW; rw [decide_eq_false hk]; simp
      have ew:((l.take (i+1)).filter (inW key w)).map (·.word)=((l.take i).filter (inW key w)).map (·.word):=by rw [htk,List.filter_append,List.filter_cons_of_neg hin,List.filter_nil,List.append_nil]
      exact TQ.round (i+1,oa,oc,og) ⟨hil,by dsimp only; rw [ew]; exact ho⟩ (by dsimp only; omega) ⟨rfl,rfl,rfl,rfl,rfl,by dsimp only; rw [ew]; rfl,rfl,trivial⟩ rfl
  · refine T.exit ?_
    refine TQ.then_x ?_
    refine TQ.then_x ?_
    refine TQ.block_x ?_
    refine TQ.then_n ?_
    refine T.seq ?_
    have hie:l.length≤i:=by have h:¬ (i:Int)<(l.length:Int):=ht15; omega
    rw [List.take_of_length_le hie] at ho hfl
    rw [List.take_of_length_le hie]
    refine T.draw ?_
    refine DR.stepV [_] rfl [(6,_,none)] rfl rfl ⟨⟨rfl,by kernel_rfl⟩,trivial⟩ (fun ext=>TL.fieldAddr hF rfl rfl TL.fin) ?_
    refine DR.stepV [_,_] rfl [(46,_,some 0)] rfl rfl ⟨⟨rfl,rfl,rfl⟩,trivial⟩ (fun ext=>TL.load hF rfl (show At _ _ _ _ (.int .i64 w.1) from own_mem (b:=b6) (cs:=(pC w).toArray) (e:=88) (fz:=(0,0)) (by simp) rfl) rfl TL.fin) ?_
    refine DR.stepV [_,_,_] rfl [(6,_,none)] rfl rfl ⟨⟨rfl,by kernel_rfl⟩,trivial⟩ (fun ext=>TL.fieldAddr hF rfl rfl TL.fin) ?_
    refine DR.stepV [_,_,_,_] rfl [(48,_,some 2)] rfl rfl ⟨⟨rfl,rfl,rfl⟩,trivial⟩ (fun ext=>TL.load hF rfl (show At _ _ _ _ (.int .i64 w.2) from own_mem (b:=b6) (cs:=(pC w).toArray) (e:=88) (fz:=(0,0)) (by simp) rfl) rfl TL.fin) ?_
    refine DR.stepV [_,_,_,_,_] rfl [(3,_,none)] rfl rfl ⟨⟨rfl,by kernel_rfl⟩,trivial⟩ (fun ext=>TL.move hF rfl rfl TL.fin) ?_
    refine DR.stepV [_,_,_,_,_,_] rfl [(4,_,none)] rfl rfl ⟨⟨rfl,by kernel_rfl⟩,trivial⟩ (fun ext=>TL.fieldAddr hF rfl rfl TL.fin) ?_
    refine DR.stepV [_,_,_,_,_,_,_] rfl [(51,_,some 5)] rfl rfl ⟨⟨rfl,rfl,rfl⟩,trivial⟩ (fun ext=>TL.load hF rfl (show At _ _ _ _ (.int .i64 s.fold) from own_mem (b:=b4) (cs:=(wsC s).toArray) (e:=23) (fz:=(0,0)) (by simp) rfl) rfl TL.fin) ?_
    refine DR.stepV [_,_,_,_,_,_,_,_] rfl [(9,_,none)] rfl rfl ⟨⟨rfl,by kernel_rfl⟩,trivial⟩ (fun ext=>TL.move hF rfl rfl TL.fin) ?_
    refine DR.stepV [_,_,_,_,_,_,_,_,_] rfl [(52,_,some 6),(53,_,some 7)] rfl rfl ⟨⟨rfl,rfl,rfl⟩,⟨rfl,rfl,rfl⟩,trivial⟩ (fun ext=>TL.callV hF (Folded_fn (f:=s.fold) (ho.row (by simp)) (by omega) hf (fun x hx=>by obtain ⟨r,hr,rfl⟩:=List.mem_map.1 hx; exact hw r (List.mem_filter.1 hr).1)) rfl rfl TL.fin) ?_
    refine DR.done [(54,_),(53,_),(52,_),(51,_),(50,_),(49,_),(48,_),(47,_),(46,_)] [_,_] mixed (by kernel_rfl) (by kernel_rfl) (by kernel_rfl) rfl rfl ?_
    refine TL.build hF rfl (r:=otV (outS s l key w)) (fun w=>by kernel_rfl) rfl ?_
    refine TL.storeAs hF (otC (outS s l key w)) (otC (outS s l key w)) 1 (cs:=[.int .i64 0,.int .i64 0,.int .i64 0,.int .i64 0]) rfl rfl rfl rfl (otC1 _) (Nat.le_refl 4) rfl ?_
    refine TL.nil ?_
    refine TQ.then_n ?_
    refine T.ret ?_
    refine TQ.retC (otC (outS s l key w)) η rfl rfl rfl (own_list (i:=1) (cs:=otC (outS s l key w)) rfl) (List.Sublist.cons _ (List.Sublist.cons _ (List.Sublist.cons _ (List.sublist_cons_self _ _)))) ⟨rfl,rfl⟩
end Go.Proofs.YtbajelldegijkaaDoor
/- The reference: a window is put in its place. -/
namespace Go.Proofs.YtbajelldegijkaaDoor
open Go.Sl
variable {S:Nat→Prop} {w0:World} {η:Heap}
theorem putS_cons (x y:Ot) (r:List Ot):putS x (y::r)=if y=x then y::r else if oLt x y then x::y::r else y::putS x r:=rfl
/-- What is still to come when a window is put in. -/
def toGo (x:Ot) (dn:Bool) (l:List Ot):List Ot:=if dn then l else putS x l
structure PuI where
  i:Nat
  dn:Bool
  out:List Ot
  a:Option Addr
  c:Nat
  g:Seg
set_option maxHeartbeats 4000000 in
theorem putR_fn {a : Option Addr} {l : List Ot} {c : Nat} {x : Ot} (hr : ORow S w0 η a l) (hl : l.length < 1000000000) :
    Rt Tryd.prog 66 [.slice a l.length c,otV x].toArray S w0 η (fun v η'=>∃ oa oc og,v = .slice oa (putS x l).length oc∧OSl 59 4 (.slice oa (putS x l).length oc) (putS x l).length ((putS x l).flatMap otC) og∧η'=og::η):=by
  have hF:=open_wide
  refine Rt.of (fn:=Tryd.f66) Tryd.func66 rfl rfl ?_
  refine T.seq ?_
  refine T.region ?_
  refine TL.box hF rfl rfl (fun b3=>?_)
  refine TL.assign hF rfl rfl ?_
  refine TL.nil ?_
  refine TQ.then_n ?_
  refine T.seq ?_
  refine T.region ?_
  refine TL.buildSlice hF rfl (cs:=#[]) (e:=59) (fun w=>by kernel_rfl) rfl (fun b8=>?_)
  refine TL.assign hF rfl rfl ?_
  refine TL.assign hF rfl rfl ?_
  refine TL.nil ?_
  refine TQ.then_n ?_
  refine T.seq ?_
  refine T.seq ?_
  refine T.region ?_
  refine TL.assign hF rfl rfl ?_
  refine TL.nil ?_
  refine TQ.then_n ?_
  refine T.block ?_
  refine T.heap (η':=[(b8,Obj.cells #[] 59 (0,0))]::[(b3,Obj.cells (otC x).toArray 59 (0,0))]::η) rfl ?_
  refine T.loop (ι:=PuI) (fun z=>z.i≤l.length∧z.out++toGo x z.dn (l.drop z.i)=putS x l∧((z.dn=false→z.out.length≤z.i)∧z.out.length≤z.i+1)∧OSl 59 4 (.slice z.a z.out.length z.c) z.out.length (z.out.flatMap otC) z.g) (fun z=>[(0,.slice a l.length c),(3,ptr b3),(4,.slice none 0 0),(5,.slice z.a z.out.length z.c),(6,.bool z.dn),(7,.int .i64 (z.i:Int))]) (fun z=>z.g::[(b3,Obj.cells (otC x).toArray 59 (0,0))]::η) (fun z=>l.length - z.i) ⟨0,false,[],some ⟨b8,0,none⟩,0,[(b8,Obj.cells #[] 59 (0,0))]⟩ ⟨Nat.zero_le _,rfl,⟨fun _=>Nat.zero_le _,Nat.zero_le _⟩,osl_empty⟩ ⟨rfl,rfl,rfl,rfl,rfl,rfl,trivial⟩ rfl ?_
  rintro ⟨i,dn,out,oa,oc,og⟩ ⟨hi,hgo,⟨hof,hol⟩,ho⟩
  dsimp only at hi hgo hol ho hof
  refine T.seq ?_
  refine T.seq ?_
  refine T.region ?_
  refine TL.move hF rfl rfl ?_
  refine TL.move hF rfl rfl ?_
  refine TL.len hF rfl rfl ?_
  refine TL.bin hF rfl rfl rfl rfl ?_
  refine TL.nil ?_
  refine TQ.then_n ?_
  first | refine T.cond_d rfl (fun ht12=>?_) (fun ht12=>?_) | refine T.cond _ rfl (fun ht12=>?_) (fun ht12=>?_)
  · refine T.skip ?_
    refine TQ.then_n ?_
    refine T.seq ?_
    refine T.block ?_
    refine T.seq ?_
    refine T.seq ?_
    have hil:i<l.length:=by have h:(i:Int)<(l.length:Int):=ht12; omega
    have hdr:l.drop i=l[i]::l.drop (i+1):=List.drop_eq_getElem_cons hil
    refine T.draw ?_
    refine DR.stepV [_] rfl [(0,_,none)] rfl rfl ⟨⟨rfl,by kernel_rfl⟩,trivial⟩ (fun ext=>TL.move hF rfl rfl TL.fin) ?_
    refine DR.stepV [_,_] rfl [(7,_,none)] rfl rfl ⟨⟨rfl,by kernel_rfl⟩,trivial⟩ (fun ext=>TL.move hF rfl rfl TL.fin) ?_
    refine DR.stepV [_,_,_] rfl [(15,_,some 0),(16,_,some 1)] rfl rfl ⟨⟨rfl,rfl,rfl⟩,⟨rfl,rfl,rfl⟩,trivial⟩ (fun ext=>TL.indexAddr hF rfl rfl (or_ad hr hil) (by first | omega | (dsimp only; omega)) (by first | omega | (dsimp only; omega)) rfl TL.fin) ?_
    refine DR.stepV [_,_,_,_] rfl [(17,_,some 2)] rfl rfl ⟨⟨rfl,rfl,rfl⟩,trivial⟩ (fun ext=>TL.loadA hF (otC l[i]) rfl rfl (or_at (hr.up (fun _ hs=>List.mem_cons_of_mem _ (List.mem_cons_of_mem _ (hs)))) hil) rfl TL.fin) ?_
    refine DR.stepV [_,_,_,_,_] rfl [(3,_,none)] rfl rfl ⟨⟨rfl,by kernel_rfl⟩,trivial⟩ (fun ext=>TL.loadA hF (otC x) rfl rfl (own_listM (b:=b3) (cs:=otC x) (e:=59) (fz:=(0,0)) (by simp)) rfl TL.fin) ?_
    refine DR.done [(19,_),(18,_),(17,_),(16,_),(15,_)] [_] mixed (by kernel_rfl) (by kernel_rfl) (by kernel_rfl) rfl rfl ?_
    refine TL.eqlA hF rfl rfl (by kernel_rfl) (eqOt l[i] x) rfl ?_
    refine TL.nil ?_
    refine TQ.then_n ?_
    refine T.cond_d rfl (fun ht20=>?_) (fun ht20=>?_)
    · refine T.region ?_
      refine TL.assign hF rfl rfl ?_
      refine TL.nil ?_
      refine TQ.then_n ?_
      refine T.seq ?_
      refine T.seq ?_
      refine T.draw ?_
      refine DR.stepV [_] rfl [(6,_,none)] rfl rfl ⟨⟨rfl,by kernel_rfl⟩,trivial⟩ (fun ext=>TL.move hF rfl rfl TL.fin) ?_
      refine DR.stepV [_,_] rfl [(21,_,some 0)] rfl rfl ⟨⟨rfl,rfl,rfl⟩,trivial⟩ (fun ext=>TL.not hF rfl rfl TL.fin) ?_
      refine DR.stepV [_,_,_] rfl [(22,_,some 1)] rfl rfl ⟨⟨rfl,rfl,rfl⟩,trivial⟩ (fun ext=>TL.move hF rfl rfl TL.fin) ?_
      refine DR.stepV [_,_,_,_] rfl [(3,_,none),(23,_,some 2)] rfl rfl ⟨⟨rfl,by kernel_rfl⟩,⟨rfl,rfl,rfl⟩,trivial⟩ (fun ext=>TL.off hF rfl rfl rfl rfl rfl TL.fin) ?_
      refine DR.stepV [_,_,_,_,_] rfl [(0,_,none),(23,_,some 2)] rfl rfl ⟨⟨rfl,by kernel_rfl⟩,⟨rfl,rfl,rfl⟩,trivial⟩ (fun ext=>TL.off hF rfl rfl rfl rfl rfl TL.fin) ?_
      refine DR.stepV [_,_,_,_,_,_] rfl [(7,_,none),(23,_,some 2)] rfl rfl ⟨⟨rfl,by kernel_rfl⟩,⟨rfl,rfl,rfl⟩,trivial⟩ (fun ext=>TL.off hF rfl rfl rfl rfl rfl TL.fin) ?_
      refine DR.stepV [_,_,_,_,_,_,_] rfl [(25,_,some 4),(26,_,some 5),(23,_,some 2)] rfl rfl ⟨⟨rfl,rfl,rfl⟩,⟨rfl,rfl,rfl⟩,⟨rfl,rfl,rfl⟩,trivial⟩ (fun ext=>TL.off hF rfl rfl rfl rfl rfl TL.fin) ?_
      refine DR.stepV [_,_,_,_,_,_,_,_] rfl [(27,_,some 6),(23,_,some 2)] rfl rfl ⟨⟨rfl,rfl,rfl⟩,⟨rfl,rfl,rfl⟩,trivial⟩ (fun ext=>TL.off hF rfl rfl rfl rfl rfl TL.fin) ?_
      refine DR.done [(28,_),(27,_),(26,_),(25,_),(24,_),(23,_),(22,_),(21,_)] [_,_] mixed (by kernel_rfl) (by kernel_rfl) (by kernel_rfl) rfl rfl ?_
      refine TL.off hF rfl rfl rfl rfl rfl ?_
      refine TL.pickF hF rfl rfl rfl rfl ?_
      refine TL.nil ?_
      refine TQ.then_n ?_
      refine T.cond_f rfl rfl ?_
      refine T.skip ?_
      refine TQ.then_n ?_
      refine T.region ?_
      refine TL.move hF rfl rfl ?_
      refine TL.move hF rfl rfl ?_
      refine TL.move hF rfl rfl ?_
      refine TL.indexAddr hF rfl rfl (or_ad hr hil) (by first | omega | (dsimp only; omega)) (by first | omega | (dsimp only; omega)) rfl ?_
      refine TL.loadA hF (otC l[i]) rfl rfl (or_at (hr.up (fun _ hs=>List.mem_cons_of_mem _ (List.mem_cons_of_mem _ (hs)))) hil) rfl ?_
      refine TL.buildSlice hF rfl (cs:=(otC l[i]).toArray) (e:=59) (fun w=>by kernel_rfl) rfl (fun bq9=>?_)
      refine TL.append hF 1 rfl rfl rfl ho (row_own (cs:=otC l[i]) (e:=59) (b:=bq9) (by simp)).src rfl rfl (otC1 _) (by first | omega | (simp only [List.length_append,List.length_singleton]; omega)) (by first | omega | (simp only [List.length_append,List.length_singleton]; omega)) rfl (fun p9a p9c p9g p9h=>?_)
      rw [flat_snoc] at p9h
      refine TL.assign hF rfl rfl ?_
      refine TL.nil ?_
      refine TQ.block_n ?_
      refine TQ.then_n ?_
      refine T.region ?_
      refine TL.move hF rfl rfl ?_
      refine TL.add hF rfl rfl (by first | omega | (dsimp only; omega)) (by first | omega | (dsimp only; omega)) rfl ?_
      refine TL.assign hF rfl rfl ?_
      refine TL.nil ?_
      have hlen:(out++[l[i]]).length=out.length+1:=by simp
      refine TQ.pop ?_
      refine TQ.round ⟨i+1,true,out++[l[i]],p9a,p9c,p9g⟩ ⟨hil,?_,⟨fun h=>(by cases h),by dsimp only; rw [hlen]; omega⟩,by dsimp only; rw [hlen]; exact p9h⟩ (by dsimp only; omega) ⟨rfl,rfl,rfl,by dsimp only; rw [hlen]; rfl,rfl,rfl,trivial⟩ rfl
      dsimp only
      rw [← hgo,hdr,List.append_assoc]
      congr 1
      show [l[i]]++l.drop (i+1)=toGo x dn (l[i]::l.drop (i+1))
      unfold toGo
      split
      · rfl
      · rw [putS_cons,if_pos (show l[i]=x from ht20)]; rfl
    · refine T.skip ?_
      refine TQ.then_n ?_
      refine T.seq ?_
      refine T.seq ?_
      by_cases hdn:dn=false
      · refine T.draw ?_
        refine DR.stepV [_] rfl [(6,_,none)] rfl rfl ⟨⟨rfl,by kernel_rfl⟩,trivial⟩ (fun ext=>TL.move hF rfl rfl TL.fin) ?_
        refine DR.stepV [_,_] rfl [(21,_,some 0)] rfl rfl ⟨⟨rfl,rfl,rfl⟩,trivial⟩ (fun ext=>TL.not hF rfl rfl TL.fin) ?_
        refine DR.stepV [_,_,_] rfl [(22,_,some 1)] rfl rfl ⟨⟨rfl,rfl,rfl⟩,trivial⟩ (fun ext=>TL.move hF rfl rfl TL.fin) ?_
        refine DR.stepV [_,_,_,_] rfl [(3,_,none),(23,_,some 2)] rfl rfl ⟨⟨rfl,by kernel_rfl⟩,⟨rfl,rfl,rfl⟩,trivial⟩ (fun ext=>TL.on rfl rfl rfl (by rw [hdn]; rfl) <| TL.loadA hF (otC x) rfl rfl (own_listM (b:=b3) (cs:=otC x) (e:=59) (fz:=(0,0)) (by simp)) rfl TL.fin) ?_
        refine DR.stepV [_,_,_,_,_] rfl [(0,_,none),(23,_,some 2)] rfl rfl ⟨⟨rfl,by kernel_rfl⟩,⟨rfl,rfl,rfl⟩,trivial⟩ (fun ext=>TL.on rfl rfl rfl (by rw [hdn]; rfl) <| TL.move hF rfl rfl TL.fin) ?_
        refine DR.stepV [_,_,_,_,_,_] rfl [(7,_,none),(23,_,some 2)] rfl rfl ⟨⟨rfl,by kernel_rfl⟩,⟨rfl,rfl,rfl⟩,trivial⟩ (fun ext=>TL.on rfl rfl rfl (by rw [hdn]; rfl) <| TL.move hF rfl rfl TL.fin) ?_
        refine DR.stepV [_,_,_,_,_,_,_] rfl [(25,_,some 4),(26,_,some 5),(23,_,some 2)] rfl rfl ⟨⟨rfl,rfl,rfl⟩,⟨rfl,rfl,rfl⟩,⟨rfl,rfl,rfl⟩,trivial⟩ (fun ext=>TL.on rfl rfl rfl (by rw [hdn]; rfl) <| TL.indexAddr hF rfl rfl (or_ad hr hil) (by first | omega | (dsimp only; omega)) (by first | omega | (dsimp only; omega)) rfl TL.fin) ?_
        refine DR.stepV [_,_,_,_,_,_,_,_] rfl [(27,_,some 6),(23,_,some 2)] rfl rfl ⟨⟨rfl,rfl,rfl⟩,⟨rfl,rfl,rfl⟩,trivial⟩ (fun ext=>TL.on rfl rfl rfl (by rw [hdn]; rfl) <| TL.loadA hF (otC l[i]) rfl rfl (or_at (hr.up (fun _ hs=>List.mem_cons_of_mem _ (List.mem_cons_of_mem _ (hs)))) hil) rfl TL.fin) ?_
        refine DR.done [(28,_),(27,_),(26,_),(25,_),(24,_),(23,_),(22,_),(21,_)] [_,_] mixed (by kernel_rfl) (by kernel_rfl) (by kernel_rfl) rfl rfl ?_
        refine TL.on rfl rfl rfl (by rw [hdn]; rfl) ?_
        refine TL.callV hF (first_fn x l[i]) rfl rfl ?_
        refine TL.pickT hF rfl (by rw [hdn]; rfl) rfl rfl ?_
        refine TL.nil ?_
        refine TQ.then_n ?_
        refine T.cond _ rfl (fun ht30=>?_) (fun ht30=>?_)
        · refine T.region ?_
          refine TL.move hF rfl rfl ?_
          refine TL.loadA hF (otC x) rfl rfl (own_listM (b:=b3) (cs:=otC x) (e:=59) (fz:=(0,0)) (by simp)) rfl ?_
          refine TL.buildSlice hF rfl (cs:=(otC x).toArray) (e:=59) (fun w=>by kernel_rfl) rfl (fun bq8=>?_)
          refine TL.append hF 1 rfl rfl rfl ho (row_own (cs:=otC x) (e:=59) (b:=bq8) (by simp)).src rfl rfl (otC1 _) (by first | omega | (simp only [List.length_append,List.length_singleton]; omega)) (by first | omega | (simp only [List.length_append,List.length_singleton]; omega)) rfl (fun p8a p8c p8g p8h=>?_)
          rw [flat_snoc] at p8h
          have q8h:OSl 59 4 (.slice p8a (out++[x]).length p8c) (out++[x]).length ((out++[x]).flatMap otC) p8g:=by rw [List.length_append,List.length_singleton]; exact p8h
          rw [show out.length+1=(out++[x]).length by simp]
          refine TL.assign hF rfl rfl ?_
          refine TL.assign hF rfl rfl ?_
          refine TL.nil ?_
          refine TQ.then_n ?_
          refine T.region ?_
          refine TL.move hF rfl rfl ?_
          refine TL.move hF rfl rfl ?_
          refine TL.move hF rfl rfl ?_
          refine TL.indexAddr hF rfl rfl (or_ad hr hil) (by first | omega | (dsimp only; omega)) (by first | omega | (dsimp only; omega)) rfl ?_
          refine TL.loadA hF (otC l[i]) rfl rfl (or_at (hr.up (fun _ hs=>List.mem_cons_of_mem _ (List.mem_cons_of_mem _ (List.mem_cons_of_mem _ (hs))))) hil) rfl ?_
          refine TL.buildSlice hF rfl (cs:=(otC l[i]).toArray) (e:=59) (fun w=>by kernel_rfl) rfl (fun bq9=>?_)
          refine TL.append hF 2 rfl rfl rfl q8h (row_own (cs:=otC l[i]) (e:=59) (b:=bq9) (by simp)).src rfl rfl (otC1 _) (by first | omega | (simp only [List.length_append,List.length_singleton]; omega)) (by first | omega | (simp only [List.length_append,List.length_singleton]; omega)) rfl (fun p9a p9c p9g p9h=>?_)
          rw [flat_snoc] at p9h
          refine TL.assign hF rfl rfl ?_
          refine TL.nil ?_
          refine TQ.block_n ?_
          refine TQ.then_n ?_
          refine T.region ?_
          refine TL.move hF rfl rfl ?_
          refine TL.add hF rfl rfl (by first | omega | (dsimp only; omega)) (by first | omega | (dsimp only; omega)) rfl ?_
          refine TL.assign hF rfl rfl ?_
          refine TL.nil ?_
          have hlen:(out++[x]++[l[i]]).length=(out++[x]).length+1:=by simp
          refine TQ.pop (TQ.pop ?_)
          refine TQ.round ⟨i+1,true,out++[x]++[l[i]],p9a,p9c,p9g⟩ ⟨hil,?_,⟨fun h=>(by cases h),by dsimp only; rw [hlen,List.length_append,List.length_singleton]; have:=hof hdn; omega⟩,by dsimp only; rw [hlen]; exact p9h⟩ (by dsimp only; omega) ⟨rfl,rfl,rfl,by dsimp only; rw [hlen]; rfl,rfl,rfl,trivial⟩ rfl
          dsimp only
          rw [← hgo,hdr,hdn,List.append_assoc,List.append_assoc]
          congr 1
          show [x]++([l[i]]++l.drop (i+1))=putS x (l[i]::l.drop (i+1))
          rw [putS_cons,if_neg (show ¬ l[i]=x from ht20),if_pos ht30]; rfl
        · refine T.skip ?_
          refine TQ.then_n ?_
          refine T.region ?_
          refine TL.move hF rfl rfl ?_
          refine TL.move hF rfl rfl ?_
          refine TL.move hF rfl rfl ?_
          refine TL.indexAddr hF rfl rfl (or_ad hr hil) (by first | omega | (dsimp only; omega)) (by first | omega | (dsimp only; omega)) rfl ?_
          refine TL.loadA hF (otC l[i]) rfl rfl (or_at (hr.up (fun _ hs=>List.mem_cons_of_mem _ (List.mem_cons_of_mem _ (hs)))) hil) rfl ?_
          refine TL.buildSlice hF rfl (cs:=(otC l[i]).toArray) (e:=59) (fun w=>by kernel_rfl) rfl (fun bq9=>?_)
          refine TL.append hF 1 rfl rfl rfl ho (row_own (cs:=otC l[i]) (e:=59) (b:=bq9) (by simp)).src rfl rfl (otC1 _) (by first | omega | (simp only [List.length_append,List.length_singleton]; omega)) (by first | omega | (simp only [List.length_append,List.length_singleton]; omega)) rfl (fun p9a p9c p9g p9h=>?_)
          rw [flat_snoc] at p9h
          refine TL.assign hF rfl rfl ?_
          refine TL.nil ?_
          refine TQ.block_n ?_
          refine TQ.then_n ?_
          refine T.region ?_
          refine TL.move hF rfl rfl ?_
          refine TL.add hF rfl rfl (by first | omega | (dsimp only; omega)) (by first | omega | (dsimp only; omega)) rfl ?_
          refine TL.assign hF rfl rfl ?_
          refine TL.nil ?_
          have hlen:(out++[l[i]]).length=out.length+1:=by simp
          refine TQ.pop ?_
          refine TQ.round ⟨i+1,dn,out++[l[i]],p9a,p9c,p9g⟩ ⟨hil,?_,⟨fun h=>(by dsimp only; rw [hlen]; have:=hof hdn; omega),by dsimp only; rw [hlen]; have:=hof hdn; omega⟩,by dsimp only; rw [hlen]; exact p9h⟩ (by dsimp only; omega) ⟨rfl,rfl,rfl,by dsimp only; rw [hlen]; rfl,rfl,rfl,trivial⟩ rfl
          dsimp only
          rw [← hgo,hdr,hdn,List.append_assoc]
          congr 1
          show [l[i]]++putS x (l.drop (i+1))=putS x (l[i]::l.drop (i+1))
          rw [putS_cons,if_neg (show ¬ l[i]=x from ht20),if_neg (by rw [show oLt x l[i]=false from ht30]; exact Bool.false_ne_true)]; rfl
      · refine T.draw ?_
        refine DR.stepV [_] rfl [(6,_,none)] rfl rfl ⟨⟨rfl,by kernel_rfl⟩,trivial⟩ (fun ext=>TL.move hF rfl rfl TL.fin) ?_
        refine DR.stepV [_,_] rfl [(21,_,some 0)] rfl rfl ⟨⟨rfl,rfl,rfl⟩,trivial⟩ (fun ext=>TL.not hF rfl rfl TL.fin) ?_
        refine DR.stepV [_,_,_] rfl [(22,_,some 1)] rfl rfl ⟨⟨rfl,rfl,rfl⟩,trivial⟩ (fun ext=>TL.move hF rfl rfl TL.fin) ?_
        refine DR.stepV [_,_,_,_] rfl [(3,_,none),(23,_,some 2)] rfl rfl ⟨⟨rfl,by kernel_rfl⟩,⟨rfl,rfl,rfl⟩,trivial⟩ (fun ext=>TL.off hF rfl rfl rfl (by cases dn <;> first | rfl | exact absurd rfl hdn) rfl TL.fin) ?_
        refine DR.stepV [_,_,_,_,_] rfl [(0,_,none),(23,_,some 2)] rfl rfl ⟨⟨rfl,by kernel_rfl⟩,⟨rfl,rfl,rfl⟩,trivial⟩ (fun ext=>TL.off hF rfl rfl rfl (by cases dn <;> first | rfl | exact absurd rfl hdn) rfl TL.fin) ?_
        refine DR.stepV [_,_,_,_,_,_] rfl [(7,_,none),(23,_,some 2)] rfl rfl ⟨⟨rfl,by kernel_rfl⟩,⟨rfl,rfl,rfl⟩,trivial⟩ (fun ext=>TL.off hF rfl rfl rfl (by cases dn <;> first | rfl | exact absurd rfl hdn) rfl TL.fin) ?_
        refine DR.stepV [_,_,_,_,_,_,_] rfl [(25,_,some 4),(26,_,some 5),(23,_,some 2)] rfl rfl ⟨⟨rfl,rfl,rfl⟩,⟨rfl,rfl,rfl⟩,⟨rfl,rfl,rfl⟩,trivial⟩ (fun ext=>TL.off hF rfl rfl rfl (by cases dn <;> first | rfl | exact absurd rfl hdn) rfl TL.fin) ?_
        refine DR.stepV [_,_,_,_,_,_,_,_] rfl [(27,_,some 6),(23,_,some 2)] rfl rfl ⟨⟨rfl,rfl,rfl⟩,⟨rfl,rfl,rfl⟩,trivial⟩ (fun ext=>TL.off hF rfl rfl rfl (by cases dn <;> first | rfl | exact absurd rfl hdn) rfl TL.fin) ?_
        refine DR.done [(28,_),(27,_),(26,_),(25,_),(24,_),(23,_),(22,_),(21,_)] [_,_] mixed (by kernel_rfl) (by kernel_rfl) (by kernel_rfl) rfl rfl ?_
        refine TL.off hF rfl rfl rfl (by cases dn <;> first | rfl | exact absurd rfl hdn) rfl ?_
        refine TL.pickF hF rfl (by cases dn <;> first | rfl | exact absurd rfl hdn) rfl rfl ?_
        refine TL.nil ?_
        refine TQ.then_n ?_
        refine T.cond_f rfl rfl ?_
        refine T.skip ?_
        refine TQ.then_n ?_
        refine T.region ?_
        refine TL.move hF rfl rfl ?_
        refine TL.move hF rfl rfl ?_
        refine TL.move hF rfl rfl ?_
        refine TL.indexAddr hF rfl rfl (or_ad hr hil) (by first | omega | (dsimp only; omega)) (by first | omega | (dsimp only; omega)) rfl ?_
        refine TL.loadA hF (otC l[i]) rfl rfl (or_at (hr.up (fun _ hs=>List.mem_cons_of_mem _ (List.mem_cons_of_mem _ (hs)))) hil) rfl ?_
        refine TL.buildSlice hF rfl (cs:=(otC l[i]).toArray) (e:=59) (fun w=>by kernel_rfl) rfl (fun bq9=>?_)
        refine TL.append hF 1 rfl rfl rfl ho (row_own (cs:=otC l[i]) (e:=59) (b:=bq9) (by simp)).src rfl rfl (otC1 _) (by first | omega | (simp only [List.length_append,List.length_singleton]; omega)) (by first | omega | (simp only [List.length_append,List.length_singleton]; omega)) rfl (fun p9a p9c p9g p9h=>?_)
        rw [flat_snoc] at p9h
        refine TL.assign hF rfl rfl ?_
        refine TL.nil ?_
        refine TQ.block_n ?_
        refine TQ.then_n ?_
        refine T.region ?_
        refine TL.move hF rfl rfl ?_
        refine TL.add hF rfl rfl (by first | omega | (dsimp only; omega)) (by first | omega | (dsimp only; omega)) rfl ?_
        refine TL.assign hF rfl rfl ?_
        refine TL.nil ?_
        have hlen:(out++[l[i]]).length=out.length+1:=by simp
        refine TQ.pop ?_
        refine TQ.round ⟨i+1,dn,out++[l[i]],p9a,p9c,p9g⟩ ⟨hil,?_,⟨fun h=>absurd h hdn,by dsimp only; rw [hlen]; omega⟩,by dsimp only; rw [hlen]; exact p9h⟩ (by dsimp only; omega) ⟨rfl,rfl,rfl,by dsimp only; rw [hlen]; rfl,rfl,rfl,trivial⟩ rfl
        have hdt:dn=true:=by cases dn <;> first | rfl | exact absurd rfl hdn
        dsimp only
        rw [← hgo,hdr,hdt,List.append_assoc]
        rfl
  · refine T.exit ?_
    refine TQ.then_x ?_
    refine TQ.then_x ?_
    refine TQ.block_x ?_
    refine TQ.then_n ?_
    refine T.seq ?_
    refine T.seq ?_
    refine T.region ?_
    refine TL.move hF rfl rfl ?_
    refine TL.not hF rfl rfl ?_
    refine TL.nil ?_
    refine TQ.then_n ?_
    refine T.cond _ rfl (fun ht43=>?_) (fun ht43=>?_)
    · refine T.region ?_
      refine TL.move hF rfl rfl ?_
      refine TL.loadA hF (otC x) rfl rfl (own_listM (b:=b3) (cs:=otC x) (e:=59) (fz:=(0,0)) (by simp)) rfl ?_
      refine TL.buildSlice hF rfl (cs:=(otC x).toArray) (e:=59) (fun w=>by kernel_rfl) rfl (fun bq11=>?_)
      refine TL.append hF 1 rfl rfl rfl ho (row_own (cs:=otC x) (e:=59) (b:=bq11) (by simp)).src rfl rfl (otC1 _) (by first | omega | (simp only [List.length_append,List.length_singleton]; omega)) (by first | omega | (simp only [List.length_append,List.length_singleton]; omega)) rfl (fun p11a p11c p11g p11h=>?_)
      rw [flat_snoc] at p11h
      refine TL.assign hF rfl rfl ?_
      refine TL.nil ?_
      refine TQ.then_n ?_
      refine T.seq ?_
      refine T.region ?_
      refine TL.move hF rfl rfl ?_
      refine TL.assign hF rfl rfl ?_
      refine TL.nil ?_
      refine TQ.then_n ?_
      refine T.ret ?_
      have hie:l.length≤i:=by have h:¬ (i:Int)<(l.length:Int):=ht12; omega
      rw [List.drop_of_length_le hie] at hgo
      have hdn:dn=false:=by simpa using ht43
      rw [hdn] at hgo
      have e:out++[x]=putS x l:=hgo
      rw [e] at p11h
      have hlen:out.length+1=(putS x l).length:=by rw [← e]; simp
      rw [hlen] at p11h ⊢
      refine TQ.hsub (p11g::η) (List.Sublist.cons _ (List.Sublist.cons_cons _ (List.sublist_cons_self _ _))) ?_
      exact TQ.rets [4] _ rfl rfl rfl ⟨p11a,p11c,p11g,rfl,p11h,rfl⟩
    · refine T.skip ?_
      refine TQ.then_n ?_
      refine T.seq ?_
      refine T.region ?_
      refine TL.move hF rfl rfl ?_
      refine TL.assign hF rfl rfl ?_
      refine TL.nil ?_
      refine TQ.then_n ?_
      refine T.ret ?_
      have hie:l.length≤i:=by have h:¬ (i:Int)<(l.length:Int):=ht12; omega
      rw [List.drop_of_length_le hie] at hgo
      have hdn:dn=true:=by simpa using ht43
      rw [hdn] at hgo
      have e:out=putS x l:=by rw [← hgo]; simp [toGo]
      rw [e] at ho ⊢
      refine TQ.hsub (og::η) (List.Sublist.cons_cons _ (List.sublist_cons_self _ _)) ?_
      exact TQ.rets [4] _ rfl rfl rfl ⟨oa,oc,og,rfl,ho,rfl⟩
end Go.Proofs.YtbajelldegijkaaDoor
/- The reference: Windows. -/
namespace Go.Proofs.YtbajelldegijkaaDoor
open Go.Sl
variable {S:Nat→Prop} {w0:World} {η:Heap}
theorem asked_one (s:Wsp) (t:Int):askedS s [⟨t,0,0⟩]=if okS s then (if okT t then 0 else 2) else 1:=by
  have e:[(⟨t,0,0⟩:Rw)].all okR=okT t:=by
    simp [okR,isW]
  unfold askedS
  rw [e,if_neg (show ¬ 300<[(⟨t,0,0⟩:Rw)].length by simp)]
set_option maxHeartbeats 4000000 in
theorem WindowsR_fn (s : Wsp) (t : Int) :
    Rt Tryd.prog 15 [wsV s,.int .i64 t].toArray S w0 η (fun v η'=>∃ a c segs,v = .tuple #[.slice a (windowsS s t).1.length c,.int .i64 (windowsS s t).2]∧Row S w0 segs a ((windowsS s t).1.flatMap pC)∧η'=segs++η):=by
  have hF:=open_wide
  refine Rt.of (fn:=Tryd.f15) Tryd.func15 rfl rfl ?_
  refine T.seq ?_
  refine T.region ?_
  refine TL.box hF rfl rfl (fun b2=>?_)
  refine TL.assign hF rfl rfl ?_
  refine TL.assign hF rfl rfl ?_
  refine TL.nil ?_
  refine TQ.then_n ?_
  refine T.seq ?_
  refine T.seq ?_
  refine T.region ?_
  refine TL.loadA hF (wsC s) rfl rfl (own_list (i:=0) (cs:=wsC s) rfl) rfl ?_
  refine TL.move hF rfl rfl ?_
  refine TL.build hF rfl (r:=rwV ⟨t,0,0⟩) (fun w=>by kernel_rfl) rfl ?_
  refine TL.buildSlice hF rfl (cs:=(rwC ⟨t,0,0⟩).toArray) (e:=57) (fun w=>by kernel_rfl) rfl (fun b13=>?_)
  refine TL.heap (η':=[(b13,Obj.cells (rwC ⟨t,0,0⟩).toArray 57 (0,0))]::[(b2,Obj.cells (wsC s).toArray 23 (0,0))]::η) rfl ?_
  have hone:RRow S w0 ([(b13,Obj.cells (rwC ⟨t,0,0⟩).toArray 57 (0,0))]::[(b2,Obj.cells (wsC s).toArray 23 (0,0))]::η) (some ⟨b13,0,none⟩) [⟨t,0,0⟩]:=row_own (cs:=rwC ⟨t,0,0⟩) (e:=57) (b:=b13) (by simp)
  refine TL.callV hF (askedR_fn (s:=s) (l:=[⟨t,0,0⟩]) hone (by simp)) rfl rfl ?_
  rw [asked_one]
  refine TL.assign hF rfl rfl ?_
  refine TL.nil ?_
  refine TQ.then_n ?_
  refine T.seq ?_
  refine T.region ?_
  refine TL.move hF rfl rfl ?_
  refine TL.bin hF rfl rfl rfl rfl ?_
  refine TL.nil ?_
  refine TQ.then_n ?_
  refine T.cond _ rfl (fun ht16=>?_) (fun ht16=>?_)
  · refine T.seq ?_
    refine T.region ?_
    refine TL.move hF rfl rfl ?_
    refine TL.assign hF rfl rfl ?_
    refine TL.assign hF rfl rfl ?_
    refine TL.nil ?_
    refine TQ.then_n ?_
    refine T.ret ?_
    refine TQ.then_r ?_
    refine TQ.rets [4,5] _ rfl rfl rfl ?_
    have e:windowsS s t=([],if okS s then (if okT t then 0 else 2) else 1):=by
      unfold windowsS
      cases h:okS s
      · rfl
      · cases h2:okT t
        · rfl
        · rw [h,h2] at ht16; simp at ht16
    rw [e]
    exact ⟨none,0,[[(b13,Obj.cells (rwC ⟨t,0,0⟩).toArray 57 (0,0))],[(b2,Obj.cells (wsC s).toArray 23 (0,0))]],rfl,Row.none,rfl⟩
  · refine T.skip ?_
    refine TQ.then_n ?_
    refine T.seq ?_
    refine T.seq ?_
    refine T.region ?_
    refine TL.fieldAddr hF rfl rfl ?_
    refine TL.load hF rfl (show At _ _ _ _ (.int .i64 s.kind) from own_mem (b:=b2) (cs:=(wsC s).toArray) (e:=23) (fz:=(0,0)) (by simp) rfl) rfl ?_
    refine TL.bin hF rfl rfl rfl rfl ?_
    refine TL.nil ?_
    refine TQ.then_n ?_
    refine T.cond_d rfl (fun ht20=>?_) (fun ht20=>?_)
    · refine T.seq ?_
      refine T.region ?_
      refine TL.assign hF rfl rfl ?_
      refine TL.assign hF rfl rfl ?_
      refine TL.nil ?_
      refine TQ.then_n ?_
      refine T.ret ?_
      refine TQ.then_r ?_
      refine TQ.rets [4,5] _ rfl rfl rfl ?_
      have hok:okS s=true:=by
        cases h:okS s
        · rw [h] at ht16; simp at ht16
        · rfl
      have htk:okT t=true:=by
        cases h:okT t
        · rw [h,hok] at ht16; simp at ht16
        · rfl
      have hk1:s.kind=1:=ht20
      have e:windowsS s t=([],4):=by
        unfold windowsS; rw [if_pos hok,if_pos htk,if_neg (by omega)]
      rw [e]
      exact ⟨none,0,[[(b13,Obj.cells (rwC ⟨t,0,0⟩).toArray 57 (0,0))],[(b2,Obj.cells (wsC s).toArray 23 (0,0))]],rfl,Row.none,rfl⟩
    · refine T.skip ?_
      refine TQ.then_n ?_
      refine T.seq ?_
      refine T.region ?_
      refine TL.buildSlice hF rfl (cs:=#[]) (e:=36) (fun w=>by kernel_rfl) rfl (fun b21=>?_)
      refine TL.loadA hF (wsC s) rfl rfl (own_list (i:=2) (cs:=wsC s) rfl) rfl ?_
      refine TL.move hF rfl rfl ?_
      have hok:okS s=true:=by
        cases h:okS s
        · rw [h] at ht16; simp at ht16
        · rfl
      have htk:okT t=true:=by
        cases h:okT t
        · rw [h,hok] at ht16; simp at ht16
        · rfl
      have hk:s.kind=0:=by have:=(okS_w hok).kind; omega
      have hto:TimeOk s t:=by
        have h1:=hok
        have h2:=htk
        unfold okS at h1
        unfold okT at h2
        simp only [Bool.and_eq_true,decide_eq_true_eq] at h1 h2
        exact ⟨(okS_w hok).sp hk,by omega,h2.1,h2.2⟩
      have hcle:=count_le hto
      have hsl:=spans_len s t
      refine TL.call hF (spansR_fn hto) rfl rfl ?_
      rintro _ _ ⟨ga,gc,g,rfl,hg,rfl⟩
      refine TL.assign hF rfl rfl ?_
      refine TL.assign hF rfl rfl ?_
      refine TL.nil ?_
      refine TQ.then_n ?_
      refine T.seq ?_
      refine T.seq ?_
      refine T.region ?_
      refine TL.assign hF rfl rfl ?_
      refine TL.nil ?_
      refine TQ.then_n ?_
      refine T.block ?_
      refine T.pick [1,0,2,3] [_,_,_,_] rfl rfl rfl ?_
      refine T.loop (ι:=Nat × Option Addr × Nat × Seg) (fun z=>z.1≤(spansS s t).length∧OSl 36 2 (.slice z.2.1 z.1 z.2.2.1) z.1 (((spansS s t).take z.1).flatMap pC) z.2.2.2) (fun z=>[(4,.slice none 0 0),(5,.int .i64 0),(7,.slice z.2.1 z.1 z.2.2.1),(8,.slice ga (spansS s t).length gc),(9,.int .i64 (z.1:Int))]) (fun z=>z.2.2.2::g::[(b13,Obj.cells (rwC ⟨t,0,0⟩).toArray 57 (0,0))]::[(b2,Obj.cells (wsC s).toArray 23 (0,0))]::η) (fun z=>(spansS s t).length - z.1) (0,some ⟨b21,0,none⟩,0,[(b21,Obj.cells #[] 36 (0,0))]) ⟨Nat.zero_le _,osl_empty⟩ ⟨rfl,rfl,rfl,rfl,rfl,trivial⟩ rfl ?_
      rintro ⟨i,oa,oc,og⟩ ⟨hi,ho⟩
      dsimp only at hi ho
      refine T.seq ?_
      refine T.seq ?_
      refine T.region ?_
      refine TL.move hF rfl rfl ?_
      refine TL.move hF rfl rfl ?_
      refine TL.len hF rfl rfl ?_
      refine TL.bin hF rfl rfl rfl rfl ?_
      refine TL.nil ?_
      refine TQ.then_n ?_
      first | refine T.cond_d rfl (fun ht28=>?_) (fun ht28=>?_) | refine T.cond _ rfl (fun ht28=>?_) (fun ht28=>?_)
      · refine T.skip ?_
        refine TQ.then_n ?_
        refine T.seq ?_
        refine T.block ?_
        have hil:i<(spansS s t).length:=by have h:(i:Int)<((spansS s t).length:Int):=ht28; omega
        refine T.drawH 13 mixed ?_
        refine DH.pure (i:=0) [(7,_,none)] rfl rfl rfl rfl ⟨⟨rfl,by kernel_rfl⟩,trivial⟩ (fun _ ext=>TL.move hF rfl rfl TL.fin) ?_
        refine DH.pure (i:=1) [(8,_,none)] rfl rfl rfl rfl ⟨⟨rfl,by kernel_rfl⟩,trivial⟩ (fun _ ext=>TL.move hF rfl rfl TL.fin) ?_
        refine DH.pure (i:=2) [(9,_,none)] rfl rfl rfl rfl ⟨⟨rfl,by kernel_rfl⟩,trivial⟩ (fun _ ext=>TL.move hF rfl rfl TL.fin) ?_
        refine DH.pure (i:=3) [(32,_,some 1),(33,_,some 2)] rfl rfl rfl rfl ⟨⟨rfl,rfl,rfl⟩,⟨rfl,rfl,rfl⟩,trivial⟩ (fun _ ext=>TL.indexAddr hF rfl rfl ((hg.row (S:=S) (w0:=w0) (η:=og::g::[(b13,Obj.cells (rwC ⟨t,0,0⟩).toArray 57 (0,0))]::[(b2,Obj.cells (wsC s).toArray 23 (0,0))]::η) (by simp)).tad pC_len (by decide) hil) (by first | omega | (dsimp only; omega)) (by first | omega | (dsimp only; omega)) rfl TL.fin) ?_
        refine DH.pure (i:=4) [(34,_,some 3)] rfl rfl rfl rfl ⟨⟨rfl,rfl,rfl⟩,trivial⟩ (fun _ ext=>TL.fieldAddr hF rfl rfl TL.fin) ?_
        refine DH.read (i:=5) [(35,_,some 4)] rfl rfl rfl rfl ⟨⟨rfl,rfl,rfl⟩,trivial⟩ (fun ext=>TL.load hF rfl (show At _ _ _ _ (.int .i64 (spansS s t)[i].1) from (hg.row (η:=og::g::[(b13,Obj.cells (rwC ⟨t,0,0⟩).toArray 57 (0,0))]::[(b2,Obj.cells (wsC s).toArray 23 (0,0))]::η) (by simp)).tabA pC_len hil 0 _ rfl) rfl TL.fin) ?_
        refine DH.pure (i:=6) [(8,_,none)] rfl rfl rfl rfl ⟨⟨rfl,by kernel_rfl⟩,trivial⟩ (fun _ ext=>TL.move hF rfl rfl TL.fin) ?_
        refine DH.pure (i:=7) [(9,_,none)] rfl rfl rfl rfl ⟨⟨rfl,by kernel_rfl⟩,trivial⟩ (fun _ ext=>TL.move hF rfl rfl TL.fin) ?_
        refine DH.pure (i:=8) [(37,_,some 6),(38,_,some 7)] rfl rfl rfl rfl ⟨⟨rfl,rfl,rfl⟩,⟨rfl,rfl,rfl⟩,trivial⟩ (fun _ ext=>TL.indexAddr hF rfl rfl ((hg.row (S:=S) (w0:=w0) (η:=og::g::[(b13,Obj.cells (rwC ⟨t,0,0⟩).toArray 57 (0,0))]::[(b2,Obj.cells (wsC s).toArray 23 (0,0))]::η) (by simp)).tad pC_len (by decide) hil) (by first | omega | (dsimp only; omega)) (by first | omega | (dsimp only; omega)) rfl TL.fin) ?_
        refine DH.pure (i:=9) [(39,_,some 8)] rfl rfl rfl rfl ⟨⟨rfl,rfl,rfl⟩,trivial⟩ (fun _ ext=>TL.fieldAddr hF rfl rfl TL.fin) ?_
        refine DH.read (i:=10) [(40,_,some 9)] rfl rfl rfl rfl ⟨⟨rfl,rfl,rfl⟩,trivial⟩ (fun ext=>TL.load hF rfl (show At _ _ _ _ (.int .i64 (spansS s t)[i].2) from (hg.row (η:=og::g::[(b13,Obj.cells (rwC ⟨t,0,0⟩).toArray 57 (0,0))]::[(b2,Obj.cells (wsC s).toArray 23 (0,0))]::η) (by simp)).tabA pC_len hil 1 _ rfl) rfl TL.fin) ?_
        refine DH.pure (i:=11) [(36,_,some 5),(41,_,some 10)] rfl rfl rfl rfl ⟨⟨rfl,rfl,rfl⟩,⟨rfl,rfl,rfl⟩,trivial⟩ (fun _ ext=>TL.build hF rfl (r:=.agg (pC (spansS s t)[i]).toArray) (fun w=>by kernel_rfl) rfl TL.fin) ?_
        refine DH.heavy 12 [(42,_,some 11)] (by kernel_rfl) (by kernel_rfl) (by kernel_rfl) (by kernel_rfl) rfl rfl rfl rfl ⟨⟨rfl,rfl,rfl⟩,trivial⟩ (by kernel_rfl) (fun ext=>?_)
        refine TL.buildSlice hF rfl (cs:=(pC (spansS s t)[i]).toArray) (e:=36) (fun w=>by kernel_rfl) rfl (fun bq=>?_)
        refine TL.finD ?_
        refine DH.done [(43,_),(42,_),(41,_),(40,_),(39,_),(38,_),(37,_),(36,_),(35,_),(34,_),(33,_),(32,_),(31,_)] [_,_] (by kernel_rfl) (by kernel_rfl) (by kernel_rfl) (by kernel_rfl) rfl rfl ?_
        refine TL.append hF 1 rfl rfl rfl ho (row_own (cs:=pC (spansS s t)[i]) (e:=36) (b:=bq) (by simp)).src rfl rfl (pC1 _) (by omega) (by omega) rfl (fun pa pc pg ph=>?_)
        refine TL.assign hF rfl rfl ?_
        refine TL.nil ?_
        refine TQ.block_n ?_
        refine TQ.then_n ?_
        refine T.region ?_
        refine TL.move hF rfl rfl ?_
        refine TL.add hF rfl rfl (by first | omega | (dsimp only; omega)) (by first | omega | (dsimp only; omega)) rfl ?_
        refine TL.assign hF rfl rfl ?_
        refine TL.nil ?_
        have e2:((spansS s t).take (i+1)).flatMap pC=((spansS s t).take i).flatMap pC++pC (spansS s t)[i]:=by rw [List.take_succ_eq_append_getElem hil,List.flatMap_append]; simp
        rw [← e2] at ph
        refine TQ.pop ?_
        exact TQ.round (i+1,pa,pc,pg) ⟨hil,ph⟩ (by dsimp only; omega) ⟨rfl,rfl,rfl,rfl,rfl,trivial⟩ rfl
      · refine T.exit ?_
        refine TQ.then_x ?_
        refine TQ.then_x ?_
        refine TQ.block_x ?_
        refine TQ.then_n ?_
        refine T.seq ?_
        refine T.region ?_
        refine TL.move hF rfl rfl ?_
        refine TL.assign hF rfl rfl ?_
        refine TL.assign hF rfl rfl ?_
        refine TL.nil ?_
        refine TQ.then_n ?_
        refine T.ret ?_
        have hie:i=(spansS s t).length:=by have h:¬ (i:Int)<((spansS s t).length:Int):=ht28; omega
        rw [List.take_of_length_le (by omega)] at ho
        refine TQ.rets [4,5] _ rfl rfl rfl ?_
        have e:windowsS s t=(spansS s t,0):=by
          unfold windowsS; rw [if_pos hok,if_pos htk,if_pos hk]
        rw [e]
        exact ⟨oa,oc,[og,g,[(b13,Obj.cells (rwC ⟨t,0,0⟩).toArray 57 (0,0))],[(b2,Obj.cells (wsC s).toArray 23 (0,0))]],by rw [hie]; rfl,ho.row (by simp),rfl⟩
end Go.Proofs.YtbajelldegijkaaDoor
/- The reference: the session of a row. -/
namespace Go.Proofs.YtbajelldegijkaaDoor
open Go.Sl
variable {S:Nat→Prop} {w0:World} {η:Heap}
theorem passS_cons (s:Wsp) (key:Int) (r:Rw) (l:List Rw) (lh:Int × Int):passS s key (r::l) lh=passS s key l (widen s key lh r):=rfl
def Rng (lh:Int × Int):Prop:=(0≤lh.1∧lh.1≤1048576)∧0≤lh.2∧lh.2≤1048576
theorem widen_rng {s:Wsp} {key:Int} {lh:Int × Int} {r:Rw} (h:Rng lh) (hr:0≤r.time∧r.time≤1048576):Rng (widen s key lh r):=by
  unfold widen Rng at *
  split
  · dsimp only; omega
  · exact h
set_option maxHeartbeats 4000000 in
theorem sessionR_fn {s : Wsp} {a : Option Addr} {l : List Rw} {c : Nat} {r : Rw} (hr : RRow S w0 η a l) (hl : l.length < 1000000) (hz : 0 ≤ s.size ∧ s.size ≤ 1000) (ht : Tms l) (ht0 : 0 ≤ r.time ∧ r.time ≤ 1048576) :
    Rt Tryd.prog 65 [wsV s,.slice a l.length c,rwV r].toArray S w0 η (fun v η'=>v = .agg (pC (sessS s l r)).toArray∧η'=η):=by
  have hF:=open_wide
  refine Rt.of (fn:=Tryd.f65) Tryd.func65 rfl rfl ?_
  refine T.seq ?_
  refine T.region ?_
  refine TL.box hF rfl rfl (fun b3=>?_)
  refine TL.box hF rfl rfl (fun b5=>?_)
  refine TL.alloc hF rfl (fun b6=>?_)
  refine TL.nil ?_
  refine TQ.then_n ?_
  refine T.seq ?_
  refine T.heap (η':=[(b6,Obj.cells #[.int .i64 0,.int .i64 0] 88 (0,0))]::[(b5,Obj.cells (rwC r).toArray 57 (0,0))]::[(b3,Obj.cells (wsC s).toArray 23 (0,0))]::η) rfl ?_
  refine T.draw ?_
  refine DR.stepV [_] rfl [(5,_,none)] rfl rfl ⟨⟨rfl,by kernel_rfl⟩,trivial⟩ (fun ext=>TL.fieldAddr hF rfl rfl TL.fin) ?_
  refine DR.stepV [_,_] rfl [(12,_,some 0)] rfl rfl ⟨⟨rfl,rfl,rfl⟩,trivial⟩ (fun ext=>TL.load hF rfl (show At _ _ _ _ (.int .i64 r.time) from own_mem (b:=b5) (cs:=(rwC r).toArray) (e:=57) (fz:=(0,0)) (by simp) rfl) rfl TL.fin) ?_
  refine DR.stepV [_,_,_] rfl [(5,_,none)] rfl rfl ⟨⟨rfl,by kernel_rfl⟩,trivial⟩ (fun ext=>TL.fieldAddr hF rfl rfl TL.fin) ?_
  refine DR.stepV [_,_,_,_] rfl [(14,_,some 2)] rfl rfl ⟨⟨rfl,rfl,rfl⟩,trivial⟩ (fun ext=>TL.load hF rfl (show At _ _ _ _ (.int .i64 r.time) from own_mem (b:=b5) (cs:=(rwC r).toArray) (e:=57) (fz:=(0,0)) (by simp) rfl) rfl TL.fin) ?_
  refine DR.stepV [_,_,_,_,_] rfl [(13,_,some 1)] rfl rfl ⟨⟨rfl,rfl,rfl⟩,trivial⟩ (fun ext=>TL.assign hF rfl rfl TL.fin) ?_
  refine DR.done [(7,_),(15,_),(14,_),(13,_),(12,_)] [_] mixed (by kernel_rfl) (by kernel_rfl) (by kernel_rfl) rfl rfl ?_
  refine TL.assign hF rfl rfl ?_
  refine TL.nil ?_
  refine TQ.then_n ?_
  refine T.seq ?_
  refine T.seq ?_
  refine T.region ?_
  refine TL.assign hF rfl rfl ?_
  refine TL.nil ?_
  refine TQ.then_n ?_
  refine T.block ?_
  refine T.loop (ι:=Nat × Int × Int) (fun z=>z.1≤l.length∧passes s r.key l (l.length - z.1) z.2=passes s r.key l l.length (r.time,r.time)∧Rng z.2) (fun z=>[(1,.slice a l.length c),(3,ptr b3),(5,ptr b5),(6,ptr b6),(7,.int .i64 z.2.1),(8,.int .i64 z.2.2),(9,.int .i64 (z.1:Int))]) (fun _=>[(b6,Obj.cells #[.int .i64 0,.int .i64 0] 88 (0,0))]::[(b5,Obj.cells (rwC r).toArray 57 (0,0))]::[(b3,Obj.cells (wsC s).toArray 23 (0,0))]::η) (fun z=>l.length - z.1) (0,r.time,r.time) ⟨Nat.zero_le _,rfl,ht0,ht0⟩ ⟨rfl,rfl,rfl,rfl,rfl,rfl,rfl,trivial⟩ rfl ?_
  rintro ⟨n,lh⟩ ⟨hn,hps,hrg⟩
  dsimp only at hn hps hrg
  refine T.seq ?_
  refine T.seq ?_
  refine T.region ?_
  refine TL.move hF rfl rfl ?_
  refine TL.move hF rfl rfl ?_
  refine TL.len hF rfl rfl ?_
  refine TL.bin hF rfl rfl rfl rfl ?_
  refine TL.nil ?_
  refine TQ.then_n ?_
  first | refine T.cond_d rfl (fun ht19=>?_) (fun ht19=>?_) | refine T.cond _ rfl (fun ht19=>?_) (fun ht19=>?_)
  · refine T.skip ?_
    refine TQ.then_n ?_
    refine T.seq ?_
    refine T.block ?_
    refine T.seq ?_
    refine T.region ?_
    refine TL.assign hF rfl rfl ?_
    refine TL.nil ?_
    refine TQ.then_n ?_
    refine T.block ?_
    have hnl:n<l.length:=by have h:(n:Int)<(l.length:Int):=ht19; omega
    refine T.loop (ι:=Nat × Int × Int) (fun z=>z.1≤l.length∧passS s r.key (l.drop z.1) z.2=passS s r.key l lh∧Rng z.2) (fun z=>[(1,.slice a l.length c),(3,ptr b3),(5,ptr b5),(6,ptr b6),(7,.int .i64 z.2.1),(8,.int .i64 z.2.2),(9,.int .i64 (n:Int)),(10,.int .i64 (z.1:Int))]) (fun _=>[(b6,Obj.cells #[.int .i64 0,.int .i64 0] 88 (0,0))]::[(b5,Obj.cells (rwC r).toArray 57 (0,0))]::[(b3,Obj.cells (wsC s).toArray 23 (0,0))]::η) (fun z=>l.length - z.1) (0,lh) ⟨Nat.zero_le _,rfl,hrg⟩ ⟨rfl,rfl,rfl,rfl,rfl,rfl,rfl,rfl,trivial⟩ rfl ?_
    rintro ⟨j,lo,hi⟩ ⟨hj,hpj,hrj⟩
    dsimp only at hj hpj hrj
    refine T.seq ?_
    refine T.seq ?_
    refine T.region ?_
    refine TL.move hF rfl rfl ?_
    refine TL.move hF rfl rfl ?_
    refine TL.len hF rfl rfl ?_
    refine TL.bin hF rfl rfl rfl rfl ?_
    refine TL.nil ?_
    refine TQ.then_n ?_
    first | refine T.cond_d rfl (fun ht25=>?_) (fun ht25=>?_) | refine T.cond _ rfl (fun ht25=>?_) (fun ht25=>?_)
    · refine T.skip ?_
      refine TQ.then_n ?_
      refine T.seq ?_
      refine T.block ?_
      refine T.seq ?_
      refine T.region ?_
      have hjl:j<l.length:=by have h:(j:Int)<(l.length:Int):=ht25; omega
      have hdr:l.drop j=l[j]::l.drop (j+1):=List.drop_eq_getElem_cons hjl
      have htj:=ht _ (List.getElem_mem hjl)
      have hrj2:=hrj
      unfold Rng at hrj2
      dsimp only at hrj2
      refine TL.move hF rfl rfl ?_
      refine TL.move hF rfl rfl ?_
      refine TL.indexAddr hF rfl rfl (rr_ad hr hjl) (by first | omega | (dsimp only; omega)) (by first | omega | (dsimp only; omega)) rfl ?_
      refine TL.fieldAddr hF rfl rfl ?_
      refine TL.load hF rfl (rr_at (hr.up (fun _ hs=>List.mem_cons_of_mem _ (List.mem_cons_of_mem _ (List.mem_cons_of_mem _ hs)))) hjl 0 _ rfl) rfl ?_
      refine TL.assign hF rfl rfl ?_
      refine TL.nil ?_
      refine TQ.then_n ?_
      refine T.seq ?_
      have h3:(l[j].key=r.key∧lo - s.size<l[j].time)∨(l[j].key=r.key∧¬ lo - s.size<l[j].time)∨¬ l[j].key=r.key:=by
        by_cases hk:l[j].key=r.key <;> by_cases hl:lo - s.size<l[j].time <;> simp [hk,hl]
      rcases h3 with ⟨hk,hlw⟩ | ⟨hk,hlw⟩ | hk
      · refine T.draw ?_
        refine DR.stepV [_] rfl [(1,_,none)] rfl rfl ⟨⟨rfl,by kernel_rfl⟩,trivial⟩ (fun ext=>TL.move hF rfl rfl TL.fin) ?_
        refine DR.stepV [_,_] rfl [(10,_,none)] rfl rfl ⟨⟨rfl,by kernel_rfl⟩,trivial⟩ (fun ext=>TL.move hF rfl rfl TL.fin) ?_
        refine DR.stepV [_,_,_] rfl [(33,_,some 0),(34,_,some 1)] rfl rfl ⟨⟨rfl,rfl,rfl⟩,⟨rfl,rfl,rfl⟩,trivial⟩ (fun ext=>TL.indexAddr hF rfl rfl (rr_ad hr hjl) (by first | omega | (dsimp only; omega)) (by first | omega | (dsimp only; omega)) rfl TL.fin) ?_
        refine DR.stepV [_,_,_,_] rfl [(35,_,some 2)] rfl rfl ⟨⟨rfl,rfl,rfl⟩,trivial⟩ (fun ext=>TL.fieldAddr hF rfl rfl TL.fin) ?_
        refine DR.stepV [_,_,_,_,_] rfl [(36,_,some 3)] rfl rfl ⟨⟨rfl,rfl,rfl⟩,trivial⟩ (fun ext=>TL.load hF rfl (rr_at (hr.up (fun _ hs=>List.mem_cons_of_mem _ (List.mem_cons_of_mem _ (List.mem_cons_of_mem _ hs)))) hjl 1 _ rfl) rfl TL.fin) ?_
        refine DR.stepV [_,_,_,_,_,_] rfl [(5,_,none)] rfl rfl ⟨⟨rfl,by kernel_rfl⟩,trivial⟩ (fun ext=>TL.fieldAddr hF rfl rfl TL.fin) ?_
        refine DR.stepV [_,_,_,_,_,_,_] rfl [(38,_,some 5)] rfl rfl ⟨⟨rfl,rfl,rfl⟩,trivial⟩ (fun ext=>TL.load hF rfl (show At _ _ _ _ (.int .i64 r.key) from own_mem (b:=b5) (cs:=(rwC r).toArray) (e:=57) (fz:=(0,0)) (by simp) rfl) rfl TL.fin) ?_
        refine DR.stepV [_,_,_,_,_,_,_,_] rfl [(37,_,some 4),(39,_,some 6)] rfl rfl ⟨⟨rfl,rfl,rfl⟩,⟨rfl,rfl,rfl⟩,trivial⟩ (fun ext=>TL.bin hF rfl rfl rfl rfl TL.fin) ?_
        refine DR.stepV [_,_,_,_,_,_,_,_,_] rfl [(40,_,some 7)] rfl rfl ⟨⟨rfl,rfl,rfl⟩,trivial⟩ (fun ext=>TL.move hF rfl rfl TL.fin) ?_
        refine DR.stepV [_,_,_,_,_,_,_,_,_,_] rfl [(11,_,none),(41,_,some 8)] rfl rfl ⟨⟨rfl,by kernel_rfl⟩,⟨rfl,rfl,rfl⟩,trivial⟩ (fun ext=>TL.on rfl rfl rfl (decide_eq_true hk) <| TL.move hF rfl rfl TL.fin) ?_
        refine DR.stepV [_,_,_,_,_,_,_,_,_,_,_] rfl [(7,_,none),(41,_,some 8)] rfl rfl ⟨⟨rfl,by kernel_rfl⟩,⟨rfl,rfl,rfl⟩,trivial⟩ (fun ext=>TL.on rfl rfl rfl (decide_eq_true hk) <| TL.move hF rfl rfl TL.fin) ?_
        refine DR.stepV [_,_,_,_,_,_,_,_,_,_,_,_] rfl [(3,_,none),(41,_,some 8)] rfl rfl ⟨⟨rfl,by kernel_rfl⟩,⟨rfl,rfl,rfl⟩,trivial⟩ (fun ext=>TL.on rfl rfl rfl (decide_eq_true hk) <| TL.fieldAddr hF rfl rfl TL.fin) ?_
        refine DR.stepV [_,_,_,_,_,_,_,_,_,_,_,_,_] rfl [(44,_,some 11),(41,_,some 8)] rfl rfl ⟨⟨rfl,rfl,rfl⟩,⟨rfl,rfl,rfl⟩,trivial⟩ (fun ext=>TL.on rfl rfl rfl (decide_eq_true hk) <| TL.load hF rfl (show At _ _ _ _ (.int .i64 s.size) from own_mem (b:=b3) (cs:=(wsC s).toArray) (e:=23) (fz:=(0,0)) (by simp) rfl) rfl TL.fin) ?_
        refine DR.stepV [_,_,_,_,_,_,_,_,_,_,_,_,_,_] rfl [(43,_,some 10),(45,_,some 12),(41,_,some 8)] rfl rfl ⟨⟨rfl,rfl,rfl⟩,⟨rfl,rfl,rfl⟩,⟨rfl,rfl,rfl⟩,trivial⟩ (fun ext=>TL.on rfl rfl rfl (decide_eq_true hk) <| TL.sub hF rfl rfl (by first | omega | (dsimp only; omega)) (by first | omega | (dsimp only; omega)) rfl TL.fin) ?_
        refine DR.stepV [_,_,_,_,_,_,_,_,_,_,_,_,_,_,_] rfl [(42,_,some 9),(46,_,some 13),(41,_,some 8)] rfl rfl ⟨⟨rfl,rfl,rfl⟩,⟨rfl,rfl,rfl⟩,⟨rfl,rfl,rfl⟩,trivial⟩ (fun ext=>TL.on rfl rfl rfl (decide_eq_true hk) <| TL.bin hF rfl rfl rfl rfl TL.fin) ?_
        refine DR.stepV [_,_,_,_,_,_,_,_,_,_,_,_,_,_,_,_] rfl [(41,_,some 8),(47,_,some 14)] rfl rfl ⟨⟨rfl,rfl,rfl⟩,⟨rfl,rfl,rfl⟩,trivial⟩ (fun ext=>TL.pickT hF rfl (decide_eq_true hk) rfl rfl TL.fin) ?_
        refine DR.stepV [_,_,_,_,_,_,_,_,_,_,_,_,_,_,_,_,_] rfl [(48,_,some 15)] rfl rfl ⟨⟨rfl,rfl,rfl⟩,trivial⟩ (fun ext=>TL.move hF rfl rfl TL.fin) ?_
        refine DR.stepV [_,_,_,_,_,_,_,_,_,_,_,_,_,_,_,_,_,_] rfl [(11,_,none),(49,_,some 16)] rfl rfl ⟨⟨rfl,by kernel_rfl⟩,⟨rfl,rfl,rfl⟩,trivial⟩ (fun ext=>TL.on rfl rfl rfl (decide_eq_true hlw) <| TL.move hF rfl rfl TL.fin) ?_
        refine DR.stepV [_,_,_,_,_,_,_,_,_,_,_,_,_,_,_,_,_,_,_] rfl [(8,_,none),(49,_,some 16)] rfl rfl ⟨⟨rfl,by kernel_rfl⟩,⟨rfl,rfl,rfl⟩,trivial⟩ (fun ext=>TL.on rfl rfl rfl (decide_eq_true hlw) <| TL.move hF rfl rfl TL.fin) ?_
        refine DR.stepV [_,_,_,_,_,_,_,_,_,_,_,_,_,_,_,_,_,_,_,_] rfl [(3,_,none),(49,_,some 16)] rfl rfl ⟨⟨rfl,by kernel_rfl⟩,⟨rfl,rfl,rfl⟩,trivial⟩ (fun ext=>TL.on rfl rfl rfl (decide_eq_true hlw) <| TL.fieldAddr hF rfl rfl TL.fin) ?_
        refine DR.stepV [_,_,_,_,_,_,_,_,_,_,_,_,_,_,_,_,_,_,_,_,_] rfl [(52,_,some 19),(49,_,some 16)] rfl rfl ⟨⟨rfl,rfl,rfl⟩,⟨rfl,rfl,rfl⟩,trivial⟩ (fun ext=>TL.on rfl rfl rfl (decide_eq_true hlw) <| TL.load hF rfl (show At _ _ _ _ (.int .i64 s.size) from own_mem (b:=b3) (cs:=(wsC s).toArray) (e:=23) (fz:=(0,0)) (by simp) rfl) rfl TL.fin) ?_
        refine DR.stepV [_,_,_,_,_,_,_,_,_,_,_,_,_,_,_,_,_,_,_,_,_,_] rfl [(51,_,some 18),(53,_,some 20),(49,_,some 16)] rfl rfl ⟨⟨rfl,rfl,rfl⟩,⟨rfl,rfl,rfl⟩,⟨rfl,rfl,rfl⟩,trivial⟩ (fun ext=>TL.on rfl rfl rfl (decide_eq_true hlw) <| TL.add hF rfl rfl (by first | omega | (dsimp only; omega)) (by first | omega | (dsimp only; omega)) rfl TL.fin) ?_
        refine DR.done [(54,_),(53,_),(52,_),(51,_),(50,_),(49,_),(48,_),(47,_),(46,_),(45,_),(44,_),(43,_),(42,_),(41,_),(40,_),(39,_),(38,_),(37,_),(36,_),(35,_),(34,_),(33,_)] [_,_] mixed (by kernel_rfl) (by kernel_rfl) (by kernel_rfl) rfl rfl ?_
        refine TL.on rfl rfl rfl (decide_eq_true hlw) ?_
        refine TL.bin hF rfl rfl rfl rfl ?_
        refine TL.pickT hF rfl (decide_eq_true hlw) rfl rfl ?_
        refine TL.nil ?_
        refine TQ.then_n ?_
        refine T.cond_d rfl (fun ht56=>?_) (fun ht56=>?_)
        · refine T.region ?_
          refine TL.move hF rfl rfl ?_
          refine TL.move hF rfl rfl ?_
          refine TL.min2 hF rfl rfl rfl ?_
          refine TL.move hF rfl rfl ?_
          refine TL.move hF rfl rfl ?_
          refine TL.max2 hF rfl rfl rfl ?_
          refine TL.assign hF rfl rfl ?_
          refine TL.assign hF rfl rfl ?_
          refine TL.nil ?_
          refine TQ.block_n ?_
          refine TQ.then_n ?_
          refine T.region ?_
          refine TL.move hF rfl rfl ?_
          refine TL.add hF rfl rfl (by first | omega | (dsimp only; omega)) (by first | omega | (dsimp only; omega)) rfl ?_
          refine TL.assign hF rfl rfl ?_
          refine TL.nil ?_
          have hwd:widen s r.key (lo,hi) l[j]=(min lo l[j].time,max hi l[j].time):=by unfold widen; exact if_pos ⟨hk,hlw,ht56⟩
          refine TQ.round (j+1,min lo l[j].time,max hi l[j].time) ⟨hjl,?_,?_⟩ (by dsimp only; omega) ⟨rfl,rfl,rfl,rfl,rfl,rfl,rfl,rfl,trivial⟩ rfl
          · dsimp only
            rw [← hpj,hdr,passS_cons,hwd]
          · dsimp only
            rw [← hwd]; exact widen_rng hrj htj
        · refine T.skip ?_
          refine TQ.block_n ?_
          refine TQ.then_n ?_
          refine T.region ?_
          refine TL.move hF rfl rfl ?_
          refine TL.add hF rfl rfl (by first | omega | (dsimp only; omega)) (by first | omega | (dsimp only; omega)) rfl ?_
          refine TL.assign hF rfl rfl ?_
          refine TL.nil ?_
          have hwd:widen s r.key (lo,hi) l[j]=(lo,hi):=by unfold widen; exact if_neg (fun h=>ht56 h.2.2)
          refine TQ.round (j+1,lo,hi) ⟨hjl,?_,?_⟩ (by dsimp only; omega) ⟨rfl,rfl,rfl,rfl,rfl,rfl,rfl,rfl,trivial⟩ rfl
          · dsimp only
            rw [← hpj,hdr,passS_cons,hwd]
          · dsimp only
            rw [← hwd]; exact widen_rng hrj htj
      · refine T.draw ?_
        refine DR.stepV [_] rfl [(1,_,none)] rfl rfl ⟨⟨rfl,by kernel_rfl⟩,trivial⟩ (fun ext=>TL.move hF rfl rfl TL.fin) ?_
        refine DR.stepV [_,_] rfl [(10,_,none)] rfl rfl ⟨⟨rfl,by kernel_rfl⟩,trivial⟩ (fun ext=>TL.move hF rfl rfl TL.fin) ?_
        refine DR.stepV [_,_,_] rfl [(33,_,some 0),(34,_,some 1)] rfl rfl ⟨⟨rfl,rfl,rfl⟩,⟨rfl,rfl,rfl⟩,trivial⟩ (fun ext=>TL.indexAddr hF rfl rfl (rr_ad hr hjl) (by first | omega | (dsimp only; omega)) (by first | omega | (dsimp only; omega)) rfl TL.fin) ?_
        refine DR.stepV [_,_,_,_] rfl [(35,_,some 2)] rfl rfl ⟨⟨rfl,rfl,rfl⟩,trivial⟩ (fun ext=>TL.fieldAddr hF rfl rfl TL.fin) ?_
        refine DR.stepV [_,_,_,_,_] rfl [(36,_,some 3)] rfl rfl ⟨⟨rfl,rfl,rfl⟩,trivial⟩ (fun ext=>TL.load hF rfl (rr_at (hr.up (fun _ hs=>List.mem_cons_of_mem _ (List.mem_cons_of_mem _ (List.mem_cons_of_mem _ hs)))) hjl 1 _ rfl) rfl TL.fin) ?_
        refine DR.stepV [_,_,_,_,_,_] rfl [(5,_,none)] rfl rfl ⟨⟨rfl,by kernel_rfl⟩,trivial⟩ (fun ext=>TL.fieldAddr hF rfl rfl TL.fin) ?_
        refine DR.stepV [_,_,_,_,_,_,_] rfl [(38,_,some 5)] rfl rfl ⟨⟨rfl,rfl,rfl⟩,trivial⟩ (fun ext=>TL.load hF rfl (show At _ _ _ _ (.int .i64 r.key) from own_mem (b:=b5) (cs:=(rwC r).toArray) (e:=57) (fz:=(0,0)) (by simp) rfl) rfl TL.fin) ?_
        refine DR.stepV [_,_,_,_,_,_,_,_] rfl [(37,_,some 4),(39,_,some 6)] rfl rfl ⟨⟨rfl,rfl,rfl⟩,⟨rfl,rfl,rfl⟩,trivial⟩ (fun ext=>TL.bin hF rfl rfl rfl rfl TL.fin) ?_
        refine DR.stepV [_,_,_,_,_,_,_,_,_] rfl [(40,_,some 7)] rfl rfl ⟨⟨rfl,rfl,rfl⟩,trivial⟩ (fun ext=>TL.move hF rfl rfl TL.fin) ?_
        refine DR.stepV [_,_,_,_,_,_,_,_,_,_] rfl [(11,_,none),(41,_,some 8)] rfl rfl ⟨⟨rfl,by kernel_rfl⟩,⟨rfl,rfl,rfl⟩,trivial⟩ (fun ext=>TL.on rfl rfl rfl (decide_eq_true hk) <| TL.move hF rfl rfl TL.fin) ?_
        refine DR.stepV [_,_,_,_,_,_,_,_,_,_,_] rfl [(7,_,none),(41,_,some 8)] rfl rfl ⟨⟨rfl,by kernel_rfl⟩,⟨rfl,rfl,rfl⟩,trivial⟩ (fun ext=>TL.on rfl rfl rfl (decide_eq_true hk) <| TL.move hF rfl rfl TL.fin) ?_
        refine DR.stepV [_,_,_,_,_,_,_,_,_,_,_,_] rfl [(3,_,none),(41,_,some 8)] rfl rfl ⟨⟨rfl,by kernel_rfl⟩,⟨rfl,rfl,rfl⟩,trivial⟩ (fun ext=>TL.on rfl rfl rfl (decide_eq_true hk) <| TL.fieldAddr hF rfl rfl TL.fin) ?_
        refine DR.stepV [_,_,_,_,_,_,_,_,_,_,_,_,_] rfl [(44,_,some 11),(41,_,some 8)] rfl rfl ⟨⟨rfl,rfl,rfl⟩,⟨rfl,rfl,rfl⟩,trivial⟩ (fun ext=>TL.on rfl rfl rfl (decide_eq_true hk) <| TL.load hF rfl (show At _ _ _ _ (.int .i64 s.size) from own_mem (b:=b3) (cs:=(wsC s).toArray) (e:=23) (fz:=(0,0)) (by simp) rfl) rfl TL.fin) ?_
        refine DR.stepV [_,_,_,_,_,_,_,_,_,_,_,_,_,_] rfl [(43,_,some 10),(45,_,some 12),(41,_,some 8)] rfl rfl ⟨⟨rfl,rfl,rfl⟩,⟨rfl,rfl,rfl⟩,⟨rfl,rfl,rfl⟩,trivial⟩ (fun ext=>TL.on rfl rfl rfl (decide_eq_true hk) <| TL.sub hF rfl rfl (by first | omega | (dsimp only; omega)) (by first | omega | (dsimp only; omega)) rfl TL.fin) ?_
        refine DR.stepV [_,_,_,_,_,_,_,_,_,_,_,_,_,_,_] rfl [(42,_,some 9),(46,_,some 13),(41,_,some 8)] rfl rfl ⟨⟨rfl,rfl,rfl⟩,⟨rfl,rfl,rfl⟩,⟨rfl,rfl,rfl⟩,trivial⟩ (fun ext=>TL.on rfl rfl rfl (decide_eq_true hk) <| TL.bin hF rfl rfl rfl rfl TL.fin) ?_
        refine DR.stepV [_,_,_,_,_,_,_,_,_,_,_,_,_,_,_,_] rfl [(41,_,some 8),(47,_,some 14)] rfl rfl ⟨⟨rfl,rfl,rfl⟩,⟨rfl,rfl,rfl⟩,trivial⟩ (fun ext=>TL.pickT hF rfl (decide_eq_true hk) rfl rfl TL.fin) ?_
        refine DR.stepV [_,_,_,_,_,_,_,_,_,_,_,_,_,_,_,_,_] rfl [(48,_,some 15)] rfl rfl ⟨⟨rfl,rfl,rfl⟩,trivial⟩ (fun ext=>TL.move hF rfl rfl TL.fin) ?_
        refine DR.stepV [_,_,_,_,_,_,_,_,_,_,_,_,_,_,_,_,_,_] rfl [(11,_,none),(49,_,some 16)] rfl rfl ⟨⟨rfl,by kernel_rfl⟩,⟨rfl,rfl,rfl⟩,trivial⟩ (fun ext=>TL.off hF rfl rfl rfl (decide_eq_false hlw) rfl TL.fin) ?_
        refine DR.stepV [_,_,_,_,_,_,_,_,_,_,_,_,_,_,_,_,_,_,_] rfl [(8,_,none),(49,_,some 16)] rfl rfl ⟨⟨rfl,by kernel_rfl⟩,⟨rfl,rfl,rfl⟩,trivial⟩ (fun ext=>TL.off hF rfl rfl rfl (decide_eq_false hlw) rfl TL.fin) ?_
        refine DR.stepV [_,_,_,_,_,_,_,_,_,_,_,_,_,_,_,_,_,_,_,_] rfl [(3,_,none),(49,_,some 16)] rfl rfl ⟨⟨rfl,by kernel_rfl⟩,⟨rfl,rfl,rfl⟩,trivial⟩ (fun ext=>TL.off hF rfl rfl rfl (decide_eq_false hlw) rfl TL.fin) ?_
        refine DR.stepV [_,_,_,_,_,_,_,_,_,_,_,_,_,_,_,_,_,_,_,_,_] rfl [(52,_,some 19),(49,_,some 16)] rfl rfl ⟨⟨rfl,rfl,rfl⟩,⟨rfl,rfl,rfl⟩,trivial⟩ (fun ext=>TL.off hF rfl rfl rfl (decide_eq_false hlw) rfl TL.fin) ?_
        refine DR.stepV [_,_,_,_,_,_,_,_,_,_,_,_,_,_,_,_,_,_,_,_,_,_] rfl [(51,_,some 18),(53,_,some 20),(49,_,some 16)] rfl rfl ⟨⟨rfl,rfl,rfl⟩,⟨rfl,rfl,rfl⟩,⟨rfl,rfl,rfl⟩,trivial⟩ (fun ext=>TL.off hF rfl rfl rfl (decide_eq_false hlw) rfl TL.fin) ?_
        refine DR.done [(54,_),(53,_),(52,_),(51,_),(50,_),(49,_),(48,_),(47,_),(46,_),(45,_),(44,_),(43,_),(42,_),(41,_),(40,_),(39,_),(38,_),(37,_),(36,_),(35,_),(34,_),(33,_)] [_,_] mixed (by kernel_rfl) (by kernel_rfl) (by kernel_rfl) rfl rfl ?_
        refine TL.off hF rfl rfl rfl (decide_eq_false hlw) rfl ?_
        refine TL.pickF hF rfl (decide_eq_false hlw) rfl rfl ?_
        refine TL.nil ?_
        refine TQ.then_n ?_
        refine T.cond_f rfl rfl ?_
        refine T.skip ?_
        refine TQ.block_n ?_
        refine TQ.then_n ?_
        refine T.region ?_
        refine TL.move hF rfl rfl ?_
        refine TL.add hF rfl rfl (by first | omega | (dsimp only; omega)) (by first | omega | (dsimp only; omega)) rfl ?_
        refine TL.assign hF rfl rfl ?_
        refine TL.nil ?_
        have hwd:widen s r.key (lo,hi) l[j]=(lo,hi):=by unfold widen; exact if_neg (fun h=>hlw h.2.1)
        refine TQ.round (j+1,lo,hi) ⟨hjl,?_,?_⟩ (by dsimp only; omega) ⟨rfl,rfl,rfl,rfl,rfl,rfl,rfl,rfl,trivial⟩ rfl
        · dsimp only
          rw [← hpj,hdr,passS_cons,hwd]
        · dsimp only
          rw [← hwd]; exact widen_rng hrj htj
      · refine T.draw ?_
        refine DR.stepV [_] rfl [(1,_,none)] rfl rfl ⟨⟨rfl,by kernel_rfl⟩,trivial⟩ (fun ext=>TL.move hF rfl rfl TL.fin) ?_
        refine DR.stepV [_,_] rfl [(10,_,none)] rfl rfl ⟨⟨rfl,by kernel_rfl⟩,trivial⟩ (fun ext=>TL.move hF rfl rfl TL.fin) ?_
        refine DR.stepV [_,_,_] rfl [(33,_,some 0),(34,_,some 1)] rfl rfl ⟨⟨rfl,rfl,rfl⟩,⟨rfl,rfl,rfl⟩,trivial⟩ (fun ext=>TL.indexAddr hF rfl rfl (rr_ad hr hjl) (by first | omega | (dsimp only; omega)) (by first | omega | (dsimp only; omega)) rfl TL.fin) ?_
        refine DR.stepV [_,_,_,_] rfl [(35,_,some 2)] rfl rfl ⟨⟨rfl,rfl,rfl⟩,trivial⟩ (fun ext=>TL.fieldAddr hF rfl rfl TL.fin) ?_
        refine DR.stepV [_,_,_,_,_] rfl [(36,_,some 3)] rfl rfl ⟨⟨rfl,rfl,rfl⟩,trivial⟩ (fun ext=>TL.load hF rfl (rr_at (hr.up (fun _ hs=>List.mem_cons_of_mem _ (List.mem_cons_of_mem _ (List.mem_cons_of_mem _ hs)))) hjl 1 _ rfl) rfl TL.fin) ?_
        refine DR.stepV [_,_,_,_,_,_] rfl [(5,_,none)] rfl rfl ⟨⟨rfl,by kernel_rfl⟩,trivial⟩ (fun ext=>TL.fieldAddr hF rfl rfl TL.fin) ?_
        refine DR.stepV [_,_,_,_,_,_,_] rfl [(38,_,some 5)] rfl rfl ⟨⟨rfl,rfl,rfl⟩,trivial⟩ (fun ext=>TL.load hF rfl (show At _ _ _ _ (.int .i64 r.key) from own_mem (b:=b5) (cs:=(rwC r).toArray) (e:=57) (fz:=(0,0)) (by simp) rfl) rfl TL.fin) ?_
        refine DR.stepV [_,_,_,_,_,_,_,_] rfl [(37,_,some 4),(39,_,some 6)] rfl rfl ⟨⟨rfl,rfl,rfl⟩,⟨rfl,rfl,rfl⟩,trivial⟩ (fun ext=>TL.bin hF rfl rfl rfl rfl TL.fin) ?_
        refine DR.stepV [_,_,_,_,_,_,_,_,_] rfl [(40,_,some 7)] rfl rfl ⟨⟨rfl,rfl,rfl⟩,trivial⟩ (fun ext=>TL.move hF rfl rfl TL.fin) ?_
        refine DR.stepV [_,_,_,_,_,_,_,_,_,_] rfl [(11,_,none),(41,_,some 8)] rfl rfl ⟨⟨rfl,by kernel_rfl⟩,⟨rfl,rfl,rfl⟩,trivial⟩ (fun ext=>TL.off hF rfl rfl rfl (decide_eq_false hk) rfl TL.fin) ?_
        refine DR.stepV [_,_,_,_,_,_,_,_,_,_,_] rfl [(7,_,none),(41,_,some 8)] rfl rfl ⟨⟨rfl,by kernel_rfl⟩,⟨rfl,rfl,rfl⟩,trivial⟩ (fun ext=>TL.off hF rfl rfl rfl (decide_eq_false hk) rfl TL.fin) ?_
        refine DR.stepV [_,_,_,_,_,_,_,_,_,_,_,_] rfl [(3,_,none),(41,_,some 8)] rfl rfl ⟨⟨rfl,by kernel_rfl⟩,⟨rfl,rfl,rfl⟩,trivial⟩ (fun ext=>TL.off hF rfl rfl rfl (decide_eq_false hk) rfl TL.fin) ?_
        refine DR.stepV [_,_,_,_,_,_,_,_,_,_,_,_,_] rfl [(44,_,some 11),(41,_,some 8)] rfl rfl ⟨⟨rfl,rfl,rfl⟩,⟨rfl,rfl,rfl⟩,trivial⟩ (fun ext=>TL.off hF rfl rfl rfl (decide_eq_false hk) rfl TL.fin) ?_
        refine DR.stepV [_,_,_,_,_,_,_,_,_,_,_,_,_,_] rfl [(43,_,some 10),(45,_,some 12),(41,_,some 8)] rfl rfl ⟨⟨rfl,rfl,rfl⟩,⟨rfl,rfl,rfl⟩,⟨rfl,rfl,rfl⟩,trivial⟩ (fun ext=>TL.off hF rfl rfl rfl (decide_eq_false hk) rfl TL.fin) ?_
        refine DR.stepV [_,_,_,_,_,_,_,_,_,_,_,_,_,_,_] rfl [(42,_,some 9),(46,_,some 13),(41,_,some 8)] rfl rfl ⟨⟨rfl,rfl,rfl⟩,⟨rfl,rfl,rfl⟩,⟨rfl,rfl,rfl⟩,trivial⟩ (fun ext=>TL.off hF rfl rfl rfl (decide_eq_false hk) rfl TL.fin) ?_
        refine DR.stepV [_,_,_,_,_,_,_,_,_,_,_,_,_,_,_,_] rfl [(41,_,some 8),(47,_,some 14)] rfl rfl ⟨⟨rfl,rfl,rfl⟩,⟨rfl,rfl,rfl⟩,trivial⟩ (fun ext=>TL.pickF hF rfl (decide_eq_false hk) rfl rfl TL.fin) ?_
        refine DR.stepV [_,_,_,_,_,_,_,_,_,_,_,_,_,_,_,_,_] rfl [(48,_,some 15)] rfl rfl ⟨⟨rfl,rfl,rfl⟩,trivial⟩ (fun ext=>TL.move hF rfl rfl TL.fin) ?_
        refine DR.stepV [_,_,_,_,_,_,_,_,_,_,_,_,_,_,_,_,_,_] rfl [(11,_,none),(49,_,some 16)] rfl rfl ⟨⟨rfl,by kernel_rfl⟩,⟨rfl,rfl,rfl⟩,trivial⟩ (fun ext=>TL.off hF rfl rfl rfl rfl rfl TL.fin) ?_
        refine DR.stepV [_,_,_,_,_,_,_,_,_,_,_,_,_,_,_,_,_,_,_] rfl [(8,_,none),(49,_,some 16)] rfl rfl ⟨⟨rfl,by kernel_rfl⟩,⟨rfl,rfl,rfl⟩,trivial⟩ (fun ext=>TL.off hF rfl rfl rfl rfl rfl TL.fin) ?_
        refine DR.stepV [_,_,_,_,_,_,_,_,_,_,_,_,_,_,_,_,_,_,_,_] rfl [(3,_,none),(49,_,some 16)] rfl rfl ⟨⟨rfl,by kernel_rfl⟩,⟨rfl,rfl,rfl⟩,trivial⟩ (fun ext=>TL.off hF rfl rfl rfl rfl rfl TL.fin) ?_
        refine DR.stepV [_,_,_,_,_,_,_,_,_,_,_,_,_,_,_,_,_,_,_,_,_] rfl [(52,_,some 19),(49,_,some 16)] rfl rfl ⟨⟨rfl,rfl,rfl⟩,⟨rfl,rfl,rfl⟩,trivial⟩ (fun ext=>TL.off hF rfl rfl rfl rfl rfl TL.fin) ?_
        refine DR.stepV [_,_,_,_,_,_,_,_,_,_,_,_,_,_,_,_,_,_,_,_,_,_] rfl [(51,_,some 18),(53,_,some 20),(49,_,some 16)] rfl rfl ⟨⟨rfl,rfl,rfl⟩,⟨rfl,rfl,rfl⟩,⟨rfl,rfl,rfl⟩,trivial⟩ (fun ext=>TL.off hF rfl rfl rfl rfl rfl TL.fin) ?_
        refine DR.done [(54,_),(53,_),(52,_),(51,_),(50,_),(49,_),(48,_),(47,_),(46,_),(45,_),(44,_),(43,_),(42,_),(41,_),(40,_),(39,_),(38,_),(37,_),(36,_),(35,_),(34,_),(33,_)] [_,_] mixed (by kernel_rfl) (by kernel_rfl) (by kernel_rfl) rfl rfl ?_
        refine TL.off hF rfl rfl rfl rfl rfl ?_
        refine TL.pickF hF rfl rfl rfl rfl ?_
        refine TL.nil ?_
        refine TQ.then_n ?_
        refine T.cond_f rfl rfl ?_
        refine T.skip ?_
        refine TQ.block_n ?_
        refine TQ.then_n ?_
        refine T.region ?_
        refine TL.move hF rfl rfl ?_
        refine TL.add hF rfl rfl (by first | omega | (dsimp only; omega)) (by first | omega | (dsimp only; omega)) rfl ?_
        refine TL.assign hF rfl rfl ?_
        refine TL.nil ?_
        have hwd:widen s r.key (lo,hi) l[j]=(lo,hi):=by unfold widen; exact if_neg (fun h=>hk h.1)
        refine TQ.round (j+1,lo,hi) ⟨hjl,?_,?_⟩ (by dsimp only; omega) ⟨rfl,rfl,rfl,rfl,rfl,rfl,rfl,rfl,trivial⟩ rfl
        · dsimp only
          rw [← hpj,hdr,passS_cons,hwd]
        · dsimp only
          rw [← hwd]; exact widen_rng hrj htj
    · refine T.exit ?_
      refine TQ.then_x ?_
      refine TQ.then_x ?_
      refine TQ.block_x ?_
      refine TQ.block_n ?_
      refine TQ.then_n ?_
      refine T.region ?_
      refine TL.move hF rfl rfl ?_
      refine TL.add hF rfl rfl (by first | omega | (dsimp only; omega)) (by first | omega | (dsimp only; omega)) rfl ?_
      refine TL.assign hF rfl rfl ?_
      refine TL.nil ?_
      have hje:l.length≤j:=by have h:¬ (j:Int)<(l.length:Int):=ht25; omega
      rw [List.drop_of_length_le hje] at hpj
      have hpe:(lo,hi)=passS s r.key l lh:=hpj
      refine TQ.round (n+1,lo,hi) ⟨hnl,?_,hrj⟩ (by dsimp only; omega) ⟨rfl,rfl,rfl,rfl,rfl,rfl,rfl,trivial⟩ rfl
      dsimp only
      rw [hpe,← hps,show l.length - n=(l.length - (n+1))+1 by omega]
      rfl
  · refine T.exit ?_
    refine TQ.then_x ?_
    refine TQ.then_x ?_
    refine TQ.block_x ?_
    refine TQ.then_n ?_
    refine T.seq ?_
    refine T.region ?_
    have hrg2:=hrg
    unfold Rng at hrg2
    refine TL.move hF rfl rfl ?_
    refine TL.move hF rfl rfl ?_
    refine TL.fieldAddr hF rfl rfl ?_
    refine TL.load hF rfl (show At _ _ _ _ (.int .i64 s.size) from own_mem (b:=b3) (cs:=(wsC s).toArray) (e:=23) (fz:=(0,0)) (by simp) rfl) rfl ?_
    refine TL.add hF rfl rfl (by first | omega | (dsimp only; omega)) (by first | omega | (dsimp only; omega)) rfl ?_
    refine TL.build hF rfl (r:=.agg #[.int .i64 lh.1,.int .i64 (lh.2+s.size)]) (fun w=>by kernel_rfl) rfl ?_
    refine TL.storeAs hF [.int .i64 lh.1,.int .i64 (lh.2+s.size)] [.int .i64 lh.1,.int .i64 (lh.2+s.size)] 0 (cs:=[.int .i64 0,.int .i64 0]) rfl rfl rfl rfl (by simp [Value.oneCell']) (Nat.le_refl 2) rfl ?_
    refine TL.nil ?_
    refine TQ.then_n ?_
    refine T.ret ?_
    have hne:n=l.length:=by have h:¬ (n:Int)<(l.length:Int):=ht19; omega
    rw [hne,Nat.sub_self] at hps
    have hse:sessS s l r=(lh.1,lh.2+s.size):=by
      have h9:lh=passes s r.key l l.length (r.time,r.time):=hps
      unfold sessS; rw [← h9]
    rw [hse]
    exact TQ.retC [.int .i64 lh.1,.int .i64 (lh.2+s.size)] η rfl rfl rfl (own_list (i:=0) (cs:=[.int .i64 lh.1,.int .i64 (lh.2+s.size)]) rfl) (List.Sublist.cons _ (List.Sublist.cons _ (List.sublist_cons_self _ _))) ⟨rfl,rfl⟩
end Go.Proofs.YtbajelldegijkaaDoor
/- The reference: all windows; Whole. -/
namespace Go.Proofs.YtbajelldegijkaaDoor
open Go.Sl
variable {S:Nat→Prop} {w0:World} {η:Heap}
def allTo (s:Wsp) (l:List Rw) (i:Nat):List Ot:=((l.take i).flatMap (outsOf s l)).foldl (fun o x=>putS x o) []
theorem allTo_end {s:Wsp} {l:List Rw} {i:Nat} (h:l.length≤i):allTo s l i=allS s l:=by unfold allTo allS; rw [List.take_of_length_le h]
theorem allTo_step {s:Wsp} {l:List Rw} {i:Nat} (h:i<l.length):allTo s l (i+1)=(outsOf s l l[i]).foldl (fun o x=>putS x o) (allTo s l i):=by
  unfold allTo
  rw [List.take_succ_eq_append_getElem h,List.flatMap_append,List.foldl_append]
  simp
theorem outs_step {s:Wsp} {l:List Rw} {r:Rw} {k:Nat} (h:k<(winsS s l r).length) (o:List Ot):((outsOf s l r).take (k+1)).foldl (fun o x=>putS x o) o=putS (outS s l r.key (winsS s l r)[k]) (((outsOf s l r).take k).foldl (fun o x=>putS x o) o):=by
  have h2:k<(outsOf s l r).length:=by unfold outsOf; rw [List.length_map]; exact h
  rw [List.take_succ_eq_append_getElem h2,List.foldl_append]
  have e:(outsOf s l r)[k]=outS s l r.key (winsS s l r)[k]:=by simp [outsOf]
  rw [e]; rfl
theorem wins_len {s:Wsp} {l:List Rw} (h:Askd s l) {r:Rw} (hr:r∈l):(winsS s l r).length≤1048577:=by
  unfold winsS
  split
  · rename_i hk; rw [spans_len]; exact count_le (h.time hk hr)
  · exact Nat.succ_le_succ (Nat.zero_le _)
structure AI where
  i:Nat
  a:Option Addr
  c:Nat
  g:Seg
set_option maxHeartbeats 8000000 in
theorem AllR_fn {s : Wsp} {a : Option Addr} {l : List Rw} {c : Nat} (hr : RRow S w0 η a l) (hq : Askd s l) :
    Rt Tryd.prog 48 [wsV s,.slice a l.length c].toArray S w0 η (fun v η'=>∃ oa oc og,v = .slice oa (allS s l).length oc∧OSl 59 4 (.slice oa (allS s l).length oc) (allS s l).length ((allS s l).flatMap otC) og∧η'=og::η):=by
  have hlen:=hq.len
  have hsz:=hq.size
  have hfo:0≤s.fold∧s.fold≤3:=by
    have:=hq.ok
    unfold okS at this
    simp only [Bool.and_eq_true,decide_eq_true_eq] at this
    omega
  have hF:=open_wide
  refine Rt.of (fn:=Tryd.f48) Tryd.func48 rfl rfl ?_
  refine T.seq ?_
  refine T.region ?_
  refine TL.box hF rfl rfl (fun b2=>?_)
  refine TL.assign hF rfl rfl ?_
  refine TL.nil ?_
  refine TQ.then_n ?_
  refine T.seq ?_
  refine T.region ?_
  refine TL.buildSlice hF rfl (cs:=#[]) (e:=59) (fun w=>by kernel_rfl) rfl (fun b9=>?_)
  refine TL.assign hF rfl rfl ?_
  refine TL.nil ?_
  refine TQ.then_n ?_
  refine T.seq ?_
  refine T.seq ?_
  refine T.region ?_
  refine TL.assign hF rfl rfl ?_
  refine TL.nil ?_
  refine TQ.then_n ?_
  refine T.block ?_
  refine T.heap (η':=[(b9,Obj.cells #[] 59 (0,0))]::[(b2,Obj.cells (wsC s).toArray 23 (0,0))]::η) rfl ?_
  refine T.loop (ι:=AI) (fun z=>z.i≤l.length∧(allTo s l z.i).length≤z.i*1048577∧OSl 59 4 (.slice z.a (allTo s l z.i).length z.c) (allTo s l z.i).length ((allTo s l z.i).flatMap otC) z.g) (fun z=>[(1,.slice a l.length c),(2,ptr b2),(4,.slice none 0 0),(5,.slice z.a (allTo s l z.i).length z.c),(6,.int .i64 (z.i:Int))]) (fun z=>z.g::[(b2,Obj.cells (wsC s).toArray 23 (0,0))]::η) (fun z=>l.length - z.i) ⟨0,some ⟨b9,0,none⟩,0,[(b9,Obj.cells #[] 59 (0,0))]⟩ ⟨Nat.zero_le _,Nat.zero_le _,osl_empty⟩ ⟨rfl,rfl,rfl,rfl,rfl,trivial⟩ rfl ?_
  rintro ⟨i,oa,oc,og⟩ ⟨hi,hol,ho⟩
  dsimp only at hi hol ho
  refine T.seq ?_
  refine T.seq ?_
  refine T.region ?_
  refine TL.move hF rfl rfl ?_
  refine TL.move hF rfl rfl ?_
  refine TL.len hF rfl rfl ?_
  refine TL.bin hF rfl rfl rfl rfl ?_
  refine TL.nil ?_
  refine TQ.then_n ?_
  first | refine T.cond_d rfl (fun ht13=>?_) (fun ht13=>?_) | refine T.cond _ rfl (fun ht13=>?_) (fun ht13=>?_)
  · refine T.skip ?_
    refine TQ.then_n ?_
    refine T.seq ?_
    refine T.block ?_
    refine T.seq ?_
    refine T.region ?_
    have hil:i<l.length:=by have h:(i:Int)<(l.length:Int):=ht13; omega
    have hri:=hq.row (List.getElem_mem hil)
    have hwl:=wins_len hq (List.getElem_mem hil)
    refine TL.buildSlice hF rfl (cs:=#[]) (e:=88) (fun w=>by kernel_rfl) rfl (fun b16=>?_)
    refine TL.assign hF rfl rfl ?_
    refine TL.nil ?_
    refine TQ.then_n ?_
    refine T.seq ?_
    refine T.seq ?_
    refine T.region ?_
    refine TL.fieldAddr hF rfl rfl ?_
    refine TL.load hF rfl (show At _ _ _ _ (.int .i64 s.kind) from own_mem (b:=b2) (cs:=(wsC s).toArray) (e:=23) (fz:=(0,0)) (by simp) rfl) rfl ?_
    refine TL.bin hF rfl rfl rfl rfl ?_
    refine TL.nil ?_
    refine TQ.then_n ?_
    refine T.cond_d rfl (fun ht19=>?_) (fun ht19=>?_)
    · refine T.draw ?_
      refine DR.stepV [_] rfl [(2,_,none)] rfl rfl ⟨⟨rfl,by kernel_rfl⟩,trivial⟩ (fun ext=>TL.loadA hF (wsC s) rfl rfl (own_listM (b:=b2) (cs:=wsC s) (e:=23) (fz:=(0,0)) (by simp)) rfl TL.fin) ?_
      refine DR.stepV [_,_] rfl [(1,_,none)] rfl rfl ⟨⟨rfl,by kernel_rfl⟩,trivial⟩ (fun ext=>TL.move hF rfl rfl TL.fin) ?_
      refine DR.stepV [_,_,_] rfl [(6,_,none)] rfl rfl ⟨⟨rfl,by kernel_rfl⟩,trivial⟩ (fun ext=>TL.move hF rfl rfl TL.fin) ?_
      refine DR.stepV [_,_,_,_] rfl [(21,_,some 1),(22,_,some 2)] rfl rfl ⟨⟨rfl,rfl,rfl⟩,⟨rfl,rfl,rfl⟩,trivial⟩ (fun ext=>TL.indexAddr hF rfl rfl (rr_ad hr hil) (by first | omega | (dsimp only; omega)) (by first | omega | (dsimp only; omega)) rfl TL.fin) ?_
      refine DR.stepV [_,_,_,_,_] rfl [(23,_,some 3)] rfl rfl ⟨⟨rfl,rfl,rfl⟩,trivial⟩ (fun ext=>TL.fieldAddr hF rfl rfl TL.fin) ?_
      refine DR.stepV [_,_,_,_,_,_] rfl [(24,_,some 4)] rfl rfl ⟨⟨rfl,rfl,rfl⟩,trivial⟩ (fun ext=>TL.load hF rfl (rr_at (hr.up (fun _ hs=>List.mem_cons_of_mem _ (List.mem_cons_of_mem _ (List.mem_cons_of_mem _ (hs))))) hil 0 _ rfl) rfl TL.fin) ?_
      refine DR.done [(25,_),(24,_),(23,_),(22,_),(21,_),(20,_)] [_,_] mixed (by kernel_rfl) (by kernel_rfl) (by kernel_rfl) rfl rfl ?_
      refine TL.call hF (spansR_fn (s:=s) (t:=l[i].time) (hq.time ht19 (List.getElem_mem hil))) rfl rfl ?_
      rintro _ _ ⟨ga,gc,g,rfl,hg,rfl⟩
      refine TL.assign hF rfl rfl ?_
      refine TL.nil ?_
      refine TQ.then_n ?_
      refine T.seq ?_
      refine T.region ?_
      refine TL.assign hF rfl rfl ?_
      refine TL.nil ?_
      refine TQ.then_n ?_
      refine T.block ?_
      have hk0:s.kind=0:=ht19
      have hww:OSl 88 2 (.slice ga (spansS s l[i].time).length gc) (spansS s l[i].time).length ((spansS s l[i].time).flatMap pC) g:=hg
      obtain ⟨wa,wc,wg,hw0,hwv,hwg⟩:∃ wa wc wg,OSl 88 2 (.slice wa (winsS s l l[i]).length wc) (winsS s l l[i]).length ((winsS s l l[i]).flatMap pC) wg∧Value.slice ga (spansS s l[i].time).length gc = .slice wa (winsS s l l[i]).length wc∧g=wg:=⟨ga,gc,g,by unfold winsS; rw [if_pos hk0]; exact hww,by unfold winsS; rw [if_pos hk0],rfl⟩
      rw [hwv,hwg]
      refine T.hsub (wg::og::[(b2,Obj.cells (wsC s).toArray 23 (0,0))]::η) (List.Sublist.cons_cons _ (List.sublist_cons_self _ _)) ?_
      refine T.pick [1,0,2] [_,_,_] rfl rfl rfl ?_
      refine T.loop (ι:=AI) (fun z=>z.i≤(winsS s l l[i]).length∧(((outsOf s l l[i]).take z.i).foldl (fun o x=>putS x o) (allTo s l i)).length≤i*1048577+z.i∧OSl 59 4 (.slice z.a (((outsOf s l l[i]).take z.i).foldl (fun o x=>putS x o) (allTo s l i)).length z.c) (((outsOf s l l[i]).take z.i).foldl (fun o x=>putS x o) (allTo s l i)).length ((((outsOf s l l[i]).take z.i).foldl (fun o x=>putS x o) (allTo s l i)).flatMap otC) z.g) (fun z=>[(1,.slice a l.length c),(2,ptr b2),(4,.slice none 0 0),(5,.slice z.a (((outsOf s l l[i]).take z.i).foldl (fun o x=>putS x o) (allTo s l i)).length z.c),(6,.int .i64 (i:Int)),(7,.slice wa (winsS s l l[i]).length wc),(8,.int .i64 (z.i:Int))]) (fun z=>z.g::wg::[(b2,Obj.cells (wsC s).toArray 23 (0,0))]::η) (fun z=>(winsS s l l[i]).length - z.i) ⟨0,oa,oc,og⟩ ⟨Nat.zero_le _,by dsimp only; rw [Nat.add_zero]; exact hol,ho⟩ ⟨rfl,rfl,rfl,rfl,rfl,rfl,rfl,trivial⟩ rfl ?_
      rintro ⟨k,pa,pc,pg⟩ ⟨hk,hpl,hp⟩
      dsimp only at hk hpl hp
      refine T.seq ?_
      refine T.seq ?_
      refine T.region ?_
      refine TL.move hF rfl rfl ?_
      refine TL.move hF rfl rfl ?_
      refine TL.len hF rfl rfl ?_
      refine TL.bin hF rfl rfl rfl rfl ?_
      refine TL.nil ?_
      refine TQ.then_n ?_
      first | refine T.cond_d rfl (fun ht40=>?_) (fun ht40=>?_) | refine T.cond _ rfl (fun ht40=>?_) (fun ht40=>?_)
      · refine T.skip ?_
        refine TQ.then_n ?_
        refine T.seq ?_
        refine T.block ?_
        have hkl:k<(winsS s l l[i]).length:=by have h:(k:Int)<((winsS s l l[i]).length:Int):=ht40; omega
        have hwr:=win_range hq (List.getElem_mem hil) (List.getElem_mem hkl)
        refine T.draw ?_
        refine DR.stepV [_] rfl [(5,_,none)] rfl rfl ⟨⟨rfl,by kernel_rfl⟩,trivial⟩ (fun ext=>TL.move hF rfl rfl TL.fin) ?_
        refine DR.stepV [_,_] rfl [(2,_,none)] rfl rfl ⟨⟨rfl,by kernel_rfl⟩,trivial⟩ (fun ext=>TL.loadA hF (wsC s) rfl rfl (own_listM (b:=b2) (cs:=wsC s) (e:=23) (fz:=(0,0)) (by simp)) rfl TL.fin) ?_
        refine DR.stepV [_,_,_] rfl [(1,_,none)] rfl rfl ⟨⟨rfl,by kernel_rfl⟩,trivial⟩ (fun ext=>TL.move hF rfl rfl TL.fin) ?_
        refine DR.stepV [_,_,_,_] rfl [(7,_,none)] rfl rfl ⟨⟨rfl,by kernel_rfl⟩,trivial⟩ (fun ext=>TL.move hF rfl rfl TL.fin) ?_
        refine DR.stepV [_,_,_,_,_] rfl [(8,_,none)] rfl rfl ⟨⟨rfl,by kernel_rfl⟩,trivial⟩ (fun ext=>TL.move hF rfl rfl TL.fin) ?_
        refine DR.stepV [_,_,_,_,_,_] rfl [(46,_,some 3),(47,_,some 4)] rfl rfl ⟨⟨rfl,rfl,rfl⟩,⟨rfl,rfl,rfl⟩,trivial⟩ (fun ext=>TL.indexAddr hF rfl rfl ((hw0.row (S:=S) (w0:=w0) (η:=pg::wg::[(b2,Obj.cells (wsC s).toArray 23 (0,0))]::η) (by simp)).tad pC_len (by decide) hkl) (by first | omega | (dsimp only; omega)) (by first | omega | (dsimp only; omega)) rfl TL.fin) ?_
        refine DR.stepV [_,_,_,_,_,_,_] rfl [(48,_,some 5)] rfl rfl ⟨⟨rfl,rfl,rfl⟩,trivial⟩ (fun ext=>TL.loadA hF (pC (winsS s l l[i])[k]) rfl rfl ((hw0.row (S:=S) (w0:=w0) (η:=pg::wg::[(b2,Obj.cells (wsC s).toArray 23 (0,0))]::η) (by simp)).tabA pC_len hkl) rfl TL.fin) ?_
        refine DR.stepV [_,_,_,_,_,_,_,_] rfl [(1,_,none)] rfl rfl ⟨⟨rfl,by kernel_rfl⟩,trivial⟩ (fun ext=>TL.move hF rfl rfl TL.fin) ?_
        refine DR.stepV [_,_,_,_,_,_,_,_,_] rfl [(6,_,none)] rfl rfl ⟨⟨rfl,by kernel_rfl⟩,trivial⟩ (fun ext=>TL.move hF rfl rfl TL.fin) ?_
        refine DR.stepV [_,_,_,_,_,_,_,_,_,_] rfl [(50,_,some 7),(51,_,some 8)] rfl rfl ⟨⟨rfl,rfl,rfl⟩,⟨rfl,rfl,rfl⟩,trivial⟩ (fun ext=>TL.indexAddr hF rfl rfl (rr_ad hr hil) (by first | omega | (dsimp only; omega)) (by first | omega | (dsimp only; omega)) rfl TL.fin) ?_
        refine DR.stepV [_,_,_,_,_,_,_,_,_,_,_] rfl [(52,_,some 9)] rfl rfl ⟨⟨rfl,rfl,rfl⟩,trivial⟩ (fun ext=>TL.fieldAddr hF rfl rfl TL.fin) ?_
        refine DR.stepV [_,_,_,_,_,_,_,_,_,_,_,_] rfl [(53,_,some 10)] rfl rfl ⟨⟨rfl,rfl,rfl⟩,trivial⟩ (fun ext=>TL.load hF rfl (rr_at (hr.up (fun _ hs=>List.mem_cons_of_mem _ (List.mem_cons_of_mem _ (List.mem_cons_of_mem _ (hs))))) hil 1 _ rfl) rfl TL.fin) ?_
        refine DR.stepV [_,_,_,_,_,_,_,_,_,_,_,_,_] rfl [(44,_,some 1),(45,_,some 2),(49,_,some 6),(54,_,some 11)] rfl rfl ⟨⟨rfl,rfl,rfl⟩,⟨rfl,rfl,rfl⟩,⟨rfl,rfl,rfl⟩,⟨rfl,rfl,rfl⟩,trivial⟩ (fun ext=>TL.callV hF (wordR_fn (s:=s) (w:=(winsS s l l[i])[k]) (key:=l[i].key) (hr.up (fun _ hs=>List.mem_cons_of_mem _ (List.mem_cons_of_mem _ (List.mem_cons_of_mem _ (hs))))) (by omega) hfo hq.ws (by omega)) rfl rfl TL.fin) ?_
        refine DR.done [(55,_),(54,_),(53,_),(52,_),(51,_),(50,_),(49,_),(48,_),(47,_),(46,_),(45,_),(44,_),(43,_)] [_,_] mixed (by kernel_rfl) (by kernel_rfl) (by kernel_rfl) rfl rfl ?_
        have hst:=outs_step (s:=s) (l:=l) (r:=l[i]) hkl (allTo s l i)
        refine TL.call hF (putR_fn (x:=outS s l l[i].key (winsS s l l[i])[k]) (hp.row (η:=pg::wg::[(b2,Obj.cells (wsC s).toArray 23 (0,0))]::η) (by simp)) (by omega)) rfl rfl ?_
        rintro _ _ ⟨na,nc,ng,rfl,hn,rfl⟩
        have hnl:=putS_len (outS s l l[i].key (winsS s l l[i])[k]) (((outsOf s l l[i]).take k).foldl (fun o x=>putS x o) (allTo s l i))
        rw [← hst] at hn hnl ⊢
        refine TL.assign hF rfl rfl ?_
        refine TL.nil ?_
        refine TQ.block_n ?_
        refine TQ.then_n ?_
        refine T.region ?_
        refine TL.move hF rfl rfl ?_
        refine TL.add hF rfl rfl (by first | omega | (dsimp only; omega)) (by first | omega | (dsimp only; omega)) rfl ?_
        refine TL.assign hF rfl rfl ?_
        refine TL.nil ?_
        refine TQ.hperm (pg::ng::wg::[(b2,Obj.cells (wsC s).toArray 23 (0,0))]::η) (List.Perm.swap _ _ _) ?_
        refine TQ.pop ?_
        exact TQ.round ⟨k+1,na,nc,ng⟩ ⟨hkl,by dsimp only; omega,hn⟩ (by dsimp only; omega) ⟨rfl,rfl,rfl,rfl,rfl,rfl,rfl,trivial⟩ rfl
      · refine T.exit ?_
        refine TQ.then_x ?_
        refine TQ.then_x ?_
        refine TQ.block_x ?_
        refine TQ.block_n ?_
        refine TQ.then_n ?_
        refine T.region ?_
        refine TL.move hF rfl rfl ?_
        refine TL.add hF rfl rfl (by first | omega | (dsimp only; omega)) (by first | omega | (dsimp only; omega)) rfl ?_
        refine TL.assign hF rfl rfl ?_
        refine TL.nil ?_
        have hke:(winsS s l l[i]).length≤k:=by have h:¬ (k:Int)<((winsS s l l[i]).length:Int):=ht40; omega
        have hte:(((outsOf s l l[i]).take k).foldl (fun o x=>putS x o) (allTo s l i))=allTo s l (i+1):=by
          rw [allTo_step hil,List.take_of_length_le (by unfold outsOf; rw [List.length_map]; exact hke)]
        rw [hte] at hp hpl
        refine TQ.hperm (wg::pg::[(b2,Obj.cells (wsC s).toArray 23 (0,0))]::η) (List.Perm.swap _ _ _) ?_
        refine TQ.pop ?_
        exact TQ.round ⟨i+1,pa,pc,pg⟩ ⟨hil,by dsimp only; omega,hp⟩ (by dsimp only; omega) ⟨rfl,rfl,rfl,by dsimp only; rw [hte]; rfl,rfl,trivial⟩ rfl
    · refine T.drawH 9 mixed ?_
      refine DH.pure (i:=0) [(7,_,none)] rfl rfl rfl rfl ⟨⟨rfl,by kernel_rfl⟩,trivial⟩ (fun _ ext=>TL.move hF rfl rfl TL.fin) ?_
      refine DH.read (i:=1) [(2,_,none)] rfl rfl rfl rfl ⟨⟨rfl,by kernel_rfl⟩,trivial⟩ (fun ext=>TL.loadA hF (wsC s) rfl rfl (own_listM (b:=b2) (cs:=wsC s) (e:=23) (fz:=(0,0)) (by simp)) rfl TL.fin) ?_
      refine DH.pure (i:=2) [(1,_,none)] rfl rfl rfl rfl ⟨⟨rfl,by kernel_rfl⟩,trivial⟩ (fun _ ext=>TL.move hF rfl rfl TL.fin) ?_
      refine DH.pure (i:=3) [(1,_,none)] rfl rfl rfl rfl ⟨⟨rfl,by kernel_rfl⟩,trivial⟩ (fun _ ext=>TL.move hF rfl rfl TL.fin) ?_
      refine DH.pure (i:=4) [(6,_,none)] rfl rfl rfl rfl ⟨⟨rfl,by kernel_rfl⟩,trivial⟩ (fun _ ext=>TL.move hF rfl rfl TL.fin) ?_
      refine DH.pure (i:=5) [(30,_,some 3),(31,_,some 4)] rfl rfl rfl rfl ⟨⟨rfl,rfl,rfl⟩,⟨rfl,rfl,rfl⟩,trivial⟩ (fun _ ext=>TL.indexAddr hF rfl rfl (rr_ad hr hil) (by first | omega | (dsimp only; omega)) (by first | omega | (dsimp only; omega)) rfl TL.fin) ?_
      refine DH.read (i:=6) [(32,_,some 5)] rfl rfl rfl rfl ⟨⟨rfl,rfl,rfl⟩,trivial⟩ (fun ext=>TL.loadA hF (rwC l[i]) rfl rfl (rr_at (hr.up (fun _ hs=>List.mem_cons_of_mem _ (List.mem_cons_of_mem _ (List.mem_cons_of_mem _ (hs))))) hil) rfl TL.fin) ?_
      refine DH.read (i:=7) [(28,_,some 1),(29,_,some 2),(33,_,some 6)] rfl rfl rfl rfl ⟨⟨rfl,rfl,rfl⟩,⟨rfl,rfl,rfl⟩,⟨rfl,rfl,rfl⟩,trivial⟩ (fun ext=>TL.callV hF (sessionR_fn (hr.up (fun _ hs=>by simp [hs])) (by omega) (by omega) hq.tms hri.1) rfl rfl TL.fin) ?_
      refine DH.heavy 8 [(34,_,some 7)] (by kernel_rfl) (by kernel_rfl) (by kernel_rfl) (by kernel_rfl) rfl rfl rfl rfl ⟨⟨rfl,rfl,rfl⟩,trivial⟩ (by kernel_rfl) (fun ext=>?_)
      refine TL.buildSlice hF rfl (cs:=(pC (sessS s l l[i])).toArray) (e:=88) (fun w=>by kernel_rfl) rfl (fun bq=>?_)
      refine TL.finD ?_
      refine DH.done [(35,_),(34,_),(33,_),(32,_),(31,_),(30,_),(29,_),(28,_),(27,_)] [_,_] (by kernel_rfl) (by kernel_rfl) (by kernel_rfl) (by kernel_rfl) rfl rfl ?_
      refine TL.append hF 1 rfl rfl rfl (osl_empty (e:=88) (sz:=2) (b:=b16)) (row_own (cs:=pC (sessS s l l[i])) (e:=88) (b:=bq) (by simp)).src rfl rfl (pC1 _) (by omega) (by omega) rfl (fun sa sc sg sh=>?_)
      refine TL.assign hF rfl rfl ?_
      refine TL.nil ?_
      refine TQ.then_n ?_
      refine T.seq ?_
      refine T.region ?_
      refine TL.assign hF rfl rfl ?_
      refine TL.nil ?_
      refine TQ.then_n ?_
      refine T.block ?_
      have hk0:¬ s.kind=0:=ht19
      obtain ⟨wa,wc,wg,hw0,hwv,hwg⟩:∃ wa wc wg,OSl 88 2 (.slice wa (winsS s l l[i]).length wc) (winsS s l l[i]).length ((winsS s l l[i]).flatMap pC) wg∧Value.slice sa (0+1) sc = .slice wa (winsS s l l[i]).length wc∧sg=wg:=⟨sa,sc,sg,by unfold winsS; rw [if_neg hk0]; exact sh,by unfold winsS; rw [if_neg hk0]; rfl,rfl⟩
      rw [hwv,hwg]
      refine T.hsub (wg::og::[(b2,Obj.cells (wsC s).toArray 23 (0,0))]::η) (List.sublist_cons_self _ _) ?_
      refine T.pick [1,0,2] [_,_,_] rfl rfl rfl ?_
      refine T.loop (ι:=AI) (fun z=>z.i≤(winsS s l l[i]).length∧(((outsOf s l l[i]).take z.i).foldl (fun o x=>putS x o) (allTo s l i)).length≤i*1048577+z.i∧OSl 59 4 (.slice z.a (((outsOf s l l[i]).take z.i).foldl (fun o x=>putS x o) (allTo s l i)).length z.c) (((outsOf s l l[i]).take z.i).foldl (fun o x=>putS x o) (allTo s l i)).length ((((outsOf s l l[i]).take z.i).foldl (fun o x=>putS x o) (allTo s l i)).flatMap otC) z.g) (fun z=>[(1,.slice a l.length c),(2,ptr b2),(4,.slice none 0 0),(5,.slice z.a (((outsOf s l l[i]).take z.i).foldl (fun o x=>putS x o) (allTo s l i)).length z.c),(6,.int .i64 (i:Int)),(7,.slice wa (winsS s l l[i]).length wc),(8,.int .i64 (z.i:Int))]) (fun z=>z.g::wg::[(b2,Obj.cells (wsC s).toArray 23 (0,0))]::η) (fun z=>(winsS s l l[i]).length - z.i) ⟨0,oa,oc,og⟩ ⟨Nat.zero_le _,by dsimp only; rw [Nat.add_zero]; exact hol,ho⟩ ⟨rfl,rfl,rfl,rfl,rfl,rfl,rfl,trivial⟩ rfl ?_
      rintro ⟨k,pa,pc,pg⟩ ⟨hk,hpl,hp⟩
      dsimp only at hk hpl hp
      refine T.seq ?_
      refine T.seq ?_
      refine T.region ?_
      refine TL.move hF rfl rfl ?_
      refine TL.move hF rfl rfl ?_
      refine TL.len hF rfl rfl ?_
      refine TL.bin hF rfl rfl rfl rfl ?_
      refine TL.nil ?_
      refine TQ.then_n ?_
      first | refine T.cond_d rfl (fun ht40=>?_) (fun ht40=>?_) | refine T.cond _ rfl (fun ht40=>?_) (fun ht40=>?_)
      · refine T.skip ?_
        refine TQ.then_n ?_
        refine T.seq ?_
        refine T.block ?_
        have hkl:k<(winsS s l l[i]).length:=by have h:(k:Int)<((winsS s l l[i]).length:Int):=ht40; omega
        have hwr:=win_range hq (List.getElem_mem hil) (List.getElem_mem hkl)
        refine T.draw ?_
        refine DR.stepV [_] rfl [(5,_,none)] rfl rfl ⟨⟨rfl,by kernel_rfl⟩,trivial⟩ (fun ext=>TL.move hF rfl rfl TL.fin) ?_
        refine DR.stepV [_,_] rfl [(2,_,none)] rfl rfl ⟨⟨rfl,by kernel_rfl⟩,trivial⟩ (fun ext=>TL.loadA hF (wsC s) rfl rfl (own_listM (b:=b2) (cs:=wsC s) (e:=23) (fz:=(0,0)) (by simp)) rfl TL.fin) ?_
        refine DR.stepV [_,_,_] rfl [(1,_,none)] rfl rfl ⟨⟨rfl,by kernel_rfl⟩,trivial⟩ (fun ext=>TL.move hF rfl rfl TL.fin) ?_
        refine DR.stepV [_,_,_,_] rfl [(7,_,none)] rfl rfl ⟨⟨rfl,by kernel_rfl⟩,trivial⟩ (fun ext=>TL.move hF rfl rfl TL.fin) ?_
        refine DR.stepV [_,_,_,_,_] rfl [(8,_,none)] rfl rfl ⟨⟨rfl,by kernel_rfl⟩,trivial⟩ (fun ext=>TL.move hF rfl rfl TL.fin) ?_
        refine DR.stepV [_,_,_,_,_,_] rfl [(46,_,some 3),(47,_,some 4)] rfl rfl ⟨⟨rfl,rfl,rfl⟩,⟨rfl,rfl,rfl⟩,trivial⟩ (fun ext=>TL.indexAddr hF rfl rfl ((hw0.row (S:=S) (w0:=w0) (η:=pg::wg::[(b2,Obj.cells (wsC s).toArray 23 (0,0))]::η) (by simp)).tad pC_len (by decide) hkl) (by first | omega | (dsimp only; omega)) (by first | omega | (dsimp only; omega)) rfl TL.fin) ?_
        refine DR.stepV [_,_,_,_,_,_,_] rfl [(48,_,some 5)] rfl rfl ⟨⟨rfl,rfl,rfl⟩,trivial⟩ (fun ext=>TL.loadA hF (pC (winsS s l l[i])[k]) rfl rfl ((hw0.row (S:=S) (w0:=w0) (η:=pg::wg::[(b2,Obj.cells (wsC s).toArray 23 (0,0))]::η) (by simp)).tabA pC_len hkl) rfl TL.fin) ?_
        refine DR.stepV [_,_,_,_,_,_,_,_] rfl [(1,_,none)] rfl rfl ⟨⟨rfl,by kernel_rfl⟩,trivial⟩ (fun ext=>TL.move hF rfl rfl TL.fin) ?_
        refine DR.stepV [_,_,_,_,_,_,_,_,_] rfl [(6,_,none)] rfl rfl ⟨⟨rfl,by kernel_rfl⟩,trivial⟩ (fun ext=>TL.move hF rfl rfl TL.fin) ?_
        refine DR.stepV [_,_,_,_,_,_,_,_,_,_] rfl [(50,_,some 7),(51,_,some 8)] rfl rfl ⟨⟨rfl,rfl,rfl⟩,⟨rfl,rfl,rfl⟩,trivial⟩ (fun ext=>TL.indexAddr hF rfl rfl (rr_ad hr hil) (by first | omega | (dsimp only; omega)) (by first | omega | (dsimp only; omega)) rfl TL.fin) ?_
        refine DR.stepV [_,_,_,_,_,_,_,_,_,_,_] rfl [(52,_,some 9)] rfl rfl ⟨⟨rfl,rfl,rfl⟩,trivial⟩ (fun ext=>TL.fieldAddr hF rfl rfl TL.fin) ?_
        refine DR.stepV [_,_,_,_,_,_,_,_,_,_,_,_] rfl [(53,_,some 10)] rfl rfl ⟨⟨rfl,rfl,rfl⟩,trivial⟩ (fun ext=>TL.load hF rfl (rr_at (hr.up (fun _ hs=>List.mem_cons_of_mem _ (List.mem_cons_of_mem _ (List.mem_cons_of_mem _ (hs))))) hil 1 _ rfl) rfl TL.fin) ?_
        refine DR.stepV [_,_,_,_,_,_,_,_,_,_,_,_,_] rfl [(44,_,some 1),(45,_,some 2),(49,_,some 6),(54,_,some 11)] rfl rfl ⟨⟨rfl,rfl,rfl⟩,⟨rfl,rfl,rfl⟩,⟨rfl,rfl,rfl⟩,⟨rfl,rfl,rfl⟩,trivial⟩ (fun ext=>TL.callV hF (wordR_fn (s:=s) (w:=(winsS s l l[i])[k]) (key:=l[i].key) (hr.up (fun _ hs=>List.mem_cons_of_mem _ (List.mem_cons_of_mem _ (List.mem_cons_of_mem _ (hs))))) (by omega) hfo hq.ws (by omega)) rfl rfl TL.fin) ?_
        refine DR.done [(55,_),(54,_),(53,_),(52,_),(51,_),(50,_),(49,_),(48,_),(47,_),(46,_),(45,_),(44,_),(43,_)] [_,_] mixed (by kernel_rfl) (by kernel_rfl) (by kernel_rfl) rfl rfl ?_
        have hst:=outs_step (s:=s) (l:=l) (r:=l[i]) hkl (allTo s l i)
        refine TL.call hF (putR_fn (x:=outS s l l[i].key (winsS s l l[i])[k]) (hp.row (η:=pg::wg::[(b2,Obj.cells (wsC s).toArray 23 (0,0))]::η) (by simp)) (by omega)) rfl rfl ?_
        rintro _ _ ⟨na,nc,ng,rfl,hn,rfl⟩
        have hnl:=putS_len (outS s l l[i].key (winsS s l l[i])[k]) (((outsOf s l l[i]).take k).foldl (fun o x=>putS x o) (allTo s l i))
        rw [← hst] at hn hnl ⊢
        refine TL.assign hF rfl rfl ?_
        refine TL.nil ?_
        refine TQ.block_n ?_
        refine TQ.then_n ?_
        refine T.region ?_
        refine TL.move hF rfl rfl ?_
        refine TL.add hF rfl rfl (by first | omega | (dsimp only; omega)) (by first | omega | (dsimp only; omega)) rfl ?_
        refine TL.assign hF rfl rfl ?_
        refine TL.nil ?_
        refine TQ.hperm (pg::ng::wg::[(b2,Obj.cells (wsC s).toArray 23 (0,0))]::η) (List.Perm.swap _ _ _) ?_
        refine TQ.pop ?_
        exact TQ.round ⟨k+1,na,nc,ng⟩ ⟨hkl,by dsimp only; omega,hn⟩ (by dsimp only; omega) ⟨rfl,rfl,rfl,rfl,rfl,rfl,rfl,trivial⟩ rfl
      · refine T.exit ?_
        refine TQ.then_x ?_
        refine TQ.then_x ?_
        refine TQ.block_x ?_
        refine TQ.block_n ?_
        refine TQ.then_n ?_
        refine T.region ?_
        refine TL.move hF rfl rfl ?_
        refine TL.add hF rfl rfl (by first | omega | (dsimp only; omega)) (by first | omega | (dsimp only; omega)) rfl ?_
        refine TL.assign hF rfl rfl ?_
        refine TL.nil ?_
        have hke:(winsS s l l[i]).length≤k:=by have h:¬ (k:Int)<((winsS s l l[i]).length:Int):=ht40; omega
        have hte:(((outsOf s l l[i]).take k).foldl (fun o x=>putS x o) (allTo s l i))=allTo s l (i+1):=by
          rw [allTo_step hil,List.take_of_length_le (by unfold outsOf; rw [List.length_map]; exact hke)]
        rw [hte] at hp hpl
        refine TQ.hperm (wg::pg::[(b2,Obj.cells (wsC s).toArray 23 (0,0))]::η) (List.Perm.swap _ _ _) ?_
        refine TQ.pop ?_
        exact TQ.round ⟨i+1,pa,pc,pg⟩ ⟨hil,by dsimp only; omega,hp⟩ (by dsimp only; omega) ⟨rfl,rfl,rfl,by dsimp only; rw [hte]; rfl,rfl,trivial⟩ rfl
  · refine T.exit ?_
    refine TQ.then_x ?_
    refine TQ.then_x ?_
    refine TQ.block_x ?_
    refine TQ.then_n ?_
    refine T.seq ?_
    refine T.region ?_
    refine TL.move hF rfl rfl ?_
    refine TL.assign hF rfl rfl ?_
    refine TL.nil ?_
    refine TQ.then_n ?_
    refine T.ret ?_
    have hie:l.length≤i:=by have h:¬ (i:Int)<(l.length:Int):=ht13; omega
    rw [allTo_end hie] at ho ⊢
    refine TQ.hsub (og::η) (List.Sublist.cons_cons _ (List.sublist_cons_self _ _)) ?_
    exact TQ.rets [4] _ rfl rfl rfl ⟨oa,oc,og,rfl,ho,rfl⟩
end Go.Proofs.YtbajelldegijkaaDoor
/- The reference: Whole. -/
namespace Go.Proofs.YtbajelldegijkaaDoor
open Go.Sl
variable {S:Nat→Prop} {w0:World} {η:Heap}
theorem askd_of {s:Wsp} {l:List Rw} (h:askedS s l=0):Askd s l:=by
  unfold askedS at h
  by_cases h1:okS s=true
  · rw [if_pos h1] at h
    by_cases h2:300<l.length
    · rw [if_pos h2] at h; cases h
    · rw [if_neg h2] at h
      by_cases h3:l.all okR=true
      · exact ⟨h1,by omega,h3⟩
      · rw [if_neg h3] at h; cases h
  · rw [if_neg h1] at h; cases h
set_option maxHeartbeats 2000000 in
theorem WholeR_fn {s : Wsp} {a : Option Addr} {l : List Rw} {c : Nat} (hr : RRow S w0 η a l) (hl : l.length < 9223372036854775808) :
    Rt Tryd.prog 17 [wsV s,.slice a l.length c].toArray S w0 η (fun v η'=>∃ a cap segs,v = .tuple #[.slice a (wholeS s l).1.length cap,.int .i64 (wholeS s l).2]∧ORow S w0 segs a (wholeS s l).1∧η'=segs++η):=by
  have hF:=open_wide
  refine Rt.of (fn:=Tryd.f17) Tryd.func17 rfl rfl ?_
  refine T.seq ?_
  refine T.region ?_
  refine TL.box hF rfl rfl (fun b2=>?_)
  refine TL.assign hF rfl rfl ?_
  refine TL.assign hF rfl rfl ?_
  refine TL.nil ?_
  refine TQ.then_n ?_
  refine T.seq ?_
  refine T.seq ?_
  refine T.region ?_
  refine TL.loadA hF (wsC s) rfl rfl (own_list (i:=0) (cs:=wsC s) rfl) rfl ?_
  refine TL.move hF rfl rfl ?_
  refine TL.callV hF (askedR_fn (s:=s) (hr.up (fun _ hs=>List.mem_cons_of_mem _ hs)) hl) rfl rfl ?_
  refine TL.assign hF rfl rfl ?_
  refine TL.nil ?_
  refine TQ.then_n ?_
  refine T.seq ?_
  refine T.region ?_
  refine TL.move hF rfl rfl ?_
  refine TL.bin hF rfl rfl rfl rfl ?_
  refine TL.nil ?_
  refine TQ.then_n ?_
  refine T.cond _ rfl (fun ht11=>?_) (fun ht11=>?_)
  · refine T.seq ?_
    refine T.region ?_
    refine TL.move hF rfl rfl ?_
    refine TL.assign hF rfl rfl ?_
    refine TL.assign hF rfl rfl ?_
    refine TL.nil ?_
    refine TQ.then_n ?_
    refine T.ret ?_
    refine TQ.then_r ?_
    have ha:¬ askedS s l=0:=by simpa using ht11
    refine TQ.rets [4,5] _ rfl rfl rfl ?_
    have e:wholeS s l=([],askedS s l):=by unfold wholeS; rw [if_neg ha]
    rw [e]
    exact ⟨none,0,[_],rfl,Row.none,rfl⟩
  · refine T.skip ?_
    refine TQ.then_n ?_
    refine T.seq ?_
    refine T.region ?_
    refine TL.loadA hF (wsC s) rfl rfl (own_list (i:=0) (cs:=wsC s) rfl) rfl ?_
    refine TL.move hF rfl rfl ?_
    have ha:askedS s l=0:=by simpa using ht11
    refine TL.call hF (AllR_fn (s:=s) (hr.up (fun _ hs=>List.mem_cons_of_mem _ hs)) (askd_of ha)) rfl rfl ?_
    rintro _ _ ⟨oa,oc,og,rfl,ho,rfl⟩
    refine TL.assign hF rfl rfl ?_
    refine TL.assign hF rfl rfl ?_
    refine TL.nil ?_
    refine TQ.then_n ?_
    refine T.ret ?_
    refine TQ.rets [4,5] _ rfl rfl rfl ?_
    have e:wholeS s l=(allS s l,0):=by unfold wholeS; rw [if_pos ha]
    rw [e]
    exact ⟨oa,oc,[og,_],rfl,ho.row (by simp),rfl⟩
end Go.Proofs.YtbajelldegijkaaDoor
/- Leaves of the first laws: whether there are many rows; pairs compared. -/
namespace Go.Proofs.YtbajelldegijkaaDoor
open Go.Sl
variable {S:Nat→Prop} {w0:World} {η:Heap}
open Go in
theorem eqP2 (a b:Int × Int) (w:World):(Op.equal 36 (.agg (pC a).toArray) (.agg (pC b).toArray)).run Tryd.prog w = .ok (decide (a=b)) w:=by
 have hu:Tryd.prog.underlying 36=some (.array 2 3):=by kernel_rfl
 obtain ⟨i,hi⟩:=Option.isSome_iff_exists.1 (show (Tryd.prog.info? 3).isSome=true by kernel_rfl)
 have hk:Tryd.prog.cellsOf 3=1:=by kernel_rfl
 obtain ⟨a1,a2⟩:=a
 obtain ⟨b1,b2⟩:=b
 have hp:∀ (cs:Array Value) (o:Nat) (v:Value),cs[o]?=some v→(part 3 cs o).run Tryd.prog w = .ok v w:=by
  intro cs o v h
  simp [part,Ag.eq (P:=Tryd.prog) (t:=3) (b:=false),h]
 unfold Op.equal
 rw [show Op.maxDepth=9999+1 from rfl,run_equalIn_array w 9999 _ _ hu hi,hk]
 have r0:=run_equalIn_int w 9998 3 .i64 .i64 a1 b1 Tryd.underlying3
 have r1:=run_equalIn_int w 9998 3 .i64 .i64 a2 b2 Tryd.underlying3
 show (Op.eqItems 9999 3 1 (pC (a1,a2)).toArray (pC (b1,b2)).toArray [0,1]).run Tryd.prog w=_
 have pa0:=hp (pC (a1,a2)).toArray 0 (.int .i64 a1) rfl
 have pb0:=hp (pC (b1,b2)).toArray 0 (.int .i64 b1) rfl
 have pa1:=hp (pC (a1,a2)).toArray 1 (.int .i64 a2) rfl
 have pb1:=hp (pC (b1,b2)).toArray 1 (.int .i64 b2) rfl
 simp only [Op.eqItems,Sem.run_bind,Nat.zero_mul,Nat.one_mul,pa0,pb0,Result.andThen_ok,r0]
 by_cases h:a1=b1
 ·subst h
  by_cases g:a2=b2
  ·subst g
   simp [pa1,r1]
  ·simp [g,pa1,pb1,r1]
 ·simp [h]
theorem tdiv_bd {a b:Int} (hb:0<b) (h1 : -9223372036854775808≤a) (h2:a≤9223372036854775807) : -9223372036854775808≤Int.tdiv a b∧Int.tdiv a b≤9223372036854775807:=by
  rcases Int.le_total 0 a with h | h
  · rw [Int.tdiv_eq_ediv_of_nonneg h]
    have:=Int.ediv_nonneg h (show 0≤b by omega)
    have:=Int.ediv_le_self b h
    omega
  · have e:Int.tdiv a b = -((-a) / b):=by
      rw [← Int.tdiv_eq_ediv_of_nonneg (show 0 ≤ -a by omega),Int.neg_tdiv,Int.neg_neg]
    rw [e]
    have:=Int.ediv_nonneg (show 0 ≤ -a by omega) (show 0≤b by omega)
    have:=Int.ediv_le_self b (show 0 ≤ -a by omega)
    omega
set_option maxHeartbeats 2000000 in
theorem many_fn {s : Wsp} {a : Option Addr} {l : List Rw} {c : Nat} (hz : -9223372036854775808 ≤ s.size ∧ s.size ≤ 9223372036854775807) :
  Rt Tryd.prog 12 [wsV s,.slice a l.length c].toArray S w0 η (fun v η'=>(∃ b:Bool,v = .bool b)∧η'=η):=by
 have hF:=open_wide
 refine Rt.of (fn:=Tryd.f12) Tryd.func12 rfl rfl ?_
 refine T.seq ?_
 refine T.region ?_
 refine TL.box hF rfl rfl (fun b2=>?_)
 refine TL.assign hF rfl rfl ?_
 refine TL.nil ?_
 refine TQ.then_n ?_
 refine T.seq ?_
 refine T.region ?_
 refine TL.move hF rfl rfl ?_
 refine TL.len hF rfl rfl ?_
 refine TL.callV hF (Lies_fn (l.length:Int) 41 300) rfl rfl ?_
 refine TL.move hF rfl rfl ?_
 refine TL.join [_,_,_,_,_,_,_,_,_,_,_,_,_,_,_,_,_] 25 (.bool ((decide (41≤(l.length:Int)) && decide ((l.length:Int)≤300)) || ((decide (s.kind=0) && decide (0<s.step)) && decide (60<Int.tdiv s.size s.step)))) rfl ?_ ?_
 ·refine TL.gb (t:=8) rfl (fun g1_8=>?_) (fun g1_8=>?_)
  ·refine TL.off hF rfl rfl rfl g1_8 rfl ?_
   refine TL.off hF rfl rfl rfl g1_8 rfl ?_
   refine TL.off hF rfl rfl rfl g1_8 rfl ?_
   refine TL.off hF rfl rfl rfl g1_8 rfl ?_
   refine TL.offU hF rfl rfl rfl rfl ?_
   refine TL.offU hF rfl rfl rfl rfl ?_
   refine TL.offU hF rfl rfl rfl rfl ?_
   refine TL.off hF rfl rfl rfl g1_8 rfl ?_
   refine TL.off hF rfl rfl rfl g1_8 rfl ?_
   refine TL.offU hF rfl rfl rfl rfl ?_
   refine TL.offU hF rfl rfl rfl rfl ?_
   refine TL.offU hF rfl rfl rfl rfl ?_
   refine TL.offU hF rfl rfl rfl rfl ?_
   refine TL.offU hF rfl rfl rfl rfl ?_
   refine TL.offU hF rfl rfl rfl rfl ?_
   refine TL.off hF rfl rfl rfl g1_8 rfl ?_
   refine TL.pickT hF rfl g1_8 rfl rfl ?_
   refine TL.finJ ⟨?_,by repeat (first | exact trivial | refine ⟨rfl,?_⟩)⟩
   exact congrArg (fun z=>some (Value.bool z)) (by first | (rw [g1_8]; rfl) | (rw [g1_8]; simp; done) | (simp [*]; done))
  ·refine TL.on rfl rfl rfl g1_8 ?_
   refine TL.fieldAddr hF rfl rfl ?_
   refine TL.on rfl rfl rfl g1_8 ?_
   refine TL.load hF rfl (show At _ _ _ _ (.int .i64 s.kind) from own_mem (b:=b2) (cs:=(wsV s).cells) (e:=23) (fz:=(0,0)) (by simp) rfl) rfl ?_
   refine TL.on rfl rfl rfl g1_8 ?_
   refine TL.bin hF rfl rfl rfl rfl ?_
   refine TL.on rfl rfl rfl g1_8 ?_
   refine TL.move hF rfl rfl ?_
   refine TL.join [_,_,_,_] 16 (.bool (decide (s.kind=0) && decide (0<s.step))) rfl ?_ ?_
   ·refine TL.gd (t:=12) rfl (fun g1_12=>?_) (fun g1_12=>?_)
    ·refine TL.on rfl rfl rfl (decide_eq_true g1_12) ?_
     refine TL.fieldAddr hF rfl rfl ?_
     refine TL.on rfl rfl rfl (decide_eq_true g1_12) ?_
     refine TL.load hF rfl (show At _ _ _ _ (.int .i64 s.step) from own_mem (b:=b2) (cs:=(wsV s).cells) (e:=23) (fz:=(0,0)) (by simp) rfl) rfl ?_
     refine TL.on rfl rfl rfl (decide_eq_true g1_12) ?_
     refine TL.bin hF rfl rfl rfl rfl ?_
     refine TL.on rfl rfl rfl g1_8 ?_
     refine TL.pickT hF rfl (decide_eq_true g1_12) rfl rfl ?_
     refine TL.finJ ⟨?_,by repeat (first | exact trivial | refine ⟨rfl,?_⟩)⟩
     exact congrArg (fun z=>some (Value.bool z)) (by first | (rw [(decide_eq_true g1_12)]; rfl) | (rw [(decide_eq_true g1_12)]; simp; done) | (simp [*]; done))
    ·refine TL.off hF rfl rfl rfl (decide_eq_false g1_12) rfl ?_
     refine TL.off hF rfl rfl rfl (decide_eq_false g1_12) rfl ?_
     refine TL.off hF rfl rfl rfl (decide_eq_false g1_12) rfl ?_
     refine TL.on rfl rfl rfl g1_8 ?_
     refine TL.pickF hF rfl (decide_eq_false g1_12) rfl rfl ?_
     refine TL.finJ ⟨?_,by repeat (first | exact trivial | refine ⟨rfl,?_⟩)⟩
     exact congrArg (fun z=>some (Value.bool z)) (by first | (rw [(decide_eq_false g1_12)]; rfl) | (rw [(decide_eq_false g1_12)]; simp; done) | (simp [*]; done))
   ·refine TL.on rfl rfl rfl g1_8 ?_
    refine TL.move hF rfl rfl ?_
    refine TL.join [_,_,_,_,_,_,_] 24 (.bool ((decide (s.kind=0) && decide (0<s.step)) && decide (60<Int.tdiv s.size s.step))) rfl ?_ ?_
    ·refine TL.gb (t:=17) rfl (fun g1_17=>?_) (fun g1_17=>?_)
     ·refine TL.on rfl rfl rfl g1_17 ?_
      refine TL.fieldAddr hF rfl rfl ?_
      refine TL.on rfl rfl rfl g1_17 ?_
      refine TL.load hF rfl (show At _ _ _ _ (.int .i64 s.size) from own_mem (b:=b2) (cs:=(wsV s).cells) (e:=23) (fz:=(0,0)) (by simp) rfl) rfl ?_
      refine TL.on rfl rfl rfl g1_17 ?_
      refine TL.fieldAddr hF rfl rfl ?_
      refine TL.on rfl rfl rfl g1_17 ?_
      refine TL.load hF rfl (show At _ _ _ _ (.int .i64 s.step) from own_mem (b:=b2) (cs:=(wsV s).cells) (e:=23) (fz:=(0,0)) (by simp) rfl) rfl ?_
      refine TL.on rfl rfl rfl g1_17 ?_
      have hsp:0<s.step:=by simp only [Bool.and_eq_true,decide_eq_true_eq] at g1_17; exact g1_17.2
      refine TL.quoI hF rfl rfl (by omega) (r:=Int.tdiv s.size s.step) (wrap_i64 (tdiv_bd hsp hz.1 hz.2).1 (tdiv_bd hsp hz.1 hz.2).2) rfl ?_
      refine TL.on rfl rfl rfl g1_17 ?_
      refine TL.bin hF rfl rfl rfl rfl ?_
      refine TL.on rfl rfl rfl g1_8 ?_
      refine TL.pickT hF rfl g1_17 rfl rfl ?_
      refine TL.finJ ⟨?_,by repeat (first | exact trivial | refine ⟨rfl,?_⟩)⟩
      exact congrArg (fun z=>some (Value.bool z)) (by first | (rw [g1_17]; rfl) | (rw [g1_17]; simp; done) | (simp [*]; done))
     ·refine TL.off hF rfl rfl rfl g1_17 rfl ?_
      refine TL.off hF rfl rfl rfl g1_17 rfl ?_
      refine TL.off hF rfl rfl rfl g1_17 rfl ?_
      refine TL.off hF rfl rfl rfl g1_17 rfl ?_
      refine TL.off hF rfl rfl rfl g1_17 rfl ?_
      refine TL.off hF rfl rfl rfl g1_17 rfl ?_
      refine TL.on rfl rfl rfl g1_8 ?_
      refine TL.pickF hF rfl g1_17 rfl rfl ?_
      refine TL.finJ ⟨?_,by repeat (first | exact trivial | refine ⟨rfl,?_⟩)⟩
      exact congrArg (fun z=>some (Value.bool z)) (by first | (rw [g1_17]; rfl) | (rw [g1_17]; simp; done) | (simp [*]; done))
    ·refine TL.pickF hF rfl g1_8 rfl rfl ?_
     refine TL.finJ ⟨?_,by repeat (first | exact trivial | refine ⟨rfl,?_⟩)⟩
     exact congrArg (fun z=>some (Value.bool z)) (by first | (rw [g1_17]; rfl) | (rw [g1_17]; simp; done) | (simp [*]; done))
 ·refine TL.assign hF rfl rfl ?_
  refine TL.nil ?_
  refine TQ.then_n ?_
  refine T.ret ?_
  refine TQ.pop ?_
  exact TQ.rets [4] _ rfl rfl rfl ⟨⟨_,rfl⟩,rfl⟩
end Go.Proofs.YtbajelldegijkaaDoor
/- A way to cut, and five numbers, as arguments. -/
namespace Go.Proofs.YtbajelldegijkaaDoor
open Go.Sl Go.ChangeShapes Go.WideShapes Go.ChangeAt Go.Deep Go.RowKit
set_option maxRecDepth 100000
section
variable {H:Type} {enc:TypeId × Value→H} {W:World} {base:Nat}
theorem kSpec:Tryd.prog.cellsOf 23=5:=by kernel_rfl
theorem uSpec:∃ fs,Tryd.prog.underlying 23=some (.struct fs):=⟨_,(show Tryd.prog.underlying 23=Tryd.prog.underlying 22 from by kernel_rfl).trans Tryd.underlying22⟩
def I64s (s:Wsp):Prop:=(-9223372036854775808≤s.kind∧s.kind≤9223372036854775807)∧(-9223372036854775808≤s.size∧s.size≤9223372036854775807)∧(-9223372036854775808≤s.step∧s.step≤9223372036854775807)∧(-9223372036854775808≤s.late∧s.late≤9223372036854775807)∧(-9223372036854775808≤s.fold∧s.fold≤9223372036854775807)
theorem spec_open {v:Value} {d:DataW H} {ps:List MemPlace} (hval:Value.okWide Tryd.prog W .any base 23 v) (h:DataW.Trod enc Tryd.prog W 0 (fun _=>true) true 23 v d ps):∃ s:Wsp,v=wsV s∧I64s s:=by
  obtain ⟨fs,hu⟩:=uSpec
  obtain ⟨cs,rfl,_⟩:=okWide_struct hu hval
  obtain ⟨fuel,hf⟩:=h
  obtain ⟨n,hl,hff⟩:=struct_read (l:=[(3,0),(3,1),(3,2),(3,3),(3,4)]) (by kernel_rfl) hf
  rw [kSpec] at hl
  have hl2:cs.toList.length=5:=hl
  obtain ⟨c0,c1,c2,c3,c4,e⟩:=list5 hl2
  have hcs:cs = #[c0,c1,c2,c3,c4]:=by rw [← Array.toArray_toList (xs:=cs),e]
  subst hcs
  obtain ⟨y0,h0⟩:=hff 0 3 0 rfl
  obtain ⟨y1,h1⟩:=hff 1 3 1 rfl
  obtain ⟨y2,h2⟩:=hff 2 3 2 rfl
  obtain ⟨y3,h3⟩:=hff 3 3 3 rfl
  obtain ⟨y4,h4⟩:=hff 4 3 4 rfl
  rw [k3] at h0 h1 h2 h3 h4
  obtain ⟨z0,e0,_,w0⟩:=DataW.trod_int u3 h0
  obtain ⟨z1,e1,_,w1⟩:=DataW.trod_int u3 h1
  obtain ⟨z2,e2,_,w2⟩:=DataW.trod_int u3 h2
  obtain ⟨z3,e3,_,w3⟩:=DataW.trod_int u3 h3
  obtain ⟨z4,e4,_,w4⟩:=DataW.trod_int u3 h4
  have f0:c0 = .int .i64 z0:=List.singleton_inj.1 e0
  have f1:c1 = .int .i64 z1:=List.singleton_inj.1 e1
  have f2:c2 = .int .i64 z2:=List.singleton_inj.1 e2
  have f3:c3 = .int .i64 z3:=List.singleton_inj.1 e3
  have f4:c4 = .int .i64 z4:=List.singleton_inj.1 e4
  subst f0 f1 f2 f3 f4
  exact ⟨⟨z0,z1,z2,z3,z4⟩,rfl,wf_i64 w0,wf_i64 w1,wf_i64 w2,wf_i64 w3,wf_i64 w4⟩
end
end Go.Proofs.YtbajelldegijkaaDoor
