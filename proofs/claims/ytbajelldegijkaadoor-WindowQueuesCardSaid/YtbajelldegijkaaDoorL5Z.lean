/- Queue's words are what the chapter says, and it joins at most three times for each operation, for every input. No condition. -/
import Derived.Test.YtbajelldegijkaaDoorVc
import Derived.Test.YtbajelldegijkaaDoorVg
import Derived.Test.YtbajelldegijkaaDoorVf
import Derived.Test.YtbajelldegijkaaDoorVi
import Derived.Test.YtbajelldegijkaaDoorCards
import Derived.Test.YtbajelldegijkaaDoorTie
/- Queues that keep so many words at a time. -/
namespace Go.Proofs.YtbajelldegijkaaDoor
def offs (m i:Nat):List Int:=if m≤i then [-2147483649] else []
/-- The operations ahead of the word i. -/
def rollTo (m:Nat) (ws:List Int):Nat→List Int
  | 0=>[]
  | i+1=>rollTo m ws i++offs m i++[ws.getD i 0]
def rollAt (m:Nat) (ws:List Int) (i:Nat):Nat:=(rollTo m ws i++offs m i).length
theorem offs_len (m i:Nat):(offs m i).length≤1:=by unfold offs; split <;> simp
theorem roll_len (m:Nat) (ws:List Int):∀ i,(rollTo m ws i).length≤2*i
  | 0=>by simp [rollTo]
  | i+1=>by
    have:=roll_len m ws i
    have:=offs_len m i
    simp only [rollTo,List.length_append,List.length_singleton]; omega
theorem roll_at (m:Nat) (ws:List Int) (i:Nat):rollAt m ws i+1=(rollTo m ws (i+1)).length:=by
  unfold rollAt; simp only [rollTo,List.length_append,List.length_singleton]
theorem roll_pre (m:Nat) (ws:List Int) (i:Nat):∀ n,i≤n→rollTo m ws i <+: rollTo m ws n
  | 0,h=>by rw [Nat.le_zero.1 h]; exact List.prefix_refl _
  | n+1,h=>by
    rcases Nat.lt_or_ge i (n+1) with h1 | h1
    · exact (roll_pre m ws i n (by omega)).trans (by rw [rollTo,List.append_assoc]; exact List.prefix_append _ _)
    · rw [show i=n+1 by omega]; exact List.prefix_refl _
theorem queAll_app (q a b:List Int):queAll q (a++b)=queAll (queAll q a) b:=by unfold queAll; rw [List.foldl_append]
theorem roll_que {m:Nat} {ws:List Int} (hm:1≤m) (hw:∀ w∈ws,Wd w):∀ i,i≤ws.length→queAll [] (rollTo m ws i)=(ws.take i).drop (i - m)
  | 0,_=>by simp [rollTo,queAll]
  | i+1,h=>by
    have hd:ws.getD i 0=ws[i]:=by rw [List.getD_eq_getElem?_getD,List.getElem?_eq_getElem (by omega)]; rfl
    have hne:ws[i] ≠ -2147483649:=by
      have:=hw _ (List.getElem_mem (show i<ws.length by omega))
      unfold Wd at this; omega
    have key:queAll (queAll [] (rollTo m ws i)) (offs m i)=(ws.take i).drop (i+1 - m):=by
      rw [roll_que hm hw i (by omega)]
      unfold offs
      split
      · show queAll _ [-2147483649]=_
        have e:∀ q:List Int,queAll q [-2147483649]=q.drop 1:=fun q=>by simp [queAll,queS]
        rw [e,List.drop_drop,show i - m+1=i+1 - m by omega]
      · have e:∀ q:List Int,queAll q []=q:=fun q=>by simp [queAll]
        rw [e,show i - m=i+1 - m by omega]
    rw [rollTo,queAll_app,queAll_app,key,hd]
    have e:∀ (q:List Int) (n:Int),queAll q [n]=queS q n:=fun q n=>by simp [queAll]
    rw [e]
    unfold queS
    rw [if_neg hne,List.take_succ_eq_append_getElem (by omega),List.drop_append_of_le_length (by rw [List.length_take]; omega)]
theorem queWords_at {f:Int}:∀ {ops q:List Int} {j:Nat} (h:j<(queWords f q ops).length),(queWords f q ops)[j]=foldS f (queAll q (ops.take (j+1)))
  | [],_,_,h=>by simp [queWords] at h
  | n::r,q,0,h=>rfl
  | n::r,q,j+1,h=>by
    simp only [queWords,List.getElem_cons_succ]
    rw [queWords_at]
    rfl
theorem roll_word {f:Int} {m:Nat} {ws:List Int} (hm:1≤m) (hw:∀ w∈ws,Wd w) {i:Nat} (hi:i<ws.length) (h:rollAt m ws i<(queWords f [] (rollTo m ws ws.length)).length):(queWords f [] (rollTo m ws ws.length))[rollAt m ws i]=foldS f ((ws.take (i+1)).drop (i+1 - m)):=by
  rw [queWords_at,roll_at]
  have e:(rollTo m ws ws.length).take (rollTo m ws (i+1)).length=rollTo m ws (i+1):=(List.prefix_iff_eq_take.1 (roll_pre m ws (i+1) ws.length (by omega))).symm
  rw [e,roll_que hm hw (i+1) (by omega)]
theorem roll_ok {m:Nat} {ws:List Int} (hw:∀ w∈ws,Wd w):∀ i,i≤ws.length→∀ n∈rollTo m ws i,okOp n=true
  | 0,_,n,h=>by simp [rollTo] at h
  | i+1,hi,n,h=>by
    have hd:ws.getD i 0=ws[i]:=by rw [List.getD_eq_getElem?_getD,List.getElem?_eq_getElem (by omega)]; rfl
    rw [rollTo,List.mem_append,List.mem_append,List.mem_singleton,hd] at h
    rcases h with (h | h) | h
    · exact roll_ok hw i (by omega) n h
    · unfold offs at h
      split at h
      · rw [List.mem_singleton.1 h]; rfl
      · simp at h
    · rw [h]
      have:=hw _ (List.getElem_mem (show i<ws.length by omega))
      unfold okOp
      rw [isW_iff.2 this]; rfl
/-- What is wanted, so far: the count at once, or the words up to k made together. -/
def wantTo (f:Int) (ws:List Int) (m i k:Nat):Int:=if f=0 then ((i+1 - (i+1 - m):Nat):Int) else foldS f ((ws.take k).drop (i+1 - m))
theorem want_start {f:Int} {ws:List Int} {m i:Nat} (hf:f≠0):wantTo f ws m i (i+1 - m)=noneF f:=by
  unfold wantTo
  rw [if_neg hf,List.drop_eq_nil_of_le (by rw [List.length_take]; omega)]; rfl
theorem want_step {f:Int} {ws:List Int} {m i k:Nat} (hw:∀ w∈ws,Wd w) (hk:k<ws.length) (h:i+1 - m≤k) (hf:f≠0):wantTo f ws m i (k+1)=twoF f (wantTo f ws m i k) ws[k]:=by
  unfold wantTo
  rw [if_neg hf,if_neg hf,List.take_succ_eq_append_getElem hk,List.drop_append_of_le_length (by rw [List.length_take]; omega),fold_snoc (fun w h=>hw w (List.mem_of_mem_take (List.mem_of_mem_drop h))) (hw _ (List.getElem_mem hk))]
  unfold oneF
  rw [if_neg hf]
theorem want_end {f:Int} {ws:List Int} {m i:Nat} (hi:i<ws.length) (hl:ws.length<2147483648):wantTo f ws m i (i+1)=foldS f ((ws.take (i+1)).drop (i+1 - m)):=by
  unfold wantTo
  split
  · rename_i h
    rw [h,fold_count (by rw [List.length_drop,List.length_take]; omega),List.length_drop,List.length_take,Nat.min_eq_left (by omega)]
  · rfl
end Go.Proofs.YtbajelldegijkaaDoor
/- The reference: Queue, walked. -/
namespace Go.Proofs.YtbajelldegijkaaDoor
open Go.Sl
variable {S:Nat→Prop} {w0:World} {η:Heap}
theorem OSx.cap {e:TypeId} {sz n cap:Nat} {a:Option Addr} {xs:List Value} {seg:Seg} (h:OSx e sz (.slice a n cap) n xs seg):n≤cap:=by
  rcases h.2 with ⟨hv,hn,_⟩ | ⟨g,o,cap',cur,hv,_,hnc,_,_⟩
  · omega
  · simp only [Value.slice.injEq] at hv
    omega
theorem que_wd:∀ {ops q:List Int},(∀ n∈ops,okOp n=true)→(∀ w∈q,Wd w)→∀ w∈queAll q ops,Wd w
  | [],_,_,hq=>hq
  | n::r,q,ho,hq=>by
    have hn:=ho n (by simp)
    have key:∀ w∈queS q n,Wd w:=fun w hw=>by
      unfold queS at hw
      split at hw
      · exact hq w (List.mem_of_mem_drop hw)
      · rename_i hne
        rcases List.mem_append.1 hw with h | h
        · exact hq w h
        · rw [List.mem_singleton.1 h]
          unfold okOp at hn
          rw [decide_eq_false hne,Bool.or_false] at hn
          exact isW_iff.1 hn
    show ∀ w∈queAll (queS q n) r,Wd w
    exact que_wd (ops:=r) (fun m hm=>ho m (List.mem_cons_of_mem _ hm)) key
theorem queS_len (q:List Int) (n:Int):(queS q n).length≤q.length+1:=by
  unfold queS; split <;> simp
  omega
theorem queAll_le:∀ (ops q:List Int),(queAll q ops).length≤q.length+ops.length
  | [],q=>Nat.le_refl _
  | n::r,q=>by
    have h1:=queAll_le r (queS q n)
    have h2:=queS_len q n
    have e:queAll q (n::r)=queAll (queS q n) r:=rfl
    rw [e,List.length_cons]; omega
theorem queAll_step {ops:List Int} {i:Nat} (h:i<ops.length):queAll [] (ops.take (i+1))=queS (queAll [] (ops.take i)) ops[i]:=by
  rw [List.take_succ_eq_append_getElem h,queAll_snoc]
theorem queWords_step {f:Int} {ops:List Int} {i:Nat} (h:i<ops.length):queWords f [] (ops.take (i+1))=queWords f [] (ops.take i)++[foldS f (queAll [] (ops.take (i+1)))]:=by
  rw [queAll_step h,List.take_succ_eq_append_getElem h,queWords_snoc]
structure QR where
  i:Nat
  a:Option Addr
  c:Nat
  g:Seg
  qa:Option Addr
  qc:Nat
  qg:Seg
set_option maxHeartbeats 8000000 in
theorem QueueR_fn {f : Int} {a : Option Addr} {ops : List Int} {c : Nat} (hx : Row S w0 η a (ints ops)) (hl : ops.length < 9223372036854775808) :
    Rt Tryd.prog 24 [.int .i64 f,.slice a ops.length c].toArray S w0 η (fun v η'=>∃ la lc segs,v = .tuple #[.slice la (queueS f ops).1.length lc,.int .i64 (queueS f ops).2]∧Row S w0 segs la (ints (queueS f ops).1)∧η'=segs++η):=by
  have hF:=open_wide
  refine Rt.of (fn:=Tryd.f24) Tryd.func24 rfl rfl ?_
  refine T.seq ?_
  refine T.region ?_
  refine TL.assign hF rfl rfl ?_
  refine TL.assign hF rfl rfl ?_
  refine TL.nil ?_
  refine TQ.then_n ?_
  refine T.seq ?_
  refine T.seq ?_
  refine T.region ?_
  refine TL.move hF rfl rfl ?_
  refine TL.callV hF (Lies_fn f 0 3) rfl rfl ?_
  refine TL.not hF rfl rfl ?_
  refine TL.nil ?_
  refine TQ.then_n ?_
  refine T.cond _ rfl (fun ht12=>?_) (fun ht12=>?_)
  · refine T.seq ?_
    refine T.region ?_
    refine TL.assign hF rfl rfl ?_
    refine TL.assign hF rfl rfl ?_
    refine TL.nil ?_
    refine TQ.then_n ?_
    refine T.ret ?_
    refine TQ.then_r ?_
    have h9:(!(decide (0≤f) && decide (f≤3)))=true:=ht12
    have e:queueS f ops=([],1):=by unfold queueS; rw [if_neg (by intro h; simp [h] at h9)]
    rw [e]
    exact TQ.rets [4,5] _ rfl rfl rfl ⟨none,0,[],rfl,Row.none,rfl⟩
  · refine T.skip ?_
    refine TQ.then_n ?_
    refine T.seq ?_
    refine T.seq ?_
    refine T.region ?_
    refine TL.move hF rfl rfl ?_
    refine TL.len hF rfl rfl ?_
    refine TL.bin hF rfl rfl rfl rfl ?_
    refine TL.nil ?_
    refine TQ.then_n ?_
    refine T.cond_d rfl (fun ht15=>?_) (fun ht15=>?_)
    · refine T.seq ?_
      refine T.region ?_
      refine TL.assign hF rfl rfl ?_
      refine TL.assign hF rfl rfl ?_
      refine TL.nil ?_
      refine TQ.then_n ?_
      refine T.ret ?_
      refine TQ.then_r ?_
      have hf:0≤f∧f≤3:=by
        have h9:(!(decide (0≤f) && decide (f≤3)))=false:=ht12
        simpa using h9
      have e:queueS f ops=([],3):=by unfold queueS; rw [if_pos hf,if_pos (by omega)]
      rw [e]
      exact TQ.rets [4,5] _ rfl rfl rfl ⟨none,0,[],rfl,Row.none,rfl⟩
    · refine T.skip ?_
      refine TQ.then_n ?_
      refine T.seq ?_
      refine T.seq ?_
      refine T.region ?_
      refine TL.assign hF rfl rfl ?_
      refine TL.nil ?_
      refine TQ.then_n ?_
      refine T.block ?_
      have hf:0≤f∧f≤3:=by
        have h9:(!(decide (0≤f) && decide (f≤3)))=false:=ht12
        simpa using h9
      refine T.loop (ι:=Nat) (fun i=>i≤ops.length∧∀ n∈ops.take i,okOp n=true) (fun i=>[(0,.int .i64 f),(1,.slice a ops.length c),(4,.slice none 0 0),(5,.int .i64 0),(6,.int .i64 (i:Int))]) (fun _=>η) (fun i=>ops.length - i) 0 ⟨Nat.zero_le _,by simp⟩ ⟨rfl,rfl,rfl,rfl,rfl,trivial⟩ rfl ?_
      rintro i ⟨hi,hok⟩
      refine T.seq ?_
      refine T.seq ?_
      refine T.region ?_
      refine TL.move hF rfl rfl ?_
      refine TL.move hF rfl rfl ?_
      refine TL.len hF rfl rfl ?_
      refine TL.bin hF rfl rfl rfl rfl ?_
      refine TL.nil ?_
      refine TQ.then_n ?_
      first | refine T.cond_d rfl (fun ht19=>?_) (fun ht19=>?_) | refine T.cond _ rfl (fun ht19=>?_) (fun ht19=>?_)
      · refine T.skip ?_
        refine TQ.then_n ?_
        refine T.seq ?_
        refine T.block ?_
        refine T.seq ?_
        refine T.region ?_
        have hil:i<ops.length:=by have h:(i:Int)<(ops.length:Int):=ht19; omega
        refine TL.move hF rfl rfl ?_
        refine TL.move hF rfl rfl ?_
        refine TL.indexAddr hF rfl rfl (hx.ad (by unfold ints; rw [List.length_map]; omega)) (by omega) (by omega) rfl ?_
        refine TL.load hF rfl (ints_at (hx.up (fun _ hs=>by simp [hs])) (n:=(i:Int)) (i:=i) (by omega) (by omega) hil) rfl ?_
        refine TL.callV hF (IsWord_fn ops[i]) rfl rfl ?_
        refine TL.not hF rfl rfl ?_
        refine TL.move hF rfl rfl ?_
        refine TL.join [_,_,_,_,_,_] 34 (.bool (!(isW ops[i]) && decide (ops[i] ≠ -2147483649))) rfl ?_ ?_
        · refine TL.gb (t:=28) rfl (fun g8_28=>?_) (fun g8_28=>?_)
          · refine TL.on rfl rfl rfl g8_28 ?_
            refine TL.move hF rfl rfl ?_
            refine TL.on rfl rfl rfl g8_28 ?_
            refine TL.move hF rfl rfl ?_
            refine TL.on rfl rfl rfl g8_28 ?_
            refine TL.indexAddr hF rfl rfl (hx.ad (by unfold ints; rw [List.length_map]; omega)) (by omega) (by omega) rfl ?_
            refine TL.on rfl rfl rfl g8_28 ?_
            refine TL.load hF rfl (ints_at (hx.up (fun _ hs=>by simp [hs])) (n:=(i:Int)) (i:=i) (by omega) (by omega) hil) rfl ?_
            refine TL.on rfl rfl rfl g8_28 ?_
            refine TL.bin hF rfl rfl rfl rfl ?_
            refine TL.pickT hF rfl g8_28 rfl rfl ?_
            refine TL.finJ ⟨?_,by repeat (first | exact trivial | refine ⟨rfl,?_⟩)⟩
            exact congrArg (fun z=>some (Value.bool z)) (by first | (rw [g8_28]; rfl) | (rw [g8_28]; simp; done) | (simp [*]; done))
          · refine TL.off hF rfl rfl rfl g8_28 rfl ?_
            refine TL.off hF rfl rfl rfl g8_28 rfl ?_
            refine TL.off hF rfl rfl rfl g8_28 rfl ?_
            refine TL.off hF rfl rfl rfl g8_28 rfl ?_
            refine TL.off hF rfl rfl rfl g8_28 rfl ?_
            refine TL.pickF hF rfl g8_28 rfl rfl ?_
            refine TL.finJ ⟨?_,by repeat (first | exact trivial | refine ⟨rfl,?_⟩)⟩
            exact congrArg (fun z=>some (Value.bool z)) (by first | (rw [g8_28]; rfl) | (rw [g8_28]; simp; done) | (simp [*]; done))
        · refine TL.nil ?_
          refine TQ.then_n ?_
          refine T.cond _ rfl (fun ht34=>?_) (fun ht34=>?_)
          · refine T.seq ?_
            refine T.region ?_
            refine TL.assign hF rfl rfl ?_
            refine TL.assign hF rfl rfl ?_
            refine TL.nil ?_
            refine TQ.then_n ?_
            refine T.ret ?_
            refine TQ.block_r ?_
            refine TQ.then_r ?_
            refine TQ.then_r ?_
            refine TQ.block_r ?_
            refine TQ.then_r ?_
            have h9:(!(isW ops[i]) && decide (ops[i] ≠ -2147483649))=true:=ht34
            have e:queueS f ops=([],2):=by
              unfold queueS
              rw [if_pos hf,if_neg (by omega),if_neg (fun h=>by
                have h8:=List.all_eq_true.1 h _ (List.getElem_mem hil)
                unfold okOp at h8
                rw [Bool.and_eq_true,decide_eq_true_eq,Bool.not_eq_true'] at h9
                rw [h9.1,decide_eq_false h9.2] at h8
                cases h8)]
            rw [e]
            exact TQ.rets [4,5] _ rfl rfl rfl ⟨none,0,[],rfl,Row.none,rfl⟩
          · refine T.skip ?_
            refine TQ.block_n ?_
            refine TQ.then_n ?_
            refine T.region ?_
            refine TL.move hF rfl rfl ?_
            refine TL.add hF rfl rfl (by first | omega | (dsimp only; omega)) (by first | omega | (dsimp only; omega)) rfl ?_
            refine TL.assign hF rfl rfl ?_
            refine TL.nil ?_
            refine TQ.round (i+1) ⟨hil,fun n hn=>?_⟩ (by omega) ⟨rfl,rfl,rfl,rfl,rfl,trivial⟩ rfl
            rw [List.take_succ_eq_append_getElem hil] at hn
            rcases List.mem_append.1 hn with h | h
            · exact hok n h
            · rw [List.mem_singleton.1 h]
              unfold okOp
              have h9:(!(isW ops[i]) && decide (ops[i] ≠ -2147483649))=false:=ht34
              cases hw:isW ops[i]
              · rw [hw] at h9; simpa using h9
              · rfl
      · refine T.exit ?_
        refine TQ.then_x ?_
        refine TQ.then_x ?_
        refine TQ.block_x ?_
        refine TQ.then_n ?_
        refine T.seq ?_
        refine T.region ?_
        have hie:ops.length≤i:=by have h:¬ (i:Int)<(ops.length:Int):=ht19; omega
        rw [List.take_of_length_le hie] at hok
        have hol:ops.length≤300:=by omega
        refine TL.buildSlice hF rfl (cs:=#[]) (e:=3) (fun w=>by kernel_rfl) rfl (fun b35=>?_)
        refine TL.buildSlice hF rfl (cs:=#[]) (e:=3) (fun w=>by kernel_rfl) rfl (fun b36=>?_)
        refine TL.assign hF rfl rfl ?_
        refine TL.assign hF rfl rfl ?_
        refine TL.nil ?_
        refine TQ.then_n ?_
        refine T.seq ?_
        refine T.seq ?_
        refine T.region ?_
        refine TL.assign hF rfl rfl ?_
        refine TL.nil ?_
        refine TQ.then_n ?_
        refine T.block ?_
        refine T.pick [1,0] [_,_] rfl rfl rfl ?_
        refine T.heap (η':=[(b35,Obj.cells #[] 3 (0,0))]::[(b36,Obj.cells #[] 3 (0,0))]::η) rfl ?_
        refine T.loop (ι:=QR) (fun z=>z.i≤ops.length∧OSl 3 1 (.slice z.a z.i z.c) z.i (ints (queWords f [] (ops.take z.i))) z.g∧OSx 3 1 (.slice z.qa (queAll [] (ops.take z.i)).length z.qc) (queAll [] (ops.take z.i)).length (ints (queAll [] (ops.take z.i))) z.qg) (fun z=>[(0,.int .i64 f),(1,.slice a ops.length c),(4,.slice none 0 0),(5,.int .i64 0),(7,.slice z.a z.i z.c),(8,.slice z.qa (queAll [] (ops.take z.i)).length z.qc),(9,.int .i64 (z.i:Int))]) (fun z=>z.g::z.qg::η) (fun z=>ops.length - z.i) ⟨0,some ⟨b35,0,none⟩,0,[(b35,Obj.cells #[] 3 (0,0))],some ⟨b36,0,none⟩,0,[(b36,Obj.cells #[] 3 (0,0))]⟩ ⟨Nat.zero_le _,osl_empty,osl_empty.x⟩ ⟨rfl,rfl,rfl,rfl,rfl,rfl,rfl,trivial⟩ rfl ?_
        rintro ⟨i,la,lc,lg,qa,qc,qg⟩ ⟨hi,hlo,hqo⟩
        dsimp only at hi hlo hqo
        have hqcap:=OSx.cap hqo
        have hql:=queAll_le (ops.take i) []
        rw [List.length_nil,Nat.zero_add,List.length_take] at hql
        refine T.seq ?_
        refine T.seq ?_
        refine T.region ?_
        refine TL.move hF rfl rfl ?_
        refine TL.move hF rfl rfl ?_
        refine TL.len hF rfl rfl ?_
        refine TL.bin hF rfl rfl rfl rfl ?_
        refine TL.nil ?_
        refine TQ.then_n ?_
        first | refine T.cond_d rfl (fun ht40=>?_) (fun ht40=>?_) | refine T.cond _ rfl (fun ht40=>?_) (fun ht40=>?_)
        · refine T.skip ?_
          refine TQ.then_n ?_
          refine T.seq ?_
          refine T.block ?_
          refine T.seq ?_
          refine T.seq ?_
          refine T.region ?_
          have hil:i<ops.length:=by have h:(i:Int)<(ops.length:Int):=ht40; omega
          have hst:=queAll_step hil
          have hq1l:=queAll_le (ops.take (i+1)) []
          rw [List.length_nil,Nat.zero_add,List.length_take] at hq1l
          have hq1w:∀ w∈(queAll [] (ops.take (i+1))),Wd w:=que_wd (fun n hn=>hok n (List.mem_of_mem_take hn)) (by simp)
          refine TL.move hF rfl rfl ?_
          refine TL.move hF rfl rfl ?_
          refine TL.indexAddr hF rfl rfl (hx.ad (by unfold ints; rw [List.length_map]; omega)) (by omega) (by omega) rfl ?_
          refine TL.load hF rfl (ints_at (hx.up (fun _ hs=>by simp [hs])) (n:=(i:Int)) (i:=i) (by omega) (by omega) hil) rfl ?_
          refine TL.bin hF rfl rfl rfl rfl ?_
          refine TL.nil ?_
          refine TQ.then_n ?_
          refine T.cond_d rfl (fun ht47=>?_) (fun ht47=>?_)
          · refine T.region ?_
            refine TL.move hF rfl rfl ?_
            refine TL.move hF rfl rfl ?_
            refine TL.move hF rfl rfl ?_
            refine TL.indexAddr hF rfl rfl (hx.ad (by unfold ints; rw [List.length_map]; omega)) (by omega) (by omega) rfl ?_
            refine TL.load hF rfl (ints_at (hx.up (fun _ hs=>by simp [hs])) (n:=(i:Int)) (i:=i) (by omega) (by omega) hil) rfl ?_
            refine TL.buildSlice hF rfl (cs:=#[.int .i64 ops[i]]) (e:=3) (fun w=>by kernel_rfl) rfl (fun bq=>?_)
            refine TL.appendX hF 2 rfl rfl rfl hqo (row_own (cs:=[.int .i64 ops[i]]) (e:=3) (b:=bq) (by simp)).src rfl rfl (by simp [Value.oneCell']) (by omega) (by omega) rfl (fun pa pc pg ph=>?_)
            have e1:(queAll [] (ops.take (i+1)))=(queAll [] (ops.take i))++[ops[i]]:=by rw [hst]; unfold queS; rw [if_neg ht47]
            have el:(queAll [] (ops.take i)).length+1=(queAll [] (ops.take (i+1))).length:=by rw [e1]; simp
            rw [el] at ph ⊢
            have hp:OSx 3 1 (.slice pa (queAll [] (ops.take (i+1))).length pc) (queAll [] (ops.take (i+1))).length (ints (queAll [] (ops.take (i+1)))) pg:=by
              have h9:ints (queAll [] (ops.take (i+1)))=ints (queAll [] (ops.take i))++[.int .i64 ops[i]]:=by rw [e1]; simp [ints]
              rw [h9]; exact ph
            refine TL.assign hF rfl rfl ?_
            refine TL.nil ?_
            refine TQ.then_n ?_
            refine T.region ?_
            refine TL.hsub (lg::pg::η) (List.sublist_cons_self _ _) ?_
            refine TL.move hF rfl rfl ?_
            refine TL.move hF rfl rfl ?_
            refine TL.move hF rfl rfl ?_
            refine TL.callV hF (Folded_fn (f:=f) (hp.row (by simp)) (by omega) hf hq1w) rfl rfl ?_
            refine TL.buildSlice hF rfl (cs:=#[.int .i64 (foldS f (queAll [] (ops.take (i+1))))]) (e:=3) (fun w=>by kernel_rfl) rfl (fun bw=>?_)
            refine TL.append hF 1 rfl rfl rfl hlo (row_own (cs:=[.int .i64 (foldS f (queAll [] (ops.take (i+1))))]) (e:=3) (b:=bw) (by simp)).src rfl rfl (by simp [Value.oneCell']) (by omega) (by omega) rfl (fun na nc ng nh=>?_)
            have hwi:ints (queWords f [] (ops.take (i+1)))=ints (queWords f [] (ops.take i))++[.int .i64 (foldS f (queAll [] (ops.take (i+1))))]:=by rw [queWords_step hil]; simp [ints]
            rw [← hwi] at nh
            refine TL.assign hF rfl rfl ?_
            refine TL.nil ?_
            refine TQ.block_n ?_
            refine TQ.then_n ?_
            refine T.region ?_
            refine TL.move hF rfl rfl ?_
            refine TL.add hF rfl rfl (by first | omega | (dsimp only; omega)) (by first | omega | (dsimp only; omega)) rfl ?_
            refine TL.assign hF rfl rfl ?_
            refine TL.nil ?_
            refine TQ.pop ?_
            exact TQ.round ⟨i+1,na,nc,ng,pa,pc,pg⟩ ⟨hil,nh,hp⟩ (by dsimp only; omega) ⟨rfl,rfl,rfl,rfl,rfl,rfl,rfl,trivial⟩ rfl
          · refine T.seq ?_
            refine T.region ?_
            refine TL.move hF rfl rfl ?_
            refine TL.len hF rfl rfl ?_
            refine TL.bin hF rfl rfl rfl rfl ?_
            refine TL.nil ?_
            refine TQ.then_n ?_
            refine T.cond_d rfl (fun ht57=>?_) (fun ht57=>?_)
            · refine T.region ?_
              refine TL.move hF rfl rfl ?_
              have hqp:0<(queAll [] (ops.take i)).length:=by have h:(0:Int)<((queAll [] (ops.take i)).length:Int):=ht57; omega
              refine TL.slice hF (i:=1) (j:=(queAll [] (ops.take i)).length) rfl rfl rfl (by omega) hqcap rfl ?_
              have e1:(queAll [] (ops.take (i+1)))=(queAll [] (ops.take i)).drop 1:=by rw [hst]; unfold queS; rw [if_pos (by omega)]
              have el:(queAll [] (ops.take i)).length - 1=(queAll [] (ops.take (i+1))).length:=by rw [e1]; simp
              have hp:=hqo.cut (k:=1) (by omega)
              have hpi:(ints (queAll [] (ops.take i))).drop (1*1)=ints (queAll [] (ops.take (i+1))):=by rw [e1]; simp [ints]
              rw [hpi,el] at hp
              rw [el]
              obtain ⟨pa,hpa⟩:∃ pa,(if qc=1 then qa else qa.map (·.add (1*1)))=pa:=⟨_,rfl⟩
              rw [hpa] at hp ⊢
              obtain ⟨pc,hpc⟩:∃ pc,qc - 1=pc:=⟨_,rfl⟩
              rw [hpc] at hp ⊢
              refine TL.assign hF rfl rfl ?_
              refine TL.nil ?_
              refine TQ.then_n ?_
              refine T.region ?_
              obtain ⟨pg,hpg⟩:∃ pg,qg=pg:=⟨_,rfl⟩
              rw [hpg] at hp ⊢
              refine TL.move hF rfl rfl ?_
              refine TL.move hF rfl rfl ?_
              refine TL.move hF rfl rfl ?_
              refine TL.callV hF (Folded_fn (f:=f) (hp.row (by simp)) (by omega) hf hq1w) rfl rfl ?_
              refine TL.buildSlice hF rfl (cs:=#[.int .i64 (foldS f (queAll [] (ops.take (i+1))))]) (e:=3) (fun w=>by kernel_rfl) rfl (fun bw=>?_)
              refine TL.append hF 1 rfl rfl rfl hlo (row_own (cs:=[.int .i64 (foldS f (queAll [] (ops.take (i+1))))]) (e:=3) (b:=bw) (by simp)).src rfl rfl (by simp [Value.oneCell']) (by omega) (by omega) rfl (fun na nc ng nh=>?_)
              have hwi:ints (queWords f [] (ops.take (i+1)))=ints (queWords f [] (ops.take i))++[.int .i64 (foldS f (queAll [] (ops.take (i+1))))]:=by rw [queWords_step hil]; simp [ints]
              rw [← hwi] at nh
              refine TL.assign hF rfl rfl ?_
              refine TL.nil ?_
              refine TQ.block_n ?_
              refine TQ.then_n ?_
              refine T.region ?_
              refine TL.move hF rfl rfl ?_
              refine TL.add hF rfl rfl (by first | omega | (dsimp only; omega)) (by first | omega | (dsimp only; omega)) rfl ?_
              refine TL.assign hF rfl rfl ?_
              refine TL.nil ?_
              refine TQ.pop ?_
              exact TQ.round ⟨i+1,na,nc,ng,pa,pc,pg⟩ ⟨hil,nh,hp⟩ (by dsimp only; omega) ⟨rfl,rfl,rfl,rfl,rfl,rfl,rfl,trivial⟩ rfl
            · refine T.skip ?_
              refine TQ.then_n ?_
              refine T.region ?_
              have hq0:(queAll [] (ops.take i))=[]:=by
                have h:¬ (0:Int)<((queAll [] (ops.take i)).length:Int):=ht57
                exact List.eq_nil_of_length_eq_zero (by omega)
              have e1:(queAll [] (ops.take (i+1)))=(queAll [] (ops.take i)):=by rw [hst]; unfold queS; rw [if_pos (by omega),hq0]; rfl
              have hp:OSx 3 1 (.slice qa (queAll [] (ops.take (i+1))).length qc) (queAll [] (ops.take (i+1))).length (ints (queAll [] (ops.take (i+1)))) qg:=by rw [e1]; exact hqo
              rw [show (queAll [] (ops.take i)).length=(queAll [] (ops.take (i+1))).length by rw [e1]]
              obtain ⟨pa,hpa⟩:∃ pa,qa=pa:=⟨_,rfl⟩
              obtain ⟨pc,hpc⟩:∃ pc,qc=pc:=⟨_,rfl⟩
              obtain ⟨pg,hpg⟩:∃ pg,qg=pg:=⟨_,rfl⟩
              rw [hpa,hpc,hpg] at hp
              rw [hpa,hpc,hpg]
              refine TL.move hF rfl rfl ?_
              refine TL.move hF rfl rfl ?_
              refine TL.move hF rfl rfl ?_
              refine TL.callV hF (Folded_fn (f:=f) (hp.row (by simp)) (by omega) hf hq1w) rfl rfl ?_
              refine TL.buildSlice hF rfl (cs:=#[.int .i64 (foldS f (queAll [] (ops.take (i+1))))]) (e:=3) (fun w=>by kernel_rfl) rfl (fun bw=>?_)
              refine TL.append hF 1 rfl rfl rfl hlo (row_own (cs:=[.int .i64 (foldS f (queAll [] (ops.take (i+1))))]) (e:=3) (b:=bw) (by simp)).src rfl rfl (by simp [Value.oneCell']) (by omega) (by omega) rfl (fun na nc ng nh=>?_)
              have hwi:ints (queWords f [] (ops.take (i+1)))=ints (queWords f [] (ops.take i))++[.int .i64 (foldS f (queAll [] (ops.take (i+1))))]:=by rw [queWords_step hil]; simp [ints]
              rw [← hwi] at nh
              refine TL.assign hF rfl rfl ?_
              refine TL.nil ?_
              refine TQ.block_n ?_
              refine TQ.then_n ?_
              refine T.region ?_
              refine TL.move hF rfl rfl ?_
              refine TL.add hF rfl rfl (by first | omega | (dsimp only; omega)) (by first | omega | (dsimp only; omega)) rfl ?_
              refine TL.assign hF rfl rfl ?_
              refine TL.nil ?_
              refine TQ.pop ?_
              exact TQ.round ⟨i+1,na,nc,ng,pa,pc,pg⟩ ⟨hil,nh,hp⟩ (by dsimp only; omega) ⟨rfl,rfl,rfl,rfl,rfl,rfl,rfl,trivial⟩ rfl
        · refine T.exit ?_
          refine TQ.then_x ?_
          refine TQ.then_x ?_
          refine TQ.block_x ?_
          refine TQ.then_n ?_
          refine T.seq ?_
          refine T.region ?_
          refine TL.move hF rfl rfl ?_
          refine TL.assign hF rfl rfl ?_
          refine TL.assign hF rfl rfl ?_
          refine TL.nil ?_
          refine TQ.then_n ?_
          refine T.ret ?_
          have hie:i=ops.length:=by have h:¬ (i:Int)<(ops.length:Int):=ht40; omega
          subst hie
          rw [List.take_length] at hlo
          have e:queueS f ops=(queWords f [] ops,0):=by unfold queueS; rw [if_pos hf,if_neg (by omega),if_pos (List.all_eq_true.2 (fun n hn=>hok n hn))]
          rw [e]
          exact TQ.rets [4,5] _ rfl rfl rfl ⟨la,lc,[lg,qg],by dsimp only; rw [queWords_len]; rfl,hlo.row (by simp),rfl⟩
end Go.Proofs.YtbajelldegijkaaDoor
/- The law: Queue's words are the reference's. -/
namespace Go.Proofs.YtbajelldegijkaaDoor
open Go.Sl
variable {S:Nat→Prop} {w0:World} {η:Heap}
set_option maxHeartbeats 8000000 in
theorem WindowQueues_fn {z : Int} {a : Option Addr} {ops : List Int} {c : Nat} (hT : Tabs S w0) (hx : Row S w0 [] a (ints ops)) (hl : ops.length < 140737488355328) :
  Rt Tryd.prog 5 [.int .i64 z,.slice a ops.length c].toArray S w0 η (fun v _=>v = .bool true):=by
 have hF:=open_wide
 refine Rt.of (fn:=Tryd.f5) Tryd.func5 rfl rfl ?_
 refine T.seq ?_
 refine T.region ?_
 refine TL.assign hF rfl rfl ?_
 refine TL.nil ?_
 refine TQ.then_n ?_
 refine T.seq ?_
 refine T.region ?_
 have hb:=Back.refl S w0
 refine TL.move hF rfl rfl ?_
 refine TL.move hF rfl rfl ?_
 refine TL.call hF (Queue_fn hT hx (by omega)) rfl rfl ?_
 rintro _ _ ⟨qa,qc,jo,segs,rfl,h1,hjo,rfl⟩
 refine TL.freeze (segs) rfl (fun S1 w1 hz1=>?_)
 replace hb:=hb.frz hz1
 replace hT:=hT.old hz1
 replace hx:=hx.old hz1
 replace h1:=h1.frz hz1
 refine TL.move hF rfl rfl ?_
 refine TL.extract hF rfl rfl rfl ?_
 refine TL.extract hF rfl rfl rfl ?_
 refine TL.alloc hF rfl (fun b5=>?_)
 refine TL.storeAs hF [.slice qa (queueS z ops).1.length qc,.int .i64 jo] [.slice qa (queueS z ops).1.length qc,.int .i64 jo] 0 (cs:=[.slice none 0 0,.int .i64 0]) rfl rfl rfl rfl (by simp [Value.oneCell']) (Nat.le_refl 2) rfl ?_
 refine TL.assign hF rfl rfl ?_
 refine TL.nil ?_
 refine TQ.then_n ?_
 refine T.seq ?_
 refine T.region ?_
 refine TL.move hF rfl rfl ?_
 refine TL.move hF rfl rfl ?_
 refine TL.call hF (QueueR_fn (f:=z) (hx.up (by simp)) (by omega)) rfl rfl ?_
 rintro _ _ ⟨ra,rc,segs,rfl,h2,rfl⟩
 refine TL.freeze (segs) rfl (fun S2 w2 hz2=>?_)
 replace hb:=hb.frz hz2
 replace hT:=hT.old hz2
 replace hx:=hx.old hz2
 replace h1:=h1.old hz2
 replace h2:=h2.frz hz2
 have hnb:(queueS z ops).1.length<2 ^ 63:=by
  unfold queueS
  split
  ·split
   ·simp
   ·split
    ·show (queWords z [] ops).length<_
     rw [queWords_len]; omega
    ·simp
  ·simp
 refine TL.move hF rfl rfl ?_
 refine TL.extract hF rfl rfl rfl ?_
 refine TL.extract hF rfl rfl rfl ?_
 refine TL.assign hF rfl rfl ?_
 refine TL.assign hF rfl rfl ?_
 refine TL.nil ?_
 refine TQ.then_n ?_
 refine T.seq ?_
 refine T.region ?_
 refine TL.move hF rfl rfl ?_
 refine TL.move hF rfl rfl ?_
 refine TL.bin hF rfl rfl rfl rfl ?_
 refine TL.move hF rfl rfl ?_
 refine TL.on rfl rfl rfl (by simp) ?_
 refine TL.fieldAddr hF rfl rfl ?_
 refine TL.on rfl rfl rfl (by simp) ?_
 refine TL.load hF rfl (show At _ _ _ _ (.slice qa (queueS z ops).1.length qc) from own_mem (b:=b5) (cs:=([.slice qa (queueS z ops).1.length qc,.int .i64 jo]).toArray) (e:=45) (fz:=(0,0)) (by simp) rfl) rfl ?_
 refine TL.on rfl rfl rfl (by simp) ?_
 refine TL.move hF rfl rfl ?_
 refine TL.on rfl rfl rfl (by simp) ?_
 refine TL.callV hF (Equal_fn (xs:=(queueS z ops).1) (ys:=(queueS z ops).1) (h1.up (by simp)) (h2.up (by simp)) hnb) rfl rfl ?_
 refine TL.pickT hF rfl (by simp) rfl rfl ?_
 refine TL.move hF rfl rfl ?_
 refine TL.on rfl rfl rfl (by simp) ?_
 refine TL.fieldAddr hF rfl rfl ?_
 refine TL.on rfl rfl rfl (by simp) ?_
 refine TL.load hF rfl (show At _ _ _ _ (.int .i64 jo) from own_mem (b:=b5) (cs:=([.slice qa (queueS z ops).1.length qc,.int .i64 jo]).toArray) (e:=45) (fz:=(0,0)) (by simp) rfl) rfl ?_
 refine TL.on rfl rfl rfl (by simp) ?_
 refine TL.move hF rfl rfl ?_
 refine TL.on rfl rfl rfl (by simp) ?_
 refine TL.len hF rfl rfl ?_
 refine TL.on rfl rfl rfl (by simp) ?_
 refine TL.mul hF rfl rfl (by omega) (by omega) rfl ?_
 refine TL.on rfl rfl rfl (by simp) ?_
 refine TL.callV hF (Lies_fn jo 0 (3*ops.length)) rfl rfl ?_
 refine TL.pickT hF rfl (by simp) rfl rfl ?_
 refine TL.move hF rfl rfl ?_
 refine TL.on rfl rfl rfl (by simp; omega) ?_
 refine TL.move hF rfl rfl ?_
 refine TL.on rfl rfl rfl (by simp; omega) ?_
 refine TL.bin hF rfl rfl rfl rfl ?_
 refine TL.on rfl rfl rfl (by simp; omega) ?_
 refine TL.move hF rfl rfl ?_
 refine TL.join [_,_,_,_] 45 (.bool true) rfl ?_ ?_
 ·refine TL.gb (t:=41) rfl (fun g3_41=>?_) (fun g3_41=>?_)
  ·refine TL.off hF rfl rfl rfl g3_41 rfl ?_
   refine TL.off hF rfl rfl rfl g3_41 rfl ?_
   refine TL.off hF rfl rfl rfl g3_41 rfl ?_
   refine TL.on rfl rfl rfl (by simp; omega) ?_
   refine TL.pickT hF rfl g3_41 rfl rfl ?_
   refine TL.finJ ⟨?_,by repeat (first | exact trivial | refine ⟨rfl,?_⟩)⟩
   exact congrArg (fun z=>some (Value.bool z)) (by first | rfl | exact decide_eq_true (hjo.2.2.resolve_left (by simpa using g3_41)))
  ·refine TL.on rfl rfl rfl g3_41 ?_
   refine TL.fieldAddr hF rfl rfl ?_
   refine TL.on rfl rfl rfl g3_41 ?_
   refine TL.load hF rfl (show At _ _ _ _ (.int .i64 jo) from own_mem (b:=b5) (cs:=([.slice qa (queueS z ops).1.length qc,.int .i64 jo]).toArray) (e:=45) (fz:=(0,0)) (by simp) rfl) rfl ?_
   refine TL.on rfl rfl rfl g3_41 ?_
   refine TL.bin hF rfl rfl rfl rfl ?_
   refine TL.on rfl rfl rfl (by simp; omega) ?_
   refine TL.pickF hF rfl g3_41 rfl rfl ?_
   refine TL.finJ ⟨?_,by repeat (first | exact trivial | refine ⟨rfl,?_⟩)⟩
   exact congrArg (fun z=>some (Value.bool z)) (by first | rfl | exact decide_eq_true (hjo.2.2.resolve_left (by simpa using g3_41)))
 ·refine TL.pickT hF rfl (by simp; omega) rfl rfl ?_
  refine TL.move hF rfl rfl ?_
  refine TL.on rfl rfl rfl rfl ?_
  refine TL.call hF (windowed_law hT) rfl rfl ?_
  rintro _ _ rfl
  refine TL.pickT hF rfl rfl rfl rfl ?_
  refine TL.assign hF rfl rfl ?_
  refine TL.nil ?_
  refine TQ.then_n ?_
  refine T.ret ?_
  exact TQ.retsF [4] _ hb rfl rfl rfl (fun _=>rfl)
end Go.Proofs.YtbajelldegijkaaDoor
namespace Go.Proofs.YtbajelldegijkaaDoor
open Go.Sl Go.ChangeShapes Go.WideShapes Go.ChangeAt Go.RowKit
set_option maxRecDepth 100000 in
theorem windowQueues_lifted (os : Os) (started : os.Started) (H : Type) (enc : TypeId × Value → H) :
    ReturnsInHanded {} Tryd.checked os 5 .any (fun w args=>(Rows.windowQueuesSpec.pre enc Tryd.prog Tryd.f5 [] false w args∧laidMetH Tryd.prog laidL w)∧sizedMet enc Tryd.prog Tryd.f5 (OpenSpec.ofChange Rows.windowQueuesSpec) false w args)
      (Rows.windowQueuesSpec.post enc Tryd.prog Tryd.f5 false true false false):=by
  refine returnsInHanded_of_change_and (C:=Tryd.checked) (X:=fun w _=>laidMetH Tryd.prog laidL w) (fun _ _ _ hh h=>h.of_heap hh) Tryd.own started (by kernel_rfl) Tryd.func5
    (ChangeSpec.witness_shaped (enc:=enc) (C:=Tryd.checked) (os:=os) (X:=fun w _=>laidMetH Tryd.prog laidL w) false (World.doorLaid Tryd.prog 2000 os) #[.int .i64 0,.slice none 0 0] 8 rfl (World.shaped_of_RefB (by kernel_rfl) (by kernel_rfl)) (by kernel_rfl) (by kernel_rfl) (by kernel_rfl) (door_met os _)) ?_
  intro W base args ds gs before hval0 hW _ hwt hL _
  have hval':∀ (j:Nat) t v,Tryd.f5.params[j]?=some t→args[j]?=some v→Value.okWide Tryd.prog W .any base t v:=hval0
  have hW':=hW
  obtain ⟨p,q,hA0,hV,rfl,hfz,hnd⟩:=hW
  have hA:DataW.TrodAll enc Tryd.prog W 0 (fun _=>true) true [3,43] args.toList ds p:=hA0
  obtain ⟨v0,v1,d0,d1,p0,p1,rfl,rfl,rfl,h0,h1⟩:=trodAll_two hA
  obtain ⟨z0,rfl,_,_,wz0⟩:=open_int u3 (hval' 0 3 v0 rfl rfl) h0
  have iz0:=wf_i64 wz0
  obtain ⟨_,_,_,rfl⟩:=okWide_slice uIs (hval' 1 43 v1 rfl rfl)
  obtain ⟨_,h1⟩:=h1
  obtain ⟨a1,xs1,c1,e1,hx1,hl1,hc1,hb1⟩:=ints_arg h1
  have hsm1:xs1.length<140737488355328:=by
    rw [e1] at h1
    exact len_small (j:=1) uIs (by rw [b3I]; decide) h1 rfl rfl hwt
  rw [e1] at hW' ⊢
  refine (calls_true (WindowQueues_fn (tabs_of_laid hL) hx1 hsm1)).mono fun e W' ⟨he,hw⟩=>⟨_,he,?_⟩
  exact law_post (f:=Tryd.f5) Tryd.laidOut rfl 4 rfl u4 hW' rfl (by decide +kernel) hw
theorem windowQueues_said:Rows.WindowQueuesSaid :=
  OpenClaim.holds_of_wide 5 Tryd.f5 rfl rfl rfl rfl rfl rfl rfl ⟨rfl,rfl,rfl,rfl,rfl⟩ rfl rfl rfl rfl rfl (by kernel_rfl) Tryd.func5 (by kernel_rfl)
    (of_decide_eq_true (by kernel_rfl)) (by unfold Func.isWrapper; first | (rw [if_pos (by decide +kernel)]; kernel_rfl) | (rw [if_neg (by decide +kernel)]; exact ⟨rfl,rfl⟩))
    (fun os started H enc _=>windowQueues_lifted os started H enc)
theorem windowQueues_holds:Rows.WindowQueuesCardSaid :=
  Claim7.holds_tied_plain_at .later [] [.funcs] true (true, "edd8e981fe4d3e724f26595c5f9106e083d3da54a7e7e8d858f79c443b2db2cc") true
    windowQueues_said (fun _ h=>by cases h) (by kernel_rfl) (fun _ h=>by cases h) windowQueues_row_tie rfl ⟨rfl,rfl⟩ (by kernel_rfl) rfl
    (fun f fn hf hfn=>by
      obtain rfl : f = 5 := Option.some.inj ((show Tryd.prog.funcNamed "deltaworks/deltaworkslaw25.WindowQueues" = some 5 by kernel_rfl).symm.trans hf) |>.symm
      obtain rfl:fn=Tryd.f5:=(Option.some.inj (Tryd.func5.symm.trans hfn)).symm
      exact ⟨by kernel_rfl,fun j t ht=>by
        have ht2:(#[3,43]:Array TypeId)[j]?=some t:=ht
        have hm:t∈([3,43]:List TypeId):=by simpa using Array.mem_of_getElem? ht2
        have hall:(([3,43]:List TypeId).all fun u=>!Tryd.prog.wantsStandIn u)=true:=by kernel_rfl
        exact (show Tryd.prog.wantsStandIn t=false by simpa using List.all_eq_true.1 hall t hm)⟩)
    (by kernel_rfl)
#print axioms windowQueues_holds
end Go.Proofs.YtbajelldegijkaaDoor
