/- The theorem of the queue, for every input. No condition. -/
import Derived.Test.YtbajelldegijkaaDoorVc
import Derived.Test.YtbajelldegijkaaDoorVi
import Derived.Test.YtbajelldegijkaaDoorVf
import Derived.Test.YtbajelldegijkaaDoorCards
import Derived.Test.YtbajelldegijkaaDoorTie
/- Queues that keep so many words at a time. -/
namespace Go.Proofs.YtbajelldegijkaaDoor
def offs (m i:Nat):List Int:=if m≤i then [-2147483649] else []
/-- The operations ahead of the word i. -/
def rollTo (m:Nat) (ws:List Int):Nat→List Int
  | 0=>[]
  | i+1=>rollTo m ws i++offs m i++[ws.getD i 0]
def rollAt (m:Nat) (ws:List Int) (i:Nat):Nat:=(rollTo m ws i++offs m i).length
theorem offs_len (m i:Nat):(offs m i).length≤1:=by unfold offs; split <;> simp
theorem roll_len (m:Nat) (ws:List Int):∀ i,(rollTo m ws i).length≤2*i
  | 0=>by simp [rollTo]
  | i+1=>by
    have:=roll_len m ws i
    have:=offs_len m i
    simp only [rollTo,List.length_append,List.length_singleton]; omega
theorem roll_at (m:Nat) (ws:List Int) (i:Nat):rollAt m ws i+1=(rollTo m ws (i+1)).length:=by
  unfold rollAt; simp only [rollTo,List.length_append,List.length_singleton]
theorem roll_pre (m:Nat) (ws:List Int) (i:Nat):∀ n,i≤n→rollTo m ws i <+: rollTo m ws n
  | 0,h=>by rw [Nat.le_zero.1 h]; exact List.prefix_refl _
  | n+1,h=>by
    rcases Nat.lt_or_ge i (n+1) with h1 | h1
    · exact (roll_pre m ws i n (by omega)).trans (by rw [rollTo,List.append_assoc]; exact List.prefix_append _ _)
    · rw [show i=n+1 by omega]; exact List.prefix_refl _
theorem queAll_app (q a b:List Int):queAll q (a++b)=queAll (queAll q a) b:=by unfold queAll; rw [List.foldl_append]
theorem roll_que {m:Nat} {ws:List Int} (hm:1≤m) (hw:∀ w∈ws,Wd w):∀ i,i≤ws.length→queAll [] (rollTo m ws i)=(ws.take i).drop (i - m)
  | 0,_=>by simp [rollTo,queAll]
  | i+1,h=>by
    have hd:ws.getD i 0=ws[i]:=by rw [List.getD_eq_getElem?_getD,List.getElem?_eq_getElem (by omega)]; rfl
    have hne:ws[i] ≠ -2147483649:=by
      have:=hw _ (List.getElem_mem (show i<ws.length by omega))
      unfold Wd at this; omega
    have key:queAll (queAll [] (rollTo m ws i)) (offs m i)=(ws.take i).drop (i+1 - m):=by
      rw [roll_que hm hw i (by omega)]
      unfold offs
      split
      · show queAll _ [-2147483649]=_
        have e:∀ q:List Int,queAll q [-2147483649]=q.drop 1:=fun q=>by simp [queAll,queS]
        rw [e,List.drop_drop,show i - m+1=i+1 - m by omega]
      · have e:∀ q:List Int,queAll q []=q:=fun q=>by simp [queAll]
        rw [e,show i - m=i+1 - m by omega]
    rw [rollTo,queAll_app,queAll_app,key,hd]
    have e:∀ (q:List Int) (n:Int),queAll q [n]=queS q n:=fun q n=>by simp [queAll]
    rw [e]
    unfold queS
    rw [if_neg hne,List.take_succ_eq_append_getElem (by omega),List.drop_append_of_le_length (by rw [List.length_take]; omega)]
theorem queWords_at {f:Int}:∀ {ops q:List Int} {j:Nat} (h:j<(queWords f q ops).length),(queWords f q ops)[j]=foldS f (queAll q (ops.take (j+1)))
  | [],_,_,h=>by simp [queWords] at h
  | n::r,q,0,h=>rfl
  | n::r,q,j+1,h=>by
    simp only [queWords,List.getElem_cons_succ]
    rw [queWords_at]
    rfl
theorem roll_word {f:Int} {m:Nat} {ws:List Int} (hm:1≤m) (hw:∀ w∈ws,Wd w) {i:Nat} (hi:i<ws.length) (h:rollAt m ws i<(queWords f [] (rollTo m ws ws.length)).length):(queWords f [] (rollTo m ws ws.length))[rollAt m ws i]=foldS f ((ws.take (i+1)).drop (i+1 - m)):=by
  rw [queWords_at,roll_at]
  have e:(rollTo m ws ws.length).take (rollTo m ws (i+1)).length=rollTo m ws (i+1):=(List.prefix_iff_eq_take.1 (roll_pre m ws (i+1) ws.length (by omega))).symm
  rw [e,roll_que hm hw (i+1) (by omega)]
theorem roll_ok {m:Nat} {ws:List Int} (hw:∀ w∈ws,Wd w):∀ i,i≤ws.length→∀ n∈rollTo m ws i,okOp n=true
  | 0,_,n,h=>by simp [rollTo] at h
  | i+1,hi,n,h=>by
    have hd:ws.getD i 0=ws[i]:=by rw [List.getD_eq_getElem?_getD,List.getElem?_eq_getElem (by omega)]; rfl
    rw [rollTo,List.mem_append,List.mem_append,List.mem_singleton,hd] at h
    rcases h with (h | h) | h
    · exact roll_ok hw i (by omega) n h
    · unfold offs at h
      split at h
      · rw [List.mem_singleton.1 h]; rfl
      · simp at h
    · rw [h]
      have:=hw _ (List.getElem_mem (show i<ws.length by omega))
      unfold okOp
      rw [isW_iff.2 this]; rfl
/-- What is wanted, so far: the count at once, or the words up to k made together. -/
def wantTo (f:Int) (ws:List Int) (m i k:Nat):Int:=if f=0 then ((i+1 - (i+1 - m):Nat):Int) else foldS f ((ws.take k).drop (i+1 - m))
theorem want_start {f:Int} {ws:List Int} {m i:Nat} (hf:f≠0):wantTo f ws m i (i+1 - m)=noneF f:=by
  unfold wantTo
  rw [if_neg hf,List.drop_eq_nil_of_le (by rw [List.length_take]; omega)]; rfl
theorem want_step {f:Int} {ws:List Int} {m i k:Nat} (hw:∀ w∈ws,Wd w) (hk:k<ws.length) (h:i+1 - m≤k) (hf:f≠0):wantTo f ws m i (k+1)=twoF f (wantTo f ws m i k) ws[k]:=by
  unfold wantTo
  rw [if_neg hf,if_neg hf,List.take_succ_eq_append_getElem hk,List.drop_append_of_le_length (by rw [List.length_take]; omega),fold_snoc (fun w h=>hw w (List.mem_of_mem_take (List.mem_of_mem_drop h))) (hw _ (List.getElem_mem hk))]
  unfold oneF
  rw [if_neg hf]
theorem want_end {f:Int} {ws:List Int} {m i:Nat} (hi:i<ws.length) (hl:ws.length<2147483648):wantTo f ws m i (i+1)=foldS f ((ws.take (i+1)).drop (i+1 - m)):=by
  unfold wantTo
  split
  · rename_i h
    rw [h,fold_count (by rw [List.length_drop,List.length_take]; omega),List.length_drop,List.length_take,Nat.min_eq_left (by omega)]
  · rfl
end Go.Proofs.YtbajelldegijkaaDoor
/- The law of rolling words: each word of the queue is what the last ones make from scratch. -/
namespace Go.Proofs.YtbajelldegijkaaDoor
open Go.Sl
variable {S:Nat→Prop} {w0:World} {η:Heap}
theorem wrap_Wd (n:Int):Wd (wrap32 n):=by unfold Wd wrap32; omega
structure RI where
 i:Nat
 oa:Option Addr
 oc:Nat
 og:Seg
 ta:Option Addr
 tc:Nat
 tg:Seg
def atsTo (m:Nat) (ws:List Int) (i:Nat):List Int:=(List.range i).map fun j=>((rollAt m ws j:Nat):Int)
theorem atsTo_len (m:Nat) (ws:List Int) (i:Nat):(atsTo m ws i).length=i:=by simp [atsTo]
theorem atsTo_step (m:Nat) (ws:List Int) (i:Nat):atsTo m ws (i+1)=atsTo m ws i++[((rollAt m ws i:Nat):Int)]:=by unfold atsTo; rw [List.range_succ,List.map_append]; rfl
theorem atsTo_at {m:Nat} {ws:List Int} {n i:Nat} (h:i<(atsTo m ws n).length):(atsTo m ws n)[i]=((rollAt m ws i:Nat):Int):=by simp [atsTo]
theorem want_first {f:Int} {ws:List Int} {m i:Nat} (hf:0≤f∧f<4) (h:f.toNat<([(i:Int)+1 - ((i+1 - m:Nat):Int),0,2147483647,-2147483648]:List Int).length):([(i:Int)+1 - ((i+1 - m:Nat):Int),0,2147483647,-2147483648]:List Int)[f.toNat]=wantTo f ws m i (i+1 - m):=by
 have h4:f=0∨f=1∨f=2∨f=3:=by omega
 rcases h4 with rfl | rfl | rfl | rfl
 ·show (i:Int)+1 - ((i+1 - m:Nat):Int)=wantTo 0 ws m i (i+1 - m)
  unfold wantTo
  rw [if_pos rfl]; omega
 ·rw [want_start (by decide)]; rfl
 ·rw [want_start (by decide)]; rfl
 ·rw [want_start (by decide)]; rfl
set_option maxHeartbeats 8000000 in
theorem WindowRolls_fn {a : Option Addr} {xs : List Int} {c : Nat} {z1 z2 : Int} (hT : Tabs S w0) (hx : Row S w0 [] a (ints xs)) (hxl : xs.length < 9223372036854775808) :
  Rt Tryd.prog 10 [.slice a xs.length c,.int .i64 z1,.int .i64 z2].toArray S w0 η (fun v _=>v = .bool true):=by
 have hF:=open_wide
 refine Rt.of (fn:=Tryd.f10) Tryd.func10 rfl rfl ?_
 refine T.seq ?_
 refine T.region ?_
 refine TL.assign hF rfl rfl ?_
 refine TL.nil ?_
 refine TQ.then_n ?_
 refine T.seq ?_
 refine T.region ?_
 refine TL.move hF rfl rfl ?_
 have hb:=Back.refl S w0
 refine TL.call hF (Wrap_fn (m:=100) hx hxl (by decide)) rfl rfl ?_
 rintro _ _ ⟨wa,wc,wg,rfl,hso,rfl⟩
 obtain ⟨ws,hwe⟩:∃ ws,ws=(xs.take 100).map wrap32:=⟨_,rfl⟩
 rw [← hwe] at hso ⊢
 have hwl:ws.length≤100:=by rw [hwe,List.length_map,List.length_take]; omega
 have hww:∀ x∈ws,Wd x:=fun x hx=>by
  rw [hwe] at hx
  obtain ⟨z,_,rfl⟩:=List.mem_map.1 hx
  exact wrap_Wd z
 have hcs:Row S w0 [wg] wa (ints ws):=OSl.row hso (by simp)
 refine TL.freeze ([wg]) rfl (fun S1 w1 hz1=>?_)
 replace hb:=hb.frz hz1
 replace hT:=hT.old hz1
 replace hcs:=hcs.frz hz1
 refine TL.assign hF rfl rfl ?_
 refine TL.nil ?_
 refine TQ.then_n ?_
 refine T.seq ?_
 refine T.region ?_
 refine TL.move hF rfl rfl ?_
 have ht1:=turnI_range z1 (m:=20) (by decide)
 have ht2:=turnI_range z2 (m:=4) (by decide)
 refine TL.callV hF (Turn_fn z1 (m:=20) (by decide)) rfl rfl ?_
 refine TL.add hF rfl rfl (by omega) (by omega) rfl ?_
 refine TL.move hF rfl rfl ?_
 refine TL.callV hF (Turn_fn z2 (m:=4) (by decide)) rfl rfl ?_
 refine TL.assign hF rfl rfl ?_
 refine TL.assign hF rfl rfl ?_
 refine TL.nil ?_
 refine TQ.then_n ?_
 refine T.seq ?_
 refine T.region ?_
 obtain ⟨M,hM⟩:∃ M:Nat,1+turnI z1 20=(M:Int):=⟨(1+turnI z1 20).toNat,by omega⟩
 obtain ⟨f,hf⟩:∃ f,turnI z2 4=f:=⟨_,rfl⟩
 rw [hM,hf]
 rw [hf] at ht2
 have hM1:1≤M:=by omega
 have hM20:M≤20:=by omega
 clear hM ht1 hf
 refine TL.buildSlice hF rfl (cs:=#[]) (e:=3) (fun w=>by kernel_rfl) rfl (fun b24=>?_)
 refine TL.buildSlice hF rfl (cs:=#[]) (e:=3) (fun w=>by kernel_rfl) rfl (fun b25=>?_)
 refine TL.assign hF rfl rfl ?_
 refine TL.assign hF rfl rfl ?_
 refine TL.nil ?_
 refine TQ.then_n ?_
 refine T.seq ?_
 refine T.seq ?_
 refine T.region ?_
 refine TL.assign hF rfl rfl ?_
 refine TL.nil ?_
 refine TQ.then_n ?_
 refine T.block ?_
 refine T.pick [1,0] [_,_] rfl rfl rfl ?_
 refine T.heap (η':=[(b24,Obj.cells #[] 3 (0,0))]::[(b25,Obj.cells #[] 3 (0,0))]::η) rfl ?_
 refine T.loop (ι:=RI) (fun z=>z.i≤ws.length∧OSl 3 1 (.slice z.oa (rollTo M ws z.i).length z.oc) (rollTo M ws z.i).length (ints (rollTo M ws z.i)) z.og∧OSl 3 1 (.slice z.ta z.i z.tc) z.i (ints (atsTo M ws z.i)) z.tg) (fun z=>[(1,.int .i64 (M:Int)),(2,.int .i64 f),(6,.bool false),(7,.slice wa ws.length wc),(8,.slice z.oa (rollTo M ws z.i).length z.oc),(9,.slice z.ta z.i z.tc),(10,.int .i64 (z.i:Int))]) (fun z=>z.og::z.tg::η) (fun z=>ws.length - z.i) ⟨0,some ⟨b24,0,none⟩,0,[(b24,Obj.cells #[] 3 (0,0))],some ⟨b25,0,none⟩,0,[(b25,Obj.cells #[] 3 (0,0))]⟩ ⟨Nat.zero_le _,osl_empty,osl_empty⟩ ⟨rfl,rfl,rfl,rfl,rfl,rfl,rfl,trivial⟩ rfl ?_
 rintro ⟨i,oa,oc,og,ta,tc,tg⟩ ⟨hi,ho,ht⟩
 dsimp only at hi ho ht
 have hol:=roll_len M ws i
 refine T.seq ?_
 refine T.seq ?_
 refine T.region ?_
 refine TL.move hF rfl rfl ?_
 refine TL.move hF rfl rfl ?_
 refine TL.len hF rfl rfl ?_
 refine TL.bin hF rfl rfl rfl rfl ?_
 refine TL.nil ?_
 refine TQ.then_n ?_
 first | refine T.cond_d rfl (fun ht29=>?_) (fun ht29=>?_) | refine T.cond _ rfl (fun ht29=>?_) (fun ht29=>?_)
 ·refine T.skip ?_
  refine TQ.then_n ?_
  refine T.seq ?_
  refine T.block ?_
  refine T.seq ?_
  refine T.seq ?_
  refine T.region ?_
  have hil:i<ws.length:=by have h:(i:Int)<(ws.length:Int):=ht29; omega
  have hd:ws.getD i 0=ws[i]:=by rw [List.getD_eq_getElem?_getD,List.getElem?_eq_getElem hil]; rfl
  refine TL.move hF rfl rfl ?_
  refine TL.move hF rfl rfl ?_
  refine TL.bin hF rfl rfl rfl rfl ?_
  refine TL.nil ?_
  refine TQ.then_n ?_
  refine T.cond_d rfl (fun ht34=>?_) (fun ht34=>?_)
  ·refine T.region ?_
   refine TL.move hF rfl rfl ?_
   refine TL.buildSlice hF rfl (cs:=#[.int .i64 (-2147483649)]) (e:=3) (fun w=>by kernel_rfl) rfl (fun bq=>?_)
   refine TL.append hF 1 rfl rfl rfl ho (row_own (cs:=[.int .i64 (-2147483649)]) (e:=3) (b:=bq) (by simp)).src rfl rfl (by simp [Value.oneCell']) (by omega) (by omega) rfl (fun pa pc pg ph=>?_)
   refine TL.assign hF rfl rfl ?_
   refine TL.nil ?_
   refine TQ.then_n ?_
   refine T.seq ?_
   refine T.region ?_
   refine TL.hsub (pg::tg::η) (List.sublist_cons_self _ _) ?_
   have h34:(M:Int)≤(i:Int):=ht34
   have heo:offs M i=[-2147483649]:=by unfold offs; rw [if_pos (by omega)]
   have hpl:(rollTo M ws i).length+1=((rollTo M ws i)++offs M i).length:=by rw [heo]; simp
   have hp:OSl 3 1 (.slice pa ((rollTo M ws i)++offs M i).length pc) ((rollTo M ws i)++offs M i).length (ints ((rollTo M ws i)++offs M i)) pg:=by
    rw [← hpl,heo]
    have h9:ints ((rollTo M ws i)++[-2147483649])=ints (rollTo M ws i)++[.int .i64 (-2147483649)]:=by simp [ints]
    rw [h9]; exact ph
   rw [hpl]
   have hpb:((rollTo M ws i)++offs M i).length≤2*i+1:=by omega
   refine TL.move hF rfl rfl ?_
   refine TL.move hF rfl rfl ?_
   refine TL.len hF rfl rfl ?_
   refine TL.buildSlice hF rfl (cs:=#[.int .i64 (((rollTo M ws i)++offs M i).length:Int)]) (e:=3) (fun w=>by kernel_rfl) rfl (fun bw=>?_)
   refine TL.append hF 2 rfl rfl rfl ht (row_own (cs:=[.int .i64 (((rollTo M ws i)++offs M i).length:Int)]) (e:=3) (b:=bw) (by simp)).src rfl rfl (by simp [Value.oneCell']) (by omega) (by omega) rfl (fun sa sc sg sh=>?_)
   have hsi:ints (atsTo M ws (i+1))=ints (atsTo M ws i)++[.int .i64 (((rollTo M ws i)++offs M i).length:Int)]:=by rw [atsTo_step]; simp [ints,rollAt]
   rw [← hsi] at sh
   refine TL.assign hF rfl rfl ?_
   refine TL.nil ?_
   refine TQ.then_n ?_
   refine T.region ?_
   refine TL.move hF rfl rfl ?_
   refine TL.move hF rfl rfl ?_
   refine TL.move hF rfl rfl ?_
   refine TL.indexAddr hF rfl rfl (hcs.adi (i:=i) (by simpa using hil)) (by omega) (by omega) rfl ?_
   refine TL.load hF rfl (hcs.ro.int (i:=i) hil) rfl ?_
   refine TL.buildSlice hF rfl (cs:=#[.int .i64 ws[i]]) (e:=3) (fun w=>by kernel_rfl) rfl (fun bx=>?_)
   refine TL.append hF 2 rfl rfl rfl hp (row_own (cs:=[.int .i64 ws[i]]) (e:=3) (b:=bx) (by simp)).src rfl rfl (by simp [Value.oneCell']) (by omega) (by omega) rfl (fun qa qc qg qh=>?_)
   have hqi:(rollTo M ws (i+1))=((rollTo M ws i)++offs M i)++[ws[i]]:=by rw [rollTo,hd]
   have hql:(rollTo M ws (i+1)).length=((rollTo M ws i)++offs M i).length+1:=by rw [hqi,List.length_append]; rfl
   have hqj:ints (rollTo M ws (i+1))=ints ((rollTo M ws i)++offs M i)++[.int .i64 ws[i]]:=by rw [hqi]; simp [ints]
   rw [← hqj,← hql] at qh
   refine TL.assign hF rfl rfl ?_
   refine TL.nil ?_
   refine TQ.block_n ?_
   refine TQ.then_n ?_
   refine T.region ?_
   refine TL.move hF rfl rfl ?_
   refine TL.add hF rfl rfl (by first | omega | (dsimp only; omega)) (by first | omega | (dsimp only; omega)) rfl ?_
   refine TL.assign hF rfl rfl ?_
   refine TL.nil ?_
   refine TQ.pop (TQ.pop ?_)
   exact TQ.round ⟨i+1,qa,qc,qg,sa,sc,sg⟩ ⟨hil,qh,sh⟩ (by dsimp only; omega) ⟨rfl,rfl,rfl,rfl,by dsimp only; rw [hql]; rfl,rfl,rfl,trivial⟩ rfl
  ·refine T.skip ?_
   refine TQ.then_n ?_
   refine T.seq ?_
   refine T.region ?_
   obtain ⟨pa,hpa⟩:∃ pa,oa=pa:=⟨_,rfl⟩
   obtain ⟨pc,hpc⟩:∃ pc,oc=pc:=⟨_,rfl⟩
   obtain ⟨pg,hpg⟩:∃ pg,og=pg:=⟨_,rfl⟩
   rw [hpa,hpc,hpg] at ho
   rw [hpa,hpc,hpg]
   have h34:¬ (M:Int)≤(i:Int):=ht34
   have heo:offs M i=[]:=by unfold offs; rw [if_neg (by omega)]
   have hpe:((rollTo M ws i)++offs M i)=(rollTo M ws i):=by rw [heo,List.append_nil]
   have hp:OSl 3 1 (.slice pa ((rollTo M ws i)++offs M i).length pc) ((rollTo M ws i)++offs M i).length (ints ((rollTo M ws i)++offs M i)) pg:=by rw [hpe]; exact ho
   rw [← hpe]
   have hpb:((rollTo M ws i)++offs M i).length≤2*i+1:=by rw [hpe]; omega
   refine TL.move hF rfl rfl ?_
   refine TL.move hF rfl rfl ?_
   refine TL.len hF rfl rfl ?_
   refine TL.buildSlice hF rfl (cs:=#[.int .i64 (((rollTo M ws i)++offs M i).length:Int)]) (e:=3) (fun w=>by kernel_rfl) rfl (fun bw=>?_)
   refine TL.append hF 2 rfl rfl rfl ht (row_own (cs:=[.int .i64 (((rollTo M ws i)++offs M i).length:Int)]) (e:=3) (b:=bw) (by simp)).src rfl rfl (by simp [Value.oneCell']) (by omega) (by omega) rfl (fun sa sc sg sh=>?_)
   have hsi:ints (atsTo M ws (i+1))=ints (atsTo M ws i)++[.int .i64 (((rollTo M ws i)++offs M i).length:Int)]:=by rw [atsTo_step]; simp [ints,rollAt]
   rw [← hsi] at sh
   refine TL.assign hF rfl rfl ?_
   refine TL.nil ?_
   refine TQ.then_n ?_
   refine T.region ?_
   refine TL.move hF rfl rfl ?_
   refine TL.move hF rfl rfl ?_
   refine TL.move hF rfl rfl ?_
   refine TL.indexAddr hF rfl rfl (hcs.adi (i:=i) (by simpa using hil)) (by omega) (by omega) rfl ?_
   refine TL.load hF rfl (hcs.ro.int (i:=i) hil) rfl ?_
   refine TL.buildSlice hF rfl (cs:=#[.int .i64 ws[i]]) (e:=3) (fun w=>by kernel_rfl) rfl (fun bx=>?_)
   refine TL.append hF 2 rfl rfl rfl hp (row_own (cs:=[.int .i64 ws[i]]) (e:=3) (b:=bx) (by simp)).src rfl rfl (by simp [Value.oneCell']) (by omega) (by omega) rfl (fun qa qc qg qh=>?_)
   have hqi:(rollTo M ws (i+1))=((rollTo M ws i)++offs M i)++[ws[i]]:=by rw [rollTo,hd]
   have hql:(rollTo M ws (i+1)).length=((rollTo M ws i)++offs M i).length+1:=by rw [hqi,List.length_append]; rfl
   have hqj:ints (rollTo M ws (i+1))=ints ((rollTo M ws i)++offs M i)++[.int .i64 ws[i]]:=by rw [hqi]; simp [ints]
   rw [← hqj,← hql] at qh
   refine TL.assign hF rfl rfl ?_
   refine TL.nil ?_
   refine TQ.block_n ?_
   refine TQ.then_n ?_
   refine T.region ?_
   refine TL.move hF rfl rfl ?_
   refine TL.add hF rfl rfl (by first | omega | (dsimp only; omega)) (by first | omega | (dsimp only; omega)) rfl ?_
   refine TL.assign hF rfl rfl ?_
   refine TL.nil ?_
   refine TQ.pop (TQ.pop ?_)
   exact TQ.round ⟨i+1,qa,qc,qg,sa,sc,sg⟩ ⟨hil,qh,sh⟩ (by dsimp only; omega) ⟨rfl,rfl,rfl,rfl,by dsimp only; rw [hql]; rfl,rfl,rfl,trivial⟩ rfl
 ·refine T.exit ?_
  refine TQ.then_x ?_
  refine TQ.then_x ?_
  refine TQ.block_x ?_
  refine TQ.then_n ?_
  refine T.seq ?_
  refine T.region ?_
  have hie:i=ws.length:=by have h:¬ (i:Int)<(ws.length:Int):=ht29; omega
  subst hie
  have hob:Row S1 w1 [og,tg] oa (ints (rollTo M ws ws.length)):=ho.row (by simp)
  have hat:Row S1 w1 [og,tg] ta (ints (atsTo M ws ws.length)):=ht.row (by simp)
  refine TL.freeze ([og,tg]) rfl (fun S2 w2 hz2=>?_)
  replace hb:=hb.frz hz2
  replace hT:=hT.old hz2
  replace hcs:=hcs.old hz2
  replace hob:=hob.frz hz2
  replace hat:=hat.frz hz2
  have hqe:queueS f (rollTo M ws ws.length)=((queWords f [] (rollTo M ws ws.length)),0):=by unfold queueS; rw [if_pos (by omega),if_neg (by omega),if_pos (List.all_eq_true.2 (roll_ok hww _ (Nat.le_refl _)))]
  have hqn:(queWords f [] (rollTo M ws ws.length)).length=(rollTo M ws ws.length).length:=queWords_len _ _ _
  refine TL.move hF rfl rfl ?_
  refine TL.move hF rfl rfl ?_
  refine TL.call hF (Queue_fn hT (f:=f) hob (by omega)) rfl rfl ?_
  rintro _ _ ⟨qa,qc,jo,segs,rfl,hq,hjo,rfl⟩
  rw [hqe] at hq ⊢
  refine TL.freeze (segs) rfl (fun S3 w3 hz3=>?_)
  replace hb:=hb.frz hz3
  replace hT:=hT.old hz3
  replace hcs:=hcs.old hz3
  replace hob:=hob.old hz3
  replace hat:=hat.old hz3
  replace hq:=hq.frz hz3
  refine TL.move hF rfl rfl ?_
  refine TL.extract hF rfl rfl rfl ?_
  refine TL.extract hF rfl rfl rfl ?_
  refine TL.alloc hF rfl (fun b11=>?_)
  refine TL.storeAs hF [.slice qa (queWords f [] (rollTo M ws ws.length)).length qc,.int .i64 jo] [.slice qa (queWords f [] (rollTo M ws ws.length)).length qc,.int .i64 jo] 0 (cs:=[.slice none 0 0,.int .i64 0]) rfl rfl rfl rfl (by simp [Value.oneCell']) (Nat.le_refl 2) rfl ?_
  refine TL.assign hF rfl rfl ?_
  refine TL.nil ?_
  refine TQ.then_n ?_
  refine T.seq ?_
  refine T.seq ?_
  refine T.region ?_
  refine TL.move hF rfl rfl ?_
  refine TL.bin hF rfl rfl rfl rfl ?_
  refine TL.move hF rfl rfl ?_
  refine TL.on rfl rfl rfl (by simp) ?_
  refine TL.fieldAddr hF rfl rfl ?_
  refine TL.on rfl rfl rfl (by simp) ?_
  refine TL.load hF rfl (show At _ _ _ _ (.slice qa (queWords f [] (rollTo M ws ws.length)).length qc) from own_mem (b:=b11) (cs:=([.slice qa (queWords f [] (rollTo M ws ws.length)).length qc,.int .i64 jo]).toArray) (e:=45) (fz:=(0,0)) (by simp) rfl) rfl ?_
  refine TL.on rfl rfl rfl (by simp) ?_
  refine TL.len hF rfl rfl ?_
  refine TL.on rfl rfl rfl (by simp) ?_
  refine TL.move hF rfl rfl ?_
  refine TL.on rfl rfl rfl (by simp) ?_
  refine TL.len hF rfl rfl ?_
  refine TL.on rfl rfl rfl (by simp) ?_
  refine TL.bin hF rfl rfl rfl rfl ?_
  refine TL.pickF hF rfl (by simp) rfl rfl ?_
  refine TL.move hF rfl rfl ?_
  refine TL.on rfl rfl rfl (by simp [hqn]) ?_
  refine TL.fieldAddr hF rfl rfl ?_
  refine TL.on rfl rfl rfl (by simp [hqn]) ?_
  refine TL.load hF rfl (show At _ _ _ _ (.int .i64 jo) from own_mem (b:=b11) (cs:=([.slice qa (queWords f [] (rollTo M ws ws.length)).length qc,.int .i64 jo]).toArray) (e:=45) (fz:=(0,0)) (by simp) rfl) rfl ?_
  refine TL.on rfl rfl rfl (by simp [hqn]) ?_
  refine TL.move hF rfl rfl ?_
  refine TL.on rfl rfl rfl (by simp [hqn]) ?_
  refine TL.len hF rfl rfl ?_
  refine TL.on rfl rfl rfl (by simp [hqn]) ?_
  refine TL.mul hF rfl rfl (by first | omega | (dsimp only; omega)) (by first | omega | (dsimp only; omega)) rfl ?_
  refine TL.on rfl rfl rfl (by simp [hqn]) ?_
  refine TL.callV hF (Lies_fn jo 0 (3*((rollTo M ws ws.length).length:Int))) rfl rfl ?_
  refine TL.on rfl rfl rfl (by simp [hqn]) ?_
  refine TL.not hF rfl rfl ?_
  refine TL.pickF hF rfl (by simp [hqn]) rfl rfl ?_
  refine TL.nil ?_
  refine TQ.then_n ?_
  refine T.cond_f rfl (by simp; omega) ?_
  refine T.skip ?_
  refine TQ.then_n ?_
  refine T.seq ?_
  refine T.seq ?_
  refine T.region ?_
  refine TL.assign hF rfl rfl ?_
  refine TL.nil ?_
  refine TQ.then_n ?_
  refine T.block ?_
  refine T.loop (ι:=Nat) (fun i=>i≤ws.length) (fun i=>[(1,.int .i64 (M:Int)),(2,.int .i64 f),(6,.bool false),(7,.slice wa ws.length wc),(9,.slice ta ws.length tc),(11,ptr b11),(13,.int .i64 (i:Int))]) (fun _=>[(b11,Obj.cells ([.slice qa (queWords f [] (rollTo M ws ws.length)).length qc,.int .i64 jo]).toArray 45 (0,0))]::η) (fun i=>ws.length - i) 0 (Nat.zero_le _) ⟨rfl,rfl,rfl,rfl,rfl,rfl,rfl,trivial⟩ rfl ?_
  rintro i hi
  refine T.seq ?_
  refine T.seq ?_
  refine T.region ?_
  refine TL.move hF rfl rfl ?_
  refine TL.move hF rfl rfl ?_
  refine TL.len hF rfl rfl ?_
  refine TL.bin hF rfl rfl rfl rfl ?_
  refine TL.nil ?_
  refine TQ.then_n ?_
  first | refine T.cond_d rfl (fun ht78=>?_) (fun ht78=>?_) | refine T.cond _ rfl (fun ht78=>?_) (fun ht78=>?_)
  ·refine T.skip ?_
   refine TQ.then_n ?_
   refine T.seq ?_
   refine T.block ?_
   refine T.seq ?_
   refine T.region ?_
   have hil:i<ws.length:=by have h:(i:Int)<(ws.length:Int):=ht78; omega
   refine TL.move hF rfl rfl ?_
   refine TL.add hF rfl rfl (by first | omega | (dsimp only; omega)) (by first | omega | (dsimp only; omega)) rfl ?_
   refine TL.move hF rfl rfl ?_
   refine TL.sub hF rfl rfl (by first | omega | (dsimp only; omega)) (by first | omega | (dsimp only; omega)) rfl ?_
   refine TL.max2 hF rfl rfl rfl ?_
   refine TL.assign hF rfl rfl ?_
   refine TL.nil ?_
   refine TQ.then_n ?_
   refine T.seq ?_
   refine T.region ?_
   rw [show max 0 ((i:Int)+1 - (M:Int))=((i+1 - M:Nat):Int) by omega]
   refine TL.move hF rfl rfl ?_
   refine TL.add hF rfl rfl (by first | omega | (dsimp only; omega)) (by first | omega | (dsimp only; omega)) rfl ?_
   refine TL.move hF rfl rfl ?_
   refine TL.sub hF rfl rfl (by first | omega | (dsimp only; omega)) (by first | omega | (dsimp only; omega)) rfl ?_
   refine TL.buildSlice hF rfl (cs:=(ints [(i:Int)+1 - ((i+1 - M:Nat):Int),0,2147483647,-2147483648]).toArray) (e:=3) (fun w=>by kernel_rfl) rfl (fun b90=>?_)
   refine TL.move hF rfl rfl ?_
   refine TL.indexAddr hF rfl rfl ⟨_,rfl,rfl⟩ (by omega) (by omega) rfl ?_
   refine TL.load hF rfl (show At _ _ _ _ (.int .i64 (wantTo f ws M i (i+1 - M))) by have h9:=ints_at (S:=S3) (w0:=w3) (η:=[(b90,Obj.cells (ints [(i:Int)+1 - ((i+1 - M:Nat):Int),0,2147483647,-2147483648]).toArray 3 (0,0))]::[(b11,Obj.cells ([.slice qa (queWords f [] (rollTo M ws ws.length)).length qc,.int .i64 jo]).toArray 45 (0,0))]::η) (xs:=[(i:Int)+1 - ((i+1 - M:Nat):Int),0,2147483647,-2147483648]) (row_own (cs:=ints [(i:Int)+1 - ((i+1 - M:Nat):Int),0,2147483647,-2147483648]) (e:=3) (b:=b90) (by simp [ints])) (n:=f) (by omega) (i:=f.toNat) rfl (by simp only [List.length_cons,List.length_nil]; omega); rw [want_first (ws:=ws) ht2] at h9; exact h9) rfl ?_
   refine TL.assign hF rfl rfl ?_
   refine TL.nil ?_
   refine TQ.then_n ?_
   refine T.seq ?_
   refine T.seq ?_
   refine T.region ?_
   refine TL.move hF rfl rfl ?_
   refine TL.assign hF rfl rfl ?_
   refine TL.nil ?_
   refine TQ.then_n ?_
   refine T.block ?_
   refine T.hsub ([(b11,Obj.cells ([.slice qa (queWords f [] (rollTo M ws ws.length)).length qc,.int .i64 jo]).toArray 45 (0,0))]::η) (List.sublist_cons_self _ _) ?_
   refine T.loop (ι:=Nat) (fun k=>i+1 - M≤k∧k≤i+1) (fun k=>[(1,.int .i64 (M:Int)),(2,.int .i64 f),(6,.bool false),(7,.slice wa ws.length wc),(9,.slice ta ws.length tc),(11,ptr b11),(13,.int .i64 (i:Int)),(15,.int .i64 (wantTo f ws M i k)),(16,.int .i64 (k:Int))]) (fun _=>[(b11,Obj.cells ([.slice qa (queWords f [] (rollTo M ws ws.length)).length qc,.int .i64 jo]).toArray 45 (0,0))]::η) (fun k=>i+1 - k) (i+1 - M) ⟨Nat.le_refl _,by omega⟩ ⟨rfl,rfl,rfl,rfl,rfl,rfl,rfl,rfl,rfl,trivial⟩ rfl ?_
   rintro k ⟨hk1,hk2⟩
   refine T.seq ?_
   refine T.seq ?_
   refine T.region ?_
   refine TL.move hF rfl rfl ?_
   refine TL.move hF rfl rfl ?_
   refine TL.bin hF rfl rfl rfl rfl ?_
   refine TL.nil ?_
   refine TQ.then_n ?_
   first | refine T.cond_d rfl (fun ht97=>?_) (fun ht97=>?_) | refine T.cond _ rfl (fun ht97=>?_) (fun ht97=>?_)
   ·refine T.skip ?_
    refine TQ.then_n ?_
    refine T.seq ?_
    refine T.block ?_
    refine T.seq ?_
    refine T.region ?_
    refine TL.move hF rfl rfl ?_
    refine TL.nil ?_
    refine TQ.then_n ?_
    refine T.block ?_
    refine T.seq ?_
    refine T.region ?_
    refine TL.bin hF rfl rfl rfl rfl ?_
    refine TL.assign hF rfl rfl ?_
    refine TL.nil ?_
    refine TQ.then_n ?_
    refine T.cond_d rfl (fun ht101=>?_) (fun ht101=>?_)
    ·refine T.region ?_
     have hkl:k<ws.length:=by have h:(k:Int)≤(i:Int):=ht97; omega
     have hwk:=hww _ (List.getElem_mem hkl)
     have hwt:Wd (wantTo f ws M i k):=by
      unfold wantTo
      rw [if_neg (by omega)]
      exact wd_fold fun w h=>hww w (List.mem_of_mem_take (List.mem_of_mem_drop h))
     unfold Wd at hwk hwt
     refine TL.move hF rfl rfl ?_
     refine TL.move hF rfl rfl ?_
     refine TL.move hF rfl rfl ?_
     refine TL.indexAddr hF rfl rfl (hcs.adi (i:=k) (by simpa using hkl)) (by omega) (by omega) rfl ?_
     refine TL.load hF rfl (hcs.ro.int (i:=k) hkl) rfl ?_
     refine TL.add hF rfl rfl (by first | omega | (dsimp only; omega)) (by first | omega | (dsimp only; omega)) rfl ?_
     refine TL.callV hF (Word_fn (wantTo f ws M i k+ws[k])) rfl rfl ?_
     refine TL.assign hF rfl rfl ?_
     refine TL.nil ?_
     refine TQ.block_n ?_
     refine TQ.block_n ?_
     refine TQ.then_n ?_
     refine T.region ?_
     refine TL.move hF rfl rfl ?_
     refine TL.add hF rfl rfl (by first | omega | (dsimp only; omega)) (by first | omega | (dsimp only; omega)) rfl ?_
     refine TL.assign hF rfl rfl ?_
     refine TL.nil ?_
     have hki:k≤i:=by have h:(k:Int)≤(i:Int):=ht97; omega
     exact TQ.round (k+1) ⟨by omega,by omega⟩ (by omega) ⟨rfl,rfl,rfl,rfl,rfl,rfl,rfl,congrArg (fun z=>some (Value.int .i64 z)) (by rw [want_step hww hkl hk1 (by omega),show f=1 from ht101]; simp [twoF]),rfl,trivial⟩ rfl
    ·refine T.seq ?_
     refine T.region ?_
     refine TL.bin hF rfl rfl rfl rfl ?_
     refine TL.assign hF rfl rfl ?_
     refine TL.nil ?_
     refine TQ.then_n ?_
     refine T.cond_d rfl (fun ht110=>?_) (fun ht110=>?_)
     ·refine T.region ?_
      have hkl:k<ws.length:=by have h:(k:Int)≤(i:Int):=ht97; omega
      have hwk:=hww _ (List.getElem_mem hkl)
      have hwt:Wd (wantTo f ws M i k):=by
       unfold wantTo
       rw [if_neg (by omega)]
       exact wd_fold fun w h=>hww w (List.mem_of_mem_take (List.mem_of_mem_drop h))
      unfold Wd at hwk hwt
      refine TL.move hF rfl rfl ?_
      refine TL.move hF rfl rfl ?_
      refine TL.move hF rfl rfl ?_
      refine TL.indexAddr hF rfl rfl (hcs.adi (i:=k) (by simpa using hkl)) (by omega) (by omega) rfl ?_
      refine TL.load hF rfl (hcs.ro.int (i:=k) hkl) rfl ?_
      refine TL.min2 hF rfl rfl rfl ?_
      refine TL.assign hF rfl rfl ?_
      refine TL.nil ?_
      refine TQ.block_n ?_
      refine TQ.block_n ?_
      refine TQ.then_n ?_
      refine T.region ?_
      refine TL.move hF rfl rfl ?_
      refine TL.add hF rfl rfl (by first | omega | (dsimp only; omega)) (by first | omega | (dsimp only; omega)) rfl ?_
      refine TL.assign hF rfl rfl ?_
      refine TL.nil ?_
      have hki:k≤i:=by have h:(k:Int)≤(i:Int):=ht97; omega
      exact TQ.round (k+1) ⟨by omega,by omega⟩ (by omega) ⟨rfl,rfl,rfl,rfl,rfl,rfl,rfl,congrArg (fun z=>some (Value.int .i64 z)) (by rw [want_step hww hkl hk1 (by omega),show f=2 from ht110]; simp [twoF]),rfl,trivial⟩ rfl
     ·refine T.seq ?_
      refine T.region ?_
      refine TL.bin hF rfl rfl rfl rfl ?_
      refine TL.assign hF rfl rfl ?_
      refine TL.nil ?_
      refine TQ.then_n ?_
      refine T.cond_d rfl (fun ht118=>?_) (fun ht118=>?_)
      ·refine T.region ?_
       have hkl:k<ws.length:=by have h:(k:Int)≤(i:Int):=ht97; omega
       have hwk:=hww _ (List.getElem_mem hkl)
       have hwt:Wd (wantTo f ws M i k):=by
        unfold wantTo
        rw [if_neg (by omega)]
        exact wd_fold fun w h=>hww w (List.mem_of_mem_take (List.mem_of_mem_drop h))
       unfold Wd at hwk hwt
       refine TL.move hF rfl rfl ?_
       refine TL.move hF rfl rfl ?_
       refine TL.move hF rfl rfl ?_
       refine TL.indexAddr hF rfl rfl (hcs.adi (i:=k) (by simpa using hkl)) (by omega) (by omega) rfl ?_
       refine TL.load hF rfl (hcs.ro.int (i:=k) hkl) rfl ?_
       refine TL.max2 hF rfl rfl rfl ?_
       refine TL.assign hF rfl rfl ?_
       refine TL.nil ?_
       refine TQ.block_n ?_
       refine TQ.block_n ?_
       refine TQ.then_n ?_
       refine T.region ?_
       refine TL.move hF rfl rfl ?_
       refine TL.add hF rfl rfl (by first | omega | (dsimp only; omega)) (by first | omega | (dsimp only; omega)) rfl ?_
       refine TL.assign hF rfl rfl ?_
       refine TL.nil ?_
       have hki:k≤i:=by have h:(k:Int)≤(i:Int):=ht97; omega
       exact TQ.round (k+1) ⟨by omega,by omega⟩ (by omega) ⟨rfl,rfl,rfl,rfl,rfl,rfl,rfl,congrArg (fun z=>some (Value.int .i64 z)) (by rw [want_step hww hkl hk1 (by omega),show f=3 from ht118]; simp [twoF]),rfl,trivial⟩ rfl
      ·refine T.skip ?_
       refine TQ.block_n ?_
       refine TQ.block_n ?_
       refine TQ.then_n ?_
       refine T.region ?_
       refine TL.move hF rfl rfl ?_
       refine TL.add hF rfl rfl (by first | omega | (dsimp only; omega)) (by first | omega | (dsimp only; omega)) rfl ?_
       refine TL.assign hF rfl rfl ?_
       refine TL.nil ?_
       have hki:k≤i:=by have h:(k:Int)≤(i:Int):=ht97; omega
       exact TQ.round (k+1) ⟨by omega,by omega⟩ (by omega) ⟨rfl,rfl,rfl,rfl,rfl,rfl,rfl,congrArg (fun z=>some (Value.int .i64 z)) (by unfold wantTo; rw [if_pos (show f=0 by omega),if_pos (show f=0 by omega)]),rfl,trivial⟩ rfl
   ·refine T.exit ?_
    refine TQ.then_x ?_
    refine TQ.then_x ?_
    refine TQ.block_x ?_
    refine TQ.then_n ?_
    refine T.seq ?_
    have hki:k=i+1:=by have h:¬ (k:Int)≤(i:Int):=ht97; omega
    subst hki
    have hwe2:=want_end (f:=f) (m:=M) hil (by omega)
    have hra:rollAt M ws i<(queWords f [] (rollTo M ws ws.length)).length:=by
     have h1:=roll_at M ws i
     have h2:=(roll_pre M ws (i+1) ws.length (by omega)).length_le
     omega
    have hrw:=roll_word (f:=f) hM1 hww hil hra
    have hatl:i<(atsTo M ws ws.length).length:=by rw [atsTo_len]; exact hil
    have hqb:(queWords f [] (rollTo M ws ws.length)).length≤200:=by have:=roll_len M ws ws.length; omega
    refine T.draw ?_
    refine DR.stepV [_] rfl [(11,_,none)] rfl rfl ⟨⟨rfl,by kernel_rfl⟩,trivial⟩ (fun ext=>TL.fieldAddr hF rfl rfl TL.fin) ?_
    refine DR.stepV [_,_] rfl [(126,_,some 0)] rfl rfl ⟨⟨rfl,rfl,rfl⟩,trivial⟩ (fun ext=>TL.load hF rfl (show At _ _ _ _ (.slice qa (queWords f [] (rollTo M ws ws.length)).length qc) from own_mem (b:=b11) (cs:=([.slice qa (queWords f [] (rollTo M ws ws.length)).length qc,.int .i64 jo]).toArray) (e:=45) (fz:=(0,0)) (by simp) rfl) rfl TL.fin) ?_
    refine DR.stepV [_,_,_] rfl [(9,_,none)] rfl rfl ⟨⟨rfl,by kernel_rfl⟩,trivial⟩ (fun ext=>TL.move hF rfl rfl TL.fin) ?_
    refine DR.stepV [_,_,_,_] rfl [(13,_,none)] rfl rfl ⟨⟨rfl,by kernel_rfl⟩,trivial⟩ (fun ext=>TL.move hF rfl rfl TL.fin) ?_
    refine DR.stepV [_,_,_,_,_] rfl [(128,_,some 2),(129,_,some 3)] rfl rfl ⟨⟨rfl,rfl,rfl⟩,⟨rfl,rfl,rfl⟩,trivial⟩ (fun ext=>TL.indexAddr hF rfl rfl (hat.adi (i:=i) (by simpa using hatl)) (by omega) (by omega) rfl TL.fin) ?_
    refine DR.stepV [_,_,_,_,_,_] rfl [(130,_,some 4)] rfl rfl ⟨⟨rfl,rfl,rfl⟩,trivial⟩ (fun ext=>TL.load hF rfl (by have h9:=(hat.up (η':=[(b11,Obj.cells ([.slice qa (queWords f [] (rollTo M ws ws.length)).length qc,.int .i64 jo]).toArray 45 (0,0))]::η) (by simp)).int (i:=i) hatl; rw [atsTo_at] at h9; exact h9) rfl TL.fin) ?_
    refine DR.stepV [_,_,_,_,_,_,_] rfl [(127,_,some 1),(131,_,some 5)] rfl rfl ⟨⟨rfl,rfl,rfl⟩,⟨rfl,rfl,rfl⟩,trivial⟩ (fun ext=>TL.indexAddr hF rfl rfl (hq.adi (i:=rollAt M ws i) (by simpa using hra)) (by omega) (by omega) rfl TL.fin) ?_
    refine DR.stepV [_,_,_,_,_,_,_,_] rfl [(132,_,some 6)] rfl rfl ⟨⟨rfl,rfl,rfl⟩,trivial⟩ (fun ext=>TL.load hF rfl (by have h9:=(hq.up (η':=[(b11,Obj.cells ([.slice qa (queWords f [] (rollTo M ws ws.length)).length qc,.int .i64 jo]).toArray 45 (0,0))]::η) (by simp)).int (i:=rollAt M ws i) hra; rw [hrw,← hwe2] at h9; exact h9) rfl TL.fin) ?_
    refine DR.stepV [_,_,_,_,_,_,_,_,_] rfl [(15,_,none)] rfl rfl ⟨⟨rfl,by kernel_rfl⟩,trivial⟩ (fun ext=>TL.move hF rfl rfl TL.fin) ?_
    refine DR.done [(134,_),(133,_),(132,_),(131,_),(130,_),(129,_),(128,_),(127,_),(126,_)] [_] mixed (by kernel_rfl) (by kernel_rfl) (by kernel_rfl) rfl rfl ?_
    refine TL.bin hF rfl rfl rfl rfl ?_
    refine TL.nil ?_
    refine TQ.then_n ?_
    refine T.cond_f rfl (by simp) ?_
    refine T.skip ?_
    refine TQ.block_n ?_
    refine TQ.then_n ?_
    refine T.region ?_
    refine TL.move hF rfl rfl ?_
    refine TL.add hF rfl rfl (by first | omega | (dsimp only; omega)) (by first | omega | (dsimp only; omega)) rfl ?_
    refine TL.assign hF rfl rfl ?_
    refine TL.nil ?_
    exact TQ.round (i+1) (by omega) (by omega) ⟨rfl,rfl,rfl,rfl,rfl,rfl,rfl,trivial⟩ rfl
  ·refine T.exit ?_
   refine TQ.then_x ?_
   refine TQ.then_x ?_
   refine TQ.block_x ?_
   refine TQ.then_n ?_
   refine T.seq ?_
   refine T.region ?_
   refine TL.call hF (windowed_law hT) rfl rfl ?_
   rintro _ _ rfl
   refine TL.assign hF rfl rfl ?_
   refine TL.nil ?_
   refine TQ.then_n ?_
   refine T.ret ?_
   exact TQ.retsF [6] _ hb rfl rfl rfl (fun _=>rfl)
end Go.Proofs.YtbajelldegijkaaDoor
namespace Go.Proofs.YtbajelldegijkaaDoor
open Go.Sl Go.ChangeShapes Go.WideShapes Go.ChangeAt Go.RowKit
set_option maxRecDepth 100000 in
theorem windowRolls_lifted (os : Os) (started : os.Started) (H : Type) (enc : TypeId × Value → H) :
    ReturnsInHanded {} Tryd.checked os 10 .any (fun w args=>(Rows.windowRollsSpec.pre enc Tryd.prog Tryd.f10 [] false w args∧laidMetH Tryd.prog laidL w)∧sizedMet enc Tryd.prog Tryd.f10 (OpenSpec.ofChange Rows.windowRollsSpec) false w args)
      (Rows.windowRollsSpec.post enc Tryd.prog Tryd.f10 false true false false):=by
  refine returnsInHanded_of_change_and (C:=Tryd.checked) (X:=fun w _=>laidMetH Tryd.prog laidL w) (fun _ _ _ hh h=>h.of_heap hh) Tryd.own started (by kernel_rfl) Tryd.func10
    (ChangeSpec.witness_shaped (enc:=enc) (C:=Tryd.checked) (os:=os) (X:=fun w _=>laidMetH Tryd.prog laidL w) false (World.doorLaid Tryd.prog 2000 os) #[.slice none 0 0,.int .i64 0,.int .i64 0] 8 rfl (World.shaped_of_RefB (by kernel_rfl) (by kernel_rfl)) (by kernel_rfl) (by kernel_rfl) (by kernel_rfl) (door_met os _)) ?_
  intro W base args ds gs before hval0 hW _ hwt hL _
  have hval':∀ (j:Nat) t v,Tryd.f10.params[j]?=some t→args[j]?=some v→Value.okWide Tryd.prog W .any base t v:=hval0
  have hW':=hW
  obtain ⟨p,q,hA0,hV,rfl,hfz,hnd⟩:=hW
  have hA:DataW.TrodAll enc Tryd.prog W 0 (fun _=>true) true [43,3,3] args.toList ds p:=hA0
  obtain ⟨v0,v1,v2,d0,d1,d2,p0,p1,p2,rfl,rfl,rfl,h0,h1,h2⟩:=trodAll_three hA
  obtain ⟨_,_,_,rfl⟩:=okWide_slice uIs (hval' 0 43 v0 rfl rfl)
  obtain ⟨_,h0⟩:=h0
  obtain ⟨a0,xs0,c0,e0,hx0,hl0,hc0,hb0⟩:=ints_arg h0
  obtain ⟨z1,rfl,_,_,wz1⟩:=open_int u3 (hval' 1 3 v1 rfl rfl) h1
  have iz1:=wf_i64 wz1
  obtain ⟨z2,rfl,_,_,wz2⟩:=open_int u3 (hval' 2 3 v2 rfl rfl) h2
  have iz2:=wf_i64 wz2
  rw [e0] at hW' ⊢
  refine (calls_true (WindowRolls_fn (tabs_of_laid hL) hx0 hl0)).mono fun e W' ⟨he,hw⟩=>⟨_,he,?_⟩
  exact law_post (f:=Tryd.f10) Tryd.laidOut rfl 4 rfl u4 hW' rfl (by decide +kernel) hw
theorem windowRolls_said:Rows.WindowRollsSaid :=
  OpenClaim.holds_of_wide 10 Tryd.f10 rfl rfl rfl rfl rfl rfl rfl ⟨rfl,rfl,rfl,rfl,rfl⟩ rfl rfl rfl rfl rfl (by kernel_rfl) Tryd.func10 (by kernel_rfl)
    (of_decide_eq_true (by kernel_rfl)) (by unfold Func.isWrapper; first | (rw [if_pos (by decide +kernel)]; kernel_rfl) | (rw [if_neg (by decide +kernel)]; exact ⟨rfl,rfl⟩))
    (fun os started H enc _=>windowRolls_lifted os started H enc)
theorem windowRolls_holds:Rows.WindowRollsCardSaid :=
  Claim7.holds_tied_plain_at .later [] [.funcs] true (true, "edd8e981fe4d3e724f26595c5f9106e083d3da54a7e7e8d858f79c443b2db2cc") true
    windowRolls_said (fun _ h=>by cases h) (by kernel_rfl) (fun _ h=>by cases h) windowRolls_row_tie rfl ⟨rfl,rfl⟩ (by kernel_rfl) rfl
    (fun f fn hf hfn=>by
      obtain rfl : f = 10 := Option.some.inj ((show Tryd.prog.funcNamed "deltaworks/deltaworkslaw25.WindowRolls" = some 10 by kernel_rfl).symm.trans hf) |>.symm
      obtain rfl:fn=Tryd.f10:=(Option.some.inj (Tryd.func10.symm.trans hfn)).symm
      exact ⟨by kernel_rfl,fun j t ht=>by
        have ht2:(#[43,3,3]:Array TypeId)[j]?=some t:=ht
        have hm:t∈([43,3,3]:List TypeId):=by simpa using Array.mem_of_getElem? ht2
        have hall:(([43,3,3]:List TypeId).all fun u=>!Tryd.prog.wantsStandIn u)=true:=by kernel_rfl
        exact (show Tryd.prog.wantsStandIn t=false by simpa using List.all_eq_true.1 hall t hm)⟩)
    (by kernel_rfl)
#print axioms windowRolls_holds
end Go.Proofs.YtbajelldegijkaaDoor
