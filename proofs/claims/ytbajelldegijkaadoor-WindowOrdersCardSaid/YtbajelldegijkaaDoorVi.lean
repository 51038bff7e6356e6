/- Several texts in one. -/
import Derived.Test.YtbajelldegijkaaDoorVf
import Derived.Test.YtbajelldegijkaaDoorVg
import Derived.SizedLaws
/- Leaves of the laws: words, ways to cut and rows that numbers make; whether two lists are the same windows. -/
namespace Go.Proofs.YtbajelldegijkaaDoor
open Go.Sl
variable {S:Nat→Prop} {w0:World} {η:Heap}
/-- Five numbers. -/
structure N5 where
 a:Int
 b:Int
 c:Int
 d:Int
 e:Int
def n5C (n:N5):List Value:=[.int .i64 n.a,.int .i64 n.b,.int .i64 n.c,.int .i64 n.d,.int .i64 n.e]
def n5V (n:N5):Value:=.agg (n5C n).toArray
structure WS where
 i:Nat
 a:Option Addr
 c:Nat
 g:Seg
set_option maxHeartbeats 2000000 in
theorem Wrap_fn {a : Option Addr} {xs : List Int} {c m : Nat} (hx : Row S w0 [] a (ints xs)) (hl : xs.length < 9223372036854775808) (hm : m < 1000) :
  Rt Tryd.prog 32 [.slice a xs.length c,.int .i64 (m:Int)].toArray S w0 η (fun v η'=>∃ oa oc og,v = .slice oa ((xs.take m).map wrap32).length oc∧OSl 3 1 (.slice oa ((xs.take m).map wrap32).length oc) ((xs.take m).map wrap32).length (ints ((xs.take m).map wrap32)) og∧η'=og::η):=by
 have hF:=open_wide
 refine Rt.of (fn:=Tryd.f32) Tryd.func32 rfl rfl ?_
 refine T.seq ?_
 refine T.region ?_
 refine TL.assign hF rfl rfl ?_
 refine TL.nil ?_
 refine TQ.then_n ?_
 refine T.seq ?_
 refine T.region ?_
 refine TL.buildSlice hF rfl (cs:=#[]) (e:=3) (fun w=>by kernel_rfl) rfl (fun b7=>?_)
 refine TL.assign hF rfl rfl ?_
 refine TL.nil ?_
 refine TQ.then_n ?_
 refine T.seq ?_
 refine T.seq ?_
 refine T.region ?_
 refine TL.assign hF rfl rfl ?_
 refine TL.nil ?_
 refine TQ.then_n ?_
 refine T.block ?_
 refine T.loop (ι:=WS) (fun s=>s.i≤xs.length∧s.i≤m∧OSl 3 1 (.slice s.a s.i s.c) s.i (ints ((xs.take s.i).map wrap32)) s.g) (fun s=>[(0,.slice a xs.length c),(1,.int .i64 (m:Int)),(4,.slice none 0 0),(5,.slice s.a s.i s.c),(6,.int .i64 (s.i:Int))]) (fun s=>s.g::η) (fun s=>xs.length - s.i) ⟨0,some ⟨b7,0,none⟩,0,[(b7,Obj.cells #[] 3 (0,0))]⟩ ⟨Nat.zero_le _,Nat.zero_le _,osl_empty⟩ ⟨rfl,rfl,rfl,rfl,rfl,trivial⟩ rfl ?_
 rintro ⟨i,oa,oc,og⟩ ⟨hi,him,ho⟩
 dsimp only at hi him ho
 refine T.seq ?_
 refine T.seq ?_
 refine T.region ?_
 refine TL.move hF rfl rfl ?_
 refine TL.move hF rfl rfl ?_
 refine TL.len hF rfl rfl ?_
 refine TL.bin hF rfl rfl rfl rfl ?_
 refine TL.move hF rfl rfl ?_
 refine TL.gd (t:=12) rfl (fun g3_12=>?_) (fun g3_12=>?_)
 ·refine TL.on rfl rfl rfl (decide_eq_true g3_12) ?_
  refine TL.move hF rfl rfl ?_
  refine TL.on rfl rfl rfl (decide_eq_true g3_12) ?_
  refine TL.move hF rfl rfl ?_
  refine TL.on rfl rfl rfl (decide_eq_true g3_12) ?_
  refine TL.bin hF rfl rfl rfl rfl ?_
  refine TL.pickT hF rfl (decide_eq_true g3_12) rfl rfl ?_
  refine TL.nil ?_
  refine TQ.then_n ?_
  first | refine T.cond_d rfl (fun ht16=>?_) (fun ht16=>?_) | refine T.cond _ rfl (fun ht16=>?_) (fun ht16=>?_)
  ·refine T.skip ?_
   refine TQ.then_n ?_
   refine T.seq ?_
   refine T.block ?_
   refine T.region ?_
   refine TL.move hF rfl rfl ?_
   refine TL.move hF rfl rfl ?_
   refine TL.move hF rfl rfl ?_
   have hil:i<xs.length:=by have h:(i:Int)<(xs.length:Int):=g3_12; omega
   refine TL.indexAddr hF rfl rfl (hx.adi (i:=i) (by simpa using hil)) (by dsimp only; omega) (by dsimp only; omega) rfl ?_
   refine TL.load hF rfl (hx.ro.int (i:=i) hil) rfl ?_
   refine TL.callV hF (Word_fn xs[i]) rfl rfl ?_
   refine TL.buildSlice hF rfl (cs:=#[.int .i64 (wrap32 xs[i])]) (e:=3) (fun w=>by kernel_rfl) rfl (fun bq=>?_)
   refine TL.append hF 1 rfl rfl rfl ho (row_own (cs:=[.int .i64 (wrap32 xs[i])]) (e:=3) (by simp)).src rfl rfl (by simp [Value.oneCell']) (by omega) (by omega) rfl (fun pa pc pg ph=>?_)
   have htk:(xs.take (i+1)).map wrap32=(xs.take i).map wrap32++[wrap32 xs[i]]:=by rw [List.take_succ_eq_append_getElem hil,List.map_append]; rfl
   rw [show ints ((xs.take i).map wrap32)++[.int .i64 (wrap32 xs[i])]=ints ((xs.take (i+1)).map wrap32) by rw [htk]; simp [ints]] at ph
   refine TL.assign hF rfl rfl ?_
   refine TL.nil ?_
   refine TQ.block_n ?_
   refine TQ.then_n ?_
   refine T.region ?_
   refine TL.move hF rfl rfl ?_
   refine TL.add hF rfl rfl (by dsimp only; omega) (by dsimp only; omega) rfl ?_
   refine TL.assign hF rfl rfl ?_
   refine TL.nil ?_
   have him2:i<m:=by have h:(i:Int)<(m:Int):=ht16; omega
   refine TQ.pop ?_
   refine TQ.round ⟨i+1,pa,pc,pg⟩ ⟨by dsimp only; omega,by dsimp only; omega,ph⟩ (by dsimp only; omega) ⟨rfl,rfl,rfl,rfl,rfl,trivial⟩ rfl
  ·refine T.exit ?_
   refine TQ.then_x ?_
   refine TQ.then_x ?_
   refine TQ.block_x ?_
   refine TQ.then_n ?_
   refine T.seq ?_
   refine T.region ?_
   refine TL.move hF rfl rfl ?_
   refine TL.assign hF rfl rfl ?_
   refine TL.nil ?_
   refine TQ.then_n ?_
   refine T.ret ?_
   have hn:i=((xs.take m).map wrap32).length:=by
    have h:¬ (i:Int)<((m:Int)):=ht16
    rw [List.length_map,List.length_take]; omega
   have hl2:(xs.take i).map wrap32=(xs.take m).map wrap32:=by
    rw [List.length_map,List.length_take] at hn
    rcases Nat.lt_or_ge m xs.length with h1 | h1
    ·rw [show i=m by omega]
    ·rw [List.take_of_length_le (show xs.length≤i by omega),List.take_of_length_le h1]
   refine TQ.rets [4] _ rfl rfl rfl ?_
   rw [hl2,hn] at ho
   rw [hn]
   exact ⟨oa,oc,og,rfl,ho,rfl⟩
 ·refine TL.off hF rfl rfl rfl (decide_eq_false g3_12) rfl ?_
  refine TL.off hF rfl rfl rfl (decide_eq_false g3_12) rfl ?_
  refine TL.off hF rfl rfl rfl (decide_eq_false g3_12) rfl ?_
  refine TL.pickF hF rfl (decide_eq_false g3_12) rfl rfl ?_
  refine TL.nil ?_
  refine TQ.then_n ?_
  refine T.cond_f rfl rfl ?_
  refine T.exit ?_
  refine TQ.then_x ?_
  refine TQ.then_x ?_
  refine TQ.block_x ?_
  refine TQ.then_n ?_
  refine T.seq ?_
  refine T.region ?_
  refine TL.move hF rfl rfl ?_
  refine TL.assign hF rfl rfl ?_
  refine TL.nil ?_
  refine TQ.then_n ?_
  refine T.ret ?_
  have hn:i=((xs.take m).map wrap32).length:=by
   have h:¬ (i:Int)<((xs.length:Int)):=g3_12
   rw [List.length_map,List.length_take]; omega
  have hl2:(xs.take i).map wrap32=(xs.take m).map wrap32:=by
   rw [List.length_map,List.length_take] at hn
   rcases Nat.lt_or_ge m xs.length with h1 | h1
   ·rw [show i=m by omega]
   ·rw [List.take_of_length_le (show xs.length≤i by omega),List.take_of_length_le h1]
  refine TQ.rets [4] _ rfl rfl rfl ?_
  rw [hl2,hn] at ho
  rw [hn]
  exact ⟨oa,oc,og,rfl,ho,rfl⟩
/-- The way to cut that five numbers make. -/
def cutW (n:N5):Wsp:=⟨turnI n.a 2,1+turnI n.b 12,1+turnI n.c (1+turnI n.b 12),turnI n.d 10,turnI n.e 4⟩
theorem cutW_rng (n:N5):(0≤(cutW n).kind∧(cutW n).kind<2)∧(1≤(cutW n).size∧(cutW n).size≤12)∧(1≤(cutW n).step∧(cutW n).step≤(cutW n).size)∧(0≤(cutW n).late∧(cutW n).late<10)∧(0≤(cutW n).fold∧(cutW n).fold<4):=by
 have h1:=turnI_range n.a (m:=2) (by decide)
 have h2:=turnI_range n.b (m:=12) (by decide)
 have h3:=turnI_range n.c (m:=1+turnI n.b 12) (by omega)
 have h4:=turnI_range n.d (m:=10) (by decide)
 have h5:=turnI_range n.e (m:=4) (by decide)
 unfold cutW
 dsimp only
 omega
theorem cutW_ok (n:N5):okS (cutW n)=true:=by
 have h:=cutW_rng n
 unfold okS
 simp only [Bool.and_eq_true,Bool.or_eq_true,decide_eq_true_eq]
 omega
set_option maxHeartbeats 4000000 in
theorem cut_fn (n : N5) :
  Rt Tryd.prog 27 [n5V n].toArray S w0 η (fun v η'=>v=wsV (cutW n)∧η'=η):=by
 have hF:=open_wide
 refine Rt.of (fn:=Tryd.f27) Tryd.func27 rfl rfl ?_
 refine T.seq ?_
 refine T.region ?_
 refine TL.box hF rfl rfl (fun b1=>?_)
 refine TL.alloc hF rfl (fun b2=>?_)
 refine TL.nil ?_
 refine TQ.then_n ?_
 refine T.seq ?_
 have h2:=turnI_range n.b (m:=12) (by decide)
 refine T.drawH 15 mixed ?_
 refine DH.pure (i:=0) [(1,_,none)] rfl rfl rfl rfl ⟨⟨rfl,by kernel_rfl⟩,trivial⟩ (fun _ ext=>TL.indexAddrA hF rfl rfl (by omega) (by omega) rfl TL.fin) ?_
 refine DH.read (i:=1) [(4,_,some 0)] rfl rfl rfl rfl ⟨⟨rfl,rfl,rfl⟩,trivial⟩ (fun ext=>TL.load hF rfl (show At _ _ _ _ (.int .i64 n.a) from own_mem (b:=b1) (cs:=(n5V n).cells) (e:=53) (fz:=(0,0)) (by simp) rfl) rfl TL.fin) ?_
 refine DH.pure (i:=2) [(5,_,some 1)] rfl rfl rfl rfl ⟨⟨rfl,rfl,rfl⟩,trivial⟩ (fun _ ext=>TL.callV hF (Turn_fn n.a (m:=2) (by decide)) rfl rfl TL.fin) ?_
 refine DH.pure (i:=3) [(1,_,none)] rfl rfl rfl rfl ⟨⟨rfl,by kernel_rfl⟩,trivial⟩ (fun _ ext=>TL.indexAddrA hF rfl rfl (by omega) (by omega) rfl TL.fin) ?_
 refine DH.read (i:=4) [(7,_,some 3)] rfl rfl rfl rfl ⟨⟨rfl,rfl,rfl⟩,trivial⟩ (fun ext=>TL.load hF rfl (show At _ _ _ _ (.int .i64 n.b) from own_mem (b:=b1) (cs:=(n5V n).cells) (e:=53) (fz:=(0,0)) (by simp) rfl) rfl TL.fin) ?_
 refine DH.pure (i:=5) [(8,_,some 4)] rfl rfl rfl rfl ⟨⟨rfl,rfl,rfl⟩,trivial⟩ (fun _ ext=>TL.callV hF (Turn_fn n.b (m:=12) (by decide)) rfl rfl TL.fin) ?_
 refine DH.pure (i:=6) [(9,_,some 5)] rfl rfl rfl rfl ⟨⟨rfl,rfl,rfl⟩,trivial⟩ (fun _ ext=>TL.add hF rfl rfl (by omega) (by omega) rfl TL.fin) ?_
 refine DH.pure (i:=7) [(1,_,none)] rfl rfl rfl rfl ⟨⟨rfl,by kernel_rfl⟩,trivial⟩ (fun _ ext=>TL.indexAddrA hF rfl rfl (by omega) (by omega) rfl TL.fin) ?_
 refine DH.read (i:=8) [(11,_,some 7)] rfl rfl rfl rfl ⟨⟨rfl,rfl,rfl⟩,trivial⟩ (fun ext=>TL.load hF rfl (show At _ _ _ _ (.int .i64 n.d) from own_mem (b:=b1) (cs:=(n5V n).cells) (e:=53) (fz:=(0,0)) (by simp) rfl) rfl TL.fin) ?_
 refine DH.pure (i:=9) [(12,_,some 8)] rfl rfl rfl rfl ⟨⟨rfl,rfl,rfl⟩,trivial⟩ (fun _ ext=>TL.callV hF (Turn_fn n.d (m:=10) (by decide)) rfl rfl TL.fin) ?_
 refine DH.pure (i:=10) [(1,_,none)] rfl rfl rfl rfl ⟨⟨rfl,by kernel_rfl⟩,trivial⟩ (fun _ ext=>TL.indexAddrA hF rfl rfl (by omega) (by omega) rfl TL.fin) ?_
 refine DH.read (i:=11) [(14,_,some 10)] rfl rfl rfl rfl ⟨⟨rfl,rfl,rfl⟩,trivial⟩ (fun ext=>TL.load hF rfl (show At _ _ _ _ (.int .i64 n.e) from own_mem (b:=b1) (cs:=(n5V n).cells) (e:=53) (fz:=(0,0)) (by simp) rfl) rfl TL.fin) ?_
 refine DH.pure (i:=12) [(15,_,some 11)] rfl rfl rfl rfl ⟨⟨rfl,rfl,rfl⟩,trivial⟩ (fun _ ext=>TL.callV hF (Turn_fn n.e (m:=4) (by decide)) rfl rfl TL.fin) ?_
 refine DH.pure (i:=13) [(6,_,some 2),(10,_,some 6),(13,_,some 9),(16,_,some 12)] rfl rfl rfl rfl ⟨⟨rfl,rfl,rfl⟩,⟨rfl,rfl,rfl⟩,⟨rfl,rfl,rfl⟩,⟨rfl,rfl,rfl⟩,trivial⟩ (fun _ ext=>TL.build hF rfl (r:=wsV (⟨turnI n.a 2,1+turnI n.b 12,0,turnI n.d 10,turnI n.e 4⟩:Wsp)) (fun w=>by kernel_rfl) rfl TL.fin) ?_
 refine DH.k1 (by kernel_rfl) (by kernel_rfl) (by kernel_rfl) (by kernel_rfl) (HBK.mk (h:=14) [1,4,8,11] [] rfl rfl rfl trivial (by kernel_rfl) (fun ext=>?_))
 refine TL.alloc hF rfl (fun b3=>?_)
 refine TL.finK ⟨⟨_,rfl,_,_,[(4,_,some 0)],rfl,rfl,⟨⟨rfl,rfl,rfl⟩,trivial⟩,fun ext=>TL.load hF rfl (show At _ _ _ _ (.int .i64 n.a) from own_mem (b:=b1) (cs:=(n5V n).cells) (e:=53) (fz:=(0,0)) (by simp) rfl) rfl TL.fin⟩,⟨_,rfl,_,_,[(7,_,some 3)],rfl,rfl,⟨⟨rfl,rfl,rfl⟩,trivial⟩,fun ext=>TL.load hF rfl (show At _ _ _ _ (.int .i64 n.b) from own_mem (b:=b1) (cs:=(n5V n).cells) (e:=53) (fz:=(0,0)) (by simp) rfl) rfl TL.fin⟩,⟨_,rfl,_,_,[(11,_,some 7)],rfl,rfl,⟨⟨rfl,rfl,rfl⟩,trivial⟩,fun ext=>TL.load hF rfl (show At _ _ _ _ (.int .i64 n.d) from own_mem (b:=b1) (cs:=(n5V n).cells) (e:=53) (fz:=(0,0)) (by simp) rfl) rfl TL.fin⟩,⟨_,rfl,_,_,[(14,_,some 10)],rfl,rfl,⟨⟨rfl,rfl,rfl⟩,trivial⟩,fun ext=>TL.load hF rfl (show At _ _ _ _ (.int .i64 n.e) from own_mem (b:=b1) (cs:=(n5V n).cells) (e:=53) (fz:=(0,0)) (by simp) rfl) rfl TL.fin⟩,trivial⟩ ?_
 refine DH.done [(3,_),(17,_),(16,_),(15,_),(14,_),(13,_),(12,_),(11,_),(10,_),(9,_),(8,_),(7,_),(6,_),(5,_),(4,_)] [_] (by kernel_rfl) (by kernel_rfl) (by kernel_rfl) (by kernel_rfl) rfl rfl ?_
 refine TL.storeAs hF (wsC (⟨turnI n.a 2,1+turnI n.b 12,0,turnI n.d 10,turnI n.e 4⟩:Wsp)) (wsC (⟨turnI n.a 2,1+turnI n.b 12,0,turnI n.d 10,turnI n.e 4⟩:Wsp)) 0 (cs:=[.int .i64 0,.int .i64 0,.int .i64 0,.int .i64 0,.int .i64 0]) rfl rfl rfl rfl (wsC1 _) (Nat.le_refl 5) rfl ?_
 refine TL.nil ?_
 refine TQ.then_n ?_
 refine T.seq ?_
 refine T.region ?_
 refine TL.indexAddrA hF rfl rfl (by omega) (by omega) rfl ?_
 refine TL.load hF rfl (show At _ _ _ _ (.int .i64 n.c) from own_mem (b:=b1) (cs:=(n5V n).cells) (e:=53) (fz:=(0,0)) (by simp) rfl) rfl ?_
 refine TL.fieldAddr hF rfl rfl ?_
 refine TL.load hF rfl (show At _ _ _ _ (.int .i64 (1+turnI n.b 12)) from At.own' (i:=0) rfl rfl) rfl ?_
 refine TL.callV hF (Turn_fn n.c (m:=1+turnI n.b 12) (by omega)) rfl rfl ?_
 have h3:=turnI_range n.c (m:=1+turnI n.b 12) (by omega)
 refine TL.add hF rfl rfl (by omega) (by omega) rfl ?_
 refine TL.fieldAddr hF rfl rfl ?_
 refine TL.storeI hF 0 rfl rfl rfl rfl (by simp [wsC]) ?_
 refine TL.nil ?_
 refine TQ.then_n ?_
 refine T.seq ?_
 refine T.region ?_
 refine TL.loadA hF (wsC (cutW n)) rfl rfl (own_list (i:=0) (cs:=wsC (cutW n)) rfl) rfl ?_
 refine TL.storeAs hF (wsC (cutW n)) (wsC (cutW n)) 1 (cs:=[.int .i64 0,.int .i64 0,.int .i64 0,.int .i64 0,.int .i64 0]) rfl rfl rfl rfl (wsC1 _) (Nat.le_refl 5) rfl ?_
 refine TL.nil ?_
 refine TQ.then_n ?_
 refine T.ret ?_
 refine TQ.retC (wsC (cutW n)) η rfl rfl rfl (own_list (i:=1) (cs:=wsC (cutW n)) rfl) (List.Sublist.cons _ (List.Sublist.cons _ (List.sublist_cons_self _ _))) ⟨rfl,rfl⟩
def rowT (n:Int):Rw:=⟨Int.tmod n 41,Int.tmod (n / 41) 3,Int.tmod (n / 200) 17 - 8⟩
/-- The row that a number makes. -/
def rowOf (z:Int):Rw:=rowT (turnI z 1073741824)
def rowsOf (l:List Int):List Rw:=(l.take 30).map rowOf
theorem rowT_rng {n:Int} (h:0≤n):(0≤(rowT n).time∧(rowT n).time≤40)∧(0≤(rowT n).key∧(rowT n).key≤2)∧(-8≤(rowT n).word∧(rowT n).word≤8):=by
 unfold rowT
 dsimp only
 rw [Int.tmod_eq_emod_of_nonneg h,Int.tmod_eq_emod_of_nonneg (by omega),Int.tmod_eq_emod_of_nonneg (by omega)]
 omega
theorem rowOf_rng (z:Int):(0≤(rowOf z).time∧(rowOf z).time≤40)∧(0≤(rowOf z).key∧(rowOf z).key≤2)∧(-8≤(rowOf z).word∧(rowOf z).word≤8):=rowT_rng (turnI_range z (m:=1073741824) (by decide)).1
theorem rowsOf_len (l:List Int):(rowsOf l).length≤30:=by unfold rowsOf; rw [List.length_map,List.length_take]; omega
theorem rowsOf_mem {l:List Int} {r:Rw} (h:r∈rowsOf l):(0≤r.time∧r.time≤40)∧(0≤r.key∧r.key≤2)∧(-8≤r.word∧r.word≤8):=by
 obtain ⟨z,_,rfl⟩:=List.mem_map.1 h
 exact rowOf_rng z
theorem rowsOf_askd {s:Wsp} (hs:okS s=true) {l:List Int} {m:List Rw} (h:∀ r∈m,r∈rowsOf l) (hl:m.length≤300):Askd s m:=⟨hs,hl,List.all_eq_true.2 fun r hr=>by
 have:=rowsOf_mem (h r hr)
 unfold okR okT isW
 simp only [Bool.and_eq_true,decide_eq_true_eq]
 omega⟩
set_option maxHeartbeats 2000000 in
theorem streamL_fn {a : Option Addr} {l : List Int} {c : Nat} (hx : Row S w0 [] a (ints l)) (hl : l.length < 9223372036854775808) :
  Rt Tryd.prog 28 [.slice a l.length c].toArray S w0 η (fun v η'=>∃ oa oc og,v = .slice oa (rowsOf l).length oc∧OSl 57 3 (.slice oa (rowsOf l).length oc) (rowsOf l).length ((rowsOf l).flatMap rwC) og∧η'=og::η):=by
 have hF:=open_wide
 refine Rt.of (fn:=Tryd.f28) Tryd.func28 rfl rfl ?_
 refine T.seq ?_
 refine T.region ?_
 refine TL.assign hF rfl rfl ?_
 refine TL.nil ?_
 refine TQ.then_n ?_
 refine T.seq ?_
 refine T.region ?_
 refine TL.buildSlice hF rfl (cs:=#[]) (e:=57) (fun w=>by kernel_rfl) rfl (fun b7=>?_)
 refine TL.assign hF rfl rfl ?_
 refine TL.nil ?_
 refine TQ.then_n ?_
 refine T.seq ?_
 refine T.seq ?_
 refine T.region ?_
 refine TL.assign hF rfl rfl ?_
 refine TL.nil ?_
 refine TQ.then_n ?_
 refine T.block ?_
 refine T.loop (ι:=WS) (fun s=>s.i≤l.length∧s.i≤30∧OSl 57 3 (.slice s.a s.i s.c) s.i (((l.take s.i).map rowOf).flatMap rwC) s.g) (fun s=>[(0,.slice a l.length c),(2,.slice none 0 0),(3,.slice s.a s.i s.c),(4,.int .i64 (s.i:Int))]) (fun s=>s.g::η) (fun s=>l.length - s.i) ⟨0,some ⟨b7,0,none⟩,0,[(b7,Obj.cells #[] 57 (0,0))]⟩ ⟨Nat.zero_le _,Nat.zero_le _,osl_empty⟩ ⟨rfl,rfl,rfl,rfl,trivial⟩ rfl ?_
 rintro ⟨i,oa,oc,og⟩ ⟨hi,him,ho⟩
 dsimp only at hi him ho
 refine T.seq ?_
 refine T.seq ?_
 refine T.region ?_
 refine TL.move hF rfl rfl ?_
 refine TL.move hF rfl rfl ?_
 refine TL.len hF rfl rfl ?_
 refine TL.bin hF rfl rfl rfl rfl ?_
 refine TL.move hF rfl rfl ?_
 refine TL.gd (t:=11) rfl (fun g3_11=>?_) (fun g3_11=>?_)
 ·refine TL.on rfl rfl rfl (decide_eq_true g3_11) ?_
  refine TL.move hF rfl rfl ?_
  refine TL.on rfl rfl rfl (decide_eq_true g3_11) ?_
  refine TL.bin hF rfl rfl rfl rfl ?_
  refine TL.pickT hF rfl (decide_eq_true g3_11) rfl rfl ?_
  refine TL.nil ?_
  refine TQ.then_n ?_
  first | refine T.cond_d rfl (fun ht14=>?_) (fun ht14=>?_) | refine T.cond _ rfl (fun ht14=>?_) (fun ht14=>?_)
  ·refine T.skip ?_
   refine TQ.then_n ?_
   refine T.seq ?_
   refine T.block ?_
   refine T.seq ?_
   refine T.region ?_
   refine TL.move hF rfl rfl ?_
   refine TL.move hF rfl rfl ?_
   have hil:i<l.length:=by have h:(i:Int)<(l.length:Int):=g3_11; omega
   refine TL.indexAddr hF rfl rfl (hx.adi (i:=i) (by simpa using hil)) (by dsimp only; omega) (by dsimp only; omega) rfl ?_
   refine TL.load hF rfl (hx.ro.int (i:=i) hil) rfl ?_
   refine TL.callV hF (Turn_fn l[i] (m:=1073741824) (by decide)) rfl rfl ?_
   refine TL.assign hF rfl rfl ?_
   refine TL.nil ?_
   refine TQ.then_n ?_
   refine T.region ?_
   have hN:=turnI_range l[i] (m:=1073741824) (by decide)
   obtain ⟨N,hNe⟩:∃ N,turnI l[i] 1073741824=N:=⟨_,rfl⟩
   rw [hNe] at hN
   rw [hNe]
   have hT:=rowT_rng hN.1
   unfold rowT at hT
   dsimp only at hT
   refine TL.move hF rfl rfl ?_
   refine TL.move hF rfl rfl ?_
   refine TL.remI hF rfl rfl (by decide) rfl ?_
   refine TL.move hF rfl rfl ?_
   refine TL.quoI hF rfl rfl (by decide) (r:=N / 41) (by rw [Int.tdiv_eq_ediv_of_nonneg (by omega)]; exact wrap_i64 (by omega) (by omega)) rfl ?_
   refine TL.remI hF rfl rfl (by decide) rfl ?_
   refine TL.move hF rfl rfl ?_
   refine TL.quoI hF rfl rfl (by decide) (r:=N / 200) (by rw [Int.tdiv_eq_ediv_of_nonneg (by omega)]; exact wrap_i64 (by omega) (by omega)) rfl ?_
   refine TL.remI hF rfl rfl (by decide) rfl ?_
   refine TL.sub hF rfl rfl (by omega) (by omega) rfl ?_
   refine TL.callV hF (row_fn (Int.tmod N 41) (Int.tmod (N / 41) 3) (Int.tmod (N / 200) 17 - 8)) rfl rfl ?_
   have hre:(⟨Int.tmod N 41,Int.tmod (N / 41) 3,Int.tmod (N / 200) 17 - 8⟩:Rw)=rowOf l[i]:=by unfold rowOf; rw [hNe]; rfl
   rw [hre]
   refine TL.buildSlice hF rfl (cs:=(rwC (rowOf l[i])).toArray) (e:=57) (fun w=>by kernel_rfl) rfl (fun bq=>?_)
   refine TL.append hF 1 rfl rfl rfl ho (row_own (cs:=rwC (rowOf l[i])) (e:=57) (b:=bq) (by simp)).src rfl rfl (rwC1 _) (by omega) (by omega) rfl (fun pa pc pg ph=>?_)
   have htk:((l.take (i+1)).map rowOf)=((l.take i).map rowOf)++[rowOf l[i]]:=by rw [List.take_succ_eq_append_getElem hil,List.map_append]; rfl
   rw [flat_snoc,← htk] at ph
   refine TL.assign hF rfl rfl ?_
   refine TL.nil ?_
   refine TQ.block_n ?_
   refine TQ.then_n ?_
   refine T.region ?_
   refine TL.move hF rfl rfl ?_
   refine TL.add hF rfl rfl (by first | omega | (dsimp only; omega)) (by first | omega | (dsimp only; omega)) rfl ?_
   refine TL.assign hF rfl rfl ?_
   refine TL.nil ?_
   have him2:i<30:=by have h:(i:Int)<30:=ht14; omega
   refine TQ.pop ?_
   refine TQ.round ⟨i+1,pa,pc,pg⟩ ⟨by dsimp only; omega,by dsimp only; omega,ph⟩ (by dsimp only; omega) ⟨rfl,rfl,rfl,rfl,trivial⟩ rfl
  ·refine T.exit ?_
   refine TQ.then_x ?_
   refine TQ.then_x ?_
   refine TQ.block_x ?_
   refine TQ.then_n ?_
   refine T.seq ?_
   refine T.region ?_
   refine TL.move hF rfl rfl ?_
   refine TL.assign hF rfl rfl ?_
   refine TL.nil ?_
   refine TQ.then_n ?_
   refine T.ret ?_
   have hn:i=(rowsOf l).length:=by
    have h:¬ (i:Int)<(30):=ht14
    unfold rowsOf
    rw [List.length_map,List.length_take]; omega
   have hl2:((l.take i).map rowOf)=rowsOf l:=by
    unfold rowsOf at hn ⊢
    rw [List.length_map,List.length_take] at hn
    rcases Nat.lt_or_ge 30 l.length with h1 | h1
    ·rw [show i=30 by omega]
    ·rw [List.take_of_length_le (show l.length≤i by omega),List.take_of_length_le h1]
   refine TQ.rets [2] _ rfl rfl rfl ?_
   rw [hl2,hn] at ho
   rw [hn]
   exact ⟨oa,oc,og,rfl,ho,rfl⟩
 ·refine TL.off hF rfl rfl rfl (decide_eq_false g3_11) rfl ?_
  refine TL.off hF rfl rfl rfl (decide_eq_false g3_11) rfl ?_
  refine TL.pickF hF rfl (decide_eq_false g3_11) rfl rfl ?_
  refine TL.nil ?_
  refine TQ.then_n ?_
  refine T.cond_f rfl rfl ?_
  refine T.exit ?_
  refine TQ.then_x ?_
  refine TQ.then_x ?_
  refine TQ.block_x ?_
  refine TQ.then_n ?_
  refine T.seq ?_
  refine T.region ?_
  refine TL.move hF rfl rfl ?_
  refine TL.assign hF rfl rfl ?_
  refine TL.nil ?_
  refine TQ.then_n ?_
  refine T.ret ?_
  have hn:i=(rowsOf l).length:=by
   have h:¬ (i:Int)<((l.length:Int)):=g3_11
   unfold rowsOf
   rw [List.length_map,List.length_take]; omega
  have hl2:((l.take i).map rowOf)=rowsOf l:=by
   unfold rowsOf at hn ⊢
   rw [List.length_map,List.length_take] at hn
   rcases Nat.lt_or_ge 30 l.length with h1 | h1
   ·rw [show i=30 by omega]
   ·rw [List.take_of_length_le (show l.length≤i by omega),List.take_of_length_le h1]
  refine TQ.rets [2] _ rfl rfl rfl ?_
  rw [hl2,hn] at ho
  rw [hn]
  exact ⟨oa,oc,og,rfl,ho,rfl⟩
set_option maxHeartbeats 2000000 in
theorem same_fn {a b : Option Addr} {l m : List Ot} {c d : Nat} (hx : ORow S w0 η a l) (hy : ORow S w0 η b m) (hn : l.Nodup) (hp : l.Perm m) (hl : l.length < 1000000000000) :
  Rt Tryd.prog 29 [.slice a l.length c,.slice b m.length d].toArray S w0 η (fun v η'=>v = .bool true∧η'=η):=by
 have hF:=open_wide
 refine Rt.of (fn:=Tryd.f29) Tryd.func29 rfl rfl ?_
 refine T.seq ?_
 refine T.region ?_
 refine TL.assign hF rfl rfl ?_
 refine TL.nil ?_
 refine TQ.then_n ?_
 refine T.seq ?_
 refine T.seq ?_
 refine T.region ?_
 refine TL.move hF rfl rfl ?_
 refine TL.len hF rfl rfl ?_
 refine TL.move hF rfl rfl ?_
 refine TL.len hF rfl rfl ?_
 refine TL.bin hF rfl rfl rfl rfl ?_
 refine TL.nil ?_
 refine TQ.then_n ?_
 refine T.cond_f rfl (by rw [hp.length_eq]; simp) ?_
 refine T.skip ?_
 refine TQ.then_n ?_
 refine T.seq ?_
 refine T.seq ?_
 refine T.region ?_
 refine TL.assign hF rfl rfl ?_
 refine TL.nil ?_
 refine TQ.then_n ?_
 refine T.block ?_
 have hlm:=hp.length_eq
 refine T.loop (ι:=Nat) (fun i=>i≤l.length) (fun i=>[(0,.slice a l.length c),(1,.slice b m.length d),(4,.bool false),(5,.int .i64 (i:Int))]) (fun _=>η) (fun i=>l.length - i) 0 (Nat.zero_le _) ⟨rfl,rfl,rfl,rfl,trivial⟩ rfl ?_
 rintro i hi
 refine T.seq ?_
 refine T.seq ?_
 refine T.region ?_
 refine TL.move hF rfl rfl ?_
 refine TL.move hF rfl rfl ?_
 refine TL.len hF rfl rfl ?_
 refine TL.bin hF rfl rfl rfl rfl ?_
 refine TL.nil ?_
 refine TQ.then_n ?_
 first | refine T.cond_d rfl (fun ht16=>?_) (fun ht16=>?_) | refine T.cond _ rfl (fun ht16=>?_) (fun ht16=>?_)
 ·refine T.skip ?_
  refine TQ.then_n ?_
  refine T.seq ?_
  refine T.block ?_
  refine T.seq ?_
  refine T.region ?_
  refine TL.assign hF rfl rfl ?_
  refine TL.nil ?_
  refine TQ.then_n ?_
  refine T.seq ?_
  refine T.seq ?_
  refine T.region ?_
  refine TL.assign hF rfl rfl ?_
  refine TL.nil ?_
  refine TQ.then_n ?_
  refine T.block ?_
  have hil:i<l.length:=by have h:(i:Int)<(l.length:Int):=ht16; omega
  refine T.loop (ι:=Nat) (fun k=>k≤m.length) (fun k=>[(0,.slice a l.length c),(1,.slice b m.length d),(4,.bool false),(5,.int .i64 (i:Int)),(6,.int .i64 (((m.take k).count l[i]):Int)),(7,.int .i64 (k:Int))]) (fun _=>η) (fun k=>m.length - k) 0 (Nat.zero_le _) ⟨rfl,rfl,rfl,rfl,rfl,rfl,trivial⟩ rfl ?_
  rintro k hk
  refine T.seq ?_
  refine T.seq ?_
  refine T.region ?_
  refine TL.move hF rfl rfl ?_
  refine TL.move hF rfl rfl ?_
  refine TL.len hF rfl rfl ?_
  refine TL.bin hF rfl rfl rfl rfl ?_
  refine TL.nil ?_
  refine TQ.then_n ?_
  first | refine T.cond_d rfl (fun ht22=>?_) (fun ht22=>?_) | refine T.cond _ rfl (fun ht22=>?_) (fun ht22=>?_)
  ·refine T.skip ?_
   refine TQ.then_n ?_
   refine T.seq ?_
   refine T.block ?_
   refine T.seq ?_
   refine T.seq ?_
   have hkm:k<m.length:=by have h:(k:Int)<(m.length:Int):=ht22; omega
   have hkl:k<l.length:=by omega
   have hst:((m.take (k+1)).count l[i])=((m.take k).count l[i])+if m[k]=l[i] then 1 else 0:=by rw [List.take_succ_eq_append_getElem hkm,List.count_append,List.count_singleton]; simp only [beq_iff_eq]
   have hcb:((m.take k).count l[i])≤k:=Nat.le_trans List.count_le_length (by rw [List.length_take]; omega)
   refine T.draw ?_
   refine DR.stepV [_] rfl [(1,_,none)] rfl rfl ⟨⟨rfl,by kernel_rfl⟩,trivial⟩ (fun ext=>TL.move hF rfl rfl TL.fin) ?_
   refine DR.stepV [_,_] rfl [(7,_,none)] rfl rfl ⟨⟨rfl,by kernel_rfl⟩,trivial⟩ (fun ext=>TL.move hF rfl rfl TL.fin) ?_
   refine DR.stepV [_,_,_] rfl [(25,_,some 0),(26,_,some 1)] rfl rfl ⟨⟨rfl,rfl,rfl⟩,⟨rfl,rfl,rfl⟩,trivial⟩ (fun ext=>TL.indexAddr hF rfl rfl (or_ad hy hkm) (by omega) (by omega) rfl TL.fin) ?_
   refine DR.stepV [_,_,_,_] rfl [(27,_,some 2)] rfl rfl ⟨⟨rfl,rfl,rfl⟩,trivial⟩ (fun ext=>TL.loadA hF (otC m[k]) rfl rfl (or_at hy hkm) rfl TL.fin) ?_
   refine DR.stepV [_,_,_,_,_] rfl [(0,_,none)] rfl rfl ⟨⟨rfl,by kernel_rfl⟩,trivial⟩ (fun ext=>TL.move hF rfl rfl TL.fin) ?_
   refine DR.stepV [_,_,_,_,_,_] rfl [(5,_,none)] rfl rfl ⟨⟨rfl,by kernel_rfl⟩,trivial⟩ (fun ext=>TL.move hF rfl rfl TL.fin) ?_
   refine DR.stepV [_,_,_,_,_,_,_] rfl [(29,_,some 4),(30,_,some 5)] rfl rfl ⟨⟨rfl,rfl,rfl⟩,⟨rfl,rfl,rfl⟩,trivial⟩ (fun ext=>TL.indexAddr hF rfl rfl (or_ad hx hil) (by omega) (by omega) rfl TL.fin) ?_
   refine DR.stepV [_,_,_,_,_,_,_,_] rfl [(31,_,some 6)] rfl rfl ⟨⟨rfl,rfl,rfl⟩,trivial⟩ (fun ext=>TL.loadA hF (otC l[i]) rfl rfl (or_at hx hil) rfl TL.fin) ?_
   refine DR.done [(32,_),(31,_),(30,_),(29,_),(28,_),(27,_),(26,_),(25,_)] [_] mixed (by kernel_rfl) (by kernel_rfl) (by kernel_rfl) rfl rfl ?_
   refine TL.eqlA hF rfl rfl (by kernel_rfl) (eqOt m[k] l[i]) rfl ?_
   refine TL.nil ?_
   refine TQ.then_n ?_
   refine T.cond_d rfl (fun ht33=>?_) (fun ht33=>?_)
   ·refine T.region ?_
    refine TL.move hF rfl rfl ?_
    refine TL.add hF rfl rfl (by omega) (by omega) rfl ?_
    refine TL.assign hF rfl rfl ?_
    refine TL.nil ?_
    refine TQ.then_n ?_
    refine T.seq ?_
    by_cases hki:k=i
    ·refine T.draw ?_
     refine DR.stepV [_] rfl [(7,_,none)] rfl rfl ⟨⟨rfl,by kernel_rfl⟩,trivial⟩ (fun ext=>TL.move hF rfl rfl TL.fin) ?_
     refine DR.stepV [_,_] rfl [(5,_,none)] rfl rfl ⟨⟨rfl,by kernel_rfl⟩,trivial⟩ (fun ext=>TL.move hF rfl rfl TL.fin) ?_
     refine DR.stepV [_,_,_] rfl [(36,_,some 0),(37,_,some 1)] rfl rfl ⟨⟨rfl,rfl,rfl⟩,⟨rfl,rfl,rfl⟩,trivial⟩ (fun ext=>TL.bin hF rfl rfl rfl rfl TL.fin) ?_
     refine DR.stepV [_,_,_,_] rfl [(38,_,some 2)] rfl rfl ⟨⟨rfl,rfl,rfl⟩,trivial⟩ (fun ext=>TL.move hF rfl rfl TL.fin) ?_
     refine DR.stepV [_,_,_,_,_] rfl [(0,_,none),(39,_,some 3)] rfl rfl ⟨⟨rfl,by kernel_rfl⟩,⟨rfl,rfl,rfl⟩,trivial⟩ (fun ext=>TL.off hF rfl rfl rfl (by simp [hki]) rfl TL.fin) ?_
     refine DR.stepV [_,_,_,_,_,_] rfl [(7,_,none),(39,_,some 3)] rfl rfl ⟨⟨rfl,by kernel_rfl⟩,⟨rfl,rfl,rfl⟩,trivial⟩ (fun ext=>TL.off hF rfl rfl rfl (by simp [hki]) rfl TL.fin) ?_
     refine DR.stepV [_,_,_,_,_,_,_] rfl [(40,_,some 4),(41,_,some 5),(39,_,some 3)] rfl rfl ⟨⟨rfl,rfl,rfl⟩,⟨rfl,rfl,rfl⟩,⟨rfl,rfl,rfl⟩,trivial⟩ (fun ext=>TL.off hF rfl rfl rfl (by simp [hki]) rfl TL.fin) ?_
     refine DR.stepV [_,_,_,_,_,_,_,_] rfl [(42,_,some 6),(39,_,some 3)] rfl rfl ⟨⟨rfl,rfl,rfl⟩,⟨rfl,rfl,rfl⟩,trivial⟩ (fun ext=>TL.off hF rfl rfl rfl (by simp [hki]) rfl TL.fin) ?_
     refine DR.stepV [_,_,_,_,_,_,_,_,_] rfl [(0,_,none),(39,_,some 3)] rfl rfl ⟨⟨rfl,by kernel_rfl⟩,⟨rfl,rfl,rfl⟩,trivial⟩ (fun ext=>TL.off hF rfl rfl rfl (by simp [hki]) rfl TL.fin) ?_
     refine DR.stepV [_,_,_,_,_,_,_,_,_,_] rfl [(5,_,none),(39,_,some 3)] rfl rfl ⟨⟨rfl,by kernel_rfl⟩,⟨rfl,rfl,rfl⟩,trivial⟩ (fun ext=>TL.off hF rfl rfl rfl (by simp [hki]) rfl TL.fin) ?_
     refine DR.stepV [_,_,_,_,_,_,_,_,_,_,_] rfl [(44,_,some 8),(45,_,some 9),(39,_,some 3)] rfl rfl ⟨⟨rfl,rfl,rfl⟩,⟨rfl,rfl,rfl⟩,⟨rfl,rfl,rfl⟩,trivial⟩ (fun ext=>TL.off hF rfl rfl rfl (by simp [hki]) rfl TL.fin) ?_
     refine DR.stepV [_,_,_,_,_,_,_,_,_,_,_,_] rfl [(46,_,some 10),(39,_,some 3)] rfl rfl ⟨⟨rfl,rfl,rfl⟩,⟨rfl,rfl,rfl⟩,trivial⟩ (fun ext=>TL.off hF rfl rfl rfl (by simp [hki]) rfl TL.fin) ?_
     refine DR.done [(47,_),(46,_),(45,_),(44,_),(43,_),(42,_),(41,_),(40,_),(39,_),(38,_),(37,_),(36,_)] [_,_] mixed (by kernel_rfl) (by kernel_rfl) (by kernel_rfl) rfl rfl ?_
     refine TL.off hF rfl rfl rfl (by simp [hki]) rfl ?_
     refine TL.pickF hF rfl (by simp [hki]) rfl rfl ?_
     refine TL.nil ?_
     refine TQ.then_n ?_
     refine T.cond_f rfl rfl ?_
     refine T.skip ?_
     refine TQ.block_n ?_
     refine TQ.then_n ?_
     refine T.region ?_
     refine TL.move hF rfl rfl ?_
     refine TL.add hF rfl rfl (by omega) (by omega) rfl ?_
     refine TL.assign hF rfl rfl ?_
     refine TL.nil ?_
     have hc9:((m.take (k+1)).count l[i])=((m.take k).count l[i])+1:=by rw [hst,if_pos ht33]
     exact TQ.round (k+1) (by omega) (by omega) ⟨rfl,rfl,rfl,rfl,by rw [hc9]; rfl,rfl,trivial⟩ rfl
    ·refine T.draw ?_
     refine DR.stepV [_] rfl [(7,_,none)] rfl rfl ⟨⟨rfl,by kernel_rfl⟩,trivial⟩ (fun ext=>TL.move hF rfl rfl TL.fin) ?_
     refine DR.stepV [_,_] rfl [(5,_,none)] rfl rfl ⟨⟨rfl,by kernel_rfl⟩,trivial⟩ (fun ext=>TL.move hF rfl rfl TL.fin) ?_
     refine DR.stepV [_,_,_] rfl [(36,_,some 0),(37,_,some 1)] rfl rfl ⟨⟨rfl,rfl,rfl⟩,⟨rfl,rfl,rfl⟩,trivial⟩ (fun ext=>TL.bin hF rfl rfl rfl rfl TL.fin) ?_
     refine DR.stepV [_,_,_,_] rfl [(38,_,some 2)] rfl rfl ⟨⟨rfl,rfl,rfl⟩,trivial⟩ (fun ext=>TL.move hF rfl rfl TL.fin) ?_
     refine DR.stepV [_,_,_,_,_] rfl [(0,_,none),(39,_,some 3)] rfl rfl ⟨⟨rfl,by kernel_rfl⟩,⟨rfl,rfl,rfl⟩,trivial⟩ (fun ext=>TL.on rfl rfl rfl (by simp; omega) <| TL.move hF rfl rfl TL.fin) ?_
     refine DR.stepV [_,_,_,_,_,_] rfl [(7,_,none),(39,_,some 3)] rfl rfl ⟨⟨rfl,by kernel_rfl⟩,⟨rfl,rfl,rfl⟩,trivial⟩ (fun ext=>TL.on rfl rfl rfl (by simp; omega) <| TL.move hF rfl rfl TL.fin) ?_
     refine DR.stepV [_,_,_,_,_,_,_] rfl [(40,_,some 4),(41,_,some 5),(39,_,some 3)] rfl rfl ⟨⟨rfl,rfl,rfl⟩,⟨rfl,rfl,rfl⟩,⟨rfl,rfl,rfl⟩,trivial⟩ (fun ext=>TL.on rfl rfl rfl (by simp; omega) <| TL.indexAddr hF rfl rfl (or_ad hx hkl) (by omega) (by omega) rfl TL.fin) ?_
     refine DR.stepV [_,_,_,_,_,_,_,_] rfl [(42,_,some 6),(39,_,some 3)] rfl rfl ⟨⟨rfl,rfl,rfl⟩,⟨rfl,rfl,rfl⟩,trivial⟩ (fun ext=>TL.on rfl rfl rfl (by simp; omega) <| TL.loadA hF (otC l[k]) rfl rfl (or_at hx hkl) rfl TL.fin) ?_
     refine DR.stepV [_,_,_,_,_,_,_,_,_] rfl [(0,_,none),(39,_,some 3)] rfl rfl ⟨⟨rfl,by kernel_rfl⟩,⟨rfl,rfl,rfl⟩,trivial⟩ (fun ext=>TL.on rfl rfl rfl (by simp; omega) <| TL.move hF rfl rfl TL.fin) ?_
     refine DR.stepV [_,_,_,_,_,_,_,_,_,_] rfl [(5,_,none),(39,_,some 3)] rfl rfl ⟨⟨rfl,by kernel_rfl⟩,⟨rfl,rfl,rfl⟩,trivial⟩ (fun ext=>TL.on rfl rfl rfl (by simp; omega) <| TL.move hF rfl rfl TL.fin) ?_
     refine DR.stepV [_,_,_,_,_,_,_,_,_,_,_] rfl [(44,_,some 8),(45,_,some 9),(39,_,some 3)] rfl rfl ⟨⟨rfl,rfl,rfl⟩,⟨rfl,rfl,rfl⟩,⟨rfl,rfl,rfl⟩,trivial⟩ (fun ext=>TL.on rfl rfl rfl (by simp; omega) <| TL.indexAddr hF rfl rfl (or_ad hx hil) (by omega) (by omega) rfl TL.fin) ?_
     refine DR.stepV [_,_,_,_,_,_,_,_,_,_,_,_] rfl [(46,_,some 10),(39,_,some 3)] rfl rfl ⟨⟨rfl,rfl,rfl⟩,⟨rfl,rfl,rfl⟩,trivial⟩ (fun ext=>TL.on rfl rfl rfl (by simp; omega) <| TL.loadA hF (otC l[i]) rfl rfl (or_at hx hil) rfl TL.fin) ?_
     refine DR.done [(47,_),(46,_),(45,_),(44,_),(43,_),(42,_),(41,_),(40,_),(39,_),(38,_),(37,_),(36,_)] [_,_] mixed (by kernel_rfl) (by kernel_rfl) (by kernel_rfl) rfl rfl ?_
     refine TL.on rfl rfl rfl (by simp; omega) ?_
     refine TL.eqlA hF rfl rfl (by kernel_rfl) (eqOt l[k] l[i]) rfl ?_
     refine TL.pickT hF rfl (by simp; omega) rfl rfl ?_
     refine TL.nil ?_
     refine TQ.then_n ?_
     refine T.cond_f rfl (decide_eq_false (fun e=>hki ((List.getElem_inj hn).1 e))) ?_
     refine T.skip ?_
     refine TQ.block_n ?_
     refine TQ.then_n ?_
     refine T.region ?_
     refine TL.move hF rfl rfl ?_
     refine TL.add hF rfl rfl (by omega) (by omega) rfl ?_
     refine TL.assign hF rfl rfl ?_
     refine TL.nil ?_
     have hc9:((m.take (k+1)).count l[i])=((m.take k).count l[i])+1:=by rw [hst,if_pos ht33]
     exact TQ.round (k+1) (by omega) (by omega) ⟨rfl,rfl,rfl,rfl,by rw [hc9]; rfl,rfl,trivial⟩ rfl
   ·refine T.skip ?_
    refine TQ.then_n ?_
    refine T.seq ?_
    by_cases hki:k=i
    ·refine T.draw ?_
     refine DR.stepV [_] rfl [(7,_,none)] rfl rfl ⟨⟨rfl,by kernel_rfl⟩,trivial⟩ (fun ext=>TL.move hF rfl rfl TL.fin) ?_
     refine DR.stepV [_,_] rfl [(5,_,none)] rfl rfl ⟨⟨rfl,by kernel_rfl⟩,trivial⟩ (fun ext=>TL.move hF rfl rfl TL.fin) ?_
     refine DR.stepV [_,_,_] rfl [(36,_,some 0),(37,_,some 1)] rfl rfl ⟨⟨rfl,rfl,rfl⟩,⟨rfl,rfl,rfl⟩,trivial⟩ (fun ext=>TL.bin hF rfl rfl rfl rfl TL.fin) ?_
     refine DR.stepV [_,_,_,_] rfl [(38,_,some 2)] rfl rfl ⟨⟨rfl,rfl,rfl⟩,trivial⟩ (fun ext=>TL.move hF rfl rfl TL.fin) ?_
     refine DR.stepV [_,_,_,_,_] rfl [(0,_,none),(39,_,some 3)] rfl rfl ⟨⟨rfl,by kernel_rfl⟩,⟨rfl,rfl,rfl⟩,trivial⟩ (fun ext=>TL.off hF rfl rfl rfl (by simp [hki]) rfl TL.fin) ?_
     refine DR.stepV [_,_,_,_,_,_] rfl [(7,_,none),(39,_,some 3)] rfl rfl ⟨⟨rfl,by kernel_rfl⟩,⟨rfl,rfl,rfl⟩,trivial⟩ (fun ext=>TL.off hF rfl rfl rfl (by simp [hki]) rfl TL.fin) ?_
     refine DR.stepV [_,_,_,_,_,_,_] rfl [(40,_,some 4),(41,_,some 5),(39,_,some 3)] rfl rfl ⟨⟨rfl,rfl,rfl⟩,⟨rfl,rfl,rfl⟩,⟨rfl,rfl,rfl⟩,trivial⟩ (fun ext=>TL.off hF rfl rfl rfl (by simp [hki]) rfl TL.fin) ?_
     refine DR.stepV [_,_,_,_,_,_,_,_] rfl [(42,_,some 6),(39,_,some 3)] rfl rfl ⟨⟨rfl,rfl,rfl⟩,⟨rfl,rfl,rfl⟩,trivial⟩ (fun ext=>TL.off hF rfl rfl rfl (by simp [hki]) rfl TL.fin) ?_
     refine DR.stepV [_,_,_,_,_,_,_,_,_] rfl [(0,_,none),(39,_,some 3)] rfl rfl ⟨⟨rfl,by kernel_rfl⟩,⟨rfl,rfl,rfl⟩,trivial⟩ (fun ext=>TL.off hF rfl rfl rfl (by simp [hki]) rfl TL.fin) ?_
     refine DR.stepV [_,_,_,_,_,_,_,_,_,_] rfl [(5,_,none),(39,_,some 3)] rfl rfl ⟨⟨rfl,by kernel_rfl⟩,⟨rfl,rfl,rfl⟩,trivial⟩ (fun ext=>TL.off hF rfl rfl rfl (by simp [hki]) rfl TL.fin) ?_
     refine DR.stepV [_,_,_,_,_,_,_,_,_,_,_] rfl [(44,_,some 8),(45,_,some 9),(39,_,some 3)] rfl rfl ⟨⟨rfl,rfl,rfl⟩,⟨rfl,rfl,rfl⟩,⟨rfl,rfl,rfl⟩,trivial⟩ (fun ext=>TL.off hF rfl rfl rfl (by simp [hki]) rfl TL.fin) ?_
     refine DR.stepV [_,_,_,_,_,_,_,_,_,_,_,_] rfl [(46,_,some 10),(39,_,some 3)] rfl rfl ⟨⟨rfl,rfl,rfl⟩,⟨rfl,rfl,rfl⟩,trivial⟩ (fun ext=>TL.off hF rfl rfl rfl (by simp [hki]) rfl TL.fin) ?_
     refine DR.done [(47,_),(46,_),(45,_),(44,_),(43,_),(42,_),(41,_),(40,_),(39,_),(38,_),(37,_),(36,_)] [_,_] mixed (by kernel_rfl) (by kernel_rfl) (by kernel_rfl) rfl rfl ?_
     refine TL.off hF rfl rfl rfl (by simp [hki]) rfl ?_
     refine TL.pickF hF rfl (by simp [hki]) rfl rfl ?_
     refine TL.nil ?_
     refine TQ.then_n ?_
     refine T.cond_f rfl rfl ?_
     refine T.skip ?_
     refine TQ.block_n ?_
     refine TQ.then_n ?_
     refine T.region ?_
     refine TL.move hF rfl rfl ?_
     refine TL.add hF rfl rfl (by omega) (by omega) rfl ?_
     refine TL.assign hF rfl rfl ?_
     refine TL.nil ?_
     have hc9:((m.take (k+1)).count l[i])=((m.take k).count l[i])+0:=by rw [hst,if_neg ht33]
     exact TQ.round (k+1) (by omega) (by omega) ⟨rfl,rfl,rfl,rfl,by rw [hc9]; rfl,rfl,trivial⟩ rfl
    ·refine T.draw ?_
     refine DR.stepV [_] rfl [(7,_,none)] rfl rfl ⟨⟨rfl,by kernel_rfl⟩,trivial⟩ (fun ext=>TL.move hF rfl rfl TL.fin) ?_
     refine DR.stepV [_,_] rfl [(5,_,none)] rfl rfl ⟨⟨rfl,by kernel_rfl⟩,trivial⟩ (fun ext=>TL.move hF rfl rfl TL.fin) ?_
     refine DR.stepV [_,_,_] rfl [(36,_,some 0),(37,_,some 1)] rfl rfl ⟨⟨rfl,rfl,rfl⟩,⟨rfl,rfl,rfl⟩,trivial⟩ (fun ext=>TL.bin hF rfl rfl rfl rfl TL.fin) ?_
     refine DR.stepV [_,_,_,_] rfl [(38,_,some 2)] rfl rfl ⟨⟨rfl,rfl,rfl⟩,trivial⟩ (fun ext=>TL.move hF rfl rfl TL.fin) ?_
     refine DR.stepV [_,_,_,_,_] rfl [(0,_,none),(39,_,some 3)] rfl rfl ⟨⟨rfl,by kernel_rfl⟩,⟨rfl,rfl,rfl⟩,trivial⟩ (fun ext=>TL.on rfl rfl rfl (by simp; omega) <| TL.move hF rfl rfl TL.fin) ?_
     refine DR.stepV [_,_,_,_,_,_] rfl [(7,_,none),(39,_,some 3)] rfl rfl ⟨⟨rfl,by kernel_rfl⟩,⟨rfl,rfl,rfl⟩,trivial⟩ (fun ext=>TL.on rfl rfl rfl (by simp; omega) <| TL.move hF rfl rfl TL.fin) ?_
     refine DR.stepV [_,_,_,_,_,_,_] rfl [(40,_,some 4),(41,_,some 5),(39,_,some 3)] rfl rfl ⟨⟨rfl,rfl,rfl⟩,⟨rfl,rfl,rfl⟩,⟨rfl,rfl,rfl⟩,trivial⟩ (fun ext=>TL.on rfl rfl rfl (by simp; omega) <| TL.indexAddr hF rfl rfl (or_ad hx hkl) (by omega) (by omega) rfl TL.fin) ?_
     refine DR.stepV [_,_,_,_,_,_,_,_] rfl [(42,_,some 6),(39,_,some 3)] rfl rfl ⟨⟨rfl,rfl,rfl⟩,⟨rfl,rfl,rfl⟩,trivial⟩ (fun ext=>TL.on rfl rfl rfl (by simp; omega) <| TL.loadA hF (otC l[k]) rfl rfl (or_at hx hkl) rfl TL.fin) ?_
     refine DR.stepV [_,_,_,_,_,_,_,_,_] rfl [(0,_,none),(39,_,some 3)] rfl rfl ⟨⟨rfl,by kernel_rfl⟩,⟨rfl,rfl,rfl⟩,trivial⟩ (fun ext=>TL.on rfl rfl rfl (by simp; omega) <| TL.move hF rfl rfl TL.fin) ?_
     refine DR.stepV [_,_,_,_,_,_,_,_,_,_] rfl [(5,_,none),(39,_,some 3)] rfl rfl ⟨⟨rfl,by kernel_rfl⟩,⟨rfl,rfl,rfl⟩,trivial⟩ (fun ext=>TL.on rfl rfl rfl (by simp; omega) <| TL.move hF rfl rfl TL.fin) ?_
     refine DR.stepV [_,_,_,_,_,_,_,_,_,_,_] rfl [(44,_,some 8),(45,_,some 9),(39,_,some 3)] rfl rfl ⟨⟨rfl,rfl,rfl⟩,⟨rfl,rfl,rfl⟩,⟨rfl,rfl,rfl⟩,trivial⟩ (fun ext=>TL.on rfl rfl rfl (by simp; omega) <| TL.indexAddr hF rfl rfl (or_ad hx hil) (by omega) (by omega) rfl TL.fin) ?_
     refine DR.stepV [_,_,_,_,_,_,_,_,_,_,_,_] rfl [(46,_,some 10),(39,_,some 3)] rfl rfl ⟨⟨rfl,rfl,rfl⟩,⟨rfl,rfl,rfl⟩,trivial⟩ (fun ext=>TL.on rfl rfl rfl (by simp; omega) <| TL.loadA hF (otC l[i]) rfl rfl (or_at hx hil) rfl TL.fin) ?_
     refine DR.done [(47,_),(46,_),(45,_),(44,_),(43,_),(42,_),(41,_),(40,_),(39,_),(38,_),(37,_),(36,_)] [_,_] mixed (by kernel_rfl) (by kernel_rfl) (by kernel_rfl) rfl rfl ?_
     refine TL.on rfl rfl rfl (by simp; omega) ?_
     refine TL.eqlA hF rfl rfl (by kernel_rfl) (eqOt l[k] l[i]) rfl ?_
     refine TL.pickT hF rfl (by simp; omega) rfl rfl ?_
     refine TL.nil ?_
     refine TQ.then_n ?_
     refine T.cond_f rfl (decide_eq_false (fun e=>hki ((List.getElem_inj hn).1 e))) ?_
     refine T.skip ?_
     refine TQ.block_n ?_
     refine TQ.then_n ?_
     refine T.region ?_
     refine TL.move hF rfl rfl ?_
     refine TL.add hF rfl rfl (by omega) (by omega) rfl ?_
     refine TL.assign hF rfl rfl ?_
     refine TL.nil ?_
     have hc9:((m.take (k+1)).count l[i])=((m.take k).count l[i])+0:=by rw [hst,if_neg ht33]
     exact TQ.round (k+1) (by omega) (by omega) ⟨rfl,rfl,rfl,rfl,by rw [hc9]; rfl,rfl,trivial⟩ rfl
  ·refine T.exit ?_
   refine TQ.then_x ?_
   refine TQ.then_x ?_
   refine TQ.block_x ?_
   refine TQ.then_n ?_
   refine T.seq ?_
   refine T.region ?_
   refine TL.move hF rfl rfl ?_
   refine TL.bin hF rfl rfl rfl rfl ?_
   refine TL.nil ?_
   refine TQ.then_n ?_
   refine T.cond_f rfl (by
    have hke:m.length≤k:=by have h:¬ (k:Int)<(m.length:Int):=ht22; omega
    have h1:m.count l[i]=1:=by rw [← hp.count_eq,List.Nodup.count hn,if_pos (List.getElem_mem hil)]
    rw [List.take_of_length_le hke,h1]; rfl) ?_
   refine T.skip ?_
   refine TQ.block_n ?_
   refine TQ.then_n ?_
   refine T.region ?_
   refine TL.move hF rfl rfl ?_
   refine TL.add hF rfl rfl (by omega) (by omega) rfl ?_
   refine TL.assign hF rfl rfl ?_
   refine TL.nil ?_
   exact TQ.round (i+1) (by omega) (by omega) ⟨rfl,rfl,rfl,rfl,trivial⟩ rfl
 ·refine T.exit ?_
  refine TQ.then_x ?_
  refine TQ.then_x ?_
  refine TQ.block_x ?_
  refine TQ.then_n ?_
  refine T.seq ?_
  refine T.region ?_
  refine TL.assign hF rfl rfl ?_
  refine TL.nil ?_
  refine TQ.then_n ?_
  refine T.ret ?_
  exact TQ.rets [4] _ rfl rfl rfl ⟨rfl,rfl⟩
end Go.Proofs.YtbajelldegijkaaDoor
/- Five numbers, as an argument; how long a slice may be. -/
namespace Go.Proofs.YtbajelldegijkaaDoor
open Go.Sl Go.ChangeShapes Go.WideShapes Go.ChangeAt Go.Deep Go.RowKit
set_option maxRecDepth 100000
section
variable {H:Type} {enc:TypeId × Value→H} {W:World} {base:Nat}
theorem u5I:Tryd.prog.underlying 53=some (.array 5 3):=by kernel_rfl
theorem k5I:Tryd.prog.cellsOf 53=5:=by kernel_rfl
theorem five_open {v:Value} {d:DataW H} {ps:List MemPlace} (hval:Value.okWide Tryd.prog W .any base 53 v) (h:DataW.Trod enc Tryd.prog W 0 (fun _=>true) true 53 v d ps):∃ n:N5,v=n5V n:=by
  simp only [Value.okWide,u5I] at hval
  obtain ⟨cs,rfl,h2,_⟩:=hval
  rw [k5I] at h2
  obtain ⟨fuel,hf⟩:=h
  obtain ⟨l⟩:=cs
  match l,h2 with
  | [c0,c1,c2,c3,c4],_ =>
    obtain ⟨xs,m,_,_,_,hxl,hi⟩:=DataW.trod_array u5I hf
    rw [k3] at hi
    have h0:=hi 0 (by omega)
    have h1:=hi 1 (by omega)
    have h2:=hi 2 (by omega)
    have h3:=hi 3 (by omega)
    have h4:=hi 4 (by omega)
    rw [List.getElem?_eq_getElem (by omega)] at h0 h1 h2 h3 h4
    obtain ⟨z0,e0,_,_⟩:=DataW.trod_int u3 h0
    obtain ⟨z1,e1,_,_⟩:=DataW.trod_int u3 h1
    obtain ⟨z2,e2,_,_⟩:=DataW.trod_int u3 h2
    obtain ⟨z3,e3,_,_⟩:=DataW.trod_int u3 h3
    obtain ⟨z4,e4,_,_⟩:=DataW.trod_int u3 h4
    have e0:[c0]=[Value.int .i64 z0]:=e0
    have e1:[c1]=[Value.int .i64 z1]:=e1
    have e2:[c2]=[Value.int .i64 z2]:=e2
    have e3:[c3]=[Value.int .i64 z3]:=e3
    have e4:[c4]=[Value.int .i64 z4]:=e4
    simp only [List.cons.injEq,and_true] at e0 e1 e2 e3 e4
    exact ⟨⟨z0,z1,z2,z3,z4⟩,by rw [e0,e1,e2,e3,e4]; rfl⟩
theorem b3I:Tryd.prog.bytesOf 3=8:=by kernel_rfl
theorem len_small {ts : List TypeId} {ds : List (DataW H)} {j : Nat} {t e : TypeId} {fuel : Nat} {a : Option Addr} {len cap : Nat} {d : DataW H} {ps : List MemPlace} (hu : Tryd.prog.underlying t = some (.slice e)) (hb : 1 ≤ Tryd.prog.bytesOf e)
    (h:DataW.trod enc Tryd.prog W 0 (fun _=>true) true fuel t [.slice a len cap]=some (d,ps)) (ht:ts[j]?=some t) (hd:ds[j]?=some d) (hw:(DataW.weightsEach Tryd.prog ts ds).all (· ≤ reachBytes)=true):len<140737488355328:=by
  rcases DataW.trod_slice hu h with ⟨hv,_⟩ | ⟨a',len',cap',el,rest,n,_,hv,hx,_,_,_,hl,_⟩
  · have:len=0:=by simp only [List.cons.injEq,Value.slice.injEq,and_true] at hv; exact hv.2.1
    omega
  · simp only [List.cons.injEq,Value.slice.injEq,and_true] at hv
    obtain ⟨_,rfl,_⟩:=hv
    obtain ⟨rfl,_⟩:=Prod.mk.inj hx
    have h1:=sized_slice hw ht hd hu
    rw [List.length_map,List.length_map,hl] at h1
    have h2:len*1≤(len+rest.length)*Tryd.prog.bytesOf e:=Nat.mul_le_mul (by omega) hb
    have h3:=reachBytes_lt
    omega
end
end Go.Proofs.YtbajelldegijkaaDoor
