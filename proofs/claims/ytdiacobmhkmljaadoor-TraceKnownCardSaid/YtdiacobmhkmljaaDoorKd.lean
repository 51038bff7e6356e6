/- Several texts in one. -/
import Derived.Test.YtdiacobmhkmljaaDoorKc
import Derived.Test.YtdiacobmhkmljaaDoorKb
/- What is ready. -/
namespace Go.Proofs.YtdiacobmhkmljaaDoor
open Go.Sl
variable {S:Nat→Prop} {w0:World} {η:Heap}
/-- The error of functions, lists of cells, and a call. -/
def readyS (funs:List Ex) (ls:List (List Int)) (top:Key):Int:=if checkS funs=0 then (if ls.all (fun l=>okCells l && decide (l.length=(ls.headD []).length)) && okTop funs top then 0 else 2) else 1
theorem checkS_01 (funs:List Ex):checkS funs=0∨checkS funs=1:=by unfold checkS; split <;> simp
theorem ready_no {funs:List Ex} {ls:List (List Int)} {top:Key} (h:checkS funs≠0):readyS funs ls top=checkS funs:=by
 unfold readyS; rw [if_neg h]; rcases checkS_01 funs with e | e
 ·exact absurd e h
 ·exact e.symm
theorem ready_two {funs:List Ex} {ls:List (List Int)} {top:Key} (h:checkS funs=0) {l:List Int} (hm:l∈ls) (hl:okCells l=false∨l.length≠(ls.headD []).length):readyS funs ls top=2:=by
 unfold readyS; rw [if_pos h,if_neg]
 intro q
 rw [Bool.and_eq_true,List.all_eq_true] at q
 have:=q.1 l hm
 rw [Bool.and_eq_true,decide_eq_true_eq] at this
 rcases hl with e | e
 ·rw [e] at this; cases this.1
 ·exact e this.2
theorem ready_top {funs:List Ex} {ls:List (List Int)} {top:Key} (h:checkS funs=0) (hs:okTop funs top=false):readyS funs ls top=2:=by
 unfold readyS; rw [if_pos h,hs,Bool.and_false]; rfl
theorem ready_ok {funs:List Ex} {ls:List (List Int)} {top:Key} (h:checkS funs=0) (hl:∀ l∈ls,okCells l=true∧l.length=(ls.headD []).length) (hs:okTop funs top=true):readyS funs ls top=0:=by
 unfold readyS; rw [if_pos h,hs,Bool.and_true,if_pos]
 rw [List.all_eq_true]
 intro l hm
 rw [(hl l hm).1,decide_eq_true (hl l hm).2]; rfl
theorem cells_len {l:List Int} (h:¬ (1≤l.length∧l.length≤100)):okCells l=false:=by
 unfold okCells
 by_cases h1:1≤l.length
 ·rw [decide_eq_false (show ¬ l.length≤100 by omega),Bool.and_false,Bool.false_and]
 ·rw [decide_eq_false h1]; rfl
theorem cells_no {l:List Int} {k:Nat} (hk:k<l.length) (h:isW l[k]=false):okCells l=false:=by
 unfold okCells
 rw [Bool.and_eq_false_iff]; right
 rw [List.all_eq_false]
 exact ⟨l[k],List.getElem_mem hk,by rw [h]; decide⟩
theorem cells_ok {l:List Int} (h:1≤l.length∧l.length≤100) (ha:∀ n∈l,isW n=true):okCells l=true:=by
 unfold okCells
 rw [decide_eq_true h.1,decide_eq_true h.2,Bool.true_and,Bool.true_and,List.all_eq_true]; exact ha
theorem tx_hd {ps:List HL} (h:0<ps.length):(tx ps).headD []=ps[0].2.1:=by cases ps with | nil=>simp at h | cons p r=>simp [tx]
theorem mem_tx {ps:List HL} {k:Nat} (h:k<ps.length):ps[k].2.1∈tx ps:=List.mem_map_of_mem (List.getElem_mem h)
set_option maxHeartbeats 2000000 in
theorem ready_fn {a b : Option Addr} {l : List TE} {c d : Nat} {ps : List HL} {top : Key} (hT : Tabs S w0) (hf : Fs S w0 [] a l) (hl : l.length < 9223372036854775808) (hp : LL S w0 η b ps) (hpl : ps.length < 4294967296) (_hpb : ∀ p ∈ ps, p.2.1.length < 9223372036854775808) :
  Rt Tryd.prog 35 [.slice a l.length c,kV top,.slice b ps.length d].toArray S w0 η (fun v η'=>v = .int .i64 (readyS (l.map TE.ex) (tx ps) top)∧η'=η):=by
 have hF:=open_wide
 refine Rt.of (fn:=Tryd.f35) Tryd.func35 rfl rfl ?_
 refine T.seq ?_
 refine T.region ?_
 refine TL.box hF rfl rfl (fun b4=>?_)
 refine TL.assign hF rfl rfl ?_
 refine TL.nil ?_
 refine TQ.then_n ?_
 refine T.seq ?_
 refine T.seq ?_
 refine T.region ?_
 refine TL.move hF rfl rfl ?_
 refine TL.callV hF (Check_fn hT hf hl) rfl rfl ?_
 refine TL.assign hF rfl rfl ?_
 refine TL.nil ?_
 refine TQ.then_n ?_
 refine T.seq ?_
 refine T.region ?_
 refine TL.move hF rfl rfl ?_
 refine TL.bin hF rfl rfl rfl rfl ?_
 refine TL.nil ?_
 refine TQ.then_n ?_
 first | refine T.cond_d rfl (fun ht15=>?_) (fun ht15=>?_) | refine T.cond _ rfl (fun ht15=>?_) (fun ht15=>?_)
 ·refine T.seq ?_
  refine T.region ?_
  refine TL.move hF rfl rfl ?_
  refine TL.assign hF rfl rfl ?_
  refine TL.nil ?_
  refine TQ.then_n ?_
  refine T.ret ?_
  refine TQ.then_r ?_
  refine TQ.pop ?_
  refine TQ.rets [6] _ rfl rfl rfl ?_
  exact ⟨by rw [ready_no ht15]; rfl,rfl⟩
 ·refine T.skip ?_
  refine TQ.then_n ?_
  refine T.seq ?_
  refine T.seq ?_
  refine T.region ?_
  refine TL.move hF rfl rfl ?_
  refine TL.len hF rfl rfl ?_
  refine TL.move hF rfl rfl ?_
  refine TL.nil ?_
  refine TQ.then_n ?_
  refine T.block ?_
  have hck:checkS (l.map TE.ex)=0:=by simpa using ht15
  refine T.loop (ι:=Nat) (fun k=>k≤ps.length∧∀ p∈ps.take k,okCells p.2.1=true∧p.2.1.length=((tx ps).headD []).length) (fun k=>[(0,.slice a l.length c),(2,.slice b ps.length d),(4,ptr b4),(6,.int .i64 0),(17,.slice b ps.length d),(18,.int .i64 (ps.length:Int)),(19,.int .i64 (k:Int))]) (fun _=>[(b4,Obj.cells #[.int .i64 top.1,.int .i64 top.2] 25 (0,0))]::η) (fun k=>ps.length - k) 0 ⟨Nat.zero_le _,by simp⟩ ⟨rfl,rfl,rfl,rfl,rfl,rfl,rfl,trivial⟩ rfl ?_
  rintro k ⟨hk,hno⟩
  refine T.seq ?_
  refine T.region ?_
  refine TL.bin hF rfl rfl rfl rfl ?_
  refine TL.nil ?_
  refine TQ.then_n ?_
  refine T.seq ?_
  first | refine T.cond_d rfl (fun ht20=>?_) (fun ht20=>?_) | refine T.cond _ rfl (fun ht20=>?_) (fun ht20=>?_)
  ·refine T.skip ?_
   refine TQ.then_n ?_
   refine T.seq ?_
   refine T.block ?_
   refine T.seq ?_
   refine T.region ?_
   have hkl:k<ps.length:=by have h:(k:Int)<(ps.length:Int):=ht20; omega
   refine TL.indexAddr hF rfl rfl (hp.ad hkl) (by omega) (by omega) rfl ?_
   refine TL.load hF rfl ((hp.up upc).at hkl) rfl ?_
   refine TL.assign hF rfl rfl ?_
   refine TL.nil ?_
   refine TQ.then_n ?_
   refine T.seq ?_
   refine T.seq ?_
   refine T.region ?_
   refine TL.move hF rfl rfl ?_
   refine TL.len hF rfl rfl ?_
   refine TL.bin hF rfl rfl rfl rfl ?_
   refine TL.move hF rfl rfl ?_
   refine TL.gd (t:=26) rfl (fun g7_26=>?_) (fun g7_26=>?_)
   ·refine TL.off hF rfl rfl rfl (decide_eq_true g7_26) rfl ?_
    refine TL.off hF rfl rfl rfl (decide_eq_true g7_26) rfl ?_
    refine TL.off hF rfl rfl rfl (decide_eq_true g7_26) rfl ?_
    refine TL.pickT hF rfl (decide_eq_true g7_26) rfl rfl ?_
    refine TL.move hF rfl rfl ?_
    refine TL.off hF rfl rfl rfl rfl rfl ?_
    refine TL.off hF rfl rfl rfl rfl rfl ?_
    refine TL.off hF rfl rfl rfl rfl rfl ?_
    refine TL.off hF rfl rfl rfl rfl rfl ?_
    refine TL.off hF rfl rfl rfl rfl rfl ?_
    refine TL.off hF rfl rfl rfl rfl rfl ?_
    refine TL.off hF rfl rfl rfl rfl rfl ?_
    refine TL.pickT hF rfl rfl rfl rfl ?_
    refine TL.nil ?_
    refine TQ.then_n ?_
    refine T.cond_t rfl rfl ?_
    refine T.seq ?_
    refine T.region ?_
    refine TL.assign hF rfl rfl ?_
    refine TL.nil ?_
    refine TQ.then_n ?_
    refine T.ret ?_
    refine TQ.then_r ?_
    refine TQ.block_r ?_
    refine TQ.then_r ?_
    refine TQ.then_r ?_
    refine TQ.block_r ?_
    refine TQ.then_r ?_
    refine TQ.pop ?_
    refine TQ.rets [6] _ rfl rfl rfl ?_
    exact ⟨by rw [ready_two hck (mem_tx hkl) (.inl (cells_len (by omega)))]; rfl,rfl⟩
   ·refine TL.on rfl rfl rfl (decide_eq_false g7_26) ?_
    refine TL.move hF rfl rfl ?_
    refine TL.on rfl rfl rfl (decide_eq_false g7_26) ?_
    refine TL.len hF rfl rfl ?_
    refine TL.on rfl rfl rfl (decide_eq_false g7_26) ?_
    refine TL.bin hF rfl rfl rfl rfl ?_
    refine TL.pickF hF rfl (decide_eq_false g7_26) rfl rfl ?_
    refine TL.move hF rfl rfl ?_
    refine TL.gd (t:=31) rfl (fun g7_31=>?_) (fun g7_31=>?_)
    ·refine TL.off hF rfl rfl rfl (decide_eq_true g7_31) rfl ?_
     refine TL.off hF rfl rfl rfl (decide_eq_true g7_31) rfl ?_
     refine TL.off hF rfl rfl rfl (decide_eq_true g7_31) rfl ?_
     refine TL.off hF rfl rfl rfl (decide_eq_true g7_31) rfl ?_
     refine TL.off hF rfl rfl rfl (decide_eq_true g7_31) rfl ?_
     refine TL.off hF rfl rfl rfl (decide_eq_true g7_31) rfl ?_
     refine TL.off hF rfl rfl rfl (decide_eq_true g7_31) rfl ?_
     refine TL.pickT hF rfl (decide_eq_true g7_31) rfl rfl ?_
     refine TL.nil ?_
     refine TQ.then_n ?_
     refine T.cond_t rfl rfl ?_
     refine T.seq ?_
     refine T.region ?_
     refine TL.assign hF rfl rfl ?_
     refine TL.nil ?_
     refine TQ.then_n ?_
     refine T.ret ?_
     refine TQ.then_r ?_
     refine TQ.block_r ?_
     refine TQ.then_r ?_
     refine TQ.then_r ?_
     refine TQ.block_r ?_
     refine TQ.then_r ?_
     refine TQ.pop ?_
     refine TQ.rets [6] _ rfl rfl rfl ?_
     exact ⟨by rw [ready_two hck (mem_tx hkl) (.inl (cells_len (by omega)))]; rfl,rfl⟩
    ·refine TL.on rfl rfl rfl (decide_eq_false g7_31) ?_
     refine TL.move hF rfl rfl ?_
     refine TL.on rfl rfl rfl (decide_eq_false g7_31) ?_
     refine TL.len hF rfl rfl ?_
     refine TL.on rfl rfl rfl (decide_eq_false g7_31) ?_
     refine TL.move hF rfl rfl ?_
     refine TL.on rfl rfl rfl (decide_eq_false g7_31) ?_
     refine TL.indexAddr hF rfl rfl (hp.ad (i:=0) (by omega)) (by omega) (by omega) rfl ?_
     refine TL.on rfl rfl rfl (decide_eq_false g7_31) ?_
     refine TL.load hF rfl ((hp.up upc).at (i:=0) (by omega)) rfl ?_
     refine TL.on rfl rfl rfl (decide_eq_false g7_31) ?_
     refine TL.len hF rfl rfl ?_
     refine TL.on rfl rfl rfl (decide_eq_false g7_31) ?_
     refine TL.bin hF rfl rfl rfl rfl ?_
     refine TL.pickF hF rfl (decide_eq_false g7_31) rfl rfl ?_
     refine TL.nil ?_
     refine TQ.then_n ?_
     first | refine T.cond_d rfl (fun ht39=>?_) (fun ht39=>?_) | refine T.cond _ rfl (fun ht39=>?_) (fun ht39=>?_)
     ·refine T.seq ?_
      refine T.region ?_
      refine TL.assign hF rfl rfl ?_
      refine TL.nil ?_
      refine TQ.then_n ?_
      refine T.ret ?_
      refine TQ.then_r ?_
      refine TQ.block_r ?_
      refine TQ.then_r ?_
      refine TQ.then_r ?_
      refine TQ.block_r ?_
      refine TQ.then_r ?_
      refine TQ.pop ?_
      refine TQ.rets [6] _ rfl rfl rfl ?_
      exact ⟨by rw [ready_two hck (mem_tx hkl) (.inr (by rw [tx_hd (by omega)]; intro e; exact ht39 (by rw [e])))]; rfl,rfl⟩
     ·refine T.skip ?_
      refine TQ.then_n ?_
      refine T.seq ?_
      refine T.region ?_
      refine TL.move hF rfl rfl ?_
      refine TL.len hF rfl rfl ?_
      refine TL.move hF rfl rfl ?_
      refine TL.nil ?_
      refine TQ.then_n ?_
      refine T.block ?_
      have hrange:1≤ps[k].2.1.length∧ps[k].2.1.length≤100:=by omega
      have hsame:ps[k].2.1.length=((tx ps).headD []).length:=by
       rw [tx_hd (by omega)]
       have h:((ps[k].2.1.length:Nat):Int)=((ps[0].2.1.length:Nat):Int):=by simpa using ht39
       omega
      refine T.loop (ι:=Nat) (fun j=>j≤ps[k].2.1.length∧∀ x∈ps[k].2.1.take j,isW x=true) (fun j=>[(0,.slice a l.length c),(2,.slice b ps.length d),(4,ptr b4),(6,.int .i64 0),(17,.slice b ps.length d),(18,.int .i64 (ps.length:Int)),(19,.int .i64 (k:Int)),(40,.slice ps[k].1 ps[k].2.1.length ps[k].2.2),(41,.int .i64 (ps[k].2.1.length:Int)),(42,.int .i64 (j:Int))]) (fun _=>[(b4,Obj.cells #[.int .i64 top.1,.int .i64 top.2] 25 (0,0))]::η) (fun j=>ps[k].2.1.length - j) 0 ⟨Nat.zero_le _,by simp⟩ ⟨rfl,rfl,rfl,rfl,rfl,rfl,rfl,rfl,rfl,rfl,trivial⟩ rfl ?_
      rintro j ⟨hj,hjn⟩
      refine T.seq ?_
      refine T.region ?_
      refine TL.bin hF rfl rfl rfl rfl ?_
      refine TL.nil ?_
      refine TQ.then_n ?_
      refine T.seq ?_
      first | refine T.cond_d rfl (fun ht43=>?_) (fun ht43=>?_) | refine T.cond _ rfl (fun ht43=>?_) (fun ht43=>?_)
      ·refine T.skip ?_
       refine TQ.then_n ?_
       refine T.seq ?_
       refine T.block ?_
       refine T.seq ?_
       refine T.region ?_
       have hjl:j<ps[k].2.1.length:=by have h:(j:Int)<(ps[k].2.1.length:Int):=ht43; omega
       refine TL.indexAddr hF rfl rfl ((hp.it hkl).adi (i:=j) (by simp; omega)) (by omega) (by omega) rfl ?_
       refine TL.load hF rfl (((hp.it hkl).up upc).int hjl) rfl ?_
       refine TL.assign hF rfl rfl ?_
       refine TL.nil ?_
       refine TQ.then_n ?_
       refine T.seq ?_
       refine T.region ?_
       refine TL.move hF rfl rfl ?_
       refine TL.callV hF (isWord_fn _) rfl rfl ?_
       refine TL.not hF rfl rfl ?_
       refine TL.nil ?_
       refine TQ.then_n ?_
       first | refine T.cond_d rfl (fun ht48=>?_) (fun ht48=>?_) | refine T.cond _ rfl (fun ht48=>?_) (fun ht48=>?_)
       ·refine T.seq ?_
        refine T.region ?_
        refine TL.assign hF rfl rfl ?_
        refine TL.nil ?_
        refine TQ.then_n ?_
        refine T.ret ?_
        refine TQ.block_r ?_
        refine TQ.then_r ?_
        refine TQ.then_r ?_
        refine TQ.block_r ?_
        refine TQ.block_r ?_
        refine TQ.then_r ?_
        refine TQ.then_r ?_
        refine TQ.block_r ?_
        refine TQ.then_r ?_
        refine TQ.pop ?_
        refine TQ.rets [6] _ rfl rfl rfl ?_
        exact ⟨by rw [ready_two hck (mem_tx hkl) (.inl (cells_no hjl (by simpa using ht48)))]; rfl,rfl⟩
       ·refine T.skip ?_
        refine TQ.block_n ?_
        refine TQ.then_n ?_
        refine T.region ?_
        refine TL.add hF rfl rfl (by omega) (by omega) rfl ?_
        refine TL.move hF rfl rfl ?_
        refine TL.nil ?_
        have hw:isW ps[k].2.1[j]=true:=by simpa using ht48
        refine TQ.round (j+1) ⟨by omega,fun x hx=>?_⟩ (by omega) ⟨rfl,rfl,rfl,rfl,rfl,rfl,rfl,rfl,rfl,rfl,trivial⟩ rfl
        rw [List.take_succ_eq_append_getElem hjl] at hx
        rcases List.mem_append.1 hx with h | h
        ·exact hjn x h
        ·rw [List.mem_singleton.1 h]; exact hw
      ·refine T.exit ?_
       refine TQ.then_x ?_
       refine TQ.then_x ?_
       refine TQ.block_x ?_
       refine TQ.block_n ?_
       refine TQ.then_n ?_
       refine T.region ?_
       refine TL.add hF rfl rfl (by omega) (by omega) rfl ?_
       refine TL.move hF rfl rfl ?_
       refine TL.nil ?_
       refine TQ.round (k+1) ⟨by omega,fun p hp2=>?_⟩ (by omega) ⟨rfl,rfl,rfl,rfl,rfl,rfl,rfl,trivial⟩ rfl
       rw [List.take_succ_eq_append_getElem hkl] at hp2
       rcases List.mem_append.1 hp2 with h | h
       ·exact hno p h
       ·rw [List.mem_singleton.1 h]
        exact ⟨cells_ok hrange fun x hx=>hjn x (by rw [List.take_of_length_le (by have h:¬ (j:Int)<(ps[k].2.1.length:Int):=ht43; omega)]; exact hx),hsame⟩
  ·refine T.exit ?_
   refine TQ.then_x ?_
   refine TQ.then_x ?_
   refine TQ.block_x ?_
   refine TQ.then_n ?_
   refine T.seq ?_
   refine T.seq ?_
   refine T.region ?_
   refine TL.fieldAddr hF rfl rfl ?_
   refine TL.load hF rfl (by first | exact At.own' (i:=0) rfl rfl | exact At.own' (i:=1) rfl rfl | exact At.own' (i:=2) rfl rfl | exact At.own' (i:=3) rfl rfl | exact At.own' (i:=4) rfl rfl | exact At.own' (i:=5) rfl rfl | exact At.own' (i:=6) rfl rfl | exact At.own' (i:=7) rfl rfl | exact At.own' (i:=8) rfl rfl | exact At.own' (i:=9) rfl rfl | exact At.own' (i:=10) rfl rfl | exact At.own' (i:=11) rfl rfl | exact At.own' (i:=12) rfl rfl) rfl ?_
   refine TL.bin hF rfl rfl rfl rfl ?_
   refine TL.move hF rfl rfl ?_
   refine TL.gd (t:=54) rfl (fun g16_54=>?_) (fun g16_54=>?_)
   ·refine TL.off hF rfl rfl rfl (decide_eq_true g16_54) rfl ?_
    refine TL.off hF rfl rfl rfl (decide_eq_true g16_54) rfl ?_
    refine TL.off hF rfl rfl rfl (decide_eq_true g16_54) rfl ?_
    refine TL.off hF rfl rfl rfl (decide_eq_true g16_54) rfl ?_
    refine TL.off hF rfl rfl rfl (decide_eq_true g16_54) rfl ?_
    refine TL.pickT hF rfl (decide_eq_true g16_54) rfl rfl ?_
    refine TL.move hF rfl rfl ?_
    refine TL.off hF rfl rfl rfl rfl rfl ?_
    refine TL.off hF rfl rfl rfl rfl rfl ?_
    refine TL.off hF rfl rfl rfl rfl rfl ?_
    refine TL.pickT hF rfl rfl rfl rfl ?_
    refine TL.move hF rfl rfl ?_
    refine TL.off hF rfl rfl rfl rfl rfl ?_
    refine TL.off hF rfl rfl rfl rfl rfl ?_
    refine TL.off hF rfl rfl rfl rfl rfl ?_
    refine TL.pickT hF rfl rfl rfl rfl ?_
    refine TL.nil ?_
    refine TQ.then_n ?_
    refine T.cond_t rfl rfl ?_
    refine T.seq ?_
    refine T.region ?_
    refine TL.assign hF rfl rfl ?_
    refine TL.nil ?_
    refine TQ.then_n ?_
    refine T.ret ?_
    refine TQ.then_r ?_
    refine TQ.pop ?_
    refine TQ.rets [6] _ rfl rfl rfl ?_
    exact ⟨by rw [ready_top hck (by unfold okTop; rw [List.length_map,decide_eq_false (by omega)]; rfl)]; rfl,rfl⟩
   ·refine TL.on rfl rfl rfl (decide_eq_false g16_54) ?_
    refine TL.fieldAddr hF rfl rfl ?_
    refine TL.on rfl rfl rfl (decide_eq_false g16_54) ?_
    refine TL.load hF rfl (by first | exact At.own' (i:=0) rfl rfl | exact At.own' (i:=1) rfl rfl | exact At.own' (i:=2) rfl rfl | exact At.own' (i:=3) rfl rfl | exact At.own' (i:=4) rfl rfl | exact At.own' (i:=5) rfl rfl | exact At.own' (i:=6) rfl rfl | exact At.own' (i:=7) rfl rfl | exact At.own' (i:=8) rfl rfl | exact At.own' (i:=9) rfl rfl | exact At.own' (i:=10) rfl rfl | exact At.own' (i:=11) rfl rfl | exact At.own' (i:=12) rfl rfl) rfl ?_
    refine TL.on rfl rfl rfl (decide_eq_false g16_54) ?_
    refine TL.move hF rfl rfl ?_
    refine TL.on rfl rfl rfl (decide_eq_false g16_54) ?_
    refine TL.len hF rfl rfl ?_
    refine TL.on rfl rfl rfl (decide_eq_false g16_54) ?_
    refine TL.bin hF rfl rfl rfl rfl ?_
    refine TL.pickF hF rfl (decide_eq_false g16_54) rfl rfl ?_
    refine TL.move hF rfl rfl ?_
    refine TL.gd (t:=61) rfl (fun g16_61=>?_) (fun g16_61=>?_)
    ·refine TL.off hF rfl rfl rfl (decide_eq_true g16_61) rfl ?_
     refine TL.off hF rfl rfl rfl (decide_eq_true g16_61) rfl ?_
     refine TL.off hF rfl rfl rfl (decide_eq_true g16_61) rfl ?_
     refine TL.pickT hF rfl (decide_eq_true g16_61) rfl rfl ?_
     refine TL.move hF rfl rfl ?_
     refine TL.off hF rfl rfl rfl rfl rfl ?_
     refine TL.off hF rfl rfl rfl rfl rfl ?_
     refine TL.off hF rfl rfl rfl rfl rfl ?_
     refine TL.pickT hF rfl rfl rfl rfl ?_
     refine TL.nil ?_
     refine TQ.then_n ?_
     refine T.cond_t rfl rfl ?_
     refine T.seq ?_
     refine T.region ?_
     refine TL.assign hF rfl rfl ?_
     refine TL.nil ?_
     refine TQ.then_n ?_
     refine T.ret ?_
     refine TQ.then_r ?_
     refine TQ.pop ?_
     refine TQ.rets [6] _ rfl rfl rfl ?_
     exact ⟨by rw [ready_top hck (by unfold okTop; rw [List.length_map,decide_eq_false (show ¬ top.1≤(l.length:Int)-1 by omega),Bool.and_false]; rfl)]; rfl,rfl⟩
    ·refine TL.on rfl rfl rfl (decide_eq_false g16_61) ?_
     refine TL.fieldAddr hF rfl rfl ?_
     refine TL.on rfl rfl rfl (decide_eq_false g16_61) ?_
     refine TL.load hF rfl (by first | exact At.own' (i:=0) rfl rfl | exact At.own' (i:=1) rfl rfl | exact At.own' (i:=2) rfl rfl | exact At.own' (i:=3) rfl rfl | exact At.own' (i:=4) rfl rfl | exact At.own' (i:=5) rfl rfl | exact At.own' (i:=6) rfl rfl | exact At.own' (i:=7) rfl rfl | exact At.own' (i:=8) rfl rfl | exact At.own' (i:=9) rfl rfl | exact At.own' (i:=10) rfl rfl | exact At.own' (i:=11) rfl rfl | exact At.own' (i:=12) rfl rfl) rfl ?_
     refine TL.on rfl rfl rfl (decide_eq_false g16_61) ?_
     refine TL.bin hF rfl rfl rfl rfl ?_
     refine TL.pickF hF rfl (decide_eq_false g16_61) rfl rfl ?_
     refine TL.move hF rfl rfl ?_
     refine TL.gd (t:=66) rfl (fun g16_66=>?_) (fun g16_66=>?_)
     ·refine TL.off hF rfl rfl rfl (decide_eq_true g16_66) rfl ?_
      refine TL.off hF rfl rfl rfl (decide_eq_true g16_66) rfl ?_
      refine TL.off hF rfl rfl rfl (decide_eq_true g16_66) rfl ?_
      refine TL.pickT hF rfl (decide_eq_true g16_66) rfl rfl ?_
      refine TL.nil ?_
      refine TQ.then_n ?_
      refine T.cond_t rfl rfl ?_
      refine T.seq ?_
      refine T.region ?_
      refine TL.assign hF rfl rfl ?_
      refine TL.nil ?_
      refine TQ.then_n ?_
      refine T.ret ?_
      refine TQ.then_r ?_
      refine TQ.pop ?_
      refine TQ.rets [6] _ rfl rfl rfl ?_
      exact ⟨by rw [ready_top hck (by unfold okTop; rw [List.length_map,decide_eq_false (show ¬ 0≤top.2 by omega),Bool.and_false]; rfl)]; rfl,rfl⟩
     ·refine TL.on rfl rfl rfl (decide_eq_false g16_66) ?_
      refine TL.fieldAddr hF rfl rfl ?_
      refine TL.on rfl rfl rfl (decide_eq_false g16_66) ?_
      refine TL.load hF rfl (by first | exact At.own' (i:=0) rfl rfl | exact At.own' (i:=1) rfl rfl | exact At.own' (i:=2) rfl rfl | exact At.own' (i:=3) rfl rfl | exact At.own' (i:=4) rfl rfl | exact At.own' (i:=5) rfl rfl | exact At.own' (i:=6) rfl rfl | exact At.own' (i:=7) rfl rfl | exact At.own' (i:=8) rfl rfl | exact At.own' (i:=9) rfl rfl | exact At.own' (i:=10) rfl rfl | exact At.own' (i:=11) rfl rfl | exact At.own' (i:=12) rfl rfl) rfl ?_
      refine TL.on rfl rfl rfl (decide_eq_false g16_66) ?_
      refine TL.bin hF rfl rfl rfl rfl ?_
      refine TL.pickF hF rfl (decide_eq_false g16_66) rfl rfl ?_
      refine TL.nil ?_
      refine TQ.then_n ?_
      first | refine T.cond_d rfl (fun ht70=>?_) (fun ht70=>?_) | refine T.cond _ rfl (fun ht70=>?_) (fun ht70=>?_)
      ·refine T.seq ?_
       refine T.region ?_
       refine TL.assign hF rfl rfl ?_
       refine TL.nil ?_
       refine TQ.then_n ?_
       refine T.ret ?_
       refine TQ.then_r ?_
       refine TQ.pop ?_
       refine TQ.rets [6] _ rfl rfl rfl ?_
       exact ⟨by rw [ready_top hck (by unfold okTop; rw [List.length_map,decide_eq_false (show ¬ top.2≤200 by omega),Bool.and_false])]; rfl,rfl⟩
      ·refine T.skip ?_
       refine TQ.then_n ?_
       refine T.seq ?_
       refine T.region ?_
       refine TL.assign hF rfl rfl ?_
       refine TL.nil ?_
       refine TQ.then_n ?_
       refine T.ret ?_
       refine TQ.pop ?_
       refine TQ.rets [6] _ rfl rfl rfl ?_
       refine ⟨?_,rfl⟩
       rw [ready_ok hck (fun x hx=>?_) (by unfold okTop; rw [List.length_map]; simp only [Bool.and_eq_true,decide_eq_true_eq]; omega)]; rfl
       obtain ⟨p,hp2,rfl⟩:=List.mem_map.1 hx
       exact hno p (by rw [List.take_of_length_le (by have h:¬ (k:Int)<(ps.length:Int):=ht20; omega)]; exact hp2)
end Go.Proofs.YtdiacobmhkmljaaDoor
/- What a call depends on, noted. -/
namespace Go.Proofs.YtdiacobmhkmljaaDoor
open Go.Sl
variable {S:Nat→Prop} {w0:World} {η:Heap}
/-- A call that is run: its key, its word, what it depends on so far, and its trace. -/
abbrev cC (k:Key) (w:Int) (a:Option Addr) (n c:Nat) (t:Nat):List Value:=[.int .i64 k.1,.int .i64 k.2,.int .i64 w,.slice a n c,ptr t]
abbrev cseg' (b:Nat) (k:Key) (w:Int) (a:Option Addr) (n c:Nat) (t:Nat):Seg:=[(b,Obj.cells (cC k w a n c t).toArray 88 (0,0))]
abbrev dpV (d:Dp):Value:=.agg #[.bool d.call,.int .i64 d.cell,.int .i64 d.key.1,.int .i64 d.key.2,.int .i64 d.word]
theorem flat_snoc {α:Type} (f:α→List Value) (l:List α) (x:α):l.flatMap f++f x=(l++[x]).flatMap f:=by simp
set_option maxHeartbeats 2000000 in
theorem read_dep (n w : Int) :
  Rt Tryd.prog 117 [.agg #[.int .i64 n,.int .i64 w]].toArray S w0 η (fun v η'=>v=dpV (cellD n w)∧η'=η):=by
 have hF:=open_wide
 refine Rt.of (fn:=Tryd.f117) Tryd.func117 rfl rfl ?_
 refine T.seq ?_
 refine T.region ?_
 refine TL.box hF rfl rfl (fun b1=>?_)
 refine TL.alloc hF rfl (fun b2=>?_)
 refine TL.nil ?_
 refine TQ.then_n ?_
 refine T.seq ?_
 refine T.region ?_
 refine TL.fieldAddr hF rfl rfl ?_
 refine TL.load hF rfl (by first | exact At.own' (i:=0) rfl rfl | exact At.own' (i:=1) rfl rfl | exact At.own' (i:=2) rfl rfl | exact At.own' (i:=3) rfl rfl | exact At.own' (i:=4) rfl rfl | exact At.own' (i:=5) rfl rfl | exact At.own' (i:=6) rfl rfl | exact At.own' (i:=7) rfl rfl | exact At.own' (i:=8) rfl rfl | exact At.own' (i:=9) rfl rfl | exact At.own' (i:=10) rfl rfl | exact At.own' (i:=11) rfl rfl | exact At.own' (i:=12) rfl rfl) rfl ?_
 refine TL.fieldAddr hF rfl rfl ?_
 refine TL.load hF rfl (by first | exact At.own' (i:=0) rfl rfl | exact At.own' (i:=1) rfl rfl | exact At.own' (i:=2) rfl rfl | exact At.own' (i:=3) rfl rfl | exact At.own' (i:=4) rfl rfl | exact At.own' (i:=5) rfl rfl | exact At.own' (i:=6) rfl rfl | exact At.own' (i:=7) rfl rfl | exact At.own' (i:=8) rfl rfl | exact At.own' (i:=9) rfl rfl | exact At.own' (i:=10) rfl rfl | exact At.own' (i:=11) rfl rfl | exact At.own' (i:=12) rfl rfl) rfl ?_
 refine TL.build hF rfl (r:=dpV (cellD n w)) (fun w=>by kernel_rfl) rfl ?_
 refine TL.storeAI hF (dpC (cellD n w)) 0 rfl rfl rfl rfl (dpC1 _) (by simp [Value.cells,dpC]) ?_
 refine TL.nil ?_
 refine TQ.then_n ?_
 refine T.ret ?_
 refine TQ.retC (dpC (cellD n w)) η rfl rfl rfl (own_list (i:=0) (cs:=dpC (cellD n w)) rfl) (by simp) ⟨rfl,rfl⟩
set_option maxHeartbeats 2000000 in
theorem made_dep (k : Key) (w : Int) :
  Rt Tryd.prog 118 [.agg #[.int .i64 k.1,.int .i64 k.2,.int .i64 w]].toArray S w0 η (fun v η'=>v=dpV (gotD k w)∧η'=η):=by
 have hF:=open_wide
 refine Rt.of (fn:=Tryd.f118) Tryd.func118 rfl rfl ?_
 refine T.seq ?_
 refine T.region ?_
 refine TL.box hF rfl rfl (fun b1=>?_)
 refine TL.alloc hF rfl (fun b2=>?_)
 refine TL.nil ?_
 refine TQ.then_n ?_
 refine T.seq ?_
 refine T.region ?_
 refine TL.fieldAddr hF rfl rfl ?_
 refine TL.loadA hF [.int .i64 k.1,.int .i64 k.2] rfl rfl (fun i v hi=>own_list (i:=1) (cs:=[.int .i64 k.1,.int .i64 k.2,.int .i64 w]) rfl i v (by match i,hi with | 0,h=>exact h | 1,h=>exact h)) rfl ?_
 refine TL.fieldAddr hF rfl rfl ?_
 refine TL.load hF rfl (by first | exact At.own' (i:=0) rfl rfl | exact At.own' (i:=1) rfl rfl | exact At.own' (i:=2) rfl rfl | exact At.own' (i:=3) rfl rfl | exact At.own' (i:=4) rfl rfl | exact At.own' (i:=5) rfl rfl | exact At.own' (i:=6) rfl rfl | exact At.own' (i:=7) rfl rfl | exact At.own' (i:=8) rfl rfl | exact At.own' (i:=9) rfl rfl | exact At.own' (i:=10) rfl rfl | exact At.own' (i:=11) rfl rfl | exact At.own' (i:=12) rfl rfl) rfl ?_
 refine TL.build hF rfl (r:=dpV (gotD k w)) (fun w=>by kernel_rfl) rfl ?_
 refine TL.storeAI hF (dpC (gotD k w)) 0 rfl rfl rfl rfl (dpC1 _) (by simp [Value.cells,dpC]) ?_
 refine TL.nil ?_
 refine TQ.then_n ?_
 refine T.ret ?_
 refine TQ.retC (dpC (gotD k w)) η rfl rfl rfl (own_list (i:=0) (cs:=dpC (gotD k w)) rfl) (by simp) ⟨rfl,rfl⟩
theorem TL_invokeV {F : Fence} {P : Program} {n : Nat} {Q : Exit → Act → World → Prop} {ds : List Deferred} {σ : Env} {ops : Array Oper} {rest : List Oper} {d : Nat} {ty : TypeId} {pos : String} {af : Array Edge} (hF : Sl.Open F) {rv : Operand} {m : String} {args : Array Operand} {ats : Array TypeId} {g : FuncId} {t : TypeId} {x rcv r : Value} {vs : List Value} [Ent P g]
  (hrv:ev σ rv=some (.iface t x)) (ha:evs σ args.toList=some vs) (hm:∀ w,(method (P.types.size+Made.depth) t x m).run P w = .ok (g,rcv) w)
  (hc:Rt P g (rcv::vs).toArray S w0 η (fun v η'=>v=r∧η'=η)) (hn:Nat.blt d n=true) (h:TL F P S w0 n ops Q rest ds ((d,r)::σ) η) :
  TL F P S w0 n ops Q (⟨some d,.call ⟨.invoke rv m,args,ats⟩,ty,pos,af,none⟩::rest) ds σ η :=
 TL.invoke hF hrv ha hm hc hn fun v η' hr=>by obtain ⟨rfl,rfl⟩:=hr; exact h
set_option maxHeartbeats 2000000 in
theorem ask_read (n w : Int) {b t c : Nat} {a : Option Addr} {k : Key} {w1 : Int} {ds : List Dp} {dg : Seg} (hd : OSl 56 5 (.slice a ds.length c) ds.length (ds.flatMap dpC) dg) (hl : ds.length < 4294967296) :
  Rt Tryd.prog 64 [ptr b,.iface 130 (.agg #[.int .i64 n,.int .i64 w])].toArray S w0 (cseg' b k w1 a ds.length c t::dg::η) (fun _ η'=>∃ a' c' dg',OSl 56 5 (.slice a' (ds++[(cellD n w)]).length c') (ds++[(cellD n w)]).length ((ds++[(cellD n w)]).flatMap dpC) dg'∧η'=cseg' b k w1 a' (ds++[(cellD n w)]).length c' t::dg'::η):=by
 have hF:=open_wide
 refine Rt.of (fn:=Tryd.f64) Tryd.func64 rfl rfl ?_
 refine T.drawH 10 mixed ?_
 refine DH.pure (i:=0) [(0,_,none)] rfl rfl rfl rfl ⟨⟨rfl,by kernel_rfl⟩,trivial⟩ (fun _ ext=>TL.move hF rfl rfl TL.fin) ?_
 refine DH.pure (i:=1) [(0,_,none)] rfl rfl rfl rfl ⟨⟨rfl,by kernel_rfl⟩,trivial⟩ (fun _ ext=>TL.move hF rfl rfl TL.fin) ?_
 refine DH.pure (i:=2) [(5,_,some 1)] rfl rfl rfl rfl ⟨⟨rfl,rfl,rfl⟩,trivial⟩ (fun _ ext=>TL.nilCheck hF rfl rfl TL.fin) ?_
 refine DH.pure (i:=3) [(6,_,some 2)] rfl rfl rfl rfl ⟨⟨rfl,rfl,rfl⟩,trivial⟩ (fun _ ext=>TL.fieldAddr hF rfl rfl TL.fin) ?_
 refine DH.pure (i:=4) [(7,_,some 3)] rfl rfl rfl rfl ⟨⟨rfl,rfl,rfl⟩,trivial⟩ (fun _ ext=>TL.fieldAddr hF rfl rfl TL.fin) ?_
 refine DH.read (i:=5) [(8,_,some 4)] rfl rfl rfl rfl ⟨⟨rfl,rfl,rfl⟩,trivial⟩ (fun ext=>TL.load hF rfl (own_mem (cs:=(cC k w1 a ds.length c t).toArray) (e:=88) (fz:=(0,0)) (by simp) rfl) rfl TL.fin) ?_
 refine DH.pure (i:=6) [(1,_,none)] rfl rfl rfl rfl ⟨⟨rfl,by kernel_rfl⟩,trivial⟩ (fun _ ext=>TL.move hF rfl rfl TL.fin) ?_
 refine DH.read (i:=7) [(10,_,some 6)] rfl rfl rfl rfl ⟨⟨rfl,rfl,rfl⟩,trivial⟩ (fun ext=>TL_invokeV hF rfl rfl (g:=117) (rcv:=.agg #[.int .i64 n,.int .i64 w]) (fun w=>by kernel_rfl) (read_dep n w) rfl TL.fin) ?_
 refine DH.k1 (by kernel_rfl) (by kernel_rfl) (by kernel_rfl) (by kernel_rfl) (HBK.mk (h:=8) [5] [(11,_,some 7)] rfl rfl rfl ⟨⟨rfl,rfl,rfl⟩,trivial⟩ (by kernel_rfl) (fun ext=>?_))
 refine TL.buildSlice hF rfl (cs:=(dpC (cellD n w)).toArray) (e:=56) (fun w=>by kernel_rfl) rfl (fun b12=>?_)
 refine TL.finK ⟨⟨_,rfl,_,_,[(8,_,some 4)],rfl,rfl,⟨⟨rfl,rfl,rfl⟩,trivial⟩,fun ext=>TL.load hF rfl (own_mem (cs:=(cC k w1 a ds.length c t).toArray) (e:=88) (fz:=(0,0)) (by simp) rfl) rfl TL.fin⟩,trivial⟩ ?_
 refine DH.heavy 9 [(9,_,some 5),(12,_,some 8)] (by kernel_rfl) (by kernel_rfl) (by kernel_rfl) (by kernel_rfl) rfl rfl rfl rfl ⟨⟨rfl,rfl,rfl⟩,⟨rfl,rfl,rfl⟩,trivial⟩ (by kernel_rfl) (fun ext=>?_)
 refine TL.append hF 2 rfl rfl rfl hd (row_own (cs:=dpC (cellD n w)) (e:=56) (by simp)).src rfl rfl (dpC1 _) (by omega) (by omega) rfl (fun a' c' dg' hd'=>?_)
 rw [flat_snoc] at hd'
 refine TL.finD ?_
 refine DH.done [(13,_),(12,_),(11,_),(10,_),(9,_),(8,_),(7,_),(6,_),(5,_),(4,_)] [_,_,_,_] (by kernel_rfl) (by kernel_rfl) (by kernel_rfl) (by kernel_rfl) rfl rfl ?_
 refine TL.nilCheck hF rfl rfl ?_
 refine TL.fieldAddr hF rfl rfl ?_
 refine TL.fieldAddr hF rfl rfl ?_
 refine TL.storeI hF (i:=1) rfl rfl rfl rfl (by simp) ?_
 refine TL.nil ?_
 refine TQ.norm ?_
 refine TQ.pop ?_
 refine TQ.rets [] _ rfl rfl rfl ?_
 refine ⟨a',c',dg',?_,?_⟩
 ·simpa using hd'
 ·rw [List.length_append]; rfl
set_option maxHeartbeats 2000000 in
theorem ask_made (q : Key) (w : Int) {b t c : Nat} {a : Option Addr} {k : Key} {w1 : Int} {ds : List Dp} {dg : Seg} (hd : OSl 56 5 (.slice a ds.length c) ds.length (ds.flatMap dpC) dg) (hl : ds.length < 4294967296) :
  Rt Tryd.prog 64 [ptr b,.iface 135 (.agg #[.int .i64 q.1,.int .i64 q.2,.int .i64 w])].toArray S w0 (cseg' b k w1 a ds.length c t::dg::η) (fun _ η'=>∃ a' c' dg',OSl 56 5 (.slice a' (ds++[(gotD q w)]).length c') (ds++[(gotD q w)]).length ((ds++[(gotD q w)]).flatMap dpC) dg'∧η'=cseg' b k w1 a' (ds++[(gotD q w)]).length c' t::dg'::η):=by
 have hF:=open_wide
 refine Rt.of (fn:=Tryd.f64) Tryd.func64 rfl rfl ?_
 refine T.drawH 10 mixed ?_
 refine DH.pure (i:=0) [(0,_,none)] rfl rfl rfl rfl ⟨⟨rfl,by kernel_rfl⟩,trivial⟩ (fun _ ext=>TL.move hF rfl rfl TL.fin) ?_
 refine DH.pure (i:=1) [(0,_,none)] rfl rfl rfl rfl ⟨⟨rfl,by kernel_rfl⟩,trivial⟩ (fun _ ext=>TL.move hF rfl rfl TL.fin) ?_
 refine DH.pure (i:=2) [(5,_,some 1)] rfl rfl rfl rfl ⟨⟨rfl,rfl,rfl⟩,trivial⟩ (fun _ ext=>TL.nilCheck hF rfl rfl TL.fin) ?_
 refine DH.pure (i:=3) [(6,_,some 2)] rfl rfl rfl rfl ⟨⟨rfl,rfl,rfl⟩,trivial⟩ (fun _ ext=>TL.fieldAddr hF rfl rfl TL.fin) ?_
 refine DH.pure (i:=4) [(7,_,some 3)] rfl rfl rfl rfl ⟨⟨rfl,rfl,rfl⟩,trivial⟩ (fun _ ext=>TL.fieldAddr hF rfl rfl TL.fin) ?_
 refine DH.read (i:=5) [(8,_,some 4)] rfl rfl rfl rfl ⟨⟨rfl,rfl,rfl⟩,trivial⟩ (fun ext=>TL.load hF rfl (own_mem (cs:=(cC k w1 a ds.length c t).toArray) (e:=88) (fz:=(0,0)) (by simp) rfl) rfl TL.fin) ?_
 refine DH.pure (i:=6) [(1,_,none)] rfl rfl rfl rfl ⟨⟨rfl,by kernel_rfl⟩,trivial⟩ (fun _ ext=>TL.move hF rfl rfl TL.fin) ?_
 refine DH.read (i:=7) [(10,_,some 6)] rfl rfl rfl rfl ⟨⟨rfl,rfl,rfl⟩,trivial⟩ (fun ext=>TL_invokeV hF rfl rfl (g:=118) (rcv:=.agg #[.int .i64 q.1,.int .i64 q.2,.int .i64 w]) (fun w=>by kernel_rfl) (made_dep q w) rfl TL.fin) ?_
 refine DH.k1 (by kernel_rfl) (by kernel_rfl) (by kernel_rfl) (by kernel_rfl) (HBK.mk (h:=8) [5] [(11,_,some 7)] rfl rfl rfl ⟨⟨rfl,rfl,rfl⟩,trivial⟩ (by kernel_rfl) (fun ext=>?_))
 refine TL.buildSlice hF rfl (cs:=(dpC (gotD q w)).toArray) (e:=56) (fun w=>by kernel_rfl) rfl (fun b12=>?_)
 refine TL.finK ⟨⟨_,rfl,_,_,[(8,_,some 4)],rfl,rfl,⟨⟨rfl,rfl,rfl⟩,trivial⟩,fun ext=>TL.load hF rfl (own_mem (cs:=(cC k w1 a ds.length c t).toArray) (e:=88) (fz:=(0,0)) (by simp) rfl) rfl TL.fin⟩,trivial⟩ ?_
 refine DH.heavy 9 [(9,_,some 5),(12,_,some 8)] (by kernel_rfl) (by kernel_rfl) (by kernel_rfl) (by kernel_rfl) rfl rfl rfl rfl ⟨⟨rfl,rfl,rfl⟩,⟨rfl,rfl,rfl⟩,trivial⟩ (by kernel_rfl) (fun ext=>?_)
 refine TL.append hF 2 rfl rfl rfl hd (row_own (cs:=dpC (gotD q w)) (e:=56) (by simp)).src rfl rfl (dpC1 _) (by omega) (by omega) rfl (fun a' c' dg' hd'=>?_)
 rw [flat_snoc] at hd'
 refine TL.finD ?_
 refine DH.done [(13,_),(12,_),(11,_),(10,_),(9,_),(8,_),(7,_),(6,_),(5,_),(4,_)] [_,_,_,_] (by kernel_rfl) (by kernel_rfl) (by kernel_rfl) (by kernel_rfl) rfl rfl ?_
 refine TL.nilCheck hF rfl rfl ?_
 refine TL.fieldAddr hF rfl rfl ?_
 refine TL.fieldAddr hF rfl rfl ?_
 refine TL.storeI hF (i:=1) rfl rfl rfl rfl (by simp) ?_
 refine TL.nil ?_
 refine TQ.norm ?_
 refine TQ.pop ?_
 refine TQ.rets [] _ rfl rfl rfl ?_
 refine ⟨a',c',dg',?_,?_⟩
 ·simpa using hd'
 ·rw [List.length_append]; rfl
end Go.Proofs.YtdiacobmhkmljaaDoor
/- What a trace holds in memory: its calls, and where they are found. -/
namespace Go.Proofs.YtdiacobmhkmljaaDoor
open Go.Sl
variable {S:Nat→Prop} {w0:World} {η:Heap}
open Go in
theorem eqK (a b:Key) (w:World):(Op.equal 25 (kV a) (kV b)).run Tryd.prog w = .ok (decide (a=b)) w:=by
 have hf:Tryd.prog.underlying 25=some (.struct (Tryd.prog.fieldsOf 25)):=by kernel_rfl
 have hs:Tryd.prog.stoodInHeld 25=false:=by kernel_rfl
 obtain ⟨f1, f2, h12, n1, n2, t1, t2, o1, o2⟩ : ∃ f1 f2, (Tryd.prog.fieldsOf 25).toList = [f1, f2] ∧ f1.name ≠ "_" ∧ f2.name ≠ "_" ∧ f1.type = 3 ∧ f2.type = 3 ∧ f1.offset = 0 ∧ f2.offset = 1 := by
  unfold Program.fieldsOf; rw [show Tryd.prog.underlying 25=Tryd.prog.underlying 24 from by kernel_rfl,Tryd.underlying24]
  exact ⟨_,_,rfl,by decide,by decide,rfl,rfl,rfl,rfl⟩
 have hp:∀ (cs:Array Value) (o:Nat) (v:Value),cs[o]?=some v→(part 3 cs o).run Tryd.prog w = .ok v w:=by
  intro cs o v h
  simp [part,Ag.eq (P:=Tryd.prog) (t:=3) (b:=false),h]
 obtain ⟨a1,a2⟩:=a
 obtain ⟨b1,b2⟩:=b
 unfold Op.equal kV
 rw [show Op.maxDepth=9999+1 from rfl,run_equalIn_struct w 9999 25 _ _ hf hs,h12]
 have hall:AllF Tryd.prog w 9999 #[.int .i64 a1,.int .i64 a2] #[.int .i64 b1,.int .i64 b2] [f1,f2] [(.int .i64 a1,.int .i64 b1,a1 == b1),(.int .i64 a2,.int .i64 b2,a2 == b2)] :=
  ⟨⟨n1,by rw [o1,t1]; exact hp _ 0 _ rfl,by rw [o1,t1]; exact hp _ 0 _ rfl,by rw [t1]; exact run_equalIn_int w 9998 3 .i64 .i64 a1 b1 Tryd.underlying3⟩,
   ⟨n2,by rw [o2,t2]; exact hp _ 1 _ rfl,by rw [o2,t2]; exact hp _ 1 _ rfl,by rw [t2]; exact run_equalIn_int w 9998 3 .i64 .i64 a2 b2 Tryd.underlying3⟩,trivial⟩
 rw [run_eqFields_all _ _ hall]
 by_cases h:a1=b1 <;> by_cases g:a2=b2 <;> simp [h,g]
instance :MKey Tryd.prog 25 kV where
 chk k e w:=by kernel_rfl
 find k es l w h:=by
  have h1:=find_asking (K:=kV) (kt:=25) eqK k es l 0 w h
  have h2:(Instr.findKey 25 (kV k) es).run Tryd.prog w=(Instr.findAsking 25 (kV k) es 0).run Tryd.prog w:=by
   have hu:∃ fs,Tryd.prog.underlying 25=some (.struct fs):=⟨_,show Tryd.prog.underlying 25=some _ from (show Tryd.prog.underlying 25=Tryd.prog.underlying 24 from by kernel_rfl).trans Tryd.underlying24⟩
   obtain ⟨fs,hu⟩:=hu
   have hr:(underlying 25).run Tryd.prog w = .ok (.struct fs) w:=by simp [underlying,hu]
   cases es with
   | nil=>simp [Instr.findKey,hr,Instr.findNow,Instr.findAsking]
   | cons e es=>simp [Instr.findKey,hr,Instr.findNow,Instr.sameNow]
  rw [h2,h1]; simp
 same k:=by simp [Instr.sameBits]
/-- A call that was made, with where it lies. -/
structure PC where
 nd:Nd
 b:Nat
 a:Option Addr
 c:Nat
def pnds (l:List PC):List Nd:=l.map (·.nd)
def kb (l:List PC):List (Key × Nat):=l.map fun x=>(x.nd.key,x.b)
structure CM (S:Nat→Prop) (w0:World) (η:Heap) (tb:Nat) (x:PC):Prop where
 at':∀ j v,(cC x.nd.key x.nd.word x.a x.nd.deps.length x.c tb)[j]?=some v→At S w0 η ⟨x.b,0+j,none⟩ v
 deps:Deps S w0 η ⟨x.nd,x.a,x.c⟩
theorem CM.map {S':Nat→Prop} {w1:World} {η':Heap} {tb:Nat} {x:PC} (hm:∀ a v,At S w0 η a v→At S' w1 η' a v) (h:CM S w0 η tb x):CM S' w1 η' tb x :=
 ⟨fun j v hj=>hm _ _ (h.at' j v hj),⟨⟨h.deps.row.ad,fun i v hi=>hm _ _ (h.deps.row.cell i v hi)⟩,h.deps.cap,h.deps.len⟩⟩
theorem CM.up {η':Heap} {tb:Nat} {x:PC} (h:CM S w0 η tb x) (hs:∀ s∈η,s∈η'):CM S w0 η' tb x:=h.map fun _ _ ha=>ha.up hs
/-- The map of calls, and their memory. -/
structure Mp where
 es:Array MapEntry
 clock:Nat
 l:List PC
 hc:Heap
structure MM (S:Nat→Prop) (w0:World) (tb:Nat) (ns:List Nd) (m:Mp):Prop where
 obj:MObj kV ptr (kb m.l) m.es m.clock
 nds:pnds m.l=ns
 mem:∀ x∈m.l,CM S w0 m.hc tb x
abbrev mseg (mb:Nat) (m:Mp):Seg:=[(mb,.map m.es m.clock)]
theorem kb_find {k:Key}:∀ {l:List PC},(mget k (kb l)=none∧findN (pnds l) k=none)∨∃ x∈l,mget k (kb l)=some x.b∧findN (pnds l) k=some x.nd∧x.nd.key=k
 | []=>.inl ⟨rfl,rfl⟩
 | x::r=>by
  unfold kb pnds findN
  rw [List.map_cons,List.map_cons,List.find?_cons,mget]
  by_cases e:x.nd.key=k
  ·refine .inr ⟨x,by simp,?_,?_,e⟩ <;> simp [e]
  ·rcases kb_find (k:=k) (l:=r) with ⟨h1,h2⟩ | ⟨y,hy,h1,h2,h3⟩
   ·exact .inl ⟨by simp [Ne.symm e]; exact h1,by simp [e]; simpa [findN,pnds] using h2⟩
   ·exact .inr ⟨y,by simp [hy],by simp [Ne.symm e]; exact h1,by simp [e]; simpa [findN,pnds] using h2,h3⟩
theorem kb_app (l m:List PC):kb (l++m)=kb l++kb m:=by simp [kb]
theorem pnds_app (l m:List PC):pnds (l++m)=pnds l++pnds m:=by simp [pnds]
theorem mput_none {α β:Type} [DecidableEq α] {k:α} (v:β) {m:List (α × β)} (h:mget k m=none):mput k v m=m++[(k,v)]:=by
 refine mput_new v ?_
 have:=fidx_mget (k:=k) (m:=m)
 rw [h] at this
 cases hq:fidx k (m.map (·.1)) with
 | none=>rfl
 | some i=>rw [hq] at this; cases this
theorem permL (L:Heap) {a b c:Seg} {X Y:Heap}:(L++(a::b::c::(X++Y))).Perm (a::b::c::(X++(L++Y))):=by
 exact List.perm_append_comm_assoc L (a::b::c::X) Y
theorem permM (L:Heap) {c:Seg} {X Y:Heap}:(L++(c::(X++Y))).Perm (c::(X++(L++Y))):=by
 exact List.perm_append_comm_assoc L (c::X) Y
theorem permA (L:Heap) {a b:Seg} {Y:Heap}:(L++(a::b::Y)).Perm (a::b::(L++Y)):=by
 exact List.perm_append_comm_assoc L [a,b] Y
section
variable {F:Fence} {P:Program} {n:Nat} {Q:Exit→Act→World→Prop} {ds:List Deferred} {σ:Env} {ops:Array Oper} {rest:List Oper} {d:Nat} {ty:TypeId} {pos:String} {af:Array Edge}
theorem TL_lookS (hF : Sl.Open F) {t kt et : TypeId} [Und P t (.map kt et)] {z : Value} {sz bt : Nat} [Inf P et z sz bt] {α β : Type} [DecidableEq α] {K : α → Value} [MKey P kt K] (V : β → Value) {m : List (α × β)} {es : Array MapEntry} {clock b : Nat} (k : α) {u : β} (hg : mget k m = some u) {x y : Operand} (hx : ev σ x = some (.map (some b))) (hy : ev σ y = some (K k)) (hb : [(b, .map es clock)] ∈ η) (hm : MObj K V m es clock) (hn : Nat.blt d n = true)
  (h:TL F P S w0 n ops Q rest ds ((d,.tuple #[V u,.bool true])::σ) η):TL F P S w0 n ops Q (⟨some d,.lookup t x y true,ty,pos,af,none⟩::rest) ds σ η :=
 TL.lookupOk hF V k hx hy hb hm hn (by rw [hg]; exact h)
theorem TL_lookN (hF : Sl.Open F) {t kt et : TypeId} [Und P t (.map kt et)] {z : Value} {sz bt : Nat} [Inf P et z sz bt] {α β : Type} [DecidableEq α] {K : α → Value} [MKey P kt K] (V : β → Value) {m : List (α × β)} {es : Array MapEntry} {clock b : Nat} (k : α) (hg : mget k m = none) {x y : Operand} (hx : ev σ x = some (.map (some b))) (hy : ev σ y = some (K k)) (hb : [(b, .map es clock)] ∈ η) (hm : MObj K V m es clock) (hn : Nat.blt d n = true)
  (h:TL F P S w0 n ops Q rest ds ((d,.tuple #[z,.bool false])::σ) η):TL F P S w0 n ops Q (⟨some d,.lookup t x y true,ty,pos,af,none⟩::rest) ds σ η :=
 TL.lookupOk hF V k hx hy hb hm hn (by rw [hg]; exact h)
theorem TL_look1S (hF : Sl.Open F) {t kt et : TypeId} [Und P t (.map kt et)] {z : Value} {sz bt : Nat} [Inf P et z sz bt] {α β : Type} [DecidableEq α] {K : α → Value} [MKey P kt K] (V : β → Value) {m : List (α × β)} {es : Array MapEntry} {clock b : Nat} (k : α) {u : β} (hg : mget k m = some u) {x y : Operand} (hx : ev σ x = some (.map (some b))) (hy : ev σ y = some (K k)) (hb : [(b, .map es clock)] ∈ η) (hm : MObj K V m es clock) (hn : Nat.blt d n = true)
  (h:TL F P S w0 n ops Q rest ds ((d,V u)::σ) η):TL F P S w0 n ops Q (⟨some d,.lookup t x y false,ty,pos,af,none⟩::rest) ds σ η :=
 TL.lookup hF V k hx hy hb hm hn (by rw [hg]; exact h)
theorem TL_look1N (hF : Sl.Open F) {t kt et : TypeId} [Und P t (.map kt et)] {z : Value} {sz bt : Nat} [Inf P et z sz bt] {α β : Type} [DecidableEq α] {K : α → Value} [MKey P kt K] (V : β → Value) {m : List (α × β)} {es : Array MapEntry} {clock b : Nat} (k : α) (hg : mget k m = none) {x y : Operand} (hx : ev σ x = some (.map (some b))) (hy : ev σ y = some (K k)) (hb : [(b, .map es clock)] ∈ η) (hm : MObj K V m es clock) (hn : Nat.blt d n = true)
  (h:TL F P S w0 n ops Q rest ds ((d,z)::σ) η):TL F P S w0 n ops Q (⟨some d,.lookup t x y false,ty,pos,af,none⟩::rest) ds σ η :=
 TL.lookup hF V k hx hy hb hm hn (by rw [hg]; exact h)
end
/-- What lies still while calls are run. -/
structure Cx (S:Nat→Prop) (w0:World) (tb b8 b3 mb:Nat) (fa:Option Addr) (fc:Nat) (fl:List TE) (ca:Option Addr) (cc:Nat) (cells:List Int):Prop where
 tabs:Tabs S w0
 fs:Fs S w0 [] fa fl
 cl:Row S w0 [] ca (ints cells)
 t:∀ j v,([.slice fa fl.length fc,.slice ca cells.length cc,.map (some mb),.func (.func 54) #[] #[ptr b8,ptr b3]]:List Value)[j]?=some v→At S w0 [] ⟨tb,0+j,none⟩ v
 p8:At S w0 [] ⟨b8,0,none⟩ (ptr tb)
 p3:At S w0 [] ⟨b3,0,none⟩ (.slice fa fl.length fc)
 sc:Scn (fl.map TE.ex) cells
theorem fnAt {fl:List TE} {i:Nat} (h:i<fl.length):(fl.map TE.ex).getD i noE=fl[i].ex:=by
 rw [List.getD_eq_getElem?_getD,List.getElem?_map,List.getElem?_eq_getElem h]; rfl
/-- The two words of an array. -/
def arrV (ws:List Int):List Value:=[.int .i64 (at0 ws 0),.int .i64 (at0 ws 1)]
theorem arr_set {ws:List Int} {w:Int} {i:Nat} (h:ws.length=i) (hi:i<2):(arrV ws).toArray.setIfInBounds (0+(i:Int).toNat*1) (.int .i64 w)=(arrV (ws++[w])).toArray:=by
 match ws,h with
 | [],h=>subst h; rfl
 | [x],h=>subst h; rfl
 | _::_::r,h=>simp at h; omega
end Go.Proofs.YtdiacobmhkmljaaDoor
/- Calls are run, and expressions evaluated. -/
namespace Go.Proofs.YtdiacobmhkmljaaDoor
open Go.Sl
variable {S:Nat→Prop} {w0:World} {η:Heap}
theorem evs_step {C : List Nd → Key → List Nd × Int} {cells : List Int} {arg : Int} {l : List TE} {i : Nat} (hi : i < l.length) (ns : List Nd) (ds : List Dp) :
  evalsS C cells arg ((l.map TE.ex).take (i+1)) ns ds=((evalS C cells arg l[i].ex (evalsS C cells arg ((l.map TE.ex).take i) ns ds).1 (evalsS C cells arg ((l.map TE.ex).take i) ns ds).2.2).1,(evalsS C cells arg ((l.map TE.ex).take i) ns ds).2.1++[(evalS C cells arg l[i].ex (evalsS C cells arg ((l.map TE.ex).take i) ns ds).1 (evalsS C cells arg ((l.map TE.ex).take i) ns ds).2.2).2.1],(evalS C cells arg l[i].ex (evalsS C cells arg ((l.map TE.ex).take i) ns ds).1 (evalsS C cells arg ((l.map TE.ex).take i) ns ds).2.2).2.2):=by
 rw [List.take_succ_eq_append_getElem (by simpa using hi),evalsS_snoc]; simp
theorem rowAt0 {a:Option Addr} {xs:List Int} (h:Row S w0 η a (ints xs)) {i:Nat} (hi:i<xs.length):At S w0 η (sAt a (i*1)) (.int .i64 (at0 xs i)):=by
 have:=h.int hi
 unfold at0
 rw [List.getD_eq_getElem?_getD,List.getElem?_eq_getElem hi]; exact this
theorem TL_remE {F : Fence} {P : Program} {n : Nat} {Q : Exit → Act → World → Prop} {ds : List Deferred} {σ : Env} {ops : Array Oper} {rest : List Oper} {d : Nat} {ty : TypeId} {pos : String} {af : Array Edge} (hF : Sl.Open F) {xt yt : TypeId} {x y : Operand} {k : IntKind} {a b r : Int} (hx : ev σ x = some (.int k a)) (hy : ev σ y = some (.int k b)) (hb : b ≠ 0) (hr : Int.tmod a b = r) (hn : Nat.blt d n = true)
  (h:TL F P S w0 n ops Q rest ds ((d,.int k r)::σ) η):TL F P S w0 n ops Q (⟨some d,.binOp .rem xt x y yt,ty,pos,af,none⟩::rest) ds σ η:=TL.remI hF hx hy hb hn (by rw [hr]; exact h)
theorem cellAt_lt {cells:List Int} (h:1≤cells.length) (w:Int):cellAt cells w<cells.length:=by
 unfold cellAt
 have h1:=Int.emod_nonneg w (show (cells.length:Int)≠0 by omega)
 have h2:=Int.emod_lt_of_pos w (show (0:Int)<cells.length by omega)
 omega
theorem cellAt_mod {cells:List Int} (h:1≤cells.length) (w:Int):Int.tmod (Int.tmod w cells.length+cells.length) cells.length=(cellAt cells w:Nat):=by
 rw [mod_turn (by omega)]
 unfold cellAt
 have h1:=Int.emod_nonneg w (show (cells.length:Int)≠0 by omega)
 omega
theorem tmod_bnd {w:Int} {n:Nat} (h:1≤n) : -(n:Int)<Int.tmod w n∧Int.tmod w n<n:=by
 have h2:=Int.emod_nonneg w (show (n:Int)≠0 by omega)
 have h3:=Int.emod_lt_of_pos w (show (0:Int)<n by omega)
 rw [Int.tmod_eq_emod]
 split
 ·simp; omega
 ·simp; omega
/-- Behind an expression: its word, and memory. -/
def EvR (S:Nat→Prop) (w0:World) (tb b mb:Nat) (k:Key) (w1:Int) (η:Heap) (r:List Nd × Int × List Dp) (v:Value) (η':Heap):Prop :=
 ∃ a c dg m,v = .int .i64 r.2.1∧OSl 56 5 (.slice a r.2.2.length c) r.2.2.length (r.2.2.flatMap dpC) dg∧MM S w0 tb r.1 m∧η'=cseg' b k w1 a r.2.2.length c tb::dg::mseg mb m::(m.hc++η)
/-- Calls run, so many within one another. -/
def RunP (S:Nat→Prop) (w0:World) (tb b8 b3 mb:Nat) (F:List Ex) (cells:List Int) (f:Nat):Prop :=
 ∀ (k:Key) (ns:List Nd) (m:Mp) (η:Heap),KOk F f k→Good F cells ns→MM S w0 tb ns m →
  Rt Tryd.prog 54 [kV k,ptr b8,ptr b3].toArray S w0 (mseg mb m::(m.hc++η)) fun v η'=>∃ m',v = .int .i64 (runS F cells f ns k).2∧MM S w0 tb (runS F cells f ns k).1 m'∧η'=mseg mb m'::(m'.hc++η)
structure SE where
 i:Nat
 a:Option Addr
 c:Nat
 dg:Seg
 m:Mp
set_option maxHeartbeats 8000000 in
theorem eval_step {tb b8 b3 mb : Nat} {fa : Option Addr} {fc : Nat} {fl : List TE} {ca : Option Addr} {cc : Nat} {cells : List Int} (hX : Cx S w0 tb b8 b3 mb fa fc fl ca cc cells) {f : Nat} (hf : f ≤ 201) (hR : RunP S w0 tb b8 b3 mb (fl.map TE.ex) cells f) {b : Nat} {k : Key} {w1 : Int} (hk0 : 0 ≤ k.2) (hkf : k.2 ≤ f) (hk2 : k.2 ≤ 200) (M : Nat) (IH : ∀ x : TE, sizeE x.ex < M → Tr S w0 [] x → rightE (fl.map TE.ex).length x.ex = true → ∀ (ns : List Nd) (ds : List Dp) (a : Option Addr) (c : Nat) (dg : Seg) (m : Mp) (η : Heap), ds.length + sizeE x.ex ≤ 40 → OSl 56 5 (.slice a ds.length c) ds.length (ds.flatMap dpC) dg → MM S w0 tb ns m → Good (fl.map TE.ex) cells ns →
  Rt Tryd.prog 55 [ptr b,teV x].toArray S w0 (cseg' b k w1 a ds.length c tb::dg::mseg mb m::(m.hc++η)) (EvR S w0 tb b mb k w1 η (evalS (runS (fl.map TE.ex) cells f) cells k.2 x.ex ns ds))) (e:TE) (hM:sizeE e.ex≤M) (hT:Tr S w0 [] e) (hr:rightE (fl.map TE.ex).length e.ex=true)
  (ns:List Nd) (ds:List Dp) (a:Option Addr) (c:Nat) (dg:Seg) (m:Mp) (η:Heap) (hs:ds.length+sizeE e.ex≤40) (hd:OSl 56 5 (.slice a ds.length c) ds.length (ds.flatMap dpC) dg) (hm:MM S w0 tb ns m) (hg:Good (fl.map TE.ex) cells ns) :
  Rt Tryd.prog 55 [ptr b,teV e].toArray S w0 (cseg' b k w1 a ds.length c tb::dg::mseg mb m::(m.hc++η)) (EvR S w0 tb b mb k w1 η (evalS (runS (fl.map TE.ex) cells f) cells k.2 e.ex ns ds)):=by
 have hlen:=hT.len
 have hF:=open_wide
 refine Rt.of (fn:=Tryd.f55) Tryd.func55 rfl rfl ?_
 refine T.seq ?_
 refine T.region ?_
 refine TL.box hF rfl rfl (fun b3e=>?_)
 refine TL.assign hF rfl rfl ?_
 refine TL.nil ?_
 refine TQ.then_n ?_
 refine T.seq ?_
 refine T.seq ?_
 refine T.region ?_
 refine TL.fieldAddr hF rfl rfl ?_
 refine TL.load hF rfl (by first | exact At.own' (i:=0) rfl rfl | exact At.own' (i:=1) rfl rfl | exact At.own' (i:=2) rfl rfl | exact At.own' (i:=3) rfl rfl | exact At.own' (i:=4) rfl rfl | exact At.own' (i:=5) rfl rfl | exact At.own' (i:=6) rfl rfl | exact At.own' (i:=7) rfl rfl | exact At.own' (i:=8) rfl rfl | exact At.own' (i:=9) rfl rfl | exact At.own' (i:=10) rfl rfl | exact At.own' (i:=11) rfl rfl | exact At.own' (i:=12) rfl rfl) rfl ?_
 refine TL.nil ?_
 refine TQ.then_n ?_
 refine T.block ?_
 refine T.seq ?_
 refine T.region ?_
 refine TL.bin hF rfl rfl rfl rfl ?_
 refine TL.assign hF rfl rfl ?_
 refine TL.nil ?_
 refine TQ.then_n ?_
 first | refine T.cond_d rfl (fun ht14=>?_) (fun ht14=>?_) | refine T.cond _ rfl (fun ht14=>?_) (fun ht14=>?_)
 ·refine T.seq ?_
  refine T.region ?_
  refine TL.fieldAddr hF rfl rfl ?_
  refine TL.load hF rfl (by first | exact At.own' (i:=0) rfl rfl | exact At.own' (i:=1) rfl rfl | exact At.own' (i:=2) rfl rfl | exact At.own' (i:=3) rfl rfl | exact At.own' (i:=4) rfl rfl | exact At.own' (i:=5) rfl rfl | exact At.own' (i:=6) rfl rfl | exact At.own' (i:=7) rfl rfl | exact At.own' (i:=8) rfl rfl | exact At.own' (i:=9) rfl rfl | exact At.own' (i:=10) rfl rfl | exact At.own' (i:=11) rfl rfl | exact At.own' (i:=12) rfl rfl) rfl ?_
  refine TL.assign hF rfl rfl ?_
  refine TL.nil ?_
  refine TQ.then_n ?_
  refine T.ret ?_
  refine TQ.block_r ?_
  refine TQ.then_r ?_
  refine TQ.pop ?_
  refine TQ.rets [4] _ rfl rfl rfl ?_
  rw [ex_eq e,evS_0 ht14]
  exact ⟨a,c,dg,m,rfl,hd,hm,rfl⟩
 ·refine T.seq ?_
  refine T.region ?_
  refine TL.bin hF rfl rfl rfl rfl ?_
  refine TL.assign hF rfl rfl ?_
  refine TL.nil ?_
  refine TQ.then_n ?_
  first | refine T.cond_d rfl (fun ht18=>?_) (fun ht18=>?_) | refine T.cond _ rfl (fun ht18=>?_) (fun ht18=>?_)
  ·refine T.seq ?_
   refine T.region ?_
   refine TL.move hF rfl rfl ?_
   refine TL.nilCheck hF rfl rfl ?_
   refine TL.fieldAddr hF rfl rfl ?_
   refine TL.fieldAddr hF rfl rfl ?_
   refine TL.fieldAddr hF rfl rfl ?_
   refine TL.load hF rfl (by first | exact At.own' (i:=0) rfl rfl | exact At.own' (i:=1) rfl rfl | exact At.own' (i:=2) rfl rfl | exact At.own' (i:=3) rfl rfl | exact At.own' (i:=4) rfl rfl | exact At.own' (i:=5) rfl rfl | exact At.own' (i:=6) rfl rfl | exact At.own' (i:=7) rfl rfl | exact At.own' (i:=8) rfl rfl | exact At.own' (i:=9) rfl rfl | exact At.own' (i:=10) rfl rfl | exact At.own' (i:=11) rfl rfl | exact At.own' (i:=12) rfl rfl) rfl ?_
   refine TL.assign hF rfl rfl ?_
   refine TL.nil ?_
   refine TQ.then_n ?_
   refine T.ret ?_
   refine TQ.block_r ?_
   refine TQ.then_r ?_
   refine TQ.pop ?_
   refine TQ.rets [4] _ rfl rfl rfl ?_
   rw [ex_eq e,evS_1 ht18]
   exact ⟨a,c,dg,m,rfl,hd,hm,rfl⟩
  ·refine T.seq ?_
   refine T.region ?_
   refine TL.bin hF rfl rfl rfl rfl ?_
   refine TL.assign hF rfl rfl ?_
   refine TL.nil ?_
   refine TQ.then_n ?_
   first | refine T.cond_d rfl (fun ht26=>?_) (fun ht26=>?_) | refine T.cond _ rfl (fun ht26=>?_) (fun ht26=>?_)
   ·refine T.seq ?_
    refine T.seq ?_
    refine T.region ?_
    refine TL.move hF rfl rfl ?_
    refine TL.fieldAddr hF rfl rfl ?_
    refine TL.load hF rfl (by first | exact At.own' (i:=0) rfl rfl | exact At.own' (i:=1) rfl rfl | exact At.own' (i:=2) rfl rfl | exact At.own' (i:=3) rfl rfl | exact At.own' (i:=4) rfl rfl | exact At.own' (i:=5) rfl rfl | exact At.own' (i:=6) rfl rfl | exact At.own' (i:=7) rfl rfl | exact At.own' (i:=8) rfl rfl | exact At.own' (i:=9) rfl rfl | exact At.own' (i:=10) rfl rfl | exact At.own' (i:=11) rfl rfl | exact At.own' (i:=12) rfl rfl) rfl ?_
    have hl3:e.l.length=3:=by
     have h:=(right_iff.1 hr).1
     rw [ht26] at h
     have h5:partsS 5=3:=rfl
     omega
    have hp0:=(right_iff.1 hr).2.2 e.l[0] (List.getElem_mem (by omega))
    have hp1:=(right_iff.1 hr).2.2 e.l[1] (List.getElem_mem (by omega))
    have hp2:=(right_iff.1 hr).2.2 e.l[2] (List.getElem_mem (by omega))
    have hsz:sizeE e.ex=1+(sizeE e.l[0].ex+(sizeE e.l[1].ex+sizeE e.l[2].ex)):=by
     obtain ⟨x,y,z,hl⟩:∃ x y z,e.l=[x,y,z]:=by
      match hq:e.l,hl3 with
      | [x,y,z],_=>exact ⟨x,y,z,rfl⟩
     rw [ex_eq]
     simp only [hl,List.map_cons,List.map_nil,sizeE,sizesE,List.getElem_cons_zero,List.getElem_cons_succ,Nat.add_zero]
    have he5:evalS (runS (fl.map TE.ex) cells f) cells k.2 e.ex ns ds=if (evalS (runS (fl.map TE.ex) cells f) cells k.2 e.l[0].ex ns ds).2.1≠0 then (evalS (runS (fl.map TE.ex) cells f) cells k.2 e.l[1].ex (evalS (runS (fl.map TE.ex) cells f) cells k.2 e.l[0].ex ns ds).1 (evalS (runS (fl.map TE.ex) cells f) cells k.2 e.l[0].ex ns ds).2.2) else (evalS (runS (fl.map TE.ex) cells f) cells k.2 e.l[2].ex (evalS (runS (fl.map TE.ex) cells f) cells k.2 e.l[0].ex ns ds).1 (evalS (runS (fl.map TE.ex) cells f) cells k.2 e.l[0].ex ns ds).2.2):=by
     obtain ⟨x,y,z,hl⟩:∃ x y z,e.l=[x,y,z]:=by
      match hq:e.l,hl3 with
      | [x,y,z],_=>exact ⟨x,y,z,rfl⟩
     rw [ex_eq]
     simp only [hl,List.map_cons,List.map_nil,List.getElem_cons_zero,List.getElem_cons_succ]
     exact evS_5 ht26
    refine TL.indexAddr hF rfl rfl (hT.fs.ad (i:=0) (by omega)) (by omega) (by omega) rfl ?_
    refine TL.loadA hF (teC e.l[0]) rfl rfl (hT.fs.ro.atA (i:=0) (by omega)) rfl ?_
    have hfac0:=ev_facts (f:=f) hX.sc hf hk0 hkf hk2 (e:=e.l[0].ex) hp0 hg ds
    refine TL.hperm (cseg' b k w1 a (ds).length c tb::dg::mseg mb m::(m.hc++([[(b3e,Obj.cells #[.int .i64 e.op,.int .i64 e.n,.slice e.a e.l.length e.c] 72 (0,0))]]++η))) (permL [[(b3e,Obj.cells #[.int .i64 e.op,.int .i64 e.n,.slice e.a e.l.length e.c] 72 (0,0))]]).symm ?_
    refine TL.call hF (IH e.l[0] (by have:=size_lt (x:=e) (i:=0) (by omega); omega) (hT.part (by omega)) hp0 ns ds a c dg m ([[(b3e,Obj.cells #[.int .i64 e.op,.int .i64 e.n,.slice e.a e.l.length e.c] 72 (0,0))]]++η) (by omega) hd hm hg) rfl rfl ?_
    rintro _ _ ⟨a0,c0,dg0,m0,rfl,hd0,hm0,rfl⟩
    refine TL.hperm ([(b3e,Obj.cells #[.int .i64 e.op,.int .i64 e.n,.slice e.a e.l.length e.c] 72 (0,0))]::cseg' b k w1 a0 (evalS (runS (fl.map TE.ex) cells f) cells k.2 e.l[0].ex ns ds).2.2.length c0 tb::dg0::mseg mb m0::(m0.hc++η)) (permL [[(b3e,Obj.cells #[.int .i64 e.op,.int .i64 e.n,.slice e.a e.l.length e.c] 72 (0,0))]]) ?_
    refine TL.bin hF rfl rfl rfl rfl ?_
    refine TL.nil ?_
    refine TQ.then_n ?_
    first | refine T.cond_d rfl (fun ht34=>?_) (fun ht34=>?_) | refine T.cond _ rfl (fun ht34=>?_) (fun ht34=>?_)
    ·refine T.seq ?_
     refine T.region ?_
     refine TL.move hF rfl rfl ?_
     refine TL.fieldAddr hF rfl rfl ?_
     refine TL.load hF rfl (by first | exact At.own' (i:=0) rfl rfl | exact At.own' (i:=1) rfl rfl | exact At.own' (i:=2) rfl rfl | exact At.own' (i:=3) rfl rfl | exact At.own' (i:=4) rfl rfl | exact At.own' (i:=5) rfl rfl | exact At.own' (i:=6) rfl rfl | exact At.own' (i:=7) rfl rfl | exact At.own' (i:=8) rfl rfl | exact At.own' (i:=9) rfl rfl | exact At.own' (i:=10) rfl rfl | exact At.own' (i:=11) rfl rfl | exact At.own' (i:=12) rfl rfl) rfl ?_
     refine TL.indexAddr hF rfl rfl (hT.fs.ad (i:=1) (by omega)) (by omega) (by omega) rfl ?_
     refine TL.loadA hF (teC e.l[1]) rfl rfl (hT.fs.ro.atA (i:=1) (by omega)) rfl ?_
     have hfac1:=ev_facts (f:=f) hX.sc hf hk0 hkf hk2 (e:=e.l[1].ex) hp1 hfac0.1 (evalS (runS (fl.map TE.ex) cells f) cells k.2 e.l[0].ex ns ds).2.2
     refine TL.hperm (cseg' b k w1 a0 ((evalS (runS (fl.map TE.ex) cells f) cells k.2 e.l[0].ex ns ds).2.2).length c0 tb::dg0::mseg mb m0::(m0.hc++([[(b3e,Obj.cells #[.int .i64 e.op,.int .i64 e.n,.slice e.a e.l.length e.c] 72 (0,0))]]++η))) (permL [[(b3e,Obj.cells #[.int .i64 e.op,.int .i64 e.n,.slice e.a e.l.length e.c] 72 (0,0))]]).symm ?_
     refine TL.call hF (IH e.l[1] (by have:=size_lt (x:=e) (i:=1) (by omega); omega) (hT.part (by omega)) hp1 (evalS (runS (fl.map TE.ex) cells f) cells k.2 e.l[0].ex ns ds).1 (evalS (runS (fl.map TE.ex) cells f) cells k.2 e.l[0].ex ns ds).2.2 a0 c0 dg0 m0 ([[(b3e,Obj.cells #[.int .i64 e.op,.int .i64 e.n,.slice e.a e.l.length e.c] 72 (0,0))]]++η) (by have:=hfac0.2.2; omega) hd0 hm0 hfac0.1) rfl rfl ?_
     rintro _ _ ⟨a1,c1,dg1,m1,rfl,hd1,hm1,rfl⟩
     refine TL.hperm ([(b3e,Obj.cells #[.int .i64 e.op,.int .i64 e.n,.slice e.a e.l.length e.c] 72 (0,0))]::cseg' b k w1 a1 (evalS (runS (fl.map TE.ex) cells f) cells k.2 e.l[1].ex (evalS (runS (fl.map TE.ex) cells f) cells k.2 e.l[0].ex ns ds).1 (evalS (runS (fl.map TE.ex) cells f) cells k.2 e.l[0].ex ns ds).2.2).2.2.length c1 tb::dg1::mseg mb m1::(m1.hc++η)) (permL [[(b3e,Obj.cells #[.int .i64 e.op,.int .i64 e.n,.slice e.a e.l.length e.c] 72 (0,0))]]) ?_
     refine TL.assign hF rfl rfl ?_
     refine TL.nil ?_
     refine TQ.then_n ?_
     refine T.ret ?_
     refine TQ.then_r ?_
     refine TQ.block_r ?_
     refine TQ.then_r ?_
     refine TQ.pop ?_
     refine TQ.rets [4] _ rfl rfl rfl ?_
     have h34:(evalS (runS (fl.map TE.ex) cells f) cells k.2 e.l[0].ex ns ds).2.1≠0:=by simpa using ht34
     rw [he5,if_pos h34]
     exact ⟨a1,c1,dg1,m1,rfl,hd1,hm1,rfl⟩
    ·refine T.skip ?_
     refine TQ.then_n ?_
     refine T.seq ?_
     refine T.region ?_
     refine TL.move hF rfl rfl ?_
     refine TL.fieldAddr hF rfl rfl ?_
     refine TL.load hF rfl (by first | exact At.own' (i:=0) rfl rfl | exact At.own' (i:=1) rfl rfl | exact At.own' (i:=2) rfl rfl | exact At.own' (i:=3) rfl rfl | exact At.own' (i:=4) rfl rfl | exact At.own' (i:=5) rfl rfl | exact At.own' (i:=6) rfl rfl | exact At.own' (i:=7) rfl rfl | exact At.own' (i:=8) rfl rfl | exact At.own' (i:=9) rfl rfl | exact At.own' (i:=10) rfl rfl | exact At.own' (i:=11) rfl rfl | exact At.own' (i:=12) rfl rfl) rfl ?_
     refine TL.indexAddr hF rfl rfl (hT.fs.ad (i:=2) (by omega)) (by omega) (by omega) rfl ?_
     refine TL.loadA hF (teC e.l[2]) rfl rfl (hT.fs.ro.atA (i:=2) (by omega)) rfl ?_
     have hfac2:=ev_facts (f:=f) hX.sc hf hk0 hkf hk2 (e:=e.l[2].ex) hp2 hfac0.1 (evalS (runS (fl.map TE.ex) cells f) cells k.2 e.l[0].ex ns ds).2.2
     refine TL.hperm (cseg' b k w1 a0 ((evalS (runS (fl.map TE.ex) cells f) cells k.2 e.l[0].ex ns ds).2.2).length c0 tb::dg0::mseg mb m0::(m0.hc++([[(b3e,Obj.cells #[.int .i64 e.op,.int .i64 e.n,.slice e.a e.l.length e.c] 72 (0,0))]]++η))) (permL [[(b3e,Obj.cells #[.int .i64 e.op,.int .i64 e.n,.slice e.a e.l.length e.c] 72 (0,0))]]).symm ?_
     refine TL.call hF (IH e.l[2] (by have:=size_lt (x:=e) (i:=2) (by omega); omega) (hT.part (by omega)) hp2 (evalS (runS (fl.map TE.ex) cells f) cells k.2 e.l[0].ex ns ds).1 (evalS (runS (fl.map TE.ex) cells f) cells k.2 e.l[0].ex ns ds).2.2 a0 c0 dg0 m0 ([[(b3e,Obj.cells #[.int .i64 e.op,.int .i64 e.n,.slice e.a e.l.length e.c] 72 (0,0))]]++η) (by have:=hfac0.2.2; omega) hd0 hm0 hfac0.1) rfl rfl ?_
     rintro _ _ ⟨a2,c2,dg2,m2,rfl,hd2,hm2,rfl⟩
     refine TL.hperm ([(b3e,Obj.cells #[.int .i64 e.op,.int .i64 e.n,.slice e.a e.l.length e.c] 72 (0,0))]::cseg' b k w1 a2 (evalS (runS (fl.map TE.ex) cells f) cells k.2 e.l[2].ex (evalS (runS (fl.map TE.ex) cells f) cells k.2 e.l[0].ex ns ds).1 (evalS (runS (fl.map TE.ex) cells f) cells k.2 e.l[0].ex ns ds).2.2).2.2.length c2 tb::dg2::mseg mb m2::(m2.hc++η)) (permL [[(b3e,Obj.cells #[.int .i64 e.op,.int .i64 e.n,.slice e.a e.l.length e.c] 72 (0,0))]]) ?_
     refine TL.assign hF rfl rfl ?_
     refine TL.nil ?_
     refine TQ.then_n ?_
     refine T.ret ?_
     refine TQ.block_r ?_
     refine TQ.then_r ?_
     refine TQ.pop ?_
     refine TQ.rets [4] _ rfl rfl rfl ?_
     have h34:¬ (evalS (runS (fl.map TE.ex) cells f) cells k.2 e.l[0].ex ns ds).2.1≠0:=by simpa using ht34
     rw [he5,if_neg h34]
     exact ⟨a2,c2,dg2,m2,rfl,hd2,hm2,rfl⟩
   ·refine T.skip ?_
    refine TQ.block_n ?_
    refine TQ.then_n ?_
    refine T.seq ?_
    refine T.region ?_
    refine TL.alloc hF rfl (fun b5=>?_)
    refine TL.nil ?_
    refine TQ.then_n ?_
    refine T.seq ?_
    refine T.seq ?_
    refine T.region ?_
    refine TL.fieldAddr hF rfl rfl ?_
    refine TL.load hF rfl (by first | exact At.own' (i:=0) rfl rfl | exact At.own' (i:=1) rfl rfl | exact At.own' (i:=2) rfl rfl | exact At.own' (i:=3) rfl rfl | exact At.own' (i:=4) rfl rfl | exact At.own' (i:=5) rfl rfl | exact At.own' (i:=6) rfl rfl | exact At.own' (i:=7) rfl rfl | exact At.own' (i:=8) rfl rfl | exact At.own' (i:=9) rfl rfl | exact At.own' (i:=10) rfl rfl | exact At.own' (i:=11) rfl rfl | exact At.own' (i:=12) rfl rfl) rfl ?_
    refine TL.len hF rfl rfl ?_
    refine TL.move hF rfl rfl ?_
    refine TL.nil ?_
    refine TQ.then_n ?_
    refine T.block ?_
    have hops:((e.op=2∨e.op=6)∧e.l.length=1)∨((e.op=3∨e.op=4)∧e.l.length=2):=by
     have h:=(right_iff.1 hr).1
     unfold partsS at h
     by_cases q2:e.op=2∨e.op=6
     ·rw [if_neg (by omega),if_pos q2] at h; exact .inl ⟨q2,by omega⟩
     ·by_cases q3:e.op=3∨e.op=4
      ·rw [if_neg (by omega),if_neg q2,if_pos q3] at h; exact .inr ⟨q3,by omega⟩
      ·rw [if_neg (by omega),if_neg q2,if_neg q3,if_neg ht26] at h; omega
    have hrs:rightsE (fl.map TE.ex).length (e.l.map TE.ex)=true:=by
     have h:=hr
     rw [ex_eq,rightE,Bool.and_eq_true] at h
     exact h.2
    have hfin:evalS (runS (fl.map TE.ex) cells f) cells k.2 e.ex ns ds=finS (runS (fl.map TE.ex) cells f) cells k.2 e.op e.n (evalsS (runS (fl.map TE.ex) cells f) cells k.2 (e.l.map TE.ex) ns ds).2.1 (evalsS (runS (fl.map TE.ex) cells f) cells k.2 (e.l.map TE.ex) ns ds).1 (evalsS (runS (fl.map TE.ex) cells f) cells k.2 (e.l.map TE.ex) ns ds).2.2:=by
     rw [ex_eq]; exact evS_f ht14 ht18 ht26
    refine T.loop (ι:=SE) (fun s=>s.i≤e.l.length∧OSl 56 5 (.slice s.a (evalsS (runS (fl.map TE.ex) cells f) cells k.2 ((e.l.map TE.ex).take s.i) ns ds).2.2.length s.c) (evalsS (runS (fl.map TE.ex) cells f) cells k.2 ((e.l.map TE.ex).take s.i) ns ds).2.2.length ((evalsS (runS (fl.map TE.ex) cells f) cells k.2 ((e.l.map TE.ex).take s.i) ns ds).2.2.flatMap dpC) s.dg∧MM S w0 tb (evalsS (runS (fl.map TE.ex) cells f) cells k.2 ((e.l.map TE.ex).take s.i) ns ds).1 s.m) (fun s=>[(0,ptr b),(3,ptr b3e),(4,.int .i64 0),(5,ptr b5),(48,.slice e.a e.l.length e.c),(49,.int .i64 (e.l.length:Int)),(50,.int .i64 (s.i:Int))]) (fun s=>[(b5,Obj.cells (arrV (evalsS (runS (fl.map TE.ex) cells f) cells k.2 ((e.l.map TE.ex).take s.i) ns ds).2.1).toArray 127 (0,0))]::[(b3e,Obj.cells #[.int .i64 e.op,.int .i64 e.n,.slice e.a e.l.length e.c] 72 (0,0))]::cseg' b k w1 s.a (evalsS (runS (fl.map TE.ex) cells f) cells k.2 ((e.l.map TE.ex).take s.i) ns ds).2.2.length s.c tb::s.dg::mseg mb s.m::(s.m.hc++η)) (fun s=>e.l.length - s.i) ⟨0,a,c,dg,m⟩ ⟨Nat.zero_le _,hd,hm⟩ ⟨rfl,rfl,rfl,rfl,rfl,rfl,rfl,trivial⟩ rfl ?_
    rintro ⟨i,a',c',dg',m'⟩ ⟨hi,hd',hm'⟩
    dsimp only at hi hd' hm'
    have hef:=evs_facts (f:=f) hX.sc hf hk0 hkf hk2 (rightsE_take i hrs) hg ds
    have hwl:=evalsS_len (C:=(runS (fl.map TE.ex) cells f)) (cells:=cells) (arg:=k.2) ((e.l.map TE.ex).take i) ns ds
    generalize hE:(evalsS (runS (fl.map TE.ex) cells f) cells k.2 ((e.l.map TE.ex).take i) ns ds)=q at hd' hm' hef hwl ⊢
    have hql:q.2.1.length=i:=by rw [hwl]; simp; omega
    clear hwl
    refine T.seq ?_
    refine T.region ?_
    refine TL.bin hF rfl rfl rfl rfl ?_
    refine TL.nil ?_
    refine TQ.then_n ?_
    refine T.seq ?_
    first | refine T.cond_d rfl (fun ht51=>?_) (fun ht51=>?_) | refine T.cond _ rfl (fun ht51=>?_) (fun ht51=>?_)
    ·refine T.skip ?_
     refine TQ.then_n ?_
     refine T.seq ?_
     refine T.block ?_
     refine T.seq ?_
     refine T.region ?_
     refine TL.move hF rfl rfl ?_
     have hil:i<e.l.length:=by have h:(i:Int)<(e.l.length:Int):=ht51; omega
     refine TL.indexAddr hF rfl rfl (hT.fs.ad hil) (by omega) (by omega) rfl ?_
     refine TL.loadA hF (teC e.l[i]) rfl rfl (hT.fs.ro.atA (i:=i) hil) rfl ?_
     refine TL.alloc hF rfl (fun b7=>?_)
     refine TL.assign hF rfl rfl ?_
     refine TL.storeAI hF [.int .i64 e.l[i].op,.int .i64 e.l[i].n,.slice e.l[i].a e.l[i].l.length e.l[i].c] 0 rfl rfl rfl rfl (teC1 _) (by simp [Value.cells]) ?_
     refine TL.nil ?_
     refine TQ.then_n ?_
     refine T.region ?_
     refine TL.move hF rfl rfl ?_
     refine TL.move hF rfl rfl ?_
     refine TL.loadA hF [.int .i64 e.l[i].op,.int .i64 e.l[i].n,.slice e.l[i].a e.l[i].l.length e.l[i].c] rfl rfl (own_list (i:=0) rfl) rfl ?_
     have hsz:=size_eq e
     have hsz1:=szs_take hil
     have hsz2:=szs_le e.l (i+1)
     have hsz3:szs (e.l.take i)=sizesE ((e.l.map TE.ex).take i):=by unfold szs; rw [List.map_take]
     have hpi:=(right_iff.1 hr).2.2 e.l[i] (List.getElem_mem hil)
     have hfacL:=ev_facts (f:=f) hX.sc hf hk0 hkf hk2 (e:=e.l[i].ex) hpi hef.1 q.2.2
     refine TL.hperm (cseg' b k w1 a' (q.2.2).length c' tb::dg'::mseg mb m'::(m'.hc++([[(b7,Obj.cells #[.int .i64 e.l[i].op,.int .i64 e.l[i].n,.slice e.l[i].a e.l[i].l.length e.l[i].c] 72 (0,0))],[(b5,Obj.cells (arrV q.2.1).toArray 127 (0,0))],[(b3e,Obj.cells #[.int .i64 e.op,.int .i64 e.n,.slice e.a e.l.length e.c] 72 (0,0))]]++η))) (permL [[(b7,Obj.cells #[.int .i64 e.l[i].op,.int .i64 e.l[i].n,.slice e.l[i].a e.l[i].l.length e.l[i].c] 72 (0,0))],[(b5,Obj.cells (arrV q.2.1).toArray 127 (0,0))],[(b3e,Obj.cells #[.int .i64 e.op,.int .i64 e.n,.slice e.a e.l.length e.c] 72 (0,0))]]).symm ?_
     refine TL.call hF (IH e.l[i] (by have:=size_lt (x:=e) (i:=i) (by omega); omega) (hT.part (by omega)) hpi q.1 q.2.2 a' c' dg' m' ([[(b7,Obj.cells #[.int .i64 e.l[i].op,.int .i64 e.l[i].n,.slice e.l[i].a e.l[i].l.length e.l[i].c] 72 (0,0))],[(b5,Obj.cells (arrV q.2.1).toArray 127 (0,0))],[(b3e,Obj.cells #[.int .i64 e.op,.int .i64 e.n,.slice e.a e.l.length e.c] 72 (0,0))]]++η) (by have:=hef.2.2; omega) hd' hm' hef.1) rfl rfl ?_
     rintro _ _ ⟨aL,cL,dgL,mL,rfl,hdL,hmL,rfl⟩
     refine TL.hperm ([(b7,Obj.cells #[.int .i64 e.l[i].op,.int .i64 e.l[i].n,.slice e.l[i].a e.l[i].l.length e.l[i].c] 72 (0,0))]::[(b5,Obj.cells (arrV q.2.1).toArray 127 (0,0))]::[(b3e,Obj.cells #[.int .i64 e.op,.int .i64 e.n,.slice e.a e.l.length e.c] 72 (0,0))]::cseg' b k w1 aL (evalS (runS (fl.map TE.ex) cells f) cells k.2 e.l[i].ex q.1 q.2.2).2.2.length cL tb::dgL::mseg mb mL::(mL.hc++η)) (permL [[(b7,Obj.cells #[.int .i64 e.l[i].op,.int .i64 e.l[i].n,.slice e.l[i].a e.l[i].l.length e.l[i].c] 72 (0,0))],[(b5,Obj.cells (arrV q.2.1).toArray 127 (0,0))],[(b3e,Obj.cells #[.int .i64 e.op,.int .i64 e.n,.slice e.a e.l.length e.c] 72 (0,0))]]) ?_
     have hi2:i<2:=by omega
     refine TL.indexAddrA hF rfl rfl (by omega) (by omega) rfl ?_
     refine TL.storeI hF 1 rfl rfl rfl rfl (by simp [arrV]; omega) ?_
     refine TL.nil ?_
     refine TQ.block_n ?_
     refine TQ.then_n ?_
     refine T.region ?_
     refine TL.add hF rfl rfl (by omega) (by omega) rfl ?_
     refine TL.move hF rfl rfl ?_
     refine TL.nil ?_
     have hst:=evs_step (C:=(runS (fl.map TE.ex) cells f)) (cells:=cells) (arg:=k.2) hil ns ds
     rw [hE] at hst
     refine TQ.pop ?_
     refine TQ.round ⟨i+1,aL,cL,dgL,mL⟩ ⟨by dsimp only; omega,by dsimp only; rw [hst]; exact hdL,by dsimp only; rw [hst]; exact hmL⟩ (by dsimp only; omega) ⟨rfl,rfl,rfl,rfl,rfl,rfl,rfl,trivial⟩ ?_
     dsimp only
     rw [hst,← arr_set hql (by omega)]
     rfl
    ·refine T.exit ?_
     refine TQ.then_x ?_
     refine TQ.then_x ?_
     refine TQ.block_x ?_
     refine TQ.then_n ?_
     refine T.seq ?_
     refine T.seq ?_
     refine T.region ?_
     have hiq:e.l.length≤i:=by have h:¬ (i:Int)<(e.l.length:Int):=ht51; omega
     rw [List.take_of_length_le (by simpa using hiq)] at hE
     rw [hE] at hfin
     have hw0:=wd_at' hef.2.1 0
     have hw1:=wd_at' hef.2.1 1
     refine TL.fieldAddr hF rfl rfl ?_
     refine TL.load hF rfl (by first | exact At.own' (i:=0) rfl rfl | exact At.own' (i:=1) rfl rfl | exact At.own' (i:=2) rfl rfl | exact At.own' (i:=3) rfl rfl | exact At.own' (i:=4) rfl rfl | exact At.own' (i:=5) rfl rfl | exact At.own' (i:=6) rfl rfl | exact At.own' (i:=7) rfl rfl | exact At.own' (i:=8) rfl rfl | exact At.own' (i:=9) rfl rfl | exact At.own' (i:=10) rfl rfl | exact At.own' (i:=11) rfl rfl | exact At.own' (i:=12) rfl rfl) rfl ?_
     refine TL.nil ?_
     refine TQ.then_n ?_
     refine T.block ?_
     refine T.seq ?_
     refine T.region ?_
     refine TL.bin hF rfl rfl rfl rfl ?_
     refine TL.assign hF rfl rfl ?_
     refine TL.nil ?_
     refine TQ.then_n ?_
     first | refine T.cond_d rfl (fun ht63=>?_) (fun ht63=>?_) | refine T.cond _ rfl (fun ht63=>?_) (fun ht63=>?_)
     ·refine T.seq ?_
      refine T.region ?_
      refine TL.move hF rfl rfl ?_
      refine TL.nilCheck hF rfl rfl ?_
      refine TL.fieldAddr hF rfl rfl ?_
      refine TL.load hF rfl (by first | exact At.own' (i:=0) rfl rfl | exact At.own' (i:=1) rfl rfl | exact At.own' (i:=2) rfl rfl | exact At.own' (i:=3) rfl rfl | exact At.own' (i:=4) rfl rfl | exact At.own' (i:=5) rfl rfl | exact At.own' (i:=6) rfl rfl | exact At.own' (i:=7) rfl rfl | exact At.own' (i:=8) rfl rfl | exact At.own' (i:=9) rfl rfl | exact At.own' (i:=10) rfl rfl | exact At.own' (i:=11) rfl rfl | exact At.own' (i:=12) rfl rfl) rfl ?_
      refine TL.nilCheck hF rfl rfl ?_
      refine TL.fieldAddr hF rfl rfl ?_
      refine TL.load hF rfl ((hX.t 1 _ rfl).up (by simp)) rfl ?_
      refine TL.len hF rfl rfl ?_
      refine TL.assign hF rfl rfl ?_
      refine TL.nil ?_
      refine TQ.then_n ?_
      refine T.seq ?_
      refine T.region ?_
      refine TL.indexAddrA hF rfl rfl (by omega) (by omega) rfl ?_
      refine TL.load hF rfl (own_mem (cs:=(arrV q.2.1).toArray) (e:=127) (fz:=(0,0)) (by simp) rfl) rfl ?_
      refine TL.move hF rfl rfl ?_
      have hc1:=hX.sc.c1
      have hc2:=hX.sc.c2
      have htm:=tmod_bnd (w:=at0 q.2.1 0) hc1
      refine TL.remI hF rfl rfl (by omega) rfl ?_
      refine TL.move hF rfl rfl ?_
      refine TL.add hF rfl rfl (by omega) (by omega) rfl ?_
      refine TL.move hF rfl rfl ?_
      refine TL_remE hF rfl rfl (by omega) (cellAt_mod hc1 (at0 q.2.1 0)) rfl ?_
      refine TL.assign hF rfl rfl ?_
      refine TL.nil ?_
      refine TQ.then_n ?_
      refine T.seq ?_
      refine T.region ?_
      refine TL.move hF rfl rfl ?_
      refine TL.move hF rfl rfl ?_
      refine TL.move hF rfl rfl ?_
      refine TL.nilCheck hF rfl rfl ?_
      refine TL.fieldAddr hF rfl rfl ?_
      refine TL.load hF rfl (by first | exact At.own' (i:=0) rfl rfl | exact At.own' (i:=1) rfl rfl | exact At.own' (i:=2) rfl rfl | exact At.own' (i:=3) rfl rfl | exact At.own' (i:=4) rfl rfl | exact At.own' (i:=5) rfl rfl | exact At.own' (i:=6) rfl rfl | exact At.own' (i:=7) rfl rfl | exact At.own' (i:=8) rfl rfl | exact At.own' (i:=9) rfl rfl | exact At.own' (i:=10) rfl rfl | exact At.own' (i:=11) rfl rfl | exact At.own' (i:=12) rfl rfl) rfl ?_
      refine TL.nilCheck hF rfl rfl ?_
      refine TL.fieldAddr hF rfl rfl ?_
      refine TL.load hF rfl ((hX.t 1 _ rfl).up (by simp)) rfl ?_
      refine TL.move hF rfl rfl ?_
      have hat:=cellAt_lt hc1 (at0 q.2.1 0)
      refine TL.indexAddr hF rfl rfl (hX.cl.adi (i:=cellAt cells (at0 q.2.1 0)) (by simpa using hat)) (by omega) (by omega) rfl ?_
      refine TL.load hF rfl (rowAt0 hX.cl.ro hat) rfl ?_
      refine TL.build hF rfl (r:=.agg #[.int .i64 ((cellAt cells (at0 q.2.1 0)):Nat),.int .i64 (at0 cells (cellAt cells (at0 q.2.1 0)))]) (fun w=>by kernel_rfl) rfl ?_
      refine TL.makeInterfaceR hF rfl (r:=.iface 130 (.agg #[.int .i64 ((cellAt cells (at0 q.2.1 0)):Nat),.int .i64 (at0 cells (cellAt cells (at0 q.2.1 0)))])) (fun w=>by kernel_rfl) rfl ?_
      refine TL.hperm (cseg' b k w1 a' q.2.2.length c' tb::dg'::([[(b5,Obj.cells (arrV q.2.1).toArray 127 (0,0))],[(b3e,Obj.cells #[.int .i64 e.op,.int .i64 e.n,.slice e.a e.l.length e.c] 72 (0,0))]]++(mseg mb m'::(m'.hc++η)))) (permA [[(b5,Obj.cells (arrV q.2.1).toArray 127 (0,0))],[(b3e,Obj.cells #[.int .i64 e.op,.int .i64 e.n,.slice e.a e.l.length e.c] 72 (0,0))]]).symm ?_
      refine TL.call hF (ask_read ((cellAt cells (at0 q.2.1 0)):Nat) (at0 cells (cellAt cells (at0 q.2.1 0))) hd' (by have:=hef.2.2; have h2:=size_eq e; have h3:=sizesE_take (e.l.map TE.ex) i; have h4:szs e.l=sizesE (e.l.map TE.ex):=rfl; omega)) rfl rfl ?_
      rintro _ _ ⟨aA,cA,dgA,hdA,rfl⟩
      refine TL.hperm ([(b5,Obj.cells (arrV q.2.1).toArray 127 (0,0))]::[(b3e,Obj.cells #[.int .i64 e.op,.int .i64 e.n,.slice e.a e.l.length e.c] 72 (0,0))]::cseg' b k w1 aA (q.2.2++[cellD ((cellAt cells (at0 q.2.1 0)):Nat) (at0 cells (cellAt cells (at0 q.2.1 0)))]).length cA tb::dgA::mseg mb m'::(m'.hc++η)) (permA [[(b5,Obj.cells (arrV q.2.1).toArray 127 (0,0))],[(b3e,Obj.cells #[.int .i64 e.op,.int .i64 e.n,.slice e.a e.l.length e.c] 72 (0,0))]]) ?_
      refine TL.nil ?_
      refine TQ.then_n ?_
      refine T.seq ?_
      refine T.region ?_
      refine TL.move hF rfl rfl ?_
      refine TL.nilCheck hF rfl rfl ?_
      refine TL.fieldAddr hF rfl rfl ?_
      refine TL.load hF rfl (by first | exact At.own' (i:=0) rfl rfl | exact At.own' (i:=1) rfl rfl | exact At.own' (i:=2) rfl rfl | exact At.own' (i:=3) rfl rfl | exact At.own' (i:=4) rfl rfl | exact At.own' (i:=5) rfl rfl | exact At.own' (i:=6) rfl rfl | exact At.own' (i:=7) rfl rfl | exact At.own' (i:=8) rfl rfl | exact At.own' (i:=9) rfl rfl | exact At.own' (i:=10) rfl rfl | exact At.own' (i:=11) rfl rfl | exact At.own' (i:=12) rfl rfl) rfl ?_
      refine TL.nilCheck hF rfl rfl ?_
      refine TL.fieldAddr hF rfl rfl ?_
      refine TL.load hF rfl ((hX.t 1 _ rfl).up (by simp)) rfl ?_
      refine TL.move hF rfl rfl ?_
      refine TL.indexAddr hF rfl rfl (hX.cl.adi (i:=cellAt cells (at0 q.2.1 0)) (by simpa using hat)) (by omega) (by omega) rfl ?_
      refine TL.load hF rfl (rowAt0 hX.cl.ro hat) rfl ?_
      refine TL.assign hF rfl rfl ?_
      refine TL.nil ?_
      refine TQ.then_n ?_
      refine T.ret ?_
      refine TQ.block_r ?_
      refine TQ.then_r ?_
      refine TQ.pop ?_
      refine TQ.pop ?_
      refine TQ.rets [4] _ rfl rfl rfl ?_
      rw [hfin,finS,if_pos ht63]
      exact ⟨aA,cA,dgA,m',rfl,hdA,hm',rfl⟩
     ·refine T.seq ?_
      refine T.region ?_
      refine TL.bin hF rfl rfl rfl rfl ?_
      refine TL.assign hF rfl rfl ?_
      refine TL.nil ?_
      refine TQ.then_n ?_
      first | refine T.cond_d rfl (fun ht106=>?_) (fun ht106=>?_) | refine T.cond _ rfl (fun ht106=>?_) (fun ht106=>?_)
      ·refine T.seq ?_
       have hnn:0≤e.n∧e.n<10:=by
        have h:=(right_iff.1 hr).2.1
        rw [okN3 ht106] at h
        simp only [Bool.and_eq_true,decide_eq_true_eq] at h; omega
       haveI:=op_ent (n:=e.n.toNat) (by omega)
       have hen:((e.n.toNat:Nat):Int)=e.n:=by omega
       refine T.draw ?_
       refine DR.stepV [_] rfl [(3,_,none)] rfl rfl ⟨⟨rfl,by kernel_rfl⟩,trivial⟩ (fun ext=>TL.fieldAddr hF rfl rfl TL.fin) ?_
       refine DR.stepV [_,_] rfl [(108,_,some 0)] rfl rfl ⟨⟨rfl,rfl,rfl⟩,trivial⟩ (fun ext=>TL.load hF rfl (by first | exact At.own' (i:=0) rfl rfl | exact At.own' (i:=1) rfl rfl | exact At.own' (i:=2) rfl rfl | exact At.own' (i:=3) rfl rfl | exact At.own' (i:=4) rfl rfl | exact At.own' (i:=5) rfl rfl | exact At.own' (i:=6) rfl rfl | exact At.own' (i:=7) rfl rfl | exact At.own' (i:=8) rfl rfl | exact At.own' (i:=9) rfl rfl | exact At.own' (i:=10) rfl rfl | exact At.own' (i:=11) rfl rfl | exact At.own' (i:=12) rfl rfl) rfl TL.fin) ?_
       refine DR.stepV [_,_,_] rfl [(109,_,some 1)] rfl rfl ⟨⟨rfl,rfl,rfl⟩,trivial⟩ (fun ext=>TL.indexAddrA hF rfl rfl hnn.1 hnn.2 rfl TL.fin) ?_
       refine DR.stepV [_,_,_,_] rfl [(110,_,some 2)] rfl rfl ⟨⟨rfl,rfl,rfl⟩,trivial⟩ (fun ext=>TL.load hF rfl (hX.tabs.op hnn.1 hnn.2) rfl TL.fin) ?_
       refine DR.stepV [_,_,_,_,_] rfl [(5,_,none)] rfl rfl ⟨⟨rfl,by kernel_rfl⟩,trivial⟩ (fun ext=>TL.indexAddrA hF rfl rfl (by omega) (by omega) rfl TL.fin) ?_
       refine DR.stepV [_,_,_,_,_,_] rfl [(112,_,some 4)] rfl rfl ⟨⟨rfl,rfl,rfl⟩,trivial⟩ (fun ext=>TL.load hF rfl (own_mem (cs:=(arrV q.2.1).toArray) (e:=127) (fz:=(0,0)) (by simp) rfl) rfl TL.fin) ?_
       refine DR.stepV [_,_,_,_,_,_,_] rfl [(5,_,none)] rfl rfl ⟨⟨rfl,by kernel_rfl⟩,trivial⟩ (fun ext=>TL.indexAddrA hF rfl rfl (by omega) (by omega) rfl TL.fin) ?_
       refine DR.stepV [_,_,_,_,_,_,_,_] rfl [(114,_,some 6)] rfl rfl ⟨⟨rfl,rfl,rfl⟩,trivial⟩ (fun ext=>TL.load hF rfl (own_mem (cs:=(arrV q.2.1).toArray) (e:=127) (fz:=(0,0)) (by simp) rfl) rfl TL.fin) ?_
       refine DR.done [(115,_),(114,_),(113,_),(112,_),(111,_),(110,_),(109,_),(108,_)] [_,_,_] mixed (by kernel_rfl) (by kernel_rfl) (by kernel_rfl) rfl rfl ?_
       refine TL.callV hF (op_fn (n:=e.n.toNat) (by omega) hw0 hw1) rfl rfl ?_
       refine TL.callV hF (wrap_fn) rfl rfl ?_
       refine TL.assign hF rfl rfl ?_
       refine TL.nil ?_
       refine TQ.then_n ?_
       refine T.ret ?_
       refine TQ.block_r ?_
       refine TQ.then_r ?_
       refine TQ.pop ?_
       refine TQ.pop ?_
       refine TQ.rets [4] _ rfl rfl rfl ?_
       have hbo:=bin_op (n:=((e.n.toNat:Nat):Int)) hw0 hw1
       rw [hen] at hbo
       rw [hfin,finS,if_neg ht63,if_pos ht106,← hbo]
       exact ⟨a',c',dg',m',by rw [hen]; rfl,hd',hm',rfl⟩
      ·refine T.seq ?_
       refine T.region ?_
       refine TL.bin hF rfl rfl rfl rfl ?_
       refine TL.assign hF rfl rfl ?_
       refine TL.nil ?_
       refine TQ.then_n ?_
       first | refine T.cond_d rfl (fun ht118=>?_) (fun ht118=>?_) | refine T.cond _ rfl (fun ht118=>?_) (fun ht118=>?_)
       ·refine T.seq ?_
        refine T.seq ?_
        refine T.region ?_
        refine TL.indexAddrA hF rfl rfl (by omega) (by omega) rfl ?_
        refine TL.load hF rfl (own_mem (cs:=(arrV q.2.1).toArray) (e:=127) (fz:=(0,0)) (by simp) rfl) rfl ?_
        refine TL.indexAddrA hF rfl rfl (by omega) (by omega) rfl ?_
        refine TL.load hF rfl (own_mem (cs:=(arrV q.2.1).toArray) (e:=127) (fz:=(0,0)) (by simp) rfl) rfl ?_
        refine TL.bin hF rfl rfl rfl rfl ?_
        refine TL.nil ?_
        refine TQ.then_n ?_
        first | refine T.cond_d rfl (fun ht124=>?_) (fun ht124=>?_) | refine T.cond _ rfl (fun ht124=>?_) (fun ht124=>?_)
        ·refine T.seq ?_
         refine T.region ?_
         refine TL.assign hF rfl rfl ?_
         refine TL.nil ?_
         refine TQ.then_n ?_
         refine T.ret ?_
         refine TQ.then_r ?_
         refine TQ.block_r ?_
         refine TQ.then_r ?_
         refine TQ.pop ?_
         refine TQ.pop ?_
         refine TQ.rets [4] _ rfl rfl rfl ?_
         rw [hfin,finS,if_neg ht63,if_neg ht106,if_pos ht118,if_pos ht124]
         exact ⟨a',c',dg',m',rfl,hd',hm',rfl⟩
        ·refine T.skip ?_
         refine TQ.then_n ?_
         refine T.seq ?_
         refine T.region ?_
         refine TL.assign hF rfl rfl ?_
         refine TL.nil ?_
         refine TQ.then_n ?_
         refine T.ret ?_
         refine TQ.block_r ?_
         refine TQ.then_r ?_
         refine TQ.pop ?_
         refine TQ.pop ?_
         refine TQ.rets [4] _ rfl rfl rfl ?_
         rw [hfin,finS,if_neg ht63,if_neg ht106,if_pos ht118,if_neg ht124]
         exact ⟨a',c',dg',m',rfl,hd',hm',rfl⟩
       ·refine T.skip ?_
        refine TQ.block_n ?_
        refine TQ.then_n ?_
        refine T.seq ?_
        refine T.seq ?_
        by_cases h28:at0 q.2.1 0<0
        ·refine T.draw ?_
         refine DR.stepV [_] rfl [(5,_,none)] rfl rfl ⟨⟨rfl,by kernel_rfl⟩,trivial⟩ (fun ext=>TL.indexAddrA hF rfl rfl (by omega) (by omega) rfl TL.fin) ?_
         refine DR.stepV [_,_] rfl [(125,_,some 0)] rfl rfl ⟨⟨rfl,rfl,rfl⟩,trivial⟩ (fun ext=>TL.load hF rfl (own_mem (cs:=(arrV q.2.1).toArray) (e:=127) (fz:=(0,0)) (by simp) rfl) rfl TL.fin) ?_
         refine DR.stepV [_,_,_] rfl [(126,_,some 1)] rfl rfl ⟨⟨rfl,rfl,rfl⟩,trivial⟩ (fun ext=>TL.bin hF rfl rfl rfl rfl TL.fin) ?_
         refine DR.stepV [_,_,_,_] rfl [(127,_,some 2)] rfl rfl ⟨⟨rfl,rfl,rfl⟩,trivial⟩ (fun ext=>TL.move hF rfl rfl TL.fin) ?_
         refine DR.stepV [_,_,_,_,_] rfl [(5,_,none),(128,_,some 3)] rfl rfl ⟨⟨rfl,by kernel_rfl⟩,⟨rfl,rfl,rfl⟩,trivial⟩ (fun ext=>TL.off hF rfl rfl rfl (decide_eq_true h28) rfl TL.fin) ?_
         refine DR.stepV [_,_,_,_,_,_] rfl [(129,_,some 4),(128,_,some 3)] rfl rfl ⟨⟨rfl,rfl,rfl⟩,⟨rfl,rfl,rfl⟩,trivial⟩ (fun ext=>TL.off hF rfl rfl rfl (decide_eq_true h28) rfl TL.fin) ?_
         refine DR.stepV [_,_,_,_,_,_,_] rfl [(0,_,none),(128,_,some 3)] rfl rfl ⟨⟨rfl,by kernel_rfl⟩,⟨rfl,rfl,rfl⟩,trivial⟩ (fun ext=>TL.off hF rfl rfl rfl (decide_eq_true h28) rfl TL.fin) ?_
         refine DR.stepV [_,_,_,_,_,_,_,_] rfl [(131,_,some 6),(128,_,some 3)] rfl rfl ⟨⟨rfl,rfl,rfl⟩,⟨rfl,rfl,rfl⟩,trivial⟩ (fun ext=>TL.off hF rfl rfl rfl (decide_eq_true h28) rfl TL.fin) ?_
         refine DR.stepV [_,_,_,_,_,_,_,_,_] rfl [(132,_,some 7),(128,_,some 3)] rfl rfl ⟨⟨rfl,rfl,rfl⟩,⟨rfl,rfl,rfl⟩,trivial⟩ (fun ext=>TL.off hF rfl rfl rfl (decide_eq_true h28) rfl TL.fin) ?_
         refine DR.stepV [_,_,_,_,_,_,_,_,_,_] rfl [(133,_,some 8),(128,_,some 3)] rfl rfl ⟨⟨rfl,rfl,rfl⟩,⟨rfl,rfl,rfl⟩,trivial⟩ (fun ext=>TL.off hF rfl rfl rfl (decide_eq_true h28) rfl TL.fin) ?_
         refine DR.stepV [_,_,_,_,_,_,_,_,_,_,_] rfl [(134,_,some 9),(128,_,some 3)] rfl rfl ⟨⟨rfl,rfl,rfl⟩,⟨rfl,rfl,rfl⟩,trivial⟩ (fun ext=>TL.off hF rfl rfl rfl (decide_eq_true h28) rfl TL.fin) ?_
         refine DR.stepV [_,_,_,_,_,_,_,_,_,_,_,_] rfl [(135,_,some 10),(128,_,some 3)] rfl rfl ⟨⟨rfl,rfl,rfl⟩,⟨rfl,rfl,rfl⟩,trivial⟩ (fun ext=>TL.off hF rfl rfl rfl (decide_eq_true h28) rfl TL.fin) ?_
         refine DR.done [(136,_),(135,_),(134,_),(133,_),(132,_),(131,_),(130,_),(129,_),(128,_),(127,_),(126,_),(125,_)] [_,_] mixed (by kernel_rfl) (by kernel_rfl) (by kernel_rfl) rfl rfl ?_
         refine TL.off hF rfl rfl rfl (decide_eq_true h28) rfl ?_
         refine TL.pickT hF rfl (decide_eq_true h28) rfl rfl ?_
         refine TL.nil ?_
         refine TQ.then_n ?_
         refine T.cond_t rfl rfl ?_
         refine T.seq ?_
         refine T.region ?_
         refine TL.assign hF rfl rfl ?_
         refine TL.nil ?_
         refine TQ.then_n ?_
         refine T.ret ?_
         refine TQ.then_r ?_
         refine TQ.pop ?_
         refine TQ.pop ?_
         refine TQ.rets [4] _ rfl rfl rfl ?_
         rw [hfin,finS,if_neg ht63,if_neg ht106,if_neg ht118,if_neg (by omega)]
         exact ⟨a',c',dg',m',rfl,hd',hm',rfl⟩
        ·refine T.draw ?_
         refine DR.stepV [_] rfl [(5,_,none)] rfl rfl ⟨⟨rfl,by kernel_rfl⟩,trivial⟩ (fun ext=>TL.indexAddrA hF rfl rfl (by omega) (by omega) rfl TL.fin) ?_
         refine DR.stepV [_,_] rfl [(125,_,some 0)] rfl rfl ⟨⟨rfl,rfl,rfl⟩,trivial⟩ (fun ext=>TL.load hF rfl (own_mem (cs:=(arrV q.2.1).toArray) (e:=127) (fz:=(0,0)) (by simp) rfl) rfl TL.fin) ?_
         refine DR.stepV [_,_,_] rfl [(126,_,some 1)] rfl rfl ⟨⟨rfl,rfl,rfl⟩,trivial⟩ (fun ext=>TL.bin hF rfl rfl rfl rfl TL.fin) ?_
         refine DR.stepV [_,_,_,_] rfl [(127,_,some 2)] rfl rfl ⟨⟨rfl,rfl,rfl⟩,trivial⟩ (fun ext=>TL.move hF rfl rfl TL.fin) ?_
         refine DR.stepV [_,_,_,_,_] rfl [(5,_,none),(128,_,some 3)] rfl rfl ⟨⟨rfl,by kernel_rfl⟩,⟨rfl,rfl,rfl⟩,trivial⟩ (fun ext=>TL.on rfl rfl rfl (decide_eq_false h28) <| TL.indexAddrA hF rfl rfl (by omega) (by omega) rfl TL.fin) ?_
         refine DR.stepV [_,_,_,_,_,_] rfl [(129,_,some 4),(128,_,some 3)] rfl rfl ⟨⟨rfl,rfl,rfl⟩,⟨rfl,rfl,rfl⟩,trivial⟩ (fun ext=>TL.on rfl rfl rfl (decide_eq_false h28) <| TL.load hF rfl (own_mem (cs:=(arrV q.2.1).toArray) (e:=127) (fz:=(0,0)) (by simp) rfl) rfl TL.fin) ?_
         refine DR.stepV [_,_,_,_,_,_,_] rfl [(0,_,none),(128,_,some 3)] rfl rfl ⟨⟨rfl,by kernel_rfl⟩,⟨rfl,rfl,rfl⟩,trivial⟩ (fun ext=>TL.on rfl rfl rfl (decide_eq_false h28) <| TL.move hF rfl rfl TL.fin) ?_
         refine DR.stepV [_,_,_,_,_,_,_,_] rfl [(131,_,some 6),(128,_,some 3)] rfl rfl ⟨⟨rfl,rfl,rfl⟩,⟨rfl,rfl,rfl⟩,trivial⟩ (fun ext=>TL.on rfl rfl rfl (decide_eq_false h28) <| TL.nilCheck hF rfl rfl TL.fin) ?_
         refine DR.stepV [_,_,_,_,_,_,_,_,_] rfl [(132,_,some 7),(128,_,some 3)] rfl rfl ⟨⟨rfl,rfl,rfl⟩,⟨rfl,rfl,rfl⟩,trivial⟩ (fun ext=>TL.on rfl rfl rfl (decide_eq_false h28) <| TL.fieldAddr hF rfl rfl TL.fin) ?_
         refine DR.stepV [_,_,_,_,_,_,_,_,_,_] rfl [(133,_,some 8),(128,_,some 3)] rfl rfl ⟨⟨rfl,rfl,rfl⟩,⟨rfl,rfl,rfl⟩,trivial⟩ (fun ext=>TL.on rfl rfl rfl (decide_eq_false h28) <| TL.fieldAddr hF rfl rfl TL.fin) ?_
         refine DR.stepV [_,_,_,_,_,_,_,_,_,_,_] rfl [(134,_,some 9),(128,_,some 3)] rfl rfl ⟨⟨rfl,rfl,rfl⟩,⟨rfl,rfl,rfl⟩,trivial⟩ (fun ext=>TL.on rfl rfl rfl (decide_eq_false h28) <| TL.fieldAddr hF rfl rfl TL.fin) ?_
         refine DR.stepV [_,_,_,_,_,_,_,_,_,_,_,_] rfl [(135,_,some 10),(128,_,some 3)] rfl rfl ⟨⟨rfl,rfl,rfl⟩,⟨rfl,rfl,rfl⟩,trivial⟩ (fun ext=>TL.on rfl rfl rfl (decide_eq_false h28) <| TL.load hF rfl (own_mem (cs:=(cC k w1 a' q.2.2.length c' tb).toArray) (e:=88) (fz:=(0,0)) (by simp) rfl) rfl TL.fin) ?_
         refine DR.done [(136,_),(135,_),(134,_),(133,_),(132,_),(131,_),(130,_),(129,_),(128,_),(127,_),(126,_),(125,_)] [_,_] mixed (by kernel_rfl) (by kernel_rfl) (by kernel_rfl) rfl rfl ?_
         refine TL.on rfl rfl rfl (decide_eq_false h28) ?_
         refine TL.bin hF rfl rfl rfl rfl ?_
         refine TL.pickF hF rfl (decide_eq_false h28) rfl rfl ?_
         refine TL.nil ?_
         refine TQ.then_n ?_
         first | refine T.cond_d rfl (fun ht138=>?_) (fun ht138=>?_) | refine T.cond _ rfl (fun ht138=>?_) (fun ht138=>?_)
         ·refine T.seq ?_
          refine T.region ?_
          refine TL.assign hF rfl rfl ?_
          refine TL.nil ?_
          refine TQ.then_n ?_
          refine T.ret ?_
          refine TQ.then_r ?_
          refine TQ.pop ?_
          refine TQ.pop ?_
          refine TQ.rets [4] _ rfl rfl rfl ?_
          rw [hfin,finS,if_neg ht63,if_neg ht106,if_neg ht118,if_neg (by omega)]
          exact ⟨a',c',dg',m',rfl,hd',hm',rfl⟩
         ·refine T.skip ?_
          refine TQ.then_n ?_
          refine T.seq ?_
          refine T.region ?_
          refine TL.fieldAddr hF rfl rfl ?_
          refine TL.load hF rfl (by first | exact At.own' (i:=0) rfl rfl | exact At.own' (i:=1) rfl rfl | exact At.own' (i:=2) rfl rfl | exact At.own' (i:=3) rfl rfl | exact At.own' (i:=4) rfl rfl | exact At.own' (i:=5) rfl rfl | exact At.own' (i:=6) rfl rfl | exact At.own' (i:=7) rfl rfl | exact At.own' (i:=8) rfl rfl | exact At.own' (i:=9) rfl rfl | exact At.own' (i:=10) rfl rfl | exact At.own' (i:=11) rfl rfl | exact At.own' (i:=12) rfl rfl) rfl ?_
          refine TL.indexAddrA hF rfl rfl (by omega) (by omega) rfl ?_
          refine TL.load hF rfl (own_mem (cs:=(arrV q.2.1).toArray) (e:=127) (fz:=(0,0)) (by simp) rfl) rfl ?_
          refine TL.build hF rfl (r:=kV (e.n,at0 q.2.1 0)) (fun w=>by kernel_rfl) rfl ?_
          refine TL.alloc hF rfl (fun b10=>?_)
          refine TL.storeAI hF [.int .i64 e.n,.int .i64 (at0 q.2.1 0)] 0 rfl rfl rfl rfl (by simp [Value.oneCell']) (by simp [Value.cells]) ?_
          refine TL.nil ?_
          refine TQ.then_n ?_
          refine T.seq ?_
          refine T.draw ?_
          refine DR.stepV [_] rfl [(0,_,none)] rfl rfl ⟨⟨rfl,by kernel_rfl⟩,trivial⟩ (fun ext=>TL.move hF rfl rfl TL.fin) ?_
          refine DR.stepV [_,_] rfl [(144,_,some 0)] rfl rfl ⟨⟨rfl,rfl,rfl⟩,trivial⟩ (fun ext=>TL.nilCheck hF rfl rfl TL.fin) ?_
          refine DR.stepV [_,_,_] rfl [(145,_,some 1)] rfl rfl ⟨⟨rfl,rfl,rfl⟩,trivial⟩ (fun ext=>TL.fieldAddr hF rfl rfl TL.fin) ?_
          refine DR.stepV [_,_,_,_] rfl [(146,_,some 2)] rfl rfl ⟨⟨rfl,rfl,rfl⟩,trivial⟩ (fun ext=>TL.load hF rfl (by first | exact At.own' (i:=0) rfl rfl | exact At.own' (i:=1) rfl rfl | exact At.own' (i:=2) rfl rfl | exact At.own' (i:=3) rfl rfl | exact At.own' (i:=4) rfl rfl | exact At.own' (i:=5) rfl rfl | exact At.own' (i:=6) rfl rfl | exact At.own' (i:=7) rfl rfl | exact At.own' (i:=8) rfl rfl | exact At.own' (i:=9) rfl rfl | exact At.own' (i:=10) rfl rfl | exact At.own' (i:=11) rfl rfl | exact At.own' (i:=12) rfl rfl) rfl TL.fin) ?_
          refine DR.stepV [_,_,_,_,_] rfl [(147,_,some 3)] rfl rfl ⟨⟨rfl,rfl,rfl⟩,trivial⟩ (fun ext=>TL.nilCheck hF rfl rfl TL.fin) ?_
          refine DR.stepV [_,_,_,_,_,_] rfl [(148,_,some 4)] rfl rfl ⟨⟨rfl,rfl,rfl⟩,trivial⟩ (fun ext=>TL.fieldAddr hF rfl rfl TL.fin) ?_
          refine DR.stepV [_,_,_,_,_,_,_] rfl [(149,_,some 5)] rfl rfl ⟨⟨rfl,rfl,rfl⟩,trivial⟩ (fun ext=>TL.load hF rfl ((hX.t 3 _ rfl).up (by simp)) rfl TL.fin) ?_
          refine DR.stepV [_,_,_,_,_,_,_,_] rfl [(10,_,none)] rfl rfl ⟨⟨rfl,by kernel_rfl⟩,trivial⟩ (fun ext=>TL.loadA hF [.int .i64 e.n,.int .i64 (at0 q.2.1 0)] rfl rfl (own_list (i:=0) rfl) rfl TL.fin) ?_
          refine DR.done [(151,_),(150,_),(149,_),(148,_),(147,_),(146,_),(145,_),(144,_)] [_,_] mixed (by kernel_rfl) (by kernel_rfl) (by kernel_rfl) rfl rfl ?_
          have hop6:e.op=6:=by
           rcases hops with ⟨h,_⟩ | ⟨h,_⟩
           ·rcases h with h | h
            ·exact absurd h ht63
            ·exact h
           ·rcases h with h | h
            ·exact absurd h ht106
            ·exact absurd h ht118
          have hnk:KOk (fl.map TE.ex) f (e.n,at0 q.2.1 0):=by
           have h:=(right_iff.1 hr).2.1
           rw [okN6 hop6] at h
           simp only [Bool.and_eq_true,decide_eq_true_eq] at h
           exact ⟨h.1,by show e.n<_; omega,by show 0≤at0 q.2.1 0; omega,by show at0 q.2.1 0<(f:Int); omega⟩
          have hrf:=run_facts hX.sc hf hnk hef.1
          refine TL.hperm (mseg mb m'::(m'.hc++([[(b10,Obj.cells #[.int .i64 e.n,.int .i64 (at0 q.2.1 0)] 25 (0,0))],[(b5,Obj.cells (arrV q.2.1).toArray 127 (0,0))],[(b3e,Obj.cells #[.int .i64 e.op,.int .i64 e.n,.slice e.a e.l.length e.c] 72 (0,0))],cseg' b k w1 a' q.2.2.length c' tb,dg']++η))) (permM [[(b10,Obj.cells #[.int .i64 e.n,.int .i64 (at0 q.2.1 0)] 25 (0,0))],[(b5,Obj.cells (arrV q.2.1).toArray 127 (0,0))],[(b3e,Obj.cells #[.int .i64 e.op,.int .i64 e.n,.slice e.a e.l.length e.c] 72 (0,0))],cseg' b k w1 a' q.2.2.length c' tb,dg']).symm ?_
          refine TL.call hF (hR (e.n,at0 q.2.1 0) q.1 m' ([[(b10,Obj.cells #[.int .i64 e.n,.int .i64 (at0 q.2.1 0)] 25 (0,0))],[(b5,Obj.cells (arrV q.2.1).toArray 127 (0,0))],[(b3e,Obj.cells #[.int .i64 e.op,.int .i64 e.n,.slice e.a e.l.length e.c] 72 (0,0))],cseg' b k w1 a' q.2.2.length c' tb,dg']++η) hnk hef.1 hm') rfl rfl ?_
          rintro _ _ ⟨mR,rfl,hmR,rfl⟩
          refine TL.hperm ([(b10,Obj.cells #[.int .i64 e.n,.int .i64 (at0 q.2.1 0)] 25 (0,0))]::[(b5,Obj.cells (arrV q.2.1).toArray 127 (0,0))]::[(b3e,Obj.cells #[.int .i64 e.op,.int .i64 e.n,.slice e.a e.l.length e.c] 72 (0,0))]::cseg' b k w1 a' q.2.2.length c' tb::dg'::mseg mb mR::(mR.hc++η)) (permM [[(b10,Obj.cells #[.int .i64 e.n,.int .i64 (at0 q.2.1 0)] 25 (0,0))],[(b5,Obj.cells (arrV q.2.1).toArray 127 (0,0))],[(b3e,Obj.cells #[.int .i64 e.op,.int .i64 e.n,.slice e.a e.l.length e.c] 72 (0,0))],cseg' b k w1 a' q.2.2.length c' tb,dg']) ?_
          refine TL.assign hF rfl rfl ?_
          refine TL.nil ?_
          refine TQ.then_n ?_
          refine T.seq ?_
          refine T.region ?_
          refine TL.move hF rfl rfl ?_
          refine TL.loadA hF [.int .i64 e.n,.int .i64 (at0 q.2.1 0)] rfl rfl (own_list (i:=0) rfl) rfl ?_
          refine TL.move hF rfl rfl ?_
          refine TL.build hF rfl (r:=.agg #[.int .i64 e.n,.int .i64 (at0 q.2.1 0),.int .i64 (runS (fl.map TE.ex) cells f q.1 (e.n,at0 q.2.1 0)).2]) (fun w=>by kernel_rfl) rfl ?_
          refine TL.makeInterfaceR hF rfl (r:=.iface 135 (.agg #[.int .i64 e.n,.int .i64 (at0 q.2.1 0),.int .i64 (runS (fl.map TE.ex) cells f q.1 (e.n,at0 q.2.1 0)).2])) (fun w=>by kernel_rfl) rfl ?_
          refine TL.hperm (cseg' b k w1 a' q.2.2.length c' tb::dg'::([[(b10,Obj.cells #[.int .i64 e.n,.int .i64 (at0 q.2.1 0)] 25 (0,0))],[(b5,Obj.cells (arrV q.2.1).toArray 127 (0,0))],[(b3e,Obj.cells #[.int .i64 e.op,.int .i64 e.n,.slice e.a e.l.length e.c] 72 (0,0))]]++(mseg mb mR::(mR.hc++η)))) (permA [[(b10,Obj.cells #[.int .i64 e.n,.int .i64 (at0 q.2.1 0)] 25 (0,0))],[(b5,Obj.cells (arrV q.2.1).toArray 127 (0,0))],[(b3e,Obj.cells #[.int .i64 e.op,.int .i64 e.n,.slice e.a e.l.length e.c] 72 (0,0))]]).symm ?_
          refine TL.call hF (ask_made (e.n,at0 q.2.1 0) (runS (fl.map TE.ex) cells f q.1 (e.n,at0 q.2.1 0)).2 hd' (by have:=hef.2.2; have h2:=size_eq e; have h3:=sizesE_take (e.l.map TE.ex) i; have h4:szs e.l=sizesE (e.l.map TE.ex):=rfl; omega)) rfl rfl ?_
          rintro _ _ ⟨aA,cA,dgA,hdA,rfl⟩
          refine TL.hperm ([(b10,Obj.cells #[.int .i64 e.n,.int .i64 (at0 q.2.1 0)] 25 (0,0))]::[(b5,Obj.cells (arrV q.2.1).toArray 127 (0,0))]::[(b3e,Obj.cells #[.int .i64 e.op,.int .i64 e.n,.slice e.a e.l.length e.c] 72 (0,0))]::cseg' b k w1 aA (q.2.2++[gotD (e.n,at0 q.2.1 0) (runS (fl.map TE.ex) cells f q.1 (e.n,at0 q.2.1 0)).2]).length cA tb::dgA::mseg mb mR::(mR.hc++η)) (permA [[(b10,Obj.cells #[.int .i64 e.n,.int .i64 (at0 q.2.1 0)] 25 (0,0))],[(b5,Obj.cells (arrV q.2.1).toArray 127 (0,0))],[(b3e,Obj.cells #[.int .i64 e.op,.int .i64 e.n,.slice e.a e.l.length e.c] 72 (0,0))]]) ?_
          refine TL.nil ?_
          refine TQ.then_n ?_
          refine T.seq ?_
          refine T.region ?_
          refine TL.move hF rfl rfl ?_
          refine TL.assign hF rfl rfl ?_
          refine TL.nil ?_
          refine TQ.then_n ?_
          refine T.ret ?_
          refine TQ.pop ?_
          refine TQ.pop ?_
          refine TQ.pop ?_
          refine TQ.rets [4] _ rfl rfl rfl ?_
          rw [hfin,finS,if_neg ht63,if_neg ht106,if_neg ht118,if_pos (by omega)]
          exact ⟨aA,cA,dgA,mR,rfl,hdA,hmR,rfl⟩
theorem eval_all {tb b8 b3 mb : Nat} {fa : Option Addr} {fc : Nat} {fl : List TE} {ca : Option Addr} {cc : Nat} {cells : List Int} (hX : Cx S w0 tb b8 b3 mb fa fc fl ca cc cells) {f : Nat} (hf : f ≤ 201) (hR : RunP S w0 tb b8 b3 mb (fl.map TE.ex) cells f) {b : Nat} {k : Key} {w1 : Int} (hk0 : 0 ≤ k.2) (hkf : k.2 ≤ f) (hk2 : k.2 ≤ 200) : ∀ M : Nat, ∀ x : TE, sizeE x.ex < M → Tr S w0 [] x → rightE (fl.map TE.ex).length x.ex = true → ∀ (ns : List Nd) (ds : List Dp) (a : Option Addr) (c : Nat) (dg : Seg) (m : Mp) (η : Heap), ds.length + sizeE x.ex ≤ 40 → OSl 56 5 (.slice a ds.length c) ds.length (ds.flatMap dpC) dg → MM S w0 tb ns m → Good (fl.map TE.ex) cells ns →
  Rt Tryd.prog 55 [ptr b,teV x].toArray S w0 (cseg' b k w1 a ds.length c tb::dg::mseg mb m::(m.hc++η)) (EvR S w0 tb b mb k w1 η (evalS (runS (fl.map TE.ex) cells f) cells k.2 x.ex ns ds))
 | 0,x,h=>by omega
 | M+1,x,h=>fun hT hr ns ds a c dg m η hs hd hm hg=>eval_step hX hf hR hk0 hkf hk2 M (eval_all hX hf hR hk0 hkf hk2 M) x (by omega) hT hr ns ds a c dg m η hs hd hm hg
end Go.Proofs.YtdiacobmhkmljaaDoor
/- Calls are run; the trace of a call. -/
namespace Go.Proofs.YtdiacobmhkmljaaDoor
open Go.Sl
variable {S:Nat→Prop} {w0:World} {η:Heap}
theorem runS_some {F:List Ex} {cells:List Int} {f:Nat} {ns:List Nd} {k:Key} {x:Nd} (h:findN ns k=some x):runS F cells (f+1) ns k=(ns,x.word):=by rw [runS,h]
theorem runS_none {F:List Ex} {cells:List Int} {f:Nat} {ns:List Nd} {k:Key} (h:findN ns k=none):runS F cells (f+1) ns k=((evalS (runS F cells f) cells k.2 (F.getD k.1.toNat noE) ns []).1++[⟨k,(evalS (runS F cells f) cells k.2 (F.getD k.1.toNat noE) ns []).2.1,(evalS (runS F cells f) cells k.2 (F.getD k.1.toNat noE) ns []).2.2⟩],(evalS (runS F cells f) cells k.2 (F.getD k.1.toNat noE) ns []).2.1):=by rw [runS,h]
theorem permK {x y d:Seg} {X Y:Heap}:(x::d::y::(X++Y)).Perm (y::((x::d::X)++Y)):=by
 simp only [List.cons_append]
 exact ((List.Perm.swap y d (X++Y)).cons x).trans (List.Perm.swap y x (d::(X++Y)))
/-- One more call. -/
theorem MM.push {tb:Nat} {ns:List Nd} {m:Mp} (h:MM S w0 tb ns m) {x:PC} {dg bs:Seg} {es:Array MapEntry} {clock:Nat} (ho:MObj kV ptr (kb m.l++[(x.nd.key,x.b)]) es clock) (hx:CM S w0 (bs::dg::m.hc) tb x):MM S w0 tb (ns++[x.nd]) ⟨es,clock,m.l++[x],bs::dg::m.hc⟩:=by
 refine ⟨by rw [kb_app]; exact ho,by rw [pnds_app,h.nds]; rfl,fun y hy=>?_⟩
 rcases List.mem_append.1 hy with hy | hy
 ·exact (h.mem y hy).up (fun s hs=>by simp [hs])
 ·rw [List.mem_singleton.1 hy]; exact hx
set_option maxHeartbeats 4000000 in
theorem run_step {tb b8 b3 mb : Nat} {fa : Option Addr} {fc : Nat} {fl : List TE} {ca : Option Addr} {cc : Nat} {cells : List Int} (hX : Cx S w0 tb b8 b3 mb fa fc fl ca cc cells) {f : Nat} (hf : f ≤ 201) (hR : RunP S w0 tb b8 b3 mb (fl.map TE.ex) cells f) (k : Key) (ns : List Nd) (m : Mp) (η : Heap) (hk : KOk (fl.map TE.ex) (f + 1) k) (hk2 : k.2 ≤ 200) (hg : Good (fl.map TE.ex) cells ns) (hm : MM S w0 tb ns m) :
  Rt Tryd.prog 54 [kV k,ptr b8,ptr b3].toArray S w0 (mseg mb m::(m.hc++η)) (fun v η'=>∃ m',v = .int .i64 (runS (fl.map TE.ex) cells (f+1) ns k).2∧MM S w0 tb (runS (fl.map TE.ex) cells (f+1) ns k).1 m'∧η'=mseg mb m'::(m'.hc++η)):=by
 have hF:=open_wide
 refine Rt.of (fn:=Tryd.f54) Tryd.func54 rfl rfl ?_
 refine T.seq ?_
 refine T.region ?_
 refine TL.box hF rfl rfl (fun b3k=>?_)
 refine TL.assign hF rfl rfl ?_
 refine TL.nil ?_
 refine TQ.then_n ?_
 refine T.seq ?_
 refine T.seq ?_
 rcases kb_find (k:=k) (l:=m.l) with ⟨hq1,hq2⟩ | ⟨x,hx,hq1,hq2,hq3⟩
 ·refine T.draw ?_
  refine DR.stepV [_] rfl [(1,_,none)] rfl rfl ⟨⟨rfl,by kernel_rfl⟩,trivial⟩ (fun ext=>TL.load hF rfl (hX.p8.up (by simp)) rfl TL.fin) ?_
  refine DR.stepV [_,_] rfl [(9,_,some 0)] rfl rfl ⟨⟨rfl,rfl,rfl⟩,trivial⟩ (fun ext=>TL.nilCheck hF rfl rfl TL.fin) ?_
  refine DR.stepV [_,_,_] rfl [(10,_,some 1)] rfl rfl ⟨⟨rfl,rfl,rfl⟩,trivial⟩ (fun ext=>TL.fieldAddr hF rfl rfl TL.fin) ?_
  refine DR.stepV [_,_,_,_] rfl [(11,_,some 2)] rfl rfl ⟨⟨rfl,rfl,rfl⟩,trivial⟩ (fun ext=>TL.load hF rfl ((hX.t 2 _ rfl).up (by simp)) rfl TL.fin) ?_
  refine DR.stepV [_,_,_,_,_] rfl [(3,_,none)] rfl rfl ⟨⟨rfl,by kernel_rfl⟩,trivial⟩ (fun ext=>TL.loadA hF [.int .i64 k.1,.int .i64 k.2] rfl rfl (own_list (i:=0) rfl) rfl TL.fin) ?_
  refine DR.stepV [_,_,_,_,_,_] rfl [(12,_,some 3),(13,_,some 4)] rfl rfl ⟨⟨rfl,rfl,rfl⟩,⟨rfl,rfl,rfl⟩,trivial⟩ (fun ext=>TL_lookN hF ptr k hq1 rfl rfl (by simp) hm.obj rfl TL.fin) ?_
  refine DR.stepV [_,_,_,_,_,_,_] rfl [(14,_,some 5)] rfl rfl ⟨⟨rfl,rfl,rfl⟩,trivial⟩ (fun ext=>TL.move hF rfl rfl TL.fin) ?_
  refine DR.stepV [_,_,_,_,_,_,_,_] rfl [(8,_,some 6)] rfl rfl ⟨⟨rfl,rfl,rfl⟩,trivial⟩ (fun ext=>TL.extract hF rfl rfl rfl TL.fin) ?_
  refine DR.stepV [_,_,_,_,_,_,_,_,_] rfl [(8,_,some 6)] rfl rfl ⟨⟨rfl,rfl,rfl⟩,trivial⟩ (fun ext=>TL.extract hF rfl rfl rfl TL.fin) ?_
  refine DR.stepV [_,_,_,_,_,_,_,_,_,_] rfl [(15,_,some 7)] rfl rfl ⟨⟨rfl,rfl,rfl⟩,trivial⟩ (fun ext=>TL.assign hF rfl rfl TL.fin) ?_
  refine DR.done [(5,_),(16,_),(15,_),(8,_),(14,_),(13,_),(12,_),(11,_),(10,_),(9,_)] [_] mixed (by kernel_rfl) (by kernel_rfl) (by kernel_rfl) rfl rfl ?_
  refine TL.assign hF rfl rfl ?_
  refine TL.nil ?_
  refine TQ.then_n ?_
  refine T.seq ?_
  refine T.region ?_
  refine TL.move hF rfl rfl ?_
  refine TL.nil ?_
  refine TQ.then_n ?_
  refine T.cond_f rfl rfl ?_
  refine T.skip ?_
  refine TQ.then_n ?_
  refine T.seq ?_
  refine T.region ?_
  refine TL.loadA hF [.int .i64 k.1,.int .i64 k.2] rfl rfl (own_list (i:=0) rfl) rfl ?_
  refine TL.build hF rfl (r:=.agg #[.int .i64 k.1,.int .i64 k.2,.int .i64 0,.slice none 0 0]) (fun w=>by kernel_rfl) rfl ?_
  refine TL.load hF rfl (hX.p8.up (by simp)) rfl ?_
  refine TL.build hF rfl (r:=.agg #[.int .i64 k.1,.int .i64 k.2,.int .i64 0,.slice none 0 0,ptr tb]) (fun w=>by kernel_rfl) rfl ?_
  refine TL.box hF rfl rfl (fun b27=>?_)
  refine TL.assign hF rfl rfl ?_
  refine TL.nil ?_
  refine TQ.then_n ?_
  refine T.seq ?_
  refine T.region ?_
  refine TL.move hF rfl rfl ?_
  refine TL.move hF rfl rfl ?_
  refine TL.load hF rfl (hX.p3.up (by simp)) rfl ?_
  refine TL.fieldAddr hF rfl rfl ?_
  refine TL.load hF rfl (by first | exact At.own' (i:=0) rfl rfl | exact At.own' (i:=1) rfl rfl | exact At.own' (i:=2) rfl rfl | exact At.own' (i:=3) rfl rfl | exact At.own' (i:=4) rfl rfl | exact At.own' (i:=5) rfl rfl | exact At.own' (i:=6) rfl rfl | exact At.own' (i:=7) rfl rfl | exact At.own' (i:=8) rfl rfl | exact At.own' (i:=9) rfl rfl | exact At.own' (i:=10) rfl rfl | exact At.own' (i:=11) rfl rfl | exact At.own' (i:=12) rfl rfl) rfl ?_
  have hki:k.1.toNat<fl.length:=by have h:=hk.1; have h2:=hk.2.1; rw [List.length_map] at h2; omega
  have hki2:k.1<(fl.length:Int):=by have h2:=hk.2.1; rwa [List.length_map] at h2
  refine TL.indexAddr hF rfl rfl (hX.fs.ad hki) hk.1 hki2 rfl ?_
  refine TL.loadA hF (teC fl[k.1.toNat]) rfl rfl (hX.fs.ro.atA (i:=k.1.toNat) hki) rfl ?_
  rw [hm.nds] at hq2
  have hFk:(fl.map TE.ex).getD k.1.toNat noE=fl[k.1.toNat].ex:=fnAt hki
  have hright:=hX.sc.right k.1.toNat (by rw [List.length_map]; exact hki)
  rw [hFk] at hright
  have hsize:=hX.sc.size k.1.toNat (by rw [List.length_map]; exact hki)
  rw [hFk] at hsize
  refine TL.hnil ?_
  refine TL.hperm (cseg' b27 k 0 none ([]:List Dp).length 0 tb::[]::mseg mb m::(m.hc++([[(b3k,Obj.cells #[.int .i64 k.1,.int .i64 k.2] 25 (0,0))]]++η))) ?_ ?_
  ·exact ((List.Perm.swap _ _ _).trans (.cons _ (.cons _ (permM [[(b3k,Obj.cells #[.int .i64 k.1,.int .i64 k.2] 25 (0,0))]])))).symm
  refine TL.call hF (eval_all hX hf hR hk.2.2.1 (by have:=hk.2.2.2; omega) (by have:=hk.2.2.2; omega) _ fl[k.1.toNat] (Nat.lt_succ_self _) (hX.fs.item _ (List.getElem_mem hki)) hright ns [] none 0 [] m ([[(b3k,Obj.cells #[.int .i64 k.1,.int .i64 k.2] 25 (0,0))]]++η) (by simpa using hsize) (OSl.nil _ _) hm hg) rfl rfl ?_
  rintro _ _ ⟨a1,c1,dg1,m1,rfl,hd1,hm1,rfl⟩
  have hfac:=ev_facts (f:=f) hX.sc hf hk.2.2.1 (show k.2≤(f:Int) by have:=hk.2.2.2; omega) (by have:=hk.2.2.2; omega) hright hg []
  have hr:=runS_none (F:=(fl.map TE.ex)) (cells:=cells) (f:=f) hq2
  rw [hFk] at hr
  have hnew:∀ y,findN ((evalS (runS (fl.map TE.ex) cells f) cells k.2 fl[k.1.toNat].ex ns [])).1 k=some y→False:=fun y hy=>by
   have hC:CallOk (fl.map TE.ex) cells (runS (fl.map TE.ex) cells f) k.2:=fun ns' k' hg' q1 q2 q3 q4=>by
    obtain ⟨m,e1,g1,w1,s1,k1,x1⟩:=run_ok hX.sc.right f hf ns' k' hg' q1 q2 q3 (by have:=hk.2.2.2; omega)
    exact ⟨m,e1,g1,w1,s1,fun x hx=>by have:=k1 x hx; omega,x1⟩
   obtain ⟨mm,e1,_,_,k1,_⟩:=(ev_ok hC).1 fl[k.1.toNat].ex hright ns [] hg
   rw [e1] at hy
   obtain ⟨h1,h2⟩:=findN_some hy
   rcases List.mem_append.1 h1 with h1 | h1
   ·exact findN_none.1 hq2 (h2 ▸ List.mem_map_of_mem h1)
   ·have:=k1 y h1
    rw [h2] at this; omega
  generalize (evalS (runS (fl.map TE.ex) cells f) cells k.2 fl[k.1.toNat].ex ns [])=q at hd1 hm1 hfac hr hnew ⊢
  refine TL.nilCheck hF rfl rfl ?_
  refine TL.fieldAddr hF rfl rfl ?_
  refine TL.fieldAddr hF rfl rfl ?_
  refine TL.storeI hF 0 rfl rfl rfl rfl (by simp) ?_
  refine TL.nil ?_
  refine TQ.then_n ?_
  refine T.seq ?_
  refine T.draw ?_
  refine DR.stepV [_] rfl [(1,_,none)] rfl rfl ⟨⟨rfl,by kernel_rfl⟩,trivial⟩ (fun ext=>TL.load hF rfl (hX.p8.up (by simp)) rfl TL.fin) ?_
  refine DR.stepV [_,_] rfl [(39,_,some 0)] rfl rfl ⟨⟨rfl,rfl,rfl⟩,trivial⟩ (fun ext=>TL.nilCheck hF rfl rfl TL.fin) ?_
  refine DR.stepV [_,_,_] rfl [(40,_,some 1)] rfl rfl ⟨⟨rfl,rfl,rfl⟩,trivial⟩ (fun ext=>TL.fieldAddr hF rfl rfl TL.fin) ?_
  refine DR.stepV [_,_,_,_] rfl [(41,_,some 2)] rfl rfl ⟨⟨rfl,rfl,rfl⟩,trivial⟩ (fun ext=>TL.load hF rfl ((hX.t 2 _ rfl).up (by simp)) rfl TL.fin) ?_
  refine DR.stepV [_,_,_,_,_] rfl [(3,_,none)] rfl rfl ⟨⟨rfl,by kernel_rfl⟩,trivial⟩ (fun ext=>TL.loadA hF [.int .i64 k.1,.int .i64 k.2] rfl rfl (own_listM (b:=b3k) (e:=25) (fz:=(0,0)) (by simp)) rfl TL.fin) ?_
  refine DR.stepV [_,_,_,_,_,_] rfl [(7,_,none)] rfl rfl ⟨⟨rfl,by kernel_rfl⟩,trivial⟩ (fun ext=>TL.move hF rfl rfl TL.fin) ?_
  refine DR.done [(44,_),(43,_),(42,_),(41,_),(40,_),(39,_)] [_] mixed (by kernel_rfl) (by kernel_rfl) (by kernel_rfl) rfl rfl ?_
  refine TL.mapUpdate hF 2 ptr k b27 rfl rfl rfl rfl hm1.obj (fun es2 clock2 ho2=>?_)
  refine TL.nil ?_
  refine TQ.then_n ?_
  refine T.seq ?_
  refine T.region ?_
  refine TL.move hF rfl rfl ?_
  refine TL.nilCheck hF rfl rfl ?_
  refine TL.fieldAddr hF rfl rfl ?_
  refine TL.fieldAddr hF rfl rfl ?_
  refine TL.load hF rfl (own_list (i:=0) (cs:=cC k q.2.1 a1 q.2.2.length c1 tb) rfl 2 _ rfl) rfl ?_
  refine TL.assign hF rfl rfl ?_
  refine TL.nil ?_
  refine TQ.then_n ?_
  refine T.ret ?_
  refine TQ.hperm ([(b3k,Obj.cells #[.int .i64 k.1,.int .i64 k.2] 25 (0,0))]::mseg mb ⟨es2,clock2,m1.l++[⟨⟨k,q.2.1,q.2.2⟩,b27,a1,c1⟩],cseg' b27 k q.2.1 a1 q.2.2.length c1 tb::dg1::m1.hc⟩::((cseg' b27 k q.2.1 a1 q.2.2.length c1 tb::dg1::m1.hc)++η)) ?_ ?_
  ·refine (permM [[(b3k,Obj.cells #[.int .i64 k.1,.int .i64 k.2] 25 (0,0))]] (c:=[(mb,.map es2 clock2)]) (X:=cseg' b27 k q.2.1 a1 q.2.2.length c1 tb::dg1::m1.hc)).trans ?_
   exact permK.symm
  refine TQ.pop ?_
  refine TQ.rets [4] _ rfl rfl rfl ?_
  have hno:mget k (kb m1.l)=none:=by
   rcases kb_find (k:=k) (l:=m1.l) with ⟨h1,_⟩ | ⟨x,hx,h1,h2,h3⟩
   ·exact h1
   ·exfalso
    rw [hm1.nds] at h2
    exact hnew x.nd h2
  rw [mput_none _ hno] at ho2
  rw [hr]
  refine ⟨_,rfl,hm1.push (x:=⟨⟨k,q.2.1,q.2.2⟩,b27,a1,c1⟩) ho2 ⟨fun j v hj=>own_list (i:=0) (cs:=cC k q.2.1 a1 q.2.2.length c1 tb) rfl j v hj,⟨hd1.row (by simp),osl_cap hd1,by show q.2.2.length<4294967296; have:=hfac.2.2; simp at this; omega⟩⟩,rfl⟩
 ·refine T.draw ?_
  refine DR.stepV [_] rfl [(1,_,none)] rfl rfl ⟨⟨rfl,by kernel_rfl⟩,trivial⟩ (fun ext=>TL.load hF rfl (hX.p8.up (by simp)) rfl TL.fin) ?_
  refine DR.stepV [_,_] rfl [(9,_,some 0)] rfl rfl ⟨⟨rfl,rfl,rfl⟩,trivial⟩ (fun ext=>TL.nilCheck hF rfl rfl TL.fin) ?_
  refine DR.stepV [_,_,_] rfl [(10,_,some 1)] rfl rfl ⟨⟨rfl,rfl,rfl⟩,trivial⟩ (fun ext=>TL.fieldAddr hF rfl rfl TL.fin) ?_
  refine DR.stepV [_,_,_,_] rfl [(11,_,some 2)] rfl rfl ⟨⟨rfl,rfl,rfl⟩,trivial⟩ (fun ext=>TL.load hF rfl ((hX.t 2 _ rfl).up (by simp)) rfl TL.fin) ?_
  refine DR.stepV [_,_,_,_,_] rfl [(3,_,none)] rfl rfl ⟨⟨rfl,by kernel_rfl⟩,trivial⟩ (fun ext=>TL.loadA hF [.int .i64 k.1,.int .i64 k.2] rfl rfl (own_list (i:=0) rfl) rfl TL.fin) ?_
  refine DR.stepV [_,_,_,_,_,_] rfl [(12,_,some 3),(13,_,some 4)] rfl rfl ⟨⟨rfl,rfl,rfl⟩,⟨rfl,rfl,rfl⟩,trivial⟩ (fun ext=>TL_lookS hF ptr k hq1 rfl rfl (by simp) hm.obj rfl TL.fin) ?_
  refine DR.stepV [_,_,_,_,_,_,_] rfl [(14,_,some 5)] rfl rfl ⟨⟨rfl,rfl,rfl⟩,trivial⟩ (fun ext=>TL.move hF rfl rfl TL.fin) ?_
  refine DR.stepV [_,_,_,_,_,_,_,_] rfl [(8,_,some 6)] rfl rfl ⟨⟨rfl,rfl,rfl⟩,trivial⟩ (fun ext=>TL.extract hF rfl rfl rfl TL.fin) ?_
  refine DR.stepV [_,_,_,_,_,_,_,_,_] rfl [(8,_,some 6)] rfl rfl ⟨⟨rfl,rfl,rfl⟩,trivial⟩ (fun ext=>TL.extract hF rfl rfl rfl TL.fin) ?_
  refine DR.stepV [_,_,_,_,_,_,_,_,_,_] rfl [(15,_,some 7)] rfl rfl ⟨⟨rfl,rfl,rfl⟩,trivial⟩ (fun ext=>TL.assign hF rfl rfl TL.fin) ?_
  refine DR.done [(5,_),(16,_),(15,_),(8,_),(14,_),(13,_),(12,_),(11,_),(10,_),(9,_)] [_] mixed (by kernel_rfl) (by kernel_rfl) (by kernel_rfl) rfl rfl ?_
  refine TL.assign hF rfl rfl ?_
  refine TL.nil ?_
  refine TQ.then_n ?_
  refine T.seq ?_
  refine T.region ?_
  refine TL.move hF rfl rfl ?_
  refine TL.nil ?_
  refine TQ.then_n ?_
  refine T.cond_t rfl rfl ?_
  refine T.seq ?_
  refine T.region ?_
  refine TL.move hF rfl rfl ?_
  refine TL.nilCheck hF rfl rfl ?_
  refine TL.fieldAddr hF rfl rfl ?_
  refine TL.fieldAddr hF rfl rfl ?_
  refine TL.load hF rfl (((hm.mem x hx).at' 2 _ rfl).up (by intro s hs; simp [hs])) rfl ?_
  refine TL.assign hF rfl rfl ?_
  refine TL.nil ?_
  refine TQ.then_n ?_
  refine T.ret ?_
  refine TQ.then_r ?_
  refine TQ.pop ?_
  refine TQ.rets [4] _ rfl rfl rfl ?_
  rw [hm.nds] at hq2
  rw [runS_some hq2]
  exact ⟨m,rfl,hm,rfl⟩
theorem run_all {tb b8 b3 mb:Nat} {fa:Option Addr} {fc:Nat} {fl:List TE} {ca:Option Addr} {cc:Nat} {cells:List Int} (hX:Cx S w0 tb b8 b3 mb fa fc fl ca cc cells):∀ f:Nat,f≤201→RunP S w0 tb b8 b3 mb (fl.map TE.ex) cells f
 | 0,_=>fun k ns m η hk=>by obtain ⟨_,_,h1,h2⟩:=hk; omega
 | f+1,hf=>fun k ns m η hk hg hm=>run_step hX (by omega) (run_all hX f (by omega)) k ns m η (by have:=hk; exact this) (by have:=hk.2.2.2; omega) hg hm
end Go.Proofs.YtdiacobmhkmljaaDoor
/- The trace of a call, made. -/
namespace Go.Proofs.YtdiacobmhkmljaaDoor
open Go.Sl
variable {S:Nat→Prop} {w0:World} {η:Heap}
/-- A trace: its map, and its calls. -/
structure TV (S:Nat→Prop) (w0:World) (tb mb:Nat) (ns:List Nd) (m:Mp):Prop where
 mm:MM S w0 tb ns m
 t:At S w0 m.hc ⟨tb,0+2,none⟩ (.map (some mb))
theorem CM.thaw {S':Nat→Prop} {w1:World} {ηr η':Heap} {tb:Nat} {x:PC} (hb:∀ η' a v,At S' w1 η' a v→At S w0 (ηr++η') a v) (h:CM S' w1 η' tb x):CM S w0 (ηr++η') tb x:=h.map fun _ _ ha=>hb _ _ _ ha
theorem permT (L:Heap) {c:Seg} {X Y:Heap}:(c::((L++X)++Y)).Perm (L++(c::(X++Y))):=by
 rw [List.append_assoc]; exact List.perm_middle.symm
set_option maxHeartbeats 4000000 in
theorem traced_fn {fa : Option Addr} {fc : Nat} {fl : List TE} {ca : Option Addr} {cc : Nat} {cells : List Int} {top : Key} (hT : Tabs S w0) (hf : Fs S w0 [] fa fl) (hcl : Row S w0 [] ca (ints cells)) (hs : Scn (fl.map TE.ex) cells) (hk : KOk (fl.map TE.ex) (201 : Nat) top) :
  Rt Tryd.prog 37 [.slice fa fl.length fc,.slice ca cells.length cc,kV top].toArray S w0 η (fun v η'=>∃ tb mb m,v = .tuple #[ptr tb,.int .i64 (callsS (fl.map TE.ex) cells top).2]∧TV S w0 tb mb (callsS (fl.map TE.ex) cells top).1 m∧η'=mseg mb m::(m.hc++η)):=by
 have hF:=open_wide
 refine Rt.of (fn:=Tryd.f37) Tryd.func37 rfl rfl ?_
 refine T.seq ?_
 refine T.region ?_
 refine TL.box hF rfl rfl (fun b3=>?_)
 refine TL.box hF rfl rfl (fun b5=>?_)
 refine TL.assign hF rfl rfl ?_
 refine TL.assign hF rfl rfl ?_
 refine TL.nil ?_
 refine TQ.then_n ?_
 refine T.seq ?_
 refine T.region ?_
 refine TL.load hF rfl (by first | exact At.own' (i:=0) rfl rfl | exact At.own' (i:=1) rfl rfl | exact At.own' (i:=2) rfl rfl | exact At.own' (i:=3) rfl rfl | exact At.own' (i:=4) rfl rfl | exact At.own' (i:=5) rfl rfl | exact At.own' (i:=6) rfl rfl | exact At.own' (i:=7) rfl rfl | exact At.own' (i:=8) rfl rfl | exact At.own' (i:=9) rfl rfl | exact At.own' (i:=10) rfl rfl | exact At.own' (i:=11) rfl rfl | exact At.own' (i:=12) rfl rfl) rfl ?_
 refine TL.move hF rfl rfl ?_
 refine TL.makeMap hF rfl (fun b11=>?_)
 refine TL.build hF rfl (r:=.agg #[.slice fa fl.length fc,.slice ca cells.length cc,.map (some b11),.nilFunc]) (fun w=>by kernel_rfl) rfl ?_
 refine TL.box hF rfl rfl (fun b13=>?_)
 refine TL.alloc hF rfl (fun b8=>?_)
 first | refine TL.storeI hF 0 rfl rfl rfl rfl (by first | decide | simp) ?_ | refine TL.storeI hF 1 rfl rfl rfl rfl (by first | decide | simp) ?_ | refine TL.storeI hF 2 rfl rfl rfl rfl (by first | decide | simp) ?_ | refine TL.storeI hF 3 rfl rfl rfl rfl (by first | decide | simp) ?_ | refine TL.storeI hF 4 rfl rfl rfl rfl (by first | decide | simp) ?_ | refine TL.storeI hF 5 rfl rfl rfl rfl (by first | decide | simp) ?_
 refine TL.nil ?_
 refine TQ.then_n ?_
 refine T.seq ?_
 refine T.region ?_
 refine TL.load hF rfl (by first | exact At.own' (i:=0) rfl rfl | exact At.own' (i:=1) rfl rfl | exact At.own' (i:=2) rfl rfl | exact At.own' (i:=3) rfl rfl | exact At.own' (i:=4) rfl rfl | exact At.own' (i:=5) rfl rfl | exact At.own' (i:=6) rfl rfl | exact At.own' (i:=7) rfl rfl | exact At.own' (i:=8) rfl rfl | exact At.own' (i:=9) rfl rfl | exact At.own' (i:=10) rfl rfl | exact At.own' (i:=11) rfl rfl | exact At.own' (i:=12) rfl rfl) rfl ?_
 refine TL.makeFunc hF rfl rfl rfl ?_
 refine TL.nilCheck hF rfl rfl ?_
 refine TL.fieldAddr hF rfl rfl ?_
 refine TL.storeI hF 1 rfl rfl rfl rfl (by simp [Value.cells]) ?_
 refine TL.nil ?_
 refine TQ.then_n ?_
 refine T.seq ?_
 refine T.pick [0,1,3,4,2] [_,_,_,_,_] rfl rfl rfl ?_
 refine T.freeze2 [[(b8,Obj.cells #[ptr b13] 82 (0,0))],[(b13,Obj.cells #[.slice fa fl.length fc,.slice ca cells.length cc,.map (some b11),.func (.func 54) #[] #[ptr b8,ptr b3]] 93 (0,0))],[(b5,Obj.cells #[.int .i64 top.1,.int .i64 top.2] 25 (0,0))],[(b3,Obj.cells #[.slice fa fl.length fc] 23 (0,0))]] rfl (fun S1 w1 hz hback=>?_)
 have hX:Cx S1 w1 b13 b8 b3 b11 fa fc fl ca cc cells:=⟨hT.old hz,hf.old hz,hcl.old hz,fun j v hj=>hz.get _ _ (own_list (η:=[[(b8,Obj.cells #[ptr b13] 82 (0,0))],[(b13,Obj.cells #[.slice fa fl.length fc,.slice ca cells.length cc,.map (some b11),.func (.func 54) #[] #[ptr b8,ptr b3]] 93 (0,0))],[(b5,Obj.cells #[.int .i64 top.1,.int .i64 top.2] 25 (0,0))],[(b3,Obj.cells #[.slice fa fl.length fc] 23 (0,0))]]) (i:=1) (cs:=[.slice fa fl.length fc,.slice ca cells.length cc,.map (some b11),.func (.func 54) #[] #[ptr b8,ptr b3]]) rfl j v hj),hz.get _ _ (At.own' (η:=[[(b8,Obj.cells #[ptr b13] 82 (0,0))],[(b13,Obj.cells #[.slice fa fl.length fc,.slice ca cells.length cc,.map (some b11),.func (.func 54) #[] #[ptr b8,ptr b3]] 93 (0,0))],[(b5,Obj.cells #[.int .i64 top.1,.int .i64 top.2] 25 (0,0))],[(b3,Obj.cells #[.slice fa fl.length fc] 23 (0,0))]]) (i:=0) rfl rfl),hz.get _ _ (At.own' (η:=[[(b8,Obj.cells #[ptr b13] 82 (0,0))],[(b13,Obj.cells #[.slice fa fl.length fc,.slice ca cells.length cc,.map (some b11),.func (.func 54) #[] #[ptr b8,ptr b3]] 93 (0,0))],[(b5,Obj.cells #[.int .i64 top.1,.int .i64 top.2] 25 (0,0))],[(b3,Obj.cells #[.slice fa fl.length fc] 23 (0,0))]]) (i:=3) rfl rfl),hs⟩
 have hK5:∀ j v,([.int .i64 top.1,.int .i64 top.2]:List Value)[j]?=some v→At S1 w1 [] ⟨b5,0+j,none⟩ v:=fun j v hj=>hz.get _ _ (own_list (η:=[[(b8,Obj.cells #[ptr b13] 82 (0,0))],[(b13,Obj.cells #[.slice fa fl.length fc,.slice ca cells.length cc,.map (some b11),.func (.func 54) #[] #[ptr b8,ptr b3]] 93 (0,0))],[(b5,Obj.cells #[.int .i64 top.1,.int .i64 top.2] 25 (0,0))],[(b3,Obj.cells #[.slice fa fl.length fc] 23 (0,0))]]) (i:=2) rfl j v hj)
 have hm0:MM S1 w1 b13 [] ⟨#[],0,[],[]⟩:=⟨MObj.nil _ _,rfl,fun x hx=>by simp at hx⟩
 refine T.drawH 7 mixed ?_
 refine DH.read (i:=0) [(8,_,none)] rfl rfl rfl rfl ⟨⟨rfl,by kernel_rfl⟩,trivial⟩ (fun ext=>TL.load hF rfl (hX.p8.up (by simp)) rfl TL.fin) ?_
 refine DH.read (i:=1) [(8,_,none)] rfl rfl rfl rfl ⟨⟨rfl,by kernel_rfl⟩,trivial⟩ (fun ext=>TL.load hF rfl (hX.p8.up (by simp)) rfl TL.fin) ?_
 refine DH.pure (i:=2) [(19,_,some 1)] rfl rfl rfl rfl ⟨⟨rfl,rfl,rfl⟩,trivial⟩ (fun _ ext=>TL.nilCheck hF rfl rfl TL.fin) ?_
 refine DH.pure (i:=3) [(20,_,some 2)] rfl rfl rfl rfl ⟨⟨rfl,rfl,rfl⟩,trivial⟩ (fun _ ext=>TL.fieldAddr hF rfl rfl TL.fin) ?_
 refine DH.read (i:=4) [(21,_,some 3)] rfl rfl rfl rfl ⟨⟨rfl,rfl,rfl⟩,trivial⟩ (fun ext=>TL.load hF rfl ((hX.t 3 _ rfl).up (by simp)) rfl TL.fin) ?_
 refine DH.read (i:=5) [(5,_,none)] rfl rfl rfl rfl ⟨⟨rfl,by kernel_rfl⟩,trivial⟩ (fun ext=>TL.loadA hF [.int .i64 top.1,.int .i64 top.2] rfl rfl (fun j v hj=>(hK5 j v hj).up (by simp)) rfl TL.fin) ?_
 refine DH.k1 (by kernel_rfl) (by kernel_rfl) (by kernel_rfl) (by kernel_rfl) (HBK.mk (h:=6) [0] [(22,_,some 4),(23,_,some 5)] rfl rfl rfl ⟨⟨rfl,rfl,rfl⟩,⟨rfl,rfl,rfl⟩,trivial⟩ (by kernel_rfl) (fun ext=>?_))
 refine TL.call hF (run_all hX 201 (Nat.le_refl _) top [] ⟨#[],0,[],[]⟩ η hk (Good.nil _ _) hm0) rfl rfl ?_
 rintro _ _ ⟨m1,rfl,hm1,rfl⟩
 refine TL.finK ⟨⟨_,rfl,_,_,[(8,_,none)],rfl,rfl,⟨⟨rfl,by kernel_rfl⟩,trivial⟩,fun ext=>TL.load hF rfl (hX.p8.up (by simp)) rfl TL.fin⟩,trivial⟩ ?_
 refine DH.done [(24,_),(23,_),(22,_),(21,_),(20,_),(19,_),(18,_)] [_,_] (by kernel_rfl) (by kernel_rfl) (by kernel_rfl) (by kernel_rfl) rfl rfl ?_
 refine TL.assign hF rfl rfl ?_
 refine TL.assign hF rfl rfl ?_
 refine TL.nil ?_
 refine TQ.then_n ?_
 refine T.ret ?_
 refine TQ.thaw hz ?_
 refine TQ.hperm (mseg b11 ⟨m1.es,m1.clock,m1.l,[[(b8,Obj.cells #[ptr b13] 82 (0,0))],[(b13,Obj.cells #[.slice fa fl.length fc,.slice ca cells.length cc,.map (some b11),.func (.func 54) #[] #[ptr b8,ptr b3]] 93 (0,0))],[(b5,Obj.cells #[.int .i64 top.1,.int .i64 top.2] 25 (0,0))],[(b3,Obj.cells #[.slice fa fl.length fc] 23 (0,0))]]++m1.hc⟩::(([[(b8,Obj.cells #[ptr b13] 82 (0,0))],[(b13,Obj.cells #[.slice fa fl.length fc,.slice ca cells.length cc,.map (some b11),.func (.func 54) #[] #[ptr b8,ptr b3]] 93 (0,0))],[(b5,Obj.cells #[.int .i64 top.1,.int .i64 top.2] 25 (0,0))],[(b3,Obj.cells #[.slice fa fl.length fc] 23 (0,0))]]++m1.hc)++η)) (permT [[(b8,Obj.cells #[ptr b13] 82 (0,0))],[(b13,Obj.cells #[.slice fa fl.length fc,.slice ca cells.length cc,.map (some b11),.func (.func 54) #[] #[ptr b8,ptr b3]] 93 (0,0))],[(b5,Obj.cells #[.int .i64 top.1,.int .i64 top.2] 25 (0,0))],[(b3,Obj.cells #[.slice fa fl.length fc] 23 (0,0))]]) ?_
 refine TQ.rets [6,7] _ rfl rfl rfl ?_
 exact ⟨b13,b11,⟨m1.es,m1.clock,m1.l,[[(b8,Obj.cells #[ptr b13] 82 (0,0))],[(b13,Obj.cells #[.slice fa fl.length fc,.slice ca cells.length cc,.map (some b11),.func (.func 54) #[] #[ptr b8,ptr b3]] 93 (0,0))],[(b5,Obj.cells #[.int .i64 top.1,.int .i64 top.2] 25 (0,0))],[(b3,Obj.cells #[.slice fa fl.length fc] 23 (0,0))]]++m1.hc⟩,rfl,⟨⟨hm1.obj,hm1.nds,fun x hx=>(hm1.mem x hx).thaw hback⟩,(own_list (η:=[[(b8,Obj.cells #[ptr b13] 82 (0,0))],[(b13,Obj.cells #[.slice fa fl.length fc,.slice ca cells.length cc,.map (some b11),.func (.func 54) #[] #[ptr b8,ptr b3]] 93 (0,0))],[(b5,Obj.cells #[.int .i64 top.1,.int .i64 top.2] 25 (0,0))],[(b3,Obj.cells #[.slice fa fl.length fc] 23 (0,0))]]) (i:=1) (cs:=[.slice fa fl.length fc,.slice ca cells.length cc,.map (some b11),.func (.func 54) #[] #[ptr b8,ptr b3]]) rfl 2 _ rfl).up upl⟩,rfl⟩
end Go.Proofs.YtdiacobmhkmljaaDoor
/- Keys, and numbers, sorted by the library. -/
namespace Go.Proofs.YtdiacobmhkmljaaDoor
open Go.Sl
variable {S:Nat→Prop} {w0:World} {η:Heap}
/-- A key of small numbers. -/
def SmK (k:Key):Prop:=0≤k.1∧k.1<1000∧0≤k.2∧k.2<1000
def cfK (x y:Key):Int:=if x.1≠y.1 then x.1 - y.1 else x.2 - y.2
theorem cfK_lt (x y:Key):decide (cfK x y<0)=kLt x y:=by
 unfold cfK
 rw [Bool.eq_iff_iff,decide_eq_true_eq,kLt_iff]
 by_cases e:x.1=y.1
 ·rw [if_neg (fun h=>h e)]; omega
 ·rw [if_pos e]; omega
set_option maxHeartbeats 2000000 in
theorem cmpK_fn {x y : Key} (hx : SmK x) (hy : SmK y) :
  Rt Tryd.prog 60 [kV x,kV y].toArray S w0 η (fun v _η'=>v = .int .i64 (cfK x y)):=by
 have hF:=open_wide
 refine Rt.of (fn:=Tryd.f60) Tryd.func60 rfl rfl ?_
 refine T.seq ?_
 refine T.region ?_
 refine TL.box hF rfl rfl (fun b2=>?_)
 refine TL.box hF rfl rfl (fun b3=>?_)
 refine TL.assign hF rfl rfl ?_
 refine TL.nil ?_
 refine TQ.then_n ?_
 refine T.seq ?_
 refine T.seq ?_
 refine T.region ?_
 refine TL.fieldAddr hF rfl rfl ?_
 refine TL.load hF rfl (by first | exact At.own' (i:=0) rfl rfl | exact At.own' (i:=1) rfl rfl | exact At.own' (i:=2) rfl rfl | exact At.own' (i:=3) rfl rfl | exact At.own' (i:=4) rfl rfl | exact At.own' (i:=5) rfl rfl | exact At.own' (i:=6) rfl rfl | exact At.own' (i:=7) rfl rfl | exact At.own' (i:=8) rfl rfl | exact At.own' (i:=9) rfl rfl | exact At.own' (i:=10) rfl rfl | exact At.own' (i:=11) rfl rfl | exact At.own' (i:=12) rfl rfl) rfl ?_
 refine TL.fieldAddr hF rfl rfl ?_
 refine TL.load hF rfl (by first | exact At.own' (i:=0) rfl rfl | exact At.own' (i:=1) rfl rfl | exact At.own' (i:=2) rfl rfl | exact At.own' (i:=3) rfl rfl | exact At.own' (i:=4) rfl rfl | exact At.own' (i:=5) rfl rfl | exact At.own' (i:=6) rfl rfl | exact At.own' (i:=7) rfl rfl | exact At.own' (i:=8) rfl rfl | exact At.own' (i:=9) rfl rfl | exact At.own' (i:=10) rfl rfl | exact At.own' (i:=11) rfl rfl | exact At.own' (i:=12) rfl rfl) rfl ?_
 refine TL.bin hF rfl rfl rfl rfl ?_
 refine TL.nil ?_
 refine TQ.then_n ?_
 first | refine T.cond_d rfl (fun ht9=>?_) (fun ht9=>?_) | refine T.cond _ rfl (fun ht9=>?_) (fun ht9=>?_)
 ·refine T.seq ?_
  refine T.region ?_
  refine TL.fieldAddr hF rfl rfl ?_
  refine TL.load hF rfl (by first | exact At.own' (i:=0) rfl rfl | exact At.own' (i:=1) rfl rfl | exact At.own' (i:=2) rfl rfl | exact At.own' (i:=3) rfl rfl | exact At.own' (i:=4) rfl rfl | exact At.own' (i:=5) rfl rfl | exact At.own' (i:=6) rfl rfl | exact At.own' (i:=7) rfl rfl | exact At.own' (i:=8) rfl rfl | exact At.own' (i:=9) rfl rfl | exact At.own' (i:=10) rfl rfl | exact At.own' (i:=11) rfl rfl | exact At.own' (i:=12) rfl rfl) rfl ?_
  refine TL.fieldAddr hF rfl rfl ?_
  refine TL.load hF rfl (by first | exact At.own' (i:=0) rfl rfl | exact At.own' (i:=1) rfl rfl | exact At.own' (i:=2) rfl rfl | exact At.own' (i:=3) rfl rfl | exact At.own' (i:=4) rfl rfl | exact At.own' (i:=5) rfl rfl | exact At.own' (i:=6) rfl rfl | exact At.own' (i:=7) rfl rfl | exact At.own' (i:=8) rfl rfl | exact At.own' (i:=9) rfl rfl | exact At.own' (i:=10) rfl rfl | exact At.own' (i:=11) rfl rfl | exact At.own' (i:=12) rfl rfl) rfl ?_
  refine TL.sub hF rfl rfl (by unfold SmK at hx hy; omega) (by unfold SmK at hx hy; omega) rfl ?_
  refine TL.assign hF rfl rfl ?_
  refine TL.nil ?_
  refine TQ.then_n ?_
  refine T.ret ?_
  refine TQ.then_r ?_
  refine TQ.rets [4] _ rfl rfl rfl ?_
  show Value.int .i64 _=_
  unfold cfK
  rw [if_pos ht9]
 ·refine T.skip ?_
  refine TQ.then_n ?_
  refine T.seq ?_
  refine T.region ?_
  refine TL.fieldAddr hF rfl rfl ?_
  refine TL.load hF rfl (by first | exact At.own' (i:=0) rfl rfl | exact At.own' (i:=1) rfl rfl | exact At.own' (i:=2) rfl rfl | exact At.own' (i:=3) rfl rfl | exact At.own' (i:=4) rfl rfl | exact At.own' (i:=5) rfl rfl | exact At.own' (i:=6) rfl rfl | exact At.own' (i:=7) rfl rfl | exact At.own' (i:=8) rfl rfl | exact At.own' (i:=9) rfl rfl | exact At.own' (i:=10) rfl rfl | exact At.own' (i:=11) rfl rfl | exact At.own' (i:=12) rfl rfl) rfl ?_
  refine TL.fieldAddr hF rfl rfl ?_
  refine TL.load hF rfl (by first | exact At.own' (i:=0) rfl rfl | exact At.own' (i:=1) rfl rfl | exact At.own' (i:=2) rfl rfl | exact At.own' (i:=3) rfl rfl | exact At.own' (i:=4) rfl rfl | exact At.own' (i:=5) rfl rfl | exact At.own' (i:=6) rfl rfl | exact At.own' (i:=7) rfl rfl | exact At.own' (i:=8) rfl rfl | exact At.own' (i:=9) rfl rfl | exact At.own' (i:=10) rfl rfl | exact At.own' (i:=11) rfl rfl | exact At.own' (i:=12) rfl rfl) rfl ?_
  refine TL.sub hF rfl rfl (by unfold SmK at hx hy; omega) (by unfold SmK at hx hy; omega) rfl ?_
  refine TL.assign hF rfl rfl ?_
  refine TL.nil ?_
  refine TQ.then_n ?_
  refine T.ret ?_
  refine TQ.rets [4] _ rfl rfl rfl ?_
  show Value.int .i64 _=_
  unfold cfK
  rw [if_neg ht9]
set_option maxHeartbeats 2000000 in
theorem byKey_fn  :
  Rt Tryd.prog 42 [].toArray S w0 η (fun v η'=>v = .agg #[.func (.func 60) #[] #[]]∧η'=η):=by
 have hF:=open_wide
 refine Rt.of (fn:=Tryd.f42) Tryd.func42 rfl rfl ?_
 refine T.seq ?_
 refine T.region ?_
 refine TL.alloc hF rfl (fun b0=>?_)
 refine TL.nil ?_
 refine TQ.then_n ?_
 refine T.seq ?_
 refine T.region ?_
 refine TL.build hF rfl (r:=.agg #[.func (.func 60) #[] #[]]) (fun w=>by kernel_rfl) rfl ?_
 refine TL.storeAI hF [.func (.func 60) #[] #[]] 0 rfl rfl rfl rfl (by simp [Value.oneCell']) (by simp [Value.cells]) ?_
 refine TL.nil ?_
 refine TQ.then_n ?_
 refine T.ret ?_
 refine TQ.retC [.func (.func 60) #[] #[]] η rfl rfl rfl (own_list (i:=0) (cs:=[.func (.func 60) #[] #[]]) rfl) (by simp) ⟨rfl,rfl⟩
open Go.Sort
abbrev SK:={k:Key // SmK k}
instance :Inhabited SK:=⟨⟨(0,0),by unfold SmK; decide⟩⟩
def encK (x:SK):List Value:=kC x.1
theorem kLt_irrefl (k:Key):kLt k k=false:=by
 cases h:kLt k k with
 | false=>rfl
 | true=>rw [kLt_iff] at h; omega
theorem swoK:SWO (ltOf fun x y:SK=>cfK x.1 y.1):=by
 have e:∀ x y:SK,ltOf (fun x y:SK=>cfK x.1 y.1) x y=kLt x.1 y.1:=fun x y=>cfK_lt x.1 y.1
 refine ⟨fun x=>by rw [e,kLt_irrefl],fun x y z h1 h2=>?_,fun x y z h1 h2=>?_⟩
 ·rw [e,kLt_iff] at *; omega
 ·rw [e,← Bool.not_eq_true,kLt_iff] at *; omega
/-- Keys in order. -/
def upK (l:List Key):List Key:=l.mergeSort fun x y=>!kLt y x
theorem upK_len (l:List Key):(upK l).length=l.length:=List.length_mergeSort l
theorem mem_upK {l:List Key} {k:Key}:k∈upK l↔k∈l:=List.mem_mergeSort
theorem upK_up {l:List Key} (h:l.Nodup):KUp (upK l):=by
 have h1:=List.pairwise_mergeSort (le:=fun x y:Key=>!kLt y x) (fun a b c h1 h2=>by
  rw [Bool.not_eq_true',← Bool.not_eq_true,kLt_iff] at *; omega) (fun a b=>by
  rw [Bool.or_eq_true,Bool.not_eq_true',Bool.not_eq_true',← Bool.not_eq_true,← Bool.not_eq_true,kLt_iff,kLt_iff]; omega) l
 have h2:(upK l).Nodup:=(List.mergeSort_perm l _).nodup_iff.2 h
 refine (h1.and h2).imp ?_
 rintro a b ⟨h3,h4⟩
 rw [Bool.not_eq_true',← Bool.not_eq_true,kLt_iff] at h3
 have:¬ (a.1=b.1∧a.2=b.2):=fun q=>h4 (Prod.ext q.1 q.2)
 rw [kLt_iff]; omega
theorem merge_map {α β:Type} (f:α→β) (le:α→α→Bool) (le':β→β→Bool) (h:∀ x y,le x y=le' (f x) (f y)) (l:List α):(l.mergeSort le).map f=(l.map f).mergeSort le' :=
 List.map_mergeSort fun a _ b _=>h a b
def attK:∀ l:List Key,(∀ k∈l,SmK k)→List SK
 | [],_=>[]
 | x::r,h=>⟨x,h x (by simp)⟩::attK r fun k hk=>h k (by simp [hk])
theorem attK_map:∀ (l:List Key) (h:∀ k∈l,SmK k),(attK l h).map (·.1)=l
 | [],_=>rfl
 | x::r,h=>by rw [attK,List.map_cons,attK_map r]
theorem attK_flat (l:List SK):l.flatMap encK=(l.map (·.1)).flatMap kC:=by
 induction l with
 | nil=>rfl
 | cons x r ih=>rw [List.flatMap_cons,List.map_cons,List.flatMap_cons,ih]; rfl
theorem sortK_fn {b cap : Nat} {cur : Array Value} {e : TypeId} (d : List Key) (hs : ∀ k ∈ d, SmK k) (hcur : cur.toList.take (d.length * 2) = d.flatMap kC) (hsz : d.length * 2 ≤ cur.size) (hm : d.length < 1099511627776) (hb0 : 0 < d.length) :
  Rt Tryd.prog 59 [.slice (some ⟨b,0,none⟩) d.length cap,.func (.func 60) #[] #[]].toArray S w0 ([(b,.cells cur e (0,0))]::η)
   (fun _ η'=>∃ cur':Array Value,η'=[(b,.cells cur' e (0,0))]::η∧cur'.size=cur.size∧cur'.toList.take (d.length*2)=(upK d).flatMap kC):=by
 have hl:(attK d hs).length=d.length:=by rw [← List.length_map (f:=(·.1)),attK_map]
 have hfl:=attK_flat (attK d hs)
 rw [attK_map] at hfl
 have h:=sortQ_rt (S:=S) (w0:=w0) (η:=η) (e:=e) (cap:=cap) Go.Proofs.Tryd.sortK 2 (fun w=>Ag.eq (P:=Tryd.prog) (t:=25) w) (fun w=>Go.Sl.run_sizeOf (P:=Tryd.prog) (t:=25) w) encK (fun _=>rfl) (fun x=>kC1 x.1) (fun x y=>cfK x.1 y.1) swoK (fun x y h1 h2=>by
  have e:∀ x y:SK,ltOf (fun x y:SK=>cfK x.1 y.1) x y=kLt x.1 y.1:=fun x y=>cfK_lt x.1 y.1
  rw [e,← Bool.not_eq_true,kLt_iff] at h1 h2
  exact Subtype.ext (Prod.ext (by omega) (by omega))) 60 [] (b:=b) (cur:=cur) (attK d hs) (by rw [hl,hfl]; exact hcur) (by rw [hl]; exact hsz) (by rw [hl]; exact hm) (by rw [hl]; exact hb0)
  (fun W x y=>(cmpK_fn x.2 y.2).mono fun v η' hv=>hv)
 rw [hl] at h
 refine h.mono ?_
 rintro _ η' ⟨cur',h1,h2,h3⟩
 refine ⟨cur',h1,h2,?_⟩
 rw [h3,attK_flat]
 unfold upK
 rw [merge_map (le':=fun x y=>!kLt y x) _ _ (fun x y=>by rw [show ltOf (fun x y:SK=>cfK x.1 y.1) y x=kLt y.1 x.1 from cfK_lt y.1 x.1]),attK_map]
/-- A number that is small. -/
def SmI (n:Int):Prop:=-1099511627776<n∧n<1099511627776
set_option maxHeartbeats 2000000 in
theorem cmpI_fn {x y : Int} (hx : SmI x) (hy : SmI y) :
  Rt Tryd.prog 48 [.int .i64 x,.int .i64 y].toArray S w0 η (fun v _η'=>v = .int .i64 (x - y)):=by
 have hF:=open_wide
 refine Rt.of (fn:=Tryd.f48) Tryd.func48 rfl rfl ?_
 refine T.seq ?_
 refine T.region ?_
 refine TL.assign hF rfl rfl ?_
 refine TL.nil ?_
 refine TQ.then_n ?_
 refine T.seq ?_
 refine T.region ?_
 refine TL.move hF rfl rfl ?_
 refine TL.move hF rfl rfl ?_
 refine TL.sub hF rfl rfl (by unfold SmI at hx hy; omega) (by unfold SmI at hx hy; omega) rfl ?_
 refine TL.assign hF rfl rfl ?_
 refine TL.nil ?_
 refine TQ.then_n ?_
 refine T.ret ?_
 refine TQ.rets [4] _ rfl rfl rfl ?_
 rfl
abbrev SI:={n:Int // SmI n}
instance :Inhabited SI:=⟨⟨0,by unfold SmI; decide⟩⟩
def encI (x:SI):Value:=.int .i64 x.1
theorem swoI:SWO (ltOf fun x y:SI=>x.1 - y.1):=by
 have e:∀ x y:SI,ltOf (fun x y:SI=>x.1 - y.1) x y=decide (x.1<y.1):=fun x y=>by unfold ltOf; dsimp only; rw [Bool.eq_iff_iff,decide_eq_true_eq,decide_eq_true_eq]; omega
 refine ⟨fun x=>by rw [e]; simp,fun x y z h1 h2=>?_,fun x y z h1 h2=>?_⟩
 ·rw [e,decide_eq_true_eq] at *; omega
 ·rw [e,decide_eq_false_iff_not] at *; omega
def upI (l:List Int):List Int:=l.mergeSort fun x y=>decide (x≤y)
theorem upI_len (l:List Int):(upI l).length=l.length:=List.length_mergeSort l
theorem mem_upI {l:List Int} {k:Int}:k∈upI l↔k∈l:=List.mem_mergeSort
theorem upI_up {l:List Int} (h:l.Nodup):(upI l).Pairwise (· < ·):=by
 have h1:=List.pairwise_mergeSort (le:=fun x y:Int=>decide (x≤y)) (fun a b c h1 h2=>by simp only [decide_eq_true_eq] at *; omega) (fun a b=>by simp only [Bool.or_eq_true,decide_eq_true_eq]; omega) l
 have h2:(upI l).Nodup:=(List.mergeSort_perm l _).nodup_iff.2 h
 refine (h1.and h2).imp ?_
 rintro a b ⟨h3,h4⟩
 have:=of_decide_eq_true h3; omega
def attI:∀ l:List Int,(∀ k∈l,SmI k)→List SI
 | [],_=>[]
 | x::r,h=>⟨x,h x (by simp)⟩::attI r fun k hk=>h k (by simp [hk])
theorem attI_map:∀ (l:List Int) (h:∀ k∈l,SmI k),(attI l h).map (·.1)=l
 | [],_=>rfl
 | x::r,h=>by rw [attI,List.map_cons,attI_map r]
theorem attI_ints (l:List SI):l.map encI=ints (l.map (·.1)):=by unfold ints; rw [List.map_map]; rfl
theorem sortI_fn {b cap : Nat} {cur : Array Value} {e : TypeId} (d : List Int) (hs : ∀ k ∈ d, SmI k) (hcur : cur.toList.take d.length = ints d) (hsz : d.length ≤ cur.size) (hm : d.length < 1099511627776) :
  Rt Tryd.prog 61 [.slice (some ⟨b,0,none⟩) d.length cap,.func (.func 48) #[] #[]].toArray S w0 ([(b,.cells cur e (0,0))]::η)
   (fun _ η'=>∃ cur':Array Value,η'=[(b,.cells cur' e (0,0))]::η∧cur'.size=cur.size∧cur'.toList.take d.length=ints (upI d)):=by
 have hl:(attI d hs).length=d.length:=by rw [← List.length_map (f:=(·.1)),attI_map]
 have hfl:=attI_ints (attI d hs)
 rw [attI_map] at hfl
 have h:=sort1_rt (S:=S) (w0:=w0) (η:=η) (e:=e) (cap:=cap) Go.Proofs.Tryd.sortI encI (fun _=>rfl) (fun x y=>x.1 - y.1) swoI (fun x y h1 h2=>by
  unfold ltOf at h1 h2
  dsimp only at h1 h2
  rw [decide_eq_false_iff_not] at h1 h2
  exact Subtype.ext (by omega)) 48 [] (b:=b) (cur:=cur) (attI d hs) (by rw [hl,hfl]; exact hcur) (by rw [hl]; exact hsz) (by rw [hl]; exact hm)
  (fun W x y=>(cmpI_fn x.2 y.2).mono fun v η' hv=>hv)
 rw [hl] at h
 refine h.mono ?_
 rintro _ η' ⟨cur',h1,h2,h3⟩
 refine ⟨cur',h1,h2,?_⟩
 rw [h3,attI_ints]
 unfold upI
 rw [merge_map (le':=fun x y:Int=>decide (x≤y)) _ _ (fun x y=>by unfold ltOf; dsimp only; rw [Bool.eq_iff_iff,Bool.not_eq_true',decide_eq_false_iff_not,decide_eq_true_eq]; omega),attI_map]
end Go.Proofs.YtdiacobmhkmljaaDoor
/- Lists, put together and sorted. -/
namespace Go.Proofs.YtdiacobmhkmljaaDoor
open Go.Sl
variable {S:Nat→Prop} {w0:World} {η:Heap}
/-! Lists of lists, of elements of several cells -/
section
variable {α:Type}
abbrev GH (α:Type):=Option Addr × List α × Nat
def ghc (p:GH α):Value:=.slice p.1 p.2.1.length p.2.2
structure GL (enc:α→List Value) (S:Nat→Prop) (w0:World) (η:Heap) (a:Option Addr) (ps:List (GH α)):Prop where
 row:Row S w0 η a (ps.map ghc)
 item:∀ p∈ps,Row S w0 η p.1 (p.2.1.flatMap enc)
variable {enc:α→List Value}
theorem GL.at {a:Option Addr} {ps:List (GH α)} (h:GL enc S w0 η a ps) {i:Nat} (hi:i<ps.length):At S w0 η (sAt a (i*1)) (ghc ps[i]):=by
 rw [Nat.mul_one]; exact h.row.cell i _ (by simp [hi])
theorem GL.ad {a:Option Addr} {ps:List (GH α)} (h:GL enc S w0 η a ps) {i:Nat} (hi:i<ps.length):∃ ad,a=some ad∧ad.spot=none:=h.row.adi (i:=i) (by simpa using hi)
theorem GL.it {a:Option Addr} {ps:List (GH α)} (h:GL enc S w0 η a ps) {i:Nat} (hi:i<ps.length):Row S w0 η ps[i].1 (ps[i].2.1.flatMap enc):=h.item _ (List.getElem_mem hi)
theorem GL.up {η':Heap} {a:Option Addr} {ps:List (GH α)} (h:GL enc S w0 η a ps) (hs:∀ x∈η,x∈η'):GL enc S w0 η' a ps:=⟨h.row.up hs,fun p hp=>(h.item p hp).up hs⟩
def catG (ps:List (GH α)) (k:Nat):List α:=((ps.map (·.2.1)).take k).flatten
theorem catG_succ {ps:List (GH α)} {k:Nat} (h:k<ps.length):catG ps (k+1)=catG ps k++ps[k].2.1:=by
 unfold catG
 rw [List.take_succ_eq_append_getElem (by simpa using h),List.flatten_append]; simp
theorem catG_le {ps:List (GH α)}:∀ {k:Nat},k≤ps.length→(catG ps k).length≤(catG ps ps.length).length:=fun {k} h=>by
 unfold catG
 conv=>rhs; rw [List.take_of_length_le (by simp),← List.take_append_drop k (ps.map (·.2.1))]
 rw [List.flatten_append,List.length_append]; omega
theorem flat_len {sz:Nat} (he:∀ x,(enc x).length=sz) (l:List α):(l.flatMap enc).length=l.length*sz:=by
 induction l with
 | nil=>simp
 | cons x r ih=>rw [List.flatMap_cons,List.length_append,he,ih,List.length_cons,Nat.add_mul]; omega
def jcG (enc:α→List Value) (sz:Nat) (ps:List (GH α)) (k:Nat):List Value:=(catG ps k).flatMap enc++List.replicate (((catG ps ps.length).length - (catG ps k).length)*sz) (.int .i64 0)
theorem jcG_len {sz:Nat} (he:∀ x,(enc x).length=sz) {ps:List (GH α)} {k:Nat} (h:k≤ps.length):(jcG enc sz ps k).length=(catG ps ps.length).length*sz:=by
 have:=catG_le h
 unfold jcG; rw [List.length_append,flat_len he,List.length_replicate,← Nat.add_mul]; congr 1; omega
theorem jcG_step {sz:Nat} (he:∀ x,(enc x).length=sz) {ps:List (GH α)} {k:Nat} (h:k<ps.length):(jcG enc sz ps k).take ((catG ps k).length*sz)++ps[k].2.1.flatMap enc++(jcG enc sz ps k).drop ((catG ps k).length*sz+ps[k].2.1.length*sz)=jcG enc sz ps (k+1):=by
 have e:=catG_succ h
 have e2:=congrArg List.length e
 rw [List.length_append] at e2
 have hl:=flat_len he (catG ps k)
 unfold jcG
 rw [List.take_append_of_le_length (by rw [hl]; exact Nat.le_refl _),List.take_of_length_le (by rw [hl]; exact Nat.le_refl _),List.drop_append,List.drop_of_length_le (by rw [hl]; omega),List.nil_append,e,List.flatMap_append,← e,e2]
 congr 1
 rw [List.drop_replicate,hl]
 congr 1
 rw [Nat.sub_mul,Nat.sub_mul,Nat.add_mul]; omega
end
theorem zfill2 (n:Nat):((Array.range n).map fun i=>(#[Value.int .i64 0,Value.int .i64 0])[i % 2]!)=(List.replicate n (Value.int .i64 0)).toArray:=by
 apply Array.ext
 ·simp
 ·intro i h1 h2
  simp only [Array.getElem_map,Array.getElem_range,List.getElem_toArray,List.getElem_replicate]
  have:i % 2<2:=Nat.mod_lt _ (by decide)
  rcases Nat.lt_or_ge (i % 2) 1 with h | h
  ·rw [show i % 2=0 by omega]; rfl
  ·rw [show i % 2=1 by omega]; rfl
def encZ (n:Int):List Value:=[.int .i64 n]
theorem encZ_len (n:Int):(encZ n).length=1:=rfl
theorem encZ_ints (l:List Int):l.flatMap encZ=ints l:=by
 induction l with
 | nil=>rfl
 | cons x r ih=>rw [List.flatMap_cons,ih]; rfl
theorem encZ1 (x:Int):∀ v∈encZ x,v.oneCell'=true:=by intro v hv; rw [List.mem_singleton.1 hv]; rfl
theorem flat1c {α:Type} {enc:α→List Value} (h:∀ x,∀ v∈enc x,v.oneCell'=true) (l:List α):∀ v∈l.flatMap enc,v.oneCell'=true:=by
 intro v hv
 obtain ⟨x,_,hx⟩:=List.mem_flatMap.1 hv
 exact h x v hx
theorem row_take {b n:Nat} {cur:Array Value} {e:TypeId} {cs:List Value} (h:cur.toList.take n=cs) (hn:cs.length=n):Row S w0 [[(b,Obj.cells cur e (0,0))]] (some ⟨b,0,none⟩) cs:=by
 refine ⟨fun _=>⟨_,rfl,rfl⟩,fun i v hi=>?_⟩
 have hin:i<n:=by rw [← hn]; exact (List.getElem?_eq_some_iff.1 hi).1
 have h2:cur[i]?=some v:=by
  rw [← h,List.getElem?_take_of_lt hin] at hi
  simpa using hi
 have:sAt (some ⟨b,0,none⟩) i=⟨b,0+i,none⟩:=by simp [sAt]
 rw [this,Nat.zero_add]
 exact own_mem (List.mem_singleton.2 rfl) h2
set_option maxHeartbeats 2000000 in
theorem sortedKeys_fn {a : Option Addr} {ps : List (GH Key)} {c : Nat} (hx : GL kC S w0 η a ps) (hl : ps.length < 2 ^ 63) (hN : (catG ps ps.length).length < 1073741824) (hsm : ∀ k ∈ catG ps ps.length, SmK k) :
  Rt Tryd.prog 41 [.agg #[.func (.func 60) #[] #[]],.slice a ps.length c].toArray S w0 η (fun v η'=>∃ oa oc segs,v = .slice oa (upK (catG ps ps.length)).length oc∧Row S w0 segs oa ((upK (catG ps ps.length)).flatMap kC)∧η'=segs++η):=by
 have hF:=open_wide
 refine Rt.of (fn:=Tryd.f41) Tryd.func41 rfl rfl ?_
 refine T.seq ?_
 refine T.region ?_
 refine TL.box hF rfl rfl (fun b2=>?_)
 refine TL.assign hF rfl rfl ?_
 refine TL.nil ?_
 refine TQ.then_n ?_
 refine T.seq ?_
 refine T.region ?_
 refine TL.assign hF rfl rfl ?_
 refine TL.nil ?_
 refine TQ.then_n ?_
 refine T.seq ?_
 refine T.seq ?_
 refine T.region ?_
 refine TL.move hF rfl rfl ?_
 refine TL.len hF rfl rfl ?_
 refine TL.move hF rfl rfl ?_
 refine TL.nil ?_
 refine TQ.then_n ?_
 refine T.block ?_
 refine T.loop (ι:=Nat) (fun k=>k≤ps.length) (fun k=>[(1,.slice a ps.length c),(2,ptr b2),(4,.slice none 0 0),(5,(.int .i64 ((catG ps k).length:Int))),(12,.slice a ps.length c),(13,.int .i64 (ps.length:Int)),(14,.int .i64 (k:Int))]) (fun _=>[(b2,Obj.cells #[.func (.func 60) #[] #[]] 97 (0,0))]::η) (fun k=>ps.length - k) 0 (Nat.zero_le _) ⟨rfl,rfl,rfl,rfl,rfl,rfl,rfl,trivial⟩ rfl ?_
 intro k hk
 refine T.seq ?_
 refine T.region ?_
 refine TL.bin hF rfl rfl rfl rfl ?_
 refine TL.nil ?_
 refine TQ.then_n ?_
 refine T.seq ?_
 first | refine T.cond_d rfl (fun ht15=>?_) (fun ht15=>?_) | refine T.cond _ rfl (fun ht15=>?_) (fun ht15=>?_)
 ·refine T.skip ?_
  refine TQ.then_n ?_
  refine T.seq ?_
  refine T.block ?_
  refine T.seq ?_
  refine T.region ?_
  have hkl:k<ps.length:=by have h:(k:Int)<(ps.length:Int):=ht15; omega
  have hcs:=congrArg List.length (catG_succ hkl)
  rw [List.length_append] at hcs
  have hcl:=catG_le (k:=k+1) hkl
  refine TL.indexAddr hF rfl rfl (hx.ad (i:=k) hkl) (by omega) (by omega) rfl ?_
  refine TL.load hF rfl ((hx.up upc).at (i:=k) hkl) rfl ?_
  refine TL.assign hF rfl rfl ?_
  refine TL.nil ?_
  refine TQ.then_n ?_
  refine T.region ?_
  refine TL.move hF rfl rfl ?_
  refine TL.move hF rfl rfl ?_
  refine TL.len hF rfl rfl ?_
  refine TL.add hF rfl rfl (by omega) (by omega) rfl ?_
  refine TL.assign hF rfl rfl ?_
  refine TL.nil ?_
  refine TQ.block_n ?_
  refine TQ.then_n ?_
  refine T.region ?_
  refine TL.add hF rfl rfl (by omega) (by omega) rfl ?_
  refine TL.move hF rfl rfl ?_
  refine TL.nil ?_
  refine TQ.round (k+1) hkl (by omega) ⟨rfl,rfl,rfl,congrArg (fun z=>some (Value.int .i64 z)) (by omega),rfl,rfl,rfl,trivial⟩ rfl
 ·refine T.exit ?_
  refine TQ.then_x ?_
  refine TQ.then_x ?_
  refine TQ.block_x ?_
  refine TQ.then_n ?_
  refine T.seq ?_
  refine T.seq ?_
  refine T.region ?_
  have hkn:k=ps.length:=by have h:¬ (k:Int)<(ps.length:Int):=ht15; omega
  subst hkn
  refine TL.move hF rfl rfl ?_
  refine TL.bin hF rfl rfl rfl rfl ?_
  refine TL.nil ?_
  refine TQ.then_n ?_
  first | refine T.cond_d rfl (fun ht24=>?_) (fun ht24=>?_) | refine T.cond _ rfl (fun ht24=>?_) (fun ht24=>?_)
  ·refine T.seq ?_
   refine T.region ?_
   refine TL.assign hF rfl rfl ?_
   refine TL.nil ?_
   refine TQ.then_n ?_
   refine T.ret ?_
   refine TQ.then_r ?_
   have hz:(catG ps ps.length).length=0:=by omega
   refine TQ.pop ?_
   refine TQ.rets [4] _ rfl rfl rfl ?_
   have hz2:catG ps ps.length=[]:=List.eq_nil_of_length_eq_zero hz
   refine ⟨none,0,[],?_,?_,rfl⟩
   ·rw [upK_len,hz2]; rfl
   ·rw [hz2]; exact ⟨fun h=>by simp [upK] at h,fun i v h=>by simp [upK] at h⟩
  ·refine T.skip ?_
   refine TQ.then_n ?_
   refine T.seq ?_
   refine T.region ?_
   refine TL.move hF rfl rfl ?_
   refine TL.makeSliceN hF (k:=(catG ps ps.length).length) rfl rfl (List.replicate ((catG ps ps.length).length*2) (.int .i64 0)) (by exact zfill2 _) (by omega) (by decide) (by omega) (by omega) rfl (fun ob=>?_)
   refine TL.assign hF rfl rfl ?_
   refine TL.nil ?_
   refine TQ.then_n ?_
   refine T.seq ?_
   refine T.region ?_
   refine TL.assign hF rfl rfl ?_
   refine TL.nil ?_
   refine TQ.then_n ?_
   refine T.seq ?_
   refine T.seq ?_
   refine T.region ?_
   refine TL.move hF rfl rfl ?_
   refine TL.len hF rfl rfl ?_
   refine TL.move hF rfl rfl ?_
   refine TL.nil ?_
   refine TQ.then_n ?_
   refine T.block ?_
   refine T.loop (ι:=Nat) (fun k=>k≤ps.length) (fun k=>[(2,ptr b2),(4,.slice none 0 0),(8,.slice (some ⟨ob,0,none⟩) (catG ps ps.length).length (catG ps ps.length).length),(9,(.int .i64 ((catG ps k).length:Int))),(27,.slice a ps.length c),(28,.int .i64 (ps.length:Int)),(29,.int .i64 (k:Int))]) (fun k=>[(ob,Obj.cells (jcG kC 2 ps k).toArray 25 (0,0))]::[(b2,Obj.cells #[.func (.func 60) #[] #[]] 97 (0,0))]::η) (fun k=>ps.length - k) 0 (Nat.zero_le _) ⟨rfl,rfl,rfl,rfl,rfl,rfl,rfl,trivial⟩ (by simp [jcG,catG]) ?_
   intro k hk
   refine T.seq ?_
   refine T.region ?_
   refine TL.bin hF rfl rfl rfl rfl ?_
   refine TL.nil ?_
   refine TQ.then_n ?_
   refine T.seq ?_
   first | refine T.cond_d rfl (fun ht30=>?_) (fun ht30=>?_) | refine T.cond _ rfl (fun ht30=>?_) (fun ht30=>?_)
   ·refine T.skip ?_
    refine TQ.then_n ?_
    refine T.seq ?_
    refine T.block ?_
    refine T.seq ?_
    refine T.region ?_
    have hkl:k<ps.length:=by have h:(k:Int)<(ps.length:Int):=ht30; omega
    have hcs:=congrArg List.length (catG_succ hkl)
    rw [List.length_append] at hcs
    have hcl:=catG_le (k:=k+1) hkl
    have hjl:=jcG_len (enc:=kC) kC_len hk
    refine TL.indexAddr hF rfl rfl (hx.ad (i:=k) hkl) (by omega) (by omega) rfl ?_
    refine TL.load hF rfl ((hx.up upc).up upc |>.at (i:=k) hkl) rfl ?_
    refine TL.assign hF rfl rfl ?_
    refine TL.nil ?_
    refine TQ.then_n ?_
    refine T.region ?_
    refine TL.move hF rfl rfl ?_
    refine TL.move hF rfl rfl ?_
    refine TL.move hF rfl rfl ?_
    refine TL.slice hF (i:=(catG ps k).length) (j:=(catG ps ps.length).length) rfl rfl rfl (by omega) (by omega) rfl ?_
    rw [show (if (catG ps ps.length).length=(catG ps k).length then (some ⟨ob,0,none⟩:Option Addr) else Option.map (fun x:Addr=>x.add ((catG ps k).length*2)) (some ⟨ob,0,none⟩))=some ⟨ob,(if (catG ps ps.length).length=(catG ps k).length then 0 else (catG ps k).length*2),none⟩ by
     split
     ·rfl
     ·simp only [Option.map_some,Addr.add]; split <;> simp_all]
    refine TL.move hF rfl rfl ?_
    refine TL.copy hF 0 (cs:=jcG kC 2 ps k) (e':=25) (k:=ps[k].2.1.length) (o:=(if (catG ps ps.length).length=(catG ps k).length then 0 else (catG ps k).length*2)) (m:=ps[k].2.1.length) (dl:=(catG ps ps.length).length - (catG ps k).length) (dc:=(catG ps ps.length).length - (catG ps k).length) (ps[k].2.1.flatMap kC) (jcG kC 2 ps (k+1)) rfl rfl rfl (by omega) ((hx.up upc).up upc |>.it hkl) (flat_len kC_len _) (flat1c kC1 _) (by split <;> omega) ?_ rfl ?_
    ·by_cases hq:(catG ps ps.length).length=(catG ps k).length
     ·rw [if_pos hq]
      have h0:ps[k].2.1=[]:=List.eq_nil_of_length_eq_zero (by omega)
      have hst:=jcG_step (enc:=kC) (sz:=2) kC_len hkl
      rw [h0] at hst ⊢
      simp only [List.flatMap_nil,List.length_nil,Nat.zero_mul,Nat.add_zero,List.append_nil,List.take_append_drop] at hst ⊢
      rw [← hst]
      all_goals simp
     ·rw [if_neg hq]; exact jcG_step kC_len hkl
    refine TL.add hF rfl rfl (by omega) (by omega) rfl ?_
    refine TL.assign hF rfl rfl ?_
    refine TL.nil ?_
    refine TQ.block_n ?_
    refine TQ.then_n ?_
    refine T.region ?_
    refine TL.add hF rfl rfl (by omega) (by omega) rfl ?_
    refine TL.move hF rfl rfl ?_
    refine TL.nil ?_
    refine TQ.round (k+1) hkl (by omega) ⟨rfl,rfl,rfl,congrArg (fun z=>some (Value.int .i64 z)) (by omega),rfl,rfl,rfl,trivial⟩ rfl
   ·refine T.exit ?_
    refine TQ.then_x ?_
    refine TQ.then_x ?_
    refine TQ.block_x ?_
    refine TQ.then_n ?_
    refine T.seq ?_
    refine T.region ?_
    refine TL.move hF rfl rfl ?_
    have hkn:k=ps.length:=by have h:¬ (k:Int)<(ps.length:Int):=ht30; omega
    subst hkn
    have hjn:jcG kC 2 ps ps.length=(catG ps ps.length).flatMap kC:=by unfold jcG; simp
    rw [hjn]
    refine TL.fieldAddr hF rfl rfl ?_
    refine TL.load hF rfl (own_mem (cs:=#[.func (.func 60) #[] #[]]) (e:=97) (fz:=(0,0)) (by simp) rfl) rfl ?_
    have hjs:((catG ps ps.length).flatMap kC).toArray.toList.take ((catG ps ps.length).length*2)=(catG ps ps.length).flatMap kC:=by
     rw [List.take_of_length_le (by simp [flat_len kC_len])]
    refine TL.call hF (sortK_fn (catG ps ps.length) hsm hjs (by simp [flat_len kC_len]) (by omega) (by omega)) rfl rfl ?_
    rintro _ _ ⟨cur',rfl,h2,h3⟩
    refine TL.nil ?_
    refine TQ.then_n ?_
    refine T.seq ?_
    refine T.region ?_
    refine TL.move hF rfl rfl ?_
    refine TL.assign hF rfl rfl ?_
    refine TL.nil ?_
    refine TQ.then_n ?_
    refine T.ret ?_
    refine TQ.hperm (([(b2,Obj.cells #[.func (.func 60) #[] #[]] 97 (0,0))])::[(ob,Obj.cells cur' 25 (0,0))]::η) (List.Perm.swap _ _ _) ?_
    refine TQ.pop ?_
    refine TQ.rets [4] _ rfl rfl rfl ?_
    refine ⟨some ⟨ob,0,none⟩,(catG ps ps.length).length,[[(ob,Obj.cells cur' 25 (0,0))]],by rw [upK_len]; rfl,?_,rfl⟩
    
    have hul:=upK_len (catG ps ps.length)
    exact row_take h3 (by rw [flat_len kC_len,hul])
set_option maxHeartbeats 2000000 in
theorem sortedInts_fn {a : Option Addr} {ps : List (GH Int)} {c : Nat} (hx : GL encZ S w0 η a ps) (hl : ps.length < 2 ^ 63) (hN : (catG ps ps.length).length < 1073741824) (hsm : ∀ k ∈ catG ps ps.length, SmI k) :
  Rt Tryd.prog 47 [.agg #[.func (.func 48) #[] #[]],.slice a ps.length c].toArray S w0 η (fun v η'=>∃ oa oc segs,v = .slice oa (upI (catG ps ps.length)).length oc∧Row S w0 segs oa ((upI (catG ps ps.length)).flatMap encZ)∧η'=segs++η):=by
 have hF:=open_wide
 refine Rt.of (fn:=Tryd.f47) Tryd.func47 rfl rfl ?_
 refine T.seq ?_
 refine T.region ?_
 refine TL.box hF rfl rfl (fun b2=>?_)
 refine TL.assign hF rfl rfl ?_
 refine TL.nil ?_
 refine TQ.then_n ?_
 refine T.seq ?_
 refine T.region ?_
 refine TL.assign hF rfl rfl ?_
 refine TL.nil ?_
 refine TQ.then_n ?_
 refine T.seq ?_
 refine T.seq ?_
 refine T.region ?_
 refine TL.move hF rfl rfl ?_
 refine TL.len hF rfl rfl ?_
 refine TL.move hF rfl rfl ?_
 refine TL.nil ?_
 refine TQ.then_n ?_
 refine T.block ?_
 refine T.loop (ι:=Nat) (fun k=>k≤ps.length) (fun k=>[(1,.slice a ps.length c),(2,ptr b2),(4,.slice none 0 0),(5,(.int .i64 ((catG ps k).length:Int))),(12,.slice a ps.length c),(13,.int .i64 (ps.length:Int)),(14,.int .i64 (k:Int))]) (fun _=>[(b2,Obj.cells #[.func (.func 48) #[] #[]] 105 (0,0))]::η) (fun k=>ps.length - k) 0 (Nat.zero_le _) ⟨rfl,rfl,rfl,rfl,rfl,rfl,rfl,trivial⟩ rfl ?_
 intro k hk
 refine T.seq ?_
 refine T.region ?_
 refine TL.bin hF rfl rfl rfl rfl ?_
 refine TL.nil ?_
 refine TQ.then_n ?_
 refine T.seq ?_
 first | refine T.cond_d rfl (fun ht15=>?_) (fun ht15=>?_) | refine T.cond _ rfl (fun ht15=>?_) (fun ht15=>?_)
 ·refine T.skip ?_
  refine TQ.then_n ?_
  refine T.seq ?_
  refine T.block ?_
  refine T.seq ?_
  refine T.region ?_
  have hkl:k<ps.length:=by have h:(k:Int)<(ps.length:Int):=ht15; omega
  have hcs:=congrArg List.length (catG_succ hkl)
  rw [List.length_append] at hcs
  have hcl:=catG_le (k:=k+1) hkl
  refine TL.indexAddr hF rfl rfl (hx.ad (i:=k) hkl) (by omega) (by omega) rfl ?_
  refine TL.load hF rfl ((hx.up upc).at (i:=k) hkl) rfl ?_
  refine TL.assign hF rfl rfl ?_
  refine TL.nil ?_
  refine TQ.then_n ?_
  refine T.region ?_
  refine TL.move hF rfl rfl ?_
  refine TL.move hF rfl rfl ?_
  refine TL.len hF rfl rfl ?_
  refine TL.add hF rfl rfl (by omega) (by omega) rfl ?_
  refine TL.assign hF rfl rfl ?_
  refine TL.nil ?_
  refine TQ.block_n ?_
  refine TQ.then_n ?_
  refine T.region ?_
  refine TL.add hF rfl rfl (by omega) (by omega) rfl ?_
  refine TL.move hF rfl rfl ?_
  refine TL.nil ?_
  refine TQ.round (k+1) hkl (by omega) ⟨rfl,rfl,rfl,congrArg (fun z=>some (Value.int .i64 z)) (by omega),rfl,rfl,rfl,trivial⟩ rfl
 ·refine T.exit ?_
  refine TQ.then_x ?_
  refine TQ.then_x ?_
  refine TQ.block_x ?_
  refine TQ.then_n ?_
  refine T.seq ?_
  refine T.seq ?_
  refine T.region ?_
  have hkn:k=ps.length:=by have h:¬ (k:Int)<(ps.length:Int):=ht15; omega
  subst hkn
  refine TL.move hF rfl rfl ?_
  refine TL.bin hF rfl rfl rfl rfl ?_
  refine TL.nil ?_
  refine TQ.then_n ?_
  first | refine T.cond_d rfl (fun ht24=>?_) (fun ht24=>?_) | refine T.cond _ rfl (fun ht24=>?_) (fun ht24=>?_)
  ·refine T.seq ?_
   refine T.region ?_
   refine TL.assign hF rfl rfl ?_
   refine TL.nil ?_
   refine TQ.then_n ?_
   refine T.ret ?_
   refine TQ.then_r ?_
   have hz:(catG ps ps.length).length=0:=by omega
   refine TQ.pop ?_
   refine TQ.rets [4] _ rfl rfl rfl ?_
   have hz2:catG ps ps.length=[]:=List.eq_nil_of_length_eq_zero hz
   refine ⟨none,0,[],?_,?_,rfl⟩
   ·rw [upI_len,hz2]; rfl
   ·rw [hz2]; exact ⟨fun h=>by simp [upI] at h,fun i v h=>by simp [upI] at h⟩
  ·refine T.skip ?_
   refine TQ.then_n ?_
   refine T.seq ?_
   refine T.region ?_
   refine TL.move hF rfl rfl ?_
   refine TL.makeSlice hF (k:=(catG ps ps.length).length) rfl rfl rfl (by omega) (by omega) rfl (fun ob=>?_)
   refine TL.assign hF rfl rfl ?_
   refine TL.nil ?_
   refine TQ.then_n ?_
   refine T.seq ?_
   refine T.region ?_
   refine TL.assign hF rfl rfl ?_
   refine TL.nil ?_
   refine TQ.then_n ?_
   refine T.seq ?_
   refine T.seq ?_
   refine T.region ?_
   refine TL.move hF rfl rfl ?_
   refine TL.len hF rfl rfl ?_
   refine TL.move hF rfl rfl ?_
   refine TL.nil ?_
   refine TQ.then_n ?_
   refine T.block ?_
   refine T.loop (ι:=Nat) (fun k=>k≤ps.length) (fun k=>[(2,ptr b2),(4,.slice none 0 0),(8,.slice (some ⟨ob,0,none⟩) (catG ps ps.length).length (catG ps ps.length).length),(9,(.int .i64 ((catG ps k).length:Int))),(27,.slice a ps.length c),(28,.int .i64 (ps.length:Int)),(29,.int .i64 (k:Int))]) (fun k=>[(ob,Obj.cells (jcG encZ 1 ps k).toArray 3 (0,0))]::[(b2,Obj.cells #[.func (.func 48) #[] #[]] 105 (0,0))]::η) (fun k=>ps.length - k) 0 (Nat.zero_le _) ⟨rfl,rfl,rfl,rfl,rfl,rfl,rfl,trivial⟩ (by simp [jcG,catG]) ?_
   intro k hk
   refine T.seq ?_
   refine T.region ?_
   refine TL.bin hF rfl rfl rfl rfl ?_
   refine TL.nil ?_
   refine TQ.then_n ?_
   refine T.seq ?_
   first | refine T.cond_d rfl (fun ht30=>?_) (fun ht30=>?_) | refine T.cond _ rfl (fun ht30=>?_) (fun ht30=>?_)
   ·refine T.skip ?_
    refine TQ.then_n ?_
    refine T.seq ?_
    refine T.block ?_
    refine T.seq ?_
    refine T.region ?_
    have hkl:k<ps.length:=by have h:(k:Int)<(ps.length:Int):=ht30; omega
    have hcs:=congrArg List.length (catG_succ hkl)
    rw [List.length_append] at hcs
    have hcl:=catG_le (k:=k+1) hkl
    have hjl:=jcG_len (enc:=encZ) encZ_len hk
    refine TL.indexAddr hF rfl rfl (hx.ad (i:=k) hkl) (by omega) (by omega) rfl ?_
    refine TL.load hF rfl ((hx.up upc).up upc |>.at (i:=k) hkl) rfl ?_
    refine TL.assign hF rfl rfl ?_
    refine TL.nil ?_
    refine TQ.then_n ?_
    refine T.region ?_
    refine TL.move hF rfl rfl ?_
    refine TL.move hF rfl rfl ?_
    refine TL.move hF rfl rfl ?_
    refine TL.slice hF (i:=(catG ps k).length) (j:=(catG ps ps.length).length) rfl rfl rfl (by omega) (by omega) rfl ?_
    rw [show (if (catG ps ps.length).length=(catG ps k).length then (some ⟨ob,0,none⟩:Option Addr) else Option.map (fun x:Addr=>x.add ((catG ps k).length*1)) (some ⟨ob,0,none⟩))=some ⟨ob,(if (catG ps ps.length).length=(catG ps k).length then 0 else (catG ps k).length*1),none⟩ by
     split
     ·rfl
     ·simp only [Option.map_some,Addr.add]; split <;> simp_all]
    refine TL.move hF rfl rfl ?_
    refine TL.copy hF 0 (cs:=jcG encZ 1 ps k) (e':=3) (k:=ps[k].2.1.length) (o:=(if (catG ps ps.length).length=(catG ps k).length then 0 else (catG ps k).length*1)) (m:=ps[k].2.1.length) (dl:=(catG ps ps.length).length - (catG ps k).length) (dc:=(catG ps ps.length).length - (catG ps k).length) (ps[k].2.1.flatMap encZ) (jcG encZ 1 ps (k+1)) rfl rfl rfl (by omega) ((hx.up upc).up upc |>.it hkl) (flat_len encZ_len _) (flat1c encZ1 _) (by split <;> omega) ?_ rfl ?_
    ·by_cases hq:(catG ps ps.length).length=(catG ps k).length
     ·rw [if_pos hq]
      have h0:ps[k].2.1=[]:=List.eq_nil_of_length_eq_zero (by omega)
      have hst:=jcG_step (enc:=encZ) (sz:=1) encZ_len hkl
      rw [h0] at hst ⊢
      simp only [List.flatMap_nil,List.length_nil,Nat.zero_mul,Nat.add_zero,List.append_nil,List.take_append_drop] at hst ⊢
      rw [← hst]
      all_goals simp
     ·rw [if_neg hq]; exact jcG_step encZ_len hkl
    refine TL.add hF rfl rfl (by omega) (by omega) rfl ?_
    refine TL.assign hF rfl rfl ?_
    refine TL.nil ?_
    refine TQ.block_n ?_
    refine TQ.then_n ?_
    refine T.region ?_
    refine TL.add hF rfl rfl (by omega) (by omega) rfl ?_
    refine TL.move hF rfl rfl ?_
    refine TL.nil ?_
    refine TQ.round (k+1) hkl (by omega) ⟨rfl,rfl,rfl,congrArg (fun z=>some (Value.int .i64 z)) (by omega),rfl,rfl,rfl,trivial⟩ rfl
   ·refine T.exit ?_
    refine TQ.then_x ?_
    refine TQ.then_x ?_
    refine TQ.block_x ?_
    refine TQ.then_n ?_
    refine T.seq ?_
    refine T.region ?_
    refine TL.move hF rfl rfl ?_
    have hkn:k=ps.length:=by have h:¬ (k:Int)<(ps.length:Int):=ht30; omega
    subst hkn
    have hjn:jcG encZ 1 ps ps.length=(catG ps ps.length).flatMap encZ:=by unfold jcG; simp
    rw [hjn]
    refine TL.fieldAddr hF rfl rfl ?_
    refine TL.load hF rfl (own_mem (cs:=#[.func (.func 48) #[] #[]]) (e:=105) (fz:=(0,0)) (by simp) rfl) rfl ?_
    have hjs:((catG ps ps.length).flatMap encZ).toArray.toList.take (catG ps ps.length).length=ints (catG ps ps.length):=by
     rw [List.take_of_length_le (by simp [flat_len (enc:=encZ) (fun _=>rfl)]),← encZ_ints]
    refine TL.call hF (sortI_fn (catG ps ps.length) hsm hjs (by simp [flat_len (enc:=encZ) (fun _=>rfl)]) (by omega)) rfl rfl ?_
    rintro _ _ ⟨cur',rfl,h2,h3⟩
    refine TL.nil ?_
    refine TQ.then_n ?_
    refine T.seq ?_
    refine T.region ?_
    refine TL.move hF rfl rfl ?_
    refine TL.assign hF rfl rfl ?_
    refine TL.nil ?_
    refine TQ.then_n ?_
    refine T.ret ?_
    refine TQ.hperm (([(b2,Obj.cells #[.func (.func 48) #[] #[]] 105 (0,0))])::[(ob,Obj.cells cur' 3 (0,0))]::η) (List.Perm.swap _ _ _) ?_
    refine TQ.pop ?_
    refine TQ.rets [4] _ rfl rfl rfl ?_
    refine ⟨some ⟨ob,0,none⟩,(catG ps ps.length).length,[[(ob,Obj.cells cur' 3 (0,0))]],by rw [upI_len]; rfl,?_,rfl⟩
    rw [encZ_ints]
    have hul:=upI_len (catG ps ps.length)
    exact row_take h3 (by simp [ints,hul])
end Go.Proofs.YtdiacobmhkmljaaDoor
/- The keys of a map, in whatever order; collected; sorted. -/
namespace Go.Proofs.YtdiacobmhkmljaaDoor
open Go.Sl
variable {S:Nat→Prop} {w0:World} {η:Heap}
/-- Which keys an iterator over a map may yield. -/
def okM {α:Type} (K:α→Value) (ks:List α) (done:List α) (e:List Value) (done':List α):Prop:=∃ k,e=[K k]∧k∈ks∧k ∉ done∧done'=k::done
def fiM {α:Type} (ks:List α) (done:List α):Prop:=∀ k∈ks,k∈done
def CtxM (b1 mb:Nat) (t:TypeId) (es:Array MapEntry) (clock:Nat) (η:Heap):Prop:=[(b1,Obj.cells #[.map (some mb)] t (0,0))]∈η∧[(mb,.map es clock)]∈η
set_option maxHeartbeats 2000000 in
theorem iterK {b1 mb : Nat} {m : List (Key × Nat)} {es : Array MapEntry} {clock : Nat} (hm : MObj kV ptr m es clock) :
  IterX Tryd.prog 68 [] [ptr b1] (okM kV (m.map (·.1))) (fiM (m.map (·.1))) [] S w0 (CtxM b1 mb 90 es clock):=by
 intro yl J X η hC hY h0
 have hF:=open_wide
 refine Rt.of (fn:=Tryd.f68) Tryd.func68 rfl rfl ?_
 refine T.seq ?_
 refine T.region ?_
 refine TL.load hF rfl (own_mem (hC _ _ h0).1 rfl) rfl ?_
 refine TL.range hF rfl (hC _ _ h0).2 rfl (fun b5=>?_)
 refine TL.nil ?_
 refine TQ.then_n ?_
 refine T.block ?_
 refine T.loop (ι:=List Key × Array Nat × Heap) (fun i=>J i.1 i.2.2∧ItOk m es i.2.1 i.1∧i.1.Nodup∧∀ k∈i.1,k∈m.map (·.1)) (fun i=>[(0,.func (.yield yl) #[] #[]),(5,ptr b5)]) (fun i=>[(b5,Obj.mapIter (some mb) clock i.2.1 clock)]::i.2.2) (fun i=>(m.map (·.1)).length - i.1.length) ([],#[],η) ⟨h0,ItOk.start m es,List.nodup_nil,by simp⟩ ⟨rfl,rfl,trivial⟩ rfl ?_
 rintro ⟨done,seen,η1⟩ ⟨hJ,hit,hnd,hsub⟩
 dsimp only at hJ hit hnd hsub
 have hmb:[(mb,.map es clock)]∈[(b5,Obj.mapIter (some mb) clock seen clock)]::η1:=List.mem_cons_of_mem _ (hC _ _ hJ).2
 refine T.seq ?_
 refine T.region ?_
 refine TL.next hF 0 rfl rfl hmb hm hit rfl (fun hover=>?_) (fun p6 seen6 hp6 hnd6 hit6 hent6=>?_)
 ·refine TL.extract hF rfl rfl rfl ?_
  refine TL.nil ?_
  refine TQ.then_n ?_
  refine T.seq ?_
  refine T.cond_f rfl rfl ?_
  refine T.exit ?_
  refine TQ.then_x ?_
  refine TQ.then_x ?_
  refine TQ.block_x ?_
  refine TQ.norm ?_
  refine TQ.pop ?_
  refine TQ.rets [] _ rfl rfl rfl ?_
  refine .inl ⟨done,fun k hk=>?_,hJ⟩
  obtain ⟨p,hp,rfl⟩:=List.mem_map.1 hk
  exact hover p hp
 ·refine TL.extract hF rfl rfl rfl ?_
  refine TL.nil ?_
  refine TQ.then_n ?_
  refine T.seq ?_
  refine T.cond_t rfl rfl ?_
  refine T.skip ?_
  refine TQ.then_n ?_
  refine T.block ?_
  refine T.seq ?_
  refine T.region ?_
  refine TL.entry hF rfl (by simp) (List.mem_cons_of_mem _ (hC _ _ hJ).2) hm hent6 rfl ?_
  refine TL.extract hF rfl rfl rfl ?_
  refine TL.alloc hF rfl (fun b3=>?_)
  refine TL.storeAI hF [.int .i64 p6.1.1,.int .i64 p6.1.2] 0 rfl rfl rfl rfl (by simp [Value.oneCell']) (by simp [Value.cells]) ?_
  refine TL.nil ?_
  refine TQ.then_n ?_
  refine T.seq ?_
  refine T.region ?_
  refine TL.move hF rfl rfl ?_
  refine TL.loadA hF [.int .i64 p6.1.1,.int .i64 p6.1.2] rfl rfl (own_list (i:=0) rfl) rfl ?_
  refine TL.yield rfl rfl rfl (hY done _ (p6.1::done) [[(b3,Obj.cells #[.int .i64 p6.1.1,.int .i64 p6.1.2] 25 (0,0))],[(b5,Obj.mapIter (some mb) clock seen6 clock)]] η1 ⟨p6.1,rfl,List.mem_map_of_mem hp6,hnd6,rfl⟩ hJ) rfl (fun yb η2 hyb=>?_)
  obtain ⟨η3,rfl,hyb⟩:=hyb
  refine TL.not hF rfl rfl ?_
  refine TL.nil ?_
  refine TQ.then_n ?_
  refine T.cond _ rfl (fun ht13=>?_) (fun ht13=>?_)
  ·refine T.ret ?_
   refine TQ.block_r ?_
   refine TQ.then_r ?_
   refine TQ.block_r ?_
   have hyf:yb=false:=by simpa using ht13
   subst hyf
   rw [if_neg (by decide)] at hyb
   refine TQ.pop ?_
   refine TQ.pop ?_
   refine TQ.rets [] _ rfl rfl rfl ?_
   exact .inr hyb
  ·refine T.skip ?_
   refine TQ.block_n ?_
   have hyt:yb=true:=by simpa using ht13
   subst hyt
   rw [if_pos rfl] at hyb
   refine TQ.pop ?_
   have hlt:(p6.1::done).length≤(m.map (·.1)).length:=sub_len (List.nodup_cons.2 ⟨hnd6,hnd⟩) (fun k hk=>by
    rcases List.mem_cons.1 hk with rfl | hk
    ·exact List.mem_map_of_mem hp6
    ·exact hsub k hk)
   refine TQ.round (p6.1::done,seen6,η3) ⟨hyb,hit6,List.nodup_cons.2 ⟨hnd6,hnd⟩,fun k hk=>?_⟩ (by dsimp only; simp only [List.length_cons] at hlt ⊢; omega) ⟨rfl,rfl,trivial⟩ rfl
   rcases List.mem_cons.1 hk with rfl | hk
   ·exact List.mem_map_of_mem hp6
   ·exact hsub k hk
set_option maxHeartbeats 2000000 in
theorem keysFK {mb : Nat} :
  Rt Tryd.prog 58 [.map (some mb)].toArray S w0 η (fun v η'=>∃ b1,v = .func (.func 68) #[] #[ptr b1]∧η'=[(b1,Obj.cells #[.map (some mb)] 90 (0,0))]::η):=by
 have hF:=open_wide
 refine Rt.of (fn:=Tryd.f58) Tryd.func58 rfl rfl ?_
 refine T.seq ?_
 refine T.region ?_
 refine TL.box hF rfl rfl (fun b1=>?_)
 refine TL.assign hF rfl rfl ?_
 refine TL.nil ?_
 refine TQ.then_n ?_
 refine T.seq ?_
 refine T.region ?_
 refine TL.makeFunc hF rfl rfl rfl ?_
 refine TL.assign hF rfl rfl ?_
 refine TL.nil ?_
 refine TQ.then_n ?_
 refine T.ret ?_
 refine TQ.rets [2] _ rfl rfl rfl ?_
 exact ⟨b1,rfl,rfl⟩
set_option maxHeartbeats 2000000 in
theorem appendSeqK {R : Heap} {b1 mb : Nat} {m : List (Key × Nat)} {es : Array MapEntry} {clock : Nat} (hm : MObj kV ptr m es clock) (hl : m.length < 1073741824) (h1 : [(b1, Obj.cells #[.map (some mb)] 90 (0, 0))] ∈ R) (h2 : [(mb, .map es clock)] ∈ R) :
  Rt Tryd.prog 67 [.slice none 0 0,.func (.func 68) #[] #[ptr b1]].toArray S w0 R (fun v η'=>∃ (oa:Option Addr) (oc:Nat) (og:Seg) (ks:List Key),v = .slice oa ks.length oc∧OSl 25 2 (.slice oa ks.length oc) ks.length ((ks).flatMap kC) og∧ks.Nodup∧(∀ k,k∈ks↔k∈m.map (·.1))∧η'=og::R):=by
 have hF:=open_wide
 refine Rt.ofL (fn:=Tryd.f67) Tryd.func67 rfl rfl ?_
 refine T.seq ?_
 refine T.region ?_
 refine TL.box hF rfl rfl (fun b2=>?_)
 refine TL.assign hF rfl rfl ?_
 refine TL.nil ?_
 refine TQ.then_n ?_
 refine T.seq ?_
 refine T.seq ?_
 refine T.region ?_
 refine TL.move hF rfl rfl ?_
 refine TL.nil ?_
 refine TQ.then_n ?_
 refine T.block ?_
 refine T.hnil ?_
 refine T.pick [1,0] [[],_] rfl rfl rfl ?_
 refine T.rangeFuncX (fst:=[]) (cap:=[ptr b1]) rfl (iterK (b1:=b1) (mb:=mb) hm) (by
   rintro i e j ⟨k,rfl,_⟩; rfl) (by simp) (fun i η1=>∃ oa oc og,η1=[(b2,Obj.cells #[.slice oa i.length oc] 46 (0,0))]::og::R∧i.Nodup∧(∀ k∈i,k∈m.map (·.1))∧OSl 25 2 (.slice oa i.length oc) i.length ((i.reverse).flatMap kC) og) (fun _ _=>False) ⟨none,0,[],rfl,List.nodup_nil,by simp,OSl.nil _ _⟩ ?_ ?_ ?_ ?_
 ·rintro i _ tl ⟨oa,oc,og,rfl,_⟩
  exact ⟨by simp [h1],by simp [h2]⟩
 ·rintro l tl tl' i e j _ ⟨k,rfl,hk1,hk2,rfl⟩ ⟨oa,oc,og,rfl,hnd,hsub,ho⟩
  have hF:=open_round l
  have hil:i.length≤(m.map (·.1)).length:=sub_len hnd hsub
  rw [List.length_map] at hil
  refine T.region ?_
  refine TL.alloc hF rfl (fun b5=>?_)
  refine TL.storeAI hF [.int .i64 k.1,.int .i64 k.2] 0 rfl rfl rfl rfl (by simp [Value.oneCell']) (by simp [Value.cells]) ?_
  refine TL.nil ?_
  refine TQ.swapT ([(b5,Obj.cells #[.int .i64 k.1,.int .i64 k.2] 25 (0,0))]::[(b2,Obj.cells #[.slice oa i.length oc] 46 (0,0))]::og::R) rfl ?_
  refine T.block ?_
  refine T.region ?_
  refine TL.load hF rfl (own_mem (e:=46) (fz:=(0,0)) (cs:=#[.slice oa i.length oc]) (by simp) rfl) rfl ?_
  refine TL.loadA hF [.int .i64 k.1,.int .i64 k.2] rfl rfl (own_list (i:=0) rfl) rfl ?_
  refine TL.buildSlice hF rfl (cs:=#[.int .i64 k.1,.int .i64 k.2]) (e:=25) (fun w=>by kernel_rfl) rfl (fun b10=>?_)
  refine TL.append hF 3 rfl rfl rfl ho (row_own (cs:=[.int .i64 k.1,.int .i64 k.2]) (e:=25) (by simp)).src rfl rfl (by simp [Value.oneCell']) (by omega) (by omega) rfl (fun pa pc pg ph=>?_)
  refine TL.storeI hF 2 rfl rfl rfl rfl (by simp) ?_
  refine TL.nil ?_
  refine TQ.block_n ?_
  refine TQ.pop (TQ.pop ?_)
  refine TQ.rq_n ([(b2,Obj.cells #[.slice pa (i.length+1) pc] 46 (0,0))]::pg::R) rfl ⟨pa,pc,pg,rfl,List.nodup_cons.2 ⟨hk2,hnd⟩,fun x hx=>?_,?_⟩
  ·rcases List.mem_cons.1 hx with rfl | hx
   ·exact hk1
   ·exact hsub x hx
  ·rw [List.reverse_cons,List.flatMap_append]
   have:([k]:List Key).flatMap kC=kC k:=by simp
   rw [this]; exact ph
 ·rintro mk i _ hfi ⟨oa,oc,og,rfl,hnd,hsub,ho⟩
  refine TQ.block_n ?_
  refine TQ.then_n ?_
  refine T.seq ?_
  refine T.region ?_
  refine TL.load hF rfl (own_mem (e:=46) (fz:=(0,0)) (cs:=#[.slice oa i.length oc]) (by simp) rfl) rfl ?_
  refine TL.assign hF rfl rfl ?_
  refine TL.nil ?_
  refine TQ.then_n ?_
  refine T.ret ?_
  refine TQ.mark (i:=0) (.inl rfl) rfl ?_
  refine TQ.hsub (og::R) (List.Sublist.cons _ (List.sublist_cons_self _ _)) ?_
  refine TQ.retL0 [4] [_] rfl rfl rfl ⟨oa,oc,og,i.reverse,by rw [List.length_reverse]; rfl,by rw [List.length_reverse]; exact ho,(List.reverse_perm i).nodup_iff.2 hnd,fun k=>⟨fun hk=>hsub k (List.mem_reverse.1 hk),fun hk=>List.mem_reverse.2 (hfi k hk)⟩,rfl⟩
 ·rintro _ _ _ h; exact h.elim
set_option maxHeartbeats 2000000 in
theorem collectK {R : Heap} {b1 mb : Nat} {m : List (Key × Nat)} {es : Array MapEntry} {clock : Nat} (hm : MObj kV ptr m es clock) (hl : m.length < 1073741824) (h1 : [(b1, Obj.cells #[.map (some mb)] 90 (0, 0))] ∈ R) (h2 : [(mb, .map es clock)] ∈ R) :
  Rt Tryd.prog 57 [.func (.func 68) #[] #[ptr b1]].toArray S w0 R (fun v η'=>∃ (oa:Option Addr) (oc:Nat) (og:Seg) (ks:List Key),v = .slice oa ks.length oc∧OSl 25 2 (.slice oa ks.length oc) ks.length ((ks).flatMap kC) og∧ks.Nodup∧(∀ k,k∈ks↔k∈m.map (·.1))∧η'=og::R):=by
 have hF:=open_wide
 refine Rt.of (fn:=Tryd.f57) Tryd.func57 rfl rfl ?_
 refine T.seq ?_
 refine T.region ?_
 refine TL.assign hF rfl rfl ?_
 refine TL.nil ?_
 refine TQ.then_n ?_
 refine T.seq ?_
 refine T.region ?_
 refine TL.move hF rfl rfl ?_
 refine TL.call hF (appendSeqK hm hl h1 h2) rfl rfl ?_
 rintro _ _ ⟨oa,oc,og,ks,rfl,ho,hn,hk,rfl⟩
 refine TL.assign hF rfl rfl ?_
 refine TL.nil ?_
 refine TQ.then_n ?_
 refine T.ret ?_
 refine TQ.rets [2] _ rfl rfl rfl ?_
 exact ⟨oa,oc,og,ks,rfl,ho,hn,hk,rfl⟩
set_option maxHeartbeats 2000000 in
theorem iterI {b1 mb : Nat} {m : List (Int × Bool)} {es : Array MapEntry} {clock : Nat} (hm : MObj (Value.int .i64) Value.bool m es clock) :
  IterX Tryd.prog 63 [] [ptr b1] (okM (Value.int .i64) (m.map (·.1))) (fiM (m.map (·.1))) [] S w0 (CtxM b1 mb 102 es clock):=by
 intro yl J X η hC hY h0
 have hF:=open_wide
 refine Rt.of (fn:=Tryd.f63) Tryd.func63 rfl rfl ?_
 refine T.seq ?_
 refine T.region ?_
 refine TL.load hF rfl (own_mem (hC _ _ h0).1 rfl) rfl ?_
 refine TL.range hF rfl (hC _ _ h0).2 rfl (fun b5=>?_)
 refine TL.nil ?_
 refine TQ.then_n ?_
 refine T.block ?_
 refine T.loop (ι:=List Int × Array Nat × Heap) (fun i=>J i.1 i.2.2∧ItOk m es i.2.1 i.1∧i.1.Nodup∧∀ k∈i.1,k∈m.map (·.1)) (fun i=>[(0,.func (.yield yl) #[] #[]),(5,ptr b5)]) (fun i=>[(b5,Obj.mapIter (some mb) clock i.2.1 clock)]::i.2.2) (fun i=>(m.map (·.1)).length - i.1.length) ([],#[],η) ⟨h0,ItOk.start m es,List.nodup_nil,by simp⟩ ⟨rfl,rfl,trivial⟩ rfl ?_
 rintro ⟨done,seen,η1⟩ ⟨hJ,hit,hnd,hsub⟩
 dsimp only at hJ hit hnd hsub
 have hmb:[(mb,.map es clock)]∈[(b5,Obj.mapIter (some mb) clock seen clock)]::η1:=List.mem_cons_of_mem _ (hC _ _ hJ).2
 refine T.seq ?_
 refine T.region ?_
 refine TL.next hF 0 rfl rfl hmb hm hit rfl (fun hover=>?_) (fun p6 seen6 hp6 hnd6 hit6 hent6=>?_)
 ·refine TL.extract hF rfl rfl rfl ?_
  refine TL.nil ?_
  refine TQ.then_n ?_
  refine T.seq ?_
  refine T.cond_f rfl rfl ?_
  refine T.exit ?_
  refine TQ.then_x ?_
  refine TQ.then_x ?_
  refine TQ.block_x ?_
  refine TQ.norm ?_
  refine TQ.pop ?_
  refine TQ.rets [] _ rfl rfl rfl ?_
  refine .inl ⟨done,fun k hk=>?_,hJ⟩
  obtain ⟨p,hp,rfl⟩:=List.mem_map.1 hk
  exact hover p hp
 ·refine TL.extract hF rfl rfl rfl ?_
  refine TL.nil ?_
  refine TQ.then_n ?_
  refine T.seq ?_
  refine T.cond_t rfl rfl ?_
  refine T.skip ?_
  refine TQ.then_n ?_
  refine T.block ?_
  refine T.seq ?_
  refine T.region ?_
  refine TL.entry hF rfl (by simp) (List.mem_cons_of_mem _ (hC _ _ hJ).2) hm hent6 rfl ?_
  refine TL.extract hF rfl rfl rfl ?_
  refine TL.assign hF rfl rfl ?_
  refine TL.nil ?_
  refine TQ.then_n ?_
  refine T.seq ?_
  refine T.region ?_
  refine TL.move hF rfl rfl ?_
  refine TL.move hF rfl rfl ?_
  refine TL.yield rfl rfl rfl (hY done _ (p6.1::done) [[(b5,Obj.mapIter (some mb) clock seen6 clock)]] η1 ⟨p6.1,rfl,List.mem_map_of_mem hp6,hnd6,rfl⟩ hJ) rfl (fun yb η2 hyb=>?_)
  obtain ⟨η3,rfl,hyb⟩:=hyb
  refine TL.not hF rfl rfl ?_
  refine TL.nil ?_
  refine TQ.then_n ?_
  refine T.cond _ rfl (fun ht13=>?_) (fun ht13=>?_)
  ·refine T.ret ?_
   refine TQ.block_r ?_
   refine TQ.then_r ?_
   refine TQ.block_r ?_
   have hyf:yb=false:=by simpa using ht13
   subst hyf
   rw [if_neg (by decide)] at hyb
   
   refine TQ.pop ?_
   refine TQ.rets [] _ rfl rfl rfl ?_
   exact .inr hyb
  ·refine T.skip ?_
   refine TQ.block_n ?_
   have hyt:yb=true:=by simpa using ht13
   subst hyt
   rw [if_pos rfl] at hyb
   
   have hlt:(p6.1::done).length≤(m.map (·.1)).length:=sub_len (List.nodup_cons.2 ⟨hnd6,hnd⟩) (fun k hk=>by
    rcases List.mem_cons.1 hk with rfl | hk
    ·exact List.mem_map_of_mem hp6
    ·exact hsub k hk)
   refine TQ.round (p6.1::done,seen6,η3) ⟨hyb,hit6,List.nodup_cons.2 ⟨hnd6,hnd⟩,fun k hk=>?_⟩ (by dsimp only; simp only [List.length_cons] at hlt ⊢; omega) ⟨rfl,rfl,trivial⟩ rfl
   rcases List.mem_cons.1 hk with rfl | hk
   ·exact List.mem_map_of_mem hp6
   ·exact hsub k hk
set_option maxHeartbeats 2000000 in
theorem keysFI {mb : Nat} :
  Rt Tryd.prog 50 [.map (some mb)].toArray S w0 η (fun v η'=>∃ b1,v = .func (.func 63) #[] #[ptr b1]∧η'=[(b1,Obj.cells #[.map (some mb)] 102 (0,0))]::η):=by
 have hF:=open_wide
 refine Rt.of (fn:=Tryd.f50) Tryd.func50 rfl rfl ?_
 refine T.seq ?_
 refine T.region ?_
 refine TL.box hF rfl rfl (fun b1=>?_)
 refine TL.assign hF rfl rfl ?_
 refine TL.nil ?_
 refine TQ.then_n ?_
 refine T.seq ?_
 refine T.region ?_
 refine TL.makeFunc hF rfl rfl rfl ?_
 refine TL.assign hF rfl rfl ?_
 refine TL.nil ?_
 refine TQ.then_n ?_
 refine T.ret ?_
 refine TQ.rets [2] _ rfl rfl rfl ?_
 exact ⟨b1,rfl,rfl⟩
set_option maxHeartbeats 2000000 in
theorem appendSeqI {R : Heap} {b1 mb : Nat} {m : List (Int × Bool)} {es : Array MapEntry} {clock : Nat} (hm : MObj (Value.int .i64) Value.bool m es clock) (hl : m.length < 1073741824) (h1 : [(b1, Obj.cells #[.map (some mb)] 102 (0, 0))] ∈ R) (h2 : [(mb, .map es clock)] ∈ R) :
  Rt Tryd.prog 62 [.slice none 0 0,.func (.func 63) #[] #[ptr b1]].toArray S w0 R (fun v η'=>∃ (oa:Option Addr) (oc:Nat) (og:Seg) (ks:List Int),v = .slice oa ks.length oc∧OSl 3 1 (.slice oa ks.length oc) ks.length ((ks).flatMap encZ) og∧ks.Nodup∧(∀ k,k∈ks↔k∈m.map (·.1))∧η'=og::R):=by
 have hF:=open_wide
 refine Rt.ofL (fn:=Tryd.f62) Tryd.func62 rfl rfl ?_
 refine T.seq ?_
 refine T.region ?_
 refine TL.box hF rfl rfl (fun b2=>?_)
 refine TL.assign hF rfl rfl ?_
 refine TL.nil ?_
 refine TQ.then_n ?_
 refine T.seq ?_
 refine T.seq ?_
 refine T.region ?_
 refine TL.move hF rfl rfl ?_
 refine TL.nil ?_
 refine TQ.then_n ?_
 refine T.block ?_
 refine T.hnil ?_
 refine T.pick [1,0] [[],_] rfl rfl rfl ?_
 refine T.rangeFuncX (fst:=[]) (cap:=[ptr b1]) rfl (iterI (b1:=b1) (mb:=mb) hm) (by
   rintro i e j ⟨k,rfl,_⟩; rfl) (by simp) (fun i η1=>∃ oa oc og,η1=[(b2,Obj.cells #[.slice oa i.length oc] 22 (0,0))]::og::R∧i.Nodup∧(∀ k∈i,k∈m.map (·.1))∧OSl 3 1 (.slice oa i.length oc) i.length ((i.reverse).flatMap encZ) og) (fun _ _=>False) ⟨none,0,[],rfl,List.nodup_nil,by simp,OSl.nil _ _⟩ ?_ ?_ ?_ ?_
 ·rintro i _ tl ⟨oa,oc,og,rfl,_⟩
  exact ⟨by simp [h1],by simp [h2]⟩
 ·rintro l tl tl' i e j _ ⟨k,rfl,hk1,hk2,rfl⟩ ⟨oa,oc,og,rfl,hnd,hsub,ho⟩
  have hF:=open_round l
  have hil:i.length≤(m.map (·.1)).length:=sub_len hnd hsub
  rw [List.length_map] at hil
  refine T.region ?_
  refine TL.assign hF rfl rfl ?_
  refine TL.nil ?_
  refine TQ.swapT _ rfl ?_
  refine T.block ?_
  refine T.region ?_
  refine TL.load hF rfl (own_mem (e:=22) (fz:=(0,0)) (cs:=#[.slice oa i.length oc]) (by simp) rfl) rfl ?_
  refine TL.move hF rfl rfl ?_
  refine TL.buildSlice hF rfl (cs:=#[.int .i64 k]) (e:=3) (fun w=>by kernel_rfl) rfl (fun b10=>?_)
  refine TL.append hF 2 rfl rfl rfl ho (row_own (cs:=[.int .i64 k]) (e:=3) (by simp)).src rfl rfl (by simp [Value.oneCell']) (by omega) (by omega) rfl (fun pa pc pg ph=>?_)
  refine TL.storeI hF 1 rfl rfl rfl rfl (by simp) ?_
  refine TL.nil ?_
  refine TQ.block_n ?_
  refine TQ.pop ?_
  refine TQ.rq_n ([(b2,Obj.cells #[.slice pa (i.length+1) pc] 22 (0,0))]::pg::R) rfl ⟨pa,pc,pg,rfl,List.nodup_cons.2 ⟨hk2,hnd⟩,fun x hx=>?_,?_⟩
  ·rcases List.mem_cons.1 hx with rfl | hx
   ·exact hk1
   ·exact hsub x hx
  ·rw [List.reverse_cons,List.flatMap_append]
   have:([k]:List Int).flatMap encZ=encZ k:=by simp
   rw [this]; exact ph
 ·rintro mk i _ hfi ⟨oa,oc,og,rfl,hnd,hsub,ho⟩
  refine TQ.block_n ?_
  refine TQ.then_n ?_
  refine T.seq ?_
  refine T.region ?_
  refine TL.load hF rfl (own_mem (e:=22) (fz:=(0,0)) (cs:=#[.slice oa i.length oc]) (by simp) rfl) rfl ?_
  refine TL.assign hF rfl rfl ?_
  refine TL.nil ?_
  refine TQ.then_n ?_
  refine T.ret ?_
  refine TQ.mark (i:=0) (.inl rfl) rfl ?_
  refine TQ.hsub (og::R) (List.Sublist.cons _ (List.sublist_cons_self _ _)) ?_
  refine TQ.retL0 [4] [_] rfl rfl rfl ⟨oa,oc,og,i.reverse,by rw [List.length_reverse]; rfl,by rw [List.length_reverse]; exact ho,(List.reverse_perm i).nodup_iff.2 hnd,fun k=>⟨fun hk=>hsub k (List.mem_reverse.1 hk),fun hk=>List.mem_reverse.2 (hfi k hk)⟩,rfl⟩
 ·rintro _ _ _ h; exact h.elim
set_option maxHeartbeats 2000000 in
theorem collectI {R : Heap} {b1 mb : Nat} {m : List (Int × Bool)} {es : Array MapEntry} {clock : Nat} (hm : MObj (Value.int .i64) Value.bool m es clock) (hl : m.length < 1073741824) (h1 : [(b1, Obj.cells #[.map (some mb)] 102 (0, 0))] ∈ R) (h2 : [(mb, .map es clock)] ∈ R) :
  Rt Tryd.prog 49 [.func (.func 63) #[] #[ptr b1]].toArray S w0 R (fun v η'=>∃ (oa:Option Addr) (oc:Nat) (og:Seg) (ks:List Int),v = .slice oa ks.length oc∧OSl 3 1 (.slice oa ks.length oc) ks.length ((ks).flatMap encZ) og∧ks.Nodup∧(∀ k,k∈ks↔k∈m.map (·.1))∧η'=og::R):=by
 have hF:=open_wide
 refine Rt.of (fn:=Tryd.f49) Tryd.func49 rfl rfl ?_
 refine T.seq ?_
 refine T.region ?_
 refine TL.assign hF rfl rfl ?_
 refine TL.nil ?_
 refine TQ.then_n ?_
 refine T.seq ?_
 refine T.region ?_
 refine TL.move hF rfl rfl ?_
 refine TL.call hF (appendSeqI hm hl h1 h2) rfl rfl ?_
 rintro _ _ ⟨oa,oc,og,ks,rfl,ho,hn,hk,rfl⟩
 refine TL.assign hF rfl rfl ?_
 refine TL.nil ?_
 refine TQ.then_n ?_
 refine T.ret ?_
 refine TQ.rets [2] _ rfl rfl rfl ?_
 exact ⟨oa,oc,og,ks,rfl,ho,hn,hk,rfl⟩
end Go.Proofs.YtdiacobmhkmljaaDoor
/- All calls of a trace in order; whether two calls depend on the same; a trace against another one. -/
namespace Go.Proofs.YtdiacobmhkmljaaDoor
open Go.Sl
variable {S:Nat→Prop} {w0:World} {η:Heap}
def pkeys (l:List PC):List Key:=(kb l).map (·.1)
theorem pkeys_eq (l:List PC):pkeys l=keysN (pnds l):=by unfold pkeys kb keysN pnds; rw [List.map_map,List.map_map]; rfl
theorem upK_ext {l m:List Key} (hl:l.Nodup) (hm:m.Nodup) (h:∀ k,k∈l↔k∈m):upK l=upK m :=
 kup_ext (upK_up hl) (upK_up hm) fun k=>by rw [mem_upK,mem_upK]; exact h k
theorem catG1 {α:Type} (p:GH α):catG [p] 1=p.2.1:=by simp [catG]
set_option maxHeartbeats 2000000 in
theorem keys_fn {R : Heap} {tb mb : Nat} {l : List PC} {es : Array MapEntry} {clock : Nat} (ht : At S w0 R ⟨tb, 0 + 2, none⟩ (.map (some mb))) (hb : [(mb, .map es clock)] ∈ R) (ho : MObj kV ptr (kb l) es clock) (hl : l.length < 1073741824) (hs : ∀ x ∈ l, SmK x.nd.key) :
  Rt Tryd.prog 40 [ptr tb].toArray S w0 R (fun v η'=>∃ a cap segs,v = .slice a (upK (pkeys l)).length cap∧Row S w0 segs a ((upK (pkeys l)).flatMap kC)∧η'=segs++R):=by
 have hF:=open_wide
 refine Rt.of (fn:=Tryd.f40) Tryd.func40 rfl rfl ?_
 refine T.seq ?_
 refine T.region ?_
 refine TL.assign hF rfl rfl ?_
 refine TL.nil ?_
 refine TQ.then_n ?_
 refine T.seq ?_
 refine T.draw ?_
 refine DR.stepV [_] rfl [] rfl rfl trivial (fun ext=>TL.callV hF (byKey_fn) rfl rfl TL.fin) ?_
 refine DR.stepV [_,_] rfl [(0,_,none)] rfl rfl ⟨⟨rfl,by kernel_rfl⟩,trivial⟩ (fun ext=>TL.move hF rfl rfl TL.fin) ?_
 refine DR.stepV [_,_,_] rfl [(4,_,some 1)] rfl rfl ⟨⟨rfl,rfl,rfl⟩,trivial⟩ (fun ext=>TL.nilCheck hF rfl rfl TL.fin) ?_
 refine DR.stepV [_,_,_,_] rfl [(5,_,some 2)] rfl rfl ⟨⟨rfl,rfl,rfl⟩,trivial⟩ (fun ext=>TL.fieldAddr hF rfl rfl TL.fin) ?_
 refine DR.stepV [_,_,_,_,_] rfl [(6,_,some 3)] rfl rfl ⟨⟨rfl,rfl,rfl⟩,trivial⟩ (fun ext=>TL.load hF rfl ht rfl TL.fin) ?_
 refine DR.done [(7,_),(6,_),(5,_),(4,_),(3,_)] [_,_,_,_,_] mixed (by kernel_rfl) (by kernel_rfl) (by kernel_rfl) rfl rfl ?_
 refine TL.call hF keysFK rfl rfl ?_
 rintro _ _ ⟨b1,rfl,rfl⟩
 refine TL.call hF (collectK ho (by simp only [kb,List.length_map]; exact hl) List.mem_cons_self (List.mem_cons_of_mem _ hb)) rfl rfl ?_
 rintro _ _ ⟨oa,oc,og,ks,rfl,hos,hnd,hks,rfl⟩
 have hlen:ks.length≤(pkeys l).length:=sub_len hnd fun k hk=>(hks k).1 hk
 simp only [pkeys,kb,List.length_map] at hlen
 refine TL.buildSlice hF rfl (cs:=#[.slice oa ks.length oc]) (e:=46) (fun w=>by kernel_rfl) rfl (fun b10=>?_)
 have hgl:GL kC S w0 ([(b10,Obj.cells #[.slice oa ks.length oc] 46 (0,0))]::og::[(b1,Obj.cells #[.map (some mb)] 90 (0,0))]::R) (some ⟨b10,0,none⟩) [(oa,ks,oc)]:=⟨row_own (cs:=[.slice oa ks.length oc]) (e:=46) (by simp),fun p hp=>by
  rw [List.mem_singleton.1 hp]; exact OSl.row hos (by simp)⟩
 have hcat:catG [(oa,ks,oc)] 1=ks:=catG1 _
 refine TL.call hF (sortedKeys_fn hgl (by simp) (by show (catG [(oa,ks,oc)] 1).length<_; rw [hcat]; omega) (fun k hk=>by
  have hk2:k∈ks:=by rw [← hcat]; exact hk
  obtain ⟨p,hp,rfl⟩:=List.mem_map.1 ((hks k).1 hk2)
  obtain ⟨x,hx,rfl⟩:=List.mem_map.1 hp
  exact hs x hx)) rfl rfl ?_
 rintro _ _ ⟨ra,rc,segs,rfl,hrow,rfl⟩
 have hup:upK (catG [(oa,ks,oc)] [(oa,ks,oc)].length)=upK (pkeys l):=by
  show upK (catG [(oa,ks,oc)] 1)=_
  rw [hcat]; exact upK_ext hnd ho.nd hks
 rw [hup] at hrow ⊢
 refine TL.assign hF rfl rfl ?_
 refine TL.nil ?_
 refine TQ.then_n ?_
 refine T.ret ?_
 refine TQ.hsub (segs++R) ((List.Sublist.refl segs).append (.cons _ (.cons _ (.cons _ (.refl R))))) ?_
 refine TQ.rets [2] _ rfl rfl rfl ?_
 exact ⟨ra,rc,segs,rfl,hrow,rfl⟩
/-- What two calls depend on, one after the other. -/
def prE:List Dp→List Dp→List (List Value)
 | [],[]=>[]
 | d::r,e::s=>[.agg (dpC d++dpC e).toArray,.bool true]::prE r s
 | _,_=>[[.agg ([.bool false,.int .i64 0,.int .i64 0,.int .i64 0,.int .i64 0,.bool false,.int .i64 0,.int .i64 0,.int .i64 0,.int .i64 0]:List Value).toArray,.bool false]]
theorem prE_both:∀ {x y:List Dp} {i:Nat} (h1:i<x.length) (h2:i<y.length),(prE x y)[i]?=some [.agg (dpC x[i]++dpC y[i]).toArray,.bool true]
 | d::r,e::s,0,_,_=>rfl
 | d::r,e::s,i+1,h1,h2=>by
  have:=prE_both (x:=r) (y:=s) (i:=i) (by simpa using h1) (by simpa using h2)
  simpa [prE] using this
theorem prE_one:∀ {x y:List Dp} {i:Nat},i≤x.length→i≤y.length→(i=x.length∨i=y.length)→x.length≠y.length→(prE x y)[i]?=some [.agg ([.bool false,.int .i64 0,.int .i64 0,.int .i64 0,.int .i64 0,.bool false,.int .i64 0,.int .i64 0,.int .i64 0,.int .i64 0]:List Value).toArray,.bool false]∧(prE x y).length=i+1
 | [],[],i,_,_,_,h=>absurd rfl h
 | [],e::s,i,h1,_,_,_=>by
  have:i=0:=by simpa using h1
  subst this; exact ⟨rfl,rfl⟩
 | d::r,[],i,_,h2,_,_=>by
  have:i=0:=by simpa using h2
  subst this; exact ⟨rfl,rfl⟩
 | d::r,e::s,0,_,_,h,_=>by simp at h
 | d::r,e::s,i+1,h1,h2,h3,h4=>by
  have:=prE_one (x:=r) (y:=s) (i:=i) (by simpa using h1) (by simpa using h2) (by simpa using h3) (by simpa using h4)
  exact ⟨by simpa [prE] using this.1,by simp [prE,this.2]⟩
theorem prE_len {x y:List Dp} (h:x.length=y.length):(prE x y).length=x.length:=by
 induction x generalizing y with
 | nil=>cases y with
  | nil=>rfl
  | cons _ _=>simp at h
 | cons d r ih=>cases y with
  | nil=>simp at h
  | cons e s=>simp only [prE,List.length_cons]; rw [ih (by simpa using h)]
theorem prE_size:∀ {x y:List Dp} {e:List Value},e∈prE x y→e.length=2
 | [],[],e,h=>by simp [prE] at h
 | d::r,f::s,e,h=>by
  rcases List.mem_cons.1 h with rfl | h
  ·rfl
  ·exact prE_size h
 | [],f::s,e,h=>by rw [List.mem_singleton.1 h]; rfl
 | d::r,[],e,h=>by rw [List.mem_singleton.1 h]; rfl
def PrC (x y:PC) (b1 b2:Nat) (η:Heap):Prop:=[(b1,Obj.cells #[ptr x.b] 89 (0,0))]∈η∧[(b2,Obj.cells #[ptr y.b] 89 (0,0))]∈η
set_option maxHeartbeats 2000000 in
theorem pairs_iter {tx ty b1 b2 : Nat} {x y : PC} (hx : CM S w0 [] tx x) (hy : CM S w0 [] ty y) :
  Iter Tryd.prog 72 [] [ptr b1,ptr b2] (prE x.nd.deps y.nd.deps) S w0 (PrC x y b1 b2):=by
 intro yl J X η hC hY h0
 have hxl:=hx.deps.len
 have hyl:=hy.deps.len
 change x.nd.deps.length<_ at hxl
 change y.nd.deps.length<_ at hyl
 have hF:=open_wide
 refine Rt.of (fn:=Tryd.f72) Tryd.func72 rfl rfl ?_
 refine T.seq ?_
 refine T.draw ?_
 refine DR.stepV [_] rfl [(1,_,none)] rfl rfl ⟨⟨rfl,by kernel_rfl⟩,trivial⟩ (fun ext=>TL.load hF rfl (own_mem (hC _ _ h0).1 rfl) rfl TL.fin) ?_
 refine DR.stepV [_,_] rfl [(5,_,some 0)] rfl rfl ⟨⟨rfl,rfl,rfl⟩,trivial⟩ (fun ext=>TL.nilCheck hF rfl rfl TL.fin) ?_
 refine DR.stepV [_,_,_] rfl [(6,_,some 1)] rfl rfl ⟨⟨rfl,rfl,rfl⟩,trivial⟩ (fun ext=>TL.fieldAddr hF rfl rfl TL.fin) ?_
 refine DR.stepV [_,_,_,_] rfl [(7,_,some 2)] rfl rfl ⟨⟨rfl,rfl,rfl⟩,trivial⟩ (fun ext=>TL.fieldAddr hF rfl rfl TL.fin) ?_
 refine DR.stepV [_,_,_,_,_] rfl [(8,_,some 3)] rfl rfl ⟨⟨rfl,rfl,rfl⟩,trivial⟩ (fun ext=>TL.load hF rfl ((hx.at' 3 _ rfl).up (by simp)) rfl TL.fin) ?_
 refine DR.stepV [_,_,_,_,_,_] rfl [(9,_,some 4)] rfl rfl ⟨⟨rfl,rfl,rfl⟩,trivial⟩ (fun ext=>TL.len hF rfl rfl TL.fin) ?_
 refine DR.stepV [_,_,_,_,_,_,_] rfl [(2,_,none)] rfl rfl ⟨⟨rfl,by kernel_rfl⟩,trivial⟩ (fun ext=>TL.load hF rfl (own_mem (hC _ _ h0).2 rfl) rfl TL.fin) ?_
 refine DR.stepV [_,_,_,_,_,_,_,_] rfl [(11,_,some 6)] rfl rfl ⟨⟨rfl,rfl,rfl⟩,trivial⟩ (fun ext=>TL.nilCheck hF rfl rfl TL.fin) ?_
 refine DR.stepV [_,_,_,_,_,_,_,_,_] rfl [(12,_,some 7)] rfl rfl ⟨⟨rfl,rfl,rfl⟩,trivial⟩ (fun ext=>TL.fieldAddr hF rfl rfl TL.fin) ?_
 refine DR.stepV [_,_,_,_,_,_,_,_,_,_] rfl [(13,_,some 8)] rfl rfl ⟨⟨rfl,rfl,rfl⟩,trivial⟩ (fun ext=>TL.fieldAddr hF rfl rfl TL.fin) ?_
 refine DR.stepV [_,_,_,_,_,_,_,_,_,_,_] rfl [(14,_,some 9)] rfl rfl ⟨⟨rfl,rfl,rfl⟩,trivial⟩ (fun ext=>TL.load hF rfl ((hy.at' 3 _ rfl).up (by simp)) rfl TL.fin) ?_
 refine DR.stepV [_,_,_,_,_,_,_,_,_,_,_,_] rfl [(15,_,some 10)] rfl rfl ⟨⟨rfl,rfl,rfl⟩,trivial⟩ (fun ext=>TL.len hF rfl rfl TL.fin) ?_
 refine DR.stepV [_,_,_,_,_,_,_,_,_,_,_,_,_] rfl [(10,_,some 5),(16,_,some 11)] rfl rfl ⟨⟨rfl,rfl,rfl⟩,⟨rfl,rfl,rfl⟩,trivial⟩ (fun ext=>TL.max2 hF rfl rfl rfl TL.fin) ?_
 refine DR.stepV [_,_,_,_,_,_,_,_,_,_,_,_,_,_] rfl [] rfl rfl trivial (fun ext=>TL.move hF rfl rfl TL.fin) ?_
 refine DR.done [(18,_),(17,_),(16,_),(15,_),(14,_),(13,_),(12,_),(11,_),(10,_),(9,_),(8,_),(7,_),(6,_),(5,_)] [] mixed (by kernel_rfl) (by kernel_rfl) (by kernel_rfl) rfl rfl ?_
 refine TL.nil ?_
 refine TQ.then_n ?_
 refine T.block ?_
 refine T.loop (ι:=Nat × Heap) (fun i=>i.1≤x.nd.deps.length∧i.1≤y.nd.deps.length∧J i.1 i.2) (fun i=>[(0,.func (.yield yl) #[] #[]),(1,ptr b1),(2,ptr b2),(17,.int .i64 (max (x.nd.deps.length:Int) (y.nd.deps.length:Int))),(18,.int .i64 (i.1:Int))]) (fun i=>i.2) (fun i=>x.nd.deps.length - i.1) (0,η) ⟨Nat.zero_le _,Nat.zero_le _,h0⟩ ⟨rfl,rfl,rfl,rfl,rfl,trivial⟩ rfl ?_
 rintro ⟨i,η1⟩ ⟨hi1,hi2,hJ⟩
 dsimp only at hi1 hi2 hJ
 refine T.seq ?_
 refine T.region ?_
 refine TL.bin hF rfl rfl rfl rfl ?_
 refine TL.nil ?_
 refine TQ.then_n ?_
 refine T.seq ?_
 first | refine T.cond_d rfl (fun ht19=>?_) (fun ht19=>?_) | refine T.cond _ rfl (fun ht19=>?_) (fun ht19=>?_)
 ·refine T.skip ?_
  refine TQ.then_n ?_
  refine T.seq ?_
  refine T.block ?_
  refine T.seq ?_
  refine T.region ?_
  refine TL.move hF rfl rfl ?_
  refine TL.assign hF rfl rfl ?_
  refine TL.nil ?_
  refine TQ.then_n ?_
  refine T.seq ?_
  refine T.seq ?_
  refine T.region ?_
  refine TL.move hF rfl rfl ?_
  refine TL.load hF rfl (own_mem (hC _ _ hJ).1 rfl) rfl ?_
  refine TL.nilCheck hF rfl rfl ?_
  refine TL.fieldAddr hF rfl rfl ?_
  refine TL.fieldAddr hF rfl rfl ?_
  refine TL.load hF rfl ((hx.at' 3 _ rfl).up (by simp)) rfl ?_
  refine TL.len hF rfl rfl ?_
  refine TL.bin hF rfl rfl rfl rfl ?_
  refine TL.move hF rfl rfl ?_
  refine TL.gd (t:=29) rfl (fun g3_29=>?_) (fun g3_29=>?_)
  ·refine TL.off hF rfl rfl rfl (decide_eq_true g3_29) rfl ?_
   refine TL.off hF rfl rfl rfl (decide_eq_true g3_29) rfl ?_
   refine TL.off hF rfl rfl rfl (decide_eq_true g3_29) rfl ?_
   refine TL.off hF rfl rfl rfl (decide_eq_true g3_29) rfl ?_
   refine TL.off hF rfl rfl rfl (decide_eq_true g3_29) rfl ?_
   refine TL.off hF rfl rfl rfl (decide_eq_true g3_29) rfl ?_
   refine TL.off hF rfl rfl rfl (decide_eq_true g3_29) rfl ?_
   refine TL.off hF rfl rfl rfl (decide_eq_true g3_29) rfl ?_
   refine TL.pickT hF rfl (decide_eq_true g3_29) rfl rfl ?_
   refine TL.nil ?_
   refine TQ.then_n ?_
   refine T.cond_t rfl rfl ?_
   refine T.seq ?_
   refine T.region ?_
   refine TL.move hF rfl rfl ?_
   refine TL.build hF rfl (r:=.agg ([.bool false,.int .i64 0,.int .i64 0,.int .i64 0,.int .i64 0,.bool false,.int .i64 0,.int .i64 0,.int .i64 0,.int .i64 0]:List Value).toArray) (fun w=>by kernel_rfl) rfl ?_
   have hmx:(i:Int)<max (x.nd.deps.length:Int) (y.nd.deps.length:Int):=ht19
   have hone:=prE_one (x:=x.nd.deps) (y:=y.nd.deps) (i:=i) hi1 hi2 (by omega) (by omega)
   refine TL.yield rfl rfl rfl (hY i _ _ hone.1 hJ) rfl (fun yb η2 hyb=>?_)
   refine TL.nil ?_
   refine TQ.then_n ?_
   refine T.ret ?_
   refine TQ.then_r ?_
   refine TQ.block_r ?_
   refine TQ.then_r ?_
   refine TQ.then_r ?_
   refine TQ.block_r ?_
   refine TQ.rets [] _ rfl rfl rfl ?_
   cases yb with
   | true=>left; rw [hone.2]; exact hyb
   | false=>exact .inr hyb
  ·refine TL.on rfl rfl rfl (decide_eq_false g3_29) ?_
   refine TL.move hF rfl rfl ?_
   refine TL.on rfl rfl rfl (decide_eq_false g3_29) ?_
   refine TL.load hF rfl (own_mem (hC _ _ hJ).2 rfl) rfl ?_
   refine TL.on rfl rfl rfl (decide_eq_false g3_29) ?_
   refine TL.nilCheck hF rfl rfl ?_
   refine TL.on rfl rfl rfl (decide_eq_false g3_29) ?_
   refine TL.fieldAddr hF rfl rfl ?_
   refine TL.on rfl rfl rfl (decide_eq_false g3_29) ?_
   refine TL.fieldAddr hF rfl rfl ?_
   refine TL.on rfl rfl rfl (decide_eq_false g3_29) ?_
   refine TL.load hF rfl ((hy.at' 3 _ rfl).up (by simp)) rfl ?_
   refine TL.on rfl rfl rfl (decide_eq_false g3_29) ?_
   refine TL.len hF rfl rfl ?_
   refine TL.on rfl rfl rfl (decide_eq_false g3_29) ?_
   refine TL.bin hF rfl rfl rfl rfl ?_
   refine TL.pickF hF rfl (decide_eq_false g3_29) rfl rfl ?_
   refine TL.nil ?_
   refine TQ.then_n ?_
   first | refine T.cond_d rfl (fun ht38=>?_) (fun ht38=>?_) | refine T.cond _ rfl (fun ht38=>?_) (fun ht38=>?_)
   ·refine T.seq ?_
    refine T.region ?_
    refine TL.move hF rfl rfl ?_
    refine TL.build hF rfl (r:=.agg ([.bool false,.int .i64 0,.int .i64 0,.int .i64 0,.int .i64 0,.bool false,.int .i64 0,.int .i64 0,.int .i64 0,.int .i64 0]:List Value).toArray) (fun w=>by kernel_rfl) rfl ?_
    have hmx:(i:Int)<max (x.nd.deps.length:Int) (y.nd.deps.length:Int):=ht19
    have hone:=prE_one (x:=x.nd.deps) (y:=y.nd.deps) (i:=i) hi1 hi2 (by omega) (by omega)
    refine TL.yield rfl rfl rfl (hY i _ _ hone.1 hJ) rfl (fun yb η2 hyb=>?_)
    refine TL.nil ?_
    refine TQ.then_n ?_
    refine T.ret ?_
    refine TQ.then_r ?_
    refine TQ.block_r ?_
    refine TQ.then_r ?_
    refine TQ.then_r ?_
    refine TQ.block_r ?_
    refine TQ.rets [] _ rfl rfl rfl ?_
    cases yb with
    | true=>left; rw [hone.2]; exact hyb
    | false=>exact .inr hyb
   ·refine T.skip ?_
    refine TQ.then_n ?_
    refine T.seq ?_
    have hix:i<x.nd.deps.length:=by omega
    have hiy:i<y.nd.deps.length:=by omega
    refine T.draw ?_
    refine DR.stepV [_] rfl [(0,_,none)] rfl rfl ⟨⟨rfl,by kernel_rfl⟩,trivial⟩ (fun ext=>TL.move hF rfl rfl TL.fin) ?_
    refine DR.stepV [_,_] rfl [(1,_,none)] rfl rfl ⟨⟨rfl,by kernel_rfl⟩,trivial⟩ (fun ext=>TL.load hF rfl (own_mem (hC _ _ hJ).1 rfl) rfl TL.fin) ?_
    refine DR.stepV [_,_,_] rfl [(43,_,some 1)] rfl rfl ⟨⟨rfl,rfl,rfl⟩,trivial⟩ (fun ext=>TL.nilCheck hF rfl rfl TL.fin) ?_
    refine DR.stepV [_,_,_,_] rfl [(44,_,some 2)] rfl rfl ⟨⟨rfl,rfl,rfl⟩,trivial⟩ (fun ext=>TL.fieldAddr hF rfl rfl TL.fin) ?_
    refine DR.stepV [_,_,_,_,_] rfl [(45,_,some 3)] rfl rfl ⟨⟨rfl,rfl,rfl⟩,trivial⟩ (fun ext=>TL.fieldAddr hF rfl rfl TL.fin) ?_
    refine DR.stepV [_,_,_,_,_,_] rfl [(46,_,some 4)] rfl rfl ⟨⟨rfl,rfl,rfl⟩,trivial⟩ (fun ext=>TL.load hF rfl ((hx.at' 3 _ rfl).up (by simp)) rfl TL.fin) ?_
    refine DR.stepV [_,_,_,_,_,_,_] rfl [(4,_,none)] rfl rfl ⟨⟨rfl,by kernel_rfl⟩,trivial⟩ (fun ext=>TL.move hF rfl rfl TL.fin) ?_
    refine DR.stepV [_,_,_,_,_,_,_,_] rfl [(47,_,some 5),(48,_,some 6)] rfl rfl ⟨⟨rfl,rfl,rfl⟩,⟨rfl,rfl,rfl⟩,trivial⟩ (fun ext=>TL.indexAddr hF rfl rfl (hx.deps.row.tad dpC_len (by decide) hix) (by omega) (by show (i:Int)<(x.nd.deps.length:Int); omega) rfl TL.fin) ?_
    refine DR.stepV [_,_,_,_,_,_,_,_,_] rfl [(49,_,some 7)] rfl rfl ⟨⟨rfl,rfl,rfl⟩,trivial⟩ (fun ext=>TL.loadA hF (dpC x.nd.deps[i]) rfl rfl (hx.deps.row.ro.tabA dpC_len (i:=i) hix) rfl TL.fin) ?_
    refine DR.stepV [_,_,_,_,_,_,_,_,_,_] rfl [(2,_,none)] rfl rfl ⟨⟨rfl,by kernel_rfl⟩,trivial⟩ (fun ext=>TL.load hF rfl (own_mem (hC _ _ hJ).2 rfl) rfl TL.fin) ?_
    refine DR.stepV [_,_,_,_,_,_,_,_,_,_,_] rfl [(51,_,some 9)] rfl rfl ⟨⟨rfl,rfl,rfl⟩,trivial⟩ (fun ext=>TL.nilCheck hF rfl rfl TL.fin) ?_
    refine DR.stepV [_,_,_,_,_,_,_,_,_,_,_,_] rfl [(52,_,some 10)] rfl rfl ⟨⟨rfl,rfl,rfl⟩,trivial⟩ (fun ext=>TL.fieldAddr hF rfl rfl TL.fin) ?_
    refine DR.stepV [_,_,_,_,_,_,_,_,_,_,_,_,_] rfl [(53,_,some 11)] rfl rfl ⟨⟨rfl,rfl,rfl⟩,trivial⟩ (fun ext=>TL.fieldAddr hF rfl rfl TL.fin) ?_
    refine DR.stepV [_,_,_,_,_,_,_,_,_,_,_,_,_,_] rfl [(54,_,some 12)] rfl rfl ⟨⟨rfl,rfl,rfl⟩,trivial⟩ (fun ext=>TL.load hF rfl ((hy.at' 3 _ rfl).up (by simp)) rfl TL.fin) ?_
    refine DR.stepV [_,_,_,_,_,_,_,_,_,_,_,_,_,_,_] rfl [(4,_,none)] rfl rfl ⟨⟨rfl,by kernel_rfl⟩,trivial⟩ (fun ext=>TL.move hF rfl rfl TL.fin) ?_
    refine DR.stepV [_,_,_,_,_,_,_,_,_,_,_,_,_,_,_,_] rfl [(55,_,some 13),(56,_,some 14)] rfl rfl ⟨⟨rfl,rfl,rfl⟩,⟨rfl,rfl,rfl⟩,trivial⟩ (fun ext=>TL.indexAddr hF rfl rfl (hy.deps.row.tad dpC_len (by decide) hiy) (by omega) (by show (i:Int)<(y.nd.deps.length:Int); omega) rfl TL.fin) ?_
    refine DR.stepV [_,_,_,_,_,_,_,_,_,_,_,_,_,_,_,_,_] rfl [(57,_,some 15)] rfl rfl ⟨⟨rfl,rfl,rfl⟩,trivial⟩ (fun ext=>TL.loadA hF (dpC y.nd.deps[i]) rfl rfl (hy.deps.row.ro.tabA dpC_len (i:=i) hiy) rfl TL.fin) ?_
    refine DR.stepV [_,_,_,_,_,_,_,_,_,_,_,_,_,_,_,_,_,_] rfl [(50,_,some 8),(58,_,some 16)] rfl rfl ⟨⟨rfl,rfl,rfl⟩,⟨rfl,rfl,rfl⟩,trivial⟩ (fun ext=>TL.build hF rfl (r:=.agg #[.bool x.nd.deps[i].call,.int .i64 x.nd.deps[i].cell,.int .i64 x.nd.deps[i].key.1,.int .i64 x.nd.deps[i].key.2,.int .i64 x.nd.deps[i].word,.bool y.nd.deps[i].call,.int .i64 y.nd.deps[i].cell,.int .i64 y.nd.deps[i].key.1,.int .i64 y.nd.deps[i].key.2,.int .i64 y.nd.deps[i].word]) (fun w=>by kernel_rfl) rfl TL.fin) ?_
    refine DR.done [(59,_),(58,_),(57,_),(56,_),(55,_),(54,_),(53,_),(52,_),(51,_),(50,_),(49,_),(48,_),(47,_),(46,_),(45,_),(44,_),(43,_),(42,_)] [_,_] mixed (by kernel_rfl) (by kernel_rfl) (by kernel_rfl) rfl rfl ?_
    refine TL.yield rfl rfl rfl (hY i _ _ (prE_both hix hiy) hJ) rfl (fun yb η2 hyb=>?_)
    refine TL.not hF rfl rfl ?_
    refine TL.nil ?_
    refine TQ.then_n ?_
    refine T.cond _ rfl (fun ht61=>?_) (fun ht61=>?_)
    ·refine T.ret ?_
     refine TQ.block_r ?_
     refine TQ.then_r ?_
     refine TQ.then_r ?_
     refine TQ.block_r ?_
     have hyf:yb=false:=by simpa using ht61
     subst hyf
     refine TQ.rets [] _ rfl rfl rfl ?_
     exact .inr hyb
    ·refine T.skip ?_
     refine TQ.block_n ?_
     refine TQ.then_n ?_
     refine T.region ?_
     refine TL.add hF rfl rfl (by omega) (by omega) rfl ?_
     refine TL.move hF rfl rfl ?_
     refine TL.nil ?_
     have hyt:yb=true:=by simpa using ht61
     subst hyt
     exact TQ.round (i+1,η2) ⟨by dsimp only; omega,by dsimp only; omega,hyb⟩ (by dsimp only; omega) ⟨rfl,rfl,rfl,rfl,rfl,trivial⟩ rfl
 ·refine T.exit ?_
  refine TQ.then_x ?_
  refine TQ.then_x ?_
  refine TQ.block_x ?_
  refine TQ.norm ?_
  refine TQ.rets [] _ rfl rfl rfl ?_
  have hmx:¬ (i:Int)<max (x.nd.deps.length:Int) (y.nd.deps.length:Int):=ht19
  left
  rw [prE_len (by omega),show x.nd.deps.length=i by omega]
  exact hJ
set_option maxHeartbeats 2000000 in
theorem pairs_fn {bx by_ : Nat} :
  Rt Tryd.prog 66 [ptr bx,ptr by_].toArray S w0 η (fun v η'=>∃ b1 b2,v = .func (.func 72) #[] #[ptr b1,ptr b2]∧η'=[(b2,Obj.cells #[ptr by_] 89 (0,0))]::[(b1,Obj.cells #[ptr bx] 89 (0,0))]::η):=by
 have hF:=open_wide
 refine Rt.of (fn:=Tryd.f66) Tryd.func66 rfl rfl ?_
 refine T.seq ?_
 refine T.region ?_
 refine TL.box hF rfl rfl (fun b2=>?_)
 refine TL.box hF rfl rfl (fun b3=>?_)
 refine TL.assign hF rfl rfl ?_
 refine TL.nil ?_
 refine TQ.then_n ?_
 refine T.seq ?_
 refine T.region ?_
 refine TL.makeFunc hF rfl rfl rfl ?_
 refine TL.assign hF rfl rfl ?_
 refine TL.nil ?_
 refine TQ.then_n ?_
 refine T.ret ?_
 refine TQ.rets [4] _ rfl rfl rfl ?_
 exact ⟨b2,b3,rfl,rfl⟩
end Go.Proofs.YtdiacobmhkmljaaDoor
