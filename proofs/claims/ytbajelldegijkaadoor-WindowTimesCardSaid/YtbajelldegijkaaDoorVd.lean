/- Several texts in one. -/
import Derived.Test.YtbajelldegijkaaDoorVc
import Derived.Test.YtbajelldegijkaaDoorVb
/- Windows of a map, listed in order. -/
namespace Go.Proofs.YtbajelldegijkaaDoor
open Go.Sl
variable {S:Nat→Prop} {w0:World} {η:Heap}
abbrev k3V (k:K3):Value:=.agg #[.int .i64 k.1,.int .i64 k.2.1,.int .i64 k.2.2]
abbrev iV (n:Int):Value:=.int .i64 n
open Go in
theorem eqK3 (a b:K3) (w:World):(Op.equal 119 (k3V a) (k3V b)).run Tryd.prog w = .ok (decide (a=b)) w:=by
 have hf:Tryd.prog.underlying 119=some (.struct (Tryd.prog.fieldsOf 119)):=by kernel_rfl
 have hs:Tryd.prog.stoodInHeld 119=false:=by kernel_rfl
 obtain ⟨f1, f2, f3, h12, n1, n2, n3, t1, t2, t3, o1, o2, o3⟩ : ∃ f1 f2 f3, (Tryd.prog.fieldsOf 119).toList = [f1, f2, f3] ∧ f1.name ≠ "_" ∧ f2.name ≠ "_" ∧ f3.name ≠ "_" ∧ f1.type = 3 ∧ f2.type = 3 ∧ f3.type = 3 ∧ f1.offset = 0 ∧ f2.offset = 1 ∧ f3.offset = 2 := by
  unfold Program.fieldsOf; rw [show Tryd.prog.underlying 119=Tryd.prog.underlying 118 from by kernel_rfl,Tryd.underlying118]
  exact ⟨_,_,_,rfl,by decide,by decide,by decide,rfl,rfl,rfl,rfl,rfl,rfl⟩
 have hp:∀ (cs:Array Value) (o:Nat) (v:Value),cs[o]?=some v→(part 3 cs o).run Tryd.prog w = .ok v w:=by
  intro cs o v h
  simp [part,Ag.eq (P:=Tryd.prog) (t:=3) (b:=false),h]
 obtain ⟨a1,a2,a3⟩:=a
 obtain ⟨b1,b2,b3⟩:=b
 unfold Op.equal k3V
 rw [show Op.maxDepth=9999+1 from rfl,run_equalIn_struct w 9999 119 _ _ hf hs,h12]
 have hall:AllF Tryd.prog w 9999 #[.int .i64 a1,.int .i64 a2,.int .i64 a3] #[.int .i64 b1,.int .i64 b2,.int .i64 b3] [f1,f2,f3] [(.int .i64 a1,.int .i64 b1,a1 == b1),(.int .i64 a2,.int .i64 b2,a2 == b2),(.int .i64 a3,.int .i64 b3,a3 == b3)] :=
  ⟨⟨n1,by rw [o1,t1]; exact hp _ 0 _ rfl,by rw [o1,t1]; exact hp _ 0 _ rfl,by rw [t1]; exact run_equalIn_int w 9998 3 .i64 .i64 a1 b1 Tryd.underlying3⟩,
   ⟨n2,by rw [o2,t2]; exact hp _ 1 _ rfl,by rw [o2,t2]; exact hp _ 1 _ rfl,by rw [t2]; exact run_equalIn_int w 9998 3 .i64 .i64 a2 b2 Tryd.underlying3⟩,
   ⟨n3,by rw [o3,t3]; exact hp _ 2 _ rfl,by rw [o3,t3]; exact hp _ 2 _ rfl,by rw [t3]; exact run_equalIn_int w 9998 3 .i64 .i64 a3 b3 Tryd.underlying3⟩,trivial⟩
 rw [run_eqFields_all _ _ hall]
 by_cases h:a1=b1 <;> by_cases g:a2=b2 <;> by_cases q:a3=b3 <;> simp [h,g,q]
instance :MKey Tryd.prog 119 k3V where
 chk k e w:=by kernel_rfl
 find k es l w h:=by
  have h1:=find_asking (K:=k3V) (kt:=119) eqK3 k es l 0 w h
  have h2:(Instr.findKey 119 (k3V k) es).run Tryd.prog w=(Instr.findAsking 119 (k3V k) es 0).run Tryd.prog w:=by
   have hu:∃ fs,Tryd.prog.underlying 119=some (.struct fs):=⟨_,show Tryd.prog.underlying 119=some _ from (show Tryd.prog.underlying 119=Tryd.prog.underlying 118 from by kernel_rfl).trans Tryd.underlying118⟩
   obtain ⟨fs,hu⟩:=hu
   have hr:(underlying 119).run Tryd.prog w = .ok (.struct fs) w:=by simp [underlying,hu]
   cases es with
   | nil=>simp [Instr.findKey,hr,Instr.findNow,Instr.findAsking]
   | cons e es=>simp [Instr.findKey,hr,Instr.findNow,Instr.sameNow]
  rw [h2,h1]; simp
 same k:=by simp [Instr.sameBits]
def k3C (k:K3):List Value:=[.int .i64 k.1,.int .i64 k.2.1,.int .i64 k.2.2]
theorem k3C1 (k:K3):∀ v∈k3C k,v.oneCell'=true:=by intro v hv; simp only [k3C,List.mem_cons,List.not_mem_nil,or_false] at hv; rcases hv with rfl | rfl | rfl <;> rfl
/-- A window of a key, with its word. -/
def otOf (k:K3) (w:Int):Ot:=⟨k.1,k.2.1,k.2.2,w⟩
set_option maxHeartbeats 2000000 in
theorem out_fn (k : K3) (w : Int) :
  Rt Tryd.prog 62 [k3V k,.int .i64 w].toArray S w0 η (fun v η'=>v=otV (otOf k w)∧η'=η):=by
 have hF:=open_wide
 refine Rt.of (fn:=Tryd.f62) Tryd.func62 rfl rfl ?_
 refine T.seq ?_
 refine T.region ?_
 refine TL.box hF rfl rfl (fun b2=>?_)
 refine TL.alloc hF rfl (fun b4=>?_)
 refine TL.nil ?_
 refine TQ.then_n ?_
 refine T.seq ?_
 refine T.region ?_
 refine TL.fieldAddr hF rfl rfl ?_
 refine TL.load hF rfl (by first | exact At.own' (i:=0) rfl rfl | exact At.own' (i:=1) rfl rfl | exact At.own' (i:=2) rfl rfl | exact At.own' (i:=3) rfl rfl | exact At.own' (i:=4) rfl rfl | exact At.own' (i:=5) rfl rfl | exact At.own' (i:=6) rfl rfl | exact At.own' (i:=7) rfl rfl | exact At.own' (i:=8) rfl rfl | exact At.own' (i:=9) rfl rfl | exact At.own' (i:=10) rfl rfl | exact At.own' (i:=11) rfl rfl | exact At.own' (i:=12) rfl rfl) rfl ?_
 refine TL.fieldAddr hF rfl rfl ?_
 refine TL.load hF rfl (by first | exact At.own' (i:=0) rfl rfl | exact At.own' (i:=1) rfl rfl | exact At.own' (i:=2) rfl rfl | exact At.own' (i:=3) rfl rfl | exact At.own' (i:=4) rfl rfl | exact At.own' (i:=5) rfl rfl | exact At.own' (i:=6) rfl rfl | exact At.own' (i:=7) rfl rfl | exact At.own' (i:=8) rfl rfl | exact At.own' (i:=9) rfl rfl | exact At.own' (i:=10) rfl rfl | exact At.own' (i:=11) rfl rfl | exact At.own' (i:=12) rfl rfl) rfl ?_
 refine TL.fieldAddr hF rfl rfl ?_
 refine TL.load hF rfl (by first | exact At.own' (i:=0) rfl rfl | exact At.own' (i:=1) rfl rfl | exact At.own' (i:=2) rfl rfl | exact At.own' (i:=3) rfl rfl | exact At.own' (i:=4) rfl rfl | exact At.own' (i:=5) rfl rfl | exact At.own' (i:=6) rfl rfl | exact At.own' (i:=7) rfl rfl | exact At.own' (i:=8) rfl rfl | exact At.own' (i:=9) rfl rfl | exact At.own' (i:=10) rfl rfl | exact At.own' (i:=11) rfl rfl | exact At.own' (i:=12) rfl rfl) rfl ?_
 refine TL.move hF rfl rfl ?_
 refine TL.build hF rfl (r:=otV (otOf k w)) (fun w=>by kernel_rfl) rfl ?_
 refine TL.storeAs hF (otC (otOf k w)) (otC (otOf k w)) 0 (cs:=[.int .i64 0,.int .i64 0,.int .i64 0,.int .i64 0]) rfl rfl rfl rfl (otC1 _) (Nat.le_refl 4) rfl ?_
 refine TL.nil ?_
 refine TQ.then_n ?_
 refine T.ret ?_
 refine TQ.retC (otC (otOf k w)) η rfl rfl rfl (own_list (i:=0) (cs:=otC (otOf k w)) rfl) (List.Sublist.cons _ (List.sublist_cons_self _ _)) ⟨rfl,rfl⟩
/-- Numbers that are not large. -/
def SmO (x:Ot):Prop:=(-1099511627776<x.fr∧x.fr<1099511627776)∧(-1099511627776<x.to∧x.to<1099511627776)∧(-1099511627776<x.key∧x.key<1099511627776)
def cfO (e:Bool) (x y:Ot):Int:=if e=true∧x.to≠y.to then x.to - y.to else if x.fr≠y.fr then x.fr - y.fr else x.key - y.key
def ltO (e:Bool) (x y:Ot):Bool:=if e then tLt x y else oLt x y
theorem cfO_lt (e:Bool) (x y:Ot):decide (cfO e x y<0)=ltO e x y:=by
 unfold cfO ltO
 rw [Bool.eq_iff_iff,decide_eq_true_eq]
 cases e
 ·simp only [Bool.false_eq_true,false_and,if_false]
  rw [oLt_iff]
  by_cases h:x.fr=y.fr
  ·rw [if_neg (fun q=>q h)]; omega
  ·rw [if_pos h]; omega
 ·simp only [true_and,if_true]
  rw [tLt_iff]
  by_cases h:x.to=y.to
  ·rw [if_neg (fun q=>q h)]
   by_cases g:x.fr=y.fr
   ·rw [if_neg (fun q=>q g)]; omega
   ·rw [if_pos g]; omega
  ·rw [if_pos h]; omega
theorem ltO_irr (e:Bool) (x:Ot):ltO e x x=false:=by
 unfold ltO
 split
 ·exact tLt_irr x
 ·exact oLt_irr x
theorem ltO_tr (e:Bool) (x y z:Ot) (h1:ltO e x y=true) (h2:ltO e y z=true):ltO e x z=true:=by
 unfold ltO at *
 split
 ·rename_i h; rw [if_pos h] at h1 h2; exact tLt_tr x y z h1 h2
 ·rename_i h; rw [if_neg h] at h1 h2; exact oLt_tr x y z h1 h2
set_option maxHeartbeats 2000000 in
theorem cmpO_fn {e : Bool} {p : Nat} (hb : At S w0 [] ⟨p, 0, none⟩ (.bool e)) {x y : Ot} (hx : SmO x) (hy : SmO y) :
  Rt Tryd.prog 64 [otV x,otV y,ptr p].toArray S w0 [] (fun v _η'=>v = .int .i64 (cfO e x y)):=by
 have hF:=open_wide
 refine Rt.of (fn:=Tryd.f64) Tryd.func64 rfl rfl ?_
 refine T.seq ?_
 refine T.region ?_
 refine TL.box hF rfl rfl (fun b3=>?_)
 refine TL.box hF rfl rfl (fun b4=>?_)
 refine TL.assign hF rfl rfl ?_
 refine TL.nil ?_
 refine TQ.then_n ?_
 refine T.seq ?_
 refine T.seq ?_
 refine T.region ?_
 refine TL.load hF rfl (hb.up (by simp)) rfl ?_
 refine TL.move hF rfl rfl ?_
 refine TL.join [_,_,_,_,_,_] 13 (.bool (e && decide (x.to≠y.to))) rfl ?_ ?_
 ·refine TL.gb (t:=7) rfl (fun g1_7=>?_) (fun g1_7=>?_)
  ·refine TL.on rfl rfl rfl g1_7 ?_
   refine TL.fieldAddr hF rfl rfl ?_
   refine TL.on rfl rfl rfl g1_7 ?_
   refine TL.load hF rfl (by first | exact At.own' (i:=0) rfl rfl | exact At.own' (i:=1) rfl rfl | exact At.own' (i:=2) rfl rfl | exact At.own' (i:=3) rfl rfl | exact At.own' (i:=4) rfl rfl | exact At.own' (i:=5) rfl rfl | exact At.own' (i:=6) rfl rfl | exact At.own' (i:=7) rfl rfl | exact At.own' (i:=8) rfl rfl | exact At.own' (i:=9) rfl rfl | exact At.own' (i:=10) rfl rfl | exact At.own' (i:=11) rfl rfl | exact At.own' (i:=12) rfl rfl) rfl ?_
   refine TL.on rfl rfl rfl g1_7 ?_
   refine TL.fieldAddr hF rfl rfl ?_
   refine TL.on rfl rfl rfl g1_7 ?_
   refine TL.load hF rfl (by first | exact At.own' (i:=0) rfl rfl | exact At.own' (i:=1) rfl rfl | exact At.own' (i:=2) rfl rfl | exact At.own' (i:=3) rfl rfl | exact At.own' (i:=4) rfl rfl | exact At.own' (i:=5) rfl rfl | exact At.own' (i:=6) rfl rfl | exact At.own' (i:=7) rfl rfl | exact At.own' (i:=8) rfl rfl | exact At.own' (i:=9) rfl rfl | exact At.own' (i:=10) rfl rfl | exact At.own' (i:=11) rfl rfl | exact At.own' (i:=12) rfl rfl) rfl ?_
   refine TL.on rfl rfl rfl g1_7 ?_
   refine TL.bin hF rfl rfl rfl rfl ?_
   refine TL.pickT hF rfl g1_7 rfl rfl ?_
   refine TL.finJ ⟨?_,by repeat (first | exact trivial | refine ⟨rfl,?_⟩)⟩
   exact congrArg (fun z=>some (Value.bool z)) (by first | (rw [g1_7]; rfl) | (rw [g1_7]; simp; done) | (simp [*]; done))
  ·refine TL.off hF rfl rfl rfl g1_7 rfl ?_
   refine TL.off hF rfl rfl rfl g1_7 rfl ?_
   refine TL.off hF rfl rfl rfl g1_7 rfl ?_
   refine TL.off hF rfl rfl rfl g1_7 rfl ?_
   refine TL.off hF rfl rfl rfl g1_7 rfl ?_
   refine TL.pickF hF rfl g1_7 rfl rfl ?_
   refine TL.finJ ⟨?_,by repeat (first | exact trivial | refine ⟨rfl,?_⟩)⟩
   exact congrArg (fun z=>some (Value.bool z)) (by first | (rw [g1_7]; rfl) | (rw [g1_7]; simp; done) | (simp [*]; done))
 ·refine TL.nil ?_
  refine TQ.then_n ?_
  refine T.cond _ rfl (fun ht13=>?_) (fun ht13=>?_)
  ·refine T.seq ?_
   refine T.region ?_
   refine TL.fieldAddr hF rfl rfl ?_
   refine TL.load hF rfl (by first | exact At.own' (i:=0) rfl rfl | exact At.own' (i:=1) rfl rfl | exact At.own' (i:=2) rfl rfl | exact At.own' (i:=3) rfl rfl | exact At.own' (i:=4) rfl rfl | exact At.own' (i:=5) rfl rfl | exact At.own' (i:=6) rfl rfl | exact At.own' (i:=7) rfl rfl | exact At.own' (i:=8) rfl rfl | exact At.own' (i:=9) rfl rfl | exact At.own' (i:=10) rfl rfl | exact At.own' (i:=11) rfl rfl | exact At.own' (i:=12) rfl rfl) rfl ?_
   refine TL.fieldAddr hF rfl rfl ?_
   refine TL.load hF rfl (by first | exact At.own' (i:=0) rfl rfl | exact At.own' (i:=1) rfl rfl | exact At.own' (i:=2) rfl rfl | exact At.own' (i:=3) rfl rfl | exact At.own' (i:=4) rfl rfl | exact At.own' (i:=5) rfl rfl | exact At.own' (i:=6) rfl rfl | exact At.own' (i:=7) rfl rfl | exact At.own' (i:=8) rfl rfl | exact At.own' (i:=9) rfl rfl | exact At.own' (i:=10) rfl rfl | exact At.own' (i:=11) rfl rfl | exact At.own' (i:=12) rfl rfl) rfl ?_
   refine TL.sub hF rfl rfl (by unfold SmO at hx hy; omega) (by unfold SmO at hx hy; omega) rfl ?_
   refine TL.assign hF rfl rfl ?_
   refine TL.nil ?_
   refine TQ.then_n ?_
   refine T.ret ?_
   refine TQ.then_r ?_
   refine TQ.rets [5] _ rfl rfl rfl ?_
   show Value.int .i64 _=_
   simp only [Bool.and_eq_true,decide_eq_true_eq] at ht13
   unfold cfO; rw [if_pos ht13]
  ·refine T.skip ?_
   refine TQ.then_n ?_
   refine T.seq ?_
   refine T.seq ?_
   refine T.region ?_
   refine TL.fieldAddr hF rfl rfl ?_
   refine TL.load hF rfl (by first | exact At.own' (i:=0) rfl rfl | exact At.own' (i:=1) rfl rfl | exact At.own' (i:=2) rfl rfl | exact At.own' (i:=3) rfl rfl | exact At.own' (i:=4) rfl rfl | exact At.own' (i:=5) rfl rfl | exact At.own' (i:=6) rfl rfl | exact At.own' (i:=7) rfl rfl | exact At.own' (i:=8) rfl rfl | exact At.own' (i:=9) rfl rfl | exact At.own' (i:=10) rfl rfl | exact At.own' (i:=11) rfl rfl | exact At.own' (i:=12) rfl rfl) rfl ?_
   refine TL.fieldAddr hF rfl rfl ?_
   refine TL.load hF rfl (by first | exact At.own' (i:=0) rfl rfl | exact At.own' (i:=1) rfl rfl | exact At.own' (i:=2) rfl rfl | exact At.own' (i:=3) rfl rfl | exact At.own' (i:=4) rfl rfl | exact At.own' (i:=5) rfl rfl | exact At.own' (i:=6) rfl rfl | exact At.own' (i:=7) rfl rfl | exact At.own' (i:=8) rfl rfl | exact At.own' (i:=9) rfl rfl | exact At.own' (i:=10) rfl rfl | exact At.own' (i:=11) rfl rfl | exact At.own' (i:=12) rfl rfl) rfl ?_
   refine TL.bin hF rfl rfl rfl rfl ?_
   refine TL.nil ?_
   refine TQ.then_n ?_
   first | refine T.cond_d rfl (fun ht23=>?_) (fun ht23=>?_) | refine T.cond _ rfl (fun ht23=>?_) (fun ht23=>?_)
   ·refine T.seq ?_
    refine T.region ?_
    refine TL.fieldAddr hF rfl rfl ?_
    refine TL.load hF rfl (by first | exact At.own' (i:=0) rfl rfl | exact At.own' (i:=1) rfl rfl | exact At.own' (i:=2) rfl rfl | exact At.own' (i:=3) rfl rfl | exact At.own' (i:=4) rfl rfl | exact At.own' (i:=5) rfl rfl | exact At.own' (i:=6) rfl rfl | exact At.own' (i:=7) rfl rfl | exact At.own' (i:=8) rfl rfl | exact At.own' (i:=9) rfl rfl | exact At.own' (i:=10) rfl rfl | exact At.own' (i:=11) rfl rfl | exact At.own' (i:=12) rfl rfl) rfl ?_
    refine TL.fieldAddr hF rfl rfl ?_
    refine TL.load hF rfl (by first | exact At.own' (i:=0) rfl rfl | exact At.own' (i:=1) rfl rfl | exact At.own' (i:=2) rfl rfl | exact At.own' (i:=3) rfl rfl | exact At.own' (i:=4) rfl rfl | exact At.own' (i:=5) rfl rfl | exact At.own' (i:=6) rfl rfl | exact At.own' (i:=7) rfl rfl | exact At.own' (i:=8) rfl rfl | exact At.own' (i:=9) rfl rfl | exact At.own' (i:=10) rfl rfl | exact At.own' (i:=11) rfl rfl | exact At.own' (i:=12) rfl rfl) rfl ?_
    refine TL.sub hF rfl rfl (by unfold SmO at hx hy; omega) (by unfold SmO at hx hy; omega) rfl ?_
    refine TL.assign hF rfl rfl ?_
    refine TL.nil ?_
    refine TQ.then_n ?_
    refine T.ret ?_
    refine TQ.then_r ?_
    refine TQ.rets [5] _ rfl rfl rfl ?_
    show Value.int .i64 _=_
    rw [← Bool.not_eq_true] at ht13
    simp only [Bool.and_eq_true,decide_eq_true_eq] at ht13
    unfold cfO; rw [if_neg ht13,if_pos ht23]
   ·refine T.skip ?_
    refine TQ.then_n ?_
    refine T.seq ?_
    refine T.region ?_
    refine TL.fieldAddr hF rfl rfl ?_
    refine TL.load hF rfl (by first | exact At.own' (i:=0) rfl rfl | exact At.own' (i:=1) rfl rfl | exact At.own' (i:=2) rfl rfl | exact At.own' (i:=3) rfl rfl | exact At.own' (i:=4) rfl rfl | exact At.own' (i:=5) rfl rfl | exact At.own' (i:=6) rfl rfl | exact At.own' (i:=7) rfl rfl | exact At.own' (i:=8) rfl rfl | exact At.own' (i:=9) rfl rfl | exact At.own' (i:=10) rfl rfl | exact At.own' (i:=11) rfl rfl | exact At.own' (i:=12) rfl rfl) rfl ?_
    refine TL.fieldAddr hF rfl rfl ?_
    refine TL.load hF rfl (by first | exact At.own' (i:=0) rfl rfl | exact At.own' (i:=1) rfl rfl | exact At.own' (i:=2) rfl rfl | exact At.own' (i:=3) rfl rfl | exact At.own' (i:=4) rfl rfl | exact At.own' (i:=5) rfl rfl | exact At.own' (i:=6) rfl rfl | exact At.own' (i:=7) rfl rfl | exact At.own' (i:=8) rfl rfl | exact At.own' (i:=9) rfl rfl | exact At.own' (i:=10) rfl rfl | exact At.own' (i:=11) rfl rfl | exact At.own' (i:=12) rfl rfl) rfl ?_
    refine TL.sub hF rfl rfl (by unfold SmO at hx hy; omega) (by unfold SmO at hx hy; omega) rfl ?_
    refine TL.assign hF rfl rfl ?_
    refine TL.nil ?_
    refine TQ.then_n ?_
    refine T.ret ?_
    refine TQ.rets [5] _ rfl rfl rfl ?_
    show Value.int .i64 _=_
    rw [← Bool.not_eq_true] at ht13
    simp only [Bool.and_eq_true,decide_eq_true_eq] at ht13
    unfold cfO; rw [if_neg ht13,if_neg ht23]
open Go.Sort
theorem attO_flat {L:List Ot} (l:List {x // x∈L}):l.flatMap (fun x=>otC x.1)=(l.map (·.1)).flatMap otC:=by
 induction l with
 | nil=>rfl
 | cons x r ih=>rw [List.flatMap_cons,List.map_cons,List.flatMap_cons,ih]
theorem sortO_fn {e : Bool} {p b cap : Nat} {cur : Array Value} {et : TypeId} (hp : [(p, Obj.cells #[.bool e] 4 (0, 0))] ∈ η) {d : List Ot} (hs : ∀ x ∈ d, SmO x) (hone : ∀ x ∈ d, ∀ y ∈ d, ltO e x y = false → ltO e y x = false → x = y)
  (hcur:cur.toList.take (d.length*4)=d.flatMap otC) (hsz:d.length*4≤cur.size) (hm:d.length<1099511627776) (hb0:0<d.length) :
  Rt Tryd.prog 63 [.slice (some ⟨b,0,none⟩) d.length cap,.func (.func 64) #[] #[ptr p]].toArray S w0 ([(b,.cells cur et (0,0))]::η)
   (fun _ η'=>∃ (cur':Array Value) (L:List Ot),η'=[(b,.cells cur' et (0,0))]::η∧cur'.size=cur.size∧L.Perm d∧L.Pairwise (fun x y=>ltO e y x=false)∧cur'.toList.take (d.length*4)=L.flatMap otC):=by
 haveI:Inhabited {x // x∈d}:=⟨⟨d[0],List.getElem_mem hb0⟩⟩
 have he:∀ x y:{x // x∈d},ltOf (fun x y:{x // x∈d}=>cfO e x.1 y.1) x y=ltO e x.1 y.1:=fun x y=>cfO_lt e x.1 y.1
 have hO:SWO (ltOf fun x y:{x // x∈d}=>cfO e x.1 y.1):=by
  refine ⟨fun x=>by rw [he,ltO_irr],fun x y z h1 h2=>?_,fun x y z h1 h2=>?_⟩
  ·rw [he] at *; exact ltO_tr e _ _ _ h1 h2
  ·rw [he] at *
   unfold ltO at *
   rw [← Bool.not_eq_true] at *
   split
   ·rename_i q; rw [if_pos q] at h1 h2; rw [tLt_iff] at *; omega
   ·rename_i q; rw [if_neg q] at h1 h2; rw [oLt_iff] at *; omega
 have hfl:=attO_flat d.attach
 rw [List.attach_map_subtype_val] at hfl
 have h:=sortQ_rt2 (S:=S) (w0:=w0) (η:=η) (e:=et) (cap:=cap) Go.Proofs.Tryd.sortK 4 (fun w=>Ag.eq (P:=Tryd.prog) (t:=59) w) (fun w=>Go.Sl.run_sizeOf (P:=Tryd.prog) (t:=59) w) (fun x:{x // x∈d}=>otC x.1) (fun _=>rfl) (fun x=>otC1 x.1) (fun x y=>cfO e x.1 y.1) hO (fun x y h1 h2=>by
  rw [he] at h1 h2
  exact Subtype.ext (hone x.1 x.2 y.1 y.2 h1 h2)) 64 [ptr p] (b:=b) (cur:=cur) d.attach (by rw [List.length_attach,hfl]; exact hcur) (by rw [List.length_attach]; exact hsz) (by rw [List.length_attach]; exact hm) (by rw [List.length_attach]; exact hb0)
  (fun W cur' hW x y=>by
   have hmem:=hW.inMem (List.mem_cons_of_mem _ hp)
   refine cmpO_fn (e:=e) (p:=p) (.rd (Array.getElem?_eq_some_iff.1 hmem).1 ?_) (hs x.1 x.2) (hs y.1 y.2)
   simp [World.cell?,hmem])
 rw [List.length_attach] at h
 refine h.mono ?_
 rintro _ η' ⟨cur',h1,h2,h3⟩
 refine ⟨cur',(d.attach.mergeSort fun x y=>!(ltOf fun x y:{x // x∈d}=>cfO e x.1 y.1) y x).map (·.1),h1,h2,?_,?_,?_⟩
 ·have:=(List.mergeSort_perm d.attach fun x y=>!(ltOf fun x y:{x // x∈d}=>cfO e x.1 y.1) y x).map (·.1)
  rwa [List.attach_map_subtype_val] at this
 ·refine List.pairwise_map.2 ((List.pairwise_mergeSort (fun a b c h1 h2=>?_) (fun a b=>?_) d.attach).imp fun {a b} hab=>?_)
  ·rw [he,Bool.not_eq_true'] at *
   unfold ltO at *
   rw [← Bool.not_eq_true] at *
   split
   ·rename_i q; rw [if_pos q] at h1 h2; rw [tLt_iff] at *; omega
   ·rename_i q; rw [if_neg q] at h1 h2; rw [oLt_iff] at *; omega
  ·rw [he,he]
   unfold ltO
   split
   ·rw [Bool.or_eq_true,Bool.not_eq_true',Bool.not_eq_true',← Bool.not_eq_true,← Bool.not_eq_true,tLt_iff,tLt_iff]; omega
   ·rw [Bool.or_eq_true,Bool.not_eq_true',Bool.not_eq_true',← Bool.not_eq_true,← Bool.not_eq_true,oLt_iff,oLt_iff]; omega
  ·rw [he] at hab; simpa using hab
 ·rw [h3,attO_flat]
theorem sub_len {α:Type} [DecidableEq α]:∀ {l m:List α},l.Nodup→(∀ x∈l,x∈m)→l.length≤m.length
 | [],_,_,_=>Nat.zero_le _
 | x::r,m,hn,h=>by
  have hx:=h x (by simp)
  have hn':=List.nodup_cons.1 hn
  have:=sub_len (l:=r) (m:=m.erase x) hn'.2 fun y hy=>(List.mem_erase_of_ne (fun e=>hn'.1 (by rw [← e]; exact hy))).2 (h y (List.mem_cons_of_mem x hy))
  rw [List.length_erase_of_mem hx] at this
  have:=List.length_pos_of_mem hx
  simp only [List.length_cons]; omega
structure LI where
 done:List K3
 acc:List Ot
 seen:Array Nat
 a:Option Addr
 c:Nat
 g:Seg
/-- What was listed so far. -/
def AccOk (m:Mp) (done:List K3) (acc:List Ot):Prop:=acc.Nodup∧acc.length=done.length∧∀ x:Ot,x∈acc↔(x.fr,x.to,x.key)∈done∧mget (x.fr,x.to,x.key) m=some x.word
theorem acc_step {m:Mp} (hn:(m.map (·.1)).Nodup) {done:List K3} {acc:List Ot} (h:AccOk m done acc) {p:K3 × Int} (hp:p∈m) (hd:p.1 ∉ done):AccOk m (p.1::done) (acc++[otOf p.1 p.2]):=by
 obtain ⟨⟨q1,q2,q3⟩,pw⟩:=p
 obtain ⟨h1,h2,h3⟩:=h
 have hg:mget (q1,q2,q3) m=some pw:=mget_of_mem hn hp
 refine ⟨List.nodup_append.2 ⟨h1,by simp,fun a ha b hb e=>?_⟩,by simp [h2],fun x=>?_⟩
 ·rw [List.mem_singleton.1 hb] at e
  subst e
  exact hd ((h3 _).1 ha).1
 ·rw [List.mem_append,h3,List.mem_singleton,List.mem_cons]
  constructor
  ·rintro (⟨a1,a2⟩ | rfl)
   ·exact ⟨.inr a1,a2⟩
   ·exact ⟨.inl rfl,hg⟩
  ·rintro ⟨a1 | a1,a2⟩
   ·right
    rw [a1,hg] at a2
    obtain ⟨x1,x2,x3,x4⟩:=x
    simp only [Prod.mk.injEq,Option.some.injEq] at a1 a2
    obtain ⟨rfl,rfl,rfl⟩:=a1
    subst a2
    rfl
   ·exact .inl ⟨a1,a2⟩
theorem up_of_le {lt:Ot→Ot→Bool} {l L:List Ot} (hi:∀ x,lt x x=false) (ht:∀ a b c,lt a b=true→lt b c=true→lt a c=true) (hL:Up lt L) (hp:l.Perm L) (h:l.Pairwise fun x y=>lt y x=false):l=L:=by
 refine up_ext hi ht ?_ hL fun x=>hp.mem_iff
 have hn:l.Nodup:=hp.nodup_iff.2 (up_nodup hi hL)
 refine ((List.pairwise_iff_forall_sublist.2 fun {a b} hab=>?_))
 have h1:=List.pairwise_iff_forall_sublist.1 h hab
 have h2:a≠b:=List.pairwise_iff_forall_sublist.1 hn hab
 have ha:a∈L:=hp.mem_iff.1 (hab.subset (by simp))
 have hb:b∈L:=hp.mem_iff.1 (hab.subset (by simp))
 obtain ⟨i,hi1,rfl⟩:=List.mem_iff_getElem.1 ha
 obtain ⟨j,hj1,rfl⟩:=List.mem_iff_getElem.1 hb
 rcases Nat.lt_trichotomy i j with q | q | q
 ·exact List.pairwise_iff_getElem.1 hL i j hi1 hj1 q
 ·subst q; exact absurd rfl h2
 ·have:=List.pairwise_iff_getElem.1 hL j i hj1 hi1 q
  rw [h1] at this; cases this
theorem up_one {lt:Ot→Ot→Bool} {L:List Ot} (hL:Up lt L):∀ x∈L,∀ y∈L,lt x y=false→lt y x=false→x=y:=by
 intro x hx y hy h1 h2
 obtain ⟨i,hi1,rfl⟩:=List.mem_iff_getElem.1 hx
 obtain ⟨j,hj1,rfl⟩:=List.mem_iff_getElem.1 hy
 rcases Nat.lt_trichotomy i j with q | q | q
 ·have:=List.pairwise_iff_getElem.1 hL i j hi1 hj1 q
  rw [h1] at this; cases this
 ·subst q; rfl
 ·have:=List.pairwise_iff_getElem.1 hL j i hj1 hi1 q
  rw [h2] at this; cases this
theorem sortNone {P:Program} {ρ:Go.Shelf.Ren} (L:SlLaysF0.n6 P ρ) (p:Option Addr) (cap:Nat) (fv:Value):Rt P (ρ.f 6) #[.slice p 0 cap,fv] S w0 η (fun _ η'=>η'=η):=by
 intro w hh
 refine (AnyF.slices_SortFunc_none L p cap fv w).mono ?_
 rintro e2 w' ⟨rfl,rfl⟩
 exact ⟨_,η,rfl,hh,rfl⟩
theorem sortO_any {e : Bool} {p : Nat} {a : Option Addr} {cap : Nat} {g : Seg} (hp : [(p, Obj.cells #[.bool e] 4 (0, 0))] ∈ η) {d L : List Ot} (hs : ∀ x ∈ d, SmO x) (hup : Up (ltO e) L) (hper : d.Perm L) (hm : d.length < 1099511627776) (ho : OSl 59 4 (.slice a d.length cap) d.length (d.flatMap otC) g) :
  Rt Tryd.prog 63 [.slice a d.length cap,.func (.func 64) #[] #[ptr p]].toArray S w0 (g::η) (fun _ η'=>∃ g',η'=g'::η∧OSl 59 4 (.slice a d.length cap) d.length (L.flatMap otC) g'):=by
 rcases Nat.eq_zero_or_pos d.length with h0 | h0
 ·have hd:d=[]:=List.length_eq_zero_iff.1 h0
  subst hd
  have hL0:L=[]:=hper.symm.eq_nil
  subst hL0
  exact (sortNone Go.Proofs.Tryd.sortK a cap _).mono fun _ _ h=>⟨g,h,ho⟩
 ·obtain ⟨b,c2,cur,hv,rfl,_⟩:=OSl.ex ho h0
  simp only [Value.slice.injEq,true_and] at hv
  obtain ⟨rfl,rfl⟩:=hv
  obtain ⟨hl,hq⟩:=ho
  rcases hq with ⟨hv,_⟩ | ⟨b',c',cur',hv,hsg,hc,hz,ht⟩
  ·cases hv
  ·simp only [Value.slice.injEq,Option.some.injEq,Addr.mk.injEq,and_true,true_and] at hv
   obtain ⟨rfl,rfl⟩:=hv
   simp only [List.cons.injEq,Prod.mk.injEq,Obj.cells.injEq,and_true,true_and] at hsg
   subst hsg
   have hone:=up_one hup
   refine (sortO_fn (et:=59) (cap:=cap) hp hs (fun x hx y hy h1 h2=>hone x (hper.mem_iff.1 hx) y (hper.mem_iff.1 hy) h1 h2) ht (by rw [hz]; exact Nat.mul_le_mul_right _ hc) hm h0).mono ?_
   rintro _ η' ⟨cur2,L2,rfl,h1,h2,h3,h4⟩
   have e:L2=L:=up_of_le (ltO_irr e) (ltO_tr e) hup (h2.trans hper) h3
   subst e
   refine ⟨_,rfl,?_,.inr ⟨b,cap,cur2,rfl,rfl,hc,by rw [h1]; exact hz,h4⟩⟩
   rw [flat4,h2.length_eq]
set_option maxHeartbeats 2000000 in
theorem listed_fn {mb clock : Nat} {m : Mp} {es : Array MapEntry} (hmb : [(mb, Obj.map es clock)] ∈ η) (hm : MObj k3V iV m es clock) (hml : m.length < 1000000000) {e : Bool} {L : List Ot} (hup : Up (ltO e) L) (hL : ∀ x : Ot, x ∈ L ↔ mget (x.fr, x.to, x.key) m = some x.word) (hs : ∀ x ∈ L, SmO x) :
  Rt Tryd.prog 46 [.map (some mb),.bool e].toArray S w0 η (fun v η'=>∃ a c g,v = .slice a L.length c∧OSl 59 4 (.slice a L.length c) L.length (L.flatMap otC) g∧η'=g::η):=by
 have hF:=open_wide
 refine Rt.of (fn:=Tryd.f46) Tryd.func46 rfl rfl ?_
 refine T.seq ?_
 refine T.region ?_
 refine TL.box hF rfl rfl (fun b3=>?_)
 refine TL.assign hF rfl rfl ?_
 refine TL.nil ?_
 refine TQ.then_n ?_
 refine T.seq ?_
 refine T.region ?_
 refine TL.assign hF rfl rfl ?_
 refine TL.nil ?_
 refine TQ.then_n ?_
 refine T.seq ?_
 refine T.seq ?_
 refine T.region ?_
 refine TL.move hF rfl rfl ?_
 refine TL.range hF rfl (List.mem_cons_of_mem _ hmb) rfl (fun b9=>?_)
 refine TL.nil ?_
 refine TQ.then_n ?_
 refine T.block ?_
 refine T.hnil ?_
 refine T.loop (ι:=LI) (fun s=>AccOk m s.done s.acc∧ItOk m es s.seen s.done∧s.done.Nodup∧(∀ k∈s.done,k∈m.map (·.1))∧OSl 59 4 (.slice s.a s.acc.length s.c) s.acc.length (s.acc.flatMap otC) s.g) (fun s=>[(3,ptr b3),(4,.slice none 0 0),(5,.slice s.a s.acc.length s.c),(9,ptr b9)]) (fun s=>s.g::[(b9,Obj.mapIter (some mb) clock s.seen clock)]::[(b3,Obj.cells #[.bool e] 4 (0,0))]::η) (fun s=>(m.map (·.1)).length - s.done.length) ⟨[],[],#[],none,0,[]⟩ ⟨⟨List.nodup_nil,rfl,by simp⟩,ItOk.start m es,List.nodup_nil,by simp,OSl.nil _ _⟩ ⟨rfl,rfl,rfl,rfl,trivial⟩ rfl ?_
 rintro ⟨done,acc,seen,oa,oc,og⟩ ⟨hacc,hit,hnd,hsub,ho⟩
 dsimp only at hacc hit hnd hsub ho
 refine T.seq ?_
 refine T.region ?_
 refine TL.next hF 1 rfl rfl (by simp [hmb]) hm hit rfl (fun hover=>?_) (fun p10 seen10 hp10 hnd10 hit10 hent10=>?_)
 ·refine TL.extract hF rfl rfl rfl ?_
  refine TL.nil ?_
  refine TQ.then_n ?_
  refine T.seq ?_
  refine T.cond_f rfl rfl ?_
  refine T.exit ?_
  refine TQ.then_x ?_
  refine TQ.then_x ?_
  refine TQ.block_x ?_
  refine TQ.then_n ?_
  refine T.seq ?_
  refine T.region ?_
  refine TL.move hF rfl rfl ?_
  refine TL.makeFunc hF rfl rfl rfl ?_
  have hAm:∀ x,x∈acc↔x∈L:=fun x=>by
   rw [hacc.2.2,hL]
   constructor
   ·exact fun h=>h.2
   ·exact fun h=>⟨hover _ (mget_mem h),h⟩
  have hper:acc.Perm L:=(List.perm_ext_iff_of_nodup hacc.1 (up_nodup (ltO_irr e) hup)).2 hAm
  have hlen:acc.length=L.length:=hper.length_eq
  refine TL.pick' [0,2,1] [_,_,_] rfl rfl rfl ?_
  refine TL.call hF (sortO_any (η:=[(b3,Obj.cells #[.bool e] 4 (0,0))]::[(b9,Obj.mapIter (some mb) clock seen clock)]::η) (by simp) (fun x hx=>hs x ((hAm x).1 hx)) hup hper (by have:=hacc.2.1; have:=sub_len hnd hsub; rw [List.length_map] at this; omega) ho) rfl rfl ?_
  rintro _ _ ⟨g2,rfl,ho2⟩
  refine TL.nil ?_
  refine TQ.then_n ?_
  refine T.seq ?_
  refine T.region ?_
  refine TL.move hF rfl rfl ?_
  refine TL.assign hF rfl rfl ?_
  refine TL.nil ?_
  refine TQ.then_n ?_
  refine T.ret ?_
  refine TQ.hperm ([(b3,Obj.cells #[.bool e] 4 (0,0))]::[(b9,Obj.mapIter (some mb) clock seen clock)]::g2::η) (perm_cnt fun f=>by simp only [List.map_cons,List.sum_cons]; omega) ?_
  refine TQ.pop (TQ.pop ?_)
  refine TQ.rets [4] _ rfl rfl rfl ?_
  rw [← hlen]
  exact ⟨oa,oc,g2,rfl,ho2,rfl⟩
 ·refine TL.extract hF rfl rfl rfl ?_
  refine TL.nil ?_
  refine TQ.then_n ?_
  refine T.seq ?_
  refine T.cond_t rfl rfl ?_
  refine T.skip ?_
  refine TQ.then_n ?_
  refine T.block ?_
  refine T.seq ?_
  refine T.region ?_
  refine TL.entry hF rfl (List.mem_cons_of_mem _ List.mem_cons_self) (by simp [hmb]) hm hent10 rfl ?_
  refine TL.extract hF rfl rfl rfl ?_
  refine TL.extract hF rfl rfl rfl ?_
  refine TL.alloc hF rfl (fun b6=>?_)
  refine TL.storeAs hF (k3C p10.1) (k3C p10.1) 0 (cs:=[.int .i64 0,.int .i64 0,.int .i64 0]) rfl rfl rfl rfl (k3C1 _) (Nat.le_refl 3) rfl ?_
  refine TL.assign hF rfl rfl ?_
  refine TL.nil ?_
  refine TQ.then_n ?_
  refine T.region ?_
  refine TL.move hF rfl rfl ?_
  refine TL.loadA hF (k3C p10.1) rfl rfl (own_list (i:=0) (cs:=k3C p10.1) rfl) rfl ?_
  refine TL.move hF rfl rfl ?_
  refine TL.callV hF (out_fn p10.1 p10.2) rfl rfl ?_
  refine TL.buildSlice hF rfl (cs:=(otC (otOf p10.1 p10.2)).toArray) (e:=59) (fun w=>by kernel_rfl) rfl (fun bq=>?_)
  have hdl:(p10.1::done).length≤(m.map (·.1)).length:=sub_len (List.nodup_cons.2 ⟨hnd10,hnd⟩) (fun k hk=>by
   rcases List.mem_cons.1 hk with rfl | hk
   ·exact List.mem_map_of_mem hp10
   ·exact hsub k hk)
  have hal:acc.length=done.length:=hacc.2.1
  rw [List.length_map,List.length_cons] at hdl
  refine TL.append hF 2 rfl rfl rfl ho (row_own (cs:=otC (otOf p10.1 p10.2)) (e:=59) (by simp)).src rfl rfl (otC1 _) (by omega) (by omega) rfl (fun pa pc pg ph=>?_)
  refine TL.assign hF rfl rfl ?_
  refine TL.nil ?_
  refine TQ.block_n ?_
  rw [flat_snoc] at ph
  have hl1:(acc++[otOf p10.1 p10.2]).length=acc.length+1:=by simp
  refine TQ.pop (TQ.pop ?_)
  refine TQ.round ⟨p10.1::done,acc++[otOf p10.1 p10.2],seen10,pa,pc,pg⟩ ⟨acc_step hm.nd hacc hp10 hnd10,hit10,List.nodup_cons.2 ⟨hnd10,hnd⟩,fun k hk=>?_,by dsimp only; rw [hl1]; exact ph⟩ (by dsimp only; simp only [List.length_cons,List.length_map]; omega) ⟨rfl,rfl,by dsimp only; rw [hl1]; rfl,rfl,trivial⟩ rfl
  rcases List.mem_cons.1 hk with rfl | hk
  ·exact List.mem_map_of_mem hp10
  ·exact hsub k hk
end Go.Proofs.YtbajelldegijkaaDoor
/- What slides: a map that grows with each row. -/
namespace Go.Proofs.YtbajelldegijkaaDoor
open Go.Sl
variable {S:Nat→Prop} {w0:World} {η:Heap}
/-- Words as the values of a map. -/
def VWd (m:Mp):Prop:=∀ k v,mget k m=some v→Wd v
theorem VWd.nil:VWd []:=fun k v h=>by simp [mget] at h
theorem VWd.put {m:Mp} (h:VWd m) {k:K3} {v:Int} (hv:Wd v):VWd (mput k v m):=fun k' v' e=>by
 rw [mget_mput] at e
 split at e
 ·rw [← Option.some.inj e]; exact hv
 ·exact h k' v' e
theorem VWd.join {m:Mp} (h:VWd m) {f w:Int} (hw:Wd w) (k:K3):VWd (joinS f k w m):=by
 unfold joinS
 refine h.put ?_
 cases hg:mget k m with
 | none=>exact hw
 | some v=>exact wd_two (h k v hg) hw
theorem grown_snoc (f key w:Int) (ws:List (Int × Int)) (x:Int × Int) (m:Mp):grownGo f key w (ws++[x]) m=joinS f (x.1,x.2,key) w (grownGo f key w ws m):=by
 unfold grownGo; rw [List.foldl_append]; rfl
theorem VWd.grown {f key w:Int} (hw:Wd w):∀ {ws:List (Int × Int)} {m:Mp},VWd m→VWd (grownGo f key w ws m)
 | [],_,h=>h
 | x::r,_,h=>VWd.grown (ws:=r) hw (h.join hw (x.1,x.2,key))
set_option maxHeartbeats 2000000 in
theorem join_fn {mb clock : Nat} {m : Mp} {es : Array MapEntry} (hm : MObj k3V iV m es clock) (hv : VWd m) {s : Wsp} {k : K3} {w : Int} (hw : Wd w) :
  Rt Tryd.prog 123 [spV s,.map (some mb),k3V k,.int .i64 w].toArray S w0 ([(mb,Obj.map es clock)]::η) (fun _v η'=>∃ es' clock',MObj k3V iV (joinS s.fold k w m) es' clock'∧η'=[(mb,Obj.map es' clock')]::η):=by
 have hF:=open_wide
 refine Rt.of (fn:=Tryd.f123) Tryd.func123 rfl rfl ?_
 refine T.seq ?_
 refine T.region ?_
 refine TL.box hF rfl rfl (fun b4=>?_)
 refine TL.box hF rfl rfl (fun b6=>?_)
 refine TL.nil ?_
 refine TQ.then_n ?_
 refine T.seq ?_
 refine T.seq ?_
 refine T.region ?_
 refine TL.move hF rfl rfl ?_
 refine TL.loadA hF (k3C k) rfl rfl (own_list (i:=0) (cs:=k3C k) rfl) rfl ?_
 refine TL.lookupOk hF iV k rfl rfl (by simp) hm rfl ?_
 refine TL.move hF rfl rfl ?_
 refine TL.extract hF rfl rfl rfl ?_
 refine TL.extract hF rfl rfl rfl ?_
 refine TL.assign hF rfl rfl ?_
 refine TL.assign hF rfl rfl ?_
 refine TL.nil ?_
 refine TQ.then_n ?_
 refine T.seq ?_
 refine T.region ?_
 refine TL.move hF rfl rfl ?_
 refine TL.nil ?_
 refine TQ.then_n ?_
 refine T.cond _ rfl (fun ht16=>?_) (fun ht16=>?_)
 ·refine T.region ?_
  refine TL.fieldAddr hF rfl rfl ?_
  refine TL.fieldAddr hF rfl rfl ?_
  refine TL.load hF rfl (own_mem (b:=b4) (cs:=(spV s).cells) (e:=78) (fz:=(0,0)) (by simp) rfl) rfl ?_
  refine TL.move hF rfl rfl ?_
  refine TL.move hF rfl rfl ?_
  obtain ⟨v0,hg⟩:=Option.isSome_iff_exists.1 ht16
  rw [hg]
  refine TL.call hF (two_fn (f:=s.fold) (hv k v0 hg) hw) rfl rfl ?_
  rintro _ _ ⟨rfl,rfl⟩
  refine TL.assign hF rfl rfl ?_
  refine TL.nil ?_
  refine TQ.then_n ?_
  refine T.region ?_
  refine TL.move hF rfl rfl ?_
  refine TL.loadA hF (k3C k) rfl rfl (own_list (i:=0) (cs:=k3C k) rfl) rfl ?_
  refine TL.move hF rfl rfl ?_
  refine TL.mapUpdate hF 2 iV k _ rfl rfl rfl rfl hm (fun es4 clock4 hm4=>?_)
  refine TL.nil ?_
  refine TQ.norm ?_
  refine TQ.pop (TQ.pop ?_)
  refine TQ.rets [] _ rfl rfl rfl ⟨es4,clock4,?_,rfl⟩
  have e:joinS s.fold k w m=mput k (twoF s.fold v0 w) m:=by unfold joinS; rw [hg]
  rw [e]; exact hm4
 ·refine T.skip ?_
  refine TQ.then_n ?_
  refine T.region ?_
  refine TL.move hF rfl rfl ?_
  refine TL.loadA hF (k3C k) rfl rfl (own_list (i:=0) (cs:=k3C k) rfl) rfl ?_
  refine TL.move hF rfl rfl ?_
  refine TL.mapUpdate hF 2 iV k _ rfl rfl rfl rfl hm (fun es4 clock4 hm4=>?_)
  refine TL.nil ?_
  refine TQ.norm ?_
  refine TQ.pop (TQ.pop ?_)
  refine TQ.rets [] _ rfl rfl rfl ⟨es4,clock4,?_,rfl⟩
  have hg:mget k m=none:=by
   cases hq:mget k m with
   | none=>rfl
   | some v=>rw [hq] at ht16; cases ht16
  have e:joinS s.fold k w m=mput k w m:=by unfold joinS; rw [hg]
  rw [e]; exact hm4
set_option maxHeartbeats 2000000 in
theorem grown_fn {mb clock : Nat} {m : Mp} {es : Array MapEntry} (hm : MObj k3V iV m es clock) (hv : VWd m) {s : Wsp} {a : Option Addr} {l : List Rw} {c : Nat} {r : Rw} (hr : RRow S w0 η a l) (hl : l.length < 9223372036854775808) (h0 : 0 < l.length) (hrl : l[l.length - 1] = r) (ht : TimeOk s r.time) (hw : Wd r.word) :
    Rt Tryd.prog 121 [spV s,.map (some mb),.slice a l.length c].toArray S w0 ([(mb,Obj.map es clock)]::η) (fun v η'=>∃ es' clock',v = .map (some mb)∧MObj k3V iV (grownS s m r) es' clock'∧η'=[(mb,Obj.map es' clock')]::η):=by
  have hF:=open_wide
  refine Rt.ofL (fn:=Tryd.f121) Tryd.func121 rfl rfl ?_
  refine T.seq ?_
  refine T.region ?_
  refine TL.box hF rfl rfl (fun b3=>?_)
  refine TL.box hF rfl rfl (fun b4=>?_)
  refine TL.assign hF rfl rfl ?_
  refine TL.nil ?_
  refine TQ.then_n ?_
  refine T.seq ?_
  refine T.region ?_
  refine TL.move hF rfl rfl ?_
  refine TL.move hF rfl rfl ?_
  refine TL.len hF rfl rfl ?_
  refine TL.sub hF rfl rfl (by omega) (by omega) rfl ?_
  refine TL.indexAddr hF rfl rfl (rr_ad hr (i:=l.length - 1) (by omega)) (by omega) (by omega) rfl ?_
  have hrx:RRow S w0 ([(b4,Obj.cells #[.map (some mb)] 91 (0,0))]::[(b3,Obj.cells (spC s).toArray 125 (0,0))]::[(mb,Obj.map es clock)]::η) a l:=hr.up (fun s hs=>List.mem_cons_of_mem _ (List.mem_cons_of_mem _ (List.mem_cons_of_mem _ hs)))
  have hnx:((l.length:Int)-1).toNat=l.length - 1:=by omega
  refine TL.loadA hF (rwC r) rfl rfl (by rw [hnx,← hrl]; exact rr_at hrx (by omega)) rfl ?_
  refine TL.alloc hF rfl (fun b7=>?_)
  refine TL.storeAs hF (rwC r) (rwC r) 0 (cs:=[.int .i64 0,.int .i64 0,.int .i64 0]) rfl rfl rfl rfl (rwC1 _) (Nat.le_refl 3) rfl ?_
  refine TL.nil ?_
  refine TQ.then_n ?_
  refine T.seq ?_
  refine T.seq ?_
  refine T.region ?_
  refine TL.fieldAddr hF rfl rfl ?_
  refine TL.loadA hF (spC s) rfl rfl (own_list (i:=2) (cs:=spC s) rfl) rfl ?_
  refine TL.fieldAddr hF rfl rfl ?_
  refine TL.load hF rfl (own_mem (b:=b7) (cs:=(rwC r).toArray) (e:=57) (fz:=(0,0)) (by simp) rfl) rfl ?_
  refine TL.call hF (windows_fn (s:=s) (t:=r.time)) rfl rfl ?_
  rintro _ _ ⟨bt,bs,rfl,rfl⟩
  refine TL.nil ?_
  refine TQ.then_n ?_
  refine T.block ?_
  refine T.pick [5,0,1,2,3,4] [_,_,_,_,_,_] rfl rfl rfl ?_
  refine T.rangeFunc (fst:=[]) (cap:=[ptr bt,ptr bs]) rfl (windows_iter (s:=s) (t:=r.time) (bt:=bt) (bs:=bs) ht) (by
      intro e he; obtain ⟨z,_,rfl⟩:=List.mem_map.1 he; rfl) (by simp) (fun i η1=>∃ es1 clock1,η1=[(mb,Obj.map es1 clock1)]::[(bt,Obj.cells #[.int .i64 r.time] 3 (0,0))]::[(bs,Obj.cells (spC s).toArray 78 (0,0))]::[(b7,Obj.cells (rwC r).toArray 57 (0,0))]::[(b4,Obj.cells #[.map (some mb)] 91 (0,0))]::[(b3,Obj.cells (spC s).toArray 125 (0,0))]::η∧i≤countS s r.time∧MObj k3V iV (grownGo s.fold r.key (oneF s.fold r.word) ((spansS s r.time).take i) m) es1 clock1) (fun _ _=>False) ⟨es,clock,rfl,Nat.zero_le _,hm⟩ ?_ ?_ ?_ ?_
  · rintro i _ tl ⟨es1,clock1,rfl,_⟩
    exact ⟨by simp,by simp⟩
  · rintro lp tl tl' i e _ hie ⟨es1,clock1,rfl,hi,hm1⟩
    have hF:=open_round lp
    have hil:i<countS s r.time:=by have:=(List.getElem?_eq_some_iff.1 hie).1; rwa [spanE_len] at this
    rw [spanE_at hil] at hie
    cases hie
    refine T.seq ?_
    refine T.region ?_
    refine TL.assign hF rfl rfl ?_
    refine TL.nil ?_
    refine TQ.then_n ?_
    refine T.region ?_
    refine TL.assign hF rfl rfl ?_
    refine TL.nil ?_
    refine TQ.swapT _ rfl ?_
    refine T.block ?_
    refine T.draw ?_
    refine DR.stepV [_] rfl [(3,_,none)] rfl rfl ⟨⟨rfl,by kernel_rfl⟩,trivial⟩ (fun ext=>TL.fieldAddr hF rfl rfl TL.fin) ?_
    refine DR.stepV [_,_] rfl [(23,_,some 0)] rfl rfl ⟨⟨rfl,rfl,rfl⟩,trivial⟩ (fun ext=>TL.loadA hF (spC s) rfl rfl (own_listM (b:=b3) (cs:=spC s) (e:=125) (fz:=(0,0)) (by simp)) rfl TL.fin) ?_
    refine DR.stepV [_,_,_] rfl [(4,_,none)] rfl rfl ⟨⟨rfl,by kernel_rfl⟩,trivial⟩ (fun ext=>TL.load hF rfl (own_mem (b:=b4) (cs:=#[.map (some mb)]) (e:=91) (fz:=(0,0)) (by simp) rfl) rfl TL.fin) ?_
    refine DR.stepV [_,_,_,_] rfl [(8,_,none)] rfl rfl ⟨⟨rfl,by kernel_rfl⟩,trivial⟩ (fun ext=>TL.move hF rfl rfl TL.fin) ?_
    refine DR.stepV [_,_,_,_,_] rfl [(9,_,none)] rfl rfl ⟨⟨rfl,by kernel_rfl⟩,trivial⟩ (fun ext=>TL.move hF rfl rfl TL.fin) ?_
    refine DR.stepV [_,_,_,_,_,_] rfl [(7,_,none)] rfl rfl ⟨⟨rfl,by kernel_rfl⟩,trivial⟩ (fun ext=>TL.fieldAddr hF rfl rfl TL.fin) ?_
    refine DR.stepV [_,_,_,_,_,_,_] rfl [(28,_,some 5)] rfl rfl ⟨⟨rfl,rfl,rfl⟩,trivial⟩ (fun ext=>TL.load hF rfl (own_mem (b:=b7) (cs:=(rwC r).toArray) (e:=57) (fz:=(0,0)) (by simp) rfl) rfl TL.fin) ?_
    refine DR.stepV [_,_,_,_,_,_,_,_] rfl [(26,_,some 3),(27,_,some 4),(29,_,some 6)] rfl rfl ⟨⟨rfl,rfl,rfl⟩,⟨rfl,rfl,rfl⟩,⟨rfl,rfl,rfl⟩,trivial⟩ (fun ext=>TL.build hF rfl (r:=k3V ((firstS s r.time+i)*s.step,(firstS s r.time+i)*s.step+s.size,r.key)) (fun w=>by kernel_rfl) rfl TL.fin) ?_
    refine DR.stepV [_,_,_,_,_,_,_,_,_] rfl [(3,_,none)] rfl rfl ⟨⟨rfl,by kernel_rfl⟩,trivial⟩ (fun ext=>TL.fieldAddr hF rfl rfl TL.fin) ?_
    refine DR.stepV [_,_,_,_,_,_,_,_,_,_] rfl [(31,_,some 8)] rfl rfl ⟨⟨rfl,rfl,rfl⟩,trivial⟩ (fun ext=>TL.fieldAddr hF rfl rfl TL.fin) ?_
    refine DR.stepV [_,_,_,_,_,_,_,_,_,_,_] rfl [(32,_,some 9)] rfl rfl ⟨⟨rfl,rfl,rfl⟩,trivial⟩ (fun ext=>TL.fieldAddr hF rfl rfl TL.fin) ?_
    refine DR.stepV [_,_,_,_,_,_,_,_,_,_,_,_] rfl [(33,_,some 10)] rfl rfl ⟨⟨rfl,rfl,rfl⟩,trivial⟩ (fun ext=>TL.load hF rfl (own_mem (b:=b3) (cs:=(spC s).toArray) (e:=125) (fz:=(0,0)) (by simp) rfl) rfl TL.fin) ?_
    refine DR.stepV [_,_,_,_,_,_,_,_,_,_,_,_,_] rfl [(7,_,none)] rfl rfl ⟨⟨rfl,by kernel_rfl⟩,trivial⟩ (fun ext=>TL.fieldAddr hF rfl rfl TL.fin) ?_
    refine DR.stepV [_,_,_,_,_,_,_,_,_,_,_,_,_,_] rfl [(35,_,some 12)] rfl rfl ⟨⟨rfl,rfl,rfl⟩,trivial⟩ (fun ext=>TL.load hF rfl (own_mem (b:=b7) (cs:=(rwC r).toArray) (e:=57) (fz:=(0,0)) (by simp) rfl) rfl TL.fin) ?_
    refine DR.stepV [_,_,_,_,_,_,_,_,_,_,_,_,_,_,_] rfl [(34,_,some 11),(36,_,some 13)] rfl rfl ⟨⟨rfl,rfl,rfl⟩,⟨rfl,rfl,rfl⟩,trivial⟩ (fun ext=>TL.callV hF (one_fn (f:=s.fold) (w:=r.word)) rfl rfl TL.fin) ?_
    refine DR.done [(37,_),(36,_),(35,_),(34,_),(33,_),(32,_),(31,_),(30,_),(29,_),(28,_),(27,_),(26,_),(25,_),(24,_),(23,_)] [_] mixed (by kernel_rfl) (by kernel_rfl) (by kernel_rfl) rfl rfl ?_
    refine TL.call hF (join_fn hm1 (hv.grown (wd_one hw)) (s:=s) (wd_one hw)) rfl rfl ?_
    rintro _ _ ⟨es2,clock2,hm2,rfl⟩
    refine TL.nil ?_
    refine TQ.block_n ?_
    have hsl:i<(spansS s r.time).length:=by rw [spans_len]; exact hil
    have e1:(spansS s r.time).take (i+1)=(spansS s r.time).take i++[((firstS s r.time+i)*s.step,(firstS s r.time+i)*s.step+s.size)]:=by
      rw [List.take_succ_eq_append_getElem hsl]
      have:=spans_at hil
      rw [List.getElem?_eq_getElem hsl] at this
      rw [Option.some.inj this]
    refine TQ.rq_n ([(mb,Obj.map es2 clock2)]::[(bt,Obj.cells #[.int .i64 r.time] 3 (0,0))]::[(bs,Obj.cells (spC s).toArray 78 (0,0))]::[(b7,Obj.cells (rwC r).toArray 57 (0,0))]::[(b4,Obj.cells #[.map (some mb)] 91 (0,0))]::[(b3,Obj.cells (spC s).toArray 125 (0,0))]::η) rfl ⟨es2,clock2,rfl,by omega,?_⟩
    rw [e1,grown_snoc]; exact hm2
  · rintro mk _ ⟨es1,clock1,rfl,hi,hm1⟩
    rw [spanE_len] at hm1
    rw [List.take_of_length_le (by rw [spans_len]; exact Nat.le_refl _)] at hm1
    refine TQ.block_n ?_
    refine TQ.then_n ?_
    refine T.seq ?_
    refine T.region ?_
    refine TL.load hF rfl (own_mem (b:=b4) (cs:=#[.map (some mb)]) (e:=91) (fz:=(0,0)) (by simp) rfl) rfl ?_
    refine TL.assign hF rfl rfl ?_
    refine TL.nil ?_
    refine TQ.then_n ?_
    refine T.ret ?_
    refine TQ.mark (i:=0) (.inl rfl) rfl ?_
    refine TQ.hsub ([(mb,Obj.map es1 clock1)]::η) (List.Sublist.cons _ (List.Sublist.cons_cons _ (List.Sublist.cons _ (List.Sublist.cons _ (List.Sublist.cons _ (List.Sublist.cons _ (List.sublist_cons_self _ _))))))) ?_
    exact TQ.retL0 [6] [_] rfl rfl rfl ⟨es1,clock1,rfl,hm1,rfl⟩
  · rintro _ _ _ h; exact h.elim
def slideM (s:Wsp) (l:List Rw):Mp:=l.foldl (grownS s) []
theorem slide_snoc (s:Wsp) (l:List Rw) (r:Rw):slideM s (l++[r])=grownS s (slideM s l) r:=by unfold slideM; rw [List.foldl_append]; rfl
theorem slide_holds {s:Wsp} (hk:s.kind=0) (hs:WOk s):∀ (l:List Rw),Ws l→Holds (slideM s l) (allS s l):=by
 intro l
 induction l using snoc_ind with
 | h0=>intro _; exact holds_nil hs
 | h1 l r ih =>
  intro h
  rw [slide_snoc]
  exact grown_holds hk hs (fun x hx=>h x (by simp [hx])) (h r (by simp)) (ih fun x hx=>h x (by simp [hx]))
theorem slide_wd {s:Wsp}:∀ (l:List Rw),Ws l→VWd (slideM s l):=by
 intro l
 induction l using snoc_ind with
 | h0=>intro _; exact VWd.nil
 | h1 l r ih =>
  intro h
  rw [slide_snoc]
  exact VWd.grown (wd_one (h r (by simp))) (ih fun x hx=>h x (by simp [hx]))
theorem row_take {a:Option Addr} {l:List Rw} (h:RRow S w0 η a l) (i:Nat):RRow S w0 η a (l.take i):=by
 have e:l.flatMap rwC=(l.take i).flatMap rwC++(l.drop i).flatMap rwC:=by rw [← List.flatMap_append,List.take_append_drop]
 refine ⟨fun h0=>h.ad (by rw [e,List.length_append]; omega),fun j v hj=>h.cell j v ?_⟩
 have hlt:=(List.getElem?_eq_some_iff.1 hj).1
 rw [e,List.getElem?_append_left hlt]; exact hj
set_option maxHeartbeats 2000000 in
theorem spans_fn {s : Wsp} {a : Option Addr} {l : List Rw} {c : Nat} (hr : RRow S w0 η a l) (hl : l.length < 1000000) (hc : l.length ≤ c) (ht : ∀ r ∈ l, TimeOk s r.time) (hw : Ws l) :
    Rt Tryd.prog 122 [spV s,.slice a l.length c].toArray S w0 η (fun v η'=>∃ mb es clock,v = .map (some mb)∧MObj k3V iV (slideM s l) es clock∧η'=[(mb,Obj.map es clock)]::η):=by
  have hF:=open_wide
  refine Rt.of (fn:=Tryd.f122) Tryd.func122 rfl rfl ?_
  refine T.seq ?_
  refine T.region ?_
  refine TL.box hF rfl rfl (fun b2=>?_)
  refine TL.assign hF rfl rfl ?_
  refine TL.nil ?_
  refine TQ.then_n ?_
  refine T.seq ?_
  refine T.region ?_
  refine TL.makeMap hF rfl (fun b7=>?_)
  refine TL.assign hF rfl rfl ?_
  refine TL.nil ?_
  refine TQ.then_n ?_
  refine T.seq ?_
  refine T.seq ?_
  refine T.region ?_
  refine TL.move hF rfl rfl ?_
  refine TL.len hF rfl rfl ?_
  refine TL.move hF rfl rfl ?_
  refine TL.nil ?_
  refine TQ.then_n ?_
  refine T.block ?_
  refine T.loop (ι:=Nat × Array MapEntry × Nat) (fun s2=>s2.1≤l.length∧MObj k3V iV (slideM s (l.take s2.1)) s2.2.1 s2.2.2) (fun s2=>[(1,.slice a l.length c),(2,ptr b2),(4,.map none),(9,.int .i64 (l.length:Int)),(5,.map (some b7)),(10,.int .i64 (s2.1:Int))]) (fun s2=>[(b7,Obj.map s2.2.1 s2.2.2)]::[(b2,Obj.cells (spC s).toArray 125 (0,0))]::η) (fun s2=>l.length - s2.1) (0,#[],0) ⟨Nat.zero_le _,MObj.nil _ _⟩ ⟨rfl,rfl,rfl,rfl,rfl,rfl,trivial⟩ rfl ?_
  rintro ⟨i,es,clock⟩ ⟨hi,hm⟩
  dsimp only at hi hm
  refine T.seq ?_
  refine T.region ?_
  refine TL.bin hF rfl rfl rfl rfl ?_
  refine TL.nil ?_
  refine TQ.then_n ?_
  refine T.seq ?_
  first | refine T.cond_d rfl (fun ht11=>?_) (fun ht11=>?_) | refine T.cond _ rfl (fun ht11=>?_) (fun ht11=>?_)
  · refine T.skip ?_
    refine TQ.then_n ?_
    refine T.seq ?_
    refine T.block ?_
    refine T.seq ?_
    refine T.region ?_
    refine TL.move hF rfl rfl ?_
    refine TL.assign hF rfl rfl ?_
    refine TL.nil ?_
    refine TQ.then_n ?_
    have hil:i<l.length:=by have h:(i:Int)<(l.length:Int):=ht11; omega
    have htl:(l.take (i+1)).length=i+1:=by rw [List.length_take]; omega
    have hte:l.take (i+1)=l.take i++[l[i]]:=List.take_succ_eq_append_getElem hil
    refine T.draw ?_
    refine DR.stepV [_] rfl [(2,_,none)] rfl rfl ⟨⟨rfl,by kernel_rfl⟩,trivial⟩ (fun ext=>TL.loadA hF (spC s) rfl rfl (own_listM (b:=b2) (cs:=spC s) (e:=125) (fz:=(0,0)) (by simp)) rfl TL.fin) ?_
    refine DR.stepV [_,_] rfl [(5,_,none)] rfl rfl ⟨⟨rfl,by kernel_rfl⟩,trivial⟩ (fun ext=>TL.move hF rfl rfl TL.fin) ?_
    refine DR.stepV [_,_,_] rfl [(1,_,none)] rfl rfl ⟨⟨rfl,by kernel_rfl⟩,trivial⟩ (fun ext=>TL.move hF rfl rfl TL.fin) ?_
    refine DR.stepV [_,_,_,_] rfl [(6,_,none)] rfl rfl ⟨⟨rfl,by kernel_rfl⟩,trivial⟩ (fun ext=>TL.move hF rfl rfl TL.fin) ?_
    refine DR.stepV [_,_,_,_,_] rfl [(16,_,some 3)] rfl rfl ⟨⟨rfl,rfl,rfl⟩,trivial⟩ (fun ext=>TL.add hF rfl rfl (by dsimp only; omega) (by dsimp only; omega) rfl TL.fin) ?_
    refine DR.stepV [_,_,_,_,_,_] rfl [(15,_,some 2),(17,_,some 4)] rfl rfl ⟨⟨rfl,rfl,rfl⟩,⟨rfl,rfl,rfl⟩,trivial⟩ (fun ext=>(by
          refine TL.slice hF (i:=0) (j:=i+1) rfl rfl rfl (by omega) (by omega) rfl ?_
          rw [cut0']
          exact TL.fin)) ?_
    refine DR.done [(18,_),(17,_),(16,_),(15,_),(14,_),(13,_)] [_,_] mixed (by kernel_rfl) (by kernel_rfl) (by kernel_rfl) rfl rfl ?_
    have hw0:Ws (l.take i):=fun x hx=>hw x (List.mem_of_mem_take hx)
    have hgr:RRow S w0 ([(b2,Obj.cells (spC s).toArray 125 (0,0))]::η) a (l.take (i+1)):=row_take (hr.up (fun _ hs=>List.mem_cons_of_mem _ hs)) (i+1)
    have hcl:=grown_fn (c:=c) (mb:=b7) hm (slide_wd _ hw0) (s:=s) (r:=l[i]) hgr (by omega) (by omega) (by rw [List.getElem_take]; congr 1; omega) (ht l[i] (List.getElem_mem hil)) (hw _ (List.getElem_mem hil))
    rw [htl,← slide_snoc,← hte] at hcl
    refine TL.call hF hcl rfl rfl ?_
    rintro _ _ ⟨es2,clock2,rfl,hm2,rfl⟩
    refine TL.assign hF rfl rfl ?_
    refine TL.nil ?_
    refine TQ.block_n ?_
    refine TQ.then_n ?_
    refine T.region ?_
    refine TL.add hF rfl rfl (by dsimp only; omega) (by dsimp only; omega) rfl ?_
    refine TL.move hF rfl rfl ?_
    refine TL.nil ?_
    refine TQ.round (i+1,es2,clock2) ⟨by dsimp only; omega,hm2⟩ (by dsimp only; omega) ⟨rfl,rfl,rfl,rfl,rfl,rfl,trivial⟩ rfl
  · refine T.exit ?_
    refine TQ.then_x ?_
    refine TQ.then_x ?_
    refine TQ.block_x ?_
    refine TQ.then_n ?_
    refine T.seq ?_
    refine T.region ?_
    refine TL.move hF rfl rfl ?_
    refine TL.assign hF rfl rfl ?_
    refine TL.nil ?_
    refine TQ.then_n ?_
    refine T.ret ?_
    refine TQ.hperm ([(b2,Obj.cells (spC s).toArray 125 (0,0))]::[(b7,Obj.map es clock)]::η) (List.Perm.swap _ _ _) ?_
    refine TQ.pop ?_
    refine TQ.rets [4] _ rfl rfl rfl ?_
    have hie:l.length≤i:=by have h:¬ (i:Int)<(l.length:Int):=ht11; omega
    rw [List.take_of_length_le hie] at hm
    exact ⟨b7,es,clock,rfl,hm,rfl⟩
end Go.Proofs.YtbajelldegijkaaDoor
/- The library's stable sort: rows change places, and are put in. -/
namespace Go.Proofs.YtbajelldegijkaaDoor
open Go.Sl
variable {S:Nat→Prop} {w0:World} {η:Heap}
theorem wu64 {x:Int} (h0:0≤x) (h1:x<9223372036854775808):IntKind.u64.wrap x=x:=by
 simp only [IntKind.wrap,IntKind.bits,IntKind.signed]
 simp; omega
/-- Times that are not large. -/
def TB (d:List Rw):Prop:=∀ r∈d,-1099511627776<r.time∧r.time<1099511627776
def rowAt (d:List Rw) (n:Int):Rw:=d[n.toNat]?.getD default
theorem rowAt_eq {d:List Rw} {n:Int} (h:n.toNat<d.length):rowAt d n=d[n.toNat]:=by unfold rowAt; rw [List.getElem?_eq_getElem h]; rfl
theorem TB.at {d:List Rw} (h:TB d) {n:Int} (hn:n.toNat<d.length) : -1099511627776<(rowAt d n).time∧(rowAt d n).time<1099511627776:=by rw [rowAt_eq hn]; exact h _ (List.getElem_mem hn)
theorem TB.ch {a b:Nat} {d d':List Rw} (h:TB d) (c:Ch a b d d'):TB d':=fun r hr=>h r (c.perm.mem_iff.1 hr)
theorem gd_at {g:Nat} {d:List Rw} (hg:[(g,Obj.cells ((d).flatMap rwC).toArray 57 (0,0))]∈η) {n:Int} (h1:n.toNat<d.length):∀ j v,(rwC (rowAt d n))[j]?=some v→At S w0 η ⟨(sAt (some ⟨g,0,none⟩) (n.toNat*3)).block,(sAt (some ⟨g,0,none⟩) (n.toNat*3)).off+j,none⟩ v:=by
 rw [rowAt_eq h1]
 exact rr_at (row_own (cs:=d.flatMap rwC) (e:=57) hg) h1
theorem put_row {d:List Rw} {x:Rw} {o i:Nat} (ho:o=i*3) (h:i<d.length):(d.flatMap rwC).take o++rwC x++(d.flatMap rwC).drop (o+(rwC x).length)=(d.set i x).flatMap rwC:=by
 subst ho
 have e1:d=d.take i++d[i]::d.drop (i+1):=by rw [List.getElem_cons_drop,List.take_append_drop]
 have e2:d.set i x=d.take i++x::d.drop (i+1):=List.set_eq_take_append_cons_drop ▸ (if_pos h)
 have hl:(d.take i).length=i:=by rw [List.length_take]; omega
 have h3:((d.take i).flatMap rwC).length=i*3:=by rw [flat3,hl]
 have ea:(d.flatMap rwC)=(d.take i).flatMap rwC++(rwC d[i]++(d.drop (i+1)).flatMap rwC):=by
  conv=>lhs; rw [e1]
  rw [List.flatMap_append,List.flatMap_cons]
 rw [e2,List.flatMap_append,List.flatMap_cons,ea,List.take_left' h3]
 rw [show i*3+(rwC x).length=i*3+3 from rfl,← List.drop_drop,List.drop_left' h3,List.drop_left' (rwC_len _),List.append_assoc]
theorem le_off {o n L:Nat} (h:o=n*3) (g:n*3+3≤L):o+3≤L:=by omega
theorem flat3s {d:List Rw} {n:Nat} (h:n<d.length):n*3+3≤(d.flatMap rwC).length:=by rw [flat3]; omega
set_option maxHeartbeats 2000000 in
theorem cmp_fn {x y : Rw} (hx : -1099511627776 < x.time ∧ x.time < 1099511627776) (hy : -1099511627776 < y.time ∧ y.time < 1099511627776) :
  Rt Tryd.prog 115 [rwV x,rwV y].toArray S w0 η (fun v η'=>v = .int .i64 (x.time - y.time)∧η'=η):=by
 have hF:=open_wide
 refine Rt.of (fn:=Tryd.f115) Tryd.func115 rfl rfl ?_
 refine T.seq ?_
 refine T.region ?_
 refine TL.box hF rfl rfl (fun b2=>?_)
 refine TL.box hF rfl rfl (fun b3=>?_)
 refine TL.assign hF rfl rfl ?_
 refine TL.nil ?_
 refine TQ.then_n ?_
 refine T.seq ?_
 refine T.region ?_
 refine TL.fieldAddr hF rfl rfl ?_
 refine TL.load hF rfl (by first | exact At.own' (i:=0) rfl rfl | exact At.own' (i:=1) rfl rfl | exact At.own' (i:=2) rfl rfl | exact At.own' (i:=3) rfl rfl | exact At.own' (i:=4) rfl rfl | exact At.own' (i:=5) rfl rfl | exact At.own' (i:=6) rfl rfl | exact At.own' (i:=7) rfl rfl | exact At.own' (i:=8) rfl rfl | exact At.own' (i:=9) rfl rfl | exact At.own' (i:=10) rfl rfl | exact At.own' (i:=11) rfl rfl | exact At.own' (i:=12) rfl rfl) rfl ?_
 refine TL.fieldAddr hF rfl rfl ?_
 refine TL.load hF rfl (by first | exact At.own' (i:=0) rfl rfl | exact At.own' (i:=1) rfl rfl | exact At.own' (i:=2) rfl rfl | exact At.own' (i:=3) rfl rfl | exact At.own' (i:=4) rfl rfl | exact At.own' (i:=5) rfl rfl | exact At.own' (i:=6) rfl rfl | exact At.own' (i:=7) rfl rfl | exact At.own' (i:=8) rfl rfl | exact At.own' (i:=9) rfl rfl | exact At.own' (i:=10) rfl rfl | exact At.own' (i:=11) rfl rfl | exact At.own' (i:=12) rfl rfl) rfl ?_
 refine TL.sub hF rfl rfl (by omega) (by omega) rfl ?_
 refine TL.assign hF rfl rfl ?_
 refine TL.nil ?_
 refine TQ.then_n ?_
 refine T.ret ?_
 refine TQ.pop (TQ.pop ?_)
 exact TQ.rets [4] _ rfl rfl rfl ⟨rfl,rfl⟩
set_option maxHeartbeats 2000000 in
theorem swapR_fn {g : Nat} {d : List Rw} {a b n : Nat} {x y z : Int} (hx : x = a) (hy : y = b) (hz : z = n) (hd : d.length < 1000000) (hab : a + n ≤ b) (hb : b + n ≤ d.length) {fv : Value} :
  Rt Tryd.prog 120 [.slice (some ⟨g,0,none⟩) d.length d.length,.int .i64 x,.int .i64 y,.int .i64 z,fv].toArray S w0 ([(g,Obj.cells ((d).flatMap rwC).toArray 57 (0,0))]::η) (fun _v η'=>∃ d',Swd d d' a b n∧Ch a (b+n) d d'∧η'=[(g,Obj.cells ((d').flatMap rwC).toArray 57 (0,0))]::η):=by
 subst hx hy hz
 have hF:=open_wide
 refine Rt.of (fn:=Tryd.f120) Tryd.func120 rfl rfl ?_
 refine T.seq ?_
 refine T.region ?_
 refine TL.assign hF rfl rfl ?_
 refine TL.nil ?_
 refine TQ.then_n ?_
 refine T.block ?_
 refine T.loop (ι:=Nat × List Rw) (fun s=>s.1≤n∧Swd d s.2 a b s.1∧Ch a (b+n) d s.2) (fun s=>[(0,.slice (some ⟨g,0,none⟩) d.length d.length),(1,.int .i64 (a:Int)),(2,.int .i64 (b:Int)),(3,.int .i64 (n:Int)),(10,.int .i64 (s.1:Int))]) (fun s=>[(g,Obj.cells ((s.2).flatMap rwC).toArray 57 (0,0))]::η) (fun s=>n - s.1) (0,d) ⟨Nat.zero_le _,Swd.start,Ch.refl⟩ ⟨rfl,rfl,rfl,rfl,rfl,trivial⟩ rfl ?_
 rintro ⟨i,d1⟩ ⟨hi,hsw,hch⟩
 dsimp only at hi hsw hch
 have hl1:=hch.len
 refine T.seq ?_
 refine T.seq ?_
 refine T.region ?_
 refine TL.move hF rfl rfl ?_
 refine TL.move hF rfl rfl ?_
 refine TL.bin hF rfl rfl rfl rfl ?_
 refine TL.nil ?_
 refine TQ.then_n ?_
 first | refine T.cond_d rfl (fun ht13=>?_) (fun ht13=>?_) | refine T.cond _ rfl (fun ht13=>?_) (fun ht13=>?_)
 ·refine T.skip ?_
  refine TQ.then_n ?_
  refine T.seq ?_
  refine T.block ?_
  have hin:i<n:=by have h:(i:Int)<(n:Int):=ht13; omega
  refine T.drawH 22 mixed ?_
  refine DH.pure (i:=0) [(0,_,none)] rfl rfl rfl rfl ⟨⟨rfl,by kernel_rfl⟩,trivial⟩ (fun _ ext=>TL.move hF rfl rfl TL.fin) ?_
  refine DH.pure (i:=1) [(1,_,none)] rfl rfl rfl rfl ⟨⟨rfl,by kernel_rfl⟩,trivial⟩ (fun _ ext=>TL.move hF rfl rfl TL.fin) ?_
  refine DH.pure (i:=2) [(10,_,none)] rfl rfl rfl rfl ⟨⟨rfl,by kernel_rfl⟩,trivial⟩ (fun _ ext=>TL.move hF rfl rfl TL.fin) ?_
  refine DH.pure (i:=3) [(17,_,some 1),(18,_,some 2)] rfl rfl rfl rfl ⟨⟨rfl,rfl,rfl⟩,⟨rfl,rfl,rfl⟩,trivial⟩ (fun _ ext=>TL.add hF rfl rfl (by first | omega | (dsimp only; omega)) (by first | omega | (dsimp only; omega)) rfl TL.fin) ?_
  refine DH.pure (i:=4) [(0,_,none)] rfl rfl rfl rfl ⟨⟨rfl,by kernel_rfl⟩,trivial⟩ (fun _ ext=>TL.move hF rfl rfl TL.fin) ?_
  refine DH.pure (i:=5) [(2,_,none)] rfl rfl rfl rfl ⟨⟨rfl,by kernel_rfl⟩,trivial⟩ (fun _ ext=>TL.move hF rfl rfl TL.fin) ?_
  refine DH.pure (i:=6) [(10,_,none)] rfl rfl rfl rfl ⟨⟨rfl,by kernel_rfl⟩,trivial⟩ (fun _ ext=>TL.move hF rfl rfl TL.fin) ?_
  refine DH.pure (i:=7) [(21,_,some 5),(22,_,some 6)] rfl rfl rfl rfl ⟨⟨rfl,rfl,rfl⟩,⟨rfl,rfl,rfl⟩,trivial⟩ (fun _ ext=>TL.add hF rfl rfl (by first | omega | (dsimp only; omega)) (by first | omega | (dsimp only; omega)) rfl TL.fin) ?_
  refine DH.pure (i:=8) [(0,_,none)] rfl rfl rfl rfl ⟨⟨rfl,by kernel_rfl⟩,trivial⟩ (fun _ ext=>TL.move hF rfl rfl TL.fin) ?_
  refine DH.pure (i:=9) [(2,_,none)] rfl rfl rfl rfl ⟨⟨rfl,by kernel_rfl⟩,trivial⟩ (fun _ ext=>TL.move hF rfl rfl TL.fin) ?_
  refine DH.pure (i:=10) [(10,_,none)] rfl rfl rfl rfl ⟨⟨rfl,by kernel_rfl⟩,trivial⟩ (fun _ ext=>TL.move hF rfl rfl TL.fin) ?_
  refine DH.pure (i:=11) [(25,_,some 9),(26,_,some 10)] rfl rfl rfl rfl ⟨⟨rfl,rfl,rfl⟩,⟨rfl,rfl,rfl⟩,trivial⟩ (fun _ ext=>TL.add hF rfl rfl (by first | omega | (dsimp only; omega)) (by first | omega | (dsimp only; omega)) rfl TL.fin) ?_
  refine DH.pure (i:=12) [(24,_,some 8),(27,_,some 11)] rfl rfl rfl rfl ⟨⟨rfl,rfl,rfl⟩,⟨rfl,rfl,rfl⟩,trivial⟩ (fun _ ext=>TL.indexAddr hF rfl rfl ⟨_,rfl,rfl⟩ (by first | omega | (dsimp only; omega)) (by first | omega | (dsimp only; omega)) rfl TL.fin) ?_
  refine DH.read (i:=13) [(28,_,some 12)] rfl rfl rfl rfl ⟨⟨rfl,rfl,rfl⟩,trivial⟩ (fun ext=>TL.loadA hF (rwC (rowAt d1 ((b:Int)+(i:Int)))) rfl rfl (gd_at (n:=(b:Int)+(i:Int)) (by simp) (by first | omega | (dsimp only; omega))) rfl TL.fin) ?_
  refine DH.pure (i:=14) [(0,_,none)] rfl rfl rfl rfl ⟨⟨rfl,by kernel_rfl⟩,trivial⟩ (fun _ ext=>TL.move hF rfl rfl TL.fin) ?_
  refine DH.pure (i:=15) [(1,_,none)] rfl rfl rfl rfl ⟨⟨rfl,by kernel_rfl⟩,trivial⟩ (fun _ ext=>TL.move hF rfl rfl TL.fin) ?_
  refine DH.pure (i:=16) [(10,_,none)] rfl rfl rfl rfl ⟨⟨rfl,by kernel_rfl⟩,trivial⟩ (fun _ ext=>TL.move hF rfl rfl TL.fin) ?_
  refine DH.pure (i:=17) [(31,_,some 15),(32,_,some 16)] rfl rfl rfl rfl ⟨⟨rfl,rfl,rfl⟩,⟨rfl,rfl,rfl⟩,trivial⟩ (fun _ ext=>TL.add hF rfl rfl (by first | omega | (dsimp only; omega)) (by first | omega | (dsimp only; omega)) rfl TL.fin) ?_
  refine DH.pure (i:=18) [(30,_,some 14),(33,_,some 17)] rfl rfl rfl rfl ⟨⟨rfl,rfl,rfl⟩,⟨rfl,rfl,rfl⟩,trivial⟩ (fun _ ext=>TL.indexAddr hF rfl rfl ⟨_,rfl,rfl⟩ (by first | omega | (dsimp only; omega)) (by first | omega | (dsimp only; omega)) rfl TL.fin) ?_
  refine DH.read (i:=19) [(34,_,some 18)] rfl rfl rfl rfl ⟨⟨rfl,rfl,rfl⟩,trivial⟩ (fun ext=>TL.loadA hF (rwC (rowAt d1 ((a:Int)+(i:Int)))) rfl rfl (gd_at (n:=(a:Int)+(i:Int)) (by simp) (by first | omega | (dsimp only; omega))) rfl TL.fin) ?_
  refine DH.pure (i:=20) [(16,_,some 0),(19,_,some 3)] rfl rfl rfl rfl ⟨⟨rfl,rfl,rfl⟩,⟨rfl,rfl,rfl⟩,trivial⟩ (fun _ ext=>TL.indexAddr hF rfl rfl ⟨_,rfl,rfl⟩ (by first | omega | (dsimp only; omega)) (by first | omega | (dsimp only; omega)) rfl TL.fin) ?_
  refine DH.k1 (by kernel_rfl) (by kernel_rfl) (by kernel_rfl) (by kernel_rfl) (HBK.mk (h:=21) [] [(36,_,some 20),(29,_,some 13)] rfl rfl rfl ⟨⟨rfl,rfl,rfl⟩,⟨rfl,rfl,rfl⟩,trivial⟩ (by kernel_rfl) (fun ext=>?_))
  refine TL.storeAs hF (rwC (rowAt d1 ((b:Int)+(i:Int)))) ((d1).set ((a:Int)+(i:Int)).toNat (rowAt d1 ((b:Int)+(i:Int))) |>.flatMap rwC) 0 (cs:=(d1).flatMap rwC) rfl rfl rfl rfl (rwC1 _) (le_off (n:=((a:Int)+(i:Int)).toNat) (by simp) (flat3s (d:=d1) (by omega))) (put_row (i:=((a:Int)+(i:Int)).toNat) (by simp) (by omega)) ?_
  refine TL.finKN trivial ?_
  refine DH.done [(36,_),(35,_),(34,_),(33,_),(32,_),(31,_),(30,_),(29,_),(28,_),(27,_),(26,_),(25,_),(24,_),(23,_),(22,_),(21,_),(20,_),(19,_),(18,_),(17,_),(16,_)] [_,_] (by kernel_rfl) (by kernel_rfl) (by kernel_rfl) (by kernel_rfl) rfl rfl ?_
  refine TL.indexAddr hF rfl rfl ⟨_,rfl,rfl⟩ (by first | omega | (dsimp only; omega)) (by first | omega | (dsimp only; omega)) rfl ?_
  refine TL.storeAs hF (rwC (rowAt d1 ((a:Int)+(i:Int)))) ((d1.set ((a:Int)+(i:Int)).toNat (rowAt d1 ((b:Int)+(i:Int)))).set ((b:Int)+(i:Int)).toNat (rowAt d1 ((a:Int)+(i:Int))) |>.flatMap rwC) 0 (cs:=(d1.set ((a:Int)+(i:Int)).toNat (rowAt d1 ((b:Int)+(i:Int)))).flatMap rwC) rfl rfl rfl rfl (rwC1 _) (le_off (n:=((b:Int)+(i:Int)).toNat) (by simp) (flat3s (d:=d1.set ((a:Int)+(i:Int)).toNat (rowAt d1 ((b:Int)+(i:Int)))) (by rw [List.length_set]; omega))) (put_row (i:=((b:Int)+(i:Int)).toNat) (by simp) (by rw [List.length_set]; omega)) ?_
  refine TL.nil ?_
  refine TQ.block_n ?_
  refine TQ.then_n ?_
  refine T.region ?_
  refine TL.move hF rfl rfl ?_
  refine TL.add hF rfl rfl (by first | omega | (dsimp only; omega)) (by first | omega | (dsimp only; omega)) rfl ?_
  refine TL.assign hF rfl rfl ?_
  refine TL.nil ?_
  have e1:((a:Int)+(i:Int)).toNat=a+i:=by omega
  have e2:((b:Int)+(i:Int)).toNat=b+i:=by omega
  refine TQ.round (i+1,swp d1 (a+i) (b+i)) ⟨by dsimp only; omega,hsw.step (by omega) (by omega),hch.trans (swp_ch (by omega) (by omega) (by omega) (by omega) (by omega) (by omega))⟩ (by dsimp only; omega) ⟨rfl,rfl,rfl,rfl,rfl,trivial⟩ ?_
  dsimp only [List.set_cons_zero,rowAt]
  rw [e1,e2]
  rfl
 ·refine T.exit ?_
  refine TQ.then_x ?_
  refine TQ.then_x ?_
  refine TQ.block_x ?_
  refine TQ.norm ?_
  have hin:n≤i:=by have h:¬ (i:Int)<(n:Int):=ht13; omega
  have hie:i=n:=by omega
  subst hie
  exact TQ.rets [] _ rfl rfl rfl ⟨d1,hsw,hch,rfl⟩
theorem Rt.args {P:Program} {g:FuncId} {xs ys:Array Value} {R:Value→Heap→Prop} (h:Rt P g xs S w0 η R) (e:xs=ys):Rt P g ys S w0 η R:=e ▸ h
set_option maxHeartbeats 2000000 in
theorem rotate_fn {g : Nat} {d : List Rw} {a m b : Nat} {x y z : Int} (hx : x = a) (hy : y = m) (hz : z = b) (hd : d.length < 1000000) (ham : a < m) (hmb : m < b) (hb : b ≤ d.length) {fv : Value} :
    Rt Tryd.prog 119 [.slice (some ⟨g,0,none⟩) d.length d.length,.int .i64 x,.int .i64 y,.int .i64 z,fv].toArray S w0 ([(g,Obj.cells ((d).flatMap rwC).toArray 57 (0,0))]::η) (fun _v η'=>∃ d',Rot d d' a m b∧Ch a b d d'∧η'=[(g,Obj.cells ((d').flatMap rwC).toArray 57 (0,0))]::η):=by
  subst hx hy hz
  have hF:=open_wide
  refine Rt.of (fn:=Tryd.f119) Tryd.func119 rfl rfl ?_
  refine T.seq ?_
  refine T.region ?_
  refine TL.move hF rfl rfl ?_
  refine TL.move hF rfl rfl ?_
  refine TL.sub hF rfl rfl (by first | omega | (dsimp only; omega)) (by first | omega | (dsimp only; omega)) rfl ?_
  refine TL.assign hF rfl rfl ?_
  refine TL.nil ?_
  refine TQ.then_n ?_
  refine T.seq ?_
  refine T.region ?_
  refine TL.move hF rfl rfl ?_
  refine TL.move hF rfl rfl ?_
  refine TL.sub hF rfl rfl (by first | omega | (dsimp only; omega)) (by first | omega | (dsimp only; omega)) rfl ?_
  refine TL.assign hF rfl rfl ?_
  refine TL.nil ?_
  refine TQ.then_n ?_
  refine T.seq ?_
  refine T.block ?_
  refine T.loop (ι:=Nat × Nat × List Rw) (fun s=>0<s.1∧0<s.2.1∧a+s.1≤m∧m+s.2.1≤b∧Ch a b d s.2.2∧∀ d',Rot s.2.2 d' (m - s.1) m (m+s.2.1)→Rot d d' a m b) (fun s=>[(0,.slice (some ⟨g,0,none⟩) d.length d.length),(2,.int .i64 (m:Int)),(4,fv),(10,.int .i64 (s.1:Int)),(11,.int .i64 (s.2.1:Int))]) (fun s=>[(g,Obj.cells ((s.2.2).flatMap rwC).toArray 57 (0,0))]::η) (fun s=>s.1+s.2.1) (m - a,b - m,d) ⟨by dsimp only; omega,by dsimp only; omega,by dsimp only; omega,by dsimp only; omega,Ch.refl,fun d' h=>by dsimp only at h; rwa [show m - (m - a)=a by omega,show m+(b - m)=b by omega] at h⟩ ⟨rfl,rfl,rfl,congrArg (fun z=>some (Value.int .i64 z)) (by dsimp only; omega),congrArg (fun z=>some (Value.int .i64 z)) (by dsimp only; omega),trivial⟩ rfl ?_
  rintro ⟨i,j,d1⟩ ⟨hi,hj,hai,hmj,hch,hrot⟩
  dsimp only at hi hj hai hmj hch hrot
  have hl1:=hch.len
  refine T.seq ?_
  refine T.seq ?_
  refine T.region ?_
  refine TL.move hF rfl rfl ?_
  refine TL.move hF rfl rfl ?_
  refine TL.bin hF rfl rfl rfl rfl ?_
  refine TL.nil ?_
  refine TQ.then_n ?_
  refine T.cond _ rfl (fun ht20=>?_) (fun ht20=>?_)
  · refine T.skip ?_
    refine TQ.then_n ?_
    refine T.block ?_
    refine T.seq ?_
    refine T.region ?_
    refine TL.move hF rfl rfl ?_
    refine TL.move hF rfl rfl ?_
    refine TL.bin hF rfl rfl rfl rfl ?_
    refine TL.nil ?_
    refine TQ.then_n ?_
    first | refine T.cond_d rfl (fun ht23=>?_) (fun ht23=>?_) | refine T.cond _ rfl (fun ht23=>?_) (fun ht23=>?_)
    · refine T.seq ?_
      refine T.region ?_
      refine TL.move hF rfl rfl ?_
      refine TL.move hF rfl rfl ?_
      refine TL.move hF rfl rfl ?_
      refine TL.sub hF rfl rfl (by first | omega | (dsimp only; omega)) (by first | omega | (dsimp only; omega)) rfl ?_
      refine TL.move hF rfl rfl ?_
      refine TL.move hF rfl rfl ?_
      refine TL.move hF rfl rfl ?_
      have hlt0:j<i:=by have h:(j:Int)<(i:Int):=ht23; omega
      have hll:=hch.len
      have hsr:=swapR_fn (S:=S) (w0:=w0) (η:=η) (g:=g) (d:=d1) (a:=m - i) (b:=m) (n:=j) (fv:=fv) rfl rfl rfl (by omega) (by omega) (by omega)
      rw [hll] at hsr
      refine TL.call hF (Rt.args hsr (by simp; omega)) rfl rfl ?_
      rintro _ _ ⟨d2,hsw,hch2,rfl⟩
      refine TL.nil ?_
      refine TQ.then_n ?_
      refine T.region ?_
      refine TL.move hF rfl rfl ?_
      refine TL.move hF rfl rfl ?_
      refine TL.sub hF rfl rfl (by first | omega | (dsimp only; omega)) (by first | omega | (dsimp only; omega)) rfl ?_
      refine TL.assign hF rfl rfl ?_
      refine TL.nil ?_
      refine TQ.block_n ?_
      have hlt:j<i:=by have h:(j:Int)<(i:Int):=ht23; omega
      refine TQ.round (i - j,j,d2) ⟨by dsimp only; omega,by dsimp only; omega,by dsimp only; omega,by dsimp only; omega,hch.trans (hch2.wide (by omega) (by omega)),fun d' h=>hrot d' (Rot.left (by omega) hlt hsw h)⟩ (by dsimp only; omega) ⟨rfl,rfl,rfl,congrArg (fun z=>some (Value.int .i64 z)) (by first | rfl | (dsimp only; omega)),congrArg (fun z=>some (Value.int .i64 z)) (by first | rfl | (dsimp only; omega)),trivial⟩ rfl
    · refine T.seq ?_
      refine T.region ?_
      refine TL.move hF rfl rfl ?_
      refine TL.move hF rfl rfl ?_
      refine TL.move hF rfl rfl ?_
      refine TL.sub hF rfl rfl (by first | omega | (dsimp only; omega)) (by first | omega | (dsimp only; omega)) rfl ?_
      refine TL.move hF rfl rfl ?_
      refine TL.move hF rfl rfl ?_
      refine TL.add hF rfl rfl (by first | omega | (dsimp only; omega)) (by first | omega | (dsimp only; omega)) rfl ?_
      refine TL.move hF rfl rfl ?_
      refine TL.sub hF rfl rfl (by first | omega | (dsimp only; omega)) (by first | omega | (dsimp only; omega)) rfl ?_
      refine TL.move hF rfl rfl ?_
      refine TL.move hF rfl rfl ?_
      have hlt0:i<j:=by
        have h:¬ (j:Int)<(i:Int):=ht23
        have h2:¬ (i:Int)=(j:Int):=by simpa using ht20
        omega
      have hll:=hch.len
      have hsr:=swapR_fn (S:=S) (w0:=w0) (η:=η) (g:=g) (d:=d1) (a:=m - i) (b:=m+j - i) (n:=i) (fv:=fv) rfl rfl rfl (by omega) (by omega) (by omega)
      rw [hll] at hsr
      refine TL.call hF (Rt.args hsr (by simp; omega)) rfl rfl ?_
      rintro _ _ ⟨d2,hsw,hch2,rfl⟩
      refine TL.nil ?_
      refine TQ.then_n ?_
      refine T.region ?_
      refine TL.move hF rfl rfl ?_
      refine TL.move hF rfl rfl ?_
      refine TL.sub hF rfl rfl (by first | omega | (dsimp only; omega)) (by first | omega | (dsimp only; omega)) rfl ?_
      refine TL.assign hF rfl rfl ?_
      refine TL.nil ?_
      refine TQ.block_n ?_
      have hlt:i<j:=by
        have h:¬ (j:Int)<(i:Int):=ht23
        have h2:¬ (i:Int)=(j:Int):=by simpa using ht20
        omega
      refine TQ.round (i,j - i,d2) ⟨by dsimp only; omega,by dsimp only; omega,by dsimp only; omega,by dsimp only; omega,hch.trans (hch2.wide (by omega) (by omega)),fun d' h=>hrot d' (Rot.right (by omega) hlt hsw h)⟩ (by dsimp only; omega) ⟨rfl,rfl,rfl,congrArg (fun z=>some (Value.int .i64 z)) (by first | rfl | (dsimp only; omega)),congrArg (fun z=>some (Value.int .i64 z)) (by first | rfl | (dsimp only; omega)),trivial⟩ rfl
  · refine T.exit ?_
    refine TQ.then_x ?_
    refine TQ.then_x ?_
    refine TQ.block_x ?_
    refine TQ.then_n ?_
    refine T.region ?_
    refine TL.move hF rfl rfl ?_
    refine TL.move hF rfl rfl ?_
    refine TL.move hF rfl rfl ?_
    refine TL.sub hF rfl rfl (by first | omega | (dsimp only; omega)) (by first | omega | (dsimp only; omega)) rfl ?_
    refine TL.move hF rfl rfl ?_
    refine TL.move hF rfl rfl ?_
    refine TL.move hF rfl rfl ?_
    have hij0:(i:Int)=(j:Int):=by simpa using ht20
    have hll:=hch.len
    have hsr:=swapR_fn (S:=S) (w0:=w0) (η:=η) (g:=g) (d:=d1) (a:=m - i) (b:=m) (n:=i) (fv:=fv) rfl rfl rfl (by omega) (by omega) (by omega)
    rw [hll] at hsr
    refine TL.call hF (Rt.args hsr (by simp; omega)) rfl rfl ?_
    rintro _ _ ⟨d2,hsw,hch2,rfl⟩
    refine TL.nil ?_
    refine TQ.norm ?_
    have hij : j = i := by have h : (i : Int) = (j : Int) := by simpa using ht20
                           omega
    subst hij
    exact TQ.rets [] _ rfl rfl rfl ⟨d2,hrot _ (Rot.both (by omega) hsw),hch.trans (hch2.wide (by omega) (by omega)),rfl⟩
set_option maxHeartbeats 4000000 in
theorem ins_fn {g : Nat} {d : List Rw} {a b : Nat} {x y : Int} (hx : x = a) (hy : y = b) (hd : d.length < 1000000) (hb0 : TB d) (hab : a ≤ b) (hb : b ≤ d.length) :
  Rt Tryd.prog 117 [.slice (some ⟨g,0,none⟩) d.length d.length,.int .i64 x,.int .i64 y,.func (.func 115) #[] #[]].toArray S w0 ([(g,Obj.cells ((d).flatMap rwC).toArray 57 (0,0))]::η) (fun _v η'=>∃ d',Ch a b d d'∧SrtR d' a b∧η'=[(g,Obj.cells ((d').flatMap rwC).toArray 57 (0,0))]::η):=by
 subst hx hy
 have hF:=open_wide
 refine Rt.of (fn:=Tryd.f117) Tryd.func117 rfl rfl ?_
 refine T.seq ?_
 refine T.region ?_
 refine TL.move hF rfl rfl ?_
 refine TL.add hF rfl rfl (by first | omega | (dsimp only; omega)) (by first | omega | (dsimp only; omega)) rfl ?_
 refine TL.assign hF rfl rfl ?_
 refine TL.nil ?_
 refine TQ.then_n ?_
 refine T.block ?_
 refine T.loop (ι:=Nat × List Rw) (fun s=>a+1≤s.1∧(s.1≤b∨s.1=a+1)∧Ch a b d s.2∧SrtR s.2 a s.1) (fun s=>[(0,.slice (some ⟨g,0,none⟩) d.length d.length),(1,.int .i64 (a:Int)),(2,.int .i64 (b:Int)),(3,.func (.func 115) #[] #[]),(8,.int .i64 (s.1:Int))]) (fun s=>[(g,Obj.cells ((s.2).flatMap rwC).toArray 57 (0,0))]::η) (fun s=>b+1 - s.1) (a+1,d) ⟨Nat.le_refl _,.inr rfl,Ch.refl,SrtR.one (Nat.le_refl _)⟩ ⟨rfl,rfl,rfl,rfl,rfl,trivial⟩ rfl ?_
 rintro ⟨i,d1⟩ ⟨hi,hib,hch,hso⟩
 dsimp only at hi hib hch hso
 have hl1:=hch.len
 refine T.seq ?_
 refine T.seq ?_
 refine T.region ?_
 refine TL.move hF rfl rfl ?_
 refine TL.move hF rfl rfl ?_
 refine TL.bin hF rfl rfl rfl rfl ?_
 refine TL.nil ?_
 refine TQ.then_n ?_
 first | refine T.cond_d rfl (fun ht14=>?_) (fun ht14=>?_) | refine T.cond _ rfl (fun ht14=>?_) (fun ht14=>?_)
 ·refine T.skip ?_
  refine TQ.then_n ?_
  refine T.seq ?_
  refine T.block ?_
  refine T.seq ?_
  refine T.region ?_
  refine TL.move hF rfl rfl ?_
  refine TL.assign hF rfl rfl ?_
  refine TL.nil ?_
  refine TQ.then_n ?_
  refine T.block ?_
  have hilt:i<b:=by have h:(i:Int)<(b:Int):=ht14; omega
  refine T.loop (ι:=Nat × List Rw) (fun s=>a≤s.1∧s.1≤i∧InsD d1 s.2 s.1 i∧Ch a b d1 s.2∧∀ x,s.1≤x→x<i→tmA d1 i≤tmA d1 x) (fun s=>[(0,.slice (some ⟨g,0,none⟩) d.length d.length),(1,.int .i64 (a:Int)),(2,.int .i64 (b:Int)),(3,.func (.func 115) #[] #[]),(8,.int .i64 (i:Int)),(9,.int .i64 (s.1:Int))]) (fun s=>[(g,Obj.cells ((s.2).flatMap rwC).toArray 57 (0,0))]::η) (fun s=>s.1) (i,d1) ⟨by dsimp only; omega,Nat.le_refl _,InsD.start,Ch.refl,fun x h1 h2=>by dsimp only at h1; omega⟩ ⟨rfl,rfl,rfl,rfl,rfl,rfl,trivial⟩ rfl ?_
  rintro ⟨j,d2⟩ ⟨haj,hji,hins,hch2,hlow⟩
  dsimp only at haj hji hins hch2 hlow
  have hl2:=hch2.len
  have hb2:=(hb0.ch hch).ch hch2
  refine T.seq ?_
  refine T.seq ?_
  by_cases hja:a<j
  ·refine T.draw ?_
   refine DR.stepV [_] rfl [(9,_,none)] rfl rfl ⟨⟨rfl,by kernel_rfl⟩,trivial⟩ (fun ext=>TL.move hF rfl rfl TL.fin) ?_
   refine DR.stepV [_,_] rfl [(1,_,none)] rfl rfl ⟨⟨rfl,by kernel_rfl⟩,trivial⟩ (fun ext=>TL.move hF rfl rfl TL.fin) ?_
   refine DR.stepV [_,_,_] rfl [(18,_,some 0),(19,_,some 1)] rfl rfl ⟨⟨rfl,rfl,rfl⟩,⟨rfl,rfl,rfl⟩,trivial⟩ (fun ext=>TL.bin hF rfl rfl rfl rfl TL.fin) ?_
   refine DR.stepV [_,_,_,_] rfl [(20,_,some 2)] rfl rfl ⟨⟨rfl,rfl,rfl⟩,trivial⟩ (fun ext=>TL.move hF rfl rfl TL.fin) ?_
   refine DR.stepV [_,_,_,_,_] rfl [(3,_,none),(21,_,some 3)] rfl rfl ⟨⟨rfl,by kernel_rfl⟩,⟨rfl,rfl,rfl⟩,trivial⟩ (fun ext=>TL.on rfl rfl rfl (by simp; omega) <| TL.move hF rfl rfl TL.fin) ?_
   refine DR.stepV [_,_,_,_,_,_] rfl [(0,_,none),(21,_,some 3)] rfl rfl ⟨⟨rfl,by kernel_rfl⟩,⟨rfl,rfl,rfl⟩,trivial⟩ (fun ext=>TL.on rfl rfl rfl (by simp; omega) <| TL.move hF rfl rfl TL.fin) ?_
   refine DR.stepV [_,_,_,_,_,_,_] rfl [(9,_,none),(21,_,some 3)] rfl rfl ⟨⟨rfl,by kernel_rfl⟩,⟨rfl,rfl,rfl⟩,trivial⟩ (fun ext=>TL.on rfl rfl rfl (by simp; omega) <| TL.move hF rfl rfl TL.fin) ?_
   refine DR.stepV [_,_,_,_,_,_,_,_] rfl [(23,_,some 5),(24,_,some 6),(21,_,some 3)] rfl rfl ⟨⟨rfl,rfl,rfl⟩,⟨rfl,rfl,rfl⟩,⟨rfl,rfl,rfl⟩,trivial⟩ (fun ext=>TL.on rfl rfl rfl (by simp; omega) <| TL.indexAddr hF rfl rfl ⟨_,rfl,rfl⟩ (by first | omega | (dsimp only; omega)) (by first | omega | (dsimp only; omega)) rfl TL.fin) ?_
   refine DR.stepV [_,_,_,_,_,_,_,_,_] rfl [(25,_,some 7),(21,_,some 3)] rfl rfl ⟨⟨rfl,rfl,rfl⟩,⟨rfl,rfl,rfl⟩,trivial⟩ (fun ext=>TL.on rfl rfl rfl (by simp; omega) <| TL.loadA hF (rwC (rowAt d2 ((j:Int)))) rfl rfl (gd_at (n:=(j:Int)) (by simp) (by first | omega | (dsimp only; omega))) rfl TL.fin) ?_
   refine DR.stepV [_,_,_,_,_,_,_,_,_,_] rfl [(0,_,none),(21,_,some 3)] rfl rfl ⟨⟨rfl,by kernel_rfl⟩,⟨rfl,rfl,rfl⟩,trivial⟩ (fun ext=>TL.on rfl rfl rfl (by simp; omega) <| TL.move hF rfl rfl TL.fin) ?_
   refine DR.stepV [_,_,_,_,_,_,_,_,_,_,_] rfl [(9,_,none),(21,_,some 3)] rfl rfl ⟨⟨rfl,by kernel_rfl⟩,⟨rfl,rfl,rfl⟩,trivial⟩ (fun ext=>TL.on rfl rfl rfl (by simp; omega) <| TL.move hF rfl rfl TL.fin) ?_
   refine DR.stepV [_,_,_,_,_,_,_,_,_,_,_,_] rfl [(28,_,some 10),(21,_,some 3)] rfl rfl ⟨⟨rfl,rfl,rfl⟩,⟨rfl,rfl,rfl⟩,trivial⟩ (fun ext=>TL.on rfl rfl rfl (by simp; omega) <| TL.sub hF rfl rfl (by first | omega | (dsimp only; omega)) (by first | omega | (dsimp only; omega)) rfl TL.fin) ?_
   refine DR.stepV [_,_,_,_,_,_,_,_,_,_,_,_,_] rfl [(27,_,some 9),(29,_,some 11),(21,_,some 3)] rfl rfl ⟨⟨rfl,rfl,rfl⟩,⟨rfl,rfl,rfl⟩,⟨rfl,rfl,rfl⟩,trivial⟩ (fun ext=>TL.on rfl rfl rfl (by simp; omega) <| TL.indexAddr hF rfl rfl ⟨_,rfl,rfl⟩ (by first | omega | (dsimp only; omega)) (by first | omega | (dsimp only; omega)) rfl TL.fin) ?_
   refine DR.stepV [_,_,_,_,_,_,_,_,_,_,_,_,_,_] rfl [(30,_,some 12),(21,_,some 3)] rfl rfl ⟨⟨rfl,rfl,rfl⟩,⟨rfl,rfl,rfl⟩,trivial⟩ (fun ext=>TL.on rfl rfl rfl (by simp; omega) <| TL.loadA hF (rwC (rowAt d2 ((j:Int)-1))) rfl rfl (gd_at (n:=(j:Int)-1) (by simp) (by first | omega | (dsimp only; omega))) rfl TL.fin) ?_
   refine DR.done [(31,_),(30,_),(29,_),(28,_),(27,_),(26,_),(25,_),(24,_),(23,_),(22,_),(21,_),(20,_),(19,_),(18,_)] [_,_,_] mixed (by kernel_rfl) (by kernel_rfl) (by kernel_rfl) rfl rfl ?_
   refine TL.on rfl rfl rfl (by simp; omega) ?_
   refine TL.callV hF (cmp_fn (hb2.at (n:=(j:Int)) (by first | omega | (dsimp only; omega))) (hb2.at (n:=(j:Int)-1) (by first | omega | (dsimp only; omega)))) rfl rfl ?_
   refine TL.on rfl rfl rfl (by simp; omega) ?_
   refine TL.bin hF rfl rfl rfl rfl ?_
   refine TL.pickT hF rfl (by simp; omega) rfl rfl ?_
   refine TL.nil ?_
   refine TQ.then_n ?_
   first | refine T.cond_d rfl (fun ht34=>?_) (fun ht34=>?_) | refine T.cond _ rfl (fun ht34=>?_) (fun ht34=>?_)
   ·refine T.skip ?_
    refine TQ.then_n ?_
    refine T.seq ?_
    refine T.block ?_
    refine T.drawH 16 mixed ?_
    refine DH.pure (i:=0) [(0,_,none)] rfl rfl rfl rfl ⟨⟨rfl,by kernel_rfl⟩,trivial⟩ (fun _ ext=>TL.move hF rfl rfl TL.fin) ?_
    refine DH.pure (i:=1) [(9,_,none)] rfl rfl rfl rfl ⟨⟨rfl,by kernel_rfl⟩,trivial⟩ (fun _ ext=>TL.move hF rfl rfl TL.fin) ?_
    refine DH.pure (i:=2) [(0,_,none)] rfl rfl rfl rfl ⟨⟨rfl,by kernel_rfl⟩,trivial⟩ (fun _ ext=>TL.move hF rfl rfl TL.fin) ?_
    refine DH.pure (i:=3) [(9,_,none)] rfl rfl rfl rfl ⟨⟨rfl,by kernel_rfl⟩,trivial⟩ (fun _ ext=>TL.move hF rfl rfl TL.fin) ?_
    refine DH.pure (i:=4) [(40,_,some 3)] rfl rfl rfl rfl ⟨⟨rfl,rfl,rfl⟩,trivial⟩ (fun _ ext=>TL.sub hF rfl rfl (by first | omega | (dsimp only; omega)) (by first | omega | (dsimp only; omega)) rfl TL.fin) ?_
    refine DH.pure (i:=5) [(0,_,none)] rfl rfl rfl rfl ⟨⟨rfl,by kernel_rfl⟩,trivial⟩ (fun _ ext=>TL.move hF rfl rfl TL.fin) ?_
    refine DH.pure (i:=6) [(9,_,none)] rfl rfl rfl rfl ⟨⟨rfl,by kernel_rfl⟩,trivial⟩ (fun _ ext=>TL.move hF rfl rfl TL.fin) ?_
    refine DH.pure (i:=7) [(43,_,some 6)] rfl rfl rfl rfl ⟨⟨rfl,rfl,rfl⟩,trivial⟩ (fun _ ext=>TL.sub hF rfl rfl (by first | omega | (dsimp only; omega)) (by first | omega | (dsimp only; omega)) rfl TL.fin) ?_
    refine DH.pure (i:=8) [(42,_,some 5),(44,_,some 7)] rfl rfl rfl rfl ⟨⟨rfl,rfl,rfl⟩,⟨rfl,rfl,rfl⟩,trivial⟩ (fun _ ext=>TL.indexAddr hF rfl rfl ⟨_,rfl,rfl⟩ (by first | omega | (dsimp only; omega)) (by first | omega | (dsimp only; omega)) rfl TL.fin) ?_
    refine DH.read (i:=9) [(45,_,some 8)] rfl rfl rfl rfl ⟨⟨rfl,rfl,rfl⟩,trivial⟩ (fun ext=>TL.loadA hF (rwC (rowAt d2 ((j:Int)-1))) rfl rfl (gd_at (n:=(j:Int)-1) (by simp) (by first | omega | (dsimp only; omega))) rfl TL.fin) ?_
    refine DH.pure (i:=10) [(0,_,none)] rfl rfl rfl rfl ⟨⟨rfl,by kernel_rfl⟩,trivial⟩ (fun _ ext=>TL.move hF rfl rfl TL.fin) ?_
    refine DH.pure (i:=11) [(9,_,none)] rfl rfl rfl rfl ⟨⟨rfl,by kernel_rfl⟩,trivial⟩ (fun _ ext=>TL.move hF rfl rfl TL.fin) ?_
    refine DH.pure (i:=12) [(47,_,some 10),(48,_,some 11)] rfl rfl rfl rfl ⟨⟨rfl,rfl,rfl⟩,⟨rfl,rfl,rfl⟩,trivial⟩ (fun _ ext=>TL.indexAddr hF rfl rfl ⟨_,rfl,rfl⟩ (by first | omega | (dsimp only; omega)) (by first | omega | (dsimp only; omega)) rfl TL.fin) ?_
    refine DH.read (i:=13) [(49,_,some 12)] rfl rfl rfl rfl ⟨⟨rfl,rfl,rfl⟩,trivial⟩ (fun ext=>TL.loadA hF (rwC (rowAt d2 ((j:Int)))) rfl rfl (gd_at (n:=(j:Int)) (by simp) (by first | omega | (dsimp only; omega))) rfl TL.fin) ?_
    refine DH.pure (i:=14) [(37,_,some 0),(38,_,some 1)] rfl rfl rfl rfl ⟨⟨rfl,rfl,rfl⟩,⟨rfl,rfl,rfl⟩,trivial⟩ (fun _ ext=>TL.indexAddr hF rfl rfl ⟨_,rfl,rfl⟩ (by first | omega | (dsimp only; omega)) (by first | omega | (dsimp only; omega)) rfl TL.fin) ?_
    refine DH.k1 (by kernel_rfl) (by kernel_rfl) (by kernel_rfl) (by kernel_rfl) (HBK.mk (h:=15) [] [(51,_,some 14),(46,_,some 9)] rfl rfl rfl ⟨⟨rfl,rfl,rfl⟩,⟨rfl,rfl,rfl⟩,trivial⟩ (by kernel_rfl) (fun ext=>?_))
    refine TL.storeAs hF (rwC (rowAt d2 ((j:Int)-1))) ((d2).set ((j:Int)).toNat (rowAt d2 ((j:Int)-1)) |>.flatMap rwC) 0 (cs:=(d2).flatMap rwC) rfl rfl rfl rfl (rwC1 _) (le_off (n:=((j:Int)).toNat) (by simp) (flat3s (d:=d2) (by omega))) (put_row (i:=((j:Int)).toNat) (by simp) (by omega)) ?_
    refine TL.finKN trivial ?_
    refine DH.done [(51,_),(50,_),(49,_),(48,_),(47,_),(46,_),(45,_),(44,_),(43,_),(42,_),(41,_),(40,_),(39,_),(38,_),(37,_)] [_,_] (by kernel_rfl) (by kernel_rfl) (by kernel_rfl) (by kernel_rfl) rfl rfl ?_
    refine TL.indexAddr hF rfl rfl ⟨_,rfl,rfl⟩ (by first | omega | (dsimp only; omega)) (by first | omega | (dsimp only; omega)) rfl ?_
    refine TL.storeAs hF (rwC (rowAt d2 ((j:Int)))) ((d2.set ((j:Int)).toNat (rowAt d2 ((j:Int)-1))).set ((j:Int)-1).toNat (rowAt d2 ((j:Int))) |>.flatMap rwC) 0 (cs:=(d2.set ((j:Int)).toNat (rowAt d2 ((j:Int)-1))).flatMap rwC) rfl rfl rfl rfl (rwC1 _) (le_off (n:=((j:Int)-1).toNat) (by simp) (flat3s (d:=d2.set ((j:Int)).toNat (rowAt d2 ((j:Int)-1))) (by rw [List.length_set]; omega))) (put_row (i:=((j:Int)-1).toNat) (by simp) (by rw [List.length_set]; omega)) ?_
    refine TL.nil ?_
    refine TQ.block_n ?_
    refine TQ.then_n ?_
    refine T.region ?_
    refine TL.move hF rfl rfl ?_
    refine TL.sub hF rfl rfl (by first | omega | (dsimp only; omega)) (by first | omega | (dsimp only; omega)) rfl ?_
    refine TL.assign hF rfl rfl ?_
    refine TL.nil ?_
    have e1:((j:Int)).toNat=j:=by omega
    have e2:((j:Int)-1).toNat=j - 1:=by omega
    have hlt:tmA d1 i<tmA d1 (j - 1):=by
     have h:(rowAt d2 ((j:Int))).time - (rowAt d2 ((j:Int)-1)).time<0:=ht34
     unfold rowAt at h
     rw [e1,e2] at h
     have h1:=hins.tm j
     have h2:=hins.tm (j - 1)
     rw [if_neg (by omega),if_pos rfl] at h1
     rw [if_neg (by omega),if_neg (by omega)] at h2
     rw [← h1,← h2]
     unfold tmA; omega
    refine TQ.round (j - 1,swp d2 j (j - 1)) ⟨by dsimp only; omega,by dsimp only; omega,hins.step (by omega) hji (by omega),hch2.trans (swp_ch (by omega) (by omega) haj (by omega) (by omega) (by omega)),fun x h1 h2=>?_⟩ (by dsimp only; omega) ⟨rfl,rfl,rfl,rfl,rfl,congrArg (fun z=>some (Value.int .i64 z)) (by dsimp only; omega),trivial⟩ ?_
    ·dsimp only at h1
     rcases Nat.lt_or_ge x j with q | q
     ·rw [show x=j - 1 by omega]; omega
     ·exact hlow x q h2
    ·dsimp only [List.set_cons_zero,rowAt]
     rw [e1,e2]
     rfl
   ·refine T.exit ?_
    refine TQ.then_x ?_
    refine TQ.then_x ?_
    refine TQ.block_x ?_
    refine TQ.block_n ?_
    refine TQ.then_n ?_
    refine T.region ?_
    refine TL.move hF rfl rfl ?_
    refine TL.add hF rfl rfl (by first | omega | (dsimp only; omega)) (by first | omega | (dsimp only; omega)) rfl ?_
    refine TL.assign hF rfl rfl ?_
    refine TL.nil ?_
    have hlo:tmA d1 (j - 1)≤tmA d1 i:=by
     have h:¬ (rowAt d2 ((j:Int))).time - (rowAt d2 ((j:Int)-1)).time<0:=by simpa using ht34
     have e1:((j:Int)).toNat=j:=by omega
     have e2:((j:Int)-1).toNat=j - 1:=by omega
     unfold rowAt at h
     rw [e1,e2] at h
     have h1:=hins.tm j
     have h2:=hins.tm (j - 1)
     rw [if_neg (by omega),if_pos rfl] at h1
     rw [if_neg (by omega),if_neg (by omega)] at h2
     rw [← h1,← h2]
     unfold tmA; omega
    refine TQ.round (i+1,d2) ⟨by dsimp only; omega,.inl hilt,hch.trans hch2,srt_insD hso hins haj hji (.inr hlo) hlow⟩ (by dsimp only; omega) ⟨rfl,rfl,rfl,rfl,rfl,trivial⟩ rfl
  ·refine T.draw ?_
   refine DR.stepV [_] rfl [(9,_,none)] rfl rfl ⟨⟨rfl,by kernel_rfl⟩,trivial⟩ (fun ext=>TL.move hF rfl rfl TL.fin) ?_
   refine DR.stepV [_,_] rfl [(1,_,none)] rfl rfl ⟨⟨rfl,by kernel_rfl⟩,trivial⟩ (fun ext=>TL.move hF rfl rfl TL.fin) ?_
   refine DR.stepV [_,_,_] rfl [(18,_,some 0),(19,_,some 1)] rfl rfl ⟨⟨rfl,rfl,rfl⟩,⟨rfl,rfl,rfl⟩,trivial⟩ (fun ext=>TL.bin hF rfl rfl rfl rfl TL.fin) ?_
   refine DR.stepV [_,_,_,_] rfl [(20,_,some 2)] rfl rfl ⟨⟨rfl,rfl,rfl⟩,trivial⟩ (fun ext=>TL.move hF rfl rfl TL.fin) ?_
   refine DR.stepV [_,_,_,_,_] rfl [(3,_,none),(21,_,some 3)] rfl rfl ⟨⟨rfl,by kernel_rfl⟩,⟨rfl,rfl,rfl⟩,trivial⟩ (fun ext=>TL.off hF rfl rfl rfl (by simp; omega) rfl TL.fin) ?_
   refine DR.stepV [_,_,_,_,_,_] rfl [(0,_,none),(21,_,some 3)] rfl rfl ⟨⟨rfl,by kernel_rfl⟩,⟨rfl,rfl,rfl⟩,trivial⟩ (fun ext=>TL.off hF rfl rfl rfl (by simp; omega) rfl TL.fin) ?_
   refine DR.stepV [_,_,_,_,_,_,_] rfl [(9,_,none),(21,_,some 3)] rfl rfl ⟨⟨rfl,by kernel_rfl⟩,⟨rfl,rfl,rfl⟩,trivial⟩ (fun ext=>TL.off hF rfl rfl rfl (by simp; omega) rfl TL.fin) ?_
   refine DR.stepV [_,_,_,_,_,_,_,_] rfl [(23,_,some 5),(24,_,some 6),(21,_,some 3)] rfl rfl ⟨⟨rfl,rfl,rfl⟩,⟨rfl,rfl,rfl⟩,⟨rfl,rfl,rfl⟩,trivial⟩ (fun ext=>TL.off hF rfl rfl rfl (by simp; omega) rfl TL.fin) ?_
   refine DR.stepV [_,_,_,_,_,_,_,_,_] rfl [(25,_,some 7),(21,_,some 3)] rfl rfl ⟨⟨rfl,rfl,rfl⟩,⟨rfl,rfl,rfl⟩,trivial⟩ (fun ext=>TL.off hF rfl rfl rfl (by simp; omega) rfl TL.fin) ?_
   refine DR.stepV [_,_,_,_,_,_,_,_,_,_] rfl [(0,_,none),(21,_,some 3)] rfl rfl ⟨⟨rfl,by kernel_rfl⟩,⟨rfl,rfl,rfl⟩,trivial⟩ (fun ext=>TL.off hF rfl rfl rfl (by simp; omega) rfl TL.fin) ?_
   refine DR.stepV [_,_,_,_,_,_,_,_,_,_,_] rfl [(9,_,none),(21,_,some 3)] rfl rfl ⟨⟨rfl,by kernel_rfl⟩,⟨rfl,rfl,rfl⟩,trivial⟩ (fun ext=>TL.off hF rfl rfl rfl (by simp; omega) rfl TL.fin) ?_
   refine DR.stepV [_,_,_,_,_,_,_,_,_,_,_,_] rfl [(28,_,some 10),(21,_,some 3)] rfl rfl ⟨⟨rfl,rfl,rfl⟩,⟨rfl,rfl,rfl⟩,trivial⟩ (fun ext=>TL.off hF rfl rfl rfl (by simp; omega) rfl TL.fin) ?_
   refine DR.stepV [_,_,_,_,_,_,_,_,_,_,_,_,_] rfl [(27,_,some 9),(29,_,some 11),(21,_,some 3)] rfl rfl ⟨⟨rfl,rfl,rfl⟩,⟨rfl,rfl,rfl⟩,⟨rfl,rfl,rfl⟩,trivial⟩ (fun ext=>TL.off hF rfl rfl rfl (by simp; omega) rfl TL.fin) ?_
   refine DR.stepV [_,_,_,_,_,_,_,_,_,_,_,_,_,_] rfl [(30,_,some 12),(21,_,some 3)] rfl rfl ⟨⟨rfl,rfl,rfl⟩,⟨rfl,rfl,rfl⟩,trivial⟩ (fun ext=>TL.off hF rfl rfl rfl (by simp; omega) rfl TL.fin) ?_
   refine DR.done [(31,_),(30,_),(29,_),(28,_),(27,_),(26,_),(25,_),(24,_),(23,_),(22,_),(21,_),(20,_),(19,_),(18,_)] [_,_,_] mixed (by kernel_rfl) (by kernel_rfl) (by kernel_rfl) rfl rfl ?_
   refine TL.off hF rfl rfl rfl (by simp; omega) rfl ?_
   refine TL.off hF rfl rfl rfl (by simp; omega) rfl ?_
   refine TL.pickF hF rfl (by simp; omega) rfl rfl ?_
   refine TL.nil ?_
   refine TQ.then_n ?_
   refine T.cond_f rfl rfl ?_
   refine T.exit ?_
   refine TQ.then_x ?_
   refine TQ.then_x ?_
   refine TQ.block_x ?_
   refine TQ.block_n ?_
   refine TQ.then_n ?_
   refine T.region ?_
   refine TL.move hF rfl rfl ?_
   refine TL.add hF rfl rfl (by first | omega | (dsimp only; omega)) (by first | omega | (dsimp only; omega)) rfl ?_
   refine TL.assign hF rfl rfl ?_
   refine TL.nil ?_
   refine TQ.round (i+1,d2) ⟨by dsimp only; omega,.inl hilt,hch.trans hch2,srt_insD hso hins haj hji (.inl (by omega)) hlow⟩ (by dsimp only; omega) ⟨rfl,rfl,rfl,rfl,rfl,trivial⟩ rfl
 ·refine T.exit ?_
  refine TQ.then_x ?_
  refine TQ.then_x ?_
  refine TQ.block_x ?_
  refine TQ.norm ?_
  have hbi:b≤i:=by have h:¬ (i:Int)<(b:Int):=ht14; omega
  exact TQ.rets [] _ rfl rfl rfl ⟨d1,hch,hso.sub (Nat.le_refl _) hbi,rfl⟩
end Go.Proofs.YtbajelldegijkaaDoor
/- The library's stable sort: merging, and the whole. -/
namespace Go.Proofs.YtbajelldegijkaaDoor
open Go.Sl
variable {S:Nat→Prop} {w0:World} {η:Heap}
set_option maxHeartbeats 16000000 in
theorem sym_fn : ∀ (fu : Nat) {S : Nat → Prop} {w0 : World} {η : Heap} {g : Nat} {d : List Rw} {a m b : Nat} {x y z : Int}, x = a → y = m → z = b → b - a ≤ fu → d.length < 1000000 → TB d → a < m → m < b → b ≤ d.length → SrtR d a m → SrtR d m b →
  Rt Tryd.prog 118 [.slice (some ⟨g,0,none⟩) d.length d.length,.int .i64 x,.int .i64 y,.int .i64 z,.func (.func 115) #[] #[]].toArray S w0 ([(g,Obj.cells ((d).flatMap rwC).toArray 57 (0,0))]::η) (fun _v η'=>∃ d',Ch a b d d'∧SrtR d' a b∧η'=[(g,Obj.cells ((d').flatMap rwC).toArray 57 (0,0))]::η):=by
 intro fu
 induction fu with
 | zero=>intro S w0 η g d a m b x y z _ _ _ h _ _ h1 h2; omega
 | succ fu ih =>
 intro S w0 η g d a m b x y z hx hy hz hfu hd hb0 ham hmb hb hs1 hs2
 subst hx hy hz
 have hF:=open_wide
 refine Rt.of (fn:=Tryd.f118) Tryd.func118 rfl rfl ?_
 refine T.seq ?_
 refine T.seq ?_
 refine T.region ?_
 refine TL.move hF rfl rfl ?_
 refine TL.move hF rfl rfl ?_
 refine TL.sub hF rfl rfl (by first | omega | (dsimp only; omega)) (by first | omega | (dsimp only; omega)) rfl ?_
 refine TL.bin hF rfl rfl rfl rfl ?_
 refine TL.nil ?_
 refine TQ.then_n ?_
 refine T.cond_d rfl (fun ht28=>?_) (fun ht28=>?_)
 ·refine T.seq ?_
  refine T.region ?_
  refine TL.move hF rfl rfl ?_
  refine TL.assign hF rfl rfl ?_
  refine TL.nil ?_
  refine TQ.then_n ?_
  refine T.seq ?_
  refine T.region ?_
  refine TL.move hF rfl rfl ?_
  refine TL.assign hF rfl rfl ?_
  refine TL.nil ?_
  refine TQ.then_n ?_
  refine T.seq ?_
  refine T.block ?_
  have hm1:m=a+1:=by omega
  refine T.loop (ι:=Nat × Nat) (fun s=>m≤s.1∧s.1≤s.2∧s.2≤b∧(m<s.1→tmA d (s.1 - 1)<tmA d a)∧(s.2<b→tmA d a≤tmA d s.2)) (fun s=>[(0,.slice (some ⟨g,0,none⟩) d.length d.length),(1,.int .i64 (a:Int)),(2,.int .i64 (m:Int)),(3,.int .i64 (b:Int)),(4,.func (.func 115) #[] #[]),(10,.int .i64 (s.1:Int)),(11,.int .i64 (s.2:Int))]) (fun _=>[(g,Obj.cells ((d).flatMap rwC).toArray 57 (0,0))]::η) (fun s=>s.2 - s.1) (m,b) ⟨Nat.le_refl _,by dsimp only; omega,Nat.le_refl _,fun h=>by dsimp only at h; omega,fun h=>by dsimp only at h; omega⟩ ⟨rfl,rfl,rfl,rfl,rfl,rfl,rfl,trivial⟩ rfl ?_
  rintro ⟨i,j⟩ ⟨hi,hij,hjb,hlo,hhi⟩
  dsimp only at hi hij hjb hlo hhi
  refine T.seq ?_
  refine T.seq ?_
  refine T.region ?_
  refine TL.move hF rfl rfl ?_
  refine TL.move hF rfl rfl ?_
  refine TL.bin hF rfl rfl rfl rfl ?_
  refine TL.nil ?_
  refine TQ.then_n ?_
  first | refine T.cond_d rfl (fun ht33=>?_) (fun ht33=>?_) | refine T.cond _ rfl (fun ht33=>?_) (fun ht33=>?_)
  ·refine T.skip ?_
   refine TQ.then_n ?_
   refine T.block ?_
   refine T.seq ?_
   refine T.region ?_
   refine TL.move hF rfl rfl ?_
   refine TL.move hF rfl rfl ?_
   refine TL.add hF rfl rfl (by first | omega | (dsimp only; omega)) (by first | omega | (dsimp only; omega)) rfl ?_
   refine TL.convK hF (r:=((i+j:Nat):Int)) rfl (by rw [wu64 (by omega) (by omega)]; omega) rfl ?_
   refine TL.shrN hF (a:=i+j) (s:=1) rfl rfl (by decide) rfl ?_
   refine TL.convK hF (r:=(((i+j) / 2 ^ 1:Nat):Int)) rfl (wrap_i64 (by omega) (by omega)) rfl ?_
   refine TL.assign hF rfl rfl ?_
   refine TL.nil ?_
   refine TQ.then_n ?_
   refine T.seq ?_
   have hltij:i<j:=by have h:(i:Int)<(j:Int):=ht33; omega
   have hhj:((i+j) / 2 ^ 1:Nat)<j∧i≤((i+j) / 2 ^ 1:Nat):=by omega
   refine T.draw ?_
   refine DR.stepV [_] rfl [(4,_,none)] rfl rfl ⟨⟨rfl,by kernel_rfl⟩,trivial⟩ (fun ext=>TL.move hF rfl rfl TL.fin) ?_
   refine DR.stepV [_,_] rfl [(0,_,none)] rfl rfl ⟨⟨rfl,by kernel_rfl⟩,trivial⟩ (fun ext=>TL.move hF rfl rfl TL.fin) ?_
   refine DR.stepV [_,_,_] rfl [(12,_,none)] rfl rfl ⟨⟨rfl,by kernel_rfl⟩,trivial⟩ (fun ext=>TL.move hF rfl rfl TL.fin) ?_
   refine DR.stepV [_,_,_,_] rfl [(41,_,some 1),(42,_,some 2)] rfl rfl ⟨⟨rfl,rfl,rfl⟩,⟨rfl,rfl,rfl⟩,trivial⟩ (fun ext=>TL.indexAddr hF rfl rfl ⟨_,rfl,rfl⟩ (by first | omega | (dsimp only; omega)) (by first | omega | (dsimp only; omega)) rfl TL.fin) ?_
   refine DR.stepV [_,_,_,_,_] rfl [(43,_,some 3)] rfl rfl ⟨⟨rfl,rfl,rfl⟩,trivial⟩ (fun ext=>TL.loadA hF (rwC (rowAt d ((((i+j) / 2 ^ 1:Nat):Int)))) rfl rfl (gd_at (n:=(((i+j) / 2 ^ 1:Nat):Int)) (by simp) (by first | omega | (dsimp only; omega))) rfl TL.fin) ?_
   refine DR.stepV [_,_,_,_,_,_] rfl [(0,_,none)] rfl rfl ⟨⟨rfl,by kernel_rfl⟩,trivial⟩ (fun ext=>TL.move hF rfl rfl TL.fin) ?_
   refine DR.stepV [_,_,_,_,_,_,_] rfl [(1,_,none)] rfl rfl ⟨⟨rfl,by kernel_rfl⟩,trivial⟩ (fun ext=>TL.move hF rfl rfl TL.fin) ?_
   refine DR.stepV [_,_,_,_,_,_,_,_] rfl [(45,_,some 5),(46,_,some 6)] rfl rfl ⟨⟨rfl,rfl,rfl⟩,⟨rfl,rfl,rfl⟩,trivial⟩ (fun ext=>TL.indexAddr hF rfl rfl ⟨_,rfl,rfl⟩ (by first | omega | (dsimp only; omega)) (by first | omega | (dsimp only; omega)) rfl TL.fin) ?_
   refine DR.stepV [_,_,_,_,_,_,_,_,_] rfl [(47,_,some 7)] rfl rfl ⟨⟨rfl,rfl,rfl⟩,trivial⟩ (fun ext=>TL.loadA hF (rwC (rowAt d ((a:Int)))) rfl rfl (gd_at (n:=(a:Int)) (by simp) (by first | omega | (dsimp only; omega))) rfl TL.fin) ?_
   refine DR.done [(48,_),(47,_),(46,_),(45,_),(44,_),(43,_),(42,_),(41,_),(40,_)] [_,_] mixed (by kernel_rfl) (by kernel_rfl) (by kernel_rfl) rfl rfl ?_
   refine TL.callV hF (cmp_fn (hb0.at (n:=(((i+j) / 2 ^ 1:Nat):Int)) (by first | omega | (dsimp only; omega))) (hb0.at (n:=(a:Int)) (by first | omega | (dsimp only; omega)))) rfl rfl ?_
   refine TL.bin hF rfl rfl rfl rfl ?_
   refine TL.nil ?_
   refine TQ.then_n ?_
   refine T.cond_d rfl (fun ht50=>?_) (fun ht50=>?_)
   ·refine T.region ?_
    refine TL.move hF rfl rfl ?_
    refine TL.add hF rfl rfl (by first | omega | (dsimp only; omega)) (by first | omega | (dsimp only; omega)) rfl ?_
    refine TL.assign hF rfl rfl ?_
    refine TL.nil ?_
    refine TQ.block_n ?_
    have hc:tmA d ((i+j) / 2 ^ 1:Nat)<tmA d a:=by
     have h:(rowAt d (((i+j) / 2 ^ 1:Nat):Int)).time - (rowAt d (a:Int)).time<0:=ht50
     unfold rowAt at h
     rw [Int.toNat_natCast,Int.toNat_natCast] at h
     unfold tmA; omega
    exact TQ.round (((i+j) / 2 ^ 1:Nat)+1,j) ⟨by dsimp only; omega,by dsimp only; omega,hjb,fun _=>by dsimp only; rw [Nat.add_sub_cancel]; exact hc,hhi⟩ (by dsimp only; omega) ⟨rfl,rfl,rfl,rfl,rfl,congrArg (fun z=>some (Value.int .i64 z)) (by first | rfl | (dsimp only; omega) | omega),rfl,trivial⟩ rfl
   ·refine T.region ?_
    refine TL.move hF rfl rfl ?_
    refine TL.assign hF rfl rfl ?_
    refine TL.nil ?_
    refine TQ.block_n ?_
    have hc:tmA d a≤tmA d ((i+j) / 2 ^ 1:Nat):=by
     have h:¬ (rowAt d (((i+j) / 2 ^ 1:Nat):Int)).time - (rowAt d (a:Int)).time<0:=ht50
     unfold rowAt at h
     rw [Int.toNat_natCast,Int.toNat_natCast] at h
     unfold tmA; omega
    exact TQ.round (i,((i+j) / 2 ^ 1:Nat)) ⟨hi,by dsimp only; omega,by dsimp only; omega,hlo,fun _=>hc⟩ (by dsimp only; omega) ⟨rfl,rfl,rfl,rfl,rfl,rfl,rfl,trivial⟩ rfl
  ·refine T.exit ?_
   refine TQ.then_x ?_
   refine TQ.then_x ?_
   refine TQ.block_x ?_
   refine TQ.then_n ?_
   refine T.seq ?_
   refine T.seq ?_
   refine T.region ?_
   refine TL.move hF rfl rfl ?_
   refine TL.assign hF rfl rfl ?_
   refine TL.nil ?_
   refine TQ.then_n ?_
   refine T.block ?_
   have hij2:i=j:=by have h:¬ (i:Int)<(j:Int):=ht33; omega
   subst hij2
   refine T.loop (ι:=Nat × List Rw) (fun s=>a≤s.1∧s.1≤i - 1∧InsU d s.2 a s.1∧Ch a b d s.2) (fun s=>[(0,.slice (some ⟨g,0,none⟩) d.length d.length),(1,.int .i64 (a:Int)),(2,.int .i64 (m:Int)),(3,.int .i64 (b:Int)),(4,.func (.func 115) #[] #[]),(10,.int .i64 (i:Int)),(13,.int .i64 (s.1:Int))]) (fun s=>[(g,Obj.cells ((s.2).flatMap rwC).toArray 57 (0,0))]::η) (fun s=>i - s.1) (a,d) ⟨Nat.le_refl _,by dsimp only; omega,InsU.start,Ch.refl⟩ ⟨rfl,rfl,rfl,rfl,rfl,rfl,rfl,trivial⟩ rfl ?_
   rintro ⟨k,d1⟩ ⟨hk,hki,hin,hch⟩
   dsimp only at hk hki hin hch
   have hl1:=hch.len
   refine T.seq ?_
   refine T.seq ?_
   refine T.region ?_
   refine TL.move hF rfl rfl ?_
   refine TL.move hF rfl rfl ?_
   refine TL.sub hF rfl rfl (by omega) (by omega) rfl ?_
   refine TL.bin hF rfl rfl rfl rfl ?_
   refine TL.nil ?_
   refine TQ.then_n ?_
   first | refine T.cond_d rfl (fun ht58=>?_) (fun ht58=>?_) | refine T.cond _ rfl (fun ht58=>?_) (fun ht58=>?_)
   ·refine T.skip ?_
    refine TQ.then_n ?_
    refine T.seq ?_
    refine T.block ?_
    have hklt:k<i - 1:=by have h:(k:Int)<(i:Int)-1:=ht58; omega
    refine T.drawH 16 mixed ?_
    refine DH.pure (i:=0) [(0,_,none)] rfl rfl rfl rfl ⟨⟨rfl,by kernel_rfl⟩,trivial⟩ (fun _ ext=>TL.move hF rfl rfl TL.fin) ?_
    refine DH.pure (i:=1) [(13,_,none)] rfl rfl rfl rfl ⟨⟨rfl,by kernel_rfl⟩,trivial⟩ (fun _ ext=>TL.move hF rfl rfl TL.fin) ?_
    refine DH.pure (i:=2) [(0,_,none)] rfl rfl rfl rfl ⟨⟨rfl,by kernel_rfl⟩,trivial⟩ (fun _ ext=>TL.move hF rfl rfl TL.fin) ?_
    refine DH.pure (i:=3) [(13,_,none)] rfl rfl rfl rfl ⟨⟨rfl,by kernel_rfl⟩,trivial⟩ (fun _ ext=>TL.move hF rfl rfl TL.fin) ?_
    refine DH.pure (i:=4) [(64,_,some 3)] rfl rfl rfl rfl ⟨⟨rfl,rfl,rfl⟩,trivial⟩ (fun _ ext=>TL.add hF rfl rfl (by first | omega | (dsimp only; omega)) (by first | omega | (dsimp only; omega)) rfl TL.fin) ?_
    refine DH.pure (i:=5) [(0,_,none)] rfl rfl rfl rfl ⟨⟨rfl,by kernel_rfl⟩,trivial⟩ (fun _ ext=>TL.move hF rfl rfl TL.fin) ?_
    refine DH.pure (i:=6) [(13,_,none)] rfl rfl rfl rfl ⟨⟨rfl,by kernel_rfl⟩,trivial⟩ (fun _ ext=>TL.move hF rfl rfl TL.fin) ?_
    refine DH.pure (i:=7) [(67,_,some 6)] rfl rfl rfl rfl ⟨⟨rfl,rfl,rfl⟩,trivial⟩ (fun _ ext=>TL.add hF rfl rfl (by first | omega | (dsimp only; omega)) (by first | omega | (dsimp only; omega)) rfl TL.fin) ?_
    refine DH.pure (i:=8) [(66,_,some 5),(68,_,some 7)] rfl rfl rfl rfl ⟨⟨rfl,rfl,rfl⟩,⟨rfl,rfl,rfl⟩,trivial⟩ (fun _ ext=>TL.indexAddr hF rfl rfl ⟨_,rfl,rfl⟩ (by first | omega | (dsimp only; omega)) (by first | omega | (dsimp only; omega)) rfl TL.fin) ?_
    refine DH.read (i:=9) [(69,_,some 8)] rfl rfl rfl rfl ⟨⟨rfl,rfl,rfl⟩,trivial⟩ (fun ext=>TL.loadA hF (rwC (rowAt d1 ((k:Int)+1))) rfl rfl (gd_at (n:=(k:Int)+1) (by simp) (by first | omega | (dsimp only; omega))) rfl TL.fin) ?_
    refine DH.pure (i:=10) [(0,_,none)] rfl rfl rfl rfl ⟨⟨rfl,by kernel_rfl⟩,trivial⟩ (fun _ ext=>TL.move hF rfl rfl TL.fin) ?_
    refine DH.pure (i:=11) [(13,_,none)] rfl rfl rfl rfl ⟨⟨rfl,by kernel_rfl⟩,trivial⟩ (fun _ ext=>TL.move hF rfl rfl TL.fin) ?_
    refine DH.pure (i:=12) [(71,_,some 10),(72,_,some 11)] rfl rfl rfl rfl ⟨⟨rfl,rfl,rfl⟩,⟨rfl,rfl,rfl⟩,trivial⟩ (fun _ ext=>TL.indexAddr hF rfl rfl ⟨_,rfl,rfl⟩ (by first | omega | (dsimp only; omega)) (by first | omega | (dsimp only; omega)) rfl TL.fin) ?_
    refine DH.read (i:=13) [(73,_,some 12)] rfl rfl rfl rfl ⟨⟨rfl,rfl,rfl⟩,trivial⟩ (fun ext=>TL.loadA hF (rwC (rowAt d1 ((k:Int)))) rfl rfl (gd_at (n:=(k:Int)) (by simp) (by first | omega | (dsimp only; omega))) rfl TL.fin) ?_
    refine DH.pure (i:=14) [(61,_,some 0),(62,_,some 1)] rfl rfl rfl rfl ⟨⟨rfl,rfl,rfl⟩,⟨rfl,rfl,rfl⟩,trivial⟩ (fun _ ext=>TL.indexAddr hF rfl rfl ⟨_,rfl,rfl⟩ (by first | omega | (dsimp only; omega)) (by first | omega | (dsimp only; omega)) rfl TL.fin) ?_
    refine DH.k1 (by kernel_rfl) (by kernel_rfl) (by kernel_rfl) (by kernel_rfl) (HBK.mk (h:=15) [] [(75,_,some 14),(70,_,some 9)] rfl rfl rfl ⟨⟨rfl,rfl,rfl⟩,⟨rfl,rfl,rfl⟩,trivial⟩ (by kernel_rfl) (fun ext=>?_))
    refine TL.storeAs hF (rwC (rowAt d1 ((k:Int)+1))) ((d1).set ((k:Int)).toNat (rowAt d1 ((k:Int)+1)) |>.flatMap rwC) 0 (cs:=(d1).flatMap rwC) rfl rfl rfl rfl (rwC1 _) (le_off (n:=((k:Int)).toNat) (by simp) (flat3s (d:=d1) (by omega))) (put_row (i:=((k:Int)).toNat) (by simp) (by omega)) ?_
    refine TL.finKN trivial ?_
    refine DH.done [(75,_),(74,_),(73,_),(72,_),(71,_),(70,_),(69,_),(68,_),(67,_),(66,_),(65,_),(64,_),(63,_),(62,_),(61,_)] [_,_] (by kernel_rfl) (by kernel_rfl) (by kernel_rfl) (by kernel_rfl) rfl rfl ?_
    refine TL.indexAddr hF rfl rfl ⟨_,rfl,rfl⟩ (by first | omega | (dsimp only; omega)) (by first | omega | (dsimp only; omega)) rfl ?_
    refine TL.storeAs hF (rwC (rowAt d1 ((k:Int)))) ((d1.set ((k:Int)).toNat (rowAt d1 ((k:Int)+1))).set ((k:Int)+1).toNat (rowAt d1 ((k:Int))) |>.flatMap rwC) 0 (cs:=(d1.set ((k:Int)).toNat (rowAt d1 ((k:Int)+1))).flatMap rwC) rfl rfl rfl rfl (rwC1 _) (le_off (n:=((k:Int)+1).toNat) (by simp) (flat3s (d:=d1.set ((k:Int)).toNat (rowAt d1 ((k:Int)+1))) (by rw [List.length_set]; omega))) (put_row (i:=((k:Int)+1).toNat) (by simp) (by rw [List.length_set]; omega)) ?_
    refine TL.nil ?_
    refine TQ.block_n ?_
    refine TQ.then_n ?_
    refine T.region ?_
    refine TL.move hF rfl rfl ?_
    refine TL.add hF rfl rfl (by first | omega | (dsimp only; omega)) (by first | omega | (dsimp only; omega)) rfl ?_
    refine TL.assign hF rfl rfl ?_
    refine TL.nil ?_
    have e1:((k:Int)).toNat=k:=by omega
    have e2:((k:Int)+1).toNat=k+1:=by omega
    refine TQ.round (k+1,swp d1 k (k+1)) ⟨by dsimp only; omega,by dsimp only; omega,hin.step hk (by omega),hch.trans (swp_ch (by omega) (by omega) hk (by omega) (by omega) (by omega))⟩ (by dsimp only; omega) ⟨rfl,rfl,rfl,rfl,rfl,rfl,rfl,trivial⟩ ?_
    dsimp only [List.set_cons_zero,rowAt]
    rw [e1,e2]
    rfl
   ·refine T.exit ?_
    refine TQ.then_x ?_
    refine TQ.then_x ?_
    refine TQ.block_x ?_
    refine TQ.then_n ?_
    refine T.ret ?_
    refine TQ.then_r ?_
    have hke:k=i - 1:=by have h:¬ (k:Int)<(i:Int)-1:=ht58; omega
    refine TQ.rets [] _ rfl rfl rfl ⟨d1,hch,?_,rfl⟩
    refine srt_insU (by rw [← hm1]; exact hs2) hin hk (by omega) (fun x h1 h2=>?_) ?_
    ·have hmi:m<i:=by omega
     exact Int.le_trans (hs2.le (by omega) (show x≤i - 1 by omega) (by omega)) (Int.le_of_lt (hlo hmi))
    ·rcases Nat.lt_or_ge i b with q | q
     ·right
      rw [show k+1=i by omega]; exact hhi q
     ·left; omega
 ·refine T.skip ?_
  refine TQ.then_n ?_
  refine T.seq ?_
  refine T.seq ?_
  refine T.region ?_
  refine TL.move hF rfl rfl ?_
  refine TL.move hF rfl rfl ?_
  refine TL.sub hF rfl rfl (by first | omega | (dsimp only; omega)) (by first | omega | (dsimp only; omega)) rfl ?_
  refine TL.bin hF rfl rfl rfl rfl ?_
  refine TL.nil ?_
  refine TQ.then_n ?_
  refine T.cond_d rfl (fun ht80=>?_) (fun ht80=>?_)
  ·refine T.seq ?_
   refine T.region ?_
   refine TL.move hF rfl rfl ?_
   refine TL.assign hF rfl rfl ?_
   refine TL.nil ?_
   refine TQ.then_n ?_
   refine T.seq ?_
   refine T.region ?_
   refine TL.move hF rfl rfl ?_
   refine TL.assign hF rfl rfl ?_
   refine TL.nil ?_
   refine TQ.then_n ?_
   refine T.seq ?_
   refine T.block ?_
   have hb1:b=m+1:=by omega
   refine T.loop (ι:=Nat × Nat) (fun s=>a≤s.1∧s.1≤s.2∧s.2≤m∧(a<s.1→tmA d (s.1 - 1)≤tmA d m)∧(s.2<m→tmA d m<tmA d s.2)) (fun s=>[(0,.slice (some ⟨g,0,none⟩) d.length d.length),(1,.int .i64 (a:Int)),(2,.int .i64 (m:Int)),(3,.int .i64 (b:Int)),(4,.func (.func 115) #[] #[]),(14,.int .i64 (s.1:Int)),(15,.int .i64 (s.2:Int))]) (fun _=>[(g,Obj.cells ((d).flatMap rwC).toArray 57 (0,0))]::η) (fun s=>s.2 - s.1) (a,m) ⟨Nat.le_refl _,by dsimp only; omega,Nat.le_refl _,fun h=>by dsimp only at h; omega,fun h=>by dsimp only at h; omega⟩ ⟨rfl,rfl,rfl,rfl,rfl,rfl,rfl,trivial⟩ rfl ?_
   rintro ⟨i,j⟩ ⟨hi,hij,hjb,hlo,hhi⟩
   dsimp only at hi hij hjb hlo hhi
   refine T.seq ?_
   refine T.seq ?_
   refine T.region ?_
   refine TL.move hF rfl rfl ?_
   refine TL.move hF rfl rfl ?_
   refine TL.bin hF rfl rfl rfl rfl ?_
   refine TL.nil ?_
   refine TQ.then_n ?_
   first | refine T.cond_d rfl (fun ht85=>?_) (fun ht85=>?_) | refine T.cond _ rfl (fun ht85=>?_) (fun ht85=>?_)
   ·refine T.skip ?_
    refine TQ.then_n ?_
    refine T.block ?_
    refine T.seq ?_
    refine T.region ?_
    refine TL.move hF rfl rfl ?_
    refine TL.move hF rfl rfl ?_
    refine TL.add hF rfl rfl (by first | omega | (dsimp only; omega)) (by first | omega | (dsimp only; omega)) rfl ?_
    refine TL.convK hF (r:=((i+j:Nat):Int)) rfl (by rw [wu64 (by omega) (by omega)]; omega) rfl ?_
    refine TL.shrN hF (a:=i+j) (s:=1) rfl rfl (by decide) rfl ?_
    refine TL.convK hF (r:=(((i+j) / 2 ^ 1:Nat):Int)) rfl (wrap_i64 (by omega) (by omega)) rfl ?_
    refine TL.assign hF rfl rfl ?_
    refine TL.nil ?_
    refine TQ.then_n ?_
    refine T.seq ?_
    have hltij:i<j:=by have h:(i:Int)<(j:Int):=ht85; omega
    have hhj:((i+j) / 2 ^ 1:Nat)<j∧i≤((i+j) / 2 ^ 1:Nat):=by omega
    refine T.draw ?_
    refine DR.stepV [_] rfl [(4,_,none)] rfl rfl ⟨⟨rfl,by kernel_rfl⟩,trivial⟩ (fun ext=>TL.move hF rfl rfl TL.fin) ?_
    refine DR.stepV [_,_] rfl [(0,_,none)] rfl rfl ⟨⟨rfl,by kernel_rfl⟩,trivial⟩ (fun ext=>TL.move hF rfl rfl TL.fin) ?_
    refine DR.stepV [_,_,_] rfl [(2,_,none)] rfl rfl ⟨⟨rfl,by kernel_rfl⟩,trivial⟩ (fun ext=>TL.move hF rfl rfl TL.fin) ?_
    refine DR.stepV [_,_,_,_] rfl [(93,_,some 1),(94,_,some 2)] rfl rfl ⟨⟨rfl,rfl,rfl⟩,⟨rfl,rfl,rfl⟩,trivial⟩ (fun ext=>TL.indexAddr hF rfl rfl ⟨_,rfl,rfl⟩ (by first | omega | (dsimp only; omega)) (by first | omega | (dsimp only; omega)) rfl TL.fin) ?_
    refine DR.stepV [_,_,_,_,_] rfl [(95,_,some 3)] rfl rfl ⟨⟨rfl,rfl,rfl⟩,trivial⟩ (fun ext=>TL.loadA hF (rwC (rowAt d ((m:Int)))) rfl rfl (gd_at (n:=(m:Int)) (by simp) (by first | omega | (dsimp only; omega))) rfl TL.fin) ?_
    refine DR.stepV [_,_,_,_,_,_] rfl [(0,_,none)] rfl rfl ⟨⟨rfl,by kernel_rfl⟩,trivial⟩ (fun ext=>TL.move hF rfl rfl TL.fin) ?_
    refine DR.stepV [_,_,_,_,_,_,_] rfl [(16,_,none)] rfl rfl ⟨⟨rfl,by kernel_rfl⟩,trivial⟩ (fun ext=>TL.move hF rfl rfl TL.fin) ?_
    refine DR.stepV [_,_,_,_,_,_,_,_] rfl [(97,_,some 5),(98,_,some 6)] rfl rfl ⟨⟨rfl,rfl,rfl⟩,⟨rfl,rfl,rfl⟩,trivial⟩ (fun ext=>TL.indexAddr hF rfl rfl ⟨_,rfl,rfl⟩ (by first | omega | (dsimp only; omega)) (by first | omega | (dsimp only; omega)) rfl TL.fin) ?_
    refine DR.stepV [_,_,_,_,_,_,_,_,_] rfl [(99,_,some 7)] rfl rfl ⟨⟨rfl,rfl,rfl⟩,trivial⟩ (fun ext=>TL.loadA hF (rwC (rowAt d ((((i+j) / 2 ^ 1:Nat):Int)))) rfl rfl (gd_at (n:=(((i+j) / 2 ^ 1:Nat):Int)) (by simp) (by first | omega | (dsimp only; omega))) rfl TL.fin) ?_
    refine DR.done [(100,_),(99,_),(98,_),(97,_),(96,_),(95,_),(94,_),(93,_),(92,_)] [_,_,_] mixed (by kernel_rfl) (by kernel_rfl) (by kernel_rfl) rfl rfl ?_
    refine TL.callV hF (cmp_fn (hb0.at (n:=(m:Int)) (by first | omega | (dsimp only; omega))) (hb0.at (n:=(((i+j) / 2 ^ 1:Nat):Int)) (by first | omega | (dsimp only; omega)))) rfl rfl ?_
    refine TL.bin hF rfl rfl rfl rfl ?_
    refine TL.not hF rfl rfl ?_
    refine TL.nil ?_
    refine TQ.then_n ?_
    refine T.cond _ rfl (fun ht103=>?_) (fun ht103=>?_)
    ·refine T.region ?_
     refine TL.move hF rfl rfl ?_
     refine TL.add hF rfl rfl (by first | omega | (dsimp only; omega)) (by first | omega | (dsimp only; omega)) rfl ?_
     refine TL.assign hF rfl rfl ?_
     refine TL.nil ?_
     refine TQ.block_n ?_
     have hc:tmA d ((i+j) / 2 ^ 1:Nat)≤tmA d m:=by
      have h:¬ (rowAt d (m:Int)).time - (rowAt d (((i+j) / 2 ^ 1:Nat):Int)).time<0:=by simpa using ht103
      unfold rowAt at h
      rw [Int.toNat_natCast,Int.toNat_natCast] at h
      unfold tmA; omega
     exact TQ.round (((i+j) / 2 ^ 1:Nat)+1,j) ⟨by dsimp only; omega,by dsimp only; omega,hjb,fun _=>by dsimp only; rw [Nat.add_sub_cancel]; exact hc,hhi⟩ (by dsimp only; omega) ⟨rfl,rfl,rfl,rfl,rfl,congrArg (fun z=>some (Value.int .i64 z)) (by first | rfl | (dsimp only; omega) | omega),rfl,trivial⟩ rfl
    ·refine T.region ?_
     refine TL.move hF rfl rfl ?_
     refine TL.assign hF rfl rfl ?_
     refine TL.nil ?_
     refine TQ.block_n ?_
     have hc:tmA d m<tmA d ((i+j) / 2 ^ 1:Nat):=by
      have h:(rowAt d (m:Int)).time - (rowAt d (((i+j) / 2 ^ 1:Nat):Int)).time<0:=by simpa using ht103
      unfold rowAt at h
      rw [Int.toNat_natCast,Int.toNat_natCast] at h
      unfold tmA; omega
     exact TQ.round (i,((i+j) / 2 ^ 1:Nat)) ⟨hi,by dsimp only; omega,by dsimp only; omega,hlo,fun _=>hc⟩ (by dsimp only; omega) ⟨rfl,rfl,rfl,rfl,rfl,rfl,rfl,trivial⟩ rfl
   ·refine T.exit ?_
    refine TQ.then_x ?_
    refine TQ.then_x ?_
    refine TQ.block_x ?_
    refine TQ.then_n ?_
    refine T.seq ?_
    refine T.seq ?_
    refine T.region ?_
    refine TL.move hF rfl rfl ?_
    refine TL.assign hF rfl rfl ?_
    refine TL.nil ?_
    refine TQ.then_n ?_
    refine T.block ?_
    have hij2:i=j:=by have h:¬ (i:Int)<(j:Int):=ht85; omega
    subst hij2
    refine T.loop (ι:=Nat × List Rw) (fun s=>i≤s.1∧s.1≤m∧InsD d s.2 s.1 m∧Ch a b d s.2) (fun s=>[(0,.slice (some ⟨g,0,none⟩) d.length d.length),(1,.int .i64 (a:Int)),(2,.int .i64 (m:Int)),(3,.int .i64 (b:Int)),(4,.func (.func 115) #[] #[]),(14,.int .i64 (i:Int)),(17,.int .i64 (s.1:Int))]) (fun s=>[(g,Obj.cells ((s.2).flatMap rwC).toArray 57 (0,0))]::η) (fun s=>s.1) (m,d) ⟨by dsimp only; omega,Nat.le_refl _,InsD.start,Ch.refl⟩ ⟨rfl,rfl,rfl,rfl,rfl,rfl,rfl,trivial⟩ rfl ?_
    rintro ⟨k,d1⟩ ⟨hk,hki,hin,hch⟩
    dsimp only at hk hki hin hch
    have hl1:=hch.len
    refine T.seq ?_
    refine T.seq ?_
    refine T.region ?_
    refine TL.move hF rfl rfl ?_
    refine TL.move hF rfl rfl ?_
    refine TL.bin hF rfl rfl rfl rfl ?_
    refine TL.nil ?_
    refine TQ.then_n ?_
    first | refine T.cond_d rfl (fun ht110=>?_) (fun ht110=>?_) | refine T.cond _ rfl (fun ht110=>?_) (fun ht110=>?_)
    ·refine T.skip ?_
     refine TQ.then_n ?_
     refine T.seq ?_
     refine T.block ?_
     have hklt:i<k:=by have h:(i:Int)<(k:Int):=ht110; omega
     refine T.drawH 16 mixed ?_
     refine DH.pure (i:=0) [(0,_,none)] rfl rfl rfl rfl ⟨⟨rfl,by kernel_rfl⟩,trivial⟩ (fun _ ext=>TL.move hF rfl rfl TL.fin) ?_
     refine DH.pure (i:=1) [(17,_,none)] rfl rfl rfl rfl ⟨⟨rfl,by kernel_rfl⟩,trivial⟩ (fun _ ext=>TL.move hF rfl rfl TL.fin) ?_
     refine DH.pure (i:=2) [(0,_,none)] rfl rfl rfl rfl ⟨⟨rfl,by kernel_rfl⟩,trivial⟩ (fun _ ext=>TL.move hF rfl rfl TL.fin) ?_
     refine DH.pure (i:=3) [(17,_,none)] rfl rfl rfl rfl ⟨⟨rfl,by kernel_rfl⟩,trivial⟩ (fun _ ext=>TL.move hF rfl rfl TL.fin) ?_
     refine DH.pure (i:=4) [(116,_,some 3)] rfl rfl rfl rfl ⟨⟨rfl,rfl,rfl⟩,trivial⟩ (fun _ ext=>TL.sub hF rfl rfl (by first | omega | (dsimp only; omega)) (by first | omega | (dsimp only; omega)) rfl TL.fin) ?_
     refine DH.pure (i:=5) [(0,_,none)] rfl rfl rfl rfl ⟨⟨rfl,by kernel_rfl⟩,trivial⟩ (fun _ ext=>TL.move hF rfl rfl TL.fin) ?_
     refine DH.pure (i:=6) [(17,_,none)] rfl rfl rfl rfl ⟨⟨rfl,by kernel_rfl⟩,trivial⟩ (fun _ ext=>TL.move hF rfl rfl TL.fin) ?_
     refine DH.pure (i:=7) [(119,_,some 6)] rfl rfl rfl rfl ⟨⟨rfl,rfl,rfl⟩,trivial⟩ (fun _ ext=>TL.sub hF rfl rfl (by first | omega | (dsimp only; omega)) (by first | omega | (dsimp only; omega)) rfl TL.fin) ?_
     refine DH.pure (i:=8) [(118,_,some 5),(120,_,some 7)] rfl rfl rfl rfl ⟨⟨rfl,rfl,rfl⟩,⟨rfl,rfl,rfl⟩,trivial⟩ (fun _ ext=>TL.indexAddr hF rfl rfl ⟨_,rfl,rfl⟩ (by first | omega | (dsimp only; omega)) (by first | omega | (dsimp only; omega)) rfl TL.fin) ?_
     refine DH.read (i:=9) [(121,_,some 8)] rfl rfl rfl rfl ⟨⟨rfl,rfl,rfl⟩,trivial⟩ (fun ext=>TL.loadA hF (rwC (rowAt d1 ((k:Int)-1))) rfl rfl (gd_at (n:=(k:Int)-1) (by simp) (by first | omega | (dsimp only; omega))) rfl TL.fin) ?_
     refine DH.pure (i:=10) [(0,_,none)] rfl rfl rfl rfl ⟨⟨rfl,by kernel_rfl⟩,trivial⟩ (fun _ ext=>TL.move hF rfl rfl TL.fin) ?_
     refine DH.pure (i:=11) [(17,_,none)] rfl rfl rfl rfl ⟨⟨rfl,by kernel_rfl⟩,trivial⟩ (fun _ ext=>TL.move hF rfl rfl TL.fin) ?_
     refine DH.pure (i:=12) [(123,_,some 10),(124,_,some 11)] rfl rfl rfl rfl ⟨⟨rfl,rfl,rfl⟩,⟨rfl,rfl,rfl⟩,trivial⟩ (fun _ ext=>TL.indexAddr hF rfl rfl ⟨_,rfl,rfl⟩ (by first | omega | (dsimp only; omega)) (by first | omega | (dsimp only; omega)) rfl TL.fin) ?_
     refine DH.read (i:=13) [(125,_,some 12)] rfl rfl rfl rfl ⟨⟨rfl,rfl,rfl⟩,trivial⟩ (fun ext=>TL.loadA hF (rwC (rowAt d1 ((k:Int)))) rfl rfl (gd_at (n:=(k:Int)) (by simp) (by first | omega | (dsimp only; omega))) rfl TL.fin) ?_
     refine DH.pure (i:=14) [(113,_,some 0),(114,_,some 1)] rfl rfl rfl rfl ⟨⟨rfl,rfl,rfl⟩,⟨rfl,rfl,rfl⟩,trivial⟩ (fun _ ext=>TL.indexAddr hF rfl rfl ⟨_,rfl,rfl⟩ (by first | omega | (dsimp only; omega)) (by first | omega | (dsimp only; omega)) rfl TL.fin) ?_
     refine DH.k1 (by kernel_rfl) (by kernel_rfl) (by kernel_rfl) (by kernel_rfl) (HBK.mk (h:=15) [] [(127,_,some 14),(122,_,some 9)] rfl rfl rfl ⟨⟨rfl,rfl,rfl⟩,⟨rfl,rfl,rfl⟩,trivial⟩ (by kernel_rfl) (fun ext=>?_))
     refine TL.storeAs hF (rwC (rowAt d1 ((k:Int)-1))) ((d1).set ((k:Int)).toNat (rowAt d1 ((k:Int)-1)) |>.flatMap rwC) 0 (cs:=(d1).flatMap rwC) rfl rfl rfl rfl (rwC1 _) (le_off (n:=((k:Int)).toNat) (by simp) (flat3s (d:=d1) (by omega))) (put_row (i:=((k:Int)).toNat) (by simp) (by omega)) ?_
     refine TL.finKN trivial ?_
     refine DH.done [(127,_),(126,_),(125,_),(124,_),(123,_),(122,_),(121,_),(120,_),(119,_),(118,_),(117,_),(116,_),(115,_),(114,_),(113,_)] [_,_] (by kernel_rfl) (by kernel_rfl) (by kernel_rfl) (by kernel_rfl) rfl rfl ?_
     refine TL.indexAddr hF rfl rfl ⟨_,rfl,rfl⟩ (by first | omega | (dsimp only; omega)) (by first | omega | (dsimp only; omega)) rfl ?_
     refine TL.storeAs hF (rwC (rowAt d1 ((k:Int)))) ((d1.set ((k:Int)).toNat (rowAt d1 ((k:Int)-1))).set ((k:Int)-1).toNat (rowAt d1 ((k:Int))) |>.flatMap rwC) 0 (cs:=(d1.set ((k:Int)).toNat (rowAt d1 ((k:Int)-1))).flatMap rwC) rfl rfl rfl rfl (rwC1 _) (le_off (n:=((k:Int)-1).toNat) (by simp) (flat3s (d:=d1.set ((k:Int)).toNat (rowAt d1 ((k:Int)-1))) (by rw [List.length_set]; omega))) (put_row (i:=((k:Int)-1).toNat) (by simp) (by rw [List.length_set]; omega)) ?_
     refine TL.nil ?_
     refine TQ.block_n ?_
     refine TQ.then_n ?_
     refine T.region ?_
     refine TL.move hF rfl rfl ?_
     refine TL.sub hF rfl rfl (by first | omega | (dsimp only; omega)) (by first | omega | (dsimp only; omega)) rfl ?_
     refine TL.assign hF rfl rfl ?_
     refine TL.nil ?_
     have e1:((k:Int)).toNat=k:=by omega
     have e2:((k:Int)-1).toNat=k - 1:=by omega
     refine TQ.round (k - 1,swp d1 k (k - 1)) ⟨by dsimp only; omega,by dsimp only; omega,hin.step (by omega) hki (by omega),hch.trans (swp_ch (by omega) (by omega) (by omega) (by omega) (by omega) (by omega))⟩ (by dsimp only; omega) ⟨rfl,rfl,rfl,rfl,rfl,rfl,congrArg (fun z=>some (Value.int .i64 z)) (by first | rfl | (dsimp only; omega) | omega),trivial⟩ ?_
     dsimp only [List.set_cons_zero,rowAt]
     rw [e1,e2]
     rfl
    ·refine T.exit ?_
     refine TQ.then_x ?_
     refine TQ.then_x ?_
     refine TQ.block_x ?_
     refine TQ.then_n ?_
     refine T.ret ?_
     refine TQ.then_r ?_
     have hke:k=i:=by have h:¬ (i:Int)<(k:Int):=ht110; omega
     subst hke
     refine TQ.rets [] _ rfl rfl rfl ⟨d1,hch,?_,rfl⟩
     rw [hb1]
     refine srt_insD hs1 hin (by omega) (by omega) ?_ (fun x h1 h2=>?_)
     ·rcases Nat.lt_or_ge a k with q | q
      ·exact .inr (hlo q)
      ·left; omega
     ·exact Int.le_trans (Int.le_of_lt (hhi (by omega))) (hs1.le (by omega) h1 (by omega))
  ·refine T.skip ?_
   refine TQ.then_n ?_
   refine T.seq ?_
   refine T.region ?_
   refine TL.move hF rfl rfl ?_
   refine TL.move hF rfl rfl ?_
   refine TL.add hF rfl rfl (by first | omega | (dsimp only; omega)) (by first | omega | (dsimp only; omega)) rfl ?_
   refine TL.convK hF (r:=((a+b:Nat):Int)) rfl (by rw [wu64 (by omega) (by omega)]; omega) rfl ?_
   refine TL.shrN hF (a:=a+b) (s:=1) rfl rfl (by decide) rfl ?_
   refine TL.convK hF (r:=(((a+b) / 2 ^ 1:Nat):Int)) rfl (wrap_i64 (by omega) (by omega)) rfl ?_
   refine TL.assign hF rfl rfl ?_
   refine TL.nil ?_
   refine TQ.then_n ?_
   refine T.seq ?_
   refine T.region ?_
   refine TL.move hF rfl rfl ?_
   refine TL.move hF rfl rfl ?_
   refine TL.add hF rfl rfl (by first | omega | (dsimp only; omega)) (by first | omega | (dsimp only; omega)) rfl ?_
   refine TL.assign hF rfl rfl ?_
   refine TL.nil ?_
   refine TQ.then_n ?_
   refine T.seq ?_
   refine T.region ?_
   refine TL.assign hF rfl rfl ?_
   refine TL.assign hF rfl rfl ?_
   refine TL.nil ?_
   refine TQ.then_n ?_
   refine T.seq ?_
   refine T.seq ?_
   refine T.region ?_
   refine TL.move hF rfl rfl ?_
   refine TL.move hF rfl rfl ?_
   refine TL.bin hF rfl rfl rfl rfl ?_
   refine TL.nil ?_
   refine TQ.then_n ?_
   refine T.cond_d rfl (fun ht140=>?_) (fun ht140=>?_)
   ·refine T.seq ?_
    refine T.region ?_
    refine TL.move hF rfl rfl ?_
    refine TL.move hF rfl rfl ?_
    refine TL.sub hF rfl rfl (by first | omega | (dsimp only; omega)) (by first | omega | (dsimp only; omega)) rfl ?_
    refine TL.assign hF rfl rfl ?_
    refine TL.nil ?_
    refine TQ.then_n ?_
    refine T.region ?_
    refine TL.move hF rfl rfl ?_
    refine TL.assign hF rfl rfl ?_
    refine TL.nil ?_
    refine TQ.then_n ?_
    refine T.seq ?_
    refine T.region ?_
    refine TL.move hF rfl rfl ?_
    refine TL.sub hF rfl rfl (by first | omega | (dsimp only; omega)) (by first | omega | (dsimp only; omega)) rfl ?_
    refine TL.assign hF rfl rfl ?_
    refine TL.nil ?_
    refine TQ.then_n ?_
    refine T.seq ?_
    refine T.block ?_
    have hcase:(a+b) / 2 ^ 1<m:=by have h:(((a+b) / 2 ^ 1:Nat):Int)<(m:Int):=ht140; omega
    refine T.loop (ι:=Nat × Nat) (fun s=>(((a+b) / 2 ^ 1+m)-b)≤s.1∧s.1≤s.2∧s.2≤((a+b) / 2 ^ 1)∧((((a+b) / 2 ^ 1+m)-b)<s.1→tmA d (s.1 - 1)≤tmA d (((a+b) / 2 ^ 1+m)-s.1))∧(s.2<((a+b) / 2 ^ 1)→tmA d (((a+b) / 2 ^ 1+m)-1 - s.2)<tmA d s.2)) (fun s=>[(0,.slice (some ⟨g,0,none⟩) d.length d.length),(1,.int .i64 (a:Int)),(2,.int .i64 (m:Int)),(3,.int .i64 (b:Int)),(4,.func (.func 115) #[] #[]),(18,.int .i64 (((a+b) / 2 ^ 1:Nat):Int)),(19,.int .i64 ((((a+b) / 2 ^ 1+m):Nat):Int)),(20,.int .i64 (s.1:Int)),(21,.int .i64 (s.2:Int)),(22,.int .i64 ((((a+b) / 2 ^ 1+m)-1:Nat):Int))]) (fun _=>[(g,Obj.cells ((d).flatMap rwC).toArray 57 (0,0))]::η) (fun s=>s.2 - s.1) ((((a+b) / 2 ^ 1+m)-b),((a+b) / 2 ^ 1)) ⟨Nat.le_refl _,by dsimp only; omega,Nat.le_refl _,fun h=>by dsimp only at h; omega,fun h=>by dsimp only at h; omega⟩ ⟨rfl,rfl,rfl,rfl,rfl,rfl,congrArg (fun z=>some (Value.int .i64 z)) (by first | rfl | (dsimp only; omega) | omega),congrArg (fun z=>some (Value.int .i64 z)) (by first | rfl | (dsimp only; omega) | omega),rfl,congrArg (fun z=>some (Value.int .i64 z)) (by first | rfl | (dsimp only; omega) | omega),trivial⟩ rfl ?_
    rintro ⟨i,j⟩ ⟨hi,hij,hjb,hlo,hhi⟩
    dsimp only at hi hij hjb hlo hhi
    refine T.seq ?_
    refine T.seq ?_
    refine T.region ?_
    refine TL.move hF rfl rfl ?_
    refine TL.move hF rfl rfl ?_
    refine TL.bin hF rfl rfl rfl rfl ?_
    refine TL.nil ?_
    refine TQ.then_n ?_
    first | refine T.cond_d rfl (fun ht151=>?_) (fun ht151=>?_) | refine T.cond _ rfl (fun ht151=>?_) (fun ht151=>?_)
    ·refine T.skip ?_
     refine TQ.then_n ?_
     refine T.block ?_
     refine T.seq ?_
     refine T.region ?_
     refine TL.move hF rfl rfl ?_
     refine TL.move hF rfl rfl ?_
     refine TL.add hF rfl rfl (by first | omega | (dsimp only; omega)) (by first | omega | (dsimp only; omega)) rfl ?_
     refine TL.convK hF (r:=((i+j:Nat):Int)) rfl (by rw [wu64 (by omega) (by omega)]; omega) rfl ?_
     refine TL.shrN hF (a:=i+j) (s:=1) rfl rfl (by decide) rfl ?_
     refine TL.convK hF (r:=(((i+j) / 2 ^ 1:Nat):Int)) rfl (wrap_i64 (by omega) (by omega)) rfl ?_
     refine TL.assign hF rfl rfl ?_
     refine TL.nil ?_
     refine TQ.then_n ?_
     refine T.seq ?_
     have hltij:i<j:=by have h:(i:Int)<(j:Int):=ht151; omega
     have hhj:((i+j) / 2 ^ 1:Nat)<j∧i≤((i+j) / 2 ^ 1:Nat):=by omega
     have hpc:(((((a+b) / 2 ^ 1+m)-1:Nat):Int)-(((i+j) / 2 ^ 1:Nat):Int))=((((a+b) / 2 ^ 1+m)-1 - ((i+j) / 2 ^ 1:Nat):Nat):Int):=by omega
     have hpl:((a+b) / 2 ^ 1+m)-1 - ((i+j) / 2 ^ 1:Nat)<b:=by omega
     refine T.draw ?_
     refine DR.stepV [_] rfl [(4,_,none)] rfl rfl ⟨⟨rfl,by kernel_rfl⟩,trivial⟩ (fun ext=>TL.move hF rfl rfl TL.fin) ?_
     refine DR.stepV [_,_] rfl [(0,_,none)] rfl rfl ⟨⟨rfl,by kernel_rfl⟩,trivial⟩ (fun ext=>TL.move hF rfl rfl TL.fin) ?_
     refine DR.stepV [_,_,_] rfl [(22,_,none)] rfl rfl ⟨⟨rfl,by kernel_rfl⟩,trivial⟩ (fun ext=>TL.move hF rfl rfl TL.fin) ?_
     refine DR.stepV [_,_,_,_] rfl [(23,_,none)] rfl rfl ⟨⟨rfl,by kernel_rfl⟩,trivial⟩ (fun ext=>TL.move hF rfl rfl TL.fin) ?_
     refine DR.stepV [_,_,_,_,_] rfl [(160,_,some 2),(161,_,some 3)] rfl rfl ⟨⟨rfl,rfl,rfl⟩,⟨rfl,rfl,rfl⟩,trivial⟩ (fun ext=>TL.sub hF rfl rfl (by first | omega | (dsimp only; omega)) (by first | omega | (dsimp only; omega)) rfl TL.fin) ?_
     refine DR.stepV [_,_,_,_,_,_] rfl [(159,_,some 1),(162,_,some 4)] rfl rfl ⟨⟨rfl,rfl,rfl⟩,⟨rfl,rfl,rfl⟩,trivial⟩ (fun ext=>TL.indexAddr hF rfl rfl ⟨_,rfl,rfl⟩ (by first | omega | (dsimp only; omega)) (by first | omega | (dsimp only; omega)) rfl TL.fin) ?_
     refine DR.stepV [_,_,_,_,_,_,_] rfl [(163,_,some 5)] rfl rfl ⟨⟨rfl,rfl,rfl⟩,trivial⟩ (fun ext=>TL.loadA hF (rwC (rowAt d ((((((a+b) / 2 ^ 1+m)-1:Nat):Int)-(((i+j) / 2 ^ 1:Nat):Int))))) rfl rfl (gd_at (n:=(((((a+b) / 2 ^ 1+m)-1:Nat):Int)-(((i+j) / 2 ^ 1:Nat):Int))) (by simp) (by first | omega | (dsimp only; omega))) rfl TL.fin) ?_
     refine DR.stepV [_,_,_,_,_,_,_,_] rfl [(0,_,none)] rfl rfl ⟨⟨rfl,by kernel_rfl⟩,trivial⟩ (fun ext=>TL.move hF rfl rfl TL.fin) ?_
     refine DR.stepV [_,_,_,_,_,_,_,_,_] rfl [(23,_,none)] rfl rfl ⟨⟨rfl,by kernel_rfl⟩,trivial⟩ (fun ext=>TL.move hF rfl rfl TL.fin) ?_
     refine DR.stepV [_,_,_,_,_,_,_,_,_,_] rfl [(165,_,some 7),(166,_,some 8)] rfl rfl ⟨⟨rfl,rfl,rfl⟩,⟨rfl,rfl,rfl⟩,trivial⟩ (fun ext=>TL.indexAddr hF rfl rfl ⟨_,rfl,rfl⟩ (by first | omega | (dsimp only; omega)) (by first | omega | (dsimp only; omega)) rfl TL.fin) ?_
     refine DR.stepV [_,_,_,_,_,_,_,_,_,_,_] rfl [(167,_,some 9)] rfl rfl ⟨⟨rfl,rfl,rfl⟩,trivial⟩ (fun ext=>TL.loadA hF (rwC (rowAt d ((((i+j) / 2 ^ 1:Nat):Int)))) rfl rfl (gd_at (n:=(((i+j) / 2 ^ 1:Nat):Int)) (by simp) (by first | omega | (dsimp only; omega))) rfl TL.fin) ?_
     refine DR.done [(168,_),(167,_),(166,_),(165,_),(164,_),(163,_),(162,_),(161,_),(160,_),(159,_),(158,_)] [_,_,_] mixed (by kernel_rfl) (by kernel_rfl) (by kernel_rfl) rfl rfl ?_
     refine TL.callV hF (cmp_fn (hb0.at (n:=(((((a+b) / 2 ^ 1+m)-1:Nat):Int)-(((i+j) / 2 ^ 1:Nat):Int))) (by first | omega | (dsimp only; omega))) (hb0.at (n:=(((i+j) / 2 ^ 1:Nat):Int)) (by first | omega | (dsimp only; omega)))) rfl rfl ?_
     refine TL.bin hF rfl rfl rfl rfl ?_
     refine TL.not hF rfl rfl ?_
     refine TL.nil ?_
     refine TQ.then_n ?_
     refine T.cond _ rfl (fun ht171=>?_) (fun ht171=>?_)
     ·refine T.region ?_
      refine TL.move hF rfl rfl ?_
      refine TL.add hF rfl rfl (by first | omega | (dsimp only; omega)) (by first | omega | (dsimp only; omega)) rfl ?_
      refine TL.assign hF rfl rfl ?_
      refine TL.nil ?_
      refine TQ.block_n ?_
      have hc:tmA d ((i+j) / 2 ^ 1:Nat)≤tmA d (((a+b) / 2 ^ 1+m)-1 - ((i+j) / 2 ^ 1:Nat)):=by
       have h:¬ (rowAt d (((((a+b) / 2 ^ 1+m)-1:Nat):Int)-(((i+j) / 2 ^ 1:Nat):Int))).time - (rowAt d (((i+j) / 2 ^ 1:Nat):Int)).time<0:=by simpa using ht171
       unfold rowAt at h
       rw [hpc,Int.toNat_natCast,Int.toNat_natCast] at h
       unfold tmA; omega
      exact TQ.round (((i+j) / 2 ^ 1:Nat)+1,j) ⟨by dsimp only; omega,by dsimp only; omega,hjb,fun _=>by rw [show ((i+j) / 2 ^ 1:Nat)+1 - 1=((i+j) / 2 ^ 1:Nat) by omega,show ((a+b) / 2 ^ 1+m)-(((i+j) / 2 ^ 1:Nat)+1)=((a+b) / 2 ^ 1+m)-1 - ((i+j) / 2 ^ 1:Nat) by omega]; exact hc,hhi⟩ (by dsimp only; omega) ⟨rfl,rfl,rfl,rfl,rfl,rfl,rfl,congrArg (fun z=>some (Value.int .i64 z)) (by first | rfl | (dsimp only; omega) | omega),rfl,rfl,trivial⟩ rfl
     ·refine T.region ?_
      refine TL.move hF rfl rfl ?_
      refine TL.assign hF rfl rfl ?_
      refine TL.nil ?_
      refine TQ.block_n ?_
      have hc:tmA d (((a+b) / 2 ^ 1+m)-1 - ((i+j) / 2 ^ 1:Nat))<tmA d ((i+j) / 2 ^ 1:Nat):=by
       have h:(rowAt d (((((a+b) / 2 ^ 1+m)-1:Nat):Int)-(((i+j) / 2 ^ 1:Nat):Int))).time - (rowAt d (((i+j) / 2 ^ 1:Nat):Int)).time<0:=by simpa using ht171
       unfold rowAt at h
       rw [hpc,Int.toNat_natCast,Int.toNat_natCast] at h
       unfold tmA; omega
      exact TQ.round (i,((i+j) / 2 ^ 1:Nat)) ⟨hi,by dsimp only; omega,by dsimp only; omega,hlo,fun _=>hc⟩ (by dsimp only; omega) ⟨rfl,rfl,rfl,rfl,rfl,rfl,rfl,rfl,rfl,rfl,trivial⟩ rfl
    ·refine T.exit ?_
     refine TQ.then_x ?_
     refine TQ.then_x ?_
     refine TQ.block_x ?_
     refine TQ.then_n ?_
     refine T.seq ?_
     refine T.region ?_
     refine TL.move hF rfl rfl ?_
     refine TL.move hF rfl rfl ?_
     have hij2:i=j:=by have h:¬ (i:Int)<(j:Int):=ht151; omega
     subst hij2
     have hbd:a≤i∧i≤m∧m≤(((a+b) / 2 ^ 1+m)-i)∧(((a+b) / 2 ^ 1+m)-i)≤b∧i≤(a+b) / 2 ^ 1∧(a+b) / 2 ^ 1≤(((a+b) / 2 ^ 1+m)-i):=by omega
     have hhal:∀ d1,Rot d d1 i m (((a+b) / 2 ^ 1+m)-i)→Halves d1 a i ((a+b) / 2 ^ 1) (((a+b) / 2 ^ 1+m)-i) b:=fun d1 hr =>
      (halves (lo:=((a+b) / 2 ^ 1+m)-b) (hi:=(a+b) / 2 ^ 1) ham hmb (by omega) hs1 hs2 (by rw [if_pos hcase]) (by rw [if_pos hcase]) hi hjb rfl hlo (fun h=>Int.le_of_lt (by have h9:=hhi h; rwa [show ((a+b) / 2 ^ 1+m)-1 - i=(((a+b) / 2 ^ 1+m)-i)-1 by omega] at h9)) hr).1
     refine TL.sub hF rfl rfl (by omega) (by omega) rfl ?_
     refine TL.assign hF rfl rfl ?_
     refine TL.nil ?_
     refine TQ.then_n ?_
     refine T.seq ?_
     refine T.seq ?_
     refine T.region ?_
     refine TL.move hF rfl rfl ?_
     refine TL.move hF rfl rfl ?_
     refine TL.bin hF rfl rfl rfl rfl ?_
     refine TL.move hF rfl rfl ?_
     refine TL.join [_,_,_,_] 185 (.bool (decide ((i:Int)<(m:Int)) && decide ((m:Int)<((((a+b) / 2 ^ 1+m):Nat):Int)-(i:Int)))) rfl ?_ ?_
     ·refine TL.gd (t:=181) rfl (fun g39_181=>?_) (fun g39_181=>?_)
      ·refine TL.on rfl rfl rfl (decide_eq_true g39_181) ?_
       refine TL.move hF rfl rfl ?_
       refine TL.on rfl rfl rfl (decide_eq_true g39_181) ?_
       refine TL.move hF rfl rfl ?_
       refine TL.on rfl rfl rfl (decide_eq_true g39_181) ?_
       refine TL.bin hF rfl rfl rfl rfl ?_
       refine TL.pickT hF rfl (decide_eq_true g39_181) rfl rfl ?_
       refine TL.finJ ⟨?_,by repeat (first | exact trivial | refine ⟨rfl,?_⟩)⟩
       exact congrArg (fun z=>some (Value.bool z)) (by first | (rw [(decide_eq_true g39_181)]; rfl) | (rw [(decide_eq_true g39_181)]; simp; done) | (simp [*]; done))
      ·refine TL.off hF rfl rfl rfl (decide_eq_false g39_181) rfl ?_
       refine TL.off hF rfl rfl rfl (decide_eq_false g39_181) rfl ?_
       refine TL.off hF rfl rfl rfl (decide_eq_false g39_181) rfl ?_
       refine TL.pickF hF rfl (decide_eq_false g39_181) rfl rfl ?_
       refine TL.finJ ⟨?_,by repeat (first | exact trivial | refine ⟨rfl,?_⟩)⟩
       exact congrArg (fun z=>some (Value.bool z)) (by first | (rw [(decide_eq_false g39_181)]; rfl) | (rw [(decide_eq_false g39_181)]; simp; done) | (simp [*]; done))
     ·refine TL.nil ?_
      refine TQ.then_n ?_
      refine T.cond _ rfl (fun ht185=>?_) (fun ht185=>?_)
      ·refine T.region ?_
       refine TL.move hF rfl rfl ?_
       refine TL.move hF rfl rfl ?_
       refine TL.move hF rfl rfl ?_
       refine TL.move hF rfl rfl ?_
       refine TL.move hF rfl rfl ?_
       simp only [Bool.and_eq_true,decide_eq_true_eq] at ht185
       refine TL.call hF (rotate_fn (S:=S) (w0:=w0) (η:=η) (g:=g) (d:=d) (a:=i) (m:=m) (b:=(((a+b) / 2 ^ 1+m)-i)) rfl rfl (by omega) hd (by omega) (by omega) (by omega)) rfl rfl ?_
       rintro _ _ ⟨d1,hrot,hch0,rfl⟩
       have hch1:Ch a b d d1:=hch0.wide (by omega) (by omega)
       refine TL.nil ?_
       refine TQ.then_n ?_
       refine T.seq ?_
       refine T.seq ?_
       refine T.region ?_
       refine TL.move hF rfl rfl ?_
       refine TL.move hF rfl rfl ?_
       have hH:=hhal d1 hrot
       have hl1:d1.length=d.length:=hch1.len
       refine TL.bin hF rfl rfl rfl rfl ?_
       refine TL.move hF rfl rfl ?_
       refine TL.join [_,_,_,_] 199 (.bool (decide ((a:Int)<(i:Int)) && decide ((i:Int)<(((a+b) / 2 ^ 1:Nat):Int)))) rfl ?_ ?_
       ·refine TL.gd (t:=195) rfl (fun g41_195=>?_) (fun g41_195=>?_)
        ·refine TL.on rfl rfl rfl (decide_eq_true g41_195) ?_
         refine TL.move hF rfl rfl ?_
         refine TL.on rfl rfl rfl (decide_eq_true g41_195) ?_
         refine TL.move hF rfl rfl ?_
         refine TL.on rfl rfl rfl (decide_eq_true g41_195) ?_
         refine TL.bin hF rfl rfl rfl rfl ?_
         refine TL.pickT hF rfl (decide_eq_true g41_195) rfl rfl ?_
         refine TL.finJ ⟨?_,by repeat (first | exact trivial | refine ⟨rfl,?_⟩)⟩
         exact congrArg (fun z=>some (Value.bool z)) (by first | (rw [(decide_eq_true g41_195)]; rfl) | (rw [(decide_eq_true g41_195)]; simp; done) | (simp [*]; done))
        ·refine TL.off hF rfl rfl rfl (decide_eq_false g41_195) rfl ?_
         refine TL.off hF rfl rfl rfl (decide_eq_false g41_195) rfl ?_
         refine TL.off hF rfl rfl rfl (decide_eq_false g41_195) rfl ?_
         refine TL.pickF hF rfl (decide_eq_false g41_195) rfl rfl ?_
         refine TL.finJ ⟨?_,by repeat (first | exact trivial | refine ⟨rfl,?_⟩)⟩
         exact congrArg (fun z=>some (Value.bool z)) (by first | (rw [(decide_eq_false g41_195)]; rfl) | (rw [(decide_eq_false g41_195)]; simp; done) | (simp [*]; done))
       ·refine TL.nil ?_
        refine TQ.then_n ?_
        refine T.cond _ rfl (fun ht199=>?_) (fun ht199=>?_)
        ·refine T.region ?_
         refine TL.move hF rfl rfl ?_
         refine TL.move hF rfl rfl ?_
         refine TL.move hF rfl rfl ?_
         refine TL.move hF rfl rfl ?_
         refine TL.move hF rfl rfl ?_
         simp only [Bool.and_eq_true,decide_eq_true_eq] at ht199
         have hsr:=ih (S:=S) (w0:=w0) (η:=η) (g:=g) (d:=d1) (a:=a) (m:=i) (b:=(a+b) / 2 ^ 1) rfl rfl rfl (by omega) (by omega) (hb0.ch hch1) (by omega) (by omega) (by omega) hH.s1 hH.s2
         refine TL.call hF (Rt.args hsr (by rw [hl1]; rfl)) rfl rfl ?_
         rintro _ _ ⟨d2,hc2,hs2',rfl⟩
         refine TL.nil ?_
         refine TQ.then_n ?_
         refine T.seq ?_
         refine T.region ?_
         refine TL.move hF rfl rfl ?_
         refine TL.move hF rfl rfl ?_
         have hs3:SrtR d2 ((a+b) / 2 ^ 1) (((a+b) / 2 ^ 1+m)-i):=hH.s3.same fun k p q=>hc2.tm (.inr p)
         have hs4:SrtR d2 (((a+b) / 2 ^ 1+m)-i) b:=hH.s4.same fun k p q=>hc2.tm (.inr (by omega))
         have hl2:d2.length=d.length:=hc2.len.trans hl1
         refine TL.bin hF rfl rfl rfl rfl ?_
         refine TL.move hF rfl rfl ?_
         refine TL.join [_,_,_,_] 213 (.bool (decide ((((a+b) / 2 ^ 1:Nat):Int)<((((a+b) / 2 ^ 1+m):Nat):Int)-(i:Int)) && decide (((((a+b) / 2 ^ 1+m):Nat):Int)-(i:Int)<(b:Int)))) rfl ?_ ?_
         ·refine TL.gd (t:=209) rfl (fun g43_209=>?_) (fun g43_209=>?_)
          ·refine TL.on rfl rfl rfl (decide_eq_true g43_209) ?_
           refine TL.move hF rfl rfl ?_
           refine TL.on rfl rfl rfl (decide_eq_true g43_209) ?_
           refine TL.move hF rfl rfl ?_
           refine TL.on rfl rfl rfl (decide_eq_true g43_209) ?_
           refine TL.bin hF rfl rfl rfl rfl ?_
           refine TL.pickT hF rfl (decide_eq_true g43_209) rfl rfl ?_
           refine TL.finJ ⟨?_,by repeat (first | exact trivial | refine ⟨rfl,?_⟩)⟩
           exact congrArg (fun z=>some (Value.bool z)) (by first | (rw [(decide_eq_true g43_209)]; rfl) | (rw [(decide_eq_true g43_209)]; simp; done) | (simp [*]; done))
          ·refine TL.off hF rfl rfl rfl (decide_eq_false g43_209) rfl ?_
           refine TL.off hF rfl rfl rfl (decide_eq_false g43_209) rfl ?_
           refine TL.off hF rfl rfl rfl (decide_eq_false g43_209) rfl ?_
           refine TL.pickF hF rfl (decide_eq_false g43_209) rfl rfl ?_
           refine TL.finJ ⟨?_,by repeat (first | exact trivial | refine ⟨rfl,?_⟩)⟩
           exact congrArg (fun z=>some (Value.bool z)) (by first | (rw [(decide_eq_false g43_209)]; rfl) | (rw [(decide_eq_false g43_209)]; simp; done) | (simp [*]; done))
         ·refine TL.nil ?_
          refine TQ.then_n ?_
          refine T.cond _ rfl (fun ht213=>?_) (fun ht213=>?_)
          ·refine T.region ?_
           refine TL.move hF rfl rfl ?_
           refine TL.move hF rfl rfl ?_
           refine TL.move hF rfl rfl ?_
           refine TL.move hF rfl rfl ?_
           refine TL.move hF rfl rfl ?_
           simp only [Bool.and_eq_true,decide_eq_true_eq] at ht213
           have hsr:=ih (S:=S) (w0:=w0) (η:=η) (g:=g) (d:=d2) (a:=(a+b) / 2 ^ 1) (m:=(((a+b) / 2 ^ 1+m)-i)) (b:=b) (x:=(((a+b) / 2 ^ 1:Nat):Int)) (y:=((((a+b) / 2 ^ 1+m):Nat):Int)-(i:Int)) (z:=(b:Int)) rfl (by omega) rfl (by omega) (by omega) ((hb0.ch hch1).ch hc2) (by omega) (by omega) (by omega) hs3 hs4
           refine TL.call hF (Rt.args hsr (by rw [hl2]; rfl)) rfl rfl ?_
           rintro _ _ ⟨d3,hc3,hs5,rfl⟩
           refine TL.nil ?_
           refine TQ.norm ?_
           have hfin:=halves_done hH (by omega) (by omega) (by omega) (by omega) (by omega) hc2 hs2' hc3 hs5
           exact TQ.rets [] _ rfl rfl rfl ⟨d3,hch1.trans hfin.1,hfin.2,rfl⟩
          ·refine T.skip ?_
           refine TQ.norm ?_
           rw [← Bool.not_eq_true] at ht213
           simp only [Bool.and_eq_true,decide_eq_true_eq] at ht213
           have hs5:SrtR d2 ((a+b) / 2 ^ 1) b:=half_trivial hs3 hs4 (by omega) (by omega) (by omega)
           have hc3:Ch ((a+b) / 2 ^ 1) b d2 d2:=Ch.refl
           have hfin:=halves_done hH (by omega) (by omega) (by omega) (by omega) (by omega) hc2 hs2' hc3 hs5
           exact TQ.rets [] _ rfl rfl rfl ⟨d2,hch1.trans hfin.1,hfin.2,rfl⟩
        ·refine T.skip ?_
         refine TQ.then_n ?_
         refine T.seq ?_
         refine T.region ?_
         refine TL.move hF rfl rfl ?_
         refine TL.move hF rfl rfl ?_
         rw [← Bool.not_eq_true] at ht199
         simp only [Bool.and_eq_true,decide_eq_true_eq] at ht199
         have hs2':SrtR d1 a ((a+b) / 2 ^ 1):=half_trivial hH.s1 hH.s2 (by omega) (by omega) (by omega)
         have hc2:Ch a ((a+b) / 2 ^ 1) d1 d1:=Ch.refl
         have hs3:SrtR d1 ((a+b) / 2 ^ 1) (((a+b) / 2 ^ 1+m)-i):=hH.s3.same fun k p q=>hc2.tm (.inr p)
         have hs4:SrtR d1 (((a+b) / 2 ^ 1+m)-i) b:=hH.s4.same fun k p q=>hc2.tm (.inr (by omega))
         have hl2:d1.length=d.length:=hc2.len.trans hl1
         refine TL.bin hF rfl rfl rfl rfl ?_
         refine TL.move hF rfl rfl ?_
         refine TL.join [_,_,_,_] 213 (.bool (decide ((((a+b) / 2 ^ 1:Nat):Int)<((((a+b) / 2 ^ 1+m):Nat):Int)-(i:Int)) && decide (((((a+b) / 2 ^ 1+m):Nat):Int)-(i:Int)<(b:Int)))) rfl ?_ ?_
         ·refine TL.gd (t:=209) rfl (fun g43_209=>?_) (fun g43_209=>?_)
          ·refine TL.on rfl rfl rfl (decide_eq_true g43_209) ?_
           refine TL.move hF rfl rfl ?_
           refine TL.on rfl rfl rfl (decide_eq_true g43_209) ?_
           refine TL.move hF rfl rfl ?_
           refine TL.on rfl rfl rfl (decide_eq_true g43_209) ?_
           refine TL.bin hF rfl rfl rfl rfl ?_
           refine TL.pickT hF rfl (decide_eq_true g43_209) rfl rfl ?_
           refine TL.finJ ⟨?_,by repeat (first | exact trivial | refine ⟨rfl,?_⟩)⟩
           exact congrArg (fun z=>some (Value.bool z)) (by first | (rw [(decide_eq_true g43_209)]; rfl) | (rw [(decide_eq_true g43_209)]; simp; done) | (simp [*]; done))
          ·refine TL.off hF rfl rfl rfl (decide_eq_false g43_209) rfl ?_
           refine TL.off hF rfl rfl rfl (decide_eq_false g43_209) rfl ?_
           refine TL.off hF rfl rfl rfl (decide_eq_false g43_209) rfl ?_
           refine TL.pickF hF rfl (decide_eq_false g43_209) rfl rfl ?_
           refine TL.finJ ⟨?_,by repeat (first | exact trivial | refine ⟨rfl,?_⟩)⟩
           exact congrArg (fun z=>some (Value.bool z)) (by first | (rw [(decide_eq_false g43_209)]; rfl) | (rw [(decide_eq_false g43_209)]; simp; done) | (simp [*]; done))
         ·refine TL.nil ?_
          refine TQ.then_n ?_
          refine T.cond _ rfl (fun ht213=>?_) (fun ht213=>?_)
          ·refine T.region ?_
           refine TL.move hF rfl rfl ?_
           refine TL.move hF rfl rfl ?_
           refine TL.move hF rfl rfl ?_
           refine TL.move hF rfl rfl ?_
           refine TL.move hF rfl rfl ?_
           simp only [Bool.and_eq_true,decide_eq_true_eq] at ht213
           have hsr:=ih (S:=S) (w0:=w0) (η:=η) (g:=g) (d:=d1) (a:=(a+b) / 2 ^ 1) (m:=(((a+b) / 2 ^ 1+m)-i)) (b:=b) (x:=(((a+b) / 2 ^ 1:Nat):Int)) (y:=((((a+b) / 2 ^ 1+m):Nat):Int)-(i:Int)) (z:=(b:Int)) rfl (by omega) rfl (by omega) (by omega) ((hb0.ch hch1).ch hc2) (by omega) (by omega) (by omega) hs3 hs4
           refine TL.call hF (Rt.args hsr (by rw [hl2]; rfl)) rfl rfl ?_
           rintro _ _ ⟨d3,hc3,hs5,rfl⟩
           refine TL.nil ?_
           refine TQ.norm ?_
           have hfin:=halves_done hH (by omega) (by omega) (by omega) (by omega) (by omega) hc2 hs2' hc3 hs5
           exact TQ.rets [] _ rfl rfl rfl ⟨d3,hch1.trans hfin.1,hfin.2,rfl⟩
          ·refine T.skip ?_
           refine TQ.norm ?_
           rw [← Bool.not_eq_true] at ht213
           simp only [Bool.and_eq_true,decide_eq_true_eq] at ht213
           have hs5:SrtR d1 ((a+b) / 2 ^ 1) b:=half_trivial hs3 hs4 (by omega) (by omega) (by omega)
           have hc3:Ch ((a+b) / 2 ^ 1) b d1 d1:=Ch.refl
           have hfin:=halves_done hH (by omega) (by omega) (by omega) (by omega) (by omega) hc2 hs2' hc3 hs5
           exact TQ.rets [] _ rfl rfl rfl ⟨d1,hch1.trans hfin.1,hfin.2,rfl⟩
      ·refine T.skip ?_
       refine TQ.then_n ?_
       refine T.seq ?_
       refine T.seq ?_
       refine T.region ?_
       refine TL.move hF rfl rfl ?_
       refine TL.move hF rfl rfl ?_
       rw [← Bool.not_eq_true] at ht185
       simp only [Bool.and_eq_true,decide_eq_true_eq] at ht185
       have hrot:Rot d d i m (((a+b) / 2 ^ 1+m)-i):=Rot.same (by omega) (by omega) (by omega)
       have hch1:Ch a b d d:=Ch.refl
       have hH:=hhal d hrot
       have hl1:d.length=d.length:=hch1.len
       refine TL.bin hF rfl rfl rfl rfl ?_
       refine TL.move hF rfl rfl ?_
       refine TL.join [_,_,_,_] 199 (.bool (decide ((a:Int)<(i:Int)) && decide ((i:Int)<(((a+b) / 2 ^ 1:Nat):Int)))) rfl ?_ ?_
       ·refine TL.gd (t:=195) rfl (fun g41_195=>?_) (fun g41_195=>?_)
        ·refine TL.on rfl rfl rfl (decide_eq_true g41_195) ?_
         refine TL.move hF rfl rfl ?_
         refine TL.on rfl rfl rfl (decide_eq_true g41_195) ?_
         refine TL.move hF rfl rfl ?_
         refine TL.on rfl rfl rfl (decide_eq_true g41_195) ?_
         refine TL.bin hF rfl rfl rfl rfl ?_
         refine TL.pickT hF rfl (decide_eq_true g41_195) rfl rfl ?_
         refine TL.finJ ⟨?_,by repeat (first | exact trivial | refine ⟨rfl,?_⟩)⟩
         exact congrArg (fun z=>some (Value.bool z)) (by first | (rw [(decide_eq_true g41_195)]; rfl) | (rw [(decide_eq_true g41_195)]; simp; done) | (simp [*]; done))
        ·refine TL.off hF rfl rfl rfl (decide_eq_false g41_195) rfl ?_
         refine TL.off hF rfl rfl rfl (decide_eq_false g41_195) rfl ?_
         refine TL.off hF rfl rfl rfl (decide_eq_false g41_195) rfl ?_
         refine TL.pickF hF rfl (decide_eq_false g41_195) rfl rfl ?_
         refine TL.finJ ⟨?_,by repeat (first | exact trivial | refine ⟨rfl,?_⟩)⟩
         exact congrArg (fun z=>some (Value.bool z)) (by first | (rw [(decide_eq_false g41_195)]; rfl) | (rw [(decide_eq_false g41_195)]; simp; done) | (simp [*]; done))
       ·refine TL.nil ?_
        refine TQ.then_n ?_
        refine T.cond _ rfl (fun ht199=>?_) (fun ht199=>?_)
        ·refine T.region ?_
         refine TL.move hF rfl rfl ?_
         refine TL.move hF rfl rfl ?_
         refine TL.move hF rfl rfl ?_
         refine TL.move hF rfl rfl ?_
         refine TL.move hF rfl rfl ?_
         simp only [Bool.and_eq_true,decide_eq_true_eq] at ht199
         have hsr:=ih (S:=S) (w0:=w0) (η:=η) (g:=g) (d:=d) (a:=a) (m:=i) (b:=(a+b) / 2 ^ 1) rfl rfl rfl (by omega) (by omega) (hb0.ch hch1) (by omega) (by omega) (by omega) hH.s1 hH.s2
         refine TL.call hF (Rt.args hsr (by rw [hl1]; rfl)) rfl rfl ?_
         rintro _ _ ⟨d2,hc2,hs2',rfl⟩
         refine TL.nil ?_
         refine TQ.then_n ?_
         refine T.seq ?_
         refine T.region ?_
         refine TL.move hF rfl rfl ?_
         refine TL.move hF rfl rfl ?_
         have hs3:SrtR d2 ((a+b) / 2 ^ 1) (((a+b) / 2 ^ 1+m)-i):=hH.s3.same fun k p q=>hc2.tm (.inr p)
         have hs4:SrtR d2 (((a+b) / 2 ^ 1+m)-i) b:=hH.s4.same fun k p q=>hc2.tm (.inr (by omega))
         have hl2:d2.length=d.length:=hc2.len.trans hl1
         refine TL.bin hF rfl rfl rfl rfl ?_
         refine TL.move hF rfl rfl ?_
         refine TL.join [_,_,_,_] 213 (.bool (decide ((((a+b) / 2 ^ 1:Nat):Int)<((((a+b) / 2 ^ 1+m):Nat):Int)-(i:Int)) && decide (((((a+b) / 2 ^ 1+m):Nat):Int)-(i:Int)<(b:Int)))) rfl ?_ ?_
         ·refine TL.gd (t:=209) rfl (fun g43_209=>?_) (fun g43_209=>?_)
          ·refine TL.on rfl rfl rfl (decide_eq_true g43_209) ?_
           refine TL.move hF rfl rfl ?_
           refine TL.on rfl rfl rfl (decide_eq_true g43_209) ?_
           refine TL.move hF rfl rfl ?_
           refine TL.on rfl rfl rfl (decide_eq_true g43_209) ?_
           refine TL.bin hF rfl rfl rfl rfl ?_
           refine TL.pickT hF rfl (decide_eq_true g43_209) rfl rfl ?_
           refine TL.finJ ⟨?_,by repeat (first | exact trivial | refine ⟨rfl,?_⟩)⟩
           exact congrArg (fun z=>some (Value.bool z)) (by first | (rw [(decide_eq_true g43_209)]; rfl) | (rw [(decide_eq_true g43_209)]; simp; done) | (simp [*]; done))
          ·refine TL.off hF rfl rfl rfl (decide_eq_false g43_209) rfl ?_
           refine TL.off hF rfl rfl rfl (decide_eq_false g43_209) rfl ?_
           refine TL.off hF rfl rfl rfl (decide_eq_false g43_209) rfl ?_
           refine TL.pickF hF rfl (decide_eq_false g43_209) rfl rfl ?_
           refine TL.finJ ⟨?_,by repeat (first | exact trivial | refine ⟨rfl,?_⟩)⟩
           exact congrArg (fun z=>some (Value.bool z)) (by first | (rw [(decide_eq_false g43_209)]; rfl) | (rw [(decide_eq_false g43_209)]; simp; done) | (simp [*]; done))
         ·refine TL.nil ?_
          refine TQ.then_n ?_
          refine T.cond _ rfl (fun ht213=>?_) (fun ht213=>?_)
          ·refine T.region ?_
           refine TL.move hF rfl rfl ?_
           refine TL.move hF rfl rfl ?_
           refine TL.move hF rfl rfl ?_
           refine TL.move hF rfl rfl ?_
           refine TL.move hF rfl rfl ?_
           simp only [Bool.and_eq_true,decide_eq_true_eq] at ht213
           have hsr:=ih (S:=S) (w0:=w0) (η:=η) (g:=g) (d:=d2) (a:=(a+b) / 2 ^ 1) (m:=(((a+b) / 2 ^ 1+m)-i)) (b:=b) (x:=(((a+b) / 2 ^ 1:Nat):Int)) (y:=((((a+b) / 2 ^ 1+m):Nat):Int)-(i:Int)) (z:=(b:Int)) rfl (by omega) rfl (by omega) (by omega) ((hb0.ch hch1).ch hc2) (by omega) (by omega) (by omega) hs3 hs4
           refine TL.call hF (Rt.args hsr (by rw [hl2]; rfl)) rfl rfl ?_
           rintro _ _ ⟨d3,hc3,hs5,rfl⟩
           refine TL.nil ?_
           refine TQ.norm ?_
           have hfin:=halves_done hH (by omega) (by omega) (by omega) (by omega) (by omega) hc2 hs2' hc3 hs5
           exact TQ.rets [] _ rfl rfl rfl ⟨d3,hch1.trans hfin.1,hfin.2,rfl⟩
          ·refine T.skip ?_
           refine TQ.norm ?_
           rw [← Bool.not_eq_true] at ht213
           simp only [Bool.and_eq_true,decide_eq_true_eq] at ht213
           have hs5:SrtR d2 ((a+b) / 2 ^ 1) b:=half_trivial hs3 hs4 (by omega) (by omega) (by omega)
           have hc3:Ch ((a+b) / 2 ^ 1) b d2 d2:=Ch.refl
           have hfin:=halves_done hH (by omega) (by omega) (by omega) (by omega) (by omega) hc2 hs2' hc3 hs5
           exact TQ.rets [] _ rfl rfl rfl ⟨d2,hch1.trans hfin.1,hfin.2,rfl⟩
        ·refine T.skip ?_
         refine TQ.then_n ?_
         refine T.seq ?_
         refine T.region ?_
         refine TL.move hF rfl rfl ?_
         refine TL.move hF rfl rfl ?_
         rw [← Bool.not_eq_true] at ht199
         simp only [Bool.and_eq_true,decide_eq_true_eq] at ht199
         have hs2':SrtR d a ((a+b) / 2 ^ 1):=half_trivial hH.s1 hH.s2 (by omega) (by omega) (by omega)
         have hc2:Ch a ((a+b) / 2 ^ 1) d d:=Ch.refl
         have hs3:SrtR d ((a+b) / 2 ^ 1) (((a+b) / 2 ^ 1+m)-i):=hH.s3.same fun k p q=>hc2.tm (.inr p)
         have hs4:SrtR d (((a+b) / 2 ^ 1+m)-i) b:=hH.s4.same fun k p q=>hc2.tm (.inr (by omega))
         have hl2:d.length=d.length:=hc2.len.trans hl1
         refine TL.bin hF rfl rfl rfl rfl ?_
         refine TL.move hF rfl rfl ?_
         refine TL.join [_,_,_,_] 213 (.bool (decide ((((a+b) / 2 ^ 1:Nat):Int)<((((a+b) / 2 ^ 1+m):Nat):Int)-(i:Int)) && decide (((((a+b) / 2 ^ 1+m):Nat):Int)-(i:Int)<(b:Int)))) rfl ?_ ?_
         ·refine TL.gd (t:=209) rfl (fun g43_209=>?_) (fun g43_209=>?_)
          ·refine TL.on rfl rfl rfl (decide_eq_true g43_209) ?_
           refine TL.move hF rfl rfl ?_
           refine TL.on rfl rfl rfl (decide_eq_true g43_209) ?_
           refine TL.move hF rfl rfl ?_
           refine TL.on rfl rfl rfl (decide_eq_true g43_209) ?_
           refine TL.bin hF rfl rfl rfl rfl ?_
           refine TL.pickT hF rfl (decide_eq_true g43_209) rfl rfl ?_
           refine TL.finJ ⟨?_,by repeat (first | exact trivial | refine ⟨rfl,?_⟩)⟩
           exact congrArg (fun z=>some (Value.bool z)) (by first | (rw [(decide_eq_true g43_209)]; rfl) | (rw [(decide_eq_true g43_209)]; simp; done) | (simp [*]; done))
          ·refine TL.off hF rfl rfl rfl (decide_eq_false g43_209) rfl ?_
           refine TL.off hF rfl rfl rfl (decide_eq_false g43_209) rfl ?_
           refine TL.off hF rfl rfl rfl (decide_eq_false g43_209) rfl ?_
           refine TL.pickF hF rfl (decide_eq_false g43_209) rfl rfl ?_
           refine TL.finJ ⟨?_,by repeat (first | exact trivial | refine ⟨rfl,?_⟩)⟩
           exact congrArg (fun z=>some (Value.bool z)) (by first | (rw [(decide_eq_false g43_209)]; rfl) | (rw [(decide_eq_false g43_209)]; simp; done) | (simp [*]; done))
         ·refine TL.nil ?_
          refine TQ.then_n ?_
          refine T.cond _ rfl (fun ht213=>?_) (fun ht213=>?_)
          ·refine T.region ?_
           refine TL.move hF rfl rfl ?_
           refine TL.move hF rfl rfl ?_
           refine TL.move hF rfl rfl ?_
           refine TL.move hF rfl rfl ?_
           refine TL.move hF rfl rfl ?_
           simp only [Bool.and_eq_true,decide_eq_true_eq] at ht213
           have hsr:=ih (S:=S) (w0:=w0) (η:=η) (g:=g) (d:=d) (a:=(a+b) / 2 ^ 1) (m:=(((a+b) / 2 ^ 1+m)-i)) (b:=b) (x:=(((a+b) / 2 ^ 1:Nat):Int)) (y:=((((a+b) / 2 ^ 1+m):Nat):Int)-(i:Int)) (z:=(b:Int)) rfl (by omega) rfl (by omega) (by omega) ((hb0.ch hch1).ch hc2) (by omega) (by omega) (by omega) hs3 hs4
           refine TL.call hF (Rt.args hsr (by rw [hl2]; rfl)) rfl rfl ?_
           rintro _ _ ⟨d3,hc3,hs5,rfl⟩
           refine TL.nil ?_
           refine TQ.norm ?_
           have hfin:=halves_done hH (by omega) (by omega) (by omega) (by omega) (by omega) hc2 hs2' hc3 hs5
           exact TQ.rets [] _ rfl rfl rfl ⟨d3,hch1.trans hfin.1,hfin.2,rfl⟩
          ·refine T.skip ?_
           refine TQ.norm ?_
           rw [← Bool.not_eq_true] at ht213
           simp only [Bool.and_eq_true,decide_eq_true_eq] at ht213
           have hs5:SrtR d ((a+b) / 2 ^ 1) b:=half_trivial hs3 hs4 (by omega) (by omega) (by omega)
           have hc3:Ch ((a+b) / 2 ^ 1) b d d:=Ch.refl
           have hfin:=halves_done hH (by omega) (by omega) (by omega) (by omega) (by omega) hc2 hs2' hc3 hs5
           exact TQ.rets [] _ rfl rfl rfl ⟨d,hch1.trans hfin.1,hfin.2,rfl⟩
   ·refine T.seq ?_
    refine T.region ?_
    refine TL.move hF rfl rfl ?_
    refine TL.assign hF rfl rfl ?_
    refine TL.nil ?_
    refine TQ.then_n ?_
    refine T.region ?_
    refine TL.move hF rfl rfl ?_
    refine TL.assign hF rfl rfl ?_
    refine TL.nil ?_
    refine TQ.then_n ?_
    refine T.seq ?_
    refine T.region ?_
    refine TL.move hF rfl rfl ?_
    refine TL.sub hF rfl rfl (by first | omega | (dsimp only; omega)) (by first | omega | (dsimp only; omega)) rfl ?_
    refine TL.assign hF rfl rfl ?_
    refine TL.nil ?_
    refine TQ.then_n ?_
    refine T.seq ?_
    refine T.block ?_
    have hcase:¬ (a+b) / 2 ^ 1<m:=by have h:¬ (((a+b) / 2 ^ 1:Nat):Int)<(m:Int):=ht140; omega
    refine T.loop (ι:=Nat × Nat) (fun s=>a≤s.1∧s.1≤s.2∧s.2≤m∧(a<s.1→tmA d (s.1 - 1)≤tmA d (((a+b) / 2 ^ 1+m)-s.1))∧(s.2<m→tmA d (((a+b) / 2 ^ 1+m)-1 - s.2)<tmA d s.2)) (fun s=>[(0,.slice (some ⟨g,0,none⟩) d.length d.length),(1,.int .i64 (a:Int)),(2,.int .i64 (m:Int)),(3,.int .i64 (b:Int)),(4,.func (.func 115) #[] #[]),(18,.int .i64 (((a+b) / 2 ^ 1:Nat):Int)),(19,.int .i64 ((((a+b) / 2 ^ 1+m):Nat):Int)),(20,.int .i64 (s.1:Int)),(21,.int .i64 (s.2:Int)),(22,.int .i64 ((((a+b) / 2 ^ 1+m)-1:Nat):Int))]) (fun _=>[(g,Obj.cells ((d).flatMap rwC).toArray 57 (0,0))]::η) (fun s=>s.2 - s.1) (a,m) ⟨Nat.le_refl _,by dsimp only; omega,Nat.le_refl _,fun h=>by dsimp only at h; omega,fun h=>by dsimp only at h; omega⟩ ⟨rfl,rfl,rfl,rfl,rfl,rfl,congrArg (fun z=>some (Value.int .i64 z)) (by first | rfl | (dsimp only; omega) | omega),congrArg (fun z=>some (Value.int .i64 z)) (by first | rfl | (dsimp only; omega) | omega),rfl,congrArg (fun z=>some (Value.int .i64 z)) (by first | rfl | (dsimp only; omega) | omega),trivial⟩ rfl ?_
    rintro ⟨i,j⟩ ⟨hi,hij,hjb,hlo,hhi⟩
    dsimp only at hi hij hjb hlo hhi
    refine T.seq ?_
    refine T.seq ?_
    refine T.region ?_
    refine TL.move hF rfl rfl ?_
    refine TL.move hF rfl rfl ?_
    refine TL.bin hF rfl rfl rfl rfl ?_
    refine TL.nil ?_
    refine TQ.then_n ?_
    first | refine T.cond_d rfl (fun ht151=>?_) (fun ht151=>?_) | refine T.cond _ rfl (fun ht151=>?_) (fun ht151=>?_)
    ·refine T.skip ?_
     refine TQ.then_n ?_
     refine T.block ?_
     refine T.seq ?_
     refine T.region ?_
     refine TL.move hF rfl rfl ?_
     refine TL.move hF rfl rfl ?_
     refine TL.add hF rfl rfl (by first | omega | (dsimp only; omega)) (by first | omega | (dsimp only; omega)) rfl ?_
     refine TL.convK hF (r:=((i+j:Nat):Int)) rfl (by rw [wu64 (by omega) (by omega)]; omega) rfl ?_
     refine TL.shrN hF (a:=i+j) (s:=1) rfl rfl (by decide) rfl ?_
     refine TL.convK hF (r:=(((i+j) / 2 ^ 1:Nat):Int)) rfl (wrap_i64 (by omega) (by omega)) rfl ?_
     refine TL.assign hF rfl rfl ?_
     refine TL.nil ?_
     refine TQ.then_n ?_
     refine T.seq ?_
     have hltij:i<j:=by have h:(i:Int)<(j:Int):=ht151; omega
     have hhj:((i+j) / 2 ^ 1:Nat)<j∧i≤((i+j) / 2 ^ 1:Nat):=by omega
     have hpc:(((((a+b) / 2 ^ 1+m)-1:Nat):Int)-(((i+j) / 2 ^ 1:Nat):Int))=((((a+b) / 2 ^ 1+m)-1 - ((i+j) / 2 ^ 1:Nat):Nat):Int):=by omega
     have hpl:((a+b) / 2 ^ 1+m)-1 - ((i+j) / 2 ^ 1:Nat)<b:=by omega
     refine T.draw ?_
     refine DR.stepV [_] rfl [(4,_,none)] rfl rfl ⟨⟨rfl,by kernel_rfl⟩,trivial⟩ (fun ext=>TL.move hF rfl rfl TL.fin) ?_
     refine DR.stepV [_,_] rfl [(0,_,none)] rfl rfl ⟨⟨rfl,by kernel_rfl⟩,trivial⟩ (fun ext=>TL.move hF rfl rfl TL.fin) ?_
     refine DR.stepV [_,_,_] rfl [(22,_,none)] rfl rfl ⟨⟨rfl,by kernel_rfl⟩,trivial⟩ (fun ext=>TL.move hF rfl rfl TL.fin) ?_
     refine DR.stepV [_,_,_,_] rfl [(23,_,none)] rfl rfl ⟨⟨rfl,by kernel_rfl⟩,trivial⟩ (fun ext=>TL.move hF rfl rfl TL.fin) ?_
     refine DR.stepV [_,_,_,_,_] rfl [(160,_,some 2),(161,_,some 3)] rfl rfl ⟨⟨rfl,rfl,rfl⟩,⟨rfl,rfl,rfl⟩,trivial⟩ (fun ext=>TL.sub hF rfl rfl (by first | omega | (dsimp only; omega)) (by first | omega | (dsimp only; omega)) rfl TL.fin) ?_
     refine DR.stepV [_,_,_,_,_,_] rfl [(159,_,some 1),(162,_,some 4)] rfl rfl ⟨⟨rfl,rfl,rfl⟩,⟨rfl,rfl,rfl⟩,trivial⟩ (fun ext=>TL.indexAddr hF rfl rfl ⟨_,rfl,rfl⟩ (by first | omega | (dsimp only; omega)) (by first | omega | (dsimp only; omega)) rfl TL.fin) ?_
     refine DR.stepV [_,_,_,_,_,_,_] rfl [(163,_,some 5)] rfl rfl ⟨⟨rfl,rfl,rfl⟩,trivial⟩ (fun ext=>TL.loadA hF (rwC (rowAt d ((((((a+b) / 2 ^ 1+m)-1:Nat):Int)-(((i+j) / 2 ^ 1:Nat):Int))))) rfl rfl (gd_at (n:=(((((a+b) / 2 ^ 1+m)-1:Nat):Int)-(((i+j) / 2 ^ 1:Nat):Int))) (by simp) (by first | omega | (dsimp only; omega))) rfl TL.fin) ?_
     refine DR.stepV [_,_,_,_,_,_,_,_] rfl [(0,_,none)] rfl rfl ⟨⟨rfl,by kernel_rfl⟩,trivial⟩ (fun ext=>TL.move hF rfl rfl TL.fin) ?_
     refine DR.stepV [_,_,_,_,_,_,_,_,_] rfl [(23,_,none)] rfl rfl ⟨⟨rfl,by kernel_rfl⟩,trivial⟩ (fun ext=>TL.move hF rfl rfl TL.fin) ?_
     refine DR.stepV [_,_,_,_,_,_,_,_,_,_] rfl [(165,_,some 7),(166,_,some 8)] rfl rfl ⟨⟨rfl,rfl,rfl⟩,⟨rfl,rfl,rfl⟩,trivial⟩ (fun ext=>TL.indexAddr hF rfl rfl ⟨_,rfl,rfl⟩ (by first | omega | (dsimp only; omega)) (by first | omega | (dsimp only; omega)) rfl TL.fin) ?_
     refine DR.stepV [_,_,_,_,_,_,_,_,_,_,_] rfl [(167,_,some 9)] rfl rfl ⟨⟨rfl,rfl,rfl⟩,trivial⟩ (fun ext=>TL.loadA hF (rwC (rowAt d ((((i+j) / 2 ^ 1:Nat):Int)))) rfl rfl (gd_at (n:=(((i+j) / 2 ^ 1:Nat):Int)) (by simp) (by first | omega | (dsimp only; omega))) rfl TL.fin) ?_
     refine DR.done [(168,_),(167,_),(166,_),(165,_),(164,_),(163,_),(162,_),(161,_),(160,_),(159,_),(158,_)] [_,_,_] mixed (by kernel_rfl) (by kernel_rfl) (by kernel_rfl) rfl rfl ?_
     refine TL.callV hF (cmp_fn (hb0.at (n:=(((((a+b) / 2 ^ 1+m)-1:Nat):Int)-(((i+j) / 2 ^ 1:Nat):Int))) (by first | omega | (dsimp only; omega))) (hb0.at (n:=(((i+j) / 2 ^ 1:Nat):Int)) (by first | omega | (dsimp only; omega)))) rfl rfl ?_
     refine TL.bin hF rfl rfl rfl rfl ?_
     refine TL.not hF rfl rfl ?_
     refine TL.nil ?_
     refine TQ.then_n ?_
     refine T.cond _ rfl (fun ht171=>?_) (fun ht171=>?_)
     ·refine T.region ?_
      refine TL.move hF rfl rfl ?_
      refine TL.add hF rfl rfl (by first | omega | (dsimp only; omega)) (by first | omega | (dsimp only; omega)) rfl ?_
      refine TL.assign hF rfl rfl ?_
      refine TL.nil ?_
      refine TQ.block_n ?_
      have hc:tmA d ((i+j) / 2 ^ 1:Nat)≤tmA d (((a+b) / 2 ^ 1+m)-1 - ((i+j) / 2 ^ 1:Nat)):=by
       have h:¬ (rowAt d (((((a+b) / 2 ^ 1+m)-1:Nat):Int)-(((i+j) / 2 ^ 1:Nat):Int))).time - (rowAt d (((i+j) / 2 ^ 1:Nat):Int)).time<0:=by simpa using ht171
       unfold rowAt at h
       rw [hpc,Int.toNat_natCast,Int.toNat_natCast] at h
       unfold tmA; omega
      exact TQ.round (((i+j) / 2 ^ 1:Nat)+1,j) ⟨by dsimp only; omega,by dsimp only; omega,hjb,fun _=>by rw [show ((i+j) / 2 ^ 1:Nat)+1 - 1=((i+j) / 2 ^ 1:Nat) by omega,show ((a+b) / 2 ^ 1+m)-(((i+j) / 2 ^ 1:Nat)+1)=((a+b) / 2 ^ 1+m)-1 - ((i+j) / 2 ^ 1:Nat) by omega]; exact hc,hhi⟩ (by dsimp only; omega) ⟨rfl,rfl,rfl,rfl,rfl,rfl,rfl,congrArg (fun z=>some (Value.int .i64 z)) (by first | rfl | (dsimp only; omega) | omega),rfl,rfl,trivial⟩ rfl
     ·refine T.region ?_
      refine TL.move hF rfl rfl ?_
      refine TL.assign hF rfl rfl ?_
      refine TL.nil ?_
      refine TQ.block_n ?_
      have hc:tmA d (((a+b) / 2 ^ 1+m)-1 - ((i+j) / 2 ^ 1:Nat))<tmA d ((i+j) / 2 ^ 1:Nat):=by
       have h:(rowAt d (((((a+b) / 2 ^ 1+m)-1:Nat):Int)-(((i+j) / 2 ^ 1:Nat):Int))).time - (rowAt d (((i+j) / 2 ^ 1:Nat):Int)).time<0:=by simpa using ht171
       unfold rowAt at h
       rw [hpc,Int.toNat_natCast,Int.toNat_natCast] at h
       unfold tmA; omega
      exact TQ.round (i,((i+j) / 2 ^ 1:Nat)) ⟨hi,by dsimp only; omega,by dsimp only; omega,hlo,fun _=>hc⟩ (by dsimp only; omega) ⟨rfl,rfl,rfl,rfl,rfl,rfl,rfl,rfl,rfl,rfl,trivial⟩ rfl
    ·refine T.exit ?_
     refine TQ.then_x ?_
     refine TQ.then_x ?_
     refine TQ.block_x ?_
     refine TQ.then_n ?_
     refine T.seq ?_
     refine T.region ?_
     refine TL.move hF rfl rfl ?_
     refine TL.move hF rfl rfl ?_
     have hij2:i=j:=by have h:¬ (i:Int)<(j:Int):=ht151; omega
     subst hij2
     have hbd:a≤i∧i≤m∧m≤(((a+b) / 2 ^ 1+m)-i)∧(((a+b) / 2 ^ 1+m)-i)≤b∧i≤(a+b) / 2 ^ 1∧(a+b) / 2 ^ 1≤(((a+b) / 2 ^ 1+m)-i):=by omega
     have hhal:∀ d1,Rot d d1 i m (((a+b) / 2 ^ 1+m)-i)→Halves d1 a i ((a+b) / 2 ^ 1) (((a+b) / 2 ^ 1+m)-i) b:=fun d1 hr =>
      (halves (lo:=a) (hi:=m) ham hmb (by omega) hs1 hs2 (by rw [if_neg hcase]) (by rw [if_neg hcase]) hi hjb rfl hlo (fun h=>Int.le_of_lt (by have h9:=hhi h; rwa [show ((a+b) / 2 ^ 1+m)-1 - i=(((a+b) / 2 ^ 1+m)-i)-1 by omega] at h9)) hr).1
     refine TL.sub hF rfl rfl (by omega) (by omega) rfl ?_
     refine TL.assign hF rfl rfl ?_
     refine TL.nil ?_
     refine TQ.then_n ?_
     refine T.seq ?_
     refine T.seq ?_
     refine T.region ?_
     refine TL.move hF rfl rfl ?_
     refine TL.move hF rfl rfl ?_
     refine TL.bin hF rfl rfl rfl rfl ?_
     refine TL.move hF rfl rfl ?_
     refine TL.join [_,_,_,_] 185 (.bool (decide ((i:Int)<(m:Int)) && decide ((m:Int)<((((a+b) / 2 ^ 1+m):Nat):Int)-(i:Int)))) rfl ?_ ?_
     ·refine TL.gd (t:=181) rfl (fun g39_181=>?_) (fun g39_181=>?_)
      ·refine TL.on rfl rfl rfl (decide_eq_true g39_181) ?_
       refine TL.move hF rfl rfl ?_
       refine TL.on rfl rfl rfl (decide_eq_true g39_181) ?_
       refine TL.move hF rfl rfl ?_
       refine TL.on rfl rfl rfl (decide_eq_true g39_181) ?_
       refine TL.bin hF rfl rfl rfl rfl ?_
       refine TL.pickT hF rfl (decide_eq_true g39_181) rfl rfl ?_
       refine TL.finJ ⟨?_,by repeat (first | exact trivial | refine ⟨rfl,?_⟩)⟩
       exact congrArg (fun z=>some (Value.bool z)) (by first | (rw [(decide_eq_true g39_181)]; rfl) | (rw [(decide_eq_true g39_181)]; simp; done) | (simp [*]; done))
      ·refine TL.off hF rfl rfl rfl (decide_eq_false g39_181) rfl ?_
       refine TL.off hF rfl rfl rfl (decide_eq_false g39_181) rfl ?_
       refine TL.off hF rfl rfl rfl (decide_eq_false g39_181) rfl ?_
       refine TL.pickF hF rfl (decide_eq_false g39_181) rfl rfl ?_
       refine TL.finJ ⟨?_,by repeat (first | exact trivial | refine ⟨rfl,?_⟩)⟩
       exact congrArg (fun z=>some (Value.bool z)) (by first | (rw [(decide_eq_false g39_181)]; rfl) | (rw [(decide_eq_false g39_181)]; simp; done) | (simp [*]; done))
     ·refine TL.nil ?_
      refine TQ.then_n ?_
      refine T.cond _ rfl (fun ht185=>?_) (fun ht185=>?_)
      ·refine T.region ?_
       refine TL.move hF rfl rfl ?_
       refine TL.move hF rfl rfl ?_
       refine TL.move hF rfl rfl ?_
       refine TL.move hF rfl rfl ?_
       refine TL.move hF rfl rfl ?_
       simp only [Bool.and_eq_true,decide_eq_true_eq] at ht185
       refine TL.call hF (rotate_fn (S:=S) (w0:=w0) (η:=η) (g:=g) (d:=d) (a:=i) (m:=m) (b:=(((a+b) / 2 ^ 1+m)-i)) rfl rfl (by omega) hd (by omega) (by omega) (by omega)) rfl rfl ?_
       rintro _ _ ⟨d1,hrot,hch0,rfl⟩
       have hch1:Ch a b d d1:=hch0.wide (by omega) (by omega)
       refine TL.nil ?_
       refine TQ.then_n ?_
       refine T.seq ?_
       refine T.seq ?_
       refine T.region ?_
       refine TL.move hF rfl rfl ?_
       refine TL.move hF rfl rfl ?_
       have hH:=hhal d1 hrot
       have hl1:d1.length=d.length:=hch1.len
       refine TL.bin hF rfl rfl rfl rfl ?_
       refine TL.move hF rfl rfl ?_
       refine TL.join [_,_,_,_] 199 (.bool (decide ((a:Int)<(i:Int)) && decide ((i:Int)<(((a+b) / 2 ^ 1:Nat):Int)))) rfl ?_ ?_
       ·refine TL.gd (t:=195) rfl (fun g41_195=>?_) (fun g41_195=>?_)
        ·refine TL.on rfl rfl rfl (decide_eq_true g41_195) ?_
         refine TL.move hF rfl rfl ?_
         refine TL.on rfl rfl rfl (decide_eq_true g41_195) ?_
         refine TL.move hF rfl rfl ?_
         refine TL.on rfl rfl rfl (decide_eq_true g41_195) ?_
         refine TL.bin hF rfl rfl rfl rfl ?_
         refine TL.pickT hF rfl (decide_eq_true g41_195) rfl rfl ?_
         refine TL.finJ ⟨?_,by repeat (first | exact trivial | refine ⟨rfl,?_⟩)⟩
         exact congrArg (fun z=>some (Value.bool z)) (by first | (rw [(decide_eq_true g41_195)]; rfl) | (rw [(decide_eq_true g41_195)]; simp; done) | (simp [*]; done))
        ·refine TL.off hF rfl rfl rfl (decide_eq_false g41_195) rfl ?_
         refine TL.off hF rfl rfl rfl (decide_eq_false g41_195) rfl ?_
         refine TL.off hF rfl rfl rfl (decide_eq_false g41_195) rfl ?_
         refine TL.pickF hF rfl (decide_eq_false g41_195) rfl rfl ?_
         refine TL.finJ ⟨?_,by repeat (first | exact trivial | refine ⟨rfl,?_⟩)⟩
         exact congrArg (fun z=>some (Value.bool z)) (by first | (rw [(decide_eq_false g41_195)]; rfl) | (rw [(decide_eq_false g41_195)]; simp; done) | (simp [*]; done))
       ·refine TL.nil ?_
        refine TQ.then_n ?_
        refine T.cond _ rfl (fun ht199=>?_) (fun ht199=>?_)
        ·refine T.region ?_
         refine TL.move hF rfl rfl ?_
         refine TL.move hF rfl rfl ?_
         refine TL.move hF rfl rfl ?_
         refine TL.move hF rfl rfl ?_
         refine TL.move hF rfl rfl ?_
         simp only [Bool.and_eq_true,decide_eq_true_eq] at ht199
         have hsr:=ih (S:=S) (w0:=w0) (η:=η) (g:=g) (d:=d1) (a:=a) (m:=i) (b:=(a+b) / 2 ^ 1) rfl rfl rfl (by omega) (by omega) (hb0.ch hch1) (by omega) (by omega) (by omega) hH.s1 hH.s2
         refine TL.call hF (Rt.args hsr (by rw [hl1]; rfl)) rfl rfl ?_
         rintro _ _ ⟨d2,hc2,hs2',rfl⟩
         refine TL.nil ?_
         refine TQ.then_n ?_
         refine T.seq ?_
         refine T.region ?_
         refine TL.move hF rfl rfl ?_
         refine TL.move hF rfl rfl ?_
         have hs3:SrtR d2 ((a+b) / 2 ^ 1) (((a+b) / 2 ^ 1+m)-i):=hH.s3.same fun k p q=>hc2.tm (.inr p)
         have hs4:SrtR d2 (((a+b) / 2 ^ 1+m)-i) b:=hH.s4.same fun k p q=>hc2.tm (.inr (by omega))
         have hl2:d2.length=d.length:=hc2.len.trans hl1
         refine TL.bin hF rfl rfl rfl rfl ?_
         refine TL.move hF rfl rfl ?_
         refine TL.join [_,_,_,_] 213 (.bool (decide ((((a+b) / 2 ^ 1:Nat):Int)<((((a+b) / 2 ^ 1+m):Nat):Int)-(i:Int)) && decide (((((a+b) / 2 ^ 1+m):Nat):Int)-(i:Int)<(b:Int)))) rfl ?_ ?_
         ·refine TL.gd (t:=209) rfl (fun g43_209=>?_) (fun g43_209=>?_)
          ·refine TL.on rfl rfl rfl (decide_eq_true g43_209) ?_
           refine TL.move hF rfl rfl ?_
           refine TL.on rfl rfl rfl (decide_eq_true g43_209) ?_
           refine TL.move hF rfl rfl ?_
           refine TL.on rfl rfl rfl (decide_eq_true g43_209) ?_
           refine TL.bin hF rfl rfl rfl rfl ?_
           refine TL.pickT hF rfl (decide_eq_true g43_209) rfl rfl ?_
           refine TL.finJ ⟨?_,by repeat (first | exact trivial | refine ⟨rfl,?_⟩)⟩
           exact congrArg (fun z=>some (Value.bool z)) (by first | (rw [(decide_eq_true g43_209)]; rfl) | (rw [(decide_eq_true g43_209)]; simp; done) | (simp [*]; done))
          ·refine TL.off hF rfl rfl rfl (decide_eq_false g43_209) rfl ?_
           refine TL.off hF rfl rfl rfl (decide_eq_false g43_209) rfl ?_
           refine TL.off hF rfl rfl rfl (decide_eq_false g43_209) rfl ?_
           refine TL.pickF hF rfl (decide_eq_false g43_209) rfl rfl ?_
           refine TL.finJ ⟨?_,by repeat (first | exact trivial | refine ⟨rfl,?_⟩)⟩
           exact congrArg (fun z=>some (Value.bool z)) (by first | (rw [(decide_eq_false g43_209)]; rfl) | (rw [(decide_eq_false g43_209)]; simp; done) | (simp [*]; done))
         ·refine TL.nil ?_
          refine TQ.then_n ?_
          refine T.cond _ rfl (fun ht213=>?_) (fun ht213=>?_)
          ·refine T.region ?_
           refine TL.move hF rfl rfl ?_
           refine TL.move hF rfl rfl ?_
           refine TL.move hF rfl rfl ?_
           refine TL.move hF rfl rfl ?_
           refine TL.move hF rfl rfl ?_
           simp only [Bool.and_eq_true,decide_eq_true_eq] at ht213
           have hsr:=ih (S:=S) (w0:=w0) (η:=η) (g:=g) (d:=d2) (a:=(a+b) / 2 ^ 1) (m:=(((a+b) / 2 ^ 1+m)-i)) (b:=b) (x:=(((a+b) / 2 ^ 1:Nat):Int)) (y:=((((a+b) / 2 ^ 1+m):Nat):Int)-(i:Int)) (z:=(b:Int)) rfl (by omega) rfl (by omega) (by omega) ((hb0.ch hch1).ch hc2) (by omega) (by omega) (by omega) hs3 hs4
           refine TL.call hF (Rt.args hsr (by rw [hl2]; rfl)) rfl rfl ?_
           rintro _ _ ⟨d3,hc3,hs5,rfl⟩
           refine TL.nil ?_
           refine TQ.norm ?_
           have hfin:=halves_done hH (by omega) (by omega) (by omega) (by omega) (by omega) hc2 hs2' hc3 hs5
           exact TQ.rets [] _ rfl rfl rfl ⟨d3,hch1.trans hfin.1,hfin.2,rfl⟩
          ·refine T.skip ?_
           refine TQ.norm ?_
           rw [← Bool.not_eq_true] at ht213
           simp only [Bool.and_eq_true,decide_eq_true_eq] at ht213
           have hs5:SrtR d2 ((a+b) / 2 ^ 1) b:=half_trivial hs3 hs4 (by omega) (by omega) (by omega)
           have hc3:Ch ((a+b) / 2 ^ 1) b d2 d2:=Ch.refl
           have hfin:=halves_done hH (by omega) (by omega) (by omega) (by omega) (by omega) hc2 hs2' hc3 hs5
           exact TQ.rets [] _ rfl rfl rfl ⟨d2,hch1.trans hfin.1,hfin.2,rfl⟩
        ·refine T.skip ?_
         refine TQ.then_n ?_
         refine T.seq ?_
         refine T.region ?_
         refine TL.move hF rfl rfl ?_
         refine TL.move hF rfl rfl ?_
         rw [← Bool.not_eq_true] at ht199
         simp only [Bool.and_eq_true,decide_eq_true_eq] at ht199
         have hs2':SrtR d1 a ((a+b) / 2 ^ 1):=half_trivial hH.s1 hH.s2 (by omega) (by omega) (by omega)
         have hc2:Ch a ((a+b) / 2 ^ 1) d1 d1:=Ch.refl
         have hs3:SrtR d1 ((a+b) / 2 ^ 1) (((a+b) / 2 ^ 1+m)-i):=hH.s3.same fun k p q=>hc2.tm (.inr p)
         have hs4:SrtR d1 (((a+b) / 2 ^ 1+m)-i) b:=hH.s4.same fun k p q=>hc2.tm (.inr (by omega))
         have hl2:d1.length=d.length:=hc2.len.trans hl1
         refine TL.bin hF rfl rfl rfl rfl ?_
         refine TL.move hF rfl rfl ?_
         refine TL.join [_,_,_,_] 213 (.bool (decide ((((a+b) / 2 ^ 1:Nat):Int)<((((a+b) / 2 ^ 1+m):Nat):Int)-(i:Int)) && decide (((((a+b) / 2 ^ 1+m):Nat):Int)-(i:Int)<(b:Int)))) rfl ?_ ?_
         ·refine TL.gd (t:=209) rfl (fun g43_209=>?_) (fun g43_209=>?_)
          ·refine TL.on rfl rfl rfl (decide_eq_true g43_209) ?_
           refine TL.move hF rfl rfl ?_
           refine TL.on rfl rfl rfl (decide_eq_true g43_209) ?_
           refine TL.move hF rfl rfl ?_
           refine TL.on rfl rfl rfl (decide_eq_true g43_209) ?_
           refine TL.bin hF rfl rfl rfl rfl ?_
           refine TL.pickT hF rfl (decide_eq_true g43_209) rfl rfl ?_
           refine TL.finJ ⟨?_,by repeat (first | exact trivial | refine ⟨rfl,?_⟩)⟩
           exact congrArg (fun z=>some (Value.bool z)) (by first | (rw [(decide_eq_true g43_209)]; rfl) | (rw [(decide_eq_true g43_209)]; simp; done) | (simp [*]; done))
          ·refine TL.off hF rfl rfl rfl (decide_eq_false g43_209) rfl ?_
           refine TL.off hF rfl rfl rfl (decide_eq_false g43_209) rfl ?_
           refine TL.off hF rfl rfl rfl (decide_eq_false g43_209) rfl ?_
           refine TL.pickF hF rfl (decide_eq_false g43_209) rfl rfl ?_
           refine TL.finJ ⟨?_,by repeat (first | exact trivial | refine ⟨rfl,?_⟩)⟩
           exact congrArg (fun z=>some (Value.bool z)) (by first | (rw [(decide_eq_false g43_209)]; rfl) | (rw [(decide_eq_false g43_209)]; simp; done) | (simp [*]; done))
         ·refine TL.nil ?_
          refine TQ.then_n ?_
          refine T.cond _ rfl (fun ht213=>?_) (fun ht213=>?_)
          ·refine T.region ?_
           refine TL.move hF rfl rfl ?_
           refine TL.move hF rfl rfl ?_
           refine TL.move hF rfl rfl ?_
           refine TL.move hF rfl rfl ?_
           refine TL.move hF rfl rfl ?_
           simp only [Bool.and_eq_true,decide_eq_true_eq] at ht213
           have hsr:=ih (S:=S) (w0:=w0) (η:=η) (g:=g) (d:=d1) (a:=(a+b) / 2 ^ 1) (m:=(((a+b) / 2 ^ 1+m)-i)) (b:=b) (x:=(((a+b) / 2 ^ 1:Nat):Int)) (y:=((((a+b) / 2 ^ 1+m):Nat):Int)-(i:Int)) (z:=(b:Int)) rfl (by omega) rfl (by omega) (by omega) ((hb0.ch hch1).ch hc2) (by omega) (by omega) (by omega) hs3 hs4
           refine TL.call hF (Rt.args hsr (by rw [hl2]; rfl)) rfl rfl ?_
           rintro _ _ ⟨d3,hc3,hs5,rfl⟩
           refine TL.nil ?_
           refine TQ.norm ?_
           have hfin:=halves_done hH (by omega) (by omega) (by omega) (by omega) (by omega) hc2 hs2' hc3 hs5
           exact TQ.rets [] _ rfl rfl rfl ⟨d3,hch1.trans hfin.1,hfin.2,rfl⟩
          ·refine T.skip ?_
           refine TQ.norm ?_
           rw [← Bool.not_eq_true] at ht213
           simp only [Bool.and_eq_true,decide_eq_true_eq] at ht213
           have hs5:SrtR d1 ((a+b) / 2 ^ 1) b:=half_trivial hs3 hs4 (by omega) (by omega) (by omega)
           have hc3:Ch ((a+b) / 2 ^ 1) b d1 d1:=Ch.refl
           have hfin:=halves_done hH (by omega) (by omega) (by omega) (by omega) (by omega) hc2 hs2' hc3 hs5
           exact TQ.rets [] _ rfl rfl rfl ⟨d1,hch1.trans hfin.1,hfin.2,rfl⟩
      ·refine T.skip ?_
       refine TQ.then_n ?_
       refine T.seq ?_
       refine T.seq ?_
       refine T.region ?_
       refine TL.move hF rfl rfl ?_
       refine TL.move hF rfl rfl ?_
       rw [← Bool.not_eq_true] at ht185
       simp only [Bool.and_eq_true,decide_eq_true_eq] at ht185
       have hrot:Rot d d i m (((a+b) / 2 ^ 1+m)-i):=Rot.same (by omega) (by omega) (by omega)
       have hch1:Ch a b d d:=Ch.refl
       have hH:=hhal d hrot
       have hl1:d.length=d.length:=hch1.len
       refine TL.bin hF rfl rfl rfl rfl ?_
       refine TL.move hF rfl rfl ?_
       refine TL.join [_,_,_,_] 199 (.bool (decide ((a:Int)<(i:Int)) && decide ((i:Int)<(((a+b) / 2 ^ 1:Nat):Int)))) rfl ?_ ?_
       ·refine TL.gd (t:=195) rfl (fun g41_195=>?_) (fun g41_195=>?_)
        ·refine TL.on rfl rfl rfl (decide_eq_true g41_195) ?_
         refine TL.move hF rfl rfl ?_
         refine TL.on rfl rfl rfl (decide_eq_true g41_195) ?_
         refine TL.move hF rfl rfl ?_
         refine TL.on rfl rfl rfl (decide_eq_true g41_195) ?_
         refine TL.bin hF rfl rfl rfl rfl ?_
         refine TL.pickT hF rfl (decide_eq_true g41_195) rfl rfl ?_
         refine TL.finJ ⟨?_,by repeat (first | exact trivial | refine ⟨rfl,?_⟩)⟩
         exact congrArg (fun z=>some (Value.bool z)) (by first | (rw [(decide_eq_true g41_195)]; rfl) | (rw [(decide_eq_true g41_195)]; simp; done) | (simp [*]; done))
        ·refine TL.off hF rfl rfl rfl (decide_eq_false g41_195) rfl ?_
         refine TL.off hF rfl rfl rfl (decide_eq_false g41_195) rfl ?_
         refine TL.off hF rfl rfl rfl (decide_eq_false g41_195) rfl ?_
         refine TL.pickF hF rfl (decide_eq_false g41_195) rfl rfl ?_
         refine TL.finJ ⟨?_,by repeat (first | exact trivial | refine ⟨rfl,?_⟩)⟩
         exact congrArg (fun z=>some (Value.bool z)) (by first | (rw [(decide_eq_false g41_195)]; rfl) | (rw [(decide_eq_false g41_195)]; simp; done) | (simp [*]; done))
       ·refine TL.nil ?_
        refine TQ.then_n ?_
        refine T.cond _ rfl (fun ht199=>?_) (fun ht199=>?_)
        ·refine T.region ?_
         refine TL.move hF rfl rfl ?_
         refine TL.move hF rfl rfl ?_
         refine TL.move hF rfl rfl ?_
         refine TL.move hF rfl rfl ?_
         refine TL.move hF rfl rfl ?_
         simp only [Bool.and_eq_true,decide_eq_true_eq] at ht199
         have hsr:=ih (S:=S) (w0:=w0) (η:=η) (g:=g) (d:=d) (a:=a) (m:=i) (b:=(a+b) / 2 ^ 1) rfl rfl rfl (by omega) (by omega) (hb0.ch hch1) (by omega) (by omega) (by omega) hH.s1 hH.s2
         refine TL.call hF (Rt.args hsr (by rw [hl1]; rfl)) rfl rfl ?_
         rintro _ _ ⟨d2,hc2,hs2',rfl⟩
         refine TL.nil ?_
         refine TQ.then_n ?_
         refine T.seq ?_
         refine T.region ?_
         refine TL.move hF rfl rfl ?_
         refine TL.move hF rfl rfl ?_
         have hs3:SrtR d2 ((a+b) / 2 ^ 1) (((a+b) / 2 ^ 1+m)-i):=hH.s3.same fun k p q=>hc2.tm (.inr p)
         have hs4:SrtR d2 (((a+b) / 2 ^ 1+m)-i) b:=hH.s4.same fun k p q=>hc2.tm (.inr (by omega))
         have hl2:d2.length=d.length:=hc2.len.trans hl1
         refine TL.bin hF rfl rfl rfl rfl ?_
         refine TL.move hF rfl rfl ?_
         refine TL.join [_,_,_,_] 213 (.bool (decide ((((a+b) / 2 ^ 1:Nat):Int)<((((a+b) / 2 ^ 1+m):Nat):Int)-(i:Int)) && decide (((((a+b) / 2 ^ 1+m):Nat):Int)-(i:Int)<(b:Int)))) rfl ?_ ?_
         ·refine TL.gd (t:=209) rfl (fun g43_209=>?_) (fun g43_209=>?_)
          ·refine TL.on rfl rfl rfl (decide_eq_true g43_209) ?_
           refine TL.move hF rfl rfl ?_
           refine TL.on rfl rfl rfl (decide_eq_true g43_209) ?_
           refine TL.move hF rfl rfl ?_
           refine TL.on rfl rfl rfl (decide_eq_true g43_209) ?_
           refine TL.bin hF rfl rfl rfl rfl ?_
           refine TL.pickT hF rfl (decide_eq_true g43_209) rfl rfl ?_
           refine TL.finJ ⟨?_,by repeat (first | exact trivial | refine ⟨rfl,?_⟩)⟩
           exact congrArg (fun z=>some (Value.bool z)) (by first | (rw [(decide_eq_true g43_209)]; rfl) | (rw [(decide_eq_true g43_209)]; simp; done) | (simp [*]; done))
          ·refine TL.off hF rfl rfl rfl (decide_eq_false g43_209) rfl ?_
           refine TL.off hF rfl rfl rfl (decide_eq_false g43_209) rfl ?_
           refine TL.off hF rfl rfl rfl (decide_eq_false g43_209) rfl ?_
           refine TL.pickF hF rfl (decide_eq_false g43_209) rfl rfl ?_
           refine TL.finJ ⟨?_,by repeat (first | exact trivial | refine ⟨rfl,?_⟩)⟩
           exact congrArg (fun z=>some (Value.bool z)) (by first | (rw [(decide_eq_false g43_209)]; rfl) | (rw [(decide_eq_false g43_209)]; simp; done) | (simp [*]; done))
         ·refine TL.nil ?_
          refine TQ.then_n ?_
          refine T.cond _ rfl (fun ht213=>?_) (fun ht213=>?_)
          ·refine T.region ?_
           refine TL.move hF rfl rfl ?_
           refine TL.move hF rfl rfl ?_
           refine TL.move hF rfl rfl ?_
           refine TL.move hF rfl rfl ?_
           refine TL.move hF rfl rfl ?_
           simp only [Bool.and_eq_true,decide_eq_true_eq] at ht213
           have hsr:=ih (S:=S) (w0:=w0) (η:=η) (g:=g) (d:=d2) (a:=(a+b) / 2 ^ 1) (m:=(((a+b) / 2 ^ 1+m)-i)) (b:=b) (x:=(((a+b) / 2 ^ 1:Nat):Int)) (y:=((((a+b) / 2 ^ 1+m):Nat):Int)-(i:Int)) (z:=(b:Int)) rfl (by omega) rfl (by omega) (by omega) ((hb0.ch hch1).ch hc2) (by omega) (by omega) (by omega) hs3 hs4
           refine TL.call hF (Rt.args hsr (by rw [hl2]; rfl)) rfl rfl ?_
           rintro _ _ ⟨d3,hc3,hs5,rfl⟩
           refine TL.nil ?_
           refine TQ.norm ?_
           have hfin:=halves_done hH (by omega) (by omega) (by omega) (by omega) (by omega) hc2 hs2' hc3 hs5
           exact TQ.rets [] _ rfl rfl rfl ⟨d3,hch1.trans hfin.1,hfin.2,rfl⟩
          ·refine T.skip ?_
           refine TQ.norm ?_
           rw [← Bool.not_eq_true] at ht213
           simp only [Bool.and_eq_true,decide_eq_true_eq] at ht213
           have hs5:SrtR d2 ((a+b) / 2 ^ 1) b:=half_trivial hs3 hs4 (by omega) (by omega) (by omega)
           have hc3:Ch ((a+b) / 2 ^ 1) b d2 d2:=Ch.refl
           have hfin:=halves_done hH (by omega) (by omega) (by omega) (by omega) (by omega) hc2 hs2' hc3 hs5
           exact TQ.rets [] _ rfl rfl rfl ⟨d2,hch1.trans hfin.1,hfin.2,rfl⟩
        ·refine T.skip ?_
         refine TQ.then_n ?_
         refine T.seq ?_
         refine T.region ?_
         refine TL.move hF rfl rfl ?_
         refine TL.move hF rfl rfl ?_
         rw [← Bool.not_eq_true] at ht199
         simp only [Bool.and_eq_true,decide_eq_true_eq] at ht199
         have hs2':SrtR d a ((a+b) / 2 ^ 1):=half_trivial hH.s1 hH.s2 (by omega) (by omega) (by omega)
         have hc2:Ch a ((a+b) / 2 ^ 1) d d:=Ch.refl
         have hs3:SrtR d ((a+b) / 2 ^ 1) (((a+b) / 2 ^ 1+m)-i):=hH.s3.same fun k p q=>hc2.tm (.inr p)
         have hs4:SrtR d (((a+b) / 2 ^ 1+m)-i) b:=hH.s4.same fun k p q=>hc2.tm (.inr (by omega))
         have hl2:d.length=d.length:=hc2.len.trans hl1
         refine TL.bin hF rfl rfl rfl rfl ?_
         refine TL.move hF rfl rfl ?_
         refine TL.join [_,_,_,_] 213 (.bool (decide ((((a+b) / 2 ^ 1:Nat):Int)<((((a+b) / 2 ^ 1+m):Nat):Int)-(i:Int)) && decide (((((a+b) / 2 ^ 1+m):Nat):Int)-(i:Int)<(b:Int)))) rfl ?_ ?_
         ·refine TL.gd (t:=209) rfl (fun g43_209=>?_) (fun g43_209=>?_)
          ·refine TL.on rfl rfl rfl (decide_eq_true g43_209) ?_
           refine TL.move hF rfl rfl ?_
           refine TL.on rfl rfl rfl (decide_eq_true g43_209) ?_
           refine TL.move hF rfl rfl ?_
           refine TL.on rfl rfl rfl (decide_eq_true g43_209) ?_
           refine TL.bin hF rfl rfl rfl rfl ?_
           refine TL.pickT hF rfl (decide_eq_true g43_209) rfl rfl ?_
           refine TL.finJ ⟨?_,by repeat (first | exact trivial | refine ⟨rfl,?_⟩)⟩
           exact congrArg (fun z=>some (Value.bool z)) (by first | (rw [(decide_eq_true g43_209)]; rfl) | (rw [(decide_eq_true g43_209)]; simp; done) | (simp [*]; done))
          ·refine TL.off hF rfl rfl rfl (decide_eq_false g43_209) rfl ?_
           refine TL.off hF rfl rfl rfl (decide_eq_false g43_209) rfl ?_
           refine TL.off hF rfl rfl rfl (decide_eq_false g43_209) rfl ?_
           refine TL.pickF hF rfl (decide_eq_false g43_209) rfl rfl ?_
           refine TL.finJ ⟨?_,by repeat (first | exact trivial | refine ⟨rfl,?_⟩)⟩
           exact congrArg (fun z=>some (Value.bool z)) (by first | (rw [(decide_eq_false g43_209)]; rfl) | (rw [(decide_eq_false g43_209)]; simp; done) | (simp [*]; done))
         ·refine TL.nil ?_
          refine TQ.then_n ?_
          refine T.cond _ rfl (fun ht213=>?_) (fun ht213=>?_)
          ·refine T.region ?_
           refine TL.move hF rfl rfl ?_
           refine TL.move hF rfl rfl ?_
           refine TL.move hF rfl rfl ?_
           refine TL.move hF rfl rfl ?_
           refine TL.move hF rfl rfl ?_
           simp only [Bool.and_eq_true,decide_eq_true_eq] at ht213
           have hsr:=ih (S:=S) (w0:=w0) (η:=η) (g:=g) (d:=d) (a:=(a+b) / 2 ^ 1) (m:=(((a+b) / 2 ^ 1+m)-i)) (b:=b) (x:=(((a+b) / 2 ^ 1:Nat):Int)) (y:=((((a+b) / 2 ^ 1+m):Nat):Int)-(i:Int)) (z:=(b:Int)) rfl (by omega) rfl (by omega) (by omega) ((hb0.ch hch1).ch hc2) (by omega) (by omega) (by omega) hs3 hs4
           refine TL.call hF (Rt.args hsr (by rw [hl2]; rfl)) rfl rfl ?_
           rintro _ _ ⟨d3,hc3,hs5,rfl⟩
           refine TL.nil ?_
           refine TQ.norm ?_
           have hfin:=halves_done hH (by omega) (by omega) (by omega) (by omega) (by omega) hc2 hs2' hc3 hs5
           exact TQ.rets [] _ rfl rfl rfl ⟨d3,hch1.trans hfin.1,hfin.2,rfl⟩
          ·refine T.skip ?_
           refine TQ.norm ?_
           rw [← Bool.not_eq_true] at ht213
           simp only [Bool.and_eq_true,decide_eq_true_eq] at ht213
           have hs5:SrtR d ((a+b) / 2 ^ 1) b:=half_trivial hs3 hs4 (by omega) (by omega) (by omega)
           have hc3:Ch ((a+b) / 2 ^ 1) b d d:=Ch.refl
           have hfin:=halves_done hH (by omega) (by omega) (by omega) (by omega) (by omega) hc2 hs2' hc3 hs5
           exact TQ.rets [] _ rfl rfl rfl ⟨d,hch1.trans hfin.1,hfin.2,rfl⟩
end Go.Proofs.YtbajelldegijkaaDoor
